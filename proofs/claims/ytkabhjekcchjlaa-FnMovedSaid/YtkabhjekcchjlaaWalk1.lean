/- The walk, part 1: what each function reached by the law FnMoved computes. No condition. -/
import Derived.Test.YtkabhjekcchjlaaAm3
import Derived.Test.YtkabhjekcchjlaaShelf
import Derived.Test.YtkabhjekcchjlaaProg
set_option maxRecDepth 4000
set_option maxHeartbeats 1000000
set_option linter.unusedVariables false
set_option linter.unusedSimpArgs false
set_option linter.unusedSectionVars false

namespace Go.Proofs.Ytkabhjekcchjlaa
open Go.AM
def teL : List (Option TI) := [
  none,
  none,
  some ⟨.int .i64, 1, 8, some (.int .i64 0)⟩,
  some ⟨.int .i64, 1, 8, some (.int .i64 0)⟩,
  some ⟨.bool, 1, 1, some (.bool false)⟩,
  some ⟨.int .u8, 1, 1, some (.int .u8 0)⟩,
  some ⟨.int .u8, 1, 1, some (.int .u8 0)⟩,
  some ⟨.struct [(0, 2), (1, 3), (2, 4), (3, 6)], 4, 24, some (.agg #[.int .i64 0, .int .i64 0, .bool false, .int .u8 0])⟩,
  some ⟨.struct [(0, 2), (1, 3), (2, 4), (3, 6)], 4, 24, some (.agg #[.int .i64 0, .int .i64 0, .bool false, .int .u8 0])⟩,
  some ⟨.str, 1, 16, some (.string ⟨#[]⟩)⟩,
  some ⟨.str, 1, 16, some (.string ⟨#[]⟩)⟩,
  some ⟨.str, 1, 16, some (.string ⟨#[]⟩)⟩,
  some ⟨.int .u64, 1, 8, some (.int .u64 0)⟩,
  some ⟨.struct [(0, 9), (1, 12)], 2, 24, some (.agg #[.string ⟨#[]⟩, .int .u64 0])⟩,
  some ⟨.struct [(0, 9), (1, 12)], 2, 24, some (.agg #[.string ⟨#[]⟩, .int .u64 0])⟩,
  some ⟨.ptr 126, 1, 8, some (.pointer none)⟩,
  some ⟨.ptr 129, 1, 8, some (.pointer none)⟩,
  some ⟨.ptr 137, 1, 8, some (.pointer none)⟩,
  some ⟨.struct [(0, 17)], 1, 8, some (.agg #[.pointer none])⟩,
  some ⟨.struct [(0, 17)], 1, 8, some (.agg #[.pointer none])⟩,
  none,
  some ⟨.int .i32, 1, 4, some (.int .i32 0)⟩,
  some ⟨.slice 3, 1, 24, some (.slice none 0 0)⟩,
  some ⟨.slice 76, 1, 24, some (.slice none 0 0)⟩,
  none,
  some ⟨.slice 22, 1, 24, some (.slice none 0 0)⟩,
  none,
  none,
  none,
  some ⟨.slice 72, 1, 24, some (.slice none 0 0)⟩,
  none,
  none,
  none,
  none,
  none,
  none,
  none,
  none,
  none,
  none,
  none,
  none,
  none,
  some ⟨.slice 5, 1, 24, some (.slice none 0 0)⟩,
  none,
  none,
  none,
  none,
  none,
  none,
  none,
  none,
  none,
  none,
  none,
  none,
  none,
  none,
  none,
  none,
  none,
  none,
  none,
  none,
  none,
  none,
  none,
  none,
  none,
  none,
  none,
  some ⟨.struct [(0, 3), (1, 3), (2, 3)], 3, 24, some (.agg #[.int .i64 0, .int .i64 0, .int .i64 0])⟩,
  some ⟨.struct [(0, 3), (1, 3), (2, 3)], 3, 24, some (.agg #[.int .i64 0, .int .i64 0, .int .i64 0])⟩,
  none,
  none,
  none,
  some ⟨.struct [(0, 3), (1, 3), (2, 3)], 3, 24, some (.agg #[.int .i64 0, .int .i64 0, .int .i64 0])⟩,
  none,
  none,
  none,
  none,
  none,
  some ⟨.array 21 3, 21, 168, some (.agg #[.int .i64 0, .int .i64 0, .int .i64 0, .int .i64 0, .int .i64 0, .int .i64 0, .int .i64 0, .int .i64 0, .int .i64 0, .int .i64 0, .int .i64 0, .int .i64 0, .int .i64 0, .int .i64 0, .int .i64 0, .int .i64 0, .int .i64 0, .int .i64 0, .int .i64 0, .int .i64 0, .int .i64 0])⟩,
  none,
  none,
  some ⟨.ptr 88, 1, 8, some (.pointer none)⟩,
  some ⟨.int .u64, 1, 8, some (.int .u64 0)⟩,
  some ⟨.struct [(0, 43), (1, 3), (2, 86)], 3, 40, some (.agg #[.slice none 0 0, .int .i64 0, .int .u64 0])⟩,
  some ⟨.struct [(0, 43), (1, 3), (2, 86)], 3, 40, some (.agg #[.slice none 0 0, .int .i64 0, .int .u64 0])⟩,
  none,
  none,
  none,
  none,
  none,
  none,
  none,
  none,
  none,
  none,
  none,
  none,
  none,
  some ⟨.int .u64, 1, 8, some (.int .u64 0)⟩,
  none,
  none,
  none,
  none,
  some ⟨.int .i64, 1, 8, some (.int .i64 0)⟩,
  none,
  none,
  none,
  none,
  none,
  some ⟨.int .u32, 1, 4, some (.int .u32 0)⟩,
  none,
  none,
  some ⟨.int .u64, 1, 8, some (.int .u64 0)⟩,
  none,
  none,
  none,
  some ⟨.ptr 3, 1, 8, some (.pointer none)⟩,
  none,
  some ⟨.ptr 116, 1, 8, some (.pointer none)⟩,
  none,
  none,
  some ⟨.struct [(0, 17), (1, 17), (2, 17), (3, 9)], 4, 40, some (.agg #[.pointer none, .pointer none, .pointer none, .string ⟨#[]⟩])⟩,
  some ⟨.struct [(0, 17), (1, 17), (2, 17), (3, 9)], 4, 40, some (.agg #[.pointer none, .pointer none, .pointer none, .string ⟨#[]⟩])⟩,
  some ⟨.array 0 16, 0, 0, some (.agg #[])⟩,
  some ⟨.struct [(0, 127)], 0, 0, some (.agg #[])⟩,
  some ⟨.struct [(0, 127)], 0, 0, some (.agg #[])⟩,
  some ⟨.int .u8, 1, 1, some (.int .u8 0)⟩,
  some ⟨.int .u8, 1, 1, some (.int .u8 0)⟩,
  none,
  some ⟨.ptr 5, 1, 8, some (.pointer none)⟩,
  some ⟨.int .i32, 1, 4, some (.int .i32 0)⟩,
  some ⟨.int .i32, 1, 4, some (.int .i32 0)⟩,
  some ⟨.struct [(0, 12), (1, 12), (2, 113), (3, 130), (4, 5), (5, 5), (6, 131), (7, 132), (8, 133), (9, 134), (10, 135)], 11, 48, some (.agg #[.int .u64 0, .int .u64 0, .int .u32 0, .int .u8 0, .int .u8 0, .int .u8 0, .int .u8 0, .nilFunc, .pointer none, .int .i32 0, .int .i32 0])⟩,
  some ⟨.struct [(0, 12), (1, 12), (2, 113), (3, 130), (4, 5), (5, 5), (6, 131), (7, 132), (8, 133), (9, 134), (10, 135)], 11, 48, some (.agg #[.int .u64 0, .int .u64 0, .int .u32 0, .int .u8 0, .int .u8 0, .int .u8 0, .int .u8 0, .nilFunc, .pointer none, .int .i32 0, .int .i32 0])⟩,
  none]
def te : TE := teOf teL
theorem T : TEok Try.prog te := TEok_of (by kernel_rfl)
theorem mix : Try.prog.follows .mixedOrders = true := by kernel_rfl

def encInt (x : Int) : List D := [.v (.int .i64 x)]
def encBool (x : Bool) : List D := [.v (.bool x)]
def encStr (x : ByteArray) : List D := [.v (.string x)]
def encInt_u8 (x : Int) : List D := [.v (.int .u8 x)]
def encInt_u64 (x : Int) : List D := [.v (.int .u64 x)]
def encInt_i32 (x : Int) : List D := [.v (.int .i32 x)]
def encLInt (x : List Int) : List D := [.s (x.map encInt)]
def encLIntO (x : List Int) : List D := [.w 1 (x.map encInt)]
theorem frzLInt (x : List Int) : FrzL (encLIntO x) (encLInt x) := .cons (.map fun y => .vs rfl) .nil
structure L1Cur where
  code : List Int
  at' : Int
  seed : Int
  deriving Inhabited, DecidableEq
def encL1Cur (x : L1Cur) : List D := [.s (x.code.map encInt_u8), .v (.int .i64 x.at'), .v (.int .u64 x.seed)]
def encL1CurO (x : L1Cur) : List D := [.w 1 (x.code.map encInt_u8), .v (.int .i64 x.at'), .v (.int .u64 x.seed)]
theorem frzL1Cur (x : L1Cur) : FrzL (encL1CurO x) (encL1Cur x) := .cons (.map fun y => .vs rfl) (.cons (.vs rfl) (.cons (.vs rfl) (.nil)))

def laws_big_p (code : List Int) (more : List Int) : Option Bool :=
  some (decide ((code.length : Int) > 1048576) || decide ((more.length : Int) > (w64 (1048576 - (code.length : Int)))))
theorem laws_big_ok (code : List Int) (more : List Int) (r : Bool) (hH : laws_big_p code more = some r) : SpecR Try.prog 25 [.s (List.map encInt_u8 code), .s (List.map encInt_u8 more)] (.v (.bool r)) := by
 refine fn_ok T Try.func25 rfl (by decide) rfl ?_
 refine AW.seq (AW.region ?_)
 refine AO.pu T ?_
 refine AO.nil (AW.seq ?_)
 refine AW.region ?_
 refine AO.pu T ?_
 refine AO.val rfl rfl (len_map_ok T rfl rfl rfl) ?_
 iterate 2 refine AO.pu T ?_
 refine AO.pureG T [] rfl trivial rfl rfl ?_
 refine AO.guard [9] rfl ⟨fun h => h, trivial⟩ (fun hg => len_map_ok T rfl rfl rfl) rfl ?_
 refine AO.pureG T [] rfl trivial rfl rfl ?_
 refine AO.guard [11] rfl ⟨fun h => h, trivial⟩ (fun hg => len_map_ok T rfl rfl rfl) rfl ?_
 refine AO.guard [12] rfl ⟨fun h => h, trivial⟩ (fun hg => arw_ok rfl rfl rfl rfl) rfl ?_
 refine AO.pureG T [10, 13] rfl ⟨fun h => h, fun h => h, trivial⟩ rfl rfl ?_
 refine AO.val rfl rfl (pick_or rfl rfl rfl rfl) ?_
 refine AO.pu T ?_
 refine AO.nil (AW.ret ?_)
 cases someE hH
 exact retQ.i [] rfl (.c (.c .v))

def spec_l1Cur_next_p (c : L1Cur) : Option (L1Cur × Int) :=
  cond (decide (c.at' < (c.code.length : Int)))
    ((getI c.code c.at').bind fun x1 =>
    cond (decide ((w64 (c.at' + 1)) ≤ (c.code.length : Int)))
      (some ((L1Cur.mk c.code (w64 (c.at' + 1)) (IntKind.wrap .u64 ((IntKind.wrap .u64 ((IntKind.wrap .u64 (c.seed * 6364136223846793005)) + (IntKind.wrap .u64 (IntKind.wrap .i64 x1)))) + 1442695040888963407))), IntKind.wrap .i64 x1))
      (some ((L1Cur.mk c.code (w64 (c.at' + 1)) (IntKind.wrap .u64 ((IntKind.wrap .u64 ((IntKind.wrap .u64 (c.seed * 6364136223846793005)) + (IntKind.wrap .u64 (IntKind.wrap .i64 x1)))) + 1442695040888963407))), IntKind.wrap .i64 (IntKind.wrap .u64 ((BitVec.ofInt 64 ((IntKind.wrap .u64 ((IntKind.wrap .u64 ((IntKind.wrap .u64 (c.seed * 6364136223846793005)) + (IntKind.wrap .u64 (IntKind.wrap .i64 x1)))) + 1442695040888963407)).fdiv (2 ^ 40)) &&& BitVec.ofInt 64 255).toNat : Int)))))
    (cond (decide ((w64 (c.at' + 1)) ≤ (c.code.length : Int)))
      (some ((L1Cur.mk c.code (w64 (c.at' + 1)) (IntKind.wrap .u64 ((IntKind.wrap .u64 ((IntKind.wrap .u64 (c.seed * 6364136223846793005)) + (IntKind.wrap .u64 0))) + 1442695040888963407))), 0))
      (some ((L1Cur.mk c.code (w64 (c.at' + 1)) (IntKind.wrap .u64 ((IntKind.wrap .u64 ((IntKind.wrap .u64 (c.seed * 6364136223846793005)) + (IntKind.wrap .u64 0))) + 1442695040888963407))), IntKind.wrap .i64 (IntKind.wrap .u64 ((BitVec.ofInt 64 ((IntKind.wrap .u64 ((IntKind.wrap .u64 ((IntKind.wrap .u64 (c.seed * 6364136223846793005)) + (IntKind.wrap .u64 0))) + 1442695040888963407)).fdiv (2 ^ 40)) &&& BitVec.ofInt 64 255).toNat : Int)))))
theorem spec_l1Cur_next_ok (c : L1Cur) (r : (L1Cur × Int)) (hH : spec_l1Cur_next_p c = some r) : SpecM Try.prog 132 [.pw (encL1Cur c)] [.pw (encL1Cur r.1)] (.v (.int .i64 r.2)) := by
 refine fn_okM T Try.func132 rfl (by decide) rfl rfl ?_
 intro L
 show AW _ _ _ (⟨[(0, .p 1 0)], [(1, .box [.s (List.map encInt_u8 c.code), c.at', .v (.int .u64 c.seed)])], 62, [(1, L 1)]⟩ : St)
 refine AW.seq (AW.region ?_)
 refine AO.pu T ?_
 refine AO.nil (AW.seq ?_)
 refine AW.region ?_
 refine AO.pu T ?_
 refine AO.nil ?_
 iterate 2 refine AW.seq ?_
 refine AW.drawn 9 2 [] mix (by kernel_rfl) rfl ?_
 iterate 8 refine AD.pure T rfl rfl rfl ?_
 refine AD.val rfl rfl (len_map_ok T rfl rfl rfl) ?_
 refine AD.nil ?_
 refine AO.pu T ?_
 refine AO.nil ?_
 refine AW.cond (b := decide (c.at' < (c.code.length : Int))) rfl (fun hc => ?_) (fun hc => ?_)
 replace hH := condT hc hH
 obtain ⟨x1, hx2, hH⟩ := bindE hH
 refine AW.drawn 8 2 [] mix (by kernel_rfl) rfl ?_
 iterate 8 refine AD.pure T rfl rfl rfl ?_
 refine AD.nil ?_
 refine AO.val rfl rfl (ix_map_ok T rfl rfl rfl rfl rfl (hx2) rfl) ?_
 refine AO.pu T ?_
 refine AO.val rfl rfl (convw_ok T rfl rfl rfl rfl) ?_
 refine AO.pu T ?_
 refine AO.nil ?_
 refine AW.le (Le.ct 0 0 (σ' := (⟨[(0, .p 1 0), (3, (IntKind.wrap .i64 x1 : Int))], [(1, .box [.s (List.map encInt_u8 c.code), c.at', .v (.int .u64 c.seed)])], 62, [(1, L 1)]⟩ : St)) (hpin := ⟨⟨rfl, rfl⟩, trivial⟩)) ?_
 refine AW.seq (AW.region ?_)
 iterate 4 refine AO.pu T ?_
 refine AO.val rfl rfl (arw_ok rfl rfl rfl rfl) ?_
 iterate 2 refine AO.pu T ?_
 refine AO.se T [.s (List.map encInt_u8 c.code), w64 (c.at' + 1), .v (.int .u64 c.seed)] ?_
 refine AO.nil (AW.seq ?_)
 refine AW.region ?_
 iterate 5 refine AO.pu T ?_
 refine AO.val rfl rfl (arw_ok rfl rfl rfl rfl) ?_
 refine AO.pu T ?_
 refine AO.val rfl rfl (convw_ok T rfl rfl rfl rfl) ?_
 iterate 2 refine AO.val rfl rfl (arw_ok rfl rfl rfl rfl) ?_
 iterate 2 refine AO.pu T ?_
 refine AO.se T [.s (List.map encInt_u8 c.code), w64 (c.at' + 1), .v (.int .u64 (IntKind.wrap .u64 ((IntKind.wrap .u64 ((IntKind.wrap .u64 (c.seed * 6364136223846793005)) + (IntKind.wrap .u64 (IntKind.wrap .i64 x1)))) + 1442695040888963407)))] ?_
 refine AO.nil ?_
 iterate 2 refine AW.seq ?_
 refine AW.drawn 9 2 [] mix (by kernel_rfl) rfl ?_
 iterate 8 refine AD.pure T rfl rfl rfl ?_
 refine AD.val rfl rfl (len_map_ok T rfl rfl rfl) ?_
 refine AD.nil ?_
 refine AO.pu T ?_
 refine AO.nil ?_
 refine AW.le (Le.ct 0 0 (σ' := (⟨[(0, .p 1 0), (3, (IntKind.wrap .i64 x1 : Int)), (53, .v (.bool (decide ((w64 (c.at' + 1)) ≤ (c.code.length : Int)))))], [(1, .box [.s (List.map encInt_u8 c.code), w64 (c.at' + 1), .v (.int .u64 (IntKind.wrap .u64 ((IntKind.wrap .u64 ((IntKind.wrap .u64 (c.seed * 6364136223846793005)) + (IntKind.wrap .u64 (IntKind.wrap .i64 x1)))) + 1442695040888963407)))])], 62, [(1, L 1)]⟩ : St)) (hpin := ⟨⟨rfl, rfl⟩, trivial⟩)) ?_
 refine AW.cond (b := decide ((w64 (c.at' + 1)) ≤ (c.code.length : Int))) rfl (fun hc => ?_) (fun hc => ?_)
 replace hH := condT hc hH
 refine AW.seq (AW.region ?_)
 iterate 2 refine AO.pu T ?_
 refine AO.nil (AW.ret ?_)
 cases someE hH
 exact ⟨trivial, rfl, _, [], [1], rfl, expLG_cons (.c (.box rfl rfl)) (expLG_nil), .c (.c .v), by decide⟩
 replace hH := condF hc hH
 refine AW.skip ?_
 refine AW.seq (AW.region ?_)
 iterate 4 refine AO.pu T ?_
 refine AO.val rfl rfl (shr_ok rfl rfl rfl rfl rfl) ?_
 refine AO.val rfl rfl (and_ok rfl rfl rfl) ?_
 refine AO.val rfl rfl (convw_ok T rfl rfl rfl rfl) ?_
 refine AO.pu T ?_
 refine AO.nil (AW.ret ?_)
 cases someE hH
 exact ⟨trivial, rfl, _, [], [1], rfl, expLG_cons (.c (.box rfl rfl)) (expLG_nil), .c (.c .v), by decide⟩
 replace hH := condF hc hH
 refine AW.skip ?_
 refine AW.seq (AW.region ?_)
 iterate 4 refine AO.pu T ?_
 refine AO.val rfl rfl (arw_ok rfl rfl rfl rfl) ?_
 iterate 2 refine AO.pu T ?_
 refine AO.se T [.s (List.map encInt_u8 c.code), w64 (c.at' + 1), .v (.int .u64 c.seed)] ?_
 refine AO.nil (AW.seq ?_)
 refine AW.region ?_
 iterate 5 refine AO.pu T ?_
 refine AO.val rfl rfl (arw_ok rfl rfl rfl rfl) ?_
 refine AO.pu T ?_
 refine AO.val rfl rfl (convw_ok T rfl rfl rfl rfl) ?_
 iterate 2 refine AO.val rfl rfl (arw_ok rfl rfl rfl rfl) ?_
 iterate 2 refine AO.pu T ?_
 refine AO.se T [.s (List.map encInt_u8 c.code), w64 (c.at' + 1), .v (.int .u64 (IntKind.wrap .u64 ((IntKind.wrap .u64 ((IntKind.wrap .u64 (c.seed * 6364136223846793005)) + (IntKind.wrap .u64 0))) + 1442695040888963407)))] ?_
 refine AO.nil ?_
 refine AW.le (Le.ct 0 0 (σ' := (⟨[(0, .p 1 0), (3, (0 : Int))], [(1, .box [.s (List.map encInt_u8 c.code), w64 (c.at' + 1), .v (.int .u64 (IntKind.wrap .u64 ((IntKind.wrap .u64 ((IntKind.wrap .u64 (c.seed * 6364136223846793005)) + (IntKind.wrap .u64 0))) + 1442695040888963407)))])], 62, [(1, L 1)]⟩ : St)) (hpin := ⟨⟨rfl, rfl⟩, trivial⟩)) ?_
 iterate 2 refine AW.seq ?_
 refine AW.drawn 9 2 [] mix (by kernel_rfl) rfl ?_
 iterate 8 refine AD.pure T rfl rfl rfl ?_
 refine AD.val rfl rfl (len_map_ok T rfl rfl rfl) ?_
 refine AD.nil ?_
 refine AO.pu T ?_
 refine AO.nil ?_
 refine AW.cond (b := decide ((w64 (c.at' + 1)) ≤ (c.code.length : Int))) rfl (fun hc => ?_) (fun hc => ?_)
 replace hH := condT hc hH
 refine AW.seq (AW.region ?_)
 iterate 2 refine AO.pu T ?_
 refine AO.nil (AW.ret ?_)
 cases someE hH
 exact ⟨trivial, rfl, _, [], [1], rfl, expLG_cons (.c (.box rfl rfl)) (expLG_nil), .c (.c .v), by decide⟩
 replace hH := condF hc hH
 refine AW.skip ?_
 refine AW.seq (AW.region ?_)
 iterate 4 refine AO.pu T ?_
 refine AO.val rfl rfl (shr_ok rfl rfl rfl rfl rfl) ?_
 refine AO.val rfl rfl (and_ok rfl rfl rfl) ?_
 refine AO.val rfl rfl (convw_ok T rfl rfl rfl rfl) ?_
 refine AO.pu T ?_
 refine AO.nil (AW.ret ?_)
 cases someE hH
 exact ⟨trivial, rfl, _, [], [1], rfl, expLG_cons (.c (.box rfl rfl)) (expLG_nil), .c (.c .v), by decide⟩

def spec_l1Cur_pick_p (c : L1Cur) (n : Int) : Option (L1Cur × Int) :=
  cond (decide (n ≤ 1))
    (some (c, 0))
    ((spec_l1Cur_next_p c).bind fun x1 =>
    cond (decide (n > 200))
      ((spec_l1Cur_next_p (L1Cur.mk x1.1.code x1.1.at' x1.1.seed)).bind fun x3 =>
      (need (n != 0)).bind fun u5 =>
      some ((L1Cur.mk x3.1.code x3.1.at' x3.1.seed), ((w64 ((w64 (x1.2 * 256)) + x3.2)).tmod n)))
      ((need (n != 0)).bind fun u7 =>
      some ((L1Cur.mk x1.1.code x1.1.at' x1.1.seed), (x1.2.tmod n))))
theorem spec_l1Cur_pick_ok (c : L1Cur) (n : Int) (r : (L1Cur × Int)) (hH : spec_l1Cur_pick_p c n = some r) : SpecM Try.prog 105 [.pw (encL1Cur c), n] [.pw (encL1Cur r.1), .u] (.v (.int .i64 r.2)) := by
 refine fn_okM T Try.func105 rfl (by decide) rfl rfl ?_
 intro L
 show AW _ _ _ (⟨[(0, .p 1 0), (1, n)], [(1, .box [.s (List.map encInt_u8 c.code), c.at', .v (.int .u64 c.seed)])], 20, [(1, L 1)]⟩ : St)
 refine AW.seq (AW.region ?_)
 refine AO.pu T ?_
 refine AO.nil ?_
 iterate 2 refine AW.seq ?_
 refine AW.region ?_
 iterate 2 refine AO.pu T ?_
 refine AO.nil ?_
 refine AW.cond (b := decide (n ≤ 1)) rfl (fun hc => ?_) (fun hc => ?_)
 replace hH := condT hc hH
 refine AW.seq (AW.region ?_)
 refine AO.pu T ?_
 refine AO.nil (AW.ret ?_)
 cases someE hH
 exact ⟨trivial, rfl, _, [], [1], rfl, expLG_cons (.c (.box rfl rfl)) (expLG_cons (.c .u) (expLG_nil)), .c (.c .v), by decide⟩
 replace hH := condF hc hH
 refine AW.skip ?_
 refine AW.seq ?_
 obtain ⟨x1, hx2, hH⟩ := bindE hH
 refine AW.region ?_
 refine AO.pu T ?_
 refine AO.step rfl (callM_ok rfl 2 rfl rfl (es := [.pw (encL1Cur c)]) (outs := [.pw (encL1Cur x1.1)]) (ids := [1]) (by exact expLG_cons (.c (.box rfl rfl)) (expLG_nil)) (by decide) (.inl (by rfl)) (by rfl) (spec_l1Cur_next_ok _ _ (hx2)) rfl (by rfl) rfl) ?_
 refine AO.pu T ?_
 refine AO.nil ?_
 iterate 2 refine AW.seq ?_
 refine AW.region ?_
 iterate 2 refine AO.pu T ?_
 refine AO.nil ?_
 refine AW.cond (b := decide (n > 200)) rfl (fun hc => ?_) (fun hc => ?_)
 replace hH := condT hc hH
 obtain ⟨x3, hx4, hH⟩ := bindE hH
 refine AW.region ?_
 refine AO.pu T ?_
 refine AO.val rfl rfl (arw_ok rfl rfl rfl rfl) ?_
 refine AO.pu T ?_
 refine AO.step rfl (callM_ok rfl 2 rfl rfl (es := [.pw (encL1Cur (L1Cur.mk x1.1.code x1.1.at' x1.1.seed))]) (outs := [.pw (encL1Cur x3.1)]) (ids := [1]) (by exact expLG_cons (.c (.box rfl rfl)) (expLG_nil)) (by decide) (.inl (by rfl)) (by rfl) (spec_l1Cur_next_ok _ _ (hx4)) rfl (by rfl) rfl) ?_
 refine AO.val rfl rfl (arw_ok rfl rfl rfl rfl) ?_
 refine AO.pu T ?_
 refine AO.nil (AW.seq ?_)
 obtain ⟨u5, hx6, hH⟩ := bindE hH
 refine AW.region ?_
 iterate 2 refine AO.pu T ?_
 refine AO.val rfl rfl (rem_ok rfl rfl rfl (neZ (needT (hx6)))) ?_
 refine AO.pu T ?_
 refine AO.nil (AW.ret ?_)
 cases someE hH
 exact ⟨trivial, rfl, _, [], [1], rfl, expLG_cons (.c (.box rfl rfl)) (expLG_cons (.c .u) (expLG_nil)), .c (.c .v), by decide⟩
 replace hH := condF hc hH
 refine AW.skip ?_
 refine AW.seq ?_
 obtain ⟨u7, hx8, hH⟩ := bindE hH
 refine AW.region ?_
 iterate 2 refine AO.pu T ?_
 refine AO.val rfl rfl (rem_ok rfl rfl rfl (neZ (needT (hx8)))) ?_
 refine AO.pu T ?_
 refine AO.nil (AW.ret ?_)
 cases someE hH
 exact ⟨trivial, rfl, _, [], [1], rfl, expLG_cons (.c (.box rfl rfl)) (expLG_cons (.c .u) (expLG_nil)), .c (.c .v), by decide⟩

def spec_l1Cur_one_p (c : L1Cur) (n : Int) : Option (L1Cur × Bool) :=
  (spec_l1Cur_pick_p c n).bind fun x1 =>
  some ((L1Cur.mk x1.1.code x1.1.at' x1.1.seed), (x1.2 == 0))
theorem spec_l1Cur_one_ok (c : L1Cur) (n : Int) (r : (L1Cur × Bool)) (hH : spec_l1Cur_one_p c n = some r) : SpecM Try.prog 127 [.pw (encL1Cur c), n] [.pw (encL1Cur r.1), .u] (.v (.bool r.2)) := by
 refine fn_okM T Try.func127 rfl (by decide) rfl rfl ?_
 intro L
 show AW _ _ _ (⟨[(0, .p 1 0), (1, n)], [(1, .box [.s (List.map encInt_u8 c.code), c.at', .v (.int .u64 c.seed)])], 9, [(1, L 1)]⟩ : St)
 refine AW.seq (AW.region ?_)
 refine AO.pu T ?_
 refine AO.nil (AW.seq ?_)
 obtain ⟨x1, hx2, hH⟩ := bindE hH
 refine AW.region ?_
 iterate 2 refine AO.pu T ?_
 refine AO.step rfl (callM_ok rfl 2 rfl rfl (es := [.pw (encL1Cur c), .v (.int .i64 n)]) (outs := [.pw (encL1Cur x1.1), .u]) (ids := [1]) (by exact expLG_cons (.c (.box rfl rfl)) (expLG_cons (.c .v) (expLG_nil))) (by decide) (.inl (by rfl)) (by rfl) (spec_l1Cur_pick_ok _ _ _ (hx2)) rfl (by rfl) rfl) ?_
 iterate 2 refine AO.pu T ?_
 refine AO.nil (AW.ret ?_)
 cases someE hH
 exact ⟨trivial, rfl, _, [], [1], rfl, expLG_cons (.c (.box rfl rfl)) (expLG_cons (.c .u) (expLG_nil)), .c (.c .v), by decide⟩

def spec_l1Cur_among_p (c : L1Cur) (list : List Int) : Option (L1Cur × Int) :=
  (spec_l1Cur_pick_p c (list.length : Int)).bind fun x1 =>
  (getI list x1.2).bind fun x3 =>
  some ((L1Cur.mk x1.1.code x1.1.at' x1.1.seed), x3)
theorem spec_l1Cur_among_ok (c : L1Cur) (list : List Int) (r : (L1Cur × Int)) (hH : spec_l1Cur_among_p c list = some r) : SpecM Try.prog 85 [.pw (encL1Cur c), .s (List.map encInt list)] [.pw (encL1Cur r.1), .u] (.v (.int .i64 r.2)) := by
 refine fn_okM T Try.func85 rfl (by decide) rfl rfl ?_
 intro L
 show AW _ _ _ (⟨[(0, .p 1 0), (1, .s (List.map encInt list))], [(1, .box [.s (List.map encInt_u8 c.code), c.at', .v (.int .u64 c.seed)])], 12, [(1, L 1)]⟩ : St)
 refine AW.seq (AW.region ?_)
 refine AO.pu T ?_
 refine AO.nil (AW.seq ?_)
 obtain ⟨x1, hx2, hH⟩ := bindE hH
 obtain ⟨x3, hx4, hH⟩ := bindE hH
 refine AW.region ?_
 iterate 3 refine AO.pu T ?_
 refine AO.val rfl rfl (len_map_ok T rfl rfl rfl) ?_
 refine AO.step rfl (callM_ok rfl 2 rfl rfl (es := [.pw (encL1Cur c), .v (.int .i64 (list.length : Int))]) (outs := [.pw (encL1Cur x1.1), .u]) (ids := [1]) (by exact expLG_cons (.c (.box rfl rfl)) (expLG_cons (.c .v) (expLG_nil))) (by decide) (.inl (by rfl)) (by rfl) (spec_l1Cur_pick_ok _ _ _ (hx2)) rfl (by rfl) rfl) ?_
 refine AO.val rfl rfl (ix_map_ok T rfl rfl rfl rfl rfl (hx4) rfl) ?_
 iterate 2 refine AO.pu T ?_
 refine AO.nil (AW.ret ?_)
 cases someE hH
 exact ⟨trivial, rfl, _, [], [1], rfl, expLG_cons (.c (.box rfl rfl)) (expLG_cons (.c .u) (expLG_nil)), .c (.c .v), by decide⟩

def spec_l1Cur_marksOf_l1 (x3 : (L1Cur × Bool)) : Nat → List Int → Int → Int → List Int → Int → Option ((List Int) × Int × Int × (List Int))
  | 0, _, _, _, _, _ => none
  | k46 + 1, v68, v69, v70, v71, v72 =>
    cond (decide (v72 > 0))
      (cond x3.2
        ((spec_l1Cur_pick_p (L1Cur.mk v68 v69 v70) 41).bind fun x74 =>
        (need (fitsB 8 (v71.length + ([w64 (25 * x74.2)]).length))).bind fun u76 =>
        spec_l1Cur_marksOf_l1 x3 k46 x74.1.code x74.1.at' x74.1.seed (v71 ++ [w64 (25 * x74.2)]) (w64 (v72 - 1)))
        ((spec_l1Cur_pick_p (L1Cur.mk v68 v69 v70) 11).bind fun x78 =>
        (need (fitsB 8 (v71.length + ([w64 (x78.2 - 5)]).length))).bind fun u80 =>
        spec_l1Cur_marksOf_l1 x3 k46 x78.1.code x78.1.at' x78.1.seed (v71 ++ [w64 (x78.2 - 5)]) (w64 (v72 - 1))))
      (some (v68, v69, v70, v71))
def spec_l1Cur_marksOf_l2 (x88 : (L1Cur × Int)) : Nat → List Int → Int → Int → List Int → Option ((L1Cur × (List Int)))
  | 0, _, _, _, _ => none
  | k90 + 1, v103, v104, v105, v106 =>
    cond (decide ((v106.length : Int) < (w64 (9 + x88.2))))
      ((spec_l1Cur_pick_p (L1Cur.mk v103 v104 v105) 9).bind fun x108 =>
      (need (fitsB 8 (v106.length + ([x108.2]).length))).bind fun u110 =>
      spec_l1Cur_marksOf_l2 x88 k90 x108.1.code x108.1.at' x108.1.seed (v106 ++ [x108.2]))
      (some ((L1Cur.mk v103 v104 v105), v106))
def spec_l1Cur_marksOf_p (fuel : Nat) (c : L1Cur) : Option (L1Cur × (List Int)) :=
  (spec_l1Cur_pick_p c 9).bind fun x1 =>
  (spec_l1Cur_one_p (L1Cur.mk x1.1.code x1.1.at' x1.1.seed) 3).bind fun x3 =>
  (spec_l1Cur_marksOf_l1 x3 fuel x3.1.code x3.1.at' x3.1.seed [] (w64 (1 + x1.2))).bind fun (v40, v41, v42, v43) =>
  (spec_l1Cur_pick_p (L1Cur.mk v40 v41 v42) 24).bind fun x82 =>
  cond (x82.2 == 0)
    ((spec_l1Cur_among_p (L1Cur.mk x82.1.code x82.1.at' x82.1.seed) [(-1000), 1000, 1001, (-1001)]).bind fun x84 =>
    (getI v43 0).bind fun x86 =>
    some ((L1Cur.mk x84.1.code x84.1.at' x84.1.seed), (v43.set ((0 : Int).toNat) x84.2)))
    (cond (x82.2 == 1)
      ((spec_l1Cur_pick_p (L1Cur.mk x82.1.code x82.1.at' x82.1.seed) 2).bind fun x88 =>
      spec_l1Cur_marksOf_l2 x88 fuel x88.1.code x88.1.at' x88.1.seed v43)
      (cond (x82.2 == 2)
        (some ((L1Cur.mk x82.1.code x82.1.at' x82.1.seed), []))
        (some ((L1Cur.mk x82.1.code x82.1.at' x82.1.seed), v43))))
theorem spec_l1Cur_marksOf_ok (fuel : Nat) (c : L1Cur) (r : (L1Cur × (List Int))) (hH : spec_l1Cur_marksOf_p fuel c = some r) : SpecM Try.prog 84 [.pw (encL1Cur c)] [.pw (encL1Cur r.1)] (.w 1 (r.2.map encInt)) := by
 refine fn_okM T Try.func84 rfl (by decide) rfl rfl ?_
 intro L
 show AW _ _ _ (⟨[(0, .p 1 0)], [(1, .box [.s (List.map encInt_u8 c.code), c.at', .v (.int .u64 c.seed)])], 55, [(1, L 1)]⟩ : St)
 refine AW.seq (AW.region ?_)
 refine AO.pu T ?_
 refine AO.nil (AW.seq ?_)
 refine AW.region ?_
 refine AO.pu T ?_
 refine AO.nil (AW.seq ?_)
 obtain ⟨x1, hx2, hH⟩ := bindE hH
 refine AW.region ?_
 refine AO.pu T ?_
 refine AO.step rfl (callM_ok rfl 2 rfl rfl (es := [.pw (encL1Cur c), .v (.int .i64 9)]) (outs := [.pw (encL1Cur x1.1), .u]) (ids := [1]) (by exact expLG_cons (.c (.box rfl rfl)) (expLG_cons (.c .v) (expLG_nil))) (by decide) (.inl (by rfl)) (by rfl) (spec_l1Cur_pick_ok _ _ _ (hx2)) rfl (by rfl) rfl) ?_
 refine AO.val rfl rfl (arw_ok rfl rfl rfl rfl) ?_
 refine AO.pu T ?_
 refine AO.nil (AW.seq ?_)
 obtain ⟨x3, hx4, hH⟩ := bindE hH
 refine AW.region ?_
 refine AO.pu T ?_
 refine AO.step rfl (callM_ok rfl 2 rfl rfl (es := [.pw (encL1Cur (L1Cur.mk x1.1.code x1.1.at' x1.1.seed)), .v (.int .i64 3)]) (outs := [.pw (encL1Cur x3.1), .u]) (ids := [1]) (by exact expLG_cons (.c (.box rfl rfl)) (expLG_cons (.c .v) (expLG_nil))) (by decide) (.inl (by rfl)) (by rfl) (spec_l1Cur_one_ok _ _ _ (hx4)) rfl (by rfl) rfl) ?_
 refine AO.pu T ?_
 refine AO.nil ?_
 obtain ⟨o44, hH, hK45⟩ := bindE hH
 refine AW.seqJ (fun s : (List Int) × Int × Int × (List Int) => (⟨[(0, .p 1 0), (3, .R 7)], [(1, .box [.s (List.map encInt_u8 s.1), s.2.1, .v (.int .u64 s.2.2.1)]), (7, .row 1 (List.map encInt s.2.2.2))], 55, [(1, L 1)]⟩ : St)) (fun s => s = o44) ?_ ?_
 refine AW.block ?_
 refine AW.loopS (fun s : Nat × (List Int) × Int × Int × (List Int) × Int => (⟨[(0, .p 1 0), (3, .R 19), (4, s.2.2.2.2.2), (5, .v (.bool x3.2))], [(1, .box [.s (List.map encInt_u8 s.2.1), s.2.2.1, .v (.int .u64 s.2.2.2.1)]), (19, .row 1 (List.map encInt s.2.2.2.2.1))], 55, [(1, L 1)]⟩ : St)) (fun s => spec_l1Cur_marksOf_l1 x3 s.1 s.2.1 s.2.2.1 s.2.2.2.1 s.2.2.2.2.1 s.2.2.2.2.2 = some o44) (fun s => s.1) (fuel, x3.1.code, x3.1.at', x3.1.seed, [], w64 (1 + x1.2)) hH ?_ ?_
 refine Le.trans (Le.void 3 19 1 rfl rfl) ?_
 exact Le.ct 0 0 (hpin := ⟨⟨rfl, rfl⟩, trivial⟩)
 rintro ⟨k46, v68, v69, v70, v71, v72⟩ hH
 replace hH : spec_l1Cur_marksOf_l1 x3 k46 v68 v69 v70 v71 v72 = some o44 := hH
 try dsimp only
 rcases k46 with _ | k46
 cases (show none = some _ from hH)
 rw [spec_l1Cur_marksOf_l1] at hH
 iterate 2 refine AW.seq ?_
 refine AW.region ?_
 iterate 2 refine AO.pu T ?_
 refine AO.nil ?_
 refine AW.cond (b := decide (v72 > 0)) rfl (fun hc => ?_) (fun hc => ?_)
 replace hH := condT hc hH
 refine AW.skip ?_
 refine AW.seq ?_
 refine AW.block ?_
 refine AW.seq (AW.region ?_)
 refine AO.pu T ?_
 refine AO.nil ?_
 refine AW.cond (b := x3.2) rfl (fun hc => ?_) (fun hc => ?_)
 replace hH := condT hc hH
 obtain ⟨x74, hx75, hH⟩ := bindE hH
 obtain ⟨u76, hx77, hH⟩ := bindE hH
 refine AW.region ?_
 iterate 2 refine AO.pu T ?_
 refine AO.step rfl (callM_ok rfl 22 rfl rfl (es := [.pw (encL1Cur (L1Cur.mk v68 v69 v70)), .v (.int .i64 41)]) (outs := [.pw (encL1Cur x74.1), .u]) (ids := [1]) (by exact expLG_cons (.c (.box rfl rfl)) (expLG_cons (.c .v) (expLG_nil))) (by decide) (.inl (by rfl)) (by rfl) (spec_l1Cur_pick_ok _ _ _ (hx75)) rfl (by rfl) rfl) ?_
 refine AO.val rfl rfl (arw_ok rfl rfl rfl rfl) ?_
 refine AO.step rfl (mk_map_ok T rfl 22 rfl rfl rfl rfl rfl (f := encInt) (l := [w64 (25 * x74.2)]) rfl rfl (fun _ => rfl) rfl rfl rfl rfl rfl) ?_
 refine AO.step rfl (app_rv_map T rfl 23 rfl rfl rfl rfl rfl (by decide) rfl rfl rfl rfl (fun _ => rfl) (needT (hx77)) rfl rfl) ?_
 refine AO.pu T ?_
 refine AO.nil ?_
 refine AW.region ?_
 refine AO.pu T ?_
 refine AO.val rfl rfl (arw_ok rfl rfl rfl rfl) ?_
 refine AO.pu T ?_
 refine AO.nil ?_
 refine ⟨(k46, x74.1.code, x74.1.at', x74.1.seed, (v71 ++ [w64 (25 * x74.2)]), w64 (v72 - 1)), hH, Nat.lt_succ_self _, ?_⟩
 exact Le.ct 23 19 (hpin := ⟨⟨rfl, rfl⟩, trivial⟩)
 replace hH := condF hc hH
 obtain ⟨x78, hx79, hH⟩ := bindE hH
 obtain ⟨u80, hx81, hH⟩ := bindE hH
 refine AW.region ?_
 iterate 2 refine AO.pu T ?_
 refine AO.step rfl (callM_ok rfl 24 rfl rfl (es := [.pw (encL1Cur (L1Cur.mk v68 v69 v70)), .v (.int .i64 11)]) (outs := [.pw (encL1Cur x78.1), .u]) (ids := [1]) (by exact expLG_cons (.c (.box rfl rfl)) (expLG_cons (.c .v) (expLG_nil))) (by decide) (.inl (by rfl)) (by rfl) (spec_l1Cur_pick_ok _ _ _ (hx79)) rfl (by rfl) rfl) ?_
 refine AO.val rfl rfl (arw_ok rfl rfl rfl rfl) ?_
 refine AO.step rfl (mk_map_ok T rfl 24 rfl rfl rfl rfl rfl (f := encInt) (l := [w64 (x78.2 - 5)]) rfl rfl (fun _ => rfl) rfl rfl rfl rfl rfl) ?_
 refine AO.step rfl (app_rv_map T rfl 25 rfl rfl rfl rfl rfl (by decide) rfl rfl rfl rfl (fun _ => rfl) (needT (hx81)) rfl rfl) ?_
 refine AO.pu T ?_
 refine AO.nil ?_
 refine AW.region ?_
 refine AO.pu T ?_
 refine AO.val rfl rfl (arw_ok rfl rfl rfl rfl) ?_
 refine AO.pu T ?_
 refine AO.nil ?_
 refine ⟨(k46, x78.1.code, x78.1.at', x78.1.seed, (v71 ++ [w64 (x78.2 - 5)]), w64 (v72 - 1)), hH, Nat.lt_succ_self _, ?_⟩
 exact Le.ct 25 19 (hpin := ⟨⟨rfl, rfl⟩, trivial⟩)
 replace hH := condF hc hH
 refine AW.exit ?_
 refine ⟨_, someE hH, ?_⟩
 exact Le.ct 19 7 (hpin := ⟨⟨rfl, rfl⟩, trivial⟩)
 rintro ⟨v40, v41, v42, v43⟩ hs
 subst hs
 replace hH := hK45
 try dsimp only [flow, flowE] at hH
 try dsimp only
 iterate 2 refine AW.seq ?_
 obtain ⟨x82, hx83, hH⟩ := bindE hH
 refine AW.region ?_
 refine AO.pu T ?_
 refine AO.step rfl (callM_ok rfl 26 rfl rfl (es := [.pw (encL1Cur (L1Cur.mk v40 v41 v42)), .v (.int .i64 24)]) (outs := [.pw (encL1Cur x82.1), .u]) (ids := [1]) (by exact expLG_cons (.c (.box rfl rfl)) (expLG_cons (.c .v) (expLG_nil))) (by decide) (.inl (by rfl)) (by rfl) (spec_l1Cur_pick_ok _ _ _ (hx83)) rfl (by rfl) rfl) ?_
 refine AO.nil ?_
 refine AW.block ?_
 refine AW.seq (AW.region ?_)
 iterate 2 refine AO.pu T ?_
 refine AO.nil ?_
 refine AW.cond (b := (x82.2 == 0)) rfl (fun hc => ?_) (fun hc => ?_)
 replace hH := condT hc hH
 obtain ⟨x84, hx85, hH⟩ := bindE hH
 obtain ⟨x86, hx87, hH⟩ := bindE hH
 refine AW.region ?_
 iterate 2 refine AO.pu T ?_
 refine AO.step rfl (mk_map_ok T rfl 26 rfl rfl rfl rfl rfl (f := encInt) (l := [(-1000), 1000, 1001, (-1001)]) rfl rfl (fun _ => rfl) rfl rfl rfl rfl rfl) ?_
 refine AO.le (Le.freezeM 26 (g := encInt) rfl (fun y => .vs rfl)) ?_
 refine AO.step rfl (callM_ok rfl 27 rfl rfl (es := [.pw (encL1Cur (L1Cur.mk x82.1.code x82.1.at' x82.1.seed)), .s ([(-1000), 1000, 1001, (-1001)].map encInt)]) (outs := [.pw (encL1Cur x84.1), .u]) (ids := [1]) (by exact expLG_cons (.c (.box rfl rfl)) (expLG_cons (.c .s) (expLG_nil))) (by decide) (.inl (by rfl)) (by rfl) (spec_l1Cur_among_ok _ _ _ (hx85)) rfl (by rfl) rfl) ?_
 refine AO.val rfl rfl (ix_row_ok T rfl rfl rfl rfl rfl rfl (hx87)) ?_
 refine AO.step rfl (store_row_ok T rfl rfl rfl rfl rfl (getI_get (hx87)) rfl rfl rfl rfl (u' := x84.2) rfl rfl) ?_
 refine AO.nil (AW.seq ?_)
 refine AW.region ?_
 iterate 2 refine AO.pu T ?_
 refine AO.nil (AW.ret ?_)
 cases someE hH
 exact ⟨trivial, rfl, _, [7], [1], rfl, expLG_cons (.c (.box rfl rfl)) (expLG_nil), .c (.c (.rowR rfl)), by decide⟩
 replace hH := condF hc hH
 refine AW.seq (AW.region ?_)
 iterate 2 refine AO.pu T ?_
 refine AO.nil ?_
 refine AW.cond (b := (x82.2 == 1)) rfl (fun hc => ?_) (fun hc => ?_)
 replace hH := condT hc hH
 refine AW.seq ?_
 obtain ⟨x88, hx89, hH⟩ := bindE hH
 refine AW.region ?_
 refine AO.pu T ?_
 refine AO.step rfl (callM_ok rfl 27 rfl rfl (es := [.pw (encL1Cur (L1Cur.mk x82.1.code x82.1.at' x82.1.seed)), .v (.int .i64 2)]) (outs := [.pw (encL1Cur x88.1), .u]) (ids := [1]) (by exact expLG_cons (.c (.box rfl rfl)) (expLG_cons (.c .v) (expLG_nil))) (by decide) (.inl (by rfl)) (by rfl) (spec_l1Cur_pick_ok _ _ _ (hx89)) rfl (by rfl) rfl) ?_
 refine AO.val rfl rfl (arw_ok rfl rfl rfl rfl) ?_
 refine AO.pu T ?_
 refine AO.nil ?_
 refine AW.block ?_
 refine AW.loopS (fun s : Nat × (List Int) × Int × Int × (List Int) => (⟨[(0, .p 1 0), (3, .R 7), (6, w64 (9 + x88.2))], [(1, .box [.s (List.map encInt_u8 s.2.1), s.2.2.1, .v (.int .u64 s.2.2.2.1)]), (7, .row 1 (List.map encInt s.2.2.2.2))], 55, [(1, L 1)]⟩ : St)) (fun s => spec_l1Cur_marksOf_l2 x88 s.1 s.2.1 s.2.2.1 s.2.2.2.1 s.2.2.2.2 = some r) (fun s => s.1) (fuel, x88.1.code, x88.1.at', x88.1.seed, v43) hH ?_ ?_
 exact Le.ct 0 0 (hpin := ⟨⟨rfl, rfl⟩, trivial⟩)
 rintro ⟨k90, v103, v104, v105, v106⟩ hH
 replace hH : spec_l1Cur_marksOf_l2 x88 k90 v103 v104 v105 v106 = some r := hH
 try dsimp only
 rcases k90 with _ | k90
 cases (show none = some _ from hH)
 rw [spec_l1Cur_marksOf_l2] at hH
 iterate 2 refine AW.seq ?_
 refine AW.region ?_
 refine AO.pu T ?_
 refine AO.val rfl rfl (len_row_ok T rfl rfl rfl rfl) ?_
 iterate 2 refine AO.pu T ?_
 refine AO.nil ?_
 refine AW.cond (b := decide ((v106.length : Int) < (w64 (9 + x88.2)))) rfl (fun hc => ?_) (fun hc => ?_)
 replace hH := condT hc hH
 refine AW.skip ?_
 refine AW.block ?_
 obtain ⟨x108, hx109, hH⟩ := bindE hH
 obtain ⟨u110, hx111, hH⟩ := bindE hH
 refine AW.region ?_
 iterate 2 refine AO.pu T ?_
 refine AO.step rfl (callM_ok rfl 31 rfl rfl (es := [.pw (encL1Cur (L1Cur.mk v103 v104 v105)), .v (.int .i64 9)]) (outs := [.pw (encL1Cur x108.1), .u]) (ids := [1]) (by exact expLG_cons (.c (.box rfl rfl)) (expLG_cons (.c .v) (expLG_nil))) (by decide) (.inl (by rfl)) (by rfl) (spec_l1Cur_pick_ok _ _ _ (hx109)) rfl (by rfl) rfl) ?_
 refine AO.step rfl (mk_map_ok T rfl 31 rfl rfl rfl rfl rfl (f := encInt) (l := [x108.2]) rfl rfl (fun _ => rfl) rfl rfl rfl rfl rfl) ?_
 refine AO.step rfl (app_rv_map T rfl 32 rfl rfl rfl rfl rfl (by decide) rfl rfl rfl rfl (fun _ => rfl) (needT (hx111)) rfl rfl) ?_
 refine AO.pu T ?_
 refine AO.nil ?_
 refine ⟨(k90, x108.1.code, x108.1.at', x108.1.seed, (v106 ++ [x108.2])), hH, Nat.lt_succ_self _, ?_⟩
 exact Le.ct 32 7 (hpin := ⟨⟨rfl, rfl⟩, trivial⟩)
 replace hH := condF hc hH
 refine AW.exit ?_
 refine AW.seq (AW.region ?_)
 iterate 2 refine AO.pu T ?_
 refine AO.nil (AW.ret ?_)
 cases someE hH
 exact ⟨trivial, rfl, _, [7], [1], rfl, expLG_cons (.c (.box rfl rfl)) (expLG_nil), .c (.c (.rowR rfl)), by decide⟩
 replace hH := condF hc hH
 refine AW.seq (AW.region ?_)
 iterate 2 refine AO.pu T ?_
 refine AO.nil ?_
 refine AW.cond (b := (x82.2 == 2)) rfl (fun hc => ?_) (fun hc => ?_)
 replace hH := condT hc hH
 refine AW.region ?_
 refine AO.pu T ?_
 refine AO.nil (AW.seq ?_)
 refine AW.region ?_
 iterate 2 refine AO.pu T ?_
 refine AO.nil (AW.ret ?_)
 cases someE hH
 exact ⟨trivial, rfl, _, [], [1], rfl, expLG_cons (.c (.box rfl rfl)) (expLG_nil), .c (.c .nil), by decide⟩
 replace hH := condF hc hH
 refine AW.skip ?_
 refine AW.seq (AW.region ?_)
 iterate 2 refine AO.pu T ?_
 refine AO.nil (AW.ret ?_)
 cases someE hH
 exact ⟨trivial, rfl, _, [7], [1], rfl, expLG_cons (.c (.box rfl rfl)) (expLG_nil), .c (.c (.rowR rfl)), by decide⟩

def spec_l1Cur_judge_p (c : L1Cur) (l : List Int) : Option (L1Cur × Int) :=
  (spec_l1Cur_pick_p c 16).bind fun x1 =>
  (need (15 != 0)).bind fun u3 =>
  (spec_l1Cur_pick_p (L1Cur.mk x1.1.code x1.1.at' x1.1.seed) (w64 ((l.length : Int) + (w64 (x1.2.tdiv 15))))).bind fun x5 =>
  (spec_l1Cur_pick_p (L1Cur.mk x5.1.code x5.1.at' x5.1.seed) 24).bind fun x7 =>
  (need (23 != 0)).bind fun u9 =>
  some ((L1Cur.mk x7.1.code x7.1.at' x7.1.seed), w64 (x5.2 - (w64 (x7.2.tdiv 23))))
theorem spec_l1Cur_judge_ok (c : L1Cur) (l : List Int) (r : (L1Cur × Int)) (hH : spec_l1Cur_judge_p c l = some r) : SpecM Try.prog 86 [.pw (encL1Cur c), .s (List.map encInt l)] [.pw (encL1Cur r.1), .u] (.v (.int .i64 r.2)) := by
 refine fn_okM T Try.func86 rfl (by decide) rfl rfl ?_
 intro L
 show AW _ _ _ (⟨[(0, .p 1 0), (1, .s (List.map encInt l))], [(1, .box [.s (List.map encInt_u8 c.code), c.at', .v (.int .u64 c.seed)])], 17, [(1, L 1)]⟩ : St)
 refine AW.seq (AW.region ?_)
 refine AO.pu T ?_
 refine AO.nil (AW.seq ?_)
 obtain ⟨x1, hx2, hH⟩ := bindE hH
 obtain ⟨u3, hx4, hH⟩ := bindE hH
 obtain ⟨x5, hx6, hH⟩ := bindE hH
 obtain ⟨x7, hx8, hH⟩ := bindE hH
 obtain ⟨u9, hx10, hH⟩ := bindE hH
 refine AW.region ?_
 iterate 2 refine AO.pu T ?_
 refine AO.val rfl rfl (len_map_ok T rfl rfl rfl) ?_
 refine AO.pu T ?_
 refine AO.step rfl (callM_ok rfl 2 rfl rfl (es := [.pw (encL1Cur c), .v (.int .i64 16)]) (outs := [.pw (encL1Cur x1.1), .u]) (ids := [1]) (by exact expLG_cons (.c (.box rfl rfl)) (expLG_cons (.c .v) (expLG_nil))) (by decide) (.inl (by rfl)) (by rfl) (spec_l1Cur_pick_ok _ _ _ (hx2)) rfl (by rfl) rfl) ?_
 refine AO.val rfl rfl (quow_ok rfl rfl rfl (neZ (needT (hx4)))) ?_
 refine AO.val rfl rfl (arw_ok rfl rfl rfl rfl) ?_
 refine AO.step rfl (callM_ok rfl 2 rfl rfl (es := [.pw (encL1Cur (L1Cur.mk x1.1.code x1.1.at' x1.1.seed)), .v (.int .i64 (w64 ((l.length : Int) + (w64 (x1.2.tdiv 15)))))]) (outs := [.pw (encL1Cur x5.1), .u]) (ids := [1]) (by exact expLG_cons (.c (.box rfl rfl)) (expLG_cons (.c .v) (expLG_nil))) (by decide) (.inl (by rfl)) (by rfl) (spec_l1Cur_pick_ok _ _ _ (hx6)) rfl (by rfl) rfl) ?_
 refine AO.pu T ?_
 refine AO.step rfl (callM_ok rfl 2 rfl rfl (es := [.pw (encL1Cur (L1Cur.mk x5.1.code x5.1.at' x5.1.seed)), .v (.int .i64 24)]) (outs := [.pw (encL1Cur x7.1), .u]) (ids := [1]) (by exact expLG_cons (.c (.box rfl rfl)) (expLG_cons (.c .v) (expLG_nil))) (by decide) (.inl (by rfl)) (by rfl) (spec_l1Cur_pick_ok _ _ _ (hx8)) rfl (by rfl) rfl) ?_
 refine AO.val rfl rfl (quow_ok rfl rfl rfl (neZ (needT (hx10)))) ?_
 refine AO.val rfl rfl (arw_ok rfl rfl rfl rfl) ?_
 refine AO.pu T ?_
 refine AO.nil (AW.ret ?_)
 cases someE hH
 exact ⟨trivial, rfl, _, [], [1], rfl, expLG_cons (.c (.box rfl rfl)) (expLG_cons (.c .u) (expLG_nil)), .c (.c .v), by decide⟩

def spec_DrawMeanRange_p (fuel : Nat) (code : List Int) : Option ((List Int) × Int × Int × Int) :=
  (spec_l1Cur_marksOf_p fuel (L1Cur.mk code 0 0)).bind fun x1 =>
  (spec_l1Cur_among_p (L1Cur.mk x1.1.code x1.1.at' x1.1.seed) [(-5), (-5), 0, 3, (-1000), (-1001)]).bind fun x3 =>
  (spec_l1Cur_judge_p (L1Cur.mk x3.1.code x3.1.at' x3.1.seed) x1.2).bind fun x5 =>
  (spec_l1Cur_among_p (L1Cur.mk x5.1.code x5.1.at' x5.1.seed) [5, 5, x3.2, 3, 1000, 1001, w64 (x3.2 - 1)]).bind fun x7 =>
  some (x1.2, x5.2, x3.2, x7.2)
theorem spec_DrawMeanRange_ok (fuel : Nat) (code : List Int) (r : ((List Int) × Int × Int × Int)) (hH : spec_DrawMeanRange_p fuel code = some r) : SpecR Try.prog 26 [.s (List.map encInt_u8 code)] (.t [.s (r.1.map encInt), .v (.int .i64 r.2.1), .v (.int .i64 r.2.2.1), .v (.int .i64 r.2.2.2)]) := by
 refine fn_ok T Try.func26 rfl (by decide) rfl ?_
 refine AW.seq (AW.region ?_)
 iterate 4 refine AO.pu T ?_
 refine AO.nil (AW.seq ?_)
 refine AW.region ?_
 refine AO.pu T ?_
 refine AO.pu T (d := .g [.s (List.map encInt_u8 code), (0 : Int), .v (.int .u64 0)]) ?_
 refine AO.step rfl (box_ok T rfl 1 rfl rfl rfl rfl) ?_
 refine AO.pu T ?_
 refine AO.nil (AW.seq ?_)
 obtain ⟨x1, hx2, hH⟩ := bindE hH
 refine AW.region ?_
 refine AO.pu T ?_
 refine AO.step rfl (callM_ok rfl 2 rfl rfl (es := [.pw (encL1Cur (L1Cur.mk code 0 0))]) (outs := [.pw (encL1Cur x1.1)]) (ids := [1]) (by exact expLG_cons (.c (.box rfl rfl)) (expLG_nil)) (by decide) (.inl (by rfl)) (by rfl) (spec_l1Cur_marksOf_ok fuel _ _ (hx2)) rfl (by rfl) rfl) ?_
 refine AO.pu T ?_
 refine AO.nil (AW.seq ?_)
 obtain ⟨x3, hx4, hH⟩ := bindE hH
 refine AW.region ?_
 refine AO.pu T ?_
 refine AO.step rfl (mk_map_ok T rfl 3 rfl rfl rfl rfl rfl (f := encInt) (l := [(-5), (-5), 0, 3, (-1000), (-1001)]) rfl rfl (fun _ => rfl) rfl rfl rfl rfl rfl) ?_
 refine AO.le (Le.freezeM 3 (g := encInt) rfl (fun y => .vs rfl)) ?_
 refine AO.step rfl (callM_ok rfl 4 rfl rfl (es := [.pw (encL1Cur (L1Cur.mk x1.1.code x1.1.at' x1.1.seed)), .s ([(-5), (-5), 0, 3, (-1000), (-1001)].map encInt)]) (outs := [.pw (encL1Cur x3.1), .u]) (ids := [1]) (by exact expLG_cons (.c (.box rfl rfl)) (expLG_cons (.c .s) (expLG_nil))) (by decide) (.inl (by rfl)) (by rfl) (spec_l1Cur_among_ok _ _ _ (hx4)) rfl (by rfl) rfl) ?_
 refine AO.pu T ?_
 refine AO.nil (AW.seq ?_)
 obtain ⟨x5, hx6, hH⟩ := bindE hH
 obtain ⟨x7, hx8, hH⟩ := bindE hH
 refine AW.le (Le.freezeM 2 (g := encInt) rfl (fun y => .vs rfl)) ?_
 refine AW.region ?_
 iterate 3 refine AO.pu T ?_
 refine AO.step rfl (callM_ok rfl 4 rfl rfl (es := [.pw (encL1Cur (L1Cur.mk x3.1.code x3.1.at' x3.1.seed)), .s (x1.2.map encInt)]) (outs := [.pw (encL1Cur x5.1), .u]) (ids := [1]) (by exact expLG_cons (.c (.box rfl rfl)) (expLG_cons (.c .s) (expLG_nil))) (by decide) (.inl (by rfl)) (by rfl) (spec_l1Cur_judge_ok _ _ _ (hx6)) rfl (by rfl) rfl) ?_
 iterate 4 refine AO.pu T ?_
 refine AO.val rfl rfl (arw_ok rfl rfl rfl rfl) ?_
 refine AO.step rfl (mk_map_ok T rfl 4 rfl rfl rfl rfl rfl (f := encInt) (l := [5, 5, x3.2, 3, 1000, 1001, w64 (x3.2 - 1)]) rfl rfl (fun _ => rfl) rfl rfl rfl rfl rfl) ?_
 refine AO.le (Le.freezeM 4 (g := encInt) rfl (fun y => .vs rfl)) ?_
 refine AO.step rfl (callM_ok rfl 5 rfl rfl (es := [.pw (encL1Cur (L1Cur.mk x5.1.code x5.1.at' x5.1.seed)), .s ([5, 5, x3.2, 3, 1000, 1001, w64 (x3.2 - 1)].map encInt)]) (outs := [.pw (encL1Cur x7.1), .u]) (ids := [1]) (by exact expLG_cons (.c (.box rfl rfl)) (expLG_cons (.c .s) (expLG_nil))) (by decide) (.inl (by rfl)) (by rfl) (spec_l1Cur_among_ok _ _ _ (hx8)) rfl (by rfl) rfl) ?_
 iterate 4 refine AO.pu T ?_
 refine AO.nil ?_
 refine AW.le (Le.ct 0 0 (σ' := (⟨[(2, .s (List.map encInt x1.2)), (3, x5.2), (4, x3.2), (5, x7.2)], [], 28, []⟩ : St))) ?_
 refine AW.ret ?_
 cases someE hH
 exact retQ.i [] rfl (.t (expLG_cons (.c .s) (expLG_cons (.c .v) (expLG_cons (.c .v) (expLG_cons (.c .v) (expLG_nil))))))

def impl_within_p (n : Int) (low : Int) (high : Int) : Option Bool :=
  some (decide (n ≥ low) && decide (n ≤ high))
theorem impl_within_ok (n : Int) (low : Int) (high : Int) (r : Bool) (hH : impl_within_p n low high = some r) : SpecR Try.prog 67 [n, low, high] (.v (.bool r)) := by
 refine fn_ok T Try.func67 rfl (by decide) rfl ?_
 refine AW.seq (AW.region ?_)
 refine AO.pu T ?_
 refine AO.nil (AW.seq ?_)
 refine AW.region ?_
 iterate 4 refine AO.pu T ?_
 iterate 2 refine AO.pureG T [] rfl trivial rfl rfl ?_
 refine AO.pureG T [11, 12] rfl ⟨fun h => h, fun h => h, trivial⟩ rfl rfl ?_
 refine AO.val rfl rfl (pick_and rfl rfl rfl rfl) ?_
 refine AO.pu T ?_
 refine AO.nil (AW.ret ?_)
 cases someE hH
 exact retQ.i [] rfl (.c (.c .v))

def impl_allWithin_l1 (low : Int) (high : Int) : List Int → Nat → Option Bool
  | [], k1 =>
    some true
  | y2 :: ys3, k1 =>
    (impl_within_p y2 low high).bind fun x12 =>
    cond (!x12)
      (some false)
      (impl_allWithin_l1 low high ys3 (k1 + 1))
def impl_allWithin_p (l : List Int) (low : Int) (high : Int) : Option Bool :=
  impl_allWithin_l1 low high l 0
theorem impl_allWithin_ok (l : List Int) (low : Int) (high : Int) (r : Bool) (hH : impl_allWithin_p l low high = some r) : SpecR Try.prog 104 [.s (List.map encInt l), low, high] (.v (.bool r)) := by
 refine fn_ok T Try.func104 rfl (by decide) rfl ?_
 refine AW.seq (AW.region ?_)
 refine AO.pu T ?_
 refine AO.nil ?_
 iterate 2 refine AW.seq ?_
 refine AW.region ?_
 refine AO.pu T ?_
 refine AO.val rfl rfl (len_map_ok T rfl rfl rfl) ?_
 refine AO.pu T ?_
 refine AO.nil ?_
 refine AW.block ?_
 refine AW.loopS (fun s : Nat => (⟨[(1, low), (2, high), (9, .s (List.map encInt l)), (10, (l.length : Int)), (11, (s : Int))], [], 21, []⟩ : St)) (fun s => s ≤ l.length ∧ impl_allWithin_l1 low high (l.drop s) s = some r) (fun s => l.length - s) 0 ⟨Nat.zero_le _, hH⟩ ?_ ?_
 exact Le.ct 0 0
 rintro k1 ⟨hk, hH⟩
 replace hH : impl_allWithin_l1 low high (l.drop k1) k1 = some r := hH
 try dsimp only
 refine AW.boundM (t := 9) (l := l) rfl (fun hb5 => ?_)
 rcases hd4 : l.drop k1 with _ | ⟨y2, ys3⟩
 rw [hd4, impl_allWithin_l1] at hH
 have hlt6 := drop_ge hd4
 refine AW.seq (AW.region ?_)
 refine AO.pu T ?_
 refine AO.nil (AW.seq ?_)
 refine AW.condF' (b := decide ((k1 : Int) < (l.length : Int))) rfl (rngF hlt6) ?_
 refine AW.exit ?_
 refine AW.seq (AW.region ?_)
 refine AO.pu T ?_
 refine AO.nil (AW.ret ?_)
 cases someE hH
 exact retQ.i [] rfl (.c (.c .v))
 rw [hd4, impl_allWithin_l1] at hH
 have hlt6 := drop_lt hd4
 refine AW.seq (AW.region ?_)
 refine AO.pu T ?_
 refine AO.nil (AW.seq ?_)
 refine AW.condT' (b := decide ((k1 : Int) < (l.length : Int))) rfl (rngT hlt6) ?_
 refine AW.skip ?_
 refine AW.seq ?_
 refine AW.block ?_
 refine AW.seq (AW.region ?_)
 refine AO.val rfl rfl (ix_map_ok T rfl rfl rfl rfl rfl (getI_drop hd4) rfl) ?_
 iterate 2 refine AO.pu T ?_
 refine AO.nil (AW.seq ?_)
 obtain ⟨x12, hx13, hH⟩ := bindE hH
 refine AW.region ?_
 iterate 3 refine AO.pu T ?_
 refine AO.val rfl rfl (callV_ok rfl rfl rfl rfl (impl_within_ok _ _ _ _ (hx13)) rfl) ?_
 refine AO.pu T ?_
 refine AO.nil ?_
 refine AW.cond (b := (!x12)) rfl (fun hc => ?_) (fun hc => ?_)
 replace hH := condT hc hH
 refine AW.seq (AW.region ?_)
 refine AO.pu T ?_
 refine AO.nil (AW.ret ?_)
 cases someE hH
 exact retQ.i [] rfl (.c (.c .v))
 replace hH := condF hc hH
 refine AW.skip ?_
 refine AW.region ?_
 refine AO.val rfl rfl (ar_ok rfl rfl rfl rfl (inI_succ hlt6 hb5)) ?_
 refine AO.pu T ?_
 refine AO.nil ?_
 refine ⟨k1 + 1, ⟨Nat.succ_le_of_lt hlt6, (by rw [drop_succ_of hd4]; exact hH)⟩, (by have := hlt6; dsimp only; omega), ?_⟩
 exact Le.ct 0 0

def impl_AreMarksOf_p (l : List Int) : Option Bool :=
  (impl_within_p (l.length : Int) 1 9).bind fun x1 =>
  (opt x1 default (impl_allWithin_p l (-1000) 1000)).bind fun x3 =>
  some (x1 && x3)
theorem impl_AreMarksOf_ok (l : List Int) (r : Bool) (hH : impl_AreMarksOf_p l = some r) : SpecR Try.prog 47 [.s (List.map encInt l)] (.v (.bool r)) := by
 refine fn_ok T Try.func47 rfl (by decide) rfl ?_
 refine AW.seq (AW.region ?_)
 refine AO.pu T ?_
 refine AO.nil (AW.seq ?_)
 obtain ⟨x1, hx2, hH⟩ := bindE hH
 obtain ⟨x3, hx4, hH⟩ := bindE hH
 refine AW.region ?_
 refine AO.pu T ?_
 refine AO.val rfl rfl (len_map_ok T rfl rfl rfl) ?_
 refine AO.val rfl rfl (callV_ok rfl rfl rfl rfl (impl_within_ok _ _ _ _ (hx2)) rfl) ?_
 refine AO.pu T ?_
 refine AO.pureG T [] rfl trivial rfl rfl ?_
 refine AO.guard [7] rfl ⟨fun h => h, trivial⟩ (fun hg => callV_ok rfl rfl rfl rfl (impl_allWithin_ok _ _ _ _ (optT hx4 hg)) rfl) rfl ?_
 refine AO.val rfl rfl (pick_and rfl rfl rfl rfl) ?_
 refine AO.pu T ?_
 refine AO.nil (AW.ret ?_)
 cases someE hH
 exact retQ.i [] rfl (.c (.c .v))

def impl_isMarkOf_p (l : List Int) (k : Int) : Option Bool :=
  (impl_AreMarksOf_p l).bind fun x1 =>
  (opt x1 default (impl_within_p k 0 (w64 ((l.length : Int) - 1)))).bind fun x3 =>
  some (x1 && x3)
theorem impl_isMarkOf_ok (l : List Int) (k : Int) (r : Bool) (hH : impl_isMarkOf_p l k = some r) : SpecR Try.prog 97 [.s (List.map encInt l), k] (.v (.bool r)) := by
 refine fn_ok T Try.func97 rfl (by decide) rfl ?_
 refine AW.seq (AW.region ?_)
 refine AO.pu T ?_
 refine AO.nil (AW.seq ?_)
 obtain ⟨x1, hx2, hH⟩ := bindE hH
 obtain ⟨x3, hx4, hH⟩ := bindE hH
 refine AW.region ?_
 refine AO.pu T ?_
 refine AO.val rfl rfl (callV_ok rfl rfl rfl rfl (impl_AreMarksOf_ok _ _ (hx2)) rfl) ?_
 refine AO.pu T ?_
 iterate 2 refine AO.pureG T [] rfl trivial rfl rfl ?_
 refine AO.guard [9] rfl ⟨fun h => h, trivial⟩ (fun hg => len_map_ok T rfl rfl rfl) rfl ?_
 refine AO.guard [10] rfl ⟨fun h => h, trivial⟩ (fun hg => arw_ok rfl rfl rfl rfl) rfl ?_
 refine AO.guard [8, 11] rfl ⟨fun h => h, fun h => h, trivial⟩ (fun hg => callV_ok rfl rfl rfl rfl (impl_within_ok _ _ _ _ (optT hx4 hg)) rfl) rfl ?_
 refine AO.val rfl rfl (pick_and rfl rfl rfl rfl) ?_
 refine AO.pu T ?_
 refine AO.nil (AW.ret ?_)
 cases someE hH
 exact retQ.i [] rfl (.c (.c .v))

def impl_isMarkRange_p (l : List Int) (k : Int) (low : Int) (high : Int) : Option Bool :=
  (impl_isMarkOf_p l k).bind fun x1 =>
  some (((x1 && decide ((-1000) ≤ low)) && decide (low ≤ high)) && decide (high ≤ 1000))
theorem impl_isMarkRange_ok (l : List Int) (k : Int) (low : Int) (high : Int) (r : Bool) (hH : impl_isMarkRange_p l k low high = some r) : SpecR Try.prog 87 [.s (List.map encInt l), k, low, high] (.v (.bool r)) := by
 refine fn_ok T Try.func87 rfl (by decide) rfl ?_
 refine AW.seq (AW.region ?_)
 refine AO.pu T ?_
 refine AO.nil (AW.seq ?_)
 obtain ⟨x1, hx2, hH⟩ := bindE hH
 refine AW.region ?_
 iterate 2 refine AO.pu T ?_
 refine AO.val rfl rfl (callV_ok rfl rfl rfl rfl (impl_isMarkOf_ok _ _ _ (hx2)) rfl) ?_
 refine AO.pu T ?_
 refine AO.pureG T [] rfl trivial rfl rfl ?_
 refine AO.pureG T [13] rfl ⟨fun h => h, trivial⟩ rfl rfl ?_
 refine AO.val rfl rfl (pick_and rfl rfl rfl rfl) ?_
 refine AO.pu T ?_
 iterate 2 refine AO.pureG T [] rfl trivial rfl rfl ?_
 refine AO.pureG T [17, 18] rfl ⟨fun h => h, fun h => h, trivial⟩ rfl rfl ?_
 refine AO.val rfl rfl (pick_and rfl rfl rfl rfl) ?_
 refine AO.pu T ?_
 refine AO.pureG T [] rfl trivial rfl rfl ?_
 refine AO.pureG T [22] rfl ⟨fun h => h, trivial⟩ rfl rfl ?_
 refine AO.val rfl rfl (pick_and rfl rfl rfl rfl) ?_
 refine AO.pu T ?_
 refine AO.nil (AW.ret ?_)
 cases someE hH
 exact retQ.i [] rfl (.c (.c .v))

def impl_copyInts_p (l : List Int) : Option (List Int) :=
  (need (fitsB 8 l.length)).bind fun u1 =>
  some l
theorem impl_copyInts_ok (l : List Int) (r : (List Int)) (hH : impl_copyInts_p l = some r) : SpecR Try.prog 111 [.s (List.map encInt l)] (.w 1 (r.map encInt)) := by
 refine fn_ok T Try.func111 rfl (by decide) rfl ?_
 refine AW.seq (AW.region ?_)
 refine AO.pu T ?_
 refine AO.nil (AW.seq ?_)
 obtain ⟨u1, hx2, hH⟩ := bindE hH
 refine AW.region ?_
 refine AO.step rfl (mk0_ok T rfl rfl rfl rfl) ?_
 refine AO.pu T ?_
 refine AO.step rfl (app_ws_map T rfl 1 rfl rfl rfl rfl rfl (by decide) (by decide) rfl rfl (fun _ => rfl) (needT (hx2)) rfl rfl) ?_
 refine AO.pu T ?_
 refine AO.nil (AW.ret ?_)
 cases someE hH
 exact retQ.i [1] rfl (.c (.c (.rowR rfl)))

def impl_withMark_p (l : List Int) (k : Int) (mark : Int) : Option (List Int) :=
  (impl_copyInts_p l).bind fun x1 =>
  (getI x1 k).bind fun x3 =>
  some (x1.set k.toNat mark)
theorem impl_withMark_ok (l : List Int) (k : Int) (mark : Int) (r : (List Int)) (hH : impl_withMark_p l k mark = some r) : SpecR Try.prog 90 [.s (List.map encInt l), k, mark] (.w 1 (r.map encInt)) := by
 refine fn_ok T Try.func90 rfl (by decide) rfl ?_
 refine AW.seq (AW.region ?_)
 refine AO.pu T ?_
 refine AO.nil (AW.seq ?_)
 obtain ⟨x1, hx2, hH⟩ := bindE hH
 refine AW.region ?_
 refine AO.pu T ?_
 refine AO.step rfl (call_ok rfl 1 rfl rfl rfl (impl_copyInts_ok _ _ (hx2)) rfl rfl rfl) ?_
 refine AO.pu T ?_
 refine AO.nil (AW.seq ?_)
 obtain ⟨x3, hx4, hH⟩ := bindE hH
 refine AW.region ?_
 iterate 3 refine AO.pu T ?_
 refine AO.val rfl rfl (ix_row_ok T rfl rfl rfl rfl rfl rfl (hx4)) ?_
 refine AO.step rfl (store_row_ok T rfl rfl rfl rfl rfl (getI_get (hx4)) rfl rfl rfl rfl (u' := mark) rfl rfl) ?_
 refine AO.nil (AW.seq ?_)
 refine AW.region ?_
 iterate 2 refine AO.pu T ?_
 refine AO.nil (AW.ret ?_)
 cases someE hH
 exact retQ.i [1] rfl (.c (.c (.rowR rfl)))

def impl_sumInts_l1 : List Int → Nat → Int → Option Int
  | [], k1, v8 =>
    some v8
  | y2 :: ys3, k1, v8 =>
    impl_sumInts_l1 ys3 (k1 + 1) (w64 (v8 + y2))
def impl_sumInts_p (l : List Int) : Option Int :=
  impl_sumInts_l1 l 0 0
theorem impl_sumInts_ok (l : List Int) (r : Int) (hH : impl_sumInts_p l = some r) : SpecR Try.prog 129 [.s (List.map encInt l)] (.v (.int .i64 r)) := by
 refine fn_ok T Try.func129 rfl (by decide) rfl ?_
 refine AW.seq (AW.region ?_)
 refine AO.pu T ?_
 refine AO.nil (AW.seq ?_)
 refine AW.region ?_
 refine AO.pu T ?_
 refine AO.nil ?_
 iterate 2 refine AW.seq ?_
 refine AW.region ?_
 refine AO.pu T ?_
 refine AO.val rfl rfl (len_map_ok T rfl rfl rfl) ?_
 refine AO.pu T ?_
 refine AO.nil ?_
 refine AW.block ?_
 refine AW.loopS (fun s : Nat × Int => (⟨[(3, s.2), (6, .s (List.map encInt l)), (7, (l.length : Int)), (8, (s.1 : Int))], [], 17, []⟩ : St)) (fun s => s.1 ≤ l.length ∧ impl_sumInts_l1 (l.drop s.1) s.1 s.2 = some r) (fun s => l.length - s.1) (0, 0) ⟨Nat.zero_le _, hH⟩ ?_ ?_
 exact Le.ct 0 0
 rintro ⟨k1, v8⟩ ⟨hk, hH⟩
 replace hH : impl_sumInts_l1 (l.drop k1) k1 v8 = some r := hH
 try dsimp only
 refine AW.boundM (t := 6) (l := l) rfl (fun hb5 => ?_)
 rcases hd4 : l.drop k1 with _ | ⟨y2, ys3⟩
 rw [hd4, impl_sumInts_l1] at hH
 have hlt6 := drop_ge hd4
 refine AW.seq (AW.region ?_)
 refine AO.pu T ?_
 refine AO.nil (AW.seq ?_)
 refine AW.condF' (b := decide ((k1 : Int) < (l.length : Int))) rfl (rngF hlt6) ?_
 refine AW.exit ?_
 refine AW.seq (AW.region ?_)
 iterate 2 refine AO.pu T ?_
 refine AO.nil (AW.ret ?_)
 cases someE hH
 exact retQ.i [] rfl (.c (.c .v))
 rw [hd4, impl_sumInts_l1] at hH
 have hlt6 := drop_lt hd4
 refine AW.seq (AW.region ?_)
 refine AO.pu T ?_
 refine AO.nil (AW.seq ?_)
 refine AW.condT' (b := decide ((k1 : Int) < (l.length : Int))) rfl (rngT hlt6) ?_
 refine AW.skip ?_
 refine AW.seq ?_
 refine AW.block ?_
 refine AW.seq (AW.region ?_)
 refine AO.val rfl rfl (ix_map_ok T rfl rfl rfl rfl rfl (getI_drop hd4) rfl) ?_
 iterate 2 refine AO.pu T ?_
 refine AO.nil ?_
 refine AW.region ?_
 iterate 2 refine AO.pu T ?_
 refine AO.val rfl rfl (arw_ok rfl rfl rfl rfl) ?_
 refine AO.pu T ?_
 refine AO.nil ?_
 refine AW.region ?_
 refine AO.val rfl rfl (ar_ok rfl rfl rfl rfl (inI_succ hlt6 hb5)) ?_
 refine AO.pu T ?_
 refine AO.nil ?_
 refine ⟨(k1 + 1, w64 (v8 + y2)), ⟨Nat.succ_le_of_lt hlt6, (by rw [drop_succ_of hd4]; exact hH)⟩, (by have := hlt6; dsimp only; omega), ?_⟩
 exact Le.ct 0 0

def slices_Max_int_l1 (x : List Int) : Nat → Int → Int → Option Int
  | 0, _, _ => none
  | k3 + 1, v10, v11 =>
    cond (decide (v11 < (x.length : Int)))
      ((getI x v11).bind fun x13 =>
      slices_Max_int_l1 x k3 (max v10 x13) (w64 (v11 + 1)))
      (some v10)
def slices_Max_int_p (fuel : Nat) (x : List Int) : Option Int :=
  cond (decide ((x.length : Int) < 1))
    (none)
    ((getI x 0).bind fun x1 =>
    slices_Max_int_l1 x fuel x1 1)
theorem slices_Max_int_ok (fuel : Nat) (x : List Int) (r : Int) (hH : slices_Max_int_p fuel x = some r) : SpecR Try.prog 99 [.s (List.map encInt x)] (.v (.int .i64 r)) := by
 refine fn_ok T Try.func99 rfl (by decide) rfl ?_
 refine AW.seq (AW.region ?_)
 refine AO.pu T ?_
 refine AO.nil ?_
 iterate 2 refine AW.seq ?_
 refine AW.region ?_
 refine AO.pu T ?_
 refine AO.val rfl rfl (len_map_ok T rfl rfl rfl) ?_
 refine AO.pu T ?_
 refine AO.nil ?_
 refine AW.cond (b := decide ((x.length : Int) < 1)) rfl (fun hc => ?_) (fun hc => ?_)
 replace hH := condT hc hH
 cases hH
 replace hH := condF hc hH
 refine AW.skip ?_
 refine AW.seq ?_
 obtain ⟨x1, hx2, hH⟩ := bindE hH
 refine AW.region ?_
 refine AO.pu T ?_
 refine AO.val rfl rfl (ix_map_ok T rfl rfl rfl rfl rfl (hx2) rfl) ?_
 iterate 2 refine AO.pu T ?_
 refine AO.nil ?_
 iterate 2 refine AW.seq ?_
 refine AW.region ?_
 refine AO.pu T ?_
 refine AO.nil ?_
 refine AW.block ?_
 refine AW.loopS (fun s : Nat × Int × Int => (⟨[(0, .s (List.map encInt x)), (3, s.2.1), (4, s.2.2)], [], 25, []⟩ : St)) (fun s => slices_Max_int_l1 x s.1 s.2.1 s.2.2 = some r) (fun s => s.1) (fuel, x1, 1) hH ?_ ?_
 exact Le.ct 0 0
 rintro ⟨k3, v10, v11⟩ hH
 replace hH : slices_Max_int_l1 x k3 v10 v11 = some r := hH
 try dsimp only
 rcases k3 with _ | k3
 cases (show none = some _ from hH)
 rw [slices_Max_int_l1] at hH
 iterate 2 refine AW.seq ?_
 refine AW.region ?_
 iterate 2 refine AO.pu T ?_
 refine AO.val rfl rfl (len_map_ok T rfl rfl rfl) ?_
 refine AO.pu T ?_
 refine AO.nil ?_
 refine AW.cond (b := decide (v11 < (x.length : Int))) rfl (fun hc => ?_) (fun hc => ?_)
 replace hH := condT hc hH
 refine AW.skip ?_
 refine AW.seq ?_
 refine AW.block ?_
 obtain ⟨x13, hx14, hH⟩ := bindE hH
 refine AW.region ?_
 iterate 3 refine AO.pu T ?_
 refine AO.val rfl rfl (ix_map_ok T rfl rfl rfl rfl rfl (hx14) rfl) ?_
 refine AO.pu T ?_
 refine AO.val rfl rfl (max_ok rfl rfl rfl) ?_
 refine AO.pu T ?_
 refine AO.nil ?_
 refine AW.region ?_
 refine AO.pu T ?_
 refine AO.val rfl rfl (arw_ok rfl rfl rfl rfl) ?_
 refine AO.pu T ?_
 refine AO.nil ?_
 refine ⟨(k3, (max v10 x13), w64 (v11 + 1)), hH, Nat.lt_succ_self _, ?_⟩
 exact Le.ct 0 0
 replace hH := condF hc hH
 refine AW.exit ?_
 refine AW.seq (AW.region ?_)
 iterate 2 refine AO.pu T ?_
 refine AO.nil (AW.ret ?_)
 cases someE hH
 exact retQ.i [] rfl (.c (.c .v))

def slices_Min_int_l1 (x : List Int) : Nat → Int → Int → Option Int
  | 0, _, _ => none
  | k3 + 1, v10, v11 =>
    cond (decide (v11 < (x.length : Int)))
      ((getI x v11).bind fun x13 =>
      slices_Min_int_l1 x k3 (min v10 x13) (w64 (v11 + 1)))
      (some v10)
def slices_Min_int_p (fuel : Nat) (x : List Int) : Option Int :=
  cond (decide ((x.length : Int) < 1))
    (none)
    ((getI x 0).bind fun x1 =>
    slices_Min_int_l1 x fuel x1 1)
theorem slices_Min_int_ok (fuel : Nat) (x : List Int) (r : Int) (hH : slices_Min_int_p fuel x = some r) : SpecR Try.prog 100 [.s (List.map encInt x)] (.v (.int .i64 r)) := by
 refine fn_ok T Try.func100 rfl (by decide) rfl ?_
 refine AW.seq (AW.region ?_)
 refine AO.pu T ?_
 refine AO.nil ?_
 iterate 2 refine AW.seq ?_
 refine AW.region ?_
 refine AO.pu T ?_
 refine AO.val rfl rfl (len_map_ok T rfl rfl rfl) ?_
 refine AO.pu T ?_
 refine AO.nil ?_
 refine AW.cond (b := decide ((x.length : Int) < 1)) rfl (fun hc => ?_) (fun hc => ?_)
 replace hH := condT hc hH
 cases hH
 replace hH := condF hc hH
 refine AW.skip ?_
 refine AW.seq ?_
 obtain ⟨x1, hx2, hH⟩ := bindE hH
 refine AW.region ?_
 refine AO.pu T ?_
 refine AO.val rfl rfl (ix_map_ok T rfl rfl rfl rfl rfl (hx2) rfl) ?_
 iterate 2 refine AO.pu T ?_
 refine AO.nil ?_
 iterate 2 refine AW.seq ?_
 refine AW.region ?_
 refine AO.pu T ?_
 refine AO.nil ?_
 refine AW.block ?_
 refine AW.loopS (fun s : Nat × Int × Int => (⟨[(0, .s (List.map encInt x)), (3, s.2.1), (4, s.2.2)], [], 25, []⟩ : St)) (fun s => slices_Min_int_l1 x s.1 s.2.1 s.2.2 = some r) (fun s => s.1) (fuel, x1, 1) hH ?_ ?_
 exact Le.ct 0 0
 rintro ⟨k3, v10, v11⟩ hH
 replace hH : slices_Min_int_l1 x k3 v10 v11 = some r := hH
 try dsimp only
 rcases k3 with _ | k3
 cases (show none = some _ from hH)
 rw [slices_Min_int_l1] at hH
 iterate 2 refine AW.seq ?_
 refine AW.region ?_
 iterate 2 refine AO.pu T ?_
 refine AO.val rfl rfl (len_map_ok T rfl rfl rfl) ?_
 refine AO.pu T ?_
 refine AO.nil ?_
 refine AW.cond (b := decide (v11 < (x.length : Int))) rfl (fun hc => ?_) (fun hc => ?_)
 replace hH := condT hc hH
 refine AW.skip ?_
 refine AW.seq ?_
 refine AW.block ?_
 obtain ⟨x13, hx14, hH⟩ := bindE hH
 refine AW.region ?_
 iterate 3 refine AO.pu T ?_
 refine AO.val rfl rfl (ix_map_ok T rfl rfl rfl rfl rfl (hx14) rfl) ?_
 refine AO.pu T ?_
 refine AO.val rfl rfl (min_ok rfl rfl rfl) ?_
 refine AO.pu T ?_
 refine AO.nil ?_
 refine AW.region ?_
 refine AO.pu T ?_
 refine AO.val rfl rfl (arw_ok rfl rfl rfl rfl) ?_
 refine AO.pu T ?_
 refine AO.nil ?_
 refine ⟨(k3, (min v10 x13), w64 (v11 + 1)), hH, Nat.lt_succ_self _, ?_⟩
 exact Le.ct 0 0
 replace hH := condF hc hH
 refine AW.exit ?_
 refine AW.seq (AW.region ?_)
 iterate 2 refine AO.pu T ?_
 refine AO.nil (AW.ret ?_)
 cases someE hH
 exact retQ.i [] rfl (.c (.c .v))

def impl_trimmedSum_p (fuel : Nat) (l : List Int) : Option (Int × Int) :=
  cond (decide ((l.length : Int) < 5))
    ((impl_sumInts_p l).bind fun x1 =>
    some (x1, (l.length : Int)))
    ((impl_sumInts_p l).bind fun x3 =>
    (slices_Max_int_p fuel l).bind fun x5 =>
    (slices_Min_int_p fuel l).bind fun x7 =>
    some (w64 ((w64 (x3 - x5)) - x7), w64 ((l.length : Int) - 2)))
theorem impl_trimmedSum_ok (fuel : Nat) (l : List Int) (r : (Int × Int)) (hH : impl_trimmedSum_p fuel l = some r) : SpecR Try.prog 89 [.s (List.map encInt l)] (.t [.v (.int .i64 r.1), .v (.int .i64 r.2)]) := by
 refine fn_ok T Try.func89 rfl (by decide) rfl ?_
 refine AW.seq (AW.region ?_)
 iterate 2 refine AO.pu T ?_
 refine AO.nil ?_
 iterate 2 refine AW.seq ?_
 refine AW.region ?_
 refine AO.pu T ?_
 refine AO.val rfl rfl (len_map_ok T rfl rfl rfl) ?_
 refine AO.pu T ?_
 refine AO.nil ?_
 refine AW.cond (b := decide ((l.length : Int) < 5)) rfl (fun hc => ?_) (fun hc => ?_)
 replace hH := condT hc hH
 refine AW.seq ?_
 obtain ⟨x1, hx2, hH⟩ := bindE hH
 refine AW.region ?_
 refine AO.pu T ?_
 refine AO.val rfl rfl (callV_ok rfl rfl rfl rfl (impl_sumInts_ok _ _ (hx2)) rfl) ?_
 refine AO.pu T ?_
 refine AO.val rfl rfl (len_map_ok T rfl rfl rfl) ?_
 iterate 2 refine AO.pu T ?_
 refine AO.nil (AW.ret ?_)
 cases someE hH
 exact retQ.i [] rfl (.t (expLG_cons (.c .v) (expLG_cons (.c .v) (expLG_nil))))
 replace hH := condF hc hH
 refine AW.skip ?_
 refine AW.seq ?_
 obtain ⟨x3, hx4, hH⟩ := bindE hH
 obtain ⟨x5, hx6, hH⟩ := bindE hH
 obtain ⟨x7, hx8, hH⟩ := bindE hH
 refine AW.region ?_
 refine AO.pu T ?_
 refine AO.val rfl rfl (callV_ok rfl rfl rfl rfl (impl_sumInts_ok _ _ (hx4)) rfl) ?_
 refine AO.pu T ?_
 refine AO.val rfl rfl (callV_ok rfl rfl rfl rfl (slices_Max_int_ok fuel _ _ (hx6)) rfl) ?_
 refine AO.val rfl rfl (arw_ok rfl rfl rfl rfl) ?_
 refine AO.pu T ?_
 refine AO.val rfl rfl (callV_ok rfl rfl rfl rfl (slices_Min_int_ok fuel _ _ (hx8)) rfl) ?_
 refine AO.val rfl rfl (arw_ok rfl rfl rfl rfl) ?_
 refine AO.pu T ?_
 refine AO.val rfl rfl (len_map_ok T rfl rfl rfl) ?_
 refine AO.val rfl rfl (arw_ok rfl rfl rfl rfl) ?_
 iterate 2 refine AO.pu T ?_
 refine AO.nil (AW.ret ?_)
 cases someE hH
 exact retQ.i [] rfl (.t (expLG_cons (.c .v) (expLG_cons (.c .v) (expLG_nil))))

def impl_gcdOf_l1 : Nat → Int → Int → Option Int
  | 0, _, _ => none
  | k15 + 1, v22, v23 =>
    cond (v23 != 0)
      ((need (v23 != 0)).bind fun u25 =>
      impl_gcdOf_l1 k15 v23 (v22.tmod v23))
      (some v22)
def impl_gcdOf_p (fuel : Nat) (a : Int) (b : Int) : Option Int :=
  (impl_gcdOf_l1 fuel (max a (w64 (-a))) (max b (w64 (-b)))).bind fun v12 =>
  some v12
theorem impl_gcdOf_ok (fuel : Nat) (a : Int) (b : Int) (r : Int) (hH : impl_gcdOf_p fuel a b = some r) : SpecR Try.prog 128 [a, b] (.v (.int .i64 r)) := by
 refine fn_ok T Try.func128 rfl (by decide) rfl ?_
 refine AW.seq (AW.region ?_)
 refine AO.pu T ?_
 refine AO.nil (AW.seq ?_)
 refine AW.region ?_
 iterate 2 refine AO.pu T ?_
 refine AO.val rfl rfl (negw_ok rfl rfl) ?_
 refine AO.val rfl rfl (max_ok rfl rfl rfl) ?_
 iterate 2 refine AO.pu T ?_
 refine AO.val rfl rfl (negw_ok rfl rfl) ?_
 refine AO.val rfl rfl (max_ok rfl rfl rfl) ?_
 iterate 2 refine AO.pu T ?_
 refine AO.nil ?_
 obtain ⟨o13, hH, hK14⟩ := bindE hH
 refine AW.seqJ (fun s : Int => (⟨[(0, s)], [], 20, []⟩ : St)) (fun s => s = o13) ?_ ?_
 refine AW.block ?_
 refine AW.loopS (fun s : Nat × Int × Int => (⟨[(0, s.2.1), (1, s.2.2)], [], 20, []⟩ : St)) (fun s => impl_gcdOf_l1 s.1 s.2.1 s.2.2 = some o13) (fun s => s.1) (fuel, (max a (w64 (-a))), (max b (w64 (-b)))) hH ?_ ?_
 exact Le.ct 0 0
 rintro ⟨k15, v22, v23⟩ hH
 replace hH : impl_gcdOf_l1 k15 v22 v23 = some o13 := hH
 try dsimp only
 rcases k15 with _ | k15
 cases (show none = some _ from hH)
 rw [impl_gcdOf_l1] at hH
 iterate 2 refine AW.seq ?_
 refine AW.region ?_
 iterate 2 refine AO.pu T ?_
 refine AO.nil ?_
 refine AW.cond (b := (v23 != 0)) rfl (fun hc => ?_) (fun hc => ?_)
 replace hH := condT hc hH
 refine AW.skip ?_
 refine AW.block ?_
 obtain ⟨u25, hx26, hH⟩ := bindE hH
 refine AW.drawn 5 1 [] mix (by kernel_rfl) rfl ?_
 iterate 3 refine AD.pure T rfl rfl rfl ?_
 refine AD.val rfl rfl (rem_ok rfl rfl rfl (neZ (needT (hx26)))) ?_
 refine AD.pure T rfl rfl rfl ?_
 refine AD.nil ?_
 refine AO.pu T ?_
 refine AO.nil ?_
 refine ⟨(k15, v23, (v22.tmod v23)), hH, Nat.lt_succ_self _, ?_⟩
 exact Le.ct 0 0
 replace hH := condF hc hH
 refine AW.exit ?_
 refine ⟨_, someE hH, ?_⟩
 exact Le.ct 0 0
 rintro v12 hs
 subst hs
 replace hH := hK14
 try dsimp only [flow, flowE] at hH
 try dsimp only
 refine AW.seq (AW.region ?_)
 iterate 2 refine AO.pu T ?_
 refine AO.nil (AW.ret ?_)
 cases someE hH
 exact retQ.i [] rfl (.c (.c .v))

def impl_lowestTerms_p (fuel : Nat) (a : Int) (b : Int) : Option (Int × Int) :=
  (impl_gcdOf_p fuel a b).bind fun x1 =>
  (need (x1 != 0)).bind fun u3 =>
  some (w64 (a.tdiv x1), w64 (b.tdiv x1))
theorem impl_lowestTerms_ok (fuel : Nat) (a : Int) (b : Int) (r : (Int × Int)) (hH : impl_lowestTerms_p fuel a b = some r) : SpecR Try.prog 88 [a, b] (.t [.v (.int .i64 r.1), .v (.int .i64 r.2)]) := by
 refine fn_ok T Try.func88 rfl (by decide) rfl ?_
 refine AW.seq (AW.region ?_)
 iterate 2 refine AO.pu T ?_
 refine AO.nil (AW.seq ?_)
 obtain ⟨x1, hx2, hH⟩ := bindE hH
 refine AW.region ?_
 iterate 2 refine AO.pu T ?_
 refine AO.val rfl rfl (callV_ok rfl rfl rfl rfl (impl_gcdOf_ok fuel _ _ _ (hx2)) rfl) ?_
 refine AO.pu T ?_
 refine AO.nil (AW.seq ?_)
 obtain ⟨u3, hx4, hH⟩ := bindE hH
 refine AW.drawn 7 1 [] mix (by kernel_rfl) rfl ?_
 iterate 2 refine AD.pure T rfl rfl rfl ?_
 refine AD.val rfl rfl (quow_ok rfl rfl rfl (neZ (needT (hx4)))) ?_
 iterate 2 refine AD.pure T rfl rfl rfl ?_
 refine AD.val rfl rfl (quow_ok rfl rfl rfl (neZ (needT (hx4)))) ?_
 refine AD.pure T rfl rfl rfl ?_
 refine AD.nil ?_
 refine AO.pu T ?_
 refine AO.nil (AW.ret ?_)
 cases someE hH
 exact retQ.i [] rfl (.t (expLG_cons (.c .v) (expLG_cons (.c .v) (expLG_nil))))

def impl_MeanRange_p (fuel : Nat) (l : List Int) (k : Int) (low : Int) (high : Int) : Option (Int × Int × Int × Int × Bool) :=
  (impl_isMarkRange_p l k low high).bind fun x1 =>
  cond (!x1)
    (some (0, 0, 0, 0, false))
    ((impl_withMark_p l k low).bind fun x3 =>
    (impl_trimmedSum_p fuel x3).bind fun x5 =>
    (impl_lowestTerms_p fuel x5.1 x5.2).bind fun x7 =>
    (impl_withMark_p l k high).bind fun x9 =>
    (impl_trimmedSum_p fuel x9).bind fun x11 =>
    (impl_lowestTerms_p fuel x11.1 x11.2).bind fun x13 =>
    some (x7.1, x7.2, x13.1, x13.2, true))
theorem impl_MeanRange_ok (fuel : Nat) (l : List Int) (k : Int) (low : Int) (high : Int) (r : (Int × Int × Int × Int × Bool)) (hH : impl_MeanRange_p fuel l k low high = some r) : SpecR Try.prog 27 [.s (List.map encInt l), k, low, high] (.t [.v (.int .i64 r.1), .v (.int .i64 r.2.1), .v (.int .i64 r.2.2.1), .v (.int .i64 r.2.2.2.1), .v (.bool r.2.2.2.2)]) := by
 refine fn_ok T Try.func27 rfl (by decide) rfl ?_
 refine AW.seq (AW.region ?_)
 iterate 5 refine AO.pu T ?_
 refine AO.nil ?_
 iterate 2 refine AW.seq ?_
 obtain ⟨x1, hx2, hH⟩ := bindE hH
 refine AW.region ?_
 iterate 4 refine AO.pu T ?_
 refine AO.val rfl rfl (callV_ok rfl rfl rfl rfl (impl_isMarkRange_ok _ _ _ _ _ (hx2)) rfl) ?_
 refine AO.pu T ?_
 refine AO.nil ?_
 refine AW.cond (b := (!x1)) rfl (fun hc => ?_) (fun hc => ?_)
 replace hH := condT hc hH
 refine AW.seq (AW.region ?_)
 iterate 5 refine AO.pu T ?_
 refine AO.nil (AW.ret ?_)
 cases someE hH
 exact retQ.i [] rfl (.t (expLG_cons (.c .v) (expLG_cons (.c .v) (expLG_cons (.c .v) (expLG_cons (.c .v) (expLG_cons (.c .v) (expLG_nil)))))))
 replace hH := condF hc hH
 refine AW.skip ?_
 refine AW.seq ?_
 obtain ⟨x3, hx4, hH⟩ := bindE hH
 obtain ⟨x5, hx6, hH⟩ := bindE hH
 obtain ⟨x7, hx8, hH⟩ := bindE hH
 refine AW.region ?_
 iterate 3 refine AO.pu T ?_
 refine AO.step rfl (call_ok rfl 1 rfl rfl rfl (impl_withMark_ok _ _ _ _ (hx4)) rfl rfl rfl) ?_
 refine AO.val rfl rfl (callLV_ok rfl rfl rfl (es := [.s (List.map encInt x3)]) ⟨(.rowR rfl (.map fun y => .vs rfl)), trivial⟩ (impl_trimmedSum_ok fuel _ _ (hx6)) (zfree_t (zfl (.cons (zfree_v _) (.cons (zfree_v _) .nil)))) rfl) ?_
 iterate 2 refine AO.pu T ?_
 refine AO.val rfl rfl (callV_ok rfl rfl rfl rfl (impl_lowestTerms_ok fuel _ _ _ (hx8)) rfl) ?_
 iterate 5 refine AO.pu T ?_
 refine AO.nil ?_
 refine AW.le (Le.ct 0 0 (σ' := (⟨[(0, .s (List.map encInt l)), (1, k), (3, high), (13, x7.1), (14, x7.2)], [], 49, []⟩ : St))) ?_
 refine AW.seq ?_
 obtain ⟨x9, hx10, hH⟩ := bindE hH
 obtain ⟨x11, hx12, hH⟩ := bindE hH
 obtain ⟨x13, hx14, hH⟩ := bindE hH
 refine AW.region ?_
 iterate 3 refine AO.pu T ?_
 refine AO.step rfl (call_ok rfl 2 rfl rfl rfl (impl_withMark_ok _ _ _ _ (hx10)) rfl rfl rfl) ?_
 refine AO.val rfl rfl (callLV_ok rfl rfl rfl (es := [.s (List.map encInt x9)]) ⟨(.rowR rfl (.map fun y => .vs rfl)), trivial⟩ (impl_trimmedSum_ok fuel _ _ (hx12)) (zfree_t (zfl (.cons (zfree_v _) (.cons (zfree_v _) .nil)))) rfl) ?_
 iterate 2 refine AO.pu T ?_
 refine AO.val rfl rfl (callV_ok rfl rfl rfl rfl (impl_lowestTerms_ok fuel _ _ _ (hx14)) rfl) ?_
 iterate 5 refine AO.pu T ?_
 refine AO.nil (AW.seq ?_)
 refine AW.region ?_
 iterate 9 refine AO.pu T ?_
 refine AO.nil (AW.ret ?_)
 cases someE hH
 exact retQ.i [] rfl (.t (expLG_cons (.c .v) (expLG_cons (.c .v) (expLG_cons (.c .v) (expLG_cons (.c .v) (expLG_cons (.c .v) (expLG_nil)))))))

def spec_l1In_p (n : Int) (lo : Int) (hi : Int) : Option Bool :=
  some (decide (n ≥ lo) && decide (n ≤ hi))
theorem spec_l1In_ok (n : Int) (lo : Int) (hi : Int) (r : Bool) (hH : spec_l1In_p n lo hi = some r) : SpecR Try.prog 60 [n, lo, hi] (.v (.bool r)) := by
 refine fn_ok T Try.func60 rfl (by decide) rfl ?_
 refine AW.seq (AW.region ?_)
 refine AO.pu T ?_
 refine AO.nil (AW.seq ?_)
 refine AW.region ?_
 iterate 4 refine AO.pu T ?_
 iterate 2 refine AO.pureG T [] rfl trivial rfl rfl ?_
 refine AO.pureG T [11, 12] rfl ⟨fun h => h, fun h => h, trivial⟩ rfl rfl ?_
 refine AO.val rfl rfl (pick_and rfl rfl rfl rfl) ?_
 refine AO.pu T ?_
 refine AO.nil (AW.ret ?_)
 cases someE hH
 exact retQ.i [] rfl (.c (.c .v))

def spec_l1All_l1 (lo : Int) (hi : Int) : List Int → Nat → Option Bool
  | [], k1 =>
    some true
  | y2 :: ys3, k1 =>
    (spec_l1In_p y2 lo hi).bind fun x12 =>
    cond (!x12)
      (some false)
      (spec_l1All_l1 lo hi ys3 (k1 + 1))
def spec_l1All_p (l : List Int) (lo : Int) (hi : Int) : Option Bool :=
  spec_l1All_l1 lo hi l 0
theorem spec_l1All_ok (l : List Int) (lo : Int) (hi : Int) (r : Bool) (hH : spec_l1All_p l lo hi = some r) : SpecR Try.prog 113 [.s (List.map encInt l), lo, hi] (.v (.bool r)) := by
 refine fn_ok T Try.func113 rfl (by decide) rfl ?_
 refine AW.seq (AW.region ?_)
 refine AO.pu T ?_
 refine AO.nil ?_
 iterate 2 refine AW.seq ?_
 refine AW.region ?_
 refine AO.pu T ?_
 refine AO.val rfl rfl (len_map_ok T rfl rfl rfl) ?_
 refine AO.pu T ?_
 refine AO.nil ?_
 refine AW.block ?_
 refine AW.loopS (fun s : Nat => (⟨[(1, lo), (2, hi), (9, .s (List.map encInt l)), (10, (l.length : Int)), (11, (s : Int))], [], 21, []⟩ : St)) (fun s => s ≤ l.length ∧ spec_l1All_l1 lo hi (l.drop s) s = some r) (fun s => l.length - s) 0 ⟨Nat.zero_le _, hH⟩ ?_ ?_
 exact Le.ct 0 0
 rintro k1 ⟨hk, hH⟩
 replace hH : spec_l1All_l1 lo hi (l.drop k1) k1 = some r := hH
 try dsimp only
 refine AW.boundM (t := 9) (l := l) rfl (fun hb5 => ?_)
 rcases hd4 : l.drop k1 with _ | ⟨y2, ys3⟩
 rw [hd4, spec_l1All_l1] at hH
 have hlt6 := drop_ge hd4
 refine AW.seq (AW.region ?_)
 refine AO.pu T ?_
 refine AO.nil (AW.seq ?_)
 refine AW.condF' (b := decide ((k1 : Int) < (l.length : Int))) rfl (rngF hlt6) ?_
 refine AW.exit ?_
 refine AW.seq (AW.region ?_)
 refine AO.pu T ?_
 refine AO.nil (AW.ret ?_)
 cases someE hH
 exact retQ.i [] rfl (.c (.c .v))
 rw [hd4, spec_l1All_l1] at hH
 have hlt6 := drop_lt hd4
 refine AW.seq (AW.region ?_)
 refine AO.pu T ?_
 refine AO.nil (AW.seq ?_)
 refine AW.condT' (b := decide ((k1 : Int) < (l.length : Int))) rfl (rngT hlt6) ?_
 refine AW.skip ?_
 refine AW.seq ?_
 refine AW.block ?_
 refine AW.seq (AW.region ?_)
 refine AO.val rfl rfl (ix_map_ok T rfl rfl rfl rfl rfl (getI_drop hd4) rfl) ?_
 iterate 2 refine AO.pu T ?_
 refine AO.nil (AW.seq ?_)
 obtain ⟨x12, hx13, hH⟩ := bindE hH
 refine AW.region ?_
 iterate 3 refine AO.pu T ?_
 refine AO.val rfl rfl (callV_ok rfl rfl rfl rfl (spec_l1In_ok _ _ _ _ (hx13)) rfl) ?_
 refine AO.pu T ?_
 refine AO.nil ?_
 refine AW.cond (b := (!x12)) rfl (fun hc => ?_) (fun hc => ?_)
 replace hH := condT hc hH
 refine AW.seq (AW.region ?_)
 refine AO.pu T ?_
 refine AO.nil (AW.ret ?_)
 cases someE hH
 exact retQ.i [] rfl (.c (.c .v))
 replace hH := condF hc hH
 refine AW.skip ?_
 refine AW.region ?_
 refine AO.val rfl rfl (ar_ok rfl rfl rfl rfl (inI_succ hlt6 hb5)) ?_
 refine AO.pu T ?_
 refine AO.nil ?_
 refine ⟨k1 + 1, ⟨Nat.succ_le_of_lt hlt6, (by rw [drop_succ_of hd4]; exact hH)⟩, (by have := hlt6; dsimp only; omega), ?_⟩
 exact Le.ct 0 0

def spec_tmGood_p (l : List Int) : Option Bool :=
  (spec_l1In_p (l.length : Int) 1 9).bind fun x1 =>
  (opt x1 default (spec_l1All_p l (-1000) 1000)).bind fun x3 =>
  some (x1 && x3)
theorem spec_tmGood_ok (l : List Int) (r : Bool) (hH : spec_tmGood_p l = some r) : SpecR Try.prog 103 [.s (List.map encInt l)] (.v (.bool r)) := by
 refine fn_ok T Try.func103 rfl (by decide) rfl ?_
 refine AW.seq (AW.region ?_)
 refine AO.pu T ?_
 refine AO.nil (AW.seq ?_)
 obtain ⟨x1, hx2, hH⟩ := bindE hH
 obtain ⟨x3, hx4, hH⟩ := bindE hH
 refine AW.region ?_
 refine AO.pu T ?_
 refine AO.val rfl rfl (len_map_ok T rfl rfl rfl) ?_
 refine AO.val rfl rfl (callV_ok rfl rfl rfl rfl (spec_l1In_ok _ _ _ _ (hx2)) rfl) ?_
 refine AO.pu T ?_
 refine AO.pureG T [] rfl trivial rfl rfl ?_
 refine AO.guard [7] rfl ⟨fun h => h, trivial⟩ (fun hg => callV_ok rfl rfl rfl rfl (spec_l1All_ok _ _ _ _ (optT hx4 hg)) rfl) rfl ?_
 refine AO.val rfl rfl (pick_and rfl rfl rfl rfl) ?_
 refine AO.pu T ?_
 refine AO.nil (AW.ret ?_)
 cases someE hH
 exact retQ.i [] rfl (.c (.c .v))

def spec_tmHas_p (l : List Int) (k : Int) : Option Bool :=
  (spec_tmGood_p l).bind fun x1 =>
  (opt x1 default (spec_l1In_p k 0 (w64 ((l.length : Int) - 1)))).bind fun x3 =>
  some (x1 && x3)
theorem spec_tmHas_ok (l : List Int) (k : Int) (r : Bool) (hH : spec_tmHas_p l k = some r) : SpecR Try.prog 98 [.s (List.map encInt l), k] (.v (.bool r)) := by
 refine fn_ok T Try.func98 rfl (by decide) rfl ?_
 refine AW.seq (AW.region ?_)
 refine AO.pu T ?_
 refine AO.nil (AW.seq ?_)
 obtain ⟨x1, hx2, hH⟩ := bindE hH
 obtain ⟨x3, hx4, hH⟩ := bindE hH
 refine AW.region ?_
 refine AO.pu T ?_
 refine AO.val rfl rfl (callV_ok rfl rfl rfl rfl (spec_tmGood_ok _ _ (hx2)) rfl) ?_
 refine AO.pu T ?_
 iterate 2 refine AO.pureG T [] rfl trivial rfl rfl ?_
 refine AO.guard [9] rfl ⟨fun h => h, trivial⟩ (fun hg => len_map_ok T rfl rfl rfl) rfl ?_
 refine AO.guard [10] rfl ⟨fun h => h, trivial⟩ (fun hg => arw_ok rfl rfl rfl rfl) rfl ?_
 refine AO.guard [8, 11] rfl ⟨fun h => h, fun h => h, trivial⟩ (fun hg => callV_ok rfl rfl rfl rfl (spec_l1In_ok _ _ _ _ (optT hx4 hg)) rfl) rfl ?_
 refine AO.val rfl rfl (pick_and rfl rfl rfl rfl) ?_
 refine AO.pu T ?_
 refine AO.nil (AW.ret ?_)
 cases someE hH
 exact retQ.i [] rfl (.c (.c .v))

def spec_tmAsked_p (l : List Int) (k : Int) (low : Int) (high : Int) : Option Bool :=
  (spec_tmHas_p l k).bind fun x1 =>
  (opt x1 default (spec_l1In_p low (-1000) high)).bind fun x3 =>
  (opt (x1 && x3) default (spec_l1In_p high low 1000)).bind fun x5 =>
  some ((x1 && x3) && x5)
theorem spec_tmAsked_ok (l : List Int) (k : Int) (low : Int) (high : Int) (r : Bool) (hH : spec_tmAsked_p l k low high = some r) : SpecR Try.prog 91 [.s (List.map encInt l), k, low, high] (.v (.bool r)) := by
 refine fn_ok T Try.func91 rfl (by decide) rfl ?_
 refine AW.seq (AW.region ?_)
 refine AO.pu T ?_
 refine AO.nil (AW.seq ?_)
 obtain ⟨x1, hx2, hH⟩ := bindE hH
 obtain ⟨x3, hx4, hH⟩ := bindE hH
 obtain ⟨x5, hx6, hH⟩ := bindE hH
 refine AW.region ?_
 iterate 2 refine AO.pu T ?_
 refine AO.val rfl rfl (callV_ok rfl rfl rfl rfl (spec_tmHas_ok _ _ _ (hx2)) rfl) ?_
 refine AO.pu T ?_
 iterate 2 refine AO.pureG T [] rfl trivial rfl rfl ?_
 refine AO.guard [13, 14] rfl ⟨fun h => h, fun h => h, trivial⟩ (fun hg => callV_ok rfl rfl rfl rfl (spec_l1In_ok _ _ _ _ (optT hx4 hg)) rfl) rfl ?_
 refine AO.val rfl rfl (pick_and rfl rfl rfl rfl) ?_
 refine AO.pu T ?_
 iterate 2 refine AO.pureG T [] rfl trivial rfl rfl ?_
 refine AO.guard [18, 19] rfl ⟨fun h => h, fun h => h, trivial⟩ (fun hg => callV_ok rfl rfl rfl rfl (spec_l1In_ok _ _ _ _ (optT hx6 hg)) rfl) rfl ?_
 refine AO.val rfl rfl (pick_and rfl rfl rfl rfl) ?_
 refine AO.pu T ?_
 refine AO.nil (AW.ret ?_)
 cases someE hH
 exact retQ.i [] rfl (.c (.c .v))

def spec_l1Own_p (l : List Int) : Option (List Int) :=
  (need (fitsB 8 l.length)).bind fun u1 =>
  some l
theorem spec_l1Own_ok (l : List Int) (r : (List Int)) (hH : spec_l1Own_p l = some r) : SpecR Try.prog 112 [.s (List.map encInt l)] (.w 1 (r.map encInt)) := by
 refine fn_ok T Try.func112 rfl (by decide) rfl ?_
 refine AW.seq (AW.region ?_)
 refine AO.pu T ?_
 refine AO.nil (AW.seq ?_)
 obtain ⟨u1, hx2, hH⟩ := bindE hH
 refine AW.region ?_
 refine AO.step rfl (mk0_ok T rfl rfl rfl rfl) ?_
 refine AO.pu T ?_
 refine AO.step rfl (app_ws_map T rfl 1 rfl rfl rfl rfl rfl (by decide) (by decide) rfl rfl (fun _ => rfl) (needT (hx2)) rfl rfl) ?_
 refine AO.pu T ?_
 refine AO.nil (AW.ret ?_)
 cases someE hH
 exact retQ.i [1] rfl (.c (.c (.rowR rfl)))

def spec_tmWith_p (l : List Int) (k : Int) (mark : Int) : Option (List Int) :=
  (spec_l1Own_p l).bind fun x1 =>
  (getI x1 k).bind fun x3 =>
  some (x1.set k.toNat mark)
theorem spec_tmWith_ok (l : List Int) (k : Int) (mark : Int) (r : (List Int)) (hH : spec_tmWith_p l k mark = some r) : SpecR Try.prog 94 [.s (List.map encInt l), k, mark] (.w 1 (r.map encInt)) := by
 refine fn_ok T Try.func94 rfl (by decide) rfl ?_
 refine AW.seq (AW.region ?_)
 refine AO.pu T ?_
 refine AO.nil (AW.seq ?_)
 obtain ⟨x1, hx2, hH⟩ := bindE hH
 refine AW.region ?_
 refine AO.pu T ?_
 refine AO.step rfl (call_ok rfl 1 rfl rfl rfl (spec_l1Own_ok _ _ (hx2)) rfl rfl rfl) ?_
 refine AO.pu T ?_
 refine AO.nil (AW.seq ?_)
 obtain ⟨x3, hx4, hH⟩ := bindE hH
 refine AW.region ?_
 iterate 3 refine AO.pu T ?_
 refine AO.val rfl rfl (ix_row_ok T rfl rfl rfl rfl rfl rfl (hx4)) ?_
 refine AO.step rfl (store_row_ok T rfl rfl rfl rfl rfl (getI_get (hx4)) rfl rfl rfl rfl (u' := mark) rfl rfl) ?_
 refine AO.nil (AW.seq ?_)
 refine AW.region ?_
 iterate 2 refine AO.pu T ?_
 refine AO.nil (AW.ret ?_)
 cases someE hH
 exact retQ.i [1] rfl (.c (.c (.rowR rfl)))

def spec_poSum_l1 : List Int → Nat → Int → Option Int
  | [], k1, v8 =>
    some v8
  | y2 :: ys3, k1, v8 =>
    spec_poSum_l1 ys3 (k1 + 1) (w64 (v8 + y2))
def spec_poSum_p (l : List Int) : Option Int :=
  spec_poSum_l1 l 0 0
theorem spec_poSum_ok (l : List Int) (r : Int) (hH : spec_poSum_p l = some r) : SpecR Try.prog 130 [.s (List.map encInt l)] (.v (.int .i64 r)) := by
 refine fn_ok T Try.func130 rfl (by decide) rfl ?_
 refine AW.seq (AW.region ?_)
 refine AO.pu T ?_
 refine AO.nil (AW.seq ?_)
 refine AW.region ?_
 refine AO.pu T ?_
 refine AO.nil ?_
 iterate 2 refine AW.seq ?_
 refine AW.region ?_
 refine AO.pu T ?_
 refine AO.val rfl rfl (len_map_ok T rfl rfl rfl) ?_
 refine AO.pu T ?_
 refine AO.nil ?_
 refine AW.block ?_
 refine AW.loopS (fun s : Nat × Int => (⟨[(3, s.2), (6, .s (List.map encInt l)), (7, (l.length : Int)), (8, (s.1 : Int))], [], 17, []⟩ : St)) (fun s => s.1 ≤ l.length ∧ spec_poSum_l1 (l.drop s.1) s.1 s.2 = some r) (fun s => l.length - s.1) (0, 0) ⟨Nat.zero_le _, hH⟩ ?_ ?_
 exact Le.ct 0 0
 rintro ⟨k1, v8⟩ ⟨hk, hH⟩
 replace hH : spec_poSum_l1 (l.drop k1) k1 v8 = some r := hH
 try dsimp only
 refine AW.boundM (t := 6) (l := l) rfl (fun hb5 => ?_)
 rcases hd4 : l.drop k1 with _ | ⟨y2, ys3⟩
 rw [hd4, spec_poSum_l1] at hH
 have hlt6 := drop_ge hd4
 refine AW.seq (AW.region ?_)
 refine AO.pu T ?_
 refine AO.nil (AW.seq ?_)
 refine AW.condF' (b := decide ((k1 : Int) < (l.length : Int))) rfl (rngF hlt6) ?_
 refine AW.exit ?_
 refine AW.seq (AW.region ?_)
 iterate 2 refine AO.pu T ?_
 refine AO.nil (AW.ret ?_)
 cases someE hH
 exact retQ.i [] rfl (.c (.c .v))
 rw [hd4, spec_poSum_l1] at hH
 have hlt6 := drop_lt hd4
 refine AW.seq (AW.region ?_)
 refine AO.pu T ?_
 refine AO.nil (AW.seq ?_)
 refine AW.condT' (b := decide ((k1 : Int) < (l.length : Int))) rfl (rngT hlt6) ?_
 refine AW.skip ?_
 refine AW.seq ?_
 refine AW.block ?_
 refine AW.seq (AW.region ?_)
 refine AO.val rfl rfl (ix_map_ok T rfl rfl rfl rfl rfl (getI_drop hd4) rfl) ?_
 iterate 2 refine AO.pu T ?_
 refine AO.nil ?_
 refine AW.region ?_
 iterate 2 refine AO.pu T ?_
 refine AO.val rfl rfl (arw_ok rfl rfl rfl rfl) ?_
 refine AO.pu T ?_
 refine AO.nil ?_
 refine AW.region ?_
 refine AO.val rfl rfl (ar_ok rfl rfl rfl rfl (inI_succ hlt6 hb5)) ?_
 refine AO.pu T ?_
 refine AO.nil ?_
 refine ⟨(k1 + 1, w64 (v8 + y2)), ⟨Nat.succ_le_of_lt hlt6, (by rw [drop_succ_of hd4]; exact hH)⟩, (by have := hlt6; dsimp only; omega), ?_⟩
 exact Le.ct 0 0

def spec_poSorted_l2 (y2 : Int) (v105 : List Int) : Nat → Int → Option Int
  | 0, _ => none
  | k153 + 1, v159 =>
    (opt (decide (v159 > 0)) default (getI v105 (w64 (v159 - 1)))).bind fun x161 =>
    cond (decide (v159 > 0) && decide (x161 < y2))
      (spec_poSorted_l2 y2 v105 k153 (w64 (v159 - 1)))
      (some v159)
def spec_poSorted_l1 (fuel : Nat) : List Int → Nat → List Int → Option ((List Int))
  | [], k1, v105 =>
    some v105
  | y2 :: ys3, k1, v105 =>
    ((spec_poSorted_l2 y2 v105 fuel (v105.length : Int)).bind fun v150 =>
    (sliceHi v105 v150).bind fun x163 =>
    (need (fitsB 8 x163.length)).bind fun u165 =>
    (need (fitsB 8 (x163.length + ([y2]).length))).bind fun u167 =>
    (sliceLo v105 v150).bind fun x169 =>
    (need (fitsB 8 (((x163 ++ [y2])).length + x169.length))).bind fun u171 =>
    some ((x163 ++ [y2]) ++ x169)).bind fun v138 =>
    spec_poSorted_l1 fuel ys3 (k1 + 1) v138
def spec_poSorted_p (fuel : Nat) (l : List Int) : Option (List Int) :=
  spec_poSorted_l1 fuel l 0 []
theorem spec_poSorted_ok (fuel : Nat) (l : List Int) (r : (List Int)) (hH : spec_poSorted_p fuel l = some r) : SpecR Try.prog 131 [.s (List.map encInt l)] (.w 1 (r.map encInt)) := by
 refine fn_ok T Try.func131 rfl (by decide) rfl ?_
 refine AW.seq (AW.region ?_)
 refine AO.pu T ?_
 refine AO.nil (AW.seq ?_)
 refine AW.region ?_
 refine AO.pu T ?_
 refine AO.nil ?_
 iterate 2 refine AW.seq ?_
 refine AW.region ?_
 refine AO.pu T ?_
 refine AO.val rfl rfl (len_map_ok T rfl rfl rfl) ?_
 refine AO.pu T ?_
 refine AO.nil ?_
 refine AW.block ?_
 refine AW.loopS (fun s : Nat × (List Int) => (⟨[(3, .R 12), (7, .s (List.map encInt l)), (8, (l.length : Int)), (9, (s.1 : Int))], [(12, .row 1 (List.map encInt s.2))], 42, []⟩ : St)) (fun s => s.1 ≤ l.length ∧ spec_poSorted_l1 fuel (l.drop s.1) s.1 s.2 = some r) (fun s => l.length - s.1) (0, []) ⟨Nat.zero_le _, hH⟩ ?_ ?_
 refine Le.trans (Le.void 3 12 1 rfl rfl) ?_
 exact Le.ct 0 0
 rintro ⟨k1, v105⟩ ⟨hk, hH⟩
 replace hH : spec_poSorted_l1 fuel (l.drop k1) k1 v105 = some r := hH
 try dsimp only
 refine AW.boundM (t := 7) (l := l) rfl (fun hb5 => ?_)
 rcases hd4 : l.drop k1 with _ | ⟨y2, ys3⟩
 rw [hd4, spec_poSorted_l1] at hH
 have hlt6 := drop_ge hd4
 refine AW.seq (AW.region ?_)
 refine AO.pu T ?_
 refine AO.nil (AW.seq ?_)
 refine AW.condF' (b := decide ((k1 : Int) < (l.length : Int))) rfl (rngF hlt6) ?_
 refine AW.exit ?_
 refine AW.seq (AW.region ?_)
 iterate 2 refine AO.pu T ?_
 refine AO.nil (AW.ret ?_)
 cases someE hH
 exact retQ.i [12] rfl (.c (.c (.rowR rfl)))
 rw [hd4, spec_poSorted_l1] at hH
 have hlt6 := drop_lt hd4
 refine AW.seq (AW.region ?_)
 refine AO.pu T ?_
 refine AO.nil (AW.seq ?_)
 refine AW.condT' (b := decide ((k1 : Int) < (l.length : Int))) rfl (rngT hlt6) ?_
 refine AW.skip ?_
 obtain ⟨o139, hH, hK140⟩ := bindE hH
 refine AW.seqJ (fun s : List Int => (⟨[(3, .R 20), (7, .s (List.map encInt l)), (8, (l.length : Int)), (9, (k1 : Int))], [(20, .row 1 (List.map encInt s))], 42, []⟩ : St)) (fun s => s = o139) ?_ ?_
 refine AW.block ?_
 refine AW.seq (AW.region ?_)
 refine AO.val rfl rfl (ix_map_ok T rfl rfl rfl rfl rfl (getI_drop hd4) rfl) ?_
 iterate 2 refine AO.pu T ?_
 refine AO.nil (AW.seq ?_)
 refine AW.region ?_
 refine AO.pu T ?_
 refine AO.val rfl rfl (len_row_ok T rfl rfl rfl rfl) ?_
 refine AO.pu T ?_
 refine AO.nil ?_
 obtain ⟨o151, hH, hK152⟩ := bindE hH
 refine AW.seqJ (fun s : Int => (⟨[(3, .R 12), (5, y2), (6, s), (7, .s (List.map encInt l)), (8, (l.length : Int)), (9, (k1 : Int))], [(12, .row 1 (List.map encInt v105))], 42, []⟩ : St)) (fun s => s = o151) ?_ ?_
 refine AW.block ?_
 refine AW.loopS (fun s : Nat × Int => (⟨[(3, .R 12), (5, y2), (6, s.2), (7, .s (List.map encInt l)), (8, (l.length : Int)), (9, (k1 : Int))], [(12, .row 1 (List.map encInt v105))], 42, []⟩ : St)) (fun s => spec_poSorted_l2 y2 v105 s.1 s.2 = some o151) (fun s => s.1) (fuel, (v105.length : Int)) hH ?_ ?_
 exact Le.ct 0 0
 rintro ⟨k153, v159⟩ hH
 replace hH : spec_poSorted_l2 y2 v105 k153 v159 = some o151 := hH
 try dsimp only
 rcases k153 with _ | k153
 cases (show none = some _ from hH)
 rw [spec_poSorted_l2] at hH
 iterate 2 refine AW.seq ?_
 obtain ⟨x161, hx162, hH⟩ := bindE hH
 refine AW.region ?_
 iterate 3 refine AO.pu T ?_
 iterate 2 refine AO.pureG T [] rfl trivial rfl rfl ?_
 refine AO.guard [19] rfl ⟨fun h => h, trivial⟩ (fun hg => arw_ok rfl rfl rfl rfl) rfl ?_
 refine AO.guard [18, 20] rfl ⟨fun h => h, fun h => h, trivial⟩ (fun hg => ix_row_ok T rfl rfl rfl rfl rfl rfl (optT hx162 hg)) rfl ?_
 refine AO.guard [21] rfl ⟨fun h => h, trivial⟩ (fun hg => load_row_ok T rfl rfl rfl rfl (getI_get (optT hx162 hg)) rfl rfl rfl) rfl ?_
 refine AO.pureG T [] rfl trivial rfl rfl ?_
 refine AO.pureG T [22, 23] rfl ⟨fun h => h, fun h => h, trivial⟩ rfl rfl ?_
 refine AO.val rfl rfl (pick_and rfl rfl rfl rfl) ?_
 refine AO.nil ?_
 refine AW.cond (b := (decide (v159 > 0) && decide (x161 < y2))) rfl (fun hc => ?_) (fun hc => ?_)
 replace hH := condT hc hH
 refine AW.skip ?_
 refine AW.block ?_
 refine AW.region ?_
 refine AO.pu T ?_
 refine AO.val rfl rfl (arw_ok rfl rfl rfl rfl) ?_
 refine AO.pu T ?_
 refine AO.nil ?_
 refine ⟨(k153, w64 (v159 - 1)), hH, Nat.lt_succ_self _, ?_⟩
 exact Le.ct 0 0
 replace hH := condF hc hH
 refine AW.exit ?_
 refine ⟨_, someE hH, ?_⟩
 exact Le.ct 0 0
 rintro v150 hs
 subst hs
 replace hH := hK152
 try dsimp only [flow, flowE] at hH
 try dsimp only
 obtain ⟨x163, hx164, hH⟩ := bindE hH
 obtain ⟨u165, hx166, hH⟩ := bindE hH
 obtain ⟨u167, hx168, hH⟩ := bindE hH
 obtain ⟨x169, hx170, hH⟩ := bindE hH
 obtain ⟨u171, hx172, hH⟩ := bindE hH
 refine AW.le (Le.freezeM 12 (g := encInt) rfl (fun y => .vs rfl)) ?_
 refine AW.drawn 11 21 [] mix (by kernel_rfl) rfl ?_
 refine AD.v (FStep.mk0 T rfl rfl rfl rfl rfl) ?_
 iterate 2 refine AD.pure T rfl rfl rfl ?_
 refine AD.val rfl rfl (slice_hi_map_ok T rfl rfl rfl rfl rfl (hx164) (fun _ => rfl)) ?_
 refine AD.q (FStep.app_ws T rfl rfl rfl rfl rfl rfl rfl (by decide) (by decide) rfl rfl (fun _ => rfl) (needT (hx166)) rfl) (by simp [namesIn]) (Nat.le_succ _) rfl ?_
 refine AD.pure T rfl rfl rfl ?_
 refine AD.q (FStep.mk T (f := encInt) (l := [y2]) rfl rfl rfl rfl rfl rfl rfl rfl rfl (fun _ => rfl) rfl rfl rfl rfl) (by simp [namesIn]) (Nat.le_succ _) rfl ?_
 refine AD.k rfl rfl (FStep.app_rv T rfl rfl rfl rfl rfl rfl rfl (by decide) rfl rfl rfl rfl (fun _ => rfl) (needT (hx168)) rfl) rfl rfl rfl ?_
 iterate 2 refine AD.pure T rfl rfl rfl ?_
 refine AD.val rfl rfl (slice_lo_map_ok T rfl rfl rfl rfl rfl (hx170) (fun _ => rfl)) ?_
 refine AD.nil ?_
 refine AO.step rfl (app_rs_map T rfl 24 rfl rfl rfl rfl rfl (by decide) (by decide) rfl rfl rfl (fun _ => rfl) (needT (hx172)) rfl rfl) ?_
 refine AO.pu T ?_
 refine AO.nil ?_
 refine ⟨_, someE hH, ?_⟩
 exact Le.ct 24 20
 rintro v138 hs
 subst hs
 replace hH := hK140
 try dsimp only [flow, flowE] at hH
 try dsimp only
 refine AW.region ?_
 refine AO.val rfl rfl (ar_ok rfl rfl rfl rfl (inI_succ hlt6 hb5)) ?_
 refine AO.pu T ?_
 refine AO.nil ?_
 refine ⟨(k1 + 1, v138), ⟨Nat.succ_le_of_lt hlt6, (by rw [drop_succ_of hd4]; exact hH)⟩, (by have := hlt6; dsimp only; omega), ?_⟩
 exact Le.ct 20 12

def spec_tmMean_p (fuel : Nat) (l : List Int) : Option (Int × Int) :=
  (spec_poSum_p l).bind fun x1 =>
  cond (decide ((l.length : Int) < 5))
    (some (x1, (l.length : Int)))
    ((spec_poSorted_p fuel l).bind fun x3 =>
    (getI x3 0).bind fun x5 =>
    (getI x3 (w64 ((x3.length : Int) - 1))).bind fun x7 =>
    some (w64 ((w64 (x1 - x5)) - x7), w64 ((l.length : Int) - 2)))
theorem spec_tmMean_ok (fuel : Nat) (l : List Int) (r : (Int × Int)) (hH : spec_tmMean_p fuel l = some r) : SpecR Try.prog 93 [.s (List.map encInt l)] (.t [.v (.int .i64 r.1), .v (.int .i64 r.2)]) := by
 refine fn_ok T Try.func93 rfl (by decide) rfl ?_
 refine AW.seq (AW.region ?_)
 iterate 2 refine AO.pu T ?_
 refine AO.nil (AW.seq ?_)
 obtain ⟨x1, hx2, hH⟩ := bindE hH
 refine AW.region ?_
 refine AO.pu T ?_
 refine AO.val rfl rfl (callV_ok rfl rfl rfl rfl (spec_poSum_ok _ _ (hx2)) rfl) ?_
 refine AO.pu T ?_
 refine AO.nil ?_
 iterate 2 refine AW.seq ?_
 refine AW.region ?_
 refine AO.pu T ?_
 refine AO.val rfl rfl (len_map_ok T rfl rfl rfl) ?_
 refine AO.pu T ?_
 refine AO.nil ?_
 refine AW.cond (b := decide ((l.length : Int) < 5)) rfl (fun hc => ?_) (fun hc => ?_)
 replace hH := condT hc hH
 refine AW.seq (AW.region ?_)
 iterate 2 refine AO.pu T ?_
 refine AO.val rfl rfl (len_map_ok T rfl rfl rfl) ?_
 iterate 2 refine AO.pu T ?_
 refine AO.nil (AW.ret ?_)
 cases someE hH
 exact retQ.i [] rfl (.t (expLG_cons (.c .v) (expLG_cons (.c .v) (expLG_nil))))
 replace hH := condF hc hH
 refine AW.skip ?_
 refine AW.seq ?_
 obtain ⟨x3, hx4, hH⟩ := bindE hH
 refine AW.region ?_
 refine AO.pu T ?_
 refine AO.step rfl (call_ok rfl 1 rfl rfl rfl (spec_poSorted_ok fuel _ _ (hx4)) rfl rfl rfl) ?_
 refine AO.pu T ?_
 refine AO.nil (AW.seq ?_)
 obtain ⟨x5, hx6, hH⟩ := bindE hH
 obtain ⟨x7, hx8, hH⟩ := bindE hH
 refine AW.drawn 16 2 [] mix (by kernel_rfl) rfl ?_
 iterate 2 refine AD.pure T rfl rfl rfl ?_
 refine AD.val rfl rfl (ix_row_ok T rfl rfl rfl rfl rfl rfl (hx6)) ?_
 refine AD.val rfl rfl (load_row_ok T rfl rfl rfl rfl (getI_get (hx6)) rfl rfl rfl) ?_
 refine AD.val rfl rfl (arw_ok rfl rfl rfl rfl) ?_
 iterate 2 refine AD.pure T rfl rfl rfl ?_
 refine AD.val rfl rfl (len_row_ok T rfl rfl rfl rfl) ?_
 refine AD.val rfl rfl (arw_ok rfl rfl rfl rfl) ?_
 refine AD.val rfl rfl (ix_row_ok T rfl rfl rfl rfl rfl rfl (hx8)) ?_
 refine AD.val rfl rfl (load_row_ok T rfl rfl rfl rfl (getI_get (hx8)) rfl rfl rfl) ?_
 refine AD.val rfl rfl (arw_ok rfl rfl rfl rfl) ?_
 refine AD.pure T rfl rfl rfl ?_
 refine AD.val rfl rfl (len_map_ok T rfl rfl rfl) ?_
 refine AD.val rfl rfl (arw_ok rfl rfl rfl rfl) ?_
 refine AD.pure T rfl rfl rfl ?_
 refine AD.nil ?_
 refine AO.pu T ?_
 refine AO.nil ?_
 refine AW.le (Le.ct 0 0 (σ' := (⟨[(2, w64 ((w64 (x1 - x5)) - x7)), (3, w64 ((l.length : Int) - 2))], [], 31, []⟩ : St))) ?_
 refine AW.ret ?_
 cases someE hH
 exact retQ.i [] rfl (.t (expLG_cons (.c .v) (expLG_cons (.c .v) (expLG_nil))))

def spec_l1Most_p (a : Int) (b : Int) : Option Int :=
  cond (decide (a > b))
    (some a)
    (some b)
theorem spec_l1Most_ok (a : Int) (b : Int) (r : Int) (hH : spec_l1Most_p a b = some r) : SpecR Try.prog 95 [a, b] (.v (.int .i64 r)) := by
 refine fn_ok T Try.func95 rfl (by decide) rfl ?_
 refine AW.seq (AW.region ?_)
 refine AO.pu T ?_
 refine AO.nil ?_
 iterate 2 refine AW.seq ?_
 refine AW.region ?_
 iterate 3 refine AO.pu T ?_
 refine AO.nil ?_
 refine AW.cond (b := decide (a > b)) rfl (fun hc => ?_) (fun hc => ?_)
 replace hH := condT hc hH
 refine AW.seq (AW.region ?_)
 iterate 2 refine AO.pu T ?_
 refine AO.nil (AW.ret ?_)
 cases someE hH
 exact retQ.i [] rfl (.c (.c .v))
 replace hH := condF hc hH
 refine AW.skip ?_
 refine AW.seq (AW.region ?_)
 iterate 2 refine AO.pu T ?_
 refine AO.nil (AW.ret ?_)
 cases someE hH
 exact retQ.i [] rfl (.c (.c .v))

def spec_l1Abs_p (n : Int) : Option Int :=
  (spec_l1Most_p n (w64 (-n))).bind fun x1 =>
  some x1
theorem spec_l1Abs_ok (n : Int) (r : Int) (hH : spec_l1Abs_p n = some r) : SpecR Try.prog 96 [n] (.v (.int .i64 r)) := by
 refine fn_ok T Try.func96 rfl (by decide) rfl ?_
 refine AW.seq (AW.region ?_)
 refine AO.pu T ?_
 refine AO.nil (AW.seq ?_)
 obtain ⟨x1, hx2, hH⟩ := bindE hH
 refine AW.region ?_
 iterate 2 refine AO.pu T ?_
 refine AO.val rfl rfl (negw_ok rfl rfl) ?_
 refine AO.val rfl rfl (callV_ok rfl rfl rfl rfl (spec_l1Most_ok _ _ _ (hx2)) rfl) ?_
 refine AO.pu T ?_
 refine AO.nil (AW.ret ?_)
 cases someE hH
 exact retQ.i [] rfl (.c (.c .v))

def spec_poLowest_l1 : Nat → Int → Int → Option Int
  | 0, _, _ => none
  | k17 + 1, v24, v25 =>
    cond (decide (v25 > 0))
      ((need (v25 != 0)).bind fun u27 =>
      spec_poLowest_l1 k17 v25 (v24.tmod v25))
      (some v24)
def spec_poLowest_p (fuel : Nat) (a : Int) (b : Int) : Option (Int × Int) :=
  (spec_l1Abs_p a).bind fun x1 =>
  (spec_poLowest_l1 fuel x1 b).bind fun v14 =>
  (need (v14 != 0)).bind fun u29 =>
  some (w64 (a.tdiv v14), w64 (b.tdiv v14))
theorem spec_poLowest_ok (fuel : Nat) (a : Int) (b : Int) (r : (Int × Int)) (hH : spec_poLowest_p fuel a b = some r) : SpecR Try.prog 92 [a, b] (.t [.v (.int .i64 r.1), .v (.int .i64 r.2)]) := by
 refine fn_ok T Try.func92 rfl (by decide) rfl ?_
 refine AW.seq (AW.region ?_)
 iterate 2 refine AO.pu T ?_
 refine AO.nil (AW.seq ?_)
 obtain ⟨x1, hx2, hH⟩ := bindE hH
 refine AW.region ?_
 refine AO.pu T ?_
 refine AO.val rfl rfl (callV_ok rfl rfl rfl rfl (spec_l1Abs_ok _ _ (hx2)) rfl) ?_
 iterate 3 refine AO.pu T ?_
 refine AO.nil ?_
 obtain ⟨o15, hH, hK16⟩ := bindE hH
 refine AW.seqJ (fun s : Int => (⟨[(0, a), (1, b), (6, s)], [], 25, []⟩ : St)) (fun s => s = o15) ?_ ?_
 refine AW.block ?_
 refine AW.loopS (fun s : Nat × Int × Int => (⟨[(0, a), (1, b), (6, s.2.1), (7, s.2.2)], [], 25, []⟩ : St)) (fun s => spec_poLowest_l1 s.1 s.2.1 s.2.2 = some o15) (fun s => s.1) (fuel, x1, b) hH ?_ ?_
 exact Le.ct 0 0
 rintro ⟨k17, v24, v25⟩ hH
 replace hH : spec_poLowest_l1 k17 v24 v25 = some o15 := hH
 try dsimp only
 rcases k17 with _ | k17
 cases (show none = some _ from hH)
 rw [spec_poLowest_l1] at hH
 iterate 2 refine AW.seq ?_
 refine AW.region ?_
 iterate 2 refine AO.pu T ?_
 refine AO.nil ?_
 refine AW.cond (b := decide (v25 > 0)) rfl (fun hc => ?_) (fun hc => ?_)
 replace hH := condT hc hH
 refine AW.skip ?_
 refine AW.block ?_
 refine AW.seq ?_
 obtain ⟨u27, hx28, hH⟩ := bindE hH
 refine AW.region ?_
 iterate 2 refine AO.pu T ?_
 refine AO.val rfl rfl (rem_ok rfl rfl rfl (neZ (needT (hx28)))) ?_
 refine AO.pu T ?_
 refine AO.nil (AW.seq ?_)
 refine AW.region ?_
 iterate 2 refine AO.pu T ?_
 refine AO.nil ?_
 refine AW.region ?_
 iterate 2 refine AO.pu T ?_
 refine AO.nil ?_
 refine ⟨(k17, v25, (v24.tmod v25)), hH, Nat.lt_succ_self _, ?_⟩
 exact Le.ct 0 0
 replace hH := condF hc hH
 refine AW.exit ?_
 refine ⟨_, someE hH, ?_⟩
 exact Le.ct 0 0
 rintro v14 hs
 subst hs
 replace hH := hK16
 try dsimp only [flow, flowE] at hH
 try dsimp only
 refine AW.seq ?_
 obtain ⟨u29, hx30, hH⟩ := bindE hH
 refine AW.drawn 7 1 [] mix (by kernel_rfl) rfl ?_
 iterate 2 refine AD.pure T rfl rfl rfl ?_
 refine AD.val rfl rfl (quow_ok rfl rfl rfl (neZ (needT (hx30)))) ?_
 iterate 2 refine AD.pure T rfl rfl rfl ?_
 refine AD.val rfl rfl (quow_ok rfl rfl rfl (neZ (needT (hx30)))) ?_
 refine AD.pure T rfl rfl rfl ?_
 refine AD.nil ?_
 refine AO.pu T ?_
 refine AO.nil (AW.ret ?_)
 cases someE hH
 exact retQ.i [] rfl (.t (expLG_cons (.c .v) (expLG_cons (.c .v) (expLG_nil))))

def spec_MeanRange_p (fuel : Nat) (l : List Int) (k : Int) (low : Int) (high : Int) : Option (Int × Int × Int × Int × Bool) :=
  (spec_tmAsked_p l k low high).bind fun x1 =>
  cond (!x1)
    (some (0, 0, 0, 0, false))
    ((spec_tmWith_p l k low).bind fun x3 =>
    (spec_tmMean_p fuel x3).bind fun x5 =>
    (spec_poLowest_p fuel x5.1 x5.2).bind fun x7 =>
    (spec_tmWith_p l k high).bind fun x9 =>
    (spec_tmMean_p fuel x9).bind fun x11 =>
    (spec_poLowest_p fuel x11.1 x11.2).bind fun x13 =>
    some (x7.1, x7.2, x13.1, x13.2, true))
theorem spec_MeanRange_ok (fuel : Nat) (l : List Int) (k : Int) (low : Int) (high : Int) (r : (Int × Int × Int × Int × Bool)) (hH : spec_MeanRange_p fuel l k low high = some r) : SpecR Try.prog 28 [.s (List.map encInt l), k, low, high] (.t [.v (.int .i64 r.1), .v (.int .i64 r.2.1), .v (.int .i64 r.2.2.1), .v (.int .i64 r.2.2.2.1), .v (.bool r.2.2.2.2)]) := by
 refine fn_ok T Try.func28 rfl (by decide) rfl ?_
 refine AW.seq (AW.region ?_)
 iterate 5 refine AO.pu T ?_
 refine AO.nil ?_
 iterate 2 refine AW.seq ?_
 obtain ⟨x1, hx2, hH⟩ := bindE hH
 refine AW.region ?_
 iterate 4 refine AO.pu T ?_
 refine AO.val rfl rfl (callV_ok rfl rfl rfl rfl (spec_tmAsked_ok _ _ _ _ _ (hx2)) rfl) ?_
 refine AO.pu T ?_
 refine AO.nil ?_
 refine AW.cond (b := (!x1)) rfl (fun hc => ?_) (fun hc => ?_)
 replace hH := condT hc hH
 refine AW.seq (AW.region ?_)
 iterate 5 refine AO.pu T ?_
 refine AO.nil (AW.ret ?_)
 cases someE hH
 exact retQ.i [] rfl (.t (expLG_cons (.c .v) (expLG_cons (.c .v) (expLG_cons (.c .v) (expLG_cons (.c .v) (expLG_cons (.c .v) (expLG_nil)))))))
 replace hH := condF hc hH
 refine AW.skip ?_
 refine AW.seq ?_
 obtain ⟨x3, hx4, hH⟩ := bindE hH
 obtain ⟨x5, hx6, hH⟩ := bindE hH
 obtain ⟨x7, hx8, hH⟩ := bindE hH
 refine AW.region ?_
 iterate 3 refine AO.pu T ?_
 refine AO.step rfl (call_ok rfl 1 rfl rfl rfl (spec_tmWith_ok _ _ _ _ (hx4)) rfl rfl rfl) ?_
 refine AO.val rfl rfl (callLV_ok rfl rfl rfl (es := [.s (List.map encInt x3)]) ⟨(.rowR rfl (.map fun y => .vs rfl)), trivial⟩ (spec_tmMean_ok fuel _ _ (hx6)) (zfree_t (zfl (.cons (zfree_v _) (.cons (zfree_v _) .nil)))) rfl) ?_
 iterate 2 refine AO.pu T ?_
 refine AO.val rfl rfl (callV_ok rfl rfl rfl rfl (spec_poLowest_ok fuel _ _ _ (hx8)) rfl) ?_
 iterate 5 refine AO.pu T ?_
 refine AO.nil ?_
 refine AW.le (Le.ct 0 0 (σ' := (⟨[(0, .s (List.map encInt l)), (1, k), (3, high), (13, x7.1), (14, x7.2)], [], 49, []⟩ : St))) ?_
 refine AW.seq ?_
 obtain ⟨x9, hx10, hH⟩ := bindE hH
 obtain ⟨x11, hx12, hH⟩ := bindE hH
 obtain ⟨x13, hx14, hH⟩ := bindE hH
 refine AW.region ?_
 iterate 3 refine AO.pu T ?_
 refine AO.step rfl (call_ok rfl 2 rfl rfl rfl (spec_tmWith_ok _ _ _ _ (hx10)) rfl rfl rfl) ?_
 refine AO.val rfl rfl (callLV_ok rfl rfl rfl (es := [.s (List.map encInt x9)]) ⟨(.rowR rfl (.map fun y => .vs rfl)), trivial⟩ (spec_tmMean_ok fuel _ _ (hx12)) (zfree_t (zfl (.cons (zfree_v _) (.cons (zfree_v _) .nil)))) rfl) ?_
 iterate 2 refine AO.pu T ?_
 refine AO.val rfl rfl (callV_ok rfl rfl rfl rfl (spec_poLowest_ok fuel _ _ _ (hx14)) rfl) ?_
 iterate 5 refine AO.pu T ?_
 refine AO.nil (AW.seq ?_)
 refine AW.region ?_
 iterate 9 refine AO.pu T ?_
 refine AO.nil (AW.ret ?_)
 cases someE hH
 exact retQ.i [] rfl (.t (expLG_cons (.c .v) (expLG_cons (.c .v) (expLG_cons (.c .v) (expLG_cons (.c .v) (expLG_cons (.c .v) (expLG_nil)))))))

def impl_MostMoved_p (fuel : Nat) (l : List Int) (k : Int) (low : Int) (high : Int) : Option (Int × Int × Bool) :=
  (impl_isMarkRange_p l k low high).bind fun x1 =>
  cond (!x1)
    (some (0, 0, false))
    ((impl_trimmedSum_p fuel l).bind fun x3 =>
    (impl_withMark_p l k low).bind fun x5 =>
    (impl_trimmedSum_p fuel x5).bind fun x7 =>
    (impl_withMark_p l k high).bind fun x9 =>
    (impl_trimmedSum_p fuel x9).bind fun x11 =>
    (impl_lowestTerms_p fuel (max (max (max (w64 (x3.1 - x7.1)) (w64 (x7.1 - x3.1))) (w64 (x11.1 - x3.1))) (w64 (x3.1 - x11.1))) x3.2).bind fun x13 =>
    some (x13.1, x13.2, true))
theorem impl_MostMoved_ok (fuel : Nat) (l : List Int) (k : Int) (low : Int) (high : Int) (r : (Int × Int × Bool)) (hH : impl_MostMoved_p fuel l k low high = some r) : SpecR Try.prog 29 [.s (List.map encInt l), k, low, high] (.t [.v (.int .i64 r.1), .v (.int .i64 r.2.1), .v (.bool r.2.2)]) := by
 refine fn_ok T Try.func29 rfl (by decide) rfl ?_
 refine AW.seq (AW.region ?_)
 iterate 3 refine AO.pu T ?_
 refine AO.nil ?_
 iterate 2 refine AW.seq ?_
 obtain ⟨x1, hx2, hH⟩ := bindE hH
 refine AW.region ?_
 iterate 4 refine AO.pu T ?_
 refine AO.val rfl rfl (callV_ok rfl rfl rfl rfl (impl_isMarkRange_ok _ _ _ _ _ (hx2)) rfl) ?_
 refine AO.pu T ?_
 refine AO.nil ?_
 refine AW.cond (b := (!x1)) rfl (fun hc => ?_) (fun hc => ?_)
 replace hH := condT hc hH
 refine AW.seq (AW.region ?_)
 iterate 3 refine AO.pu T ?_
 refine AO.nil (AW.ret ?_)
 cases someE hH
 exact retQ.i [] rfl (.t (expLG_cons (.c .v) (expLG_cons (.c .v) (expLG_cons (.c .v) (expLG_nil)))))
 replace hH := condF hc hH
 refine AW.skip ?_
 refine AW.seq ?_
 obtain ⟨x3, hx4, hH⟩ := bindE hH
 refine AW.region ?_
 refine AO.pu T ?_
 refine AO.val rfl rfl (callV_ok rfl rfl rfl rfl (impl_trimmedSum_ok fuel _ _ (hx4)) rfl) ?_
 iterate 5 refine AO.pu T ?_
 refine AO.nil (AW.seq ?_)
 obtain ⟨x5, hx6, hH⟩ := bindE hH
 obtain ⟨x7, hx8, hH⟩ := bindE hH
 refine AW.region ?_
 iterate 3 refine AO.pu T ?_
 refine AO.step rfl (call_ok rfl 1 rfl rfl rfl (impl_withMark_ok _ _ _ _ (hx6)) rfl rfl rfl) ?_
 refine AO.val rfl rfl (callLV_ok rfl rfl rfl (es := [.s (List.map encInt x5)]) ⟨(.rowR rfl (.map fun y => .vs rfl)), trivial⟩ (impl_trimmedSum_ok fuel _ _ (hx8)) (zfree_t (zfl (.cons (zfree_v _) (.cons (zfree_v _) .nil)))) rfl) ?_
 iterate 5 refine AO.pu T ?_
 refine AO.nil ?_
 refine AW.le (Le.ct 0 0 (σ' := (⟨[(0, .s (List.map encInt l)), (1, k), (3, high), (11, x3.1), (12, x3.2), (13, x7.1)], [], 66, []⟩ : St))) ?_
 refine AW.seq ?_
 obtain ⟨x9, hx10, hH⟩ := bindE hH
 obtain ⟨x11, hx12, hH⟩ := bindE hH
 refine AW.region ?_
 iterate 3 refine AO.pu T ?_
 refine AO.step rfl (call_ok rfl 2 rfl rfl rfl (impl_withMark_ok _ _ _ _ (hx10)) rfl rfl rfl) ?_
 refine AO.val rfl rfl (callLV_ok rfl rfl rfl (es := [.s (List.map encInt x9)]) ⟨(.rowR rfl (.map fun y => .vs rfl)), trivial⟩ (impl_trimmedSum_ok fuel _ _ (hx12)) (zfree_t (zfl (.cons (zfree_v _) (.cons (zfree_v _) .nil)))) rfl) ?_
 iterate 5 refine AO.pu T ?_
 refine AO.nil (AW.seq ?_)
 obtain ⟨x13, hx14, hH⟩ := bindE hH
 refine AW.region ?_
 iterate 2 refine AO.pu T ?_
 refine AO.val rfl rfl (arw_ok rfl rfl rfl rfl) ?_
 iterate 2 refine AO.pu T ?_
 refine AO.val rfl rfl (arw_ok rfl rfl rfl rfl) ?_
 iterate 2 refine AO.pu T ?_
 refine AO.val rfl rfl (arw_ok rfl rfl rfl rfl) ?_
 iterate 2 refine AO.pu T ?_
 refine AO.val rfl rfl (arw_ok rfl rfl rfl rfl) ?_
 refine AO.val rfl rfl (max4_ok rfl rfl rfl rfl rfl) ?_
 refine AO.pu T ?_
 refine AO.val rfl rfl (callV_ok rfl rfl rfl rfl (impl_lowestTerms_ok fuel _ _ _ (hx14)) rfl) ?_
 iterate 5 refine AO.pu T ?_
 refine AO.nil ?_
 refine AW.le (Le.ct 0 0 (σ' := (⟨[(17, x13.1), (18, x13.2)], [], 66, []⟩ : St))) ?_
 refine AW.seq (AW.region ?_)
 iterate 5 refine AO.pu T ?_
 refine AO.nil (AW.ret ?_)
 cases someE hH
 exact retQ.i [] rfl (.t (expLG_cons (.c .v) (expLG_cons (.c .v) (expLG_cons (.c .v) (expLG_nil)))))

def spec_MostMoved_p (fuel : Nat) (l : List Int) (k : Int) (low : Int) (high : Int) : Option (Int × Int × Bool) :=
  (spec_tmAsked_p l k low high).bind fun x1 =>
  cond (!x1)
    (some (0, 0, false))
    ((spec_tmMean_p fuel l).bind fun x3 =>
    (spec_tmWith_p l k low).bind fun x5 =>
    (spec_tmMean_p fuel x5).bind fun x7 =>
    (spec_tmWith_p l k high).bind fun x9 =>
    (spec_tmMean_p fuel x9).bind fun x11 =>
    (spec_l1Abs_p (w64 (x3.1 - x7.1))).bind fun x13 =>
    (spec_l1Abs_p (w64 (x11.1 - x3.1))).bind fun x15 =>
    (spec_l1Most_p x13 x15).bind fun x17 =>
    (spec_poLowest_p fuel x17 x3.2).bind fun x19 =>
    some (x19.1, x19.2, true))
theorem spec_MostMoved_ok (fuel : Nat) (l : List Int) (k : Int) (low : Int) (high : Int) (r : (Int × Int × Bool)) (hH : spec_MostMoved_p fuel l k low high = some r) : SpecR Try.prog 30 [.s (List.map encInt l), k, low, high] (.t [.v (.int .i64 r.1), .v (.int .i64 r.2.1), .v (.bool r.2.2)]) := by
 refine fn_ok T Try.func30 rfl (by decide) rfl ?_
 refine AW.seq (AW.region ?_)
 iterate 3 refine AO.pu T ?_
 refine AO.nil ?_
 iterate 2 refine AW.seq ?_
 obtain ⟨x1, hx2, hH⟩ := bindE hH
 refine AW.region ?_
 iterate 4 refine AO.pu T ?_
 refine AO.val rfl rfl (callV_ok rfl rfl rfl rfl (spec_tmAsked_ok _ _ _ _ _ (hx2)) rfl) ?_
 refine AO.pu T ?_
 refine AO.nil ?_
 refine AW.cond (b := (!x1)) rfl (fun hc => ?_) (fun hc => ?_)
 replace hH := condT hc hH
 refine AW.seq (AW.region ?_)
 iterate 3 refine AO.pu T ?_
 refine AO.nil (AW.ret ?_)
 cases someE hH
 exact retQ.i [] rfl (.t (expLG_cons (.c .v) (expLG_cons (.c .v) (expLG_cons (.c .v) (expLG_nil)))))
 replace hH := condF hc hH
 refine AW.skip ?_
 refine AW.seq ?_
 obtain ⟨x3, hx4, hH⟩ := bindE hH
 refine AW.region ?_
 refine AO.pu T ?_
 refine AO.val rfl rfl (callV_ok rfl rfl rfl rfl (spec_tmMean_ok fuel _ _ (hx4)) rfl) ?_
 iterate 5 refine AO.pu T ?_
 refine AO.nil (AW.seq ?_)
 obtain ⟨x5, hx6, hH⟩ := bindE hH
 obtain ⟨x7, hx8, hH⟩ := bindE hH
 refine AW.region ?_
 iterate 3 refine AO.pu T ?_
 refine AO.step rfl (call_ok rfl 1 rfl rfl rfl (spec_tmWith_ok _ _ _ _ (hx6)) rfl rfl rfl) ?_
 refine AO.val rfl rfl (callLV_ok rfl rfl rfl (es := [.s (List.map encInt x5)]) ⟨(.rowR rfl (.map fun y => .vs rfl)), trivial⟩ (spec_tmMean_ok fuel _ _ (hx8)) (zfree_t (zfl (.cons (zfree_v _) (.cons (zfree_v _) .nil)))) rfl) ?_
 iterate 5 refine AO.pu T ?_
 refine AO.nil ?_
 refine AW.le (Le.ct 0 0 (σ' := (⟨[(0, .s (List.map encInt l)), (1, k), (3, high), (11, x3.1), (12, x3.2), (13, x7.1)], [], 62, []⟩ : St))) ?_
 refine AW.seq ?_
 obtain ⟨x9, hx10, hH⟩ := bindE hH
 obtain ⟨x11, hx12, hH⟩ := bindE hH
 refine AW.region ?_
 iterate 3 refine AO.pu T ?_
 refine AO.step rfl (call_ok rfl 2 rfl rfl rfl (spec_tmWith_ok _ _ _ _ (hx10)) rfl rfl rfl) ?_
 refine AO.val rfl rfl (callLV_ok rfl rfl rfl (es := [.s (List.map encInt x9)]) ⟨(.rowR rfl (.map fun y => .vs rfl)), trivial⟩ (spec_tmMean_ok fuel _ _ (hx12)) (zfree_t (zfl (.cons (zfree_v _) (.cons (zfree_v _) .nil)))) rfl) ?_
 iterate 5 refine AO.pu T ?_
 refine AO.nil (AW.seq ?_)
 obtain ⟨x13, hx14, hH⟩ := bindE hH
 obtain ⟨x15, hx16, hH⟩ := bindE hH
 obtain ⟨x17, hx18, hH⟩ := bindE hH
 obtain ⟨x19, hx20, hH⟩ := bindE hH
 refine AW.region ?_
 iterate 2 refine AO.pu T ?_
 refine AO.val rfl rfl (arw_ok rfl rfl rfl rfl) ?_
 refine AO.val rfl rfl (callV_ok rfl rfl rfl rfl (spec_l1Abs_ok _ _ (hx14)) rfl) ?_
 iterate 2 refine AO.pu T ?_
 refine AO.val rfl rfl (arw_ok rfl rfl rfl rfl) ?_
 refine AO.val rfl rfl (callV_ok rfl rfl rfl rfl (spec_l1Abs_ok _ _ (hx16)) rfl) ?_
 refine AO.val rfl rfl (callV_ok rfl rfl rfl rfl (spec_l1Most_ok _ _ _ (hx18)) rfl) ?_
 refine AO.pu T ?_
 refine AO.val rfl rfl (callV_ok rfl rfl rfl rfl (spec_poLowest_ok fuel _ _ _ (hx20)) rfl) ?_
 iterate 5 refine AO.pu T ?_
 refine AO.nil ?_
 refine AW.le (Le.ct 0 0 (σ' := (⟨[(17, x19.1), (18, x19.2)], [], 62, []⟩ : St))) ?_
 refine AW.seq (AW.region ?_)
 iterate 5 refine AO.pu T ?_
 refine AO.nil (AW.ret ?_)
 cases someE hH
 exact retQ.i [] rfl (.t (expLG_cons (.c .v) (expLG_cons (.c .v) (expLG_cons (.c .v) (expLG_nil)))))

def impl_TrimmedMean_p (fuel : Nat) (l : List Int) : Option (Int × Int × Bool) :=
  (impl_AreMarksOf_p l).bind fun x1 =>
  cond (!x1)
    (some (0, 0, false))
    ((impl_trimmedSum_p fuel l).bind fun x3 =>
    (impl_lowestTerms_p fuel x3.1 x3.2).bind fun x5 =>
    some (x5.1, x5.2, true))
theorem impl_TrimmedMean_ok (fuel : Nat) (l : List Int) (r : (Int × Int × Bool)) (hH : impl_TrimmedMean_p fuel l = some r) : SpecR Try.prog 31 [.s (List.map encInt l)] (.t [.v (.int .i64 r.1), .v (.int .i64 r.2.1), .v (.bool r.2.2)]) := by
 refine fn_ok T Try.func31 rfl (by decide) rfl ?_
 refine AW.seq (AW.region ?_)
 iterate 3 refine AO.pu T ?_
 refine AO.nil ?_
 iterate 2 refine AW.seq ?_
 obtain ⟨x1, hx2, hH⟩ := bindE hH
 refine AW.region ?_
 refine AO.pu T ?_
 refine AO.val rfl rfl (callV_ok rfl rfl rfl rfl (impl_AreMarksOf_ok _ _ (hx2)) rfl) ?_
 refine AO.pu T ?_
 refine AO.nil ?_
 refine AW.cond (b := (!x1)) rfl (fun hc => ?_) (fun hc => ?_)
 replace hH := condT hc hH
 refine AW.seq (AW.region ?_)
 iterate 3 refine AO.pu T ?_
 refine AO.nil (AW.ret ?_)
 cases someE hH
 exact retQ.i [] rfl (.t (expLG_cons (.c .v) (expLG_cons (.c .v) (expLG_cons (.c .v) (expLG_nil)))))
 replace hH := condF hc hH
 refine AW.skip ?_
 refine AW.seq ?_
 obtain ⟨x3, hx4, hH⟩ := bindE hH
 obtain ⟨x5, hx6, hH⟩ := bindE hH
 refine AW.region ?_
 refine AO.pu T ?_
 refine AO.val rfl rfl (callV_ok rfl rfl rfl rfl (impl_trimmedSum_ok fuel _ _ (hx4)) rfl) ?_
 iterate 2 refine AO.pu T ?_
 refine AO.val rfl rfl (callV_ok rfl rfl rfl rfl (impl_lowestTerms_ok fuel _ _ _ (hx6)) rfl) ?_
 iterate 5 refine AO.pu T ?_
 refine AO.nil (AW.seq ?_)
 refine AW.region ?_
 iterate 5 refine AO.pu T ?_
 refine AO.nil (AW.ret ?_)
 cases someE hH
 exact retQ.i [] rfl (.t (expLG_cons (.c .v) (expLG_cons (.c .v) (expLG_cons (.c .v) (expLG_nil)))))

def impl_WithMark_p (l : List Int) (k : Int) (mark : Int) : Option ((List Int) × Bool) :=
  (impl_isMarkOf_p l k).bind fun x1 =>
  (opt (!(!x1)) default (impl_within_p mark (-1000) 1000)).bind fun x3 =>
  cond ((!x1) || (!x3))
    (some ([], false))
    ((impl_withMark_p l k mark).bind fun x5 =>
    some (x5, true))
theorem impl_WithMark_ok (l : List Int) (k : Int) (mark : Int) (r : ((List Int) × Bool)) (hH : impl_WithMark_p l k mark = some r) : SpecR Try.prog 32 [.s (List.map encInt l), k, mark] (.t [.w 1 (r.1.map encInt), .v (.bool r.2)]) := by
 refine fn_ok T Try.func32 rfl (by decide) rfl ?_
 refine AW.seq (AW.region ?_)
 iterate 2 refine AO.pu T ?_
 refine AO.nil ?_
 iterate 2 refine AW.seq ?_
 obtain ⟨x1, hx2, hH⟩ := bindE hH
 obtain ⟨x3, hx4, hH⟩ := bindE hH
 refine AW.region ?_
 iterate 2 refine AO.pu T ?_
 refine AO.val rfl rfl (callV_ok rfl rfl rfl rfl (impl_isMarkOf_ok _ _ _ (hx2)) rfl) ?_
 iterate 2 refine AO.pu T ?_
 refine AO.pureG T [] rfl trivial rfl rfl ?_
 refine AO.guard [13] rfl ⟨fun h => h, trivial⟩ (fun hg => callV_ok rfl rfl rfl rfl (impl_within_ok _ _ _ _ (optT hx4 hg)) rfl) rfl ?_
 refine AO.pureG T [14] rfl ⟨fun h => h, trivial⟩ rfl rfl ?_
 refine AO.val rfl rfl (pick_or rfl rfl rfl rfl) ?_
 refine AO.nil ?_
 refine AW.cond (b := ((!x1) || (!x3))) rfl (fun hc => ?_) (fun hc => ?_)
 replace hH := condT hc hH
 refine AW.seq (AW.region ?_)
 iterate 2 refine AO.pu T ?_
 refine AO.nil (AW.ret ?_)
 cases someE hH
 exact retQ.i [] rfl (.t (expLG_cons (.c .nil) (expLG_cons (.c .v) (expLG_nil))))
 replace hH := condF hc hH
 refine AW.skip ?_
 refine AW.seq ?_
 obtain ⟨x5, hx6, hH⟩ := bindE hH
 refine AW.region ?_
 iterate 3 refine AO.pu T ?_
 refine AO.step rfl (call_ok rfl 1 rfl rfl rfl (impl_withMark_ok _ _ _ _ (hx6)) rfl rfl rfl) ?_
 iterate 2 refine AO.pu T ?_
 refine AO.nil (AW.ret ?_)
 cases someE hH
 exact retQ.i [1] rfl (.t (expLG_cons (.c (.rowR rfl)) (expLG_cons (.c .v) (expLG_nil))))

def spec_WithMark_p (l : List Int) (k : Int) (mark : Int) : Option ((List Int) × Bool) :=
  (spec_tmHas_p l k).bind fun x1 =>
  (opt (!(!x1)) default (spec_l1In_p mark (-1000) 1000)).bind fun x3 =>
  cond ((!x1) || (!x3))
    (some ([], false))
    ((spec_tmWith_p l k mark).bind fun x5 =>
    some (x5, true))
theorem spec_WithMark_ok (l : List Int) (k : Int) (mark : Int) (r : ((List Int) × Bool)) (hH : spec_WithMark_p l k mark = some r) : SpecR Try.prog 33 [.s (List.map encInt l), k, mark] (.t [.w 1 (r.1.map encInt), .v (.bool r.2)]) := by
 refine fn_ok T Try.func33 rfl (by decide) rfl ?_
 refine AW.seq (AW.region ?_)
 iterate 2 refine AO.pu T ?_
 refine AO.nil ?_
 iterate 2 refine AW.seq ?_
 obtain ⟨x1, hx2, hH⟩ := bindE hH
 obtain ⟨x3, hx4, hH⟩ := bindE hH
 refine AW.region ?_
 iterate 2 refine AO.pu T ?_
 refine AO.val rfl rfl (callV_ok rfl rfl rfl rfl (spec_tmHas_ok _ _ _ (hx2)) rfl) ?_
 iterate 2 refine AO.pu T ?_
 refine AO.pureG T [] rfl trivial rfl rfl ?_
 refine AO.guard [13] rfl ⟨fun h => h, trivial⟩ (fun hg => callV_ok rfl rfl rfl rfl (spec_l1In_ok _ _ _ _ (optT hx4 hg)) rfl) rfl ?_
 refine AO.pureG T [14] rfl ⟨fun h => h, trivial⟩ rfl rfl ?_
 refine AO.val rfl rfl (pick_or rfl rfl rfl rfl) ?_
 refine AO.nil ?_
 refine AW.cond (b := ((!x1) || (!x3))) rfl (fun hc => ?_) (fun hc => ?_)
 replace hH := condT hc hH
 refine AW.seq (AW.region ?_)
 iterate 2 refine AO.pu T ?_
 refine AO.nil (AW.ret ?_)
 cases someE hH
 exact retQ.i [] rfl (.t (expLG_cons (.c .nil) (expLG_cons (.c .v) (expLG_nil))))
 replace hH := condF hc hH
 refine AW.skip ?_
 refine AW.seq ?_
 obtain ⟨x5, hx6, hH⟩ := bindE hH
 refine AW.region ?_
 iterate 3 refine AO.pu T ?_
 refine AO.step rfl (call_ok rfl 1 rfl rfl rfl (spec_tmWith_ok _ _ _ _ (hx6)) rfl rfl rfl) ?_
 iterate 2 refine AO.pu T ?_
 refine AO.nil (AW.ret ?_)
 cases someE hH
 exact retQ.i [1] rfl (.t (expLG_cons (.c (.rowR rfl)) (expLG_cons (.c .v) (expLG_nil))))

def laws_sameInts_l1 (b : List Int) : List Int → Nat → Option Bool
  | [], k1 =>
    some true
  | y2 :: ys3, k1 =>
    (getI b (k1 : Int)).bind fun x12 =>
    cond (y2 != x12)
      (some false)
      (laws_sameInts_l1 b ys3 (k1 + 1))
def laws_sameInts_p (a : List Int) (b : List Int) : Option Bool :=
  cond ((a.length : Int) != (b.length : Int))
    (some false)
    (laws_sameInts_l1 b a 0)
theorem laws_sameInts_ok (a : List Int) (b : List Int) (r : Bool) (hH : laws_sameInts_p a b = some r) : SpecR Try.prog 34 [.s (List.map encInt a), .s (List.map encInt b)] (.v (.bool r)) := by
 refine fn_ok T Try.func34 rfl (by decide) rfl ?_
 refine AW.seq (AW.region ?_)
 refine AO.pu T ?_
 refine AO.nil ?_
 iterate 2 refine AW.seq ?_
 refine AW.region ?_
 refine AO.pu T ?_
 refine AO.val rfl rfl (len_map_ok T rfl rfl rfl) ?_
 refine AO.pu T ?_
 refine AO.val rfl rfl (len_map_ok T rfl rfl rfl) ?_
 refine AO.pu T ?_
 refine AO.nil ?_
 refine AW.cond (b := ((a.length : Int) != (b.length : Int))) rfl (fun hc => ?_) (fun hc => ?_)
 replace hH := condT hc hH
 refine AW.seq (AW.region ?_)
 refine AO.pu T ?_
 refine AO.nil (AW.ret ?_)
 cases someE hH
 exact retQ.i [] rfl (.c (.c .v))
 replace hH := condF hc hH
 refine AW.skip ?_
 iterate 2 refine AW.seq ?_
 refine AW.region ?_
 refine AO.pu T ?_
 refine AO.val rfl rfl (len_map_ok T rfl rfl rfl) ?_
 refine AO.pu T ?_
 refine AO.nil ?_
 refine AW.block ?_
 refine AW.loopS (fun s : Nat => (⟨[(0, .s (List.map encInt a)), (1, .s (List.map encInt b)), (12, (a.length : Int)), (13, (s : Int))], [], 26, []⟩ : St)) (fun s => s ≤ a.length ∧ laws_sameInts_l1 b (a.drop s) s = some r) (fun s => a.length - s) 0 ⟨Nat.zero_le _, hH⟩ ?_ ?_
 exact Le.ct 0 0
 rintro k1 ⟨hk, hH⟩
 replace hH : laws_sameInts_l1 b (a.drop k1) k1 = some r := hH
 try dsimp only
 refine AW.boundM (t := 0) (l := a) rfl (fun hb5 => ?_)
 rcases hd4 : a.drop k1 with _ | ⟨y2, ys3⟩
 rw [hd4, laws_sameInts_l1] at hH
 have hlt6 := drop_ge hd4
 refine AW.seq (AW.region ?_)
 refine AO.pu T ?_
 refine AO.nil (AW.seq ?_)
 refine AW.condF' (b := decide ((k1 : Int) < (a.length : Int))) rfl (rngF hlt6) ?_
 refine AW.exit ?_
 refine AW.seq (AW.region ?_)
 refine AO.pu T ?_
 refine AO.nil (AW.ret ?_)
 cases someE hH
 exact retQ.i [] rfl (.c (.c .v))
 rw [hd4, laws_sameInts_l1] at hH
 have hlt6 := drop_lt hd4
 refine AW.seq (AW.region ?_)
 refine AO.pu T ?_
 refine AO.nil (AW.seq ?_)
 refine AW.condT' (b := decide ((k1 : Int) < (a.length : Int))) rfl (rngT hlt6) ?_
 refine AW.skip ?_
 refine AW.seq ?_
 refine AW.block ?_
 refine AW.seq (AW.region ?_)
 iterate 2 refine AO.pu T ?_
 refine AO.nil (AW.seq ?_)
 obtain ⟨x12, hx13, hH⟩ := bindE hH
 refine AW.drawn 8 1 [] mix (by kernel_rfl) rfl ?_
 iterate 2 refine AD.pure T rfl rfl rfl ?_
 refine AD.val rfl rfl (ix_map_ok T rfl rfl rfl rfl rfl (getI_drop hd4) rfl) ?_
 iterate 3 refine AD.pure T rfl rfl rfl ?_
 refine AD.val rfl rfl (ix_map_ok T rfl rfl rfl rfl rfl (hx13) rfl) ?_
 refine AD.pure T rfl rfl rfl ?_
 refine AD.nil ?_
 refine AO.pu T ?_
 refine AO.nil ?_
 refine AW.cond (b := (y2 != x12)) rfl (fun hc => ?_) (fun hc => ?_)
 replace hH := condT hc hH
 refine AW.seq (AW.region ?_)
 refine AO.pu T ?_
 refine AO.nil (AW.ret ?_)
 cases someE hH
 exact retQ.i [] rfl (.c (.c .v))
 replace hH := condF hc hH
 refine AW.skip ?_
 refine AW.region ?_
 refine AO.val rfl rfl (ar_ok rfl rfl rfl rfl (inI_succ hlt6 hb5)) ?_
 refine AO.pu T ?_
 refine AO.nil ?_
 refine ⟨k1 + 1, ⟨Nat.succ_le_of_lt hlt6, (by rw [drop_succ_of hd4]; exact hH)⟩, (by have := hlt6; dsimp only; omega), ?_⟩
 exact Le.ct 0 0

def laws_pAbs_p (n : Int) : Option Int :=
  cond (decide (n < 0))
    (some (w64 (-n)))
    (some n)
theorem laws_pAbs_ok (n : Int) (r : Int) (hH : laws_pAbs_p n = some r) : SpecR Try.prog 35 [n] (.v (.int .i64 r)) := by
 refine fn_ok T Try.func35 rfl (by decide) rfl ?_
 refine AW.seq (AW.region ?_)
 refine AO.pu T ?_
 refine AO.nil ?_
 iterate 2 refine AW.seq ?_
 refine AW.region ?_
 iterate 2 refine AO.pu T ?_
 refine AO.nil ?_
 refine AW.cond (b := decide (n < 0)) rfl (fun hc => ?_) (fun hc => ?_)
 replace hH := condT hc hH
 refine AW.seq (AW.region ?_)
 refine AO.pu T ?_
 refine AO.val rfl rfl (negw_ok rfl rfl) ?_
 refine AO.pu T ?_
 refine AO.nil (AW.ret ?_)
 cases someE hH
 exact retQ.i [] rfl (.c (.c .v))
 replace hH := condF hc hH
 refine AW.skip ?_
 refine AW.seq (AW.region ?_)
 iterate 2 refine AO.pu T ?_
 refine AO.nil (AW.ret ?_)
 cases someE hH
 exact retQ.i [] rfl (.c (.c .v))

def spec_DrawOrderOf_p (fuel : Nat) (code : List Int) : Option ((List Int) × Int) :=
  (spec_l1Cur_marksOf_p fuel (L1Cur.mk code 0 0)).bind fun x1 =>
  (spec_l1Cur_judge_p (L1Cur.mk x1.1.code x1.1.at' x1.1.seed) x1.2).bind fun x3 =>
  some (x1.2, x3.2)
theorem spec_DrawOrderOf_ok (fuel : Nat) (code : List Int) (r : ((List Int) × Int)) (hH : spec_DrawOrderOf_p fuel code = some r) : SpecR Try.prog 52 [.s (List.map encInt_u8 code)] (.t [.s (r.1.map encInt), .v (.int .i64 r.2)]) := by
 refine fn_ok T Try.func52 rfl (by decide) rfl ?_
 refine AW.seq (AW.region ?_)
 iterate 2 refine AO.pu T ?_
 refine AO.nil (AW.seq ?_)
 refine AW.region ?_
 refine AO.pu T ?_
 refine AO.pu T (d := .g [.s (List.map encInt_u8 code), (0 : Int), .v (.int .u64 0)]) ?_
 refine AO.step rfl (box_ok T rfl 1 rfl rfl rfl rfl) ?_
 refine AO.pu T ?_
 refine AO.nil (AW.seq ?_)
 obtain ⟨x1, hx2, hH⟩ := bindE hH
 refine AW.region ?_
 refine AO.pu T ?_
 refine AO.step rfl (callM_ok rfl 2 rfl rfl (es := [.pw (encL1Cur (L1Cur.mk code 0 0))]) (outs := [.pw (encL1Cur x1.1)]) (ids := [1]) (by exact expLG_cons (.c (.box rfl rfl)) (expLG_nil)) (by decide) (.inl (by rfl)) (by rfl) (spec_l1Cur_marksOf_ok fuel _ _ (hx2)) rfl (by rfl) rfl) ?_
 refine AO.pu T ?_
 refine AO.nil (AW.seq ?_)
 obtain ⟨x3, hx4, hH⟩ := bindE hH
 refine AW.le (Le.freezeM 2 (g := encInt) rfl (fun y => .vs rfl)) ?_
 refine AW.region ?_
 iterate 3 refine AO.pu T ?_
 refine AO.step rfl (callM_ok rfl 3 rfl rfl (es := [.pw (encL1Cur (L1Cur.mk x1.1.code x1.1.at' x1.1.seed)), .s (x1.2.map encInt)]) (outs := [.pw (encL1Cur x3.1), .u]) (ids := [1]) (by exact expLG_cons (.c (.box rfl rfl)) (expLG_cons (.c .s) (expLG_nil))) (by decide) (.inl (by rfl)) (by rfl) (spec_l1Cur_judge_ok _ _ _ (hx4)) rfl (by rfl) rfl) ?_
 iterate 2 refine AO.pu T ?_
 refine AO.nil (AW.ret ?_)
 cases someE hH
 exact retQ.i [] rfl (.t (expLG_cons (.c .s) (expLG_cons (.c .v) (expLG_nil))))

def spec_DrawIsTrimmed_p (fuel : Nat) (code : List Int) : Option ((List Int) × Int) :=
  (spec_DrawOrderOf_p fuel code).bind fun x1 =>
  some (x1.1, x1.2)
theorem spec_DrawIsTrimmed_ok (fuel : Nat) (code : List Int) (r : ((List Int) × Int)) (hH : spec_DrawIsTrimmed_p fuel code = some r) : SpecR Try.prog 36 [.s (List.map encInt_u8 code)] (.t [.s (r.1.map encInt), .v (.int .i64 r.2)]) := by
 refine fn_ok T Try.func36 rfl (by decide) rfl ?_
 refine AW.seq (AW.region ?_)
 iterate 2 refine AO.pu T ?_
 refine AO.nil (AW.seq ?_)
 obtain ⟨x1, hx2, hH⟩ := bindE hH
 refine AW.region ?_
 refine AO.pu T ?_
 refine AO.val rfl rfl (callV_ok rfl rfl rfl rfl (spec_DrawOrderOf_ok fuel _ _ (hx2)) rfl) ?_
 iterate 4 refine AO.pu T ?_
 refine AO.nil (AW.ret ?_)
 cases someE hH
 exact retQ.i [] rfl (.t (expLG_cons (.c .s) (expLG_cons (.c .v) (expLG_nil))))

def impl_IsTrimmed_p (fuel : Nat) (l : List Int) (k : Int) : Option (Bool × Bool) :=
  (impl_isMarkOf_p l k).bind fun x1 =>
  cond (!x1)
    (some (false, false))
    ((opt (decide ((l.length : Int) ≥ 5)) default (getI l k)).bind fun x3 =>
    (opt (decide ((l.length : Int) ≥ 5)) default (slices_Max_int_p fuel l)).bind fun x5 =>
    (opt (decide ((l.length : Int) ≥ 5) && (!(x3 == x5))) default (slices_Min_int_p fuel l)).bind fun x7 =>
    some ((decide ((l.length : Int) ≥ 5) && ((x3 == x5) || (x3 == x7))), true))
theorem impl_IsTrimmed_ok (fuel : Nat) (l : List Int) (k : Int) (r : (Bool × Bool)) (hH : impl_IsTrimmed_p fuel l k = some r) : SpecR Try.prog 37 [.s (List.map encInt l), k] (.t [.v (.bool r.1), .v (.bool r.2)]) := by
 refine fn_ok T Try.func37 rfl (by decide) rfl ?_
 refine AW.seq (AW.region ?_)
 iterate 2 refine AO.pu T ?_
 refine AO.nil ?_
 iterate 2 refine AW.seq ?_
 obtain ⟨x1, hx2, hH⟩ := bindE hH
 refine AW.region ?_
 iterate 2 refine AO.pu T ?_
 refine AO.val rfl rfl (callV_ok rfl rfl rfl rfl (impl_isMarkOf_ok _ _ _ (hx2)) rfl) ?_
 refine AO.pu T ?_
 refine AO.nil ?_
 refine AW.cond (b := (!x1)) rfl (fun hc => ?_) (fun hc => ?_)
 replace hH := condT hc hH
 refine AW.seq (AW.region ?_)
 iterate 2 refine AO.pu T ?_
 refine AO.nil (AW.ret ?_)
 cases someE hH
 exact retQ.i [] rfl (.t (expLG_cons (.c .v) (expLG_cons (.c .v) (expLG_nil))))
 replace hH := condF hc hH
 refine AW.skip ?_
 refine AW.seq ?_
 obtain ⟨x3, hx4, hH⟩ := bindE hH
 obtain ⟨x5, hx6, hH⟩ := bindE hH
 obtain ⟨x7, hx8, hH⟩ := bindE hH
 refine AW.drawn 18 1 [] mix (by kernel_rfl) rfl ?_
 refine AD.pure T rfl rfl rfl ?_
 refine AD.val rfl rfl (len_map_ok T rfl rfl rfl) ?_
 iterate 2 refine AD.pure T rfl rfl rfl ?_
 iterate 2 refine AD.pureG T [] rfl trivial rfl rfl ?_
 refine AD.guard [14, 15] rfl ⟨fun h => h, fun h => h, trivial⟩ (fun hg => ix_map_ok T rfl rfl rfl rfl rfl (optT hx4 hg) rfl) rfl ?_
 refine AD.pureG T [16] rfl ⟨fun h => h, trivial⟩ rfl rfl ?_
 refine AD.pureG T [] rfl trivial rfl rfl ?_
 refine AD.guard [18] rfl ⟨fun h => h, trivial⟩ (fun hg => callV_ok rfl rfl rfl rfl (slices_Max_int_ok fuel _ _ (optT hx6 hg)) rfl) rfl ?_
 refine AD.pureG T [17, 19] rfl ⟨fun h => h, fun h => h, trivial⟩ rfl rfl ?_
 refine AD.pureG T [20] rfl ⟨fun h => h, trivial⟩ rfl rfl ?_
 iterate 2 refine AD.pureG T [] rfl trivial rfl rfl ?_
 refine AD.guard [22, 23] rfl ⟨fun h => h, fun h => h, trivial⟩ (fun hg => ix_map_ok T rfl rfl rfl rfl rfl (optT hx4 ((fun h => (fun h => h) (Bool.and_eq_true_iff.1 h).1) hg)) rfl) rfl ?_
 refine AD.pureG T [24] rfl ⟨fun h => h, trivial⟩ rfl rfl ?_
 refine AD.pureG T [] rfl trivial rfl rfl ?_
 refine AD.guard [26] rfl ⟨fun h => h, trivial⟩ (fun hg => callV_ok rfl rfl rfl rfl (slices_Min_int_ok fuel _ _ (optT hx8 hg)) rfl) rfl ?_
 refine AD.nil ?_
 refine AO.pureG T [25, 27] rfl ⟨fun h => h, fun h => h, trivial⟩ rfl rfl ?_
 refine AO.guard [21] rfl ⟨fun h => h, trivial⟩ (fun hg => pick_or rfl rfl rfl (by rw [hg]; exact Bool.true_and _)) rfl ?_
 refine AO.val rfl rfl (pick_and rfl rfl rfl rfl) ?_
 iterate 2 refine AO.pu T ?_
 refine AO.nil ?_
 refine AW.le (Le.ct 0 0 (σ' := (⟨[(4, .v (.bool (decide ((l.length : Int) ≥ 5) && ((x3 == x5) || (x3 == x7))))), (5, .v (.bool true))], [], 31, []⟩ : St))) ?_
 refine AW.ret ?_
 cases someE hH
 exact retQ.i [] rfl (.t (expLG_cons (.c .v) (expLG_cons (.c .v) (expLG_nil))))

def spec_tmOrder_l1 (x1 : (List Int)) : Nat → List Int → Int → Option ((List Int))
  | 0, _, _ => none
  | k3 + 1, v14, v15 =>
    cond (decide (v15 ≥ 0))
      ((getI x1 v15).bind fun x17 =>
      (need (fitsB 8 (v14.length + ([x17]).length))).bind fun u19 =>
      spec_tmOrder_l1 x1 k3 (v14 ++ [x17]) (w64 (v15 - 1)))
      (some v14)
def spec_tmOrder_p (fuel : Nat) (l : List Int) : Option (List Int) :=
  (spec_poSorted_p fuel l).bind fun x1 =>
  spec_tmOrder_l1 x1 fuel [] (w64 ((x1.length : Int) - 1))
theorem spec_tmOrder_ok (fuel : Nat) (l : List Int) (r : (List Int)) (hH : spec_tmOrder_p fuel l = some r) : SpecR Try.prog 101 [.s (List.map encInt l)] (.w 1 (r.map encInt)) := by
 refine fn_ok T Try.func101 rfl (by decide) rfl ?_
 refine AW.seq (AW.region ?_)
 refine AO.pu T ?_
 refine AO.nil (AW.seq ?_)
 obtain ⟨x1, hx2, hH⟩ := bindE hH
 refine AW.region ?_
 refine AO.pu T ?_
 refine AO.step rfl (call_ok rfl 1 rfl rfl rfl (spec_poSorted_ok fuel _ _ (hx2)) rfl rfl rfl) ?_
 refine AO.pu T ?_
 refine AO.nil (AW.seq ?_)
 refine AW.region ?_
 refine AO.pu T ?_
 refine AO.nil ?_
 iterate 2 refine AW.seq ?_
 refine AW.region ?_
 refine AO.pu T ?_
 refine AO.val rfl rfl (len_row_ok T rfl rfl rfl rfl) ?_
 refine AO.val rfl rfl (arw_ok rfl rfl rfl rfl) ?_
 refine AO.pu T ?_
 refine AO.nil ?_
 refine AW.block ?_
 refine AW.loopS (fun s : Nat × (List Int) × Int => (⟨[(3, .R 1), (4, .R 5), (5, s.2.2)], [(1, .row 1 (List.map encInt x1)), (5, .row 1 (List.map encInt s.2.1))], 23, []⟩ : St)) (fun s => spec_tmOrder_l1 x1 s.1 s.2.1 s.2.2 = some r) (fun s => s.1) (fuel, [], w64 ((x1.length : Int) - 1)) hH ?_ ?_
 refine Le.trans (Le.void 4 5 1 rfl rfl) ?_
 exact Le.ct 0 0
 rintro ⟨k3, v14, v15⟩ hH
 replace hH : spec_tmOrder_l1 x1 k3 v14 v15 = some r := hH
 try dsimp only
 rcases k3 with _ | k3
 cases (show none = some _ from hH)
 rw [spec_tmOrder_l1] at hH
 iterate 2 refine AW.seq ?_
 refine AW.region ?_
 iterate 2 refine AO.pu T ?_
 refine AO.nil ?_
 refine AW.cond (b := decide (v15 ≥ 0)) rfl (fun hc => ?_) (fun hc => ?_)
 replace hH := condT hc hH
 refine AW.skip ?_
 refine AW.seq ?_
 refine AW.block ?_
 obtain ⟨x17, hx18, hH⟩ := bindE hH
 obtain ⟨u19, hx20, hH⟩ := bindE hH
 refine AW.region ?_
 iterate 3 refine AO.pu T ?_
 refine AO.val rfl rfl (ix_row_ok T rfl rfl rfl rfl rfl rfl (hx18)) ?_
 refine AO.val rfl rfl (load_row_ok T rfl rfl rfl rfl (getI_get (hx18)) rfl rfl rfl) ?_
 refine AO.step rfl (mk_map_ok T rfl 6 rfl rfl rfl rfl rfl (f := encInt) (l := [x17]) rfl rfl (fun _ => rfl) rfl rfl rfl rfl rfl) ?_
 refine AO.step rfl (app_rv_map T rfl 7 rfl rfl rfl rfl rfl (by decide) rfl rfl rfl rfl (fun _ => rfl) (needT (hx20)) rfl rfl) ?_
 refine AO.pu T ?_
 refine AO.nil ?_
 refine AW.region ?_
 refine AO.pu T ?_
 refine AO.val rfl rfl (arw_ok rfl rfl rfl rfl) ?_
 refine AO.pu T ?_
 refine AO.nil ?_
 refine ⟨(k3, (v14 ++ [x17]), w64 (v15 - 1)), hH, Nat.lt_succ_self _, ?_⟩
 exact Le.ct 7 5
 replace hH := condF hc hH
 refine AW.exit ?_
 refine AW.seq (AW.region ?_)
 iterate 2 refine AO.pu T ?_
 refine AO.nil (AW.ret ?_)
 cases someE hH
 exact retQ.i [5] rfl (.c (.c (.rowR rfl)))

def spec_IsTrimmed_p (fuel : Nat) (l : List Int) (k : Int) : Option (Bool × Bool) :=
  (spec_tmHas_p l k).bind fun x1 =>
  cond (!x1)
    (some (false, false))
    ((spec_tmOrder_p fuel l).bind fun x3 =>
    (opt (decide ((l.length : Int) ≥ 5)) default (getI l k)).bind fun x5 =>
    (opt (decide ((l.length : Int) ≥ 5)) default (getI x3 0)).bind fun x7 =>
    (opt (decide ((l.length : Int) ≥ 5) && (!(x5 == x7))) default (getI x3 (w64 ((x3.length : Int) - 1)))).bind fun x9 =>
    some ((decide ((l.length : Int) ≥ 5) && ((x5 == x7) || (x5 == x9))), true))
theorem spec_IsTrimmed_ok (fuel : Nat) (l : List Int) (k : Int) (r : (Bool × Bool)) (hH : spec_IsTrimmed_p fuel l k = some r) : SpecR Try.prog 38 [.s (List.map encInt l), k] (.t [.v (.bool r.1), .v (.bool r.2)]) := by
 refine fn_ok T Try.func38 rfl (by decide) rfl ?_
 refine AW.seq (AW.region ?_)
 iterate 2 refine AO.pu T ?_
 refine AO.nil ?_
 iterate 2 refine AW.seq ?_
 obtain ⟨x1, hx2, hH⟩ := bindE hH
 refine AW.region ?_
 iterate 2 refine AO.pu T ?_
 refine AO.val rfl rfl (callV_ok rfl rfl rfl rfl (spec_tmHas_ok _ _ _ (hx2)) rfl) ?_
 refine AO.pu T ?_
 refine AO.nil ?_
 refine AW.cond (b := (!x1)) rfl (fun hc => ?_) (fun hc => ?_)
 replace hH := condT hc hH
 refine AW.seq (AW.region ?_)
 iterate 2 refine AO.pu T ?_
 refine AO.nil (AW.ret ?_)
 cases someE hH
 exact retQ.i [] rfl (.t (expLG_cons (.c .v) (expLG_cons (.c .v) (expLG_nil))))
 replace hH := condF hc hH
 refine AW.skip ?_
 refine AW.seq ?_
 obtain ⟨x3, hx4, hH⟩ := bindE hH
 refine AW.region ?_
 refine AO.pu T ?_
 refine AO.step rfl (call_ok rfl 1 rfl rfl rfl (spec_tmOrder_ok fuel _ _ (hx4)) rfl rfl rfl) ?_
 refine AO.pu T ?_
 refine AO.nil (AW.seq ?_)
 obtain ⟨x5, hx6, hH⟩ := bindE hH
 obtain ⟨x7, hx8, hH⟩ := bindE hH
 obtain ⟨x9, hx10, hH⟩ := bindE hH
 refine AW.drawn 23 2 [] mix (by kernel_rfl) rfl ?_
 refine AD.pure T rfl rfl rfl ?_
 refine AD.val rfl rfl (len_map_ok T rfl rfl rfl) ?_
 iterate 2 refine AD.pure T rfl rfl rfl ?_
 iterate 2 refine AD.pureG T [] rfl trivial rfl rfl ?_
 refine AD.guard [17, 18] rfl ⟨fun h => h, fun h => h, trivial⟩ (fun hg => ix_map_ok T rfl rfl rfl rfl rfl (optT hx6 hg) rfl) rfl ?_
 refine AD.pureG T [19] rfl ⟨fun h => h, trivial⟩ rfl rfl ?_
 refine AD.pureG T [] rfl trivial rfl rfl ?_
 refine AD.guard [21] rfl ⟨fun h => h, trivial⟩ (fun hg => ix_row_ok T rfl rfl rfl rfl rfl rfl (optT hx8 hg)) rfl ?_
 refine AD.guard [22] rfl ⟨fun h => h, trivial⟩ (fun hg => load_row_ok T rfl rfl rfl rfl (getI_get (optT hx8 hg)) rfl rfl rfl) rfl ?_
 refine AD.pureG T [20, 23] rfl ⟨fun h => h, fun h => h, trivial⟩ rfl rfl ?_
 refine AD.pureG T [24] rfl ⟨fun h => h, trivial⟩ rfl rfl ?_
 iterate 2 refine AD.pureG T [] rfl trivial rfl rfl ?_
 refine AD.guard [26, 27] rfl ⟨fun h => h, fun h => h, trivial⟩ (fun hg => ix_map_ok T rfl rfl rfl rfl rfl (optT hx6 ((fun h => (fun h => h) (Bool.and_eq_true_iff.1 h).1) hg)) rfl) rfl ?_
 refine AD.pureG T [28] rfl ⟨fun h => h, trivial⟩ rfl rfl ?_
 iterate 2 refine AD.pureG T [] rfl trivial rfl rfl ?_
 refine AD.guard [31] rfl ⟨fun h => h, trivial⟩ (fun hg => len_row_ok T rfl rfl rfl rfl) rfl ?_
 refine AD.guard [32] rfl ⟨fun h => h, trivial⟩ (fun hg => arw_ok rfl rfl rfl rfl) rfl ?_
 refine AD.guard [30, 33] rfl ⟨fun h => h, fun h => h, trivial⟩ (fun hg => ix_row_ok T rfl rfl rfl rfl rfl rfl (optT hx10 hg)) rfl ?_
 refine AD.guard [34] rfl ⟨fun h => h, trivial⟩ (fun hg => load_row_ok T rfl rfl rfl rfl (getI_get (optT hx10 hg)) rfl rfl rfl) rfl ?_
 refine AD.nil ?_
 refine AO.pureG T [29, 35] rfl ⟨fun h => h, fun h => h, trivial⟩ rfl rfl ?_
 refine AO.guard [25] rfl ⟨fun h => h, trivial⟩ (fun hg => pick_or rfl rfl rfl (by rw [hg]; exact Bool.true_and _)) rfl ?_
 refine AO.val rfl rfl (pick_and rfl rfl rfl rfl) ?_
 iterate 2 refine AO.pu T ?_
 refine AO.nil ?_
 refine AW.le (Le.ct 0 0 (σ' := (⟨[(4, .v (.bool (decide ((l.length : Int) ≥ 5) && ((x5 == x7) || (x5 == x9))))), (5, .v (.bool true))], [], 39, []⟩ : St))) ?_
 refine AW.ret ?_
 cases someE hH
 exact retQ.i [] rfl (.t (expLG_cons (.c .v) (expLG_cons (.c .v) (expLG_nil))))

def impl_TrimmedSum_p (fuel : Nat) (l : List Int) : Option (Int × Int × Bool) :=
  (impl_AreMarksOf_p l).bind fun x1 =>
  cond (!x1)
    (some (0, 0, false))
    ((impl_trimmedSum_p fuel l).bind fun x3 =>
    some (x3.1, x3.2, true))
theorem impl_TrimmedSum_ok (fuel : Nat) (l : List Int) (r : (Int × Int × Bool)) (hH : impl_TrimmedSum_p fuel l = some r) : SpecR Try.prog 39 [.s (List.map encInt l)] (.t [.v (.int .i64 r.1), .v (.int .i64 r.2.1), .v (.bool r.2.2)]) := by
 refine fn_ok T Try.func39 rfl (by decide) rfl ?_
 refine AW.seq (AW.region ?_)
 iterate 3 refine AO.pu T ?_
 refine AO.nil ?_
 iterate 2 refine AW.seq ?_
 obtain ⟨x1, hx2, hH⟩ := bindE hH
 refine AW.region ?_
 refine AO.pu T ?_
 refine AO.val rfl rfl (callV_ok rfl rfl rfl rfl (impl_AreMarksOf_ok _ _ (hx2)) rfl) ?_
 refine AO.pu T ?_
 refine AO.nil ?_
 refine AW.cond (b := (!x1)) rfl (fun hc => ?_) (fun hc => ?_)
 replace hH := condT hc hH
 refine AW.seq (AW.region ?_)
 iterate 3 refine AO.pu T ?_
 refine AO.nil (AW.ret ?_)
 cases someE hH
 exact retQ.i [] rfl (.t (expLG_cons (.c .v) (expLG_cons (.c .v) (expLG_cons (.c .v) (expLG_nil)))))
 replace hH := condF hc hH
 refine AW.skip ?_
 refine AW.seq ?_
 obtain ⟨x3, hx4, hH⟩ := bindE hH
 refine AW.region ?_
 refine AO.pu T ?_
 refine AO.val rfl rfl (callV_ok rfl rfl rfl rfl (impl_trimmedSum_ok fuel _ _ (hx4)) rfl) ?_
 iterate 5 refine AO.pu T ?_
 refine AO.nil (AW.seq ?_)
 refine AW.region ?_
 iterate 5 refine AO.pu T ?_
 refine AO.nil (AW.ret ?_)
 cases someE hH
 exact retQ.i [] rfl (.t (expLG_cons (.c .v) (expLG_cons (.c .v) (expLG_cons (.c .v) (expLG_nil)))))

def slices_Sort_int_p (x : List Int) : Option (List Int) := (need (Nat.blt x.length 4611686018427387904)).bind fun _ => some (sortI x)
theorem slices_Sort_int_ok (x : List Int) (r : List Int) (hH : slices_Sort_int_p x = some r) : SpecM Try.prog 68 [.w 1 (x.map encInt)] [.w 1 (r.map encInt)] (.t []) := by
  obtain ⟨u, hu, hr⟩ := bindE hH
  cases someE hr
  exact spec_sortI ⟨_, Try.func68, rfl, by decide⟩ Try.slices_Sort_int Try.slices_Sort_int_none x (Nat.le_of_ble_eq_true (needT hu))

def impl_sortedInts_p (l : List Int) : Option (List Int) :=
  (impl_copyInts_p l).bind fun x1 =>
  (slices_Sort_int_p x1).bind fun x3 =>
  some x3
theorem impl_sortedInts_ok (l : List Int) (r : (List Int)) (hH : impl_sortedInts_p l = some r) : SpecR Try.prog 70 [.s (List.map encInt l)] (.w 1 (r.map encInt)) := by
 refine fn_ok T Try.func70 rfl (by decide) rfl ?_
 refine AW.seq (AW.region ?_)
 refine AO.pu T ?_
 refine AO.nil (AW.seq ?_)
 obtain ⟨x1, hx2, hH⟩ := bindE hH
 refine AW.region ?_
 refine AO.pu T ?_
 refine AO.step rfl (call_ok rfl 1 rfl rfl rfl (impl_copyInts_ok _ _ (hx2)) rfl rfl rfl) ?_
 refine AO.pu T ?_
 refine AO.nil (AW.seq ?_)
 obtain ⟨x3, hx4, hH⟩ := bindE hH
 refine AW.region ?_
 refine AO.pu T ?_
 refine AO.step rfl (callM_ok rfl 2 rfl rfl (es := [.w 1 (x1.map encInt)]) (outs := [.w 1 (x3.map encInt)]) (ids := [1]) (by exact expLG_cons (.c (.rowR rfl)) (expLG_nil)) (by decide) (.inl (by rfl)) (by rfl) (slices_Sort_int_ok _ _ (hx4)) rfl (by rfl) rfl) ?_
 refine AO.nil (AW.seq ?_)
 refine AW.region ?_
 iterate 2 refine AO.pu T ?_
 refine AO.nil (AW.ret ?_)
 cases someE hH
 exact retQ.i [1] rfl (.c (.c (.rowR rfl)))

def impl_OrderOf_p (l : List Int) (k : Int) : Option (Int × Bool) :=
  (impl_isMarkOf_p l k).bind fun x1 =>
  cond (!x1)
    (some (0, false))
    ((impl_sortedInts_p l).bind fun x3 =>
    (getI x3 k).bind fun x5 =>
    some (x5, true))
theorem impl_OrderOf_ok (l : List Int) (k : Int) (r : (Int × Bool)) (hH : impl_OrderOf_p l k = some r) : SpecR Try.prog 40 [.s (List.map encInt l), k] (.t [.v (.int .i64 r.1), .v (.bool r.2)]) := by
 refine fn_ok T Try.func40 rfl (by decide) rfl ?_
 refine AW.seq (AW.region ?_)
 iterate 2 refine AO.pu T ?_
 refine AO.nil ?_
 iterate 2 refine AW.seq ?_
 obtain ⟨x1, hx2, hH⟩ := bindE hH
 refine AW.region ?_
 iterate 2 refine AO.pu T ?_
 refine AO.val rfl rfl (callV_ok rfl rfl rfl rfl (impl_isMarkOf_ok _ _ _ (hx2)) rfl) ?_
 refine AO.pu T ?_
 refine AO.nil ?_
 refine AW.cond (b := (!x1)) rfl (fun hc => ?_) (fun hc => ?_)
 replace hH := condT hc hH
 refine AW.seq (AW.region ?_)
 iterate 2 refine AO.pu T ?_
 refine AO.nil (AW.ret ?_)
 cases someE hH
 exact retQ.i [] rfl (.t (expLG_cons (.c .v) (expLG_cons (.c .v) (expLG_nil))))
 replace hH := condF hc hH
 refine AW.skip ?_
 refine AW.seq ?_
 obtain ⟨x3, hx4, hH⟩ := bindE hH
 obtain ⟨x5, hx6, hH⟩ := bindE hH
 refine AW.region ?_
 refine AO.pu T ?_
 refine AO.step rfl (call_ok rfl 1 rfl rfl rfl (impl_sortedInts_ok _ _ (hx4)) rfl rfl rfl) ?_
 refine AO.pu T ?_
 refine AO.val rfl rfl (ix_row_ok T rfl rfl rfl rfl rfl rfl (hx6)) ?_
 refine AO.val rfl rfl (load_row_ok T rfl rfl rfl rfl (getI_get (hx6)) rfl rfl rfl) ?_
 iterate 2 refine AO.pu T ?_
 refine AO.nil (AW.ret ?_)
 cases someE hH
 exact retQ.i [] rfl (.t (expLG_cons (.c .v) (expLG_cons (.c .v) (expLG_nil))))

def spec_DrawWithMark_p (fuel : Nat) (code : List Int) : Option ((List Int) × Int × Int) :=
  (spec_l1Cur_marksOf_p fuel (L1Cur.mk code 0 0)).bind fun x1 =>
  (spec_l1Cur_judge_p (L1Cur.mk x1.1.code x1.1.at' x1.1.seed) x1.2).bind fun x3 =>
  (spec_l1Cur_among_p (L1Cur.mk x3.1.code x3.1.at' x3.1.seed) [0, 5, (-5), 250, 1000, 1001, (-1000), (-1001)]).bind fun x5 =>
  some (x1.2, x3.2, x5.2)
theorem spec_DrawWithMark_ok (fuel : Nat) (code : List Int) (r : ((List Int) × Int × Int)) (hH : spec_DrawWithMark_p fuel code = some r) : SpecR Try.prog 41 [.s (List.map encInt_u8 code)] (.t [.s (r.1.map encInt), .v (.int .i64 r.2.1), .v (.int .i64 r.2.2)]) := by
 refine fn_ok T Try.func41 rfl (by decide) rfl ?_
 refine AW.seq (AW.region ?_)
 iterate 3 refine AO.pu T ?_
 refine AO.nil (AW.seq ?_)
 refine AW.region ?_
 refine AO.pu T ?_
 refine AO.pu T (d := .g [.s (List.map encInt_u8 code), (0 : Int), .v (.int .u64 0)]) ?_
 refine AO.step rfl (box_ok T rfl 1 rfl rfl rfl rfl) ?_
 refine AO.pu T ?_
 refine AO.nil (AW.seq ?_)
 obtain ⟨x1, hx2, hH⟩ := bindE hH
 refine AW.region ?_
 refine AO.pu T ?_
 refine AO.step rfl (callM_ok rfl 2 rfl rfl (es := [.pw (encL1Cur (L1Cur.mk code 0 0))]) (outs := [.pw (encL1Cur x1.1)]) (ids := [1]) (by exact expLG_cons (.c (.box rfl rfl)) (expLG_nil)) (by decide) (.inl (by rfl)) (by rfl) (spec_l1Cur_marksOf_ok fuel _ _ (hx2)) rfl (by rfl) rfl) ?_
 refine AO.pu T ?_
 refine AO.nil (AW.seq ?_)
 obtain ⟨x3, hx4, hH⟩ := bindE hH
 obtain ⟨x5, hx6, hH⟩ := bindE hH
 refine AW.le (Le.freezeM 2 (g := encInt) rfl (fun y => .vs rfl)) ?_
 refine AW.region ?_
 iterate 3 refine AO.pu T ?_
 refine AO.step rfl (callM_ok rfl 3 rfl rfl (es := [.pw (encL1Cur (L1Cur.mk x1.1.code x1.1.at' x1.1.seed)), .s (x1.2.map encInt)]) (outs := [.pw (encL1Cur x3.1), .u]) (ids := [1]) (by exact expLG_cons (.c (.box rfl rfl)) (expLG_cons (.c .s) (expLG_nil))) (by decide) (.inl (by rfl)) (by rfl) (spec_l1Cur_judge_ok _ _ _ (hx4)) rfl (by rfl) rfl) ?_
 refine AO.pu T ?_
 refine AO.step rfl (mk_map_ok T rfl 3 rfl rfl rfl rfl rfl (f := encInt) (l := [0, 5, (-5), 250, 1000, 1001, (-1000), (-1001)]) rfl rfl (fun _ => rfl) rfl rfl rfl rfl rfl) ?_
 refine AO.le (Le.freezeM 3 (g := encInt) rfl (fun y => .vs rfl)) ?_
 refine AO.step rfl (callM_ok rfl 4 rfl rfl (es := [.pw (encL1Cur (L1Cur.mk x3.1.code x3.1.at' x3.1.seed)), .s ([0, 5, (-5), 250, 1000, 1001, (-1000), (-1001)].map encInt)]) (outs := [.pw (encL1Cur x5.1), .u]) (ids := [1]) (by exact expLG_cons (.c (.box rfl rfl)) (expLG_cons (.c .s) (expLG_nil))) (by decide) (.inl (by rfl)) (by rfl) (spec_l1Cur_among_ok _ _ _ (hx6)) rfl (by rfl) rfl) ?_
 iterate 3 refine AO.pu T ?_
 refine AO.nil (AW.ret ?_)
 cases someE hH
 exact retQ.i [] rfl (.t (expLG_cons (.c .s) (expLG_cons (.c .v) (expLG_cons (.c .v) (expLG_nil)))))

def laws_FnMoved_l1 (more : List Int) (fuel : Nat) (x3 : ((List Int) × Int × Int × Int)) (x7 : (Int × Int × Int × Int × Bool)) (x11 : (Int × Int × Bool)) (x13 : (Int × Int × Bool)) : Nat → Int → Option Bool
  | 0, _ => none
  | k17 + 1, v43 =>
    cond (decide (v43 < (([x3.2.2.1, w64 ((w64 (x3.2.2.1 + x3.2.2.2)).tdiv 2), x3.2.2.2]).length : Int)))
      ((getI [x3.2.2.1, w64 ((w64 (x3.2.2.1 + x3.2.2.2)).tdiv 2), x3.2.2.2] v43).bind fun x45 =>
      (impl_WithMark_p x3.1 x3.2.1 x45).bind fun x47 =>
      (spec_WithMark_p x3.1 x3.2.1 x45).bind fun x49 =>
      (impl_TrimmedMean_p fuel x49.1).bind fun x51 =>
      (opt (!((!x47.2) || (!x49.2))) default (laws_sameInts_p x47.1 x49.1)).bind fun x53 =>
      (opt (!((((((!x47.2) || (!x49.2)) || (!x53)) || (!x51.2.2)) || decide ((w64 (x51.1 * x7.2.1)) < (w64 (x7.1 * x51.2.1)))) || decide ((w64 (x51.1 * x7.2.2.2.1)) > (w64 (x7.2.2.1 * x51.2.1))))) default (laws_pAbs_p (w64 ((w64 (x51.1 * x13.2.1)) - (w64 (x13.1 * x51.2.1)))))).bind fun x55 =>
      cond (((((((!x47.2) || (!x49.2)) || (!x53)) || (!x51.2.2)) || decide ((w64 (x51.1 * x7.2.1)) < (w64 (x7.1 * x51.2.1)))) || decide ((w64 (x51.1 * x7.2.2.2.1)) > (w64 (x7.2.2.1 * x51.2.1)))) || decide ((w64 (x55 * x11.2.1)) > (w64 ((w64 (x11.1 * x51.2.1)) * x13.2.1))))
        (some false)
        (laws_FnMoved_l1 more fuel x3 x7 x11 x13 k17 (w64 (v43 + 1))))
      ((spec_DrawIsTrimmed_p fuel more).bind fun x57 =>
      (impl_IsTrimmed_p fuel x57.1 x57.2).bind fun x59 =>
      (spec_IsTrimmed_p fuel x57.1 x57.2).bind fun x61 =>
      cond ((!(x59.2 == x61.2)) || (!(x59.1 == x61.1)))
        (some false)
        (cond (x59.2 && x61.1)
          ((impl_TrimmedSum_p fuel x57.1).bind fun x63 =>
          (impl_OrderOf_p x57.1 0).bind fun x65 =>
          (getI x57.1 x57.2).bind fun x67 =>
          cond (x67 == x65.1)
            ((impl_WithMark_p x57.1 x57.2 (-1000)).bind fun x69 =>
            (impl_TrimmedSum_p fuel x69.1).bind fun x71 =>
            cond ((((((!x63.2.2) || (!x65.2)) || (!x69.2)) || (!x71.2.2)) || (x71.1 != x63.1)) || (x71.2.1 != x63.2.1))
              (some false)
              ((spec_DrawWithMark_p fuel more).bind fun x73 =>
              (impl_WithMark_p x73.1 x73.2.1 x73.2.2).bind fun x75 =>
              (spec_WithMark_p x73.1 x73.2.1 x73.2.2).bind fun x77 =>
              (opt (x75.2 == x77.2) default (laws_sameInts_p x75.1 x77.1)).bind fun x79 =>
              some ((x75.2 == x77.2) && x79)))
            ((impl_WithMark_p x57.1 x57.2 1000).bind fun x81 =>
            (impl_TrimmedSum_p fuel x81.1).bind fun x83 =>
            cond ((((((!x63.2.2) || (!x65.2)) || (!x81.2)) || (!x83.2.2)) || (x83.1 != x63.1)) || (x83.2.1 != x63.2.1))
              (some false)
              ((spec_DrawWithMark_p fuel more).bind fun x85 =>
              (impl_WithMark_p x85.1 x85.2.1 x85.2.2).bind fun x87 =>
              (spec_WithMark_p x85.1 x85.2.1 x85.2.2).bind fun x89 =>
              (opt (x87.2 == x89.2) default (laws_sameInts_p x87.1 x89.1)).bind fun x91 =>
              some ((x87.2 == x89.2) && x91))))
          ((spec_DrawWithMark_p fuel more).bind fun x93 =>
          (impl_WithMark_p x93.1 x93.2.1 x93.2.2).bind fun x95 =>
          (spec_WithMark_p x93.1 x93.2.1 x93.2.2).bind fun x97 =>
          (opt (x95.2 == x97.2) default (laws_sameInts_p x95.1 x97.1)).bind fun x99 =>
          some ((x95.2 == x97.2) && x99))))
def laws_FnMoved_p (fuel : Nat) (code : List Int) (more : List Int) : Option Bool :=
  (laws_big_p code more).bind fun x1 =>
  cond x1
    (some true)
    ((spec_DrawMeanRange_p fuel code).bind fun x3 =>
    (impl_MeanRange_p fuel x3.1 x3.2.1 x3.2.2.1 x3.2.2.2).bind fun x5 =>
    (spec_MeanRange_p fuel x3.1 x3.2.1 x3.2.2.1 x3.2.2.2).bind fun x7 =>
    (impl_MostMoved_p fuel x3.1 x3.2.1 x3.2.2.1 x3.2.2.2).bind fun x9 =>
    (spec_MostMoved_p fuel x3.1 x3.2.1 x3.2.2.1 x3.2.2.2).bind fun x11 =>
    cond (((((((((!(x5.2.2.2.2 == x7.2.2.2.2)) || (x5.1 != x7.1)) || (x5.2.1 != x7.2.1)) || (x5.2.2.1 != x7.2.2.1)) || (x5.2.2.2.1 != x7.2.2.2.1)) || (!(x9.2.2 == x11.2.2))) || (x9.1 != x11.1)) || (x9.2.1 != x11.2.1)) || (!(x9.2.2 == x5.2.2.2.2)))
      (some false)
      (cond x5.2.2.2.2
        ((impl_TrimmedMean_p fuel x3.1).bind fun x13 =>
        cond (!x13.2.2)
          (some false)
          ((need (2 != 0)).bind fun u15 =>
          laws_FnMoved_l1 more fuel x3 x7 x11 x13 fuel 0))
        ((spec_DrawIsTrimmed_p fuel more).bind fun x101 =>
        (impl_IsTrimmed_p fuel x101.1 x101.2).bind fun x103 =>
        (spec_IsTrimmed_p fuel x101.1 x101.2).bind fun x105 =>
        cond ((!(x103.2 == x105.2)) || (!(x103.1 == x105.1)))
          (some false)
          (cond (x103.2 && x105.1)
            ((impl_TrimmedSum_p fuel x101.1).bind fun x107 =>
            (impl_OrderOf_p x101.1 0).bind fun x109 =>
            (getI x101.1 x101.2).bind fun x111 =>
            cond (x111 == x109.1)
              ((impl_WithMark_p x101.1 x101.2 (-1000)).bind fun x113 =>
              (impl_TrimmedSum_p fuel x113.1).bind fun x115 =>
              cond ((((((!x107.2.2) || (!x109.2)) || (!x113.2)) || (!x115.2.2)) || (x115.1 != x107.1)) || (x115.2.1 != x107.2.1))
                (some false)
                ((spec_DrawWithMark_p fuel more).bind fun x117 =>
                (impl_WithMark_p x117.1 x117.2.1 x117.2.2).bind fun x119 =>
                (spec_WithMark_p x117.1 x117.2.1 x117.2.2).bind fun x121 =>
                (opt (x119.2 == x121.2) default (laws_sameInts_p x119.1 x121.1)).bind fun x123 =>
                some ((x119.2 == x121.2) && x123)))
              ((impl_WithMark_p x101.1 x101.2 1000).bind fun x125 =>
              (impl_TrimmedSum_p fuel x125.1).bind fun x127 =>
              cond ((((((!x107.2.2) || (!x109.2)) || (!x125.2)) || (!x127.2.2)) || (x127.1 != x107.1)) || (x127.2.1 != x107.2.1))
                (some false)
                ((spec_DrawWithMark_p fuel more).bind fun x129 =>
                (impl_WithMark_p x129.1 x129.2.1 x129.2.2).bind fun x131 =>
                (spec_WithMark_p x129.1 x129.2.1 x129.2.2).bind fun x133 =>
                (opt (x131.2 == x133.2) default (laws_sameInts_p x131.1 x133.1)).bind fun x135 =>
                some ((x131.2 == x133.2) && x135))))
            ((spec_DrawWithMark_p fuel more).bind fun x137 =>
            (impl_WithMark_p x137.1 x137.2.1 x137.2.2).bind fun x139 =>
            (spec_WithMark_p x137.1 x137.2.1 x137.2.2).bind fun x141 =>
            (opt (x139.2 == x141.2) default (laws_sameInts_p x139.1 x141.1)).bind fun x143 =>
            some ((x139.2 == x141.2) && x143))))))
theorem laws_FnMoved_ok (fuel : Nat) (code : List Int) (more : List Int) (r : Bool) (hH : laws_FnMoved_p fuel code more = some r) : SpecR Try.prog 6 [.s (List.map encInt_u8 code), .s (List.map encInt_u8 more)] (.v (.bool r)) := by
 refine fn_ok T Try.func6 rfl (by decide) rfl ?_
 refine AW.seq (AW.region ?_)
 refine AO.pu T ?_
 refine AO.nil ?_
 iterate 2 refine AW.seq ?_
 obtain ⟨x1, hx2, hH⟩ := bindE hH
 refine AW.region ?_
 iterate 2 refine AO.pu T ?_
 refine AO.val rfl rfl (callV_ok rfl rfl rfl rfl (laws_big_ok _ _ _ (hx2)) rfl) ?_
 refine AO.nil ?_
 refine AW.cond (b := x1) rfl (fun hc => ?_) (fun hc => ?_)
 replace hH := condT hc hH
 refine AW.seq (AW.region ?_)
 refine AO.pu T ?_
 refine AO.nil (AW.ret ?_)
 cases someE hH
 exact retQ.i [] rfl (.c (.c .v))
 replace hH := condF hc hH
 refine AW.skip ?_
 refine AW.seq ?_
 obtain ⟨x3, hx4, hH⟩ := bindE hH
 refine AW.region ?_
 refine AO.pu T ?_
 refine AO.val rfl rfl (callV_ok rfl rfl rfl rfl (spec_DrawMeanRange_ok fuel _ _ (hx4)) rfl) ?_
 iterate 9 refine AO.pu T ?_
 refine AO.nil (AW.seq ?_)
 obtain ⟨x5, hx6, hH⟩ := bindE hH
 refine AW.region ?_
 iterate 4 refine AO.pu T ?_
 refine AO.val rfl rfl (callV_ok rfl rfl rfl rfl (impl_MeanRange_ok fuel _ _ _ _ _ (hx6)) rfl) ?_
 iterate 11 refine AO.pu T ?_
 refine AO.nil ?_
 refine AW.le (Le.ct 0 0 (σ' := (⟨[(1, .s (List.map encInt_u8 more)), (5, .s (List.map encInt x3.1)), (6, x3.2.1), (7, x3.2.2.1), (8, x3.2.2.2), (9, x5.1), (10, x5.2.1), (11, x5.2.2.1), (12, x5.2.2.2.1), (13, .v (.bool x5.2.2.2.2))], [], 359, []⟩ : St))) ?_
 refine AW.seq ?_
 obtain ⟨x7, hx8, hH⟩ := bindE hH
 refine AW.region ?_
 iterate 4 refine AO.pu T ?_
 refine AO.val rfl rfl (callV_ok rfl rfl rfl rfl (spec_MeanRange_ok fuel _ _ _ _ _ (hx8)) rfl) ?_
 iterate 11 refine AO.pu T ?_
 refine AO.nil (AW.seq ?_)
 obtain ⟨x9, hx10, hH⟩ := bindE hH
 refine AW.region ?_
 iterate 4 refine AO.pu T ?_
 refine AO.val rfl rfl (callV_ok rfl rfl rfl rfl (impl_MostMoved_ok fuel _ _ _ _ _ (hx10)) rfl) ?_
 iterate 7 refine AO.pu T ?_
 refine AO.nil ?_
 refine AW.le (Le.ct 0 0 (σ' := (⟨[(1, .s (List.map encInt_u8 more)), (5, .s (List.map encInt x3.1)), (6, x3.2.1), (7, x3.2.2.1), (8, x3.2.2.2), (9, x5.1), (10, x5.2.1), (11, x5.2.2.1), (12, x5.2.2.2.1), (13, .v (.bool x5.2.2.2.2)), (14, x7.1), (15, x7.2.1), (16, x7.2.2.1), (17, x7.2.2.2.1), (18, .v (.bool x7.2.2.2.2)), (19, x9.1), (20, x9.2.1), (21, .v (.bool x9.2.2))], [], 359, []⟩ : St))) ?_
 refine AW.seq ?_
 obtain ⟨x11, hx12, hH⟩ := bindE hH
 refine AW.region ?_
 iterate 4 refine AO.pu T ?_
 refine AO.val rfl rfl (callV_ok rfl rfl rfl rfl (spec_MostMoved_ok fuel _ _ _ _ _ (hx12)) rfl) ?_
 iterate 7 refine AO.pu T ?_
 refine AO.nil ?_
 iterate 2 refine AW.seq ?_
 refine AW.region ?_
 iterate 4 refine AO.pu T ?_
 iterate 2 refine AO.pureG T [] rfl trivial rfl rfl ?_
 refine AO.pureG T [115, 116] rfl ⟨fun h => h, fun h => h, trivial⟩ rfl rfl ?_
 refine AO.val rfl rfl (pick_or rfl rfl rfl rfl) ?_
 refine AO.pu T ?_
 iterate 2 refine AO.pureG T [] rfl trivial rfl rfl ?_
 refine AO.pureG T [120, 121] rfl ⟨fun h => h, fun h => h, trivial⟩ rfl rfl ?_
 refine AO.val rfl rfl (pick_or rfl rfl rfl rfl) ?_
 refine AO.pu T ?_
 iterate 2 refine AO.pureG T [] rfl trivial rfl rfl ?_
 refine AO.pureG T [125, 126] rfl ⟨fun h => h, fun h => h, trivial⟩ rfl rfl ?_
 refine AO.val rfl rfl (pick_or rfl rfl rfl rfl) ?_
 refine AO.pu T ?_
 iterate 2 refine AO.pureG T [] rfl trivial rfl rfl ?_
 refine AO.pureG T [130, 131] rfl ⟨fun h => h, fun h => h, trivial⟩ rfl rfl ?_
 refine AO.val rfl rfl (pick_or rfl rfl rfl rfl) ?_
 refine AO.pu T ?_
 iterate 2 refine AO.pureG T [] rfl trivial rfl rfl ?_
 refine AO.pureG T [135, 136] rfl ⟨fun h => h, fun h => h, trivial⟩ rfl rfl ?_
 refine AO.val rfl rfl (pick_or rfl rfl rfl rfl) ?_
 refine AO.pu T ?_
 iterate 2 refine AO.pureG T [] rfl trivial rfl rfl ?_
 refine AO.pureG T [140, 141] rfl ⟨fun h => h, fun h => h, trivial⟩ rfl rfl ?_
 refine AO.val rfl rfl (pick_or rfl rfl rfl rfl) ?_
 refine AO.pu T ?_
 iterate 2 refine AO.pureG T [] rfl trivial rfl rfl ?_
 refine AO.pureG T [145, 146] rfl ⟨fun h => h, fun h => h, trivial⟩ rfl rfl ?_
 refine AO.val rfl rfl (pick_or rfl rfl rfl rfl) ?_
 refine AO.pu T ?_
 iterate 2 refine AO.pureG T [] rfl trivial rfl rfl ?_
 refine AO.pureG T [150, 151] rfl ⟨fun h => h, fun h => h, trivial⟩ rfl rfl ?_
 refine AO.val rfl rfl (pick_or rfl rfl rfl rfl) ?_
 refine AO.nil ?_
 refine AW.le (Le.ct 0 0 (σ' := (⟨[(1, .s (List.map encInt_u8 more)), (5, .s (List.map encInt x3.1)), (6, x3.2.1), (7, x3.2.2.1), (8, x3.2.2.2), (13, .v (.bool x5.2.2.2.2)), (14, x7.1), (15, x7.2.1), (16, x7.2.2.1), (17, x7.2.2.2.1), (22, x11.1), (23, x11.2.1), (153, .v (.bool (((((((((!(x5.2.2.2.2 == x7.2.2.2.2)) || (x5.1 != x7.1)) || (x5.2.1 != x7.2.1)) || (x5.2.2.1 != x7.2.2.1)) || (x5.2.2.2.1 != x7.2.2.2.1)) || (!(x9.2.2 == x11.2.2))) || (x9.1 != x11.1)) || (x9.2.1 != x11.2.1)) || (!(x9.2.2 == x5.2.2.2.2)))))], [], 359, []⟩ : St))) ?_
 refine AW.cond (b := (((((((((!(x5.2.2.2.2 == x7.2.2.2.2)) || (x5.1 != x7.1)) || (x5.2.1 != x7.2.1)) || (x5.2.2.1 != x7.2.2.1)) || (x5.2.2.2.1 != x7.2.2.2.1)) || (!(x9.2.2 == x11.2.2))) || (x9.1 != x11.1)) || (x9.2.1 != x11.2.1)) || (!(x9.2.2 == x5.2.2.2.2)))) rfl (fun hc => ?_) (fun hc => ?_)
 replace hH := condT hc hH
 refine AW.seq (AW.region ?_)
 refine AO.pu T ?_
 refine AO.nil (AW.ret ?_)
 cases someE hH
 exact retQ.i [] rfl (.c (.c .v))
 replace hH := condF hc hH
 refine AW.skip ?_
 iterate 2 refine AW.seq ?_
 refine AW.region ?_
 refine AO.pu T ?_
 refine AO.nil ?_
 refine AW.cond (b := x5.2.2.2.2) rfl (fun hc => ?_) (fun hc => ?_)
 replace hH := condT hc hH
 refine AW.seq ?_
 obtain ⟨x13, hx14, hH⟩ := bindE hH
 refine AW.region ?_
 refine AO.pu T ?_
 refine AO.val rfl rfl (callV_ok rfl rfl rfl rfl (impl_TrimmedMean_ok fuel _ _ (hx14)) rfl) ?_
 iterate 7 refine AO.pu T ?_
 refine AO.nil ?_
 iterate 2 refine AW.seq ?_
 refine AW.region ?_
 iterate 2 refine AO.pu T ?_
 refine AO.nil ?_
 refine AW.cond (b := (!x13.2.2)) rfl (fun hc => ?_) (fun hc => ?_)
 replace hH := condT hc hH
 refine AW.seq (AW.region ?_)
 refine AO.pu T ?_
 refine AO.nil (AW.ret ?_)
 cases someE hH
 exact retQ.i [] rfl (.c (.c .v))
 replace hH := condF hc hH
 refine AW.skip ?_
 refine AW.seq ?_
 obtain ⟨u15, hx16, hH⟩ := bindE hH
 refine AW.region ?_
 iterate 3 refine AO.pu T ?_
 refine AO.val rfl rfl (arw_ok rfl rfl rfl rfl) ?_
 refine AO.val rfl rfl (quow_ok rfl rfl rfl (neZ (needT (hx16)))) ?_
 refine AO.pu T ?_
 refine AO.step rfl (mk_map_ok T rfl 1 rfl rfl rfl rfl rfl (f := encInt) (l := [x3.2.2.1, w64 ((w64 (x3.2.2.1 + x3.2.2.2)).tdiv 2), x3.2.2.2]) rfl rfl (fun _ => rfl) rfl rfl rfl rfl rfl) ?_
 refine AO.val rfl rfl (len_row_ok T rfl rfl rfl rfl) ?_
 refine AO.pu T ?_
 refine AO.nil ?_
 refine AW.block ?_
 refine AW.loopS (fun s : Nat × Int => (⟨[(1, .s (List.map encInt_u8 more)), (5, .s (List.map encInt x3.1)), (6, x3.2.1), (14, x7.1), (15, x7.2.1), (16, x7.2.2.1), (17, x7.2.2.2.1), (22, x11.1), (23, x11.2.1), (25, x13.1), (26, x13.2.1), (169, .R 1), (170, (([x3.2.2.1, w64 ((w64 (x3.2.2.1 + x3.2.2.2)).tdiv 2), x3.2.2.2]).length : Int)), (171, s.2)], [(1, .row 1 (List.map encInt [x3.2.2.1, w64 ((w64 (x3.2.2.1 + x3.2.2.2)).tdiv 2), x3.2.2.2]))], 359, []⟩ : St)) (fun s => laws_FnMoved_l1 more fuel x3 x7 x11 x13 s.1 s.2 = some r) (fun s => s.1) (fuel, 0) hH ?_ ?_
 exact Le.ct 0 0
 rintro ⟨k17, v43⟩ hH
 replace hH : laws_FnMoved_l1 more fuel x3 x7 x11 x13 k17 v43 = some r := hH
 try dsimp only
 rcases k17 with _ | k17
 cases (show none = some _ from hH)
 rw [laws_FnMoved_l1] at hH
 refine AW.seq (AW.region ?_)
 refine AO.pu T ?_
 refine AO.nil (AW.seq ?_)
 refine AW.cond (b := decide (v43 < (([x3.2.2.1, w64 ((w64 (x3.2.2.1 + x3.2.2.2)).tdiv 2), x3.2.2.2]).length : Int))) rfl (fun hc => ?_) (fun hc => ?_)
 replace hH := condT hc hH
 refine AW.skip ?_
 refine AW.seq ?_
 refine AW.block ?_
 refine AW.seq ?_
 obtain ⟨x45, hx46, hH⟩ := bindE hH
 refine AW.region ?_
 refine AO.val rfl rfl (ix_row_ok T rfl rfl rfl rfl rfl rfl (hx46)) ?_
 refine AO.val rfl rfl (load_row_ok T rfl rfl rfl rfl (getI_get (hx46)) rfl rfl rfl) ?_
 refine AO.pu T ?_
 refine AO.nil (AW.seq ?_)
 obtain ⟨x47, hx48, hH⟩ := bindE hH
 refine AW.region ?_
 iterate 3 refine AO.pu T ?_
 refine AO.step rfl (call_ok rfl 6 rfl rfl rfl (impl_WithMark_ok _ _ _ _ (hx48)) rfl rfl rfl) ?_
 iterate 5 refine AO.pu T ?_
 refine AO.nil (AW.seq ?_)
 obtain ⟨x49, hx50, hH⟩ := bindE hH
 refine AW.region ?_
 iterate 3 refine AO.pu T ?_
 refine AO.step rfl (call_ok rfl 7 rfl rfl rfl (spec_WithMark_ok _ _ _ _ (hx50)) rfl rfl rfl) ?_
 iterate 5 refine AO.pu T ?_
 refine AO.nil (AW.seq ?_)
 obtain ⟨x51, hx52, hH⟩ := bindE hH
 refine AW.region ?_
 refine AO.pu T ?_
 refine AO.val rfl rfl (callLV_ok rfl rfl rfl (es := [.s (List.map encInt x49.1)]) ⟨(.rowR rfl (.map fun y => .vs rfl)), trivial⟩ (impl_TrimmedMean_ok fuel _ _ (hx52)) (zfree_t (zfl (.cons (zfree_v _) (.cons (zfree_v _) (.cons (zfree_v _) .nil))))) rfl) ?_
 iterate 7 refine AO.pu T ?_
 refine AO.nil ?_
 refine AW.le (Le.ct 0 0 (σ' := (⟨[(1, .s (List.map encInt_u8 more)), (5, .s (List.map encInt x3.1)), (6, x3.2.1), (14, x7.1), (15, x7.2.1), (16, x7.2.2.1), (17, x7.2.2.2.1), (22, x11.1), (23, x11.2.1), (25, x13.1), (26, x13.2.1), (30, .R 6), (31, .v (.bool x47.2)), (32, .R 7), (33, .v (.bool x49.2)), (34, x51.1), (35, x51.2.1), (36, .v (.bool x51.2.2)), (169, .R 1), (170, (([x3.2.2.1, w64 ((w64 (x3.2.2.1 + x3.2.2.2)).tdiv 2), x3.2.2.2]).length : Int)), (171, v43)], [(1, .row 1 (List.map encInt [x3.2.2.1, w64 ((w64 (x3.2.2.1 + x3.2.2.2)).tdiv 2), x3.2.2.2])), (6, .row 1 (List.map encInt x47.1)), (7, .row 1 (List.map encInt x49.1))], 359, []⟩ : St))) ?_
 refine AW.seq ?_
 obtain ⟨x53, hx54, hH⟩ := bindE hH
 obtain ⟨x55, hx56, hH⟩ := bindE hH
 refine AW.region ?_
 iterate 3 refine AO.pu T ?_
 refine AO.pureG T [] rfl trivial rfl rfl ?_
 refine AO.pureG T [198] rfl ⟨fun h => h, trivial⟩ rfl rfl ?_
 refine AO.val rfl rfl (pick_or rfl rfl rfl rfl) ?_
 refine AO.pu T ?_
 iterate 2 refine AO.pureG T [] rfl trivial rfl rfl ?_
 refine AO.guard [202, 203] rfl ⟨fun h => h, fun h => h, trivial⟩ (fun hg => callLV_ok rfl rfl rfl (es := [.s (List.map encInt x47.1), .s (List.map encInt x49.1)]) ⟨(.rowR rfl (.map fun y => .vs rfl)), (.rowR rfl (.map fun y => .vs rfl)), trivial⟩ (laws_sameInts_ok _ _ _ (optT hx54 hg)) (zfree_v _) rfl) rfl ?_
 refine AO.pureG T [204] rfl ⟨fun h => h, trivial⟩ rfl rfl ?_
 refine AO.val rfl rfl (pick_or rfl rfl rfl rfl) ?_
 refine AO.pu T ?_
 refine AO.pureG T [] rfl trivial rfl rfl ?_
 refine AO.pureG T [208] rfl ⟨fun h => h, trivial⟩ rfl rfl ?_
 refine AO.val rfl rfl (pick_or rfl rfl rfl rfl) ?_
 refine AO.pu T ?_
 iterate 2 refine AO.pureG T [] rfl trivial rfl rfl ?_
 refine AO.guard [212, 213] rfl ⟨fun h => h, fun h => h, trivial⟩ (fun hg => arw_ok rfl rfl rfl rfl) rfl ?_
 iterate 2 refine AO.pureG T [] rfl trivial rfl rfl ?_
 refine AO.guard [215, 216] rfl ⟨fun h => h, fun h => h, trivial⟩ (fun hg => arw_ok rfl rfl rfl rfl) rfl ?_
 refine AO.pureG T [214, 217] rfl ⟨fun h => h, fun h => h, trivial⟩ rfl rfl ?_
 refine AO.val rfl rfl (pick_or rfl rfl rfl rfl) ?_
 refine AO.pu T ?_
 iterate 2 refine AO.pureG T [] rfl trivial rfl rfl ?_
 refine AO.guard [221, 222] rfl ⟨fun h => h, fun h => h, trivial⟩ (fun hg => arw_ok rfl rfl rfl rfl) rfl ?_
 iterate 2 refine AO.pureG T [] rfl trivial rfl rfl ?_
 refine AO.guard [224, 225] rfl ⟨fun h => h, fun h => h, trivial⟩ (fun hg => arw_ok rfl rfl rfl rfl) rfl ?_
 refine AO.pureG T [223, 226] rfl ⟨fun h => h, fun h => h, trivial⟩ rfl rfl ?_
 refine AO.val rfl rfl (pick_or rfl rfl rfl rfl) ?_
 refine AO.pu T ?_
 iterate 2 refine AO.pureG T [] rfl trivial rfl rfl ?_
 refine AO.guard [230, 231] rfl ⟨fun h => h, fun h => h, trivial⟩ (fun hg => arw_ok rfl rfl rfl rfl) rfl ?_
 iterate 2 refine AO.pureG T [] rfl trivial rfl rfl ?_
 refine AO.guard [233, 234] rfl ⟨fun h => h, fun h => h, trivial⟩ (fun hg => arw_ok rfl rfl rfl rfl) rfl ?_
 refine AO.guard [232, 235] rfl ⟨fun h => h, fun h => h, trivial⟩ (fun hg => arw_ok rfl rfl rfl rfl) rfl ?_
 refine AO.guard [236] rfl ⟨fun h => h, trivial⟩ (fun hg => callV_ok rfl rfl rfl rfl (laws_pAbs_ok _ _ (optT hx56 hg)) rfl) rfl ?_
 refine AO.pureG T [] rfl trivial rfl rfl ?_
 refine AO.guard [237, 238] rfl ⟨fun h => h, fun h => h, trivial⟩ (fun hg => arw_ok rfl rfl rfl rfl) rfl ?_
 iterate 2 refine AO.pureG T [] rfl trivial rfl rfl ?_
 refine AO.guard [240, 241] rfl ⟨fun h => h, fun h => h, trivial⟩ (fun hg => arw_ok rfl rfl rfl rfl) rfl ?_
 refine AO.pureG T [] rfl trivial rfl rfl ?_
 refine AO.guard [242, 243] rfl ⟨fun h => h, fun h => h, trivial⟩ (fun hg => arw_ok rfl rfl rfl rfl) rfl ?_
 refine AO.pureG T [239, 244] rfl ⟨fun h => h, fun h => h, trivial⟩ rfl rfl ?_
 refine AO.val rfl rfl (pick_or rfl rfl rfl rfl) ?_
 refine AO.nil ?_
 refine AW.le (Le.ct 0 0 (σ' := (⟨[(1, .s (List.map encInt_u8 more)), (5, .s (List.map encInt x3.1)), (6, x3.2.1), (14, x7.1), (15, x7.2.1), (16, x7.2.2.1), (17, x7.2.2.2.1), (22, x11.1), (23, x11.2.1), (25, x13.1), (26, x13.2.1), (169, .R 1), (170, (([x3.2.2.1, w64 ((w64 (x3.2.2.1 + x3.2.2.2)).tdiv 2), x3.2.2.2]).length : Int)), (171, v43), (246, .v (.bool (((((((!x47.2) || (!x49.2)) || (!x53)) || (!x51.2.2)) || decide ((w64 (x51.1 * x7.2.1)) < (w64 (x7.1 * x51.2.1)))) || decide ((w64 (x51.1 * x7.2.2.2.1)) > (w64 (x7.2.2.1 * x51.2.1)))) || decide ((w64 (x55 * x11.2.1)) > (w64 ((w64 (x11.1 * x51.2.1)) * x13.2.1))))))], [(1, .row 1 (List.map encInt [x3.2.2.1, w64 ((w64 (x3.2.2.1 + x3.2.2.2)).tdiv 2), x3.2.2.2]))], 359, []⟩ : St))) ?_
 refine AW.cond (b := (((((((!x47.2) || (!x49.2)) || (!x53)) || (!x51.2.2)) || decide ((w64 (x51.1 * x7.2.1)) < (w64 (x7.1 * x51.2.1)))) || decide ((w64 (x51.1 * x7.2.2.2.1)) > (w64 (x7.2.2.1 * x51.2.1)))) || decide ((w64 (x55 * x11.2.1)) > (w64 ((w64 (x11.1 * x51.2.1)) * x13.2.1))))) rfl (fun hc => ?_) (fun hc => ?_)
 replace hH := condT hc hH
 refine AW.seq (AW.region ?_)
 refine AO.pu T ?_
 refine AO.nil (AW.ret ?_)
 cases someE hH
 exact retQ.i [] rfl (.c (.c .v))
 replace hH := condF hc hH
 refine AW.skip ?_
 refine AW.region ?_
 refine AO.val rfl rfl (arw_ok rfl rfl rfl rfl) ?_
 refine AO.pu T ?_
 refine AO.nil ?_
 refine ⟨(k17, w64 (v43 + 1)), hH, Nat.lt_succ_self _, ?_⟩
 exact Le.ct 0 0
 replace hH := condF hc hH
 refine AW.exit ?_
 refine AW.seq ?_
 obtain ⟨x57, hx58, hH⟩ := bindE hH
 refine AW.region ?_
 refine AO.pu T ?_
 refine AO.val rfl rfl (callV_ok rfl rfl rfl rfl (spec_DrawIsTrimmed_ok fuel _ _ (hx58)) rfl) ?_
 iterate 5 refine AO.pu T ?_
 refine AO.nil (AW.seq ?_)
 obtain ⟨x59, hx60, hH⟩ := bindE hH
 refine AW.region ?_
 iterate 2 refine AO.pu T ?_
 refine AO.val rfl rfl (callV_ok rfl rfl rfl rfl (impl_IsTrimmed_ok fuel _ _ _ (hx60)) rfl) ?_
 iterate 5 refine AO.pu T ?_
 refine AO.nil (AW.seq ?_)
 obtain ⟨x61, hx62, hH⟩ := bindE hH
 refine AW.region ?_
 iterate 2 refine AO.pu T ?_
 refine AO.val rfl rfl (callV_ok rfl rfl rfl rfl (spec_IsTrimmed_ok fuel _ _ _ (hx62)) rfl) ?_
 iterate 5 refine AO.pu T ?_
 refine AO.nil ?_
 refine AW.le (Le.ct 0 0 (σ' := (⟨[(1, .s (List.map encInt_u8 more)), (37, .s (List.map encInt x57.1)), (38, x57.2), (39, .v (.bool x59.1)), (40, .v (.bool x59.2)), (41, .v (.bool x61.1)), (42, .v (.bool x61.2))], [], 359, []⟩ : St))) ?_
 iterate 2 refine AW.seq ?_
 refine AW.region ?_
 iterate 4 refine AO.pu T ?_
 iterate 2 refine AO.pureG T [] rfl trivial rfl rfl ?_
 refine AO.pureG T [269, 270] rfl ⟨fun h => h, fun h => h, trivial⟩ rfl rfl ?_
 refine AO.val rfl rfl (pick_or rfl rfl rfl rfl) ?_
 refine AO.nil ?_
 refine AW.cond (b := ((!(x59.2 == x61.2)) || (!(x59.1 == x61.1)))) rfl (fun hc => ?_) (fun hc => ?_)
 replace hH := condT hc hH
 refine AW.seq (AW.region ?_)
 refine AO.pu T ?_
 refine AO.nil (AW.ret ?_)
 cases someE hH
 exact retQ.i [] rfl (.c (.c .v))
 replace hH := condF hc hH
 refine AW.skip ?_
 iterate 2 refine AW.seq ?_
 refine AW.region ?_
 iterate 2 refine AO.pu T ?_
 refine AO.pureG T [] rfl trivial rfl rfl ?_
 refine AO.val rfl rfl (pick_and rfl rfl rfl rfl) ?_
 refine AO.nil ?_
 refine AW.cond (b := (x59.2 && x61.1)) rfl (fun hc => ?_) (fun hc => ?_)
 replace hH := condT hc hH
 refine AW.seq ?_
 obtain ⟨x63, hx64, hH⟩ := bindE hH
 refine AW.region ?_
 refine AO.pu T ?_
 refine AO.val rfl rfl (callV_ok rfl rfl rfl rfl (impl_TrimmedSum_ok fuel _ _ (hx64)) rfl) ?_
 iterate 7 refine AO.pu T ?_
 refine AO.nil (AW.seq ?_)
 obtain ⟨x65, hx66, hH⟩ := bindE hH
 refine AW.region ?_
 refine AO.pu T ?_
 refine AO.val rfl rfl (callV_ok rfl rfl rfl rfl (impl_OrderOf_ok _ _ _ (hx66)) rfl) ?_
 iterate 5 refine AO.pu T ?_
 refine AO.nil ?_
 refine AW.le (Le.ct 0 0 (σ' := (⟨[(1, .s (List.map encInt_u8 more)), (37, .s (List.map encInt x57.1)), (38, x57.2), (43, x63.1), (44, x63.2.1), (45, .v (.bool x63.2.2)), (46, x65.1), (47, .v (.bool x65.2))], [], 359, []⟩ : St))) ?_
 refine AW.seq (AW.region ?_)
 refine AO.pu T ?_
 refine AO.nil ?_
 iterate 2 refine AW.seq ?_
 obtain ⟨x67, hx68, hH⟩ := bindE hH
 refine AW.region ?_
 iterate 2 refine AO.pu T ?_
 refine AO.val rfl rfl (ix_map_ok T rfl rfl rfl rfl rfl (hx68) rfl) ?_
 iterate 3 refine AO.pu T ?_
 refine AO.nil ?_
 refine AW.cond (b := (x67 == x65.1)) rfl (fun hc => ?_) (fun hc => ?_)
 replace hH := condT hc hH
 refine AW.region ?_
 refine AO.pu T ?_
 refine AO.nil (AW.seq ?_)
 obtain ⟨x69, hx70, hH⟩ := bindE hH
 refine AW.region ?_
 iterate 3 refine AO.pu T ?_
 refine AO.step rfl (call_ok rfl 8 rfl rfl rfl (impl_WithMark_ok _ _ _ _ (hx70)) rfl rfl rfl) ?_
 iterate 5 refine AO.pu T ?_
 refine AO.nil (AW.seq ?_)
 obtain ⟨x71, hx72, hH⟩ := bindE hH
 refine AW.region ?_
 refine AO.pu T ?_
 refine AO.val rfl rfl (callLV_ok rfl rfl rfl (es := [.s (List.map encInt x69.1)]) ⟨(.rowR rfl (.map fun y => .vs rfl)), trivial⟩ (impl_TrimmedSum_ok fuel _ _ (hx72)) (zfree_t (zfl (.cons (zfree_v _) (.cons (zfree_v _) (.cons (zfree_v _) .nil))))) rfl) ?_
 iterate 7 refine AO.pu T ?_
 refine AO.nil ?_
 refine AW.le (Le.ct 0 0 (σ' := (⟨[(1, .s (List.map encInt_u8 more)), (43, x63.1), (44, x63.2.1), (45, .v (.bool x63.2.2)), (47, .v (.bool x65.2)), (50, .v (.bool x69.2)), (51, x71.1), (52, x71.2.1), (53, .v (.bool x71.2.2))], [], 359, []⟩ : St))) ?_
 refine AW.seq (AW.region ?_)
 iterate 3 refine AO.pu T ?_
 refine AO.pureG T [] rfl trivial rfl rfl ?_
 refine AO.pureG T [310] rfl ⟨fun h => h, trivial⟩ rfl rfl ?_
 refine AO.val rfl rfl (pick_or rfl rfl rfl rfl) ?_
 refine AO.pu T ?_
 refine AO.pureG T [] rfl trivial rfl rfl ?_
 refine AO.pureG T [314] rfl ⟨fun h => h, trivial⟩ rfl rfl ?_
 refine AO.val rfl rfl (pick_or rfl rfl rfl rfl) ?_
 refine AO.pu T ?_
 refine AO.pureG T [] rfl trivial rfl rfl ?_
 refine AO.pureG T [318] rfl ⟨fun h => h, trivial⟩ rfl rfl ?_
 refine AO.val rfl rfl (pick_or rfl rfl rfl rfl) ?_
 refine AO.pu T ?_
 iterate 2 refine AO.pureG T [] rfl trivial rfl rfl ?_
 refine AO.pureG T [322, 323] rfl ⟨fun h => h, fun h => h, trivial⟩ rfl rfl ?_
 refine AO.val rfl rfl (pick_or rfl rfl rfl rfl) ?_
 refine AO.pu T ?_
 iterate 2 refine AO.pureG T [] rfl trivial rfl rfl ?_
 refine AO.pureG T [327, 328] rfl ⟨fun h => h, fun h => h, trivial⟩ rfl rfl ?_
 refine AO.val rfl rfl (pick_or rfl rfl rfl rfl) ?_
 refine AO.nil ?_
 refine AW.le (Le.ct 0 0 (σ' := (⟨[(1, .s (List.map encInt_u8 more)), (330, .v (.bool ((((((!x63.2.2) || (!x65.2)) || (!x69.2)) || (!x71.2.2)) || (x71.1 != x63.1)) || (x71.2.1 != x63.2.1))))], [], 359, []⟩ : St))) ?_
 refine AW.cond (b := ((((((!x63.2.2) || (!x65.2)) || (!x69.2)) || (!x71.2.2)) || (x71.1 != x63.1)) || (x71.2.1 != x63.2.1))) rfl (fun hc => ?_) (fun hc => ?_)
 replace hH := condT hc hH
 refine AW.seq (AW.region ?_)
 refine AO.pu T ?_
 refine AO.nil (AW.ret ?_)
 cases someE hH
 exact retQ.i [] rfl (.c (.c .v))
 replace hH := condF hc hH
 refine AW.skip ?_
 refine AW.seq ?_
 obtain ⟨x73, hx74, hH⟩ := bindE hH
 refine AW.region ?_
 refine AO.pu T ?_
 refine AO.val rfl rfl (callV_ok rfl rfl rfl rfl (spec_DrawWithMark_ok fuel _ _ (hx74)) rfl) ?_
 iterate 7 refine AO.pu T ?_
 refine AO.nil (AW.seq ?_)
 obtain ⟨x75, hx76, hH⟩ := bindE hH
 refine AW.region ?_
 iterate 3 refine AO.pu T ?_
 refine AO.step rfl (call_ok rfl 9 rfl rfl rfl (impl_WithMark_ok _ _ _ _ (hx76)) rfl rfl rfl) ?_
 iterate 5 refine AO.pu T ?_
 refine AO.nil (AW.seq ?_)
 obtain ⟨x77, hx78, hH⟩ := bindE hH
 refine AW.region ?_
 iterate 3 refine AO.pu T ?_
 refine AO.step rfl (call_ok rfl 10 rfl rfl rfl (spec_WithMark_ok _ _ _ _ (hx78)) rfl rfl rfl) ?_
 iterate 5 refine AO.pu T ?_
 refine AO.nil ?_
 refine AW.le (Le.ct 0 0 (σ' := (⟨[(57, .R 9), (58, .v (.bool x75.2)), (59, .R 10), (60, .v (.bool x77.2))], [(9, .row 1 (List.map encInt x75.1)), (10, .row 1 (List.map encInt x77.1))], 359, []⟩ : St))) ?_
 refine AW.seq ?_
 obtain ⟨x79, hx80, hH⟩ := bindE hH
 refine AW.region ?_
 iterate 4 refine AO.pu T ?_
 iterate 2 refine AO.pureG T [] rfl trivial rfl rfl ?_
 refine AO.guard [355, 356] rfl ⟨fun h => h, fun h => h, trivial⟩ (fun hg => callLV_ok rfl rfl rfl (es := [.s (List.map encInt x75.1), .s (List.map encInt x77.1)]) ⟨(.rowR rfl (.map fun y => .vs rfl)), (.rowR rfl (.map fun y => .vs rfl)), trivial⟩ (laws_sameInts_ok _ _ _ (optT hx80 hg)) (zfree_v _) rfl) rfl ?_
 refine AO.val rfl rfl (pick_and rfl rfl rfl rfl) ?_
 refine AO.pu T ?_
 refine AO.nil (AW.ret ?_)
 cases someE hH
 exact retQ.i [] rfl (.c (.c .v))
 replace hH := condF hc hH
 refine AW.skip ?_
 refine AW.seq ?_
 obtain ⟨x81, hx82, hH⟩ := bindE hH
 refine AW.region ?_
 iterate 3 refine AO.pu T ?_
 refine AO.step rfl (call_ok rfl 11 rfl rfl rfl (impl_WithMark_ok _ _ _ _ (hx82)) rfl rfl rfl) ?_
 iterate 5 refine AO.pu T ?_
 refine AO.nil (AW.seq ?_)
 obtain ⟨x83, hx84, hH⟩ := bindE hH
 refine AW.region ?_
 refine AO.pu T ?_
 refine AO.val rfl rfl (callLV_ok rfl rfl rfl (es := [.s (List.map encInt x81.1)]) ⟨(.rowR rfl (.map fun y => .vs rfl)), trivial⟩ (impl_TrimmedSum_ok fuel _ _ (hx84)) (zfree_t (zfl (.cons (zfree_v _) (.cons (zfree_v _) (.cons (zfree_v _) .nil))))) rfl) ?_
 iterate 7 refine AO.pu T ?_
 refine AO.nil ?_
 refine AW.le (Le.ct 0 0 (σ' := (⟨[(1, .s (List.map encInt_u8 more)), (43, x63.1), (44, x63.2.1), (45, .v (.bool x63.2.2)), (47, .v (.bool x65.2)), (50, .v (.bool x81.2)), (51, x83.1), (52, x83.2.1), (53, .v (.bool x83.2.2))], [], 359, []⟩ : St))) ?_
 refine AW.seq (AW.region ?_)
 iterate 3 refine AO.pu T ?_
 refine AO.pureG T [] rfl trivial rfl rfl ?_
 refine AO.pureG T [310] rfl ⟨fun h => h, trivial⟩ rfl rfl ?_
 refine AO.val rfl rfl (pick_or rfl rfl rfl rfl) ?_
 refine AO.pu T ?_
 refine AO.pureG T [] rfl trivial rfl rfl ?_
 refine AO.pureG T [314] rfl ⟨fun h => h, trivial⟩ rfl rfl ?_
 refine AO.val rfl rfl (pick_or rfl rfl rfl rfl) ?_
 refine AO.pu T ?_
 refine AO.pureG T [] rfl trivial rfl rfl ?_
 refine AO.pureG T [318] rfl ⟨fun h => h, trivial⟩ rfl rfl ?_
 refine AO.val rfl rfl (pick_or rfl rfl rfl rfl) ?_
 refine AO.pu T ?_
 iterate 2 refine AO.pureG T [] rfl trivial rfl rfl ?_
 refine AO.pureG T [322, 323] rfl ⟨fun h => h, fun h => h, trivial⟩ rfl rfl ?_
 refine AO.val rfl rfl (pick_or rfl rfl rfl rfl) ?_
 refine AO.pu T ?_
 iterate 2 refine AO.pureG T [] rfl trivial rfl rfl ?_
 refine AO.pureG T [327, 328] rfl ⟨fun h => h, fun h => h, trivial⟩ rfl rfl ?_
 refine AO.val rfl rfl (pick_or rfl rfl rfl rfl) ?_
 refine AO.nil ?_
 refine AW.le (Le.ct 0 0 (σ' := (⟨[(1, .s (List.map encInt_u8 more)), (330, .v (.bool ((((((!x63.2.2) || (!x65.2)) || (!x81.2)) || (!x83.2.2)) || (x83.1 != x63.1)) || (x83.2.1 != x63.2.1))))], [], 359, []⟩ : St))) ?_
 refine AW.cond (b := ((((((!x63.2.2) || (!x65.2)) || (!x81.2)) || (!x83.2.2)) || (x83.1 != x63.1)) || (x83.2.1 != x63.2.1))) rfl (fun hc => ?_) (fun hc => ?_)
 replace hH := condT hc hH
 refine AW.seq (AW.region ?_)
 refine AO.pu T ?_
 refine AO.nil (AW.ret ?_)
 cases someE hH
 exact retQ.i [] rfl (.c (.c .v))
 replace hH := condF hc hH
 refine AW.skip ?_
 refine AW.seq ?_
 obtain ⟨x85, hx86, hH⟩ := bindE hH
 refine AW.region ?_
 refine AO.pu T ?_
 refine AO.val rfl rfl (callV_ok rfl rfl rfl rfl (spec_DrawWithMark_ok fuel _ _ (hx86)) rfl) ?_
 iterate 7 refine AO.pu T ?_
 refine AO.nil (AW.seq ?_)
 obtain ⟨x87, hx88, hH⟩ := bindE hH
 refine AW.region ?_
 iterate 3 refine AO.pu T ?_
 refine AO.step rfl (call_ok rfl 12 rfl rfl rfl (impl_WithMark_ok _ _ _ _ (hx88)) rfl rfl rfl) ?_
 iterate 5 refine AO.pu T ?_
 refine AO.nil (AW.seq ?_)
 obtain ⟨x89, hx90, hH⟩ := bindE hH
 refine AW.region ?_
 iterate 3 refine AO.pu T ?_
 refine AO.step rfl (call_ok rfl 13 rfl rfl rfl (spec_WithMark_ok _ _ _ _ (hx90)) rfl rfl rfl) ?_
 iterate 5 refine AO.pu T ?_
 refine AO.nil ?_
 refine AW.le (Le.ct 0 0 (σ' := (⟨[(57, .R 12), (58, .v (.bool x87.2)), (59, .R 13), (60, .v (.bool x89.2))], [(12, .row 1 (List.map encInt x87.1)), (13, .row 1 (List.map encInt x89.1))], 359, []⟩ : St))) ?_
 refine AW.seq ?_
 obtain ⟨x91, hx92, hH⟩ := bindE hH
 refine AW.region ?_
 iterate 4 refine AO.pu T ?_
 iterate 2 refine AO.pureG T [] rfl trivial rfl rfl ?_
 refine AO.guard [355, 356] rfl ⟨fun h => h, fun h => h, trivial⟩ (fun hg => callLV_ok rfl rfl rfl (es := [.s (List.map encInt x87.1), .s (List.map encInt x89.1)]) ⟨(.rowR rfl (.map fun y => .vs rfl)), (.rowR rfl (.map fun y => .vs rfl)), trivial⟩ (laws_sameInts_ok _ _ _ (optT hx92 hg)) (zfree_v _) rfl) rfl ?_
 refine AO.val rfl rfl (pick_and rfl rfl rfl rfl) ?_
 refine AO.pu T ?_
 refine AO.nil (AW.ret ?_)
 cases someE hH
 exact retQ.i [] rfl (.c (.c .v))
 replace hH := condF hc hH
 refine AW.skip ?_
 refine AW.seq ?_
 obtain ⟨x93, hx94, hH⟩ := bindE hH
 refine AW.region ?_
 refine AO.pu T ?_
 refine AO.val rfl rfl (callV_ok rfl rfl rfl rfl (spec_DrawWithMark_ok fuel _ _ (hx94)) rfl) ?_
 iterate 7 refine AO.pu T ?_
 refine AO.nil (AW.seq ?_)
 obtain ⟨x95, hx96, hH⟩ := bindE hH
 refine AW.region ?_
 iterate 3 refine AO.pu T ?_
 refine AO.step rfl (call_ok rfl 14 rfl rfl rfl (impl_WithMark_ok _ _ _ _ (hx96)) rfl rfl rfl) ?_
 iterate 5 refine AO.pu T ?_
 refine AO.nil ?_
 refine AW.le (Le.ct 0 0 (σ' := (⟨[(54, .s (List.map encInt x93.1)), (55, x93.2.1), (56, x93.2.2), (57, .R 14), (58, .v (.bool x95.2))], [(14, .row 1 (List.map encInt x95.1))], 359, []⟩ : St))) ?_
 refine AW.seq ?_
 obtain ⟨x97, hx98, hH⟩ := bindE hH
 refine AW.region ?_
 iterate 3 refine AO.pu T ?_
 refine AO.step rfl (call_ok rfl 15 rfl rfl rfl (spec_WithMark_ok _ _ _ _ (hx98)) rfl rfl rfl) ?_
 iterate 5 refine AO.pu T ?_
 refine AO.nil (AW.seq ?_)
 obtain ⟨x99, hx100, hH⟩ := bindE hH
 refine AW.region ?_
 iterate 4 refine AO.pu T ?_
 iterate 2 refine AO.pureG T [] rfl trivial rfl rfl ?_
 refine AO.guard [355, 356] rfl ⟨fun h => h, fun h => h, trivial⟩ (fun hg => callLV_ok rfl rfl rfl (es := [.s (List.map encInt x95.1), .s (List.map encInt x97.1)]) ⟨(.rowR rfl (.map fun y => .vs rfl)), (.rowR rfl (.map fun y => .vs rfl)), trivial⟩ (laws_sameInts_ok _ _ _ (optT hx100 hg)) (zfree_v _) rfl) rfl ?_
 refine AO.val rfl rfl (pick_and rfl rfl rfl rfl) ?_
 refine AO.pu T ?_
 refine AO.nil (AW.ret ?_)
 cases someE hH
 exact retQ.i [] rfl (.c (.c .v))
 replace hH := condF hc hH
 refine AW.skip ?_
 refine AW.seq ?_
 obtain ⟨x101, hx102, hH⟩ := bindE hH
 refine AW.region ?_
 refine AO.pu T ?_
 refine AO.val rfl rfl (callV_ok rfl rfl rfl rfl (spec_DrawIsTrimmed_ok fuel _ _ (hx102)) rfl) ?_
 iterate 5 refine AO.pu T ?_
 refine AO.nil (AW.seq ?_)
 obtain ⟨x103, hx104, hH⟩ := bindE hH
 refine AW.region ?_
 iterate 2 refine AO.pu T ?_
 refine AO.val rfl rfl (callV_ok rfl rfl rfl rfl (impl_IsTrimmed_ok fuel _ _ _ (hx104)) rfl) ?_
 iterate 5 refine AO.pu T ?_
 refine AO.nil (AW.seq ?_)
 obtain ⟨x105, hx106, hH⟩ := bindE hH
 refine AW.region ?_
 iterate 2 refine AO.pu T ?_
 refine AO.val rfl rfl (callV_ok rfl rfl rfl rfl (spec_IsTrimmed_ok fuel _ _ _ (hx106)) rfl) ?_
 iterate 5 refine AO.pu T ?_
 refine AO.nil ?_
 refine AW.le (Le.ct 0 0 (σ' := (⟨[(1, .s (List.map encInt_u8 more)), (37, .s (List.map encInt x101.1)), (38, x101.2), (39, .v (.bool x103.1)), (40, .v (.bool x103.2)), (41, .v (.bool x105.1)), (42, .v (.bool x105.2))], [], 359, []⟩ : St))) ?_
 iterate 2 refine AW.seq ?_
 refine AW.region ?_
 iterate 4 refine AO.pu T ?_
 iterate 2 refine AO.pureG T [] rfl trivial rfl rfl ?_
 refine AO.pureG T [269, 270] rfl ⟨fun h => h, fun h => h, trivial⟩ rfl rfl ?_
 refine AO.val rfl rfl (pick_or rfl rfl rfl rfl) ?_
 refine AO.nil ?_
 refine AW.cond (b := ((!(x103.2 == x105.2)) || (!(x103.1 == x105.1)))) rfl (fun hc => ?_) (fun hc => ?_)
 replace hH := condT hc hH
 refine AW.seq (AW.region ?_)
 refine AO.pu T ?_
 refine AO.nil (AW.ret ?_)
 cases someE hH
 exact retQ.i [] rfl (.c (.c .v))
 replace hH := condF hc hH
 refine AW.skip ?_
 iterate 2 refine AW.seq ?_
 refine AW.region ?_
 iterate 2 refine AO.pu T ?_
 refine AO.pureG T [] rfl trivial rfl rfl ?_
 refine AO.val rfl rfl (pick_and rfl rfl rfl rfl) ?_
 refine AO.nil ?_
 refine AW.cond (b := (x103.2 && x105.1)) rfl (fun hc => ?_) (fun hc => ?_)
 replace hH := condT hc hH
 refine AW.seq ?_
 obtain ⟨x107, hx108, hH⟩ := bindE hH
 refine AW.region ?_
 refine AO.pu T ?_
 refine AO.val rfl rfl (callV_ok rfl rfl rfl rfl (impl_TrimmedSum_ok fuel _ _ (hx108)) rfl) ?_
 iterate 7 refine AO.pu T ?_
 refine AO.nil (AW.seq ?_)
 obtain ⟨x109, hx110, hH⟩ := bindE hH
 refine AW.region ?_
 refine AO.pu T ?_
 refine AO.val rfl rfl (callV_ok rfl rfl rfl rfl (impl_OrderOf_ok _ _ _ (hx110)) rfl) ?_
 iterate 5 refine AO.pu T ?_
 refine AO.nil ?_
 refine AW.le (Le.ct 0 0 (σ' := (⟨[(1, .s (List.map encInt_u8 more)), (37, .s (List.map encInt x101.1)), (38, x101.2), (43, x107.1), (44, x107.2.1), (45, .v (.bool x107.2.2)), (46, x109.1), (47, .v (.bool x109.2))], [], 359, []⟩ : St))) ?_
 refine AW.seq (AW.region ?_)
 refine AO.pu T ?_
 refine AO.nil ?_
 iterate 2 refine AW.seq ?_
 obtain ⟨x111, hx112, hH⟩ := bindE hH
 refine AW.region ?_
 iterate 2 refine AO.pu T ?_
 refine AO.val rfl rfl (ix_map_ok T rfl rfl rfl rfl rfl (hx112) rfl) ?_
 iterate 3 refine AO.pu T ?_
 refine AO.nil ?_
 refine AW.cond (b := (x111 == x109.1)) rfl (fun hc => ?_) (fun hc => ?_)
 replace hH := condT hc hH
 refine AW.region ?_
 refine AO.pu T ?_
 refine AO.nil (AW.seq ?_)
 obtain ⟨x113, hx114, hH⟩ := bindE hH
 refine AW.region ?_
 iterate 3 refine AO.pu T ?_
 refine AO.step rfl (call_ok rfl 16 rfl rfl rfl (impl_WithMark_ok _ _ _ _ (hx114)) rfl rfl rfl) ?_
 iterate 5 refine AO.pu T ?_
 refine AO.nil (AW.seq ?_)
 obtain ⟨x115, hx116, hH⟩ := bindE hH
 refine AW.region ?_
 refine AO.pu T ?_
 refine AO.val rfl rfl (callLV_ok rfl rfl rfl (es := [.s (List.map encInt x113.1)]) ⟨(.rowR rfl (.map fun y => .vs rfl)), trivial⟩ (impl_TrimmedSum_ok fuel _ _ (hx116)) (zfree_t (zfl (.cons (zfree_v _) (.cons (zfree_v _) (.cons (zfree_v _) .nil))))) rfl) ?_
 iterate 7 refine AO.pu T ?_
 refine AO.nil ?_
 refine AW.le (Le.ct 0 0 (σ' := (⟨[(1, .s (List.map encInt_u8 more)), (43, x107.1), (44, x107.2.1), (45, .v (.bool x107.2.2)), (47, .v (.bool x109.2)), (50, .v (.bool x113.2)), (51, x115.1), (52, x115.2.1), (53, .v (.bool x115.2.2))], [], 359, []⟩ : St))) ?_
 refine AW.seq (AW.region ?_)
 iterate 3 refine AO.pu T ?_
 refine AO.pureG T [] rfl trivial rfl rfl ?_
 refine AO.pureG T [310] rfl ⟨fun h => h, trivial⟩ rfl rfl ?_
 refine AO.val rfl rfl (pick_or rfl rfl rfl rfl) ?_
 refine AO.pu T ?_
 refine AO.pureG T [] rfl trivial rfl rfl ?_
 refine AO.pureG T [314] rfl ⟨fun h => h, trivial⟩ rfl rfl ?_
 refine AO.val rfl rfl (pick_or rfl rfl rfl rfl) ?_
 refine AO.pu T ?_
 refine AO.pureG T [] rfl trivial rfl rfl ?_
 refine AO.pureG T [318] rfl ⟨fun h => h, trivial⟩ rfl rfl ?_
 refine AO.val rfl rfl (pick_or rfl rfl rfl rfl) ?_
 refine AO.pu T ?_
 iterate 2 refine AO.pureG T [] rfl trivial rfl rfl ?_
 refine AO.pureG T [322, 323] rfl ⟨fun h => h, fun h => h, trivial⟩ rfl rfl ?_
 refine AO.val rfl rfl (pick_or rfl rfl rfl rfl) ?_
 refine AO.pu T ?_
 iterate 2 refine AO.pureG T [] rfl trivial rfl rfl ?_
 refine AO.pureG T [327, 328] rfl ⟨fun h => h, fun h => h, trivial⟩ rfl rfl ?_
 refine AO.val rfl rfl (pick_or rfl rfl rfl rfl) ?_
 refine AO.nil ?_
 refine AW.le (Le.ct 0 0 (σ' := (⟨[(1, .s (List.map encInt_u8 more)), (330, .v (.bool ((((((!x107.2.2) || (!x109.2)) || (!x113.2)) || (!x115.2.2)) || (x115.1 != x107.1)) || (x115.2.1 != x107.2.1))))], [], 359, []⟩ : St))) ?_
 refine AW.cond (b := ((((((!x107.2.2) || (!x109.2)) || (!x113.2)) || (!x115.2.2)) || (x115.1 != x107.1)) || (x115.2.1 != x107.2.1))) rfl (fun hc => ?_) (fun hc => ?_)
 replace hH := condT hc hH
 refine AW.seq (AW.region ?_)
 refine AO.pu T ?_
 refine AO.nil (AW.ret ?_)
 cases someE hH
 exact retQ.i [] rfl (.c (.c .v))
 replace hH := condF hc hH
 refine AW.skip ?_
 refine AW.seq ?_
 obtain ⟨x117, hx118, hH⟩ := bindE hH
 refine AW.region ?_
 refine AO.pu T ?_
 refine AO.val rfl rfl (callV_ok rfl rfl rfl rfl (spec_DrawWithMark_ok fuel _ _ (hx118)) rfl) ?_
 iterate 7 refine AO.pu T ?_
 refine AO.nil (AW.seq ?_)
 obtain ⟨x119, hx120, hH⟩ := bindE hH
 refine AW.region ?_
 iterate 3 refine AO.pu T ?_
 refine AO.step rfl (call_ok rfl 17 rfl rfl rfl (impl_WithMark_ok _ _ _ _ (hx120)) rfl rfl rfl) ?_
 iterate 5 refine AO.pu T ?_
 refine AO.nil (AW.seq ?_)
 obtain ⟨x121, hx122, hH⟩ := bindE hH
 refine AW.region ?_
 iterate 3 refine AO.pu T ?_
 refine AO.step rfl (call_ok rfl 18 rfl rfl rfl (spec_WithMark_ok _ _ _ _ (hx122)) rfl rfl rfl) ?_
 iterate 5 refine AO.pu T ?_
 refine AO.nil ?_
 refine AW.le (Le.ct 0 0 (σ' := (⟨[(57, .R 17), (58, .v (.bool x119.2)), (59, .R 18), (60, .v (.bool x121.2))], [(17, .row 1 (List.map encInt x119.1)), (18, .row 1 (List.map encInt x121.1))], 359, []⟩ : St))) ?_
 refine AW.seq ?_
 obtain ⟨x123, hx124, hH⟩ := bindE hH
 refine AW.region ?_
 iterate 4 refine AO.pu T ?_
 iterate 2 refine AO.pureG T [] rfl trivial rfl rfl ?_
 refine AO.guard [355, 356] rfl ⟨fun h => h, fun h => h, trivial⟩ (fun hg => callLV_ok rfl rfl rfl (es := [.s (List.map encInt x119.1), .s (List.map encInt x121.1)]) ⟨(.rowR rfl (.map fun y => .vs rfl)), (.rowR rfl (.map fun y => .vs rfl)), trivial⟩ (laws_sameInts_ok _ _ _ (optT hx124 hg)) (zfree_v _) rfl) rfl ?_
 refine AO.val rfl rfl (pick_and rfl rfl rfl rfl) ?_
 refine AO.pu T ?_
 refine AO.nil (AW.ret ?_)
 cases someE hH
 exact retQ.i [] rfl (.c (.c .v))
 replace hH := condF hc hH
 refine AW.skip ?_
 refine AW.seq ?_
 obtain ⟨x125, hx126, hH⟩ := bindE hH
 refine AW.region ?_
 iterate 3 refine AO.pu T ?_
 refine AO.step rfl (call_ok rfl 19 rfl rfl rfl (impl_WithMark_ok _ _ _ _ (hx126)) rfl rfl rfl) ?_
 iterate 5 refine AO.pu T ?_
 refine AO.nil (AW.seq ?_)
 obtain ⟨x127, hx128, hH⟩ := bindE hH
 refine AW.region ?_
 refine AO.pu T ?_
 refine AO.val rfl rfl (callLV_ok rfl rfl rfl (es := [.s (List.map encInt x125.1)]) ⟨(.rowR rfl (.map fun y => .vs rfl)), trivial⟩ (impl_TrimmedSum_ok fuel _ _ (hx128)) (zfree_t (zfl (.cons (zfree_v _) (.cons (zfree_v _) (.cons (zfree_v _) .nil))))) rfl) ?_
 iterate 7 refine AO.pu T ?_
 refine AO.nil ?_
 refine AW.le (Le.ct 0 0 (σ' := (⟨[(1, .s (List.map encInt_u8 more)), (43, x107.1), (44, x107.2.1), (45, .v (.bool x107.2.2)), (47, .v (.bool x109.2)), (50, .v (.bool x125.2)), (51, x127.1), (52, x127.2.1), (53, .v (.bool x127.2.2))], [], 359, []⟩ : St))) ?_
 refine AW.seq (AW.region ?_)
 iterate 3 refine AO.pu T ?_
 refine AO.pureG T [] rfl trivial rfl rfl ?_
 refine AO.pureG T [310] rfl ⟨fun h => h, trivial⟩ rfl rfl ?_
 refine AO.val rfl rfl (pick_or rfl rfl rfl rfl) ?_
 refine AO.pu T ?_
 refine AO.pureG T [] rfl trivial rfl rfl ?_
 refine AO.pureG T [314] rfl ⟨fun h => h, trivial⟩ rfl rfl ?_
 refine AO.val rfl rfl (pick_or rfl rfl rfl rfl) ?_
 refine AO.pu T ?_
 refine AO.pureG T [] rfl trivial rfl rfl ?_
 refine AO.pureG T [318] rfl ⟨fun h => h, trivial⟩ rfl rfl ?_
 refine AO.val rfl rfl (pick_or rfl rfl rfl rfl) ?_
 refine AO.pu T ?_
 iterate 2 refine AO.pureG T [] rfl trivial rfl rfl ?_
 refine AO.pureG T [322, 323] rfl ⟨fun h => h, fun h => h, trivial⟩ rfl rfl ?_
 refine AO.val rfl rfl (pick_or rfl rfl rfl rfl) ?_
 refine AO.pu T ?_
 iterate 2 refine AO.pureG T [] rfl trivial rfl rfl ?_
 refine AO.pureG T [327, 328] rfl ⟨fun h => h, fun h => h, trivial⟩ rfl rfl ?_
 refine AO.val rfl rfl (pick_or rfl rfl rfl rfl) ?_
 refine AO.nil ?_
 refine AW.le (Le.ct 0 0 (σ' := (⟨[(1, .s (List.map encInt_u8 more)), (330, .v (.bool ((((((!x107.2.2) || (!x109.2)) || (!x125.2)) || (!x127.2.2)) || (x127.1 != x107.1)) || (x127.2.1 != x107.2.1))))], [], 359, []⟩ : St))) ?_
 refine AW.cond (b := ((((((!x107.2.2) || (!x109.2)) || (!x125.2)) || (!x127.2.2)) || (x127.1 != x107.1)) || (x127.2.1 != x107.2.1))) rfl (fun hc => ?_) (fun hc => ?_)
 replace hH := condT hc hH
 refine AW.seq (AW.region ?_)
 refine AO.pu T ?_
 refine AO.nil (AW.ret ?_)
 cases someE hH
 exact retQ.i [] rfl (.c (.c .v))
 replace hH := condF hc hH
 refine AW.skip ?_
 refine AW.seq ?_
 obtain ⟨x129, hx130, hH⟩ := bindE hH
 refine AW.region ?_
 refine AO.pu T ?_
 refine AO.val rfl rfl (callV_ok rfl rfl rfl rfl (spec_DrawWithMark_ok fuel _ _ (hx130)) rfl) ?_
 iterate 7 refine AO.pu T ?_
 refine AO.nil (AW.seq ?_)
 obtain ⟨x131, hx132, hH⟩ := bindE hH
 refine AW.region ?_
 iterate 3 refine AO.pu T ?_
 refine AO.step rfl (call_ok rfl 20 rfl rfl rfl (impl_WithMark_ok _ _ _ _ (hx132)) rfl rfl rfl) ?_
 iterate 5 refine AO.pu T ?_
 refine AO.nil (AW.seq ?_)
 obtain ⟨x133, hx134, hH⟩ := bindE hH
 refine AW.region ?_
 iterate 3 refine AO.pu T ?_
 refine AO.step rfl (call_ok rfl 21 rfl rfl rfl (spec_WithMark_ok _ _ _ _ (hx134)) rfl rfl rfl) ?_
 iterate 5 refine AO.pu T ?_
 refine AO.nil ?_
 refine AW.le (Le.ct 0 0 (σ' := (⟨[(57, .R 20), (58, .v (.bool x131.2)), (59, .R 21), (60, .v (.bool x133.2))], [(20, .row 1 (List.map encInt x131.1)), (21, .row 1 (List.map encInt x133.1))], 359, []⟩ : St))) ?_
 refine AW.seq ?_
 obtain ⟨x135, hx136, hH⟩ := bindE hH
 refine AW.region ?_
 iterate 4 refine AO.pu T ?_
 iterate 2 refine AO.pureG T [] rfl trivial rfl rfl ?_
 refine AO.guard [355, 356] rfl ⟨fun h => h, fun h => h, trivial⟩ (fun hg => callLV_ok rfl rfl rfl (es := [.s (List.map encInt x131.1), .s (List.map encInt x133.1)]) ⟨(.rowR rfl (.map fun y => .vs rfl)), (.rowR rfl (.map fun y => .vs rfl)), trivial⟩ (laws_sameInts_ok _ _ _ (optT hx136 hg)) (zfree_v _) rfl) rfl ?_
 refine AO.val rfl rfl (pick_and rfl rfl rfl rfl) ?_
 refine AO.pu T ?_
 refine AO.nil (AW.ret ?_)
 cases someE hH
 exact retQ.i [] rfl (.c (.c .v))
 replace hH := condF hc hH
 refine AW.skip ?_
 refine AW.seq ?_
 obtain ⟨x137, hx138, hH⟩ := bindE hH
 refine AW.region ?_
 refine AO.pu T ?_
 refine AO.val rfl rfl (callV_ok rfl rfl rfl rfl (spec_DrawWithMark_ok fuel _ _ (hx138)) rfl) ?_
 iterate 7 refine AO.pu T ?_
 refine AO.nil (AW.seq ?_)
 obtain ⟨x139, hx140, hH⟩ := bindE hH
 refine AW.region ?_
 iterate 3 refine AO.pu T ?_
 refine AO.step rfl (call_ok rfl 22 rfl rfl rfl (impl_WithMark_ok _ _ _ _ (hx140)) rfl rfl rfl) ?_
 iterate 5 refine AO.pu T ?_
 refine AO.nil ?_
 refine AW.le (Le.ct 0 0 (σ' := (⟨[(54, .s (List.map encInt x137.1)), (55, x137.2.1), (56, x137.2.2), (57, .R 22), (58, .v (.bool x139.2))], [(22, .row 1 (List.map encInt x139.1))], 359, []⟩ : St))) ?_
 refine AW.seq ?_
 obtain ⟨x141, hx142, hH⟩ := bindE hH
 refine AW.region ?_
 iterate 3 refine AO.pu T ?_
 refine AO.step rfl (call_ok rfl 23 rfl rfl rfl (spec_WithMark_ok _ _ _ _ (hx142)) rfl rfl rfl) ?_
 iterate 5 refine AO.pu T ?_
 refine AO.nil (AW.seq ?_)
 obtain ⟨x143, hx144, hH⟩ := bindE hH
 refine AW.region ?_
 iterate 4 refine AO.pu T ?_
 iterate 2 refine AO.pureG T [] rfl trivial rfl rfl ?_
 refine AO.guard [355, 356] rfl ⟨fun h => h, fun h => h, trivial⟩ (fun hg => callLV_ok rfl rfl rfl (es := [.s (List.map encInt x139.1), .s (List.map encInt x141.1)]) ⟨(.rowR rfl (.map fun y => .vs rfl)), (.rowR rfl (.map fun y => .vs rfl)), trivial⟩ (laws_sameInts_ok _ _ _ (optT hx144 hg)) (zfree_v _) rfl) rfl ?_
 refine AO.val rfl rfl (pick_and rfl rfl rfl rfl) ?_
 refine AO.pu T ?_
 refine AO.nil (AW.ret ?_)
 cases someE hH
 exact retQ.i [] rfl (.c (.c .v))

end Go.Proofs.Ytkabhjekcchjlaa

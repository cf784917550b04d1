/- The walk, part 1: what each function reached by the law FnReplaced computes. No condition. -/
import Derived.Test.YtegdphhfimaieacGreatAm3
import Derived.Test.YtegdphhfimaieacGreatShelf
import Derived.Test.YtegdphhfimaieacGreatProg
set_option maxRecDepth 4000
set_option maxHeartbeats 1000000
set_option linter.unusedVariables false
set_option linter.unusedSimpArgs false
set_option linter.unusedSectionVars false

namespace Go.Proofs.YtegdphhfimaieacGreat
open Go.AM
def teL : List (Option TI) := [
  none,
  none,
  some ⟨.int .i64, 1, 8, some (.int .i64 0)⟩,
  some ⟨.int .i64, 1, 8, some (.int .i64 0)⟩,
  some ⟨.bool, 1, 1, some (.bool false)⟩,
  some ⟨.int .u8, 1, 1, some (.int .u8 0)⟩,
  some ⟨.int .u8, 1, 1, some (.int .u8 0)⟩,
  some ⟨.struct [(0, 2), (1, 3), (2, 4), (3, 6)], 4, 24, some (.agg #[.int .i64 0, .int .i64 0, .bool false, .int .u8 0])⟩,
  some ⟨.struct [(0, 2), (1, 3), (2, 4), (3, 6)], 4, 24, some (.agg #[.int .i64 0, .int .i64 0, .bool false, .int .u8 0])⟩,
  some ⟨.str, 1, 16, some (.string ⟨#[]⟩)⟩,
  some ⟨.str, 1, 16, some (.string ⟨#[]⟩)⟩,
  some ⟨.str, 1, 16, some (.string ⟨#[]⟩)⟩,
  some ⟨.int .u64, 1, 8, some (.int .u64 0)⟩,
  some ⟨.struct [(0, 9), (1, 12)], 2, 24, some (.agg #[.string ⟨#[]⟩, .int .u64 0])⟩,
  some ⟨.struct [(0, 9), (1, 12)], 2, 24, some (.agg #[.string ⟨#[]⟩, .int .u64 0])⟩,
  some ⟨.ptr 112, 1, 8, some (.pointer none)⟩,
  some ⟨.ptr 115, 1, 8, some (.pointer none)⟩,
  some ⟨.ptr 123, 1, 8, some (.pointer none)⟩,
  some ⟨.struct [(0, 17)], 1, 8, some (.agg #[.pointer none])⟩,
  some ⟨.struct [(0, 17)], 1, 8, some (.agg #[.pointer none])⟩,
  none,
  some ⟨.int .i32, 1, 4, some (.int .i32 0)⟩,
  some ⟨.slice 5, 1, 24, some (.slice none 0 0)⟩,
  none,
  some ⟨.slice 3, 1, 24, some (.slice none 0 0)⟩,
  some ⟨.slice 72, 1, 24, some (.slice none 0 0)⟩,
  none,
  none,
  none,
  none,
  none,
  none,
  none,
  none,
  none,
  none,
  some ⟨.slice 24, 1, 24, some (.slice none 0 0)⟩,
  none,
  none,
  none,
  none,
  none,
  none,
  none,
  none,
  none,
  none,
  none,
  none,
  none,
  some ⟨.ptr 53, 1, 8, some (.pointer none)⟩,
  some ⟨.int .u64, 1, 8, some (.int .u64 0)⟩,
  some ⟨.struct [(0, 22), (1, 3), (2, 51)], 3, 40, some (.agg #[.slice none 0 0, .int .i64 0, .int .u64 0])⟩,
  some ⟨.struct [(0, 22), (1, 3), (2, 51)], 3, 40, some (.agg #[.slice none 0 0, .int .i64 0, .int .u64 0])⟩,
  none,
  none,
  none,
  none,
  none,
  none,
  none,
  none,
  none,
  none,
  none,
  none,
  none,
  none,
  none,
  none,
  none,
  some ⟨.struct [(0, 3), (1, 3), (2, 3)], 3, 24, some (.agg #[.int .i64 0, .int .i64 0, .int .i64 0])⟩,
  some ⟨.struct [(0, 3), (1, 3), (2, 3)], 3, 24, some (.agg #[.int .i64 0, .int .i64 0, .int .i64 0])⟩,
  none,
  none,
  none,
  none,
  none,
  some ⟨.int .u64, 1, 8, some (.int .u64 0)⟩,
  none,
  none,
  none,
  none,
  none,
  none,
  none,
  some ⟨.ptr 72, 1, 8, some (.pointer none)⟩,
  none,
  none,
  none,
  none,
  some ⟨.int .i64, 1, 8, some (.int .i64 0)⟩,
  none,
  none,
  none,
  none,
  none,
  none,
  some ⟨.int .u32, 1, 4, some (.int .u32 0)⟩,
  none,
  none,
  some ⟨.int .u64, 1, 8, some (.int .u64 0)⟩,
  none,
  none,
  none,
  some ⟨.ptr 3, 1, 8, some (.pointer none)⟩,
  none,
  some ⟨.ptr 101, 1, 8, some (.pointer none)⟩,
  none,
  none,
  none,
  some ⟨.struct [(0, 17), (1, 17), (2, 17), (3, 9)], 4, 40, some (.agg #[.pointer none, .pointer none, .pointer none, .string ⟨#[]⟩])⟩,
  some ⟨.struct [(0, 17), (1, 17), (2, 17), (3, 9)], 4, 40, some (.agg #[.pointer none, .pointer none, .pointer none, .string ⟨#[]⟩])⟩,
  some ⟨.array 0 16, 0, 0, some (.agg #[])⟩,
  some ⟨.struct [(0, 113)], 0, 0, some (.agg #[])⟩,
  some ⟨.struct [(0, 113)], 0, 0, some (.agg #[])⟩,
  some ⟨.int .u8, 1, 1, some (.int .u8 0)⟩,
  some ⟨.int .u8, 1, 1, some (.int .u8 0)⟩,
  none,
  some ⟨.ptr 5, 1, 8, some (.pointer none)⟩,
  some ⟨.int .i32, 1, 4, some (.int .i32 0)⟩,
  some ⟨.int .i32, 1, 4, some (.int .i32 0)⟩,
  some ⟨.struct [(0, 12), (1, 12), (2, 98), (3, 116), (4, 5), (5, 5), (6, 117), (7, 118), (8, 119), (9, 120), (10, 121)], 11, 48, some (.agg #[.int .u64 0, .int .u64 0, .int .u32 0, .int .u8 0, .int .u8 0, .int .u8 0, .int .u8 0, .nilFunc, .pointer none, .int .i32 0, .int .i32 0])⟩,
  some ⟨.struct [(0, 12), (1, 12), (2, 98), (3, 116), (4, 5), (5, 5), (6, 117), (7, 118), (8, 119), (9, 120), (10, 121)], 11, 48, some (.agg #[.int .u64 0, .int .u64 0, .int .u32 0, .int .u8 0, .int .u8 0, .int .u8 0, .int .u8 0, .nilFunc, .pointer none, .int .i32 0, .int .i32 0])⟩,
  none]
def te : TE := teOf teL
theorem T : TEok Tryz.prog te := TEok_of (by kernel_rfl)
theorem mix : Tryz.prog.follows .mixedOrders = true := by kernel_rfl

def encInt (x : Int) : List D := [.v (.int .i64 x)]
def encBool (x : Bool) : List D := [.v (.bool x)]
def encStr (x : ByteArray) : List D := [.v (.string x)]
def encInt_u8 (x : Int) : List D := [.v (.int .u8 x)]
def encInt_u64 (x : Int) : List D := [.v (.int .u64 x)]
def encInt_i32 (x : Int) : List D := [.v (.int .i32 x)]
def encLInt (x : List Int) : List D := [.s (x.map encInt)]
def encLIntO (x : List Int) : List D := [.w 1 (x.map encInt)]
theorem frzLInt (x : List Int) : FrzL (encLIntO x) (encLInt x) := .cons (.map fun y => .vs rfl) .nil
structure Official where
  number : Int
  club : Int
  level : Int
  deriving Inhabited, DecidableEq
def encOfficial (x : Official) : List D := [.v (.int .i64 x.number), .v (.int .i64 x.club), .v (.int .i64 x.level)]
structure L1Cur where
  code : List Int
  at' : Int
  seed : Int
  deriving Inhabited, DecidableEq
def encL1Cur (x : L1Cur) : List D := [.s (x.code.map encInt_u8), .v (.int .i64 x.at'), .v (.int .u64 x.seed)]
def encL1CurO (x : L1Cur) : List D := [.w 1 (x.code.map encInt_u8), .v (.int .i64 x.at'), .v (.int .u64 x.seed)]
theorem frzL1Cur (x : L1Cur) : FrzL (encL1CurO x) (encL1Cur x) := .cons (.map fun y => .vs rfl) (.cons (.vs rfl) (.cons (.vs rfl) (.nil)))

def laws_big_p (code : List Int) (more : List Int) : Option Bool :=
  some (decide ((code.length : Int) > 1048576) || decide ((more.length : Int) > (w64 (1048576 - (code.length : Int)))))
theorem laws_big_ok (code : List Int) (more : List Int) (r : Bool) (hH : laws_big_p code more = some r) : SpecR Tryz.prog 4 [.s (List.map encInt_u8 code), .s (List.map encInt_u8 more)] (.v (.bool r)) := by
 refine fn_ok T Tryz.func4 rfl (by decide) rfl ?_
 refine AW.seq (AW.region ?_)
 refine AO.pu T ?_
 refine AO.nil (AW.seq ?_)
 refine AW.region ?_
 refine AO.pu T ?_
 refine AO.val rfl rfl (len_map_ok T rfl rfl rfl) ?_
 iterate 2 refine AO.pu T ?_
 refine AO.pureG T [] rfl trivial rfl rfl ?_
 refine AO.guard [9] rfl ⟨fun h => h, trivial⟩ (fun hg => len_map_ok T rfl rfl rfl) rfl ?_
 refine AO.pureG T [] rfl trivial rfl rfl ?_
 refine AO.guard [11] rfl ⟨fun h => h, trivial⟩ (fun hg => len_map_ok T rfl rfl rfl) rfl ?_
 refine AO.guard [12] rfl ⟨fun h => h, trivial⟩ (fun hg => arw_ok rfl rfl rfl rfl) rfl ?_
 refine AO.pureG T [10, 13] rfl ⟨fun h => h, fun h => h, trivial⟩ rfl rfl ?_
 refine AO.val rfl rfl (pick_or rfl rfl rfl rfl) ?_
 refine AO.pu T ?_
 refine AO.nil (AW.ret ?_)
 have hR := someE hH; subst hR
 exact retQ.i [] rfl (.c (.c .v))

def spec_l1Cur_next_p (c : L1Cur) : Option (L1Cur × Int) :=
  cond (decide (c.at' < (c.code.length : Int)))
    ((getI c.code c.at').bind fun x1 =>
    cond (decide ((w64 (c.at' + 1)) ≤ (c.code.length : Int)))
      (some ((L1Cur.mk c.code (w64 (c.at' + 1)) (IntKind.wrap .u64 ((IntKind.wrap .u64 ((IntKind.wrap .u64 (c.seed * 6364136223846793005)) + (IntKind.wrap .u64 (IntKind.wrap .i64 x1)))) + 1442695040888963407))), IntKind.wrap .i64 x1))
      (some ((L1Cur.mk c.code (w64 (c.at' + 1)) (IntKind.wrap .u64 ((IntKind.wrap .u64 ((IntKind.wrap .u64 (c.seed * 6364136223846793005)) + (IntKind.wrap .u64 (IntKind.wrap .i64 x1)))) + 1442695040888963407))), IntKind.wrap .i64 (IntKind.wrap .u64 ((BitVec.ofInt 64 ((IntKind.wrap .u64 ((IntKind.wrap .u64 ((IntKind.wrap .u64 (c.seed * 6364136223846793005)) + (IntKind.wrap .u64 (IntKind.wrap .i64 x1)))) + 1442695040888963407)).fdiv (2 ^ 40)) &&& BitVec.ofInt 64 255).toNat : Int)))))
    (cond (decide ((w64 (c.at' + 1)) ≤ (c.code.length : Int)))
      (some ((L1Cur.mk c.code (w64 (c.at' + 1)) (IntKind.wrap .u64 ((IntKind.wrap .u64 ((IntKind.wrap .u64 (c.seed * 6364136223846793005)) + (IntKind.wrap .u64 0))) + 1442695040888963407))), 0))
      (some ((L1Cur.mk c.code (w64 (c.at' + 1)) (IntKind.wrap .u64 ((IntKind.wrap .u64 ((IntKind.wrap .u64 (c.seed * 6364136223846793005)) + (IntKind.wrap .u64 0))) + 1442695040888963407))), IntKind.wrap .i64 (IntKind.wrap .u64 ((BitVec.ofInt 64 ((IntKind.wrap .u64 ((IntKind.wrap .u64 ((IntKind.wrap .u64 (c.seed * 6364136223846793005)) + (IntKind.wrap .u64 0))) + 1442695040888963407)).fdiv (2 ^ 40)) &&& BitVec.ofInt 64 255).toNat : Int)))))
theorem spec_l1Cur_next_ok (c : L1Cur) (r : (L1Cur × Int)) (hH : spec_l1Cur_next_p c = some r) : SpecM Tryz.prog 66 [.pw (encL1Cur c)] [.pw (encL1Cur r.1)] (.v (.int .i64 r.2)) := by
 refine fn_okM T Tryz.func66 rfl (by decide) rfl rfl ?_
 intro L
 show AW _ _ _ (⟨[(0, .p 1 0)], [(1, .box [.s (List.map encInt_u8 c.code), c.at', .v (.int .u64 c.seed)])], 62, [(1, L 1)]⟩ : St)
 refine AW.seq (AW.region ?_)
 refine AO.pu T ?_
 refine AO.nil (AW.seq ?_)
 refine AW.region ?_
 refine AO.pu T ?_
 refine AO.nil ?_
 iterate 2 refine AW.seq ?_
 refine AW.drawn 9 2 [] mix (by kernel_rfl) rfl ?_
 iterate 8 refine AD.pure T rfl rfl rfl ?_
 refine AD.val rfl rfl (len_map_ok T rfl rfl rfl) ?_
 refine AD.nil ?_
 refine AO.pu T ?_
 refine AO.nil ?_
 refine AW.cond (b := decide (c.at' < (c.code.length : Int))) rfl (fun hc => ?_) (fun hc => ?_)
 replace hH := condT hc hH
 obtain ⟨x1, hx2, hH⟩ := bindE hH
 refine AW.drawn 8 2 [] mix (by kernel_rfl) rfl ?_
 iterate 8 refine AD.pure T rfl rfl rfl ?_
 refine AD.nil ?_
 refine AO.val rfl rfl (ix_map_ok T rfl rfl rfl rfl rfl (hx2) rfl) ?_
 refine AO.pu T ?_
 refine AO.val rfl rfl (convw_ok T rfl rfl rfl rfl) ?_
 refine AO.pu T ?_
 refine AO.nil ?_
 refine AW.le (Le.ct 0 0 (σ' := (⟨[(0, .p 1 0), (3, (IntKind.wrap .i64 x1 : Int))], [(1, .box [.s (List.map encInt_u8 c.code), c.at', .v (.int .u64 c.seed)])], 62, [(1, L 1)]⟩ : St)) (hpin := ⟨⟨rfl, rfl⟩, trivial⟩)) ?_
 refine AW.seq (AW.region ?_)
 iterate 4 refine AO.pu T ?_
 refine AO.val rfl rfl (arw_ok rfl rfl rfl rfl) ?_
 iterate 2 refine AO.pu T ?_
 refine AO.se T [.s (List.map encInt_u8 c.code), w64 (c.at' + 1), .v (.int .u64 c.seed)] ?_
 refine AO.nil (AW.seq ?_)
 refine AW.region ?_
 iterate 5 refine AO.pu T ?_
 refine AO.val rfl rfl (arw_ok rfl rfl rfl rfl) ?_
 refine AO.pu T ?_
 refine AO.val rfl rfl (convw_ok T rfl rfl rfl rfl) ?_
 iterate 2 refine AO.val rfl rfl (arw_ok rfl rfl rfl rfl) ?_
 iterate 2 refine AO.pu T ?_
 refine AO.se T [.s (List.map encInt_u8 c.code), w64 (c.at' + 1), .v (.int .u64 (IntKind.wrap .u64 ((IntKind.wrap .u64 ((IntKind.wrap .u64 (c.seed * 6364136223846793005)) + (IntKind.wrap .u64 (IntKind.wrap .i64 x1)))) + 1442695040888963407)))] ?_
 refine AO.nil ?_
 iterate 2 refine AW.seq ?_
 refine AW.drawn 9 2 [] mix (by kernel_rfl) rfl ?_
 iterate 8 refine AD.pure T rfl rfl rfl ?_
 refine AD.val rfl rfl (len_map_ok T rfl rfl rfl) ?_
 refine AD.nil ?_
 refine AO.pu T ?_
 refine AO.nil ?_
 refine AW.le (Le.ct 0 0 (σ' := (⟨[(0, .p 1 0), (3, (IntKind.wrap .i64 x1 : Int)), (53, .v (.bool (decide ((w64 (c.at' + 1)) ≤ (c.code.length : Int)))))], [(1, .box [.s (List.map encInt_u8 c.code), w64 (c.at' + 1), .v (.int .u64 (IntKind.wrap .u64 ((IntKind.wrap .u64 ((IntKind.wrap .u64 (c.seed * 6364136223846793005)) + (IntKind.wrap .u64 (IntKind.wrap .i64 x1)))) + 1442695040888963407)))])], 62, [(1, L 1)]⟩ : St)) (hpin := ⟨⟨rfl, rfl⟩, trivial⟩)) ?_
 refine AW.cond (b := decide ((w64 (c.at' + 1)) ≤ (c.code.length : Int))) rfl (fun hc => ?_) (fun hc => ?_)
 replace hH := condT hc hH
 refine AW.seq (AW.region ?_)
 iterate 2 refine AO.pu T ?_
 refine AO.nil (AW.ret ?_)
 have hR := someE hH; subst hR
 exact ⟨trivial, rfl, _, [], [1], rfl, expLG_cons (.c (.box rfl rfl)) (expLG_nil), .c (.c .v), by decide⟩
 replace hH := condF hc hH
 refine AW.skip ?_
 refine AW.seq (AW.region ?_)
 iterate 4 refine AO.pu T ?_
 refine AO.val rfl rfl (shr_ok rfl rfl rfl rfl rfl) ?_
 refine AO.val rfl rfl (and_ok rfl rfl rfl) ?_
 refine AO.val rfl rfl (convw_ok T rfl rfl rfl rfl) ?_
 refine AO.pu T ?_
 refine AO.nil (AW.ret ?_)
 have hR := someE hH; subst hR
 exact ⟨trivial, rfl, _, [], [1], rfl, expLG_cons (.c (.box rfl rfl)) (expLG_nil), .c (.c .v), by decide⟩
 replace hH := condF hc hH
 refine AW.skip ?_
 refine AW.seq (AW.region ?_)
 iterate 4 refine AO.pu T ?_
 refine AO.val rfl rfl (arw_ok rfl rfl rfl rfl) ?_
 iterate 2 refine AO.pu T ?_
 refine AO.se T [.s (List.map encInt_u8 c.code), w64 (c.at' + 1), .v (.int .u64 c.seed)] ?_
 refine AO.nil (AW.seq ?_)
 refine AW.region ?_
 iterate 5 refine AO.pu T ?_
 refine AO.val rfl rfl (arw_ok rfl rfl rfl rfl) ?_
 refine AO.pu T ?_
 refine AO.val rfl rfl (convw_ok T rfl rfl rfl rfl) ?_
 iterate 2 refine AO.val rfl rfl (arw_ok rfl rfl rfl rfl) ?_
 iterate 2 refine AO.pu T ?_
 refine AO.se T [.s (List.map encInt_u8 c.code), w64 (c.at' + 1), .v (.int .u64 (IntKind.wrap .u64 ((IntKind.wrap .u64 ((IntKind.wrap .u64 (c.seed * 6364136223846793005)) + (IntKind.wrap .u64 0))) + 1442695040888963407)))] ?_
 refine AO.nil ?_
 refine AW.le (Le.ct 0 0 (σ' := (⟨[(0, .p 1 0), (3, (0 : Int))], [(1, .box [.s (List.map encInt_u8 c.code), w64 (c.at' + 1), .v (.int .u64 (IntKind.wrap .u64 ((IntKind.wrap .u64 ((IntKind.wrap .u64 (c.seed * 6364136223846793005)) + (IntKind.wrap .u64 0))) + 1442695040888963407)))])], 62, [(1, L 1)]⟩ : St)) (hpin := ⟨⟨rfl, rfl⟩, trivial⟩)) ?_
 iterate 2 refine AW.seq ?_
 refine AW.drawn 9 2 [] mix (by kernel_rfl) rfl ?_
 iterate 8 refine AD.pure T rfl rfl rfl ?_
 refine AD.val rfl rfl (len_map_ok T rfl rfl rfl) ?_
 refine AD.nil ?_
 refine AO.pu T ?_
 refine AO.nil ?_
 refine AW.cond (b := decide ((w64 (c.at' + 1)) ≤ (c.code.length : Int))) rfl (fun hc => ?_) (fun hc => ?_)
 replace hH := condT hc hH
 refine AW.seq (AW.region ?_)
 iterate 2 refine AO.pu T ?_
 refine AO.nil (AW.ret ?_)
 have hR := someE hH; subst hR
 exact ⟨trivial, rfl, _, [], [1], rfl, expLG_cons (.c (.box rfl rfl)) (expLG_nil), .c (.c .v), by decide⟩
 replace hH := condF hc hH
 refine AW.skip ?_
 refine AW.seq (AW.region ?_)
 iterate 4 refine AO.pu T ?_
 refine AO.val rfl rfl (shr_ok rfl rfl rfl rfl rfl) ?_
 refine AO.val rfl rfl (and_ok rfl rfl rfl) ?_
 refine AO.val rfl rfl (convw_ok T rfl rfl rfl rfl) ?_
 refine AO.pu T ?_
 refine AO.nil (AW.ret ?_)
 have hR := someE hH; subst hR
 exact ⟨trivial, rfl, _, [], [1], rfl, expLG_cons (.c (.box rfl rfl)) (expLG_nil), .c (.c .v), by decide⟩

def spec_l1Cur_pick_p (c : L1Cur) (n : Int) : Option (L1Cur × Int) :=
  cond (decide (n ≤ 1))
    (some (c, 0))
    ((spec_l1Cur_next_p c).bind fun x1 =>
    cond (decide (n > 200))
      ((spec_l1Cur_next_p (L1Cur.mk x1.1.code x1.1.at' x1.1.seed)).bind fun x3 =>
      (need (n != 0)).bind fun u5 =>
      some ((L1Cur.mk x3.1.code x3.1.at' x3.1.seed), ((w64 ((w64 (x1.2 * 256)) + x3.2)).tmod n)))
      ((need (n != 0)).bind fun u7 =>
      some ((L1Cur.mk x1.1.code x1.1.at' x1.1.seed), (x1.2.tmod n))))
theorem spec_l1Cur_pick_ok (c : L1Cur) (n : Int) (r : (L1Cur × Int)) (hH : spec_l1Cur_pick_p c n = some r) : SpecM Tryz.prog 25 [.pw (encL1Cur c), n] [.pw (encL1Cur r.1), .u] (.v (.int .i64 r.2)) := by
 refine fn_okM T Tryz.func25 rfl (by decide) rfl rfl ?_
 intro L
 show AW _ _ _ (⟨[(0, .p 1 0), (1, n)], [(1, .box [.s (List.map encInt_u8 c.code), c.at', .v (.int .u64 c.seed)])], 20, [(1, L 1)]⟩ : St)
 refine AW.seq (AW.region ?_)
 refine AO.pu T ?_
 refine AO.nil ?_
 iterate 2 refine AW.seq ?_
 refine AW.region ?_
 iterate 2 refine AO.pu T ?_
 refine AO.nil ?_
 refine AW.cond (b := decide (n ≤ 1)) rfl (fun hc => ?_) (fun hc => ?_)
 replace hH := condT hc hH
 refine AW.seq (AW.region ?_)
 refine AO.pu T ?_
 refine AO.nil (AW.ret ?_)
 have hR := someE hH; subst hR
 exact ⟨trivial, rfl, _, [], [1], rfl, expLG_cons (.c (.box rfl rfl)) (expLG_cons (.c .u) (expLG_nil)), .c (.c .v), by decide⟩
 replace hH := condF hc hH
 refine AW.skip ?_
 refine AW.seq ?_
 obtain ⟨x1, hx2, hH⟩ := bindE hH
 refine AW.region ?_
 refine AO.pu T ?_
 refine AO.step rfl (callM_ok rfl 2 rfl rfl (es := [.pw (encL1Cur c)]) (outs := [.pw (encL1Cur x1.1)]) (ids := [1]) (by exact expLG_cons (.c (.box rfl rfl)) (expLG_nil)) (by decide) (.inl (by rfl)) (by rfl) (spec_l1Cur_next_ok _ _ (hx2)) rfl (by rfl) rfl) ?_
 refine AO.pu T ?_
 refine AO.nil ?_
 iterate 2 refine AW.seq ?_
 refine AW.region ?_
 iterate 2 refine AO.pu T ?_
 refine AO.nil ?_
 refine AW.cond (b := decide (n > 200)) rfl (fun hc => ?_) (fun hc => ?_)
 replace hH := condT hc hH
 obtain ⟨x3, hx4, hH⟩ := bindE hH
 refine AW.region ?_
 refine AO.pu T ?_
 refine AO.val rfl rfl (arw_ok rfl rfl rfl rfl) ?_
 refine AO.pu T ?_
 refine AO.step rfl (callM_ok rfl 2 rfl rfl (es := [.pw (encL1Cur (L1Cur.mk x1.1.code x1.1.at' x1.1.seed))]) (outs := [.pw (encL1Cur x3.1)]) (ids := [1]) (by exact expLG_cons (.c (.box rfl rfl)) (expLG_nil)) (by decide) (.inl (by rfl)) (by rfl) (spec_l1Cur_next_ok _ _ (hx4)) rfl (by rfl) rfl) ?_
 refine AO.val rfl rfl (arw_ok rfl rfl rfl rfl) ?_
 refine AO.pu T ?_
 refine AO.nil (AW.seq ?_)
 obtain ⟨u5, hx6, hH⟩ := bindE hH
 refine AW.region ?_
 iterate 2 refine AO.pu T ?_
 refine AO.val rfl rfl (rem_ok rfl rfl rfl (neZ (needT (hx6)))) ?_
 refine AO.pu T ?_
 refine AO.nil (AW.ret ?_)
 have hR := someE hH; subst hR
 exact ⟨trivial, rfl, _, [], [1], rfl, expLG_cons (.c (.box rfl rfl)) (expLG_cons (.c .u) (expLG_nil)), .c (.c .v), by decide⟩
 replace hH := condF hc hH
 refine AW.skip ?_
 refine AW.seq ?_
 obtain ⟨u7, hx8, hH⟩ := bindE hH
 refine AW.region ?_
 iterate 2 refine AO.pu T ?_
 refine AO.val rfl rfl (rem_ok rfl rfl rfl (neZ (needT (hx8)))) ?_
 refine AO.pu T ?_
 refine AO.nil (AW.ret ?_)
 have hR := someE hH; subst hR
 exact ⟨trivial, rfl, _, [], [1], rfl, expLG_cons (.c (.box rfl rfl)) (expLG_cons (.c .u) (expLG_nil)), .c (.c .v), by decide⟩

def spec_l1Cur_one_p (c : L1Cur) (n : Int) : Option (L1Cur × Bool) :=
  (spec_l1Cur_pick_p c n).bind fun x1 =>
  some ((L1Cur.mk x1.1.code x1.1.at' x1.1.seed), (x1.2 == 0))
theorem spec_l1Cur_one_ok (c : L1Cur) (n : Int) (r : (L1Cur × Bool)) (hH : spec_l1Cur_one_p c n = some r) : SpecM Tryz.prog 26 [.pw (encL1Cur c), n] [.pw (encL1Cur r.1), .u] (.v (.bool r.2)) := by
 refine fn_okM T Tryz.func26 rfl (by decide) rfl rfl ?_
 intro L
 show AW _ _ _ (⟨[(0, .p 1 0), (1, n)], [(1, .box [.s (List.map encInt_u8 c.code), c.at', .v (.int .u64 c.seed)])], 9, [(1, L 1)]⟩ : St)
 refine AW.seq (AW.region ?_)
 refine AO.pu T ?_
 refine AO.nil (AW.seq ?_)
 obtain ⟨x1, hx2, hH⟩ := bindE hH
 refine AW.region ?_
 iterate 2 refine AO.pu T ?_
 refine AO.step rfl (callM_ok rfl 2 rfl rfl (es := [.pw (encL1Cur c), .v (.int .i64 n)]) (outs := [.pw (encL1Cur x1.1), .u]) (ids := [1]) (by exact expLG_cons (.c (.box rfl rfl)) (expLG_cons (.c .v) (expLG_nil))) (by decide) (.inl (by rfl)) (by rfl) (spec_l1Cur_pick_ok _ _ _ (hx2)) rfl (by rfl) rfl) ?_
 iterate 2 refine AO.pu T ?_
 refine AO.nil (AW.ret ?_)
 have hR := someE hH; subst hR
 exact ⟨trivial, rfl, _, [], [1], rfl, expLG_cons (.c (.box rfl rfl)) (expLG_cons (.c .u) (expLG_nil)), .c (.c .v), by decide⟩

def spec_l1Cur_among_p (c : L1Cur) (list : List Int) : Option (L1Cur × Int) :=
  (spec_l1Cur_pick_p c (list.length : Int)).bind fun x1 =>
  (getI list x1.2).bind fun x3 =>
  some ((L1Cur.mk x1.1.code x1.1.at' x1.1.seed), x3)
theorem spec_l1Cur_among_ok (c : L1Cur) (list : List Int) (r : (L1Cur × Int)) (hH : spec_l1Cur_among_p c list = some r) : SpecM Tryz.prog 45 [.pw (encL1Cur c), .s (List.map encInt list)] [.pw (encL1Cur r.1), .u] (.v (.int .i64 r.2)) := by
 refine fn_okM T Tryz.func45 rfl (by decide) rfl rfl ?_
 intro L
 show AW _ _ _ (⟨[(0, .p 1 0), (1, .s (List.map encInt list))], [(1, .box [.s (List.map encInt_u8 c.code), c.at', .v (.int .u64 c.seed)])], 12, [(1, L 1)]⟩ : St)
 refine AW.seq (AW.region ?_)
 refine AO.pu T ?_
 refine AO.nil (AW.seq ?_)
 obtain ⟨x1, hx2, hH⟩ := bindE hH
 obtain ⟨x3, hx4, hH⟩ := bindE hH
 refine AW.region ?_
 iterate 3 refine AO.pu T ?_
 refine AO.val rfl rfl (len_map_ok T rfl rfl rfl) ?_
 refine AO.step rfl (callM_ok rfl 2 rfl rfl (es := [.pw (encL1Cur c), .v (.int .i64 (list.length : Int))]) (outs := [.pw (encL1Cur x1.1), .u]) (ids := [1]) (by exact expLG_cons (.c (.box rfl rfl)) (expLG_cons (.c .v) (expLG_nil))) (by decide) (.inl (by rfl)) (by rfl) (spec_l1Cur_pick_ok _ _ _ (hx2)) rfl (by rfl) rfl) ?_
 refine AO.val rfl rfl (ix_map_ok T rfl rfl rfl rfl rfl (hx4) rfl) ?_
 iterate 2 refine AO.pu T ?_
 refine AO.nil (AW.ret ?_)
 have hR := someE hH; subst hR
 exact ⟨trivial, rfl, _, [], [1], rfl, expLG_cons (.c (.box rfl rfl)) (expLG_cons (.c .u) (expLG_nil)), .c (.c .v), by decide⟩

def spec_l1Cur_officials_l1 (x5 : (L1Cur × Int)) : Nat → List Int → Int → Int → List Official → Option ((List Int) × Int × Int × (List Official))
  | 0, _, _, _, _ => none
  | k46 + 1, v67, v68, v69, v70 =>
    cond (decide ((v70.length : Int) < x5.2))
      ((spec_l1Cur_pick_p (L1Cur.mk v67 v68 v69) 11).bind fun x72 =>
      (spec_l1Cur_among_p (L1Cur.mk x72.1.code x72.1.at' x72.1.seed) ([1, 2, 2, 3, 4, 5, 20] : List Int)).bind fun x74 =>
      (spec_l1Cur_pick_p (L1Cur.mk x74.1.code x74.1.at' x74.1.seed) 3).bind fun x76 =>
      (need (fitsB 24 (v70.length + ([(Official.mk (w64 ((w64 ((w64 (11 * (v70.length : Int))) + 1)) + x72.2)) x74.2 (w64 (1 + x76.2)))]).length))).bind fun u78 =>
      spec_l1Cur_officials_l1 x5 k46 x76.1.code x76.1.at' x76.1.seed (v70 ++ [(Official.mk (w64 ((w64 ((w64 (11 * (v70.length : Int))) + 1)) + x72.2)) x74.2 (w64 (1 + x76.2)))]))
      (some (v67, v68, v69, v70))
def spec_l1Cur_officials_l2 (x1 : (L1Cur × Int)) : Nat → List Int → Int → Int → List Official → Option ((List Int) × Int × Int × (List Official))
  | 0, _, _, _, _ => none
  | k133 + 1, v154, v155, v156, v157 =>
    cond (decide ((v157.length : Int) < x1.2))
      ((spec_l1Cur_pick_p (L1Cur.mk v154 v155 v156) 11).bind fun x159 =>
      (spec_l1Cur_among_p (L1Cur.mk x159.1.code x159.1.at' x159.1.seed) ([1, 2, 2, 3, 4, 5, 20] : List Int)).bind fun x161 =>
      (spec_l1Cur_pick_p (L1Cur.mk x161.1.code x161.1.at' x161.1.seed) 3).bind fun x163 =>
      (need (fitsB 24 (v157.length + ([(Official.mk (w64 ((w64 ((w64 (11 * (v157.length : Int))) + 1)) + x159.2)) x161.2 (w64 (1 + x163.2)))]).length))).bind fun u165 =>
      spec_l1Cur_officials_l2 x1 k133 x163.1.code x163.1.at' x163.1.seed (v157 ++ [(Official.mk (w64 ((w64 ((w64 (11 * (v157.length : Int))) + 1)) + x159.2)) x161.2 (w64 (1 + x163.2)))]))
      (some (v154, v155, v156, v157))
def spec_l1Cur_officials_p (fuel : Nat) (c : L1Cur) : Option (L1Cur × (List Official)) :=
  (spec_l1Cur_pick_p c 12).bind fun x1 =>
  (spec_l1Cur_one_p (L1Cur.mk x1.1.code x1.1.at' x1.1.seed) 24).bind fun x3 =>
  cond x3.2
    ((spec_l1Cur_among_p (L1Cur.mk x3.1.code x3.1.at' x3.1.seed) ([14, 15, 24, 25] : List Int)).bind fun x5 =>
    (spec_l1Cur_officials_l1 x5 fuel x5.1.code x5.1.at' x5.1.seed []).bind fun (v40, v41, v42, v43) =>
    cond (decide ((v43.length : Int) > 0))
      ((spec_l1Cur_pick_p (L1Cur.mk v40 v41 v42) (v43.length : Int)).bind fun x80 =>
      (getI v43 x80.2).bind fun x82 =>
      (spec_l1Cur_pick_p (L1Cur.mk x80.1.code x80.1.at' x80.1.seed) 24).bind fun x84 =>
      cond (x84.2 == 0)
        ((getI v43 0).bind fun x86 =>
        (spec_l1Cur_among_p (L1Cur.mk x84.1.code x84.1.at' x84.1.seed) [0, 999, 1000, x86.number]).bind fun x88 =>
        some ((L1Cur.mk x88.1.code x88.1.at' x88.1.seed), (v43.set x80.2.toNat (Official.mk x88.2 x82.club x82.level))))
        (cond (x84.2 == 1)
          ((spec_l1Cur_among_p (L1Cur.mk x84.1.code x84.1.at' x84.1.seed) ([0, 20, 21] : List Int)).bind fun x90 =>
          some ((L1Cur.mk x90.1.code x90.1.at' x90.1.seed), (v43.set x80.2.toNat (Official.mk x82.number x90.2 x82.level))))
          (cond (x84.2 == 2)
            ((spec_l1Cur_among_p (L1Cur.mk x84.1.code x84.1.at' x84.1.seed) ([0, 4] : List Int)).bind fun x92 =>
            some ((L1Cur.mk x92.1.code x92.1.at' x92.1.seed), (v43.set x80.2.toNat (Official.mk x82.number x82.club x92.2))))
            (some ((L1Cur.mk x84.1.code x84.1.at' x84.1.seed), v43)))))
      (some ((L1Cur.mk v40 v41 v42), v43)))
    ((spec_l1Cur_officials_l2 x1 fuel x3.1.code x3.1.at' x3.1.seed []).bind fun (v127, v128, v129, v130) =>
    cond (decide ((v130.length : Int) > 0))
      ((spec_l1Cur_pick_p (L1Cur.mk v127 v128 v129) (v130.length : Int)).bind fun x167 =>
      (getI v130 x167.2).bind fun x169 =>
      (spec_l1Cur_pick_p (L1Cur.mk x167.1.code x167.1.at' x167.1.seed) 24).bind fun x171 =>
      cond (x171.2 == 0)
        ((getI v130 0).bind fun x173 =>
        (spec_l1Cur_among_p (L1Cur.mk x171.1.code x171.1.at' x171.1.seed) [0, 999, 1000, x173.number]).bind fun x175 =>
        some ((L1Cur.mk x175.1.code x175.1.at' x175.1.seed), (v130.set x167.2.toNat (Official.mk x175.2 x169.club x169.level))))
        (cond (x171.2 == 1)
          ((spec_l1Cur_among_p (L1Cur.mk x171.1.code x171.1.at' x171.1.seed) ([0, 20, 21] : List Int)).bind fun x177 =>
          some ((L1Cur.mk x177.1.code x177.1.at' x177.1.seed), (v130.set x167.2.toNat (Official.mk x169.number x177.2 x169.level))))
          (cond (x171.2 == 2)
            ((spec_l1Cur_among_p (L1Cur.mk x171.1.code x171.1.at' x171.1.seed) ([0, 4] : List Int)).bind fun x179 =>
            some ((L1Cur.mk x179.1.code x179.1.at' x179.1.seed), (v130.set x167.2.toNat (Official.mk x169.number x169.club x179.2))))
            (some ((L1Cur.mk x171.1.code x171.1.at' x171.1.seed), v130)))))
      (some ((L1Cur.mk v127 v128 v129), v130)))
theorem spec_l1Cur_officials_ok (fuel : Nat) (c : L1Cur) (r : (L1Cur × (List Official))) (hH : spec_l1Cur_officials_p fuel c = some r) : SpecM Tryz.prog 44 [.pw (encL1Cur c)] [.pw (encL1Cur r.1)] (.w 3 (r.2.map encOfficial)) := by
 refine fn_okM T Tryz.func44 rfl (by decide) rfl rfl ?_
 intro L
 show AW _ _ _ (⟨[(0, .p 1 0)], [(1, .box [.s (List.map encInt_u8 c.code), c.at', .v (.int .u64 c.seed)])], 74, [(1, L 1)]⟩ : St)
 refine AW.seq (AW.region ?_)
 refine AO.pu T ?_
 refine AO.nil (AW.seq ?_)
 refine AW.region ?_
 refine AO.pu T ?_
 refine AO.nil (AW.seq ?_)
 obtain ⟨x1, hx2, hH⟩ := bindE hH
 refine AW.region ?_
 refine AO.pu T ?_
 refine AO.step rfl (callM_ok rfl 2 rfl rfl (es := [.pw (encL1Cur c), .v (.int .i64 12)]) (outs := [.pw (encL1Cur x1.1), .u]) (ids := [1]) (by exact expLG_cons (.c (.box rfl rfl)) (expLG_cons (.c .v) (expLG_nil))) (by decide) (.inl (by rfl)) (by rfl) (spec_l1Cur_pick_ok _ _ _ (hx2)) rfl (by rfl) rfl) ?_
 refine AO.pu T ?_
 refine AO.nil ?_
 iterate 2 refine AW.seq ?_
 obtain ⟨x3, hx4, hH⟩ := bindE hH
 refine AW.region ?_
 refine AO.pu T ?_
 refine AO.step rfl (callM_ok rfl 2 rfl rfl (es := [.pw (encL1Cur (L1Cur.mk x1.1.code x1.1.at' x1.1.seed)), .v (.int .i64 24)]) (outs := [.pw (encL1Cur x3.1), .u]) (ids := [1]) (by exact expLG_cons (.c (.box rfl rfl)) (expLG_cons (.c .v) (expLG_nil))) (by decide) (.inl (by rfl)) (by rfl) (spec_l1Cur_one_ok _ _ _ (hx4)) rfl (by rfl) rfl) ?_
 refine AO.nil ?_
 refine AW.cond (b := x3.2) rfl (fun hc => ?_) (fun hc => ?_)
 replace hH := condT hc hH
 obtain ⟨x5, hx6, hH⟩ := bindE hH
 refine AW.region ?_
 refine AO.pu T ?_
 refine AO.step rfl (mk_map_ok T rfl 2 rfl rfl rfl rfl rfl (f := encInt) (l := ([14, 15, 24, 25] : List Int)) rfl rfl (fun _ => rfl) rfl rfl rfl rfl rfl) ?_
 refine AO.le (Le.freezeM 2 (g := encInt) rfl (fun y => .vs rfl)) ?_
 refine AO.step rfl (callM_ok rfl 3 rfl rfl (es := [.pw (encL1Cur (L1Cur.mk x3.1.code x3.1.at' x3.1.seed)), .s (([14, 15, 24, 25] : List Int).map encInt)]) (outs := [.pw (encL1Cur x5.1), .u]) (ids := [1]) (by exact expLG_cons (.c (.box rfl rfl)) (expLG_cons (.c .s) (expLG_nil))) (by decide) (.inl (by rfl)) (by rfl) (spec_l1Cur_among_ok _ _ _ (hx6)) rfl (by rfl) rfl) ?_
 refine AO.pu T ?_
 refine AO.nil ?_
 obtain ⟨o44, hH, hK45⟩ := bindE hH
 refine AW.seqJ (fun s : (List Int) × Int × Int × (List Official) => (⟨[(0, .p 1 0), (3, .R 8)], [(1, .box [.s (List.map encInt_u8 s.1), s.2.1, .v (.int .u64 s.2.2.1)]), (8, .row 3 (List.map encOfficial s.2.2.2))], 74, [(1, L 1)]⟩ : St)) (fun s => s = o44) ?_ ?_
 refine AW.block ?_
 refine AW.loopS (fun s : Nat × (List Int) × Int × Int × (List Official) => (⟨[(0, .p 1 0), (3, .R 17), (4, x5.2)], [(1, .box [.s (List.map encInt_u8 s.2.1), s.2.2.1, .v (.int .u64 s.2.2.2.1)]), (17, .row 3 (List.map encOfficial s.2.2.2.2))], 74, [(1, L 1)]⟩ : St)) (fun s => spec_l1Cur_officials_l1 x5 s.1 s.2.1 s.2.2.1 s.2.2.2.1 s.2.2.2.2 = some o44) (fun s => s.1) (fuel, x5.1.code, x5.1.at', x5.1.seed, []) hH ?_ ?_
 refine Le.trans (Le.void 3 17 3 rfl rfl) ?_
 exact Le.ct 0 0 (hpin := ⟨⟨rfl, rfl⟩, trivial⟩)
 rintro ⟨k46, v67, v68, v69, v70⟩ hH
 replace hH : spec_l1Cur_officials_l1 x5 k46 v67 v68 v69 v70 = some o44 := hH
 try dsimp only
 rcases k46 with _ | k46
 cases (show none = some _ from hH)
 rw [spec_l1Cur_officials_l1] at hH
 iterate 2 refine AW.seq ?_
 refine AW.region ?_
 refine AO.pu T ?_
 refine AO.val rfl rfl (len_row_ok T rfl rfl rfl rfl) ?_
 iterate 2 refine AO.pu T ?_
 refine AO.nil ?_
 refine AW.cond (b := decide ((v70.length : Int) < x5.2)) rfl (fun hc => ?_) (fun hc => ?_)
 replace hH := condT hc hH
 refine AW.skip ?_
 refine AW.block ?_
 obtain ⟨x72, hx73, hH⟩ := bindE hH
 obtain ⟨x74, hx75, hH⟩ := bindE hH
 obtain ⟨x76, hx77, hH⟩ := bindE hH
 obtain ⟨u78, hx79, hH⟩ := bindE hH
 refine AW.region ?_
 iterate 2 refine AO.pu T ?_
 refine AO.val rfl rfl (len_row_ok T rfl rfl rfl rfl) ?_
 iterate 2 refine AO.val rfl rfl (arw_ok rfl rfl rfl rfl) ?_
 refine AO.pu T ?_
 refine AO.step rfl (callM_ok rfl 18 rfl rfl (es := [.pw (encL1Cur (L1Cur.mk v67 v68 v69)), .v (.int .i64 11)]) (outs := [.pw (encL1Cur x72.1), .u]) (ids := [1]) (by exact expLG_cons (.c (.box rfl rfl)) (expLG_cons (.c .v) (expLG_nil))) (by decide) (.inl (by rfl)) (by rfl) (spec_l1Cur_pick_ok _ _ _ (hx73)) rfl (by rfl) rfl) ?_
 refine AO.val rfl rfl (arw_ok rfl rfl rfl rfl) ?_
 refine AO.pu T ?_
 refine AO.step rfl (mk_map_ok T rfl 18 rfl rfl rfl rfl rfl (f := encInt) (l := ([1, 2, 2, 3, 4, 5, 20] : List Int)) rfl rfl (fun _ => rfl) rfl rfl rfl rfl rfl) ?_
 refine AO.le (Le.freezeM 18 (g := encInt) rfl (fun y => .vs rfl)) ?_
 refine AO.step rfl (callM_ok rfl 19 rfl rfl (es := [.pw (encL1Cur (L1Cur.mk x72.1.code x72.1.at' x72.1.seed)), .s (([1, 2, 2, 3, 4, 5, 20] : List Int).map encInt)]) (outs := [.pw (encL1Cur x74.1), .u]) (ids := [1]) (by exact expLG_cons (.c (.box rfl rfl)) (expLG_cons (.c .s) (expLG_nil))) (by decide) (.inl (by rfl)) (by rfl) (spec_l1Cur_among_ok _ _ _ (hx75)) rfl (by rfl) rfl) ?_
 refine AO.pu T ?_
 refine AO.step rfl (callM_ok rfl 19 rfl rfl (es := [.pw (encL1Cur (L1Cur.mk x74.1.code x74.1.at' x74.1.seed)), .v (.int .i64 3)]) (outs := [.pw (encL1Cur x76.1), .u]) (ids := [1]) (by exact expLG_cons (.c (.box rfl rfl)) (expLG_cons (.c .v) (expLG_nil))) (by decide) (.inl (by rfl)) (by rfl) (spec_l1Cur_pick_ok _ _ _ (hx77)) rfl (by rfl) rfl) ?_
 refine AO.val rfl rfl (arw_ok rfl rfl rfl rfl) ?_
 refine AO.pu T (d := .g [w64 ((w64 ((w64 (11 * (v70.length : Int))) + 1)) + x72.2), x74.2, w64 (1 + x76.2)]) ?_
 refine AO.step rfl (mk_map_ok T rfl 19 rfl rfl rfl rfl rfl (f := encOfficial) (l := [(Official.mk (w64 ((w64 ((w64 (11 * (v70.length : Int))) + 1)) + x72.2)) x74.2 (w64 (1 + x76.2)))]) rfl rfl (fun _ => rfl) rfl rfl rfl rfl rfl) ?_
 refine AO.step rfl (app_rv_map T rfl 20 rfl rfl rfl rfl rfl (by decide) rfl rfl rfl rfl (fun _ => rfl) (needT (hx79)) rfl rfl) ?_
 refine AO.pu T ?_
 refine AO.nil ?_
 refine ⟨(k46, x76.1.code, x76.1.at', x76.1.seed, (v70 ++ [(Official.mk (w64 ((w64 ((w64 (11 * (v70.length : Int))) + 1)) + x72.2)) x74.2 (w64 (1 + x76.2)))])), hH, Nat.lt_succ_self _, ?_⟩
 exact Le.ct 20 17 (hpin := ⟨⟨rfl, rfl⟩, trivial⟩)
 replace hH := condF hc hH
 refine AW.exit ?_
 refine ⟨_, someE hH, ?_⟩
 exact Le.ct 17 8 (hpin := ⟨⟨rfl, rfl⟩, trivial⟩)
 rintro ⟨v40, v41, v42, v43⟩ hs
 subst hs
 replace hH := hK45
 try dsimp only [flow, flowE] at hH
 try dsimp only
 iterate 2 refine AW.seq ?_
 refine AW.region ?_
 refine AO.pu T ?_
 refine AO.val rfl rfl (len_row_ok T rfl rfl rfl rfl) ?_
 refine AO.pu T ?_
 refine AO.nil ?_
 refine AW.cond (b := decide ((v43.length : Int) > 0)) rfl (fun hc => ?_) (fun hc => ?_)
 replace hH := condT hc hH
 refine AW.seq ?_
 obtain ⟨x80, hx81, hH⟩ := bindE hH
 obtain ⟨x82, hx83, hH⟩ := bindE hH
 refine AW.region ?_
 iterate 3 refine AO.pu T ?_
 refine AO.val rfl rfl (len_row_ok T rfl rfl rfl rfl) ?_
 refine AO.step rfl (callM_ok rfl 21 rfl rfl (es := [.pw (encL1Cur (L1Cur.mk v40 v41 v42)), .v (.int .i64 (v43.length : Int))]) (outs := [.pw (encL1Cur x80.1), .u]) (ids := [1]) (by exact expLG_cons (.c (.box rfl rfl)) (expLG_cons (.c .v) (expLG_nil))) (by decide) (.inl (by rfl)) (by rfl) (spec_l1Cur_pick_ok _ _ _ (hx81)) rfl (by rfl) rfl) ?_
 refine AO.val rfl rfl (ix_row_ok T rfl rfl rfl rfl rfl rfl (hx83)) ?_
 refine AO.pu T ?_
 refine AO.nil (AW.seq ?_)
 obtain ⟨x84, hx85, hH⟩ := bindE hH
 refine AW.region ?_
 refine AO.pu T ?_
 refine AO.step rfl (callM_ok rfl 21 rfl rfl (es := [.pw (encL1Cur (L1Cur.mk x80.1.code x80.1.at' x80.1.seed)), .v (.int .i64 24)]) (outs := [.pw (encL1Cur x84.1), .u]) (ids := [1]) (by exact expLG_cons (.c (.box rfl rfl)) (expLG_cons (.c .v) (expLG_nil))) (by decide) (.inl (by rfl)) (by rfl) (spec_l1Cur_pick_ok _ _ _ (hx85)) rfl (by rfl) rfl) ?_
 refine AO.nil ?_
 refine AW.block ?_
 refine AW.seq (AW.region ?_)
 iterate 2 refine AO.pu T ?_
 refine AO.nil ?_
 refine AW.cond (b := (x84.2 == 0)) rfl (fun hc => ?_) (fun hc => ?_)
 replace hH := condT hc hH
 obtain ⟨x86, hx87, hH⟩ := bindE hH
 obtain ⟨x88, hx89, hH⟩ := bindE hH
 refine AW.region ?_
 iterate 3 refine AO.pu T ?_
 refine AO.val rfl rfl (ix_row_ok T rfl rfl rfl rfl rfl rfl (hx87)) ?_
 refine AO.pu T ?_
 refine AO.val rfl rfl (load_row_ok T rfl rfl rfl rfl (getI_get (hx87)) rfl rfl rfl) ?_
 refine AO.step rfl (mk_map_ok T rfl 21 rfl rfl rfl rfl rfl (f := encInt) (l := [0, 999, 1000, x86.number]) rfl rfl (fun _ => rfl) rfl rfl rfl rfl rfl) ?_
 refine AO.le (Le.freezeM 21 (g := encInt) rfl (fun y => .vs rfl)) ?_
 refine AO.step rfl (callM_ok rfl 22 rfl rfl (es := [.pw (encL1Cur (L1Cur.mk x84.1.code x84.1.at' x84.1.seed)), .s ([0, 999, 1000, x86.number].map encInt)]) (outs := [.pw (encL1Cur x88.1), .u]) (ids := [1]) (by exact expLG_cons (.c (.box rfl rfl)) (expLG_cons (.c .s) (expLG_nil))) (by decide) (.inl (by rfl)) (by rfl) (spec_l1Cur_among_ok _ _ _ (hx89)) rfl (by rfl) rfl) ?_
 iterate 2 refine AO.pu T ?_
 refine AO.step rfl (store_row_ok T rfl rfl rfl rfl rfl (getI_get (hx83)) rfl rfl rfl rfl (u' := (Official.mk x88.2 x82.club x82.level)) rfl rfl) ?_
 refine AO.nil ?_
 refine AW.le (Le.ct 0 0 (σ' := (⟨[(3, .R 8)], [(1, .box [.s (List.map encInt_u8 x88.1.code), x88.1.at', .v (.int .u64 x88.1.seed)]), (8, .row 3 (List.map encOfficial (v43.set x80.2.toNat (Official.mk x88.2 x82.club x82.level))))], 74, [(1, L 1)]⟩ : St)) (hpin := ⟨⟨rfl, rfl⟩, trivial⟩)) ?_
 refine AW.seq (AW.region ?_)
 iterate 2 refine AO.pu T ?_
 refine AO.nil (AW.ret ?_)
 have hR := someE hH; subst hR
 exact ⟨trivial, rfl, _, [8], [1], rfl, expLG_cons (.c (.box rfl rfl)) (expLG_nil), .c (.c (.rowR rfl)), by decide⟩
 replace hH := condF hc hH
 refine AW.seq (AW.region ?_)
 iterate 2 refine AO.pu T ?_
 refine AO.nil ?_
 refine AW.cond (b := (x84.2 == 1)) rfl (fun hc => ?_) (fun hc => ?_)
 replace hH := condT hc hH
 obtain ⟨x90, hx91, hH⟩ := bindE hH
 refine AW.region ?_
 iterate 2 refine AO.pu T ?_
 refine AO.step rfl (mk_map_ok T rfl 22 rfl rfl rfl rfl rfl (f := encInt) (l := ([0, 20, 21] : List Int)) rfl rfl (fun _ => rfl) rfl rfl rfl rfl rfl) ?_
 refine AO.le (Le.freezeM 22 (g := encInt) rfl (fun y => .vs rfl)) ?_
 refine AO.step rfl (callM_ok rfl 23 rfl rfl (es := [.pw (encL1Cur (L1Cur.mk x84.1.code x84.1.at' x84.1.seed)), .s (([0, 20, 21] : List Int).map encInt)]) (outs := [.pw (encL1Cur x90.1), .u]) (ids := [1]) (by exact expLG_cons (.c (.box rfl rfl)) (expLG_cons (.c .s) (expLG_nil))) (by decide) (.inl (by rfl)) (by rfl) (spec_l1Cur_among_ok _ _ _ (hx91)) rfl (by rfl) rfl) ?_
 iterate 2 refine AO.pu T ?_
 refine AO.step rfl (store_row_ok T rfl rfl rfl rfl rfl (getI_get (hx83)) rfl rfl rfl rfl (u' := (Official.mk x82.number x90.2 x82.level)) rfl rfl) ?_
 refine AO.nil (AW.seq ?_)
 refine AW.region ?_
 iterate 2 refine AO.pu T ?_
 refine AO.nil ?_
 refine AW.le (Le.ct 0 0 (σ' := (⟨[(2, .R 8)], [(1, .box [.s (List.map encInt_u8 x90.1.code), x90.1.at', .v (.int .u64 x90.1.seed)]), (8, .row 3 (List.map encOfficial (v43.set x80.2.toNat (Official.mk x82.number x90.2 x82.level))))], 74, [(1, L 1)]⟩ : St)) (hpin := ⟨⟨rfl, rfl⟩, trivial⟩)) ?_
 refine AW.ret ?_
 have hR := someE hH; subst hR
 exact ⟨trivial, rfl, _, [8], [1], rfl, expLG_cons (.c (.box rfl rfl)) (expLG_nil), .c (.c (.rowR rfl)), by decide⟩
 replace hH := condF hc hH
 refine AW.seq (AW.region ?_)
 iterate 2 refine AO.pu T ?_
 refine AO.nil ?_
 refine AW.cond (b := (x84.2 == 2)) rfl (fun hc => ?_) (fun hc => ?_)
 replace hH := condT hc hH
 obtain ⟨x92, hx93, hH⟩ := bindE hH
 refine AW.region ?_
 iterate 2 refine AO.pu T ?_
 refine AO.step rfl (mk_map_ok T rfl 23 rfl rfl rfl rfl rfl (f := encInt) (l := ([0, 4] : List Int)) rfl rfl (fun _ => rfl) rfl rfl rfl rfl rfl) ?_
 refine AO.le (Le.freezeM 23 (g := encInt) rfl (fun y => .vs rfl)) ?_
 refine AO.step rfl (callM_ok rfl 24 rfl rfl (es := [.pw (encL1Cur (L1Cur.mk x84.1.code x84.1.at' x84.1.seed)), .s (([0, 4] : List Int).map encInt)]) (outs := [.pw (encL1Cur x92.1), .u]) (ids := [1]) (by exact expLG_cons (.c (.box rfl rfl)) (expLG_cons (.c .s) (expLG_nil))) (by decide) (.inl (by rfl)) (by rfl) (spec_l1Cur_among_ok _ _ _ (hx93)) rfl (by rfl) rfl) ?_
 iterate 2 refine AO.pu T ?_
 refine AO.step rfl (store_row_ok T rfl rfl rfl rfl rfl (getI_get (hx83)) rfl rfl rfl rfl (u' := (Official.mk x82.number x82.club x92.2)) rfl rfl) ?_
 refine AO.nil ?_
 refine AW.le (Le.ct 0 0 (σ' := (⟨[(3, .R 8)], [(1, .box [.s (List.map encInt_u8 x92.1.code), x92.1.at', .v (.int .u64 x92.1.seed)]), (8, .row 3 (List.map encOfficial (v43.set x80.2.toNat (Official.mk x82.number x82.club x92.2))))], 74, [(1, L 1)]⟩ : St)) (hpin := ⟨⟨rfl, rfl⟩, trivial⟩)) ?_
 refine AW.seq (AW.region ?_)
 iterate 2 refine AO.pu T ?_
 refine AO.nil (AW.ret ?_)
 have hR := someE hH; subst hR
 exact ⟨trivial, rfl, _, [8], [1], rfl, expLG_cons (.c (.box rfl rfl)) (expLG_nil), .c (.c (.rowR rfl)), by decide⟩
 replace hH := condF hc hH
 refine AW.skip ?_
 refine AW.seq (AW.region ?_)
 iterate 2 refine AO.pu T ?_
 refine AO.nil (AW.ret ?_)
 have hR := someE hH; subst hR
 exact ⟨trivial, rfl, _, [8], [1], rfl, expLG_cons (.c (.box rfl rfl)) (expLG_nil), .c (.c (.rowR rfl)), by decide⟩
 replace hH := condF hc hH
 refine AW.skip ?_
 refine AW.seq (AW.region ?_)
 iterate 2 refine AO.pu T ?_
 refine AO.nil (AW.ret ?_)
 have hR := someE hH; subst hR
 exact ⟨trivial, rfl, _, [8], [1], rfl, expLG_cons (.c (.box rfl rfl)) (expLG_nil), .c (.c (.rowR rfl)), by decide⟩
 replace hH := condF hc hH
 refine AW.skip ?_
 obtain ⟨o131, hH, hK132⟩ := bindE hH
 refine AW.seqJ (fun s : (List Int) × Int × Int × (List Official) => (⟨[(0, .p 1 0), (3, .R 29)], [(1, .box [.s (List.map encInt_u8 s.1), s.2.1, .v (.int .u64 s.2.2.1)]), (29, .row 3 (List.map encOfficial s.2.2.2))], 74, [(1, L 1)]⟩ : St)) (fun s => s = o131) ?_ ?_
 refine AW.block ?_
 refine AW.loopS (fun s : Nat × (List Int) × Int × Int × (List Official) => (⟨[(0, .p 1 0), (3, .R 38), (4, x1.2)], [(1, .box [.s (List.map encInt_u8 s.2.1), s.2.2.1, .v (.int .u64 s.2.2.2.1)]), (38, .row 3 (List.map encOfficial s.2.2.2.2))], 74, [(1, L 1)]⟩ : St)) (fun s => spec_l1Cur_officials_l2 x1 s.1 s.2.1 s.2.2.1 s.2.2.2.1 s.2.2.2.2 = some o131) (fun s => s.1) (fuel, x3.1.code, x3.1.at', x3.1.seed, []) hH ?_ ?_
 refine Le.trans (Le.void 3 38 3 rfl rfl) ?_
 exact Le.ct 0 0 (hpin := ⟨⟨rfl, rfl⟩, trivial⟩)
 rintro ⟨k133, v154, v155, v156, v157⟩ hH
 replace hH : spec_l1Cur_officials_l2 x1 k133 v154 v155 v156 v157 = some o131 := hH
 try dsimp only
 rcases k133 with _ | k133
 cases (show none = some _ from hH)
 rw [spec_l1Cur_officials_l2] at hH
 iterate 2 refine AW.seq ?_
 refine AW.region ?_
 refine AO.pu T ?_
 refine AO.val rfl rfl (len_row_ok T rfl rfl rfl rfl) ?_
 iterate 2 refine AO.pu T ?_
 refine AO.nil ?_
 refine AW.cond (b := decide ((v157.length : Int) < x1.2)) rfl (fun hc => ?_) (fun hc => ?_)
 replace hH := condT hc hH
 refine AW.skip ?_
 refine AW.block ?_
 obtain ⟨x159, hx160, hH⟩ := bindE hH
 obtain ⟨x161, hx162, hH⟩ := bindE hH
 obtain ⟨x163, hx164, hH⟩ := bindE hH
 obtain ⟨u165, hx166, hH⟩ := bindE hH
 refine AW.region ?_
 iterate 2 refine AO.pu T ?_
 refine AO.val rfl rfl (len_row_ok T rfl rfl rfl rfl) ?_
 iterate 2 refine AO.val rfl rfl (arw_ok rfl rfl rfl rfl) ?_
 refine AO.pu T ?_
 refine AO.step rfl (callM_ok rfl 39 rfl rfl (es := [.pw (encL1Cur (L1Cur.mk v154 v155 v156)), .v (.int .i64 11)]) (outs := [.pw (encL1Cur x159.1), .u]) (ids := [1]) (by exact expLG_cons (.c (.box rfl rfl)) (expLG_cons (.c .v) (expLG_nil))) (by decide) (.inl (by rfl)) (by rfl) (spec_l1Cur_pick_ok _ _ _ (hx160)) rfl (by rfl) rfl) ?_
 refine AO.val rfl rfl (arw_ok rfl rfl rfl rfl) ?_
 refine AO.pu T ?_
 refine AO.step rfl (mk_map_ok T rfl 39 rfl rfl rfl rfl rfl (f := encInt) (l := ([1, 2, 2, 3, 4, 5, 20] : List Int)) rfl rfl (fun _ => rfl) rfl rfl rfl rfl rfl) ?_
 refine AO.le (Le.freezeM 39 (g := encInt) rfl (fun y => .vs rfl)) ?_
 refine AO.step rfl (callM_ok rfl 40 rfl rfl (es := [.pw (encL1Cur (L1Cur.mk x159.1.code x159.1.at' x159.1.seed)), .s (([1, 2, 2, 3, 4, 5, 20] : List Int).map encInt)]) (outs := [.pw (encL1Cur x161.1), .u]) (ids := [1]) (by exact expLG_cons (.c (.box rfl rfl)) (expLG_cons (.c .s) (expLG_nil))) (by decide) (.inl (by rfl)) (by rfl) (spec_l1Cur_among_ok _ _ _ (hx162)) rfl (by rfl) rfl) ?_
 refine AO.pu T ?_
 refine AO.step rfl (callM_ok rfl 40 rfl rfl (es := [.pw (encL1Cur (L1Cur.mk x161.1.code x161.1.at' x161.1.seed)), .v (.int .i64 3)]) (outs := [.pw (encL1Cur x163.1), .u]) (ids := [1]) (by exact expLG_cons (.c (.box rfl rfl)) (expLG_cons (.c .v) (expLG_nil))) (by decide) (.inl (by rfl)) (by rfl) (spec_l1Cur_pick_ok _ _ _ (hx164)) rfl (by rfl) rfl) ?_
 refine AO.val rfl rfl (arw_ok rfl rfl rfl rfl) ?_
 refine AO.pu T (d := .g [w64 ((w64 ((w64 (11 * (v157.length : Int))) + 1)) + x159.2), x161.2, w64 (1 + x163.2)]) ?_
 refine AO.step rfl (mk_map_ok T rfl 40 rfl rfl rfl rfl rfl (f := encOfficial) (l := [(Official.mk (w64 ((w64 ((w64 (11 * (v157.length : Int))) + 1)) + x159.2)) x161.2 (w64 (1 + x163.2)))]) rfl rfl (fun _ => rfl) rfl rfl rfl rfl rfl) ?_
 refine AO.step rfl (app_rv_map T rfl 41 rfl rfl rfl rfl rfl (by decide) rfl rfl rfl rfl (fun _ => rfl) (needT (hx166)) rfl rfl) ?_
 refine AO.pu T ?_
 refine AO.nil ?_
 refine ⟨(k133, x163.1.code, x163.1.at', x163.1.seed, (v157 ++ [(Official.mk (w64 ((w64 ((w64 (11 * (v157.length : Int))) + 1)) + x159.2)) x161.2 (w64 (1 + x163.2)))])), hH, Nat.lt_succ_self _, ?_⟩
 exact Le.ct 41 38 (hpin := ⟨⟨rfl, rfl⟩, trivial⟩)
 replace hH := condF hc hH
 refine AW.exit ?_
 refine ⟨_, someE hH, ?_⟩
 exact Le.ct 38 29 (hpin := ⟨⟨rfl, rfl⟩, trivial⟩)
 rintro ⟨v127, v128, v129, v130⟩ hs
 subst hs
 replace hH := hK132
 try dsimp only [flow, flowE] at hH
 try dsimp only
 iterate 2 refine AW.seq ?_
 refine AW.region ?_
 refine AO.pu T ?_
 refine AO.val rfl rfl (len_row_ok T rfl rfl rfl rfl) ?_
 refine AO.pu T ?_
 refine AO.nil ?_
 refine AW.cond (b := decide ((v130.length : Int) > 0)) rfl (fun hc => ?_) (fun hc => ?_)
 replace hH := condT hc hH
 refine AW.seq ?_
 obtain ⟨x167, hx168, hH⟩ := bindE hH
 obtain ⟨x169, hx170, hH⟩ := bindE hH
 refine AW.region ?_
 iterate 3 refine AO.pu T ?_
 refine AO.val rfl rfl (len_row_ok T rfl rfl rfl rfl) ?_
 refine AO.step rfl (callM_ok rfl 42 rfl rfl (es := [.pw (encL1Cur (L1Cur.mk v127 v128 v129)), .v (.int .i64 (v130.length : Int))]) (outs := [.pw (encL1Cur x167.1), .u]) (ids := [1]) (by exact expLG_cons (.c (.box rfl rfl)) (expLG_cons (.c .v) (expLG_nil))) (by decide) (.inl (by rfl)) (by rfl) (spec_l1Cur_pick_ok _ _ _ (hx168)) rfl (by rfl) rfl) ?_
 refine AO.val rfl rfl (ix_row_ok T rfl rfl rfl rfl rfl rfl (hx170)) ?_
 refine AO.pu T ?_
 refine AO.nil (AW.seq ?_)
 obtain ⟨x171, hx172, hH⟩ := bindE hH
 refine AW.region ?_
 refine AO.pu T ?_
 refine AO.step rfl (callM_ok rfl 42 rfl rfl (es := [.pw (encL1Cur (L1Cur.mk x167.1.code x167.1.at' x167.1.seed)), .v (.int .i64 24)]) (outs := [.pw (encL1Cur x171.1), .u]) (ids := [1]) (by exact expLG_cons (.c (.box rfl rfl)) (expLG_cons (.c .v) (expLG_nil))) (by decide) (.inl (by rfl)) (by rfl) (spec_l1Cur_pick_ok _ _ _ (hx172)) rfl (by rfl) rfl) ?_
 refine AO.nil ?_
 refine AW.block ?_
 refine AW.seq (AW.region ?_)
 iterate 2 refine AO.pu T ?_
 refine AO.nil ?_
 refine AW.cond (b := (x171.2 == 0)) rfl (fun hc => ?_) (fun hc => ?_)
 replace hH := condT hc hH
 obtain ⟨x173, hx174, hH⟩ := bindE hH
 obtain ⟨x175, hx176, hH⟩ := bindE hH
 refine AW.region ?_
 iterate 3 refine AO.pu T ?_
 refine AO.val rfl rfl (ix_row_ok T rfl rfl rfl rfl rfl rfl (hx174)) ?_
 refine AO.pu T ?_
 refine AO.val rfl rfl (load_row_ok T rfl rfl rfl rfl (getI_get (hx174)) rfl rfl rfl) ?_
 refine AO.step rfl (mk_map_ok T rfl 42 rfl rfl rfl rfl rfl (f := encInt) (l := [0, 999, 1000, x173.number]) rfl rfl (fun _ => rfl) rfl rfl rfl rfl rfl) ?_
 refine AO.le (Le.freezeM 42 (g := encInt) rfl (fun y => .vs rfl)) ?_
 refine AO.step rfl (callM_ok rfl 43 rfl rfl (es := [.pw (encL1Cur (L1Cur.mk x171.1.code x171.1.at' x171.1.seed)), .s ([0, 999, 1000, x173.number].map encInt)]) (outs := [.pw (encL1Cur x175.1), .u]) (ids := [1]) (by exact expLG_cons (.c (.box rfl rfl)) (expLG_cons (.c .s) (expLG_nil))) (by decide) (.inl (by rfl)) (by rfl) (spec_l1Cur_among_ok _ _ _ (hx176)) rfl (by rfl) rfl) ?_
 iterate 2 refine AO.pu T ?_
 refine AO.step rfl (store_row_ok T rfl rfl rfl rfl rfl (getI_get (hx170)) rfl rfl rfl rfl (u' := (Official.mk x175.2 x169.club x169.level)) rfl rfl) ?_
 refine AO.nil ?_
 refine AW.le (Le.ct 0 0 (σ' := (⟨[(3, .R 29)], [(1, .box [.s (List.map encInt_u8 x175.1.code), x175.1.at', .v (.int .u64 x175.1.seed)]), (29, .row 3 (List.map encOfficial (v130.set x167.2.toNat (Official.mk x175.2 x169.club x169.level))))], 74, [(1, L 1)]⟩ : St)) (hpin := ⟨⟨rfl, rfl⟩, trivial⟩)) ?_
 refine AW.seq (AW.region ?_)
 iterate 2 refine AO.pu T ?_
 refine AO.nil (AW.ret ?_)
 have hR := someE hH; subst hR
 exact ⟨trivial, rfl, _, [29], [1], rfl, expLG_cons (.c (.box rfl rfl)) (expLG_nil), .c (.c (.rowR rfl)), by decide⟩
 replace hH := condF hc hH
 refine AW.seq (AW.region ?_)
 iterate 2 refine AO.pu T ?_
 refine AO.nil ?_
 refine AW.cond (b := (x171.2 == 1)) rfl (fun hc => ?_) (fun hc => ?_)
 replace hH := condT hc hH
 obtain ⟨x177, hx178, hH⟩ := bindE hH
 refine AW.region ?_
 iterate 2 refine AO.pu T ?_
 refine AO.step rfl (mk_map_ok T rfl 43 rfl rfl rfl rfl rfl (f := encInt) (l := ([0, 20, 21] : List Int)) rfl rfl (fun _ => rfl) rfl rfl rfl rfl rfl) ?_
 refine AO.le (Le.freezeM 43 (g := encInt) rfl (fun y => .vs rfl)) ?_
 refine AO.step rfl (callM_ok rfl 44 rfl rfl (es := [.pw (encL1Cur (L1Cur.mk x171.1.code x171.1.at' x171.1.seed)), .s (([0, 20, 21] : List Int).map encInt)]) (outs := [.pw (encL1Cur x177.1), .u]) (ids := [1]) (by exact expLG_cons (.c (.box rfl rfl)) (expLG_cons (.c .s) (expLG_nil))) (by decide) (.inl (by rfl)) (by rfl) (spec_l1Cur_among_ok _ _ _ (hx178)) rfl (by rfl) rfl) ?_
 iterate 2 refine AO.pu T ?_
 refine AO.step rfl (store_row_ok T rfl rfl rfl rfl rfl (getI_get (hx170)) rfl rfl rfl rfl (u' := (Official.mk x169.number x177.2 x169.level)) rfl rfl) ?_
 refine AO.nil (AW.seq ?_)
 refine AW.region ?_
 iterate 2 refine AO.pu T ?_
 refine AO.nil ?_
 refine AW.le (Le.ct 0 0 (σ' := (⟨[(2, .R 29)], [(1, .box [.s (List.map encInt_u8 x177.1.code), x177.1.at', .v (.int .u64 x177.1.seed)]), (29, .row 3 (List.map encOfficial (v130.set x167.2.toNat (Official.mk x169.number x177.2 x169.level))))], 74, [(1, L 1)]⟩ : St)) (hpin := ⟨⟨rfl, rfl⟩, trivial⟩)) ?_
 refine AW.ret ?_
 have hR := someE hH; subst hR
 exact ⟨trivial, rfl, _, [29], [1], rfl, expLG_cons (.c (.box rfl rfl)) (expLG_nil), .c (.c (.rowR rfl)), by decide⟩
 replace hH := condF hc hH
 refine AW.seq (AW.region ?_)
 iterate 2 refine AO.pu T ?_
 refine AO.nil ?_
 refine AW.cond (b := (x171.2 == 2)) rfl (fun hc => ?_) (fun hc => ?_)
 replace hH := condT hc hH
 obtain ⟨x179, hx180, hH⟩ := bindE hH
 refine AW.region ?_
 iterate 2 refine AO.pu T ?_
 refine AO.step rfl (mk_map_ok T rfl 44 rfl rfl rfl rfl rfl (f := encInt) (l := ([0, 4] : List Int)) rfl rfl (fun _ => rfl) rfl rfl rfl rfl rfl) ?_
 refine AO.le (Le.freezeM 44 (g := encInt) rfl (fun y => .vs rfl)) ?_
 refine AO.step rfl (callM_ok rfl 45 rfl rfl (es := [.pw (encL1Cur (L1Cur.mk x171.1.code x171.1.at' x171.1.seed)), .s (([0, 4] : List Int).map encInt)]) (outs := [.pw (encL1Cur x179.1), .u]) (ids := [1]) (by exact expLG_cons (.c (.box rfl rfl)) (expLG_cons (.c .s) (expLG_nil))) (by decide) (.inl (by rfl)) (by rfl) (spec_l1Cur_among_ok _ _ _ (hx180)) rfl (by rfl) rfl) ?_
 iterate 2 refine AO.pu T ?_
 refine AO.step rfl (store_row_ok T rfl rfl rfl rfl rfl (getI_get (hx170)) rfl rfl rfl rfl (u' := (Official.mk x169.number x169.club x179.2)) rfl rfl) ?_
 refine AO.nil ?_
 refine AW.le (Le.ct 0 0 (σ' := (⟨[(3, .R 29)], [(1, .box [.s (List.map encInt_u8 x179.1.code), x179.1.at', .v (.int .u64 x179.1.seed)]), (29, .row 3 (List.map encOfficial (v130.set x167.2.toNat (Official.mk x169.number x169.club x179.2))))], 74, [(1, L 1)]⟩ : St)) (hpin := ⟨⟨rfl, rfl⟩, trivial⟩)) ?_
 refine AW.seq (AW.region ?_)
 iterate 2 refine AO.pu T ?_
 refine AO.nil (AW.ret ?_)
 have hR := someE hH; subst hR
 exact ⟨trivial, rfl, _, [29], [1], rfl, expLG_cons (.c (.box rfl rfl)) (expLG_nil), .c (.c (.rowR rfl)), by decide⟩
 replace hH := condF hc hH
 refine AW.skip ?_
 refine AW.seq (AW.region ?_)
 iterate 2 refine AO.pu T ?_
 refine AO.nil (AW.ret ?_)
 have hR := someE hH; subst hR
 exact ⟨trivial, rfl, _, [29], [1], rfl, expLG_cons (.c (.box rfl rfl)) (expLG_nil), .c (.c (.rowR rfl)), by decide⟩
 replace hH := condF hc hH
 refine AW.skip ?_
 refine AW.seq (AW.region ?_)
 iterate 2 refine AO.pu T ?_
 refine AO.nil (AW.ret ?_)
 have hR := someE hH; subst hR
 exact ⟨trivial, rfl, _, [29], [1], rfl, expLG_cons (.c (.box rfl rfl)) (expLG_nil), .c (.c (.rowR rfl)), by decide⟩

def spec_l1Cur_conflicts_l2 (x31 : (L1Cur × Int)) : Nat → List Int → Option ((L1Cur × (List Int)))
  | 0, _ => none
  | k33 + 1, v39 =>
    cond (decide ((v39.length : Int) < (w64 (20 + x31.2))))
      ((need (fitsB 8 (v39.length + ([w64 ((v39.length : Int) + 1)]).length))).bind fun u41 =>
      spec_l1Cur_conflicts_l2 x31 k33 (v39 ++ [w64 ((v39.length : Int) + 1)]))
      (some ((L1Cur.mk x31.1.code x31.1.at' x31.1.seed), v39))
def spec_l1Cur_conflicts_l1 (fuel : Nat) : Nat → List Int → Int → Int → List Int → Int → Option ((L1Cur × (List Int)))
  | 0, _, _, _, _, _ => none
  | k1 + 1, v15, v16, v17, v18, v19 =>
    cond (decide (v19 ≤ 5))
      ((spec_l1Cur_one_p (L1Cur.mk v15 v16 v17) 4).bind fun x21 =>
      cond x21.2
        ((need (fitsB 8 (v18.length + ([v19]).length))).bind fun u23 =>
        spec_l1Cur_conflicts_l1 fuel k1 x21.1.code x21.1.at' x21.1.seed (v18 ++ [v19]) (w64 (v19 + 1)))
        (spec_l1Cur_conflicts_l1 fuel k1 x21.1.code x21.1.at' x21.1.seed v18 (w64 (v19 + 1))))
      ((spec_l1Cur_pick_p (L1Cur.mk v15 v16 v17) 24).bind fun x25 =>
      cond (x25.2 == 0)
        ((spec_l1Cur_among_p (L1Cur.mk x25.1.code x25.1.at' x25.1.seed) ([0, 20, 21] : List Int)).bind fun x27 =>
        (need (fitsB 8 (v18.length + ([x27.2]).length))).bind fun u29 =>
        some ((L1Cur.mk x27.1.code x27.1.at' x27.1.seed), (v18 ++ [x27.2])))
        (cond (x25.2 == 1)
          ((spec_l1Cur_pick_p (L1Cur.mk x25.1.code x25.1.at' x25.1.seed) 2).bind fun x31 =>
          spec_l1Cur_conflicts_l2 x31 fuel [])
          (some ((L1Cur.mk x25.1.code x25.1.at' x25.1.seed), v18))))
def spec_l1Cur_conflicts_p (fuel : Nat) (c : L1Cur) : Option (L1Cur × (List Int)) :=
  spec_l1Cur_conflicts_l1 fuel fuel c.code c.at' c.seed [] 1
theorem spec_l1Cur_conflicts_ok (fuel : Nat) (c : L1Cur) (r : (L1Cur × (List Int))) (hH : spec_l1Cur_conflicts_p fuel c = some r) : SpecM Tryz.prog 53 [.pw (encL1Cur c)] [.pw (encL1Cur r.1)] (.w 1 (r.2.map encInt)) := by
 refine fn_okM T Tryz.func53 rfl (by decide) rfl rfl ?_
 intro L
 show AW _ _ _ (⟨[(0, .p 1 0)], [(1, .box [.s (List.map encInt_u8 c.code), c.at', .v (.int .u64 c.seed)])], 42, [(1, L 1)]⟩ : St)
 refine AW.seq (AW.region ?_)
 refine AO.pu T ?_
 refine AO.nil (AW.seq ?_)
 refine AW.region ?_
 refine AO.pu T ?_
 refine AO.nil ?_
 iterate 2 refine AW.seq ?_
 refine AW.region ?_
 refine AO.pu T ?_
 refine AO.nil ?_
 refine AW.block ?_
 refine AW.loopS (fun s : Nat × (List Int) × Int × Int × (List Int) × Int => (⟨[(0, .p 1 0), (3, .R 5), (4, s.2.2.2.2.2)], [(1, .box [.s (List.map encInt_u8 s.2.1), s.2.2.1, .v (.int .u64 s.2.2.2.1)]), (5, .row 1 (List.map encInt s.2.2.2.2.1))], 42, [(1, L 1)]⟩ : St)) (fun s => spec_l1Cur_conflicts_l1 fuel s.1 s.2.1 s.2.2.1 s.2.2.2.1 s.2.2.2.2.1 s.2.2.2.2.2 = some r) (fun s => s.1) (fuel, c.code, c.at', c.seed, [], 1) hH ?_ ?_
 refine Le.trans (Le.void 3 5 1 rfl rfl) ?_
 exact Le.ct 0 0 (hpin := ⟨⟨rfl, rfl⟩, trivial⟩)
 rintro ⟨k1, v15, v16, v17, v18, v19⟩ hH
 replace hH : spec_l1Cur_conflicts_l1 fuel k1 v15 v16 v17 v18 v19 = some r := hH
 try dsimp only
 rcases k1 with _ | k1
 cases (show none = some _ from hH)
 rw [spec_l1Cur_conflicts_l1] at hH
 iterate 2 refine AW.seq ?_
 refine AW.region ?_
 iterate 2 refine AO.pu T ?_
 refine AO.nil ?_
 refine AW.cond (b := decide (v19 ≤ 5)) rfl (fun hc => ?_) (fun hc => ?_)
 replace hH := condT hc hH
 refine AW.skip ?_
 refine AW.seq ?_
 refine AW.block ?_
 refine AW.seq ?_
 obtain ⟨x21, hx22, hH⟩ := bindE hH
 refine AW.region ?_
 refine AO.pu T ?_
 refine AO.step rfl (callM_ok rfl 6 rfl rfl (es := [.pw (encL1Cur (L1Cur.mk v15 v16 v17)), .v (.int .i64 4)]) (outs := [.pw (encL1Cur x21.1), .u]) (ids := [1]) (by exact expLG_cons (.c (.box rfl rfl)) (expLG_cons (.c .v) (expLG_nil))) (by decide) (.inl (by rfl)) (by rfl) (spec_l1Cur_one_ok _ _ _ (hx22)) rfl (by rfl) rfl) ?_
 refine AO.nil ?_
 refine AW.cond (b := x21.2) rfl (fun hc => ?_) (fun hc => ?_)
 replace hH := condT hc hH
 obtain ⟨u23, hx24, hH⟩ := bindE hH
 refine AW.region ?_
 iterate 2 refine AO.pu T ?_
 refine AO.step rfl (mk_map_ok T rfl 6 rfl rfl rfl rfl rfl (f := encInt) (l := [v19]) rfl rfl (fun _ => rfl) rfl rfl rfl rfl rfl) ?_
 refine AO.step rfl (app_rv_map T rfl 7 rfl rfl rfl rfl rfl (by decide) rfl rfl rfl rfl (fun _ => rfl) (needT (hx24)) rfl rfl) ?_
 refine AO.pu T ?_
 refine AO.nil ?_
 refine AW.region ?_
 refine AO.pu T ?_
 refine AO.val rfl rfl (arw_ok rfl rfl rfl rfl) ?_
 refine AO.pu T ?_
 refine AO.nil ?_
 refine ⟨(k1, x21.1.code, x21.1.at', x21.1.seed, (v18 ++ [v19]), w64 (v19 + 1)), hH, Nat.lt_succ_self _, ?_⟩
 exact Le.ct 7 5 (hpin := ⟨⟨rfl, rfl⟩, trivial⟩)
 replace hH := condF hc hH
 refine AW.skip ?_
 refine AW.region ?_
 refine AO.pu T ?_
 refine AO.val rfl rfl (arw_ok rfl rfl rfl rfl) ?_
 refine AO.pu T ?_
 refine AO.nil ?_
 refine ⟨(k1, x21.1.code, x21.1.at', x21.1.seed, v18, w64 (v19 + 1)), hH, Nat.lt_succ_self _, ?_⟩
 exact Le.ct 0 0 (hpin := ⟨⟨rfl, rfl⟩, trivial⟩)
 replace hH := condF hc hH
 refine AW.exit ?_
 iterate 2 refine AW.seq ?_
 obtain ⟨x25, hx26, hH⟩ := bindE hH
 refine AW.region ?_
 refine AO.pu T ?_
 refine AO.step rfl (callM_ok rfl 8 rfl rfl (es := [.pw (encL1Cur (L1Cur.mk v15 v16 v17)), .v (.int .i64 24)]) (outs := [.pw (encL1Cur x25.1), .u]) (ids := [1]) (by exact expLG_cons (.c (.box rfl rfl)) (expLG_cons (.c .v) (expLG_nil))) (by decide) (.inl (by rfl)) (by rfl) (spec_l1Cur_pick_ok _ _ _ (hx26)) rfl (by rfl) rfl) ?_
 refine AO.nil ?_
 refine AW.block ?_
 refine AW.seq (AW.region ?_)
 iterate 2 refine AO.pu T ?_
 refine AO.nil ?_
 refine AW.cond (b := (x25.2 == 0)) rfl (fun hc => ?_) (fun hc => ?_)
 replace hH := condT hc hH
 obtain ⟨x27, hx28, hH⟩ := bindE hH
 obtain ⟨u29, hx30, hH⟩ := bindE hH
 refine AW.region ?_
 iterate 2 refine AO.pu T ?_
 refine AO.step rfl (mk_map_ok T rfl 8 rfl rfl rfl rfl rfl (f := encInt) (l := ([0, 20, 21] : List Int)) rfl rfl (fun _ => rfl) rfl rfl rfl rfl rfl) ?_
 refine AO.le (Le.freezeM 8 (g := encInt) rfl (fun y => .vs rfl)) ?_
 refine AO.step rfl (callM_ok rfl 9 rfl rfl (es := [.pw (encL1Cur (L1Cur.mk x25.1.code x25.1.at' x25.1.seed)), .s (([0, 20, 21] : List Int).map encInt)]) (outs := [.pw (encL1Cur x27.1), .u]) (ids := [1]) (by exact expLG_cons (.c (.box rfl rfl)) (expLG_cons (.c .s) (expLG_nil))) (by decide) (.inl (by rfl)) (by rfl) (spec_l1Cur_among_ok _ _ _ (hx28)) rfl (by rfl) rfl) ?_
 refine AO.step rfl (mk_map_ok T rfl 9 rfl rfl rfl rfl rfl (f := encInt) (l := [x27.2]) rfl rfl (fun _ => rfl) rfl rfl rfl rfl rfl) ?_
 refine AO.step rfl (app_rv_map T rfl 10 rfl rfl rfl rfl rfl (by decide) rfl rfl rfl rfl (fun _ => rfl) (needT (hx30)) rfl rfl) ?_
 refine AO.pu T ?_
 refine AO.nil (AW.seq ?_)
 refine AW.region ?_
 iterate 2 refine AO.pu T ?_
 refine AO.nil (AW.ret ?_)
 have hR := someE hH; subst hR
 exact ⟨trivial, rfl, _, [10], [1], rfl, expLG_cons (.c (.box rfl rfl)) (expLG_nil), .c (.c (.rowR rfl)), by decide⟩
 replace hH := condF hc hH
 refine AW.seq (AW.region ?_)
 iterate 2 refine AO.pu T ?_
 refine AO.nil ?_
 refine AW.cond (b := (x25.2 == 1)) rfl (fun hc => ?_) (fun hc => ?_)
 replace hH := condT hc hH
 refine AW.seq (AW.region ?_)
 refine AO.pu T ?_
 refine AO.nil (AW.seq ?_)
 obtain ⟨x31, hx32, hH⟩ := bindE hH
 refine AW.region ?_
 refine AO.pu T ?_
 refine AO.step rfl (callM_ok rfl 11 rfl rfl (es := [.pw (encL1Cur (L1Cur.mk x25.1.code x25.1.at' x25.1.seed)), .v (.int .i64 2)]) (outs := [.pw (encL1Cur x31.1), .u]) (ids := [1]) (by exact expLG_cons (.c (.box rfl rfl)) (expLG_cons (.c .v) (expLG_nil))) (by decide) (.inl (by rfl)) (by rfl) (spec_l1Cur_pick_ok _ _ _ (hx32)) rfl (by rfl) rfl) ?_
 refine AO.val rfl rfl (arw_ok rfl rfl rfl rfl) ?_
 refine AO.pu T ?_
 refine AO.nil ?_
 refine AW.block ?_
 refine AW.loopS (fun s : Nat × (List Int) => (⟨[(3, .R 14), (5, w64 (20 + x31.2))], [(1, .box [.s (List.map encInt_u8 x31.1.code), x31.1.at', .v (.int .u64 x31.1.seed)]), (14, .row 1 (List.map encInt s.2))], 42, [(1, L 1)]⟩ : St)) (fun s => spec_l1Cur_conflicts_l2 x31 s.1 s.2 = some r) (fun s => s.1) (fuel, []) hH ?_ ?_
 refine Le.trans (Le.void 3 14 1 rfl rfl) ?_
 exact Le.ct 0 0 (hpin := ⟨⟨rfl, rfl⟩, trivial⟩)
 rintro ⟨k33, v39⟩ hH
 replace hH : spec_l1Cur_conflicts_l2 x31 k33 v39 = some r := hH
 try dsimp only
 rcases k33 with _ | k33
 cases (show none = some _ from hH)
 rw [spec_l1Cur_conflicts_l2] at hH
 iterate 2 refine AW.seq ?_
 refine AW.region ?_
 refine AO.pu T ?_
 refine AO.val rfl rfl (len_row_ok T rfl rfl rfl rfl) ?_
 iterate 2 refine AO.pu T ?_
 refine AO.nil ?_
 refine AW.cond (b := decide ((v39.length : Int) < (w64 (20 + x31.2)))) rfl (fun hc => ?_) (fun hc => ?_)
 replace hH := condT hc hH
 refine AW.skip ?_
 refine AW.block ?_
 obtain ⟨u41, hx42, hH⟩ := bindE hH
 refine AW.region ?_
 iterate 2 refine AO.pu T ?_
 refine AO.val rfl rfl (len_row_ok T rfl rfl rfl rfl) ?_
 refine AO.val rfl rfl (arw_ok rfl rfl rfl rfl) ?_
 refine AO.step rfl (mk_map_ok T rfl 15 rfl rfl rfl rfl rfl (f := encInt) (l := [w64 ((v39.length : Int) + 1)]) rfl rfl (fun _ => rfl) rfl rfl rfl rfl rfl) ?_
 refine AO.step rfl (app_rv_map T rfl 16 rfl rfl rfl rfl rfl (by decide) rfl rfl rfl rfl (fun _ => rfl) (needT (hx42)) rfl rfl) ?_
 refine AO.pu T ?_
 refine AO.nil ?_
 refine ⟨(k33, (v39 ++ [w64 ((v39.length : Int) + 1)])), hH, Nat.lt_succ_self _, ?_⟩
 exact Le.ct 16 14 (hpin := ⟨⟨rfl, rfl⟩, trivial⟩)
 replace hH := condF hc hH
 refine AW.exit ?_
 refine AW.seq (AW.region ?_)
 iterate 2 refine AO.pu T ?_
 refine AO.nil (AW.ret ?_)
 have hR := someE hH; subst hR
 exact ⟨trivial, rfl, _, [14], [1], rfl, expLG_cons (.c (.box rfl rfl)) (expLG_nil), .c (.c (.rowR rfl)), by decide⟩
 replace hH := condF hc hH
 refine AW.skip ?_
 refine AW.seq (AW.region ?_)
 iterate 2 refine AO.pu T ?_
 refine AO.nil (AW.ret ?_)
 have hR := someE hH; subst hR
 exact ⟨trivial, rfl, _, [5], [1], rfl, expLG_cons (.c (.box rfl rfl)) (expLG_nil), .c (.c (.rowR rfl)), by decide⟩

def spec_l1Cur_grade_p (c : L1Cur) : Option (L1Cur × Int) :=
  (spec_l1Cur_among_p c ([0, 4] : List Int)).bind fun x1 =>
  (spec_l1Cur_among_p (L1Cur.mk x1.1.code x1.1.at' x1.1.seed) [1, 1, 2, 3, x1.2]).bind fun x3 =>
  some ((L1Cur.mk x3.1.code x3.1.at' x3.1.seed), x3.2)
theorem spec_l1Cur_grade_ok (c : L1Cur) (r : (L1Cur × Int)) (hH : spec_l1Cur_grade_p c = some r) : SpecM Tryz.prog 54 [.pw (encL1Cur c)] [.pw (encL1Cur r.1)] (.v (.int .i64 r.2)) := by
 refine fn_okM T Tryz.func54 rfl (by decide) rfl rfl ?_
 intro L
 show AW _ _ _ (⟨[(0, .p 1 0)], [(1, .box [.s (List.map encInt_u8 c.code), c.at', .v (.int .u64 c.seed)])], 9, [(1, L 1)]⟩ : St)
 refine AW.seq (AW.region ?_)
 refine AO.pu T ?_
 refine AO.nil (AW.seq ?_)
 obtain ⟨x1, hx2, hH⟩ := bindE hH
 obtain ⟨x3, hx4, hH⟩ := bindE hH
 refine AW.region ?_
 iterate 2 refine AO.pu T ?_
 refine AO.step rfl (mk_map_ok T rfl 2 rfl rfl rfl rfl rfl (f := encInt) (l := ([0, 4] : List Int)) rfl rfl (fun _ => rfl) rfl rfl rfl rfl rfl) ?_
 refine AO.le (Le.freezeM 2 (g := encInt) rfl (fun y => .vs rfl)) ?_
 refine AO.step rfl (callM_ok rfl 3 rfl rfl (es := [.pw (encL1Cur c), .s (([0, 4] : List Int).map encInt)]) (outs := [.pw (encL1Cur x1.1), .u]) (ids := [1]) (by exact expLG_cons (.c (.box rfl rfl)) (expLG_cons (.c .s) (expLG_nil))) (by decide) (.inl (by rfl)) (by rfl) (spec_l1Cur_among_ok _ _ _ (hx2)) rfl (by rfl) rfl) ?_
 refine AO.step rfl (mk_map_ok T rfl 3 rfl rfl rfl rfl rfl (f := encInt) (l := [1, 1, 2, 3, x1.2]) rfl rfl (fun _ => rfl) rfl rfl rfl rfl rfl) ?_
 refine AO.le (Le.freezeM 3 (g := encInt) rfl (fun y => .vs rfl)) ?_
 refine AO.step rfl (callM_ok rfl 4 rfl rfl (es := [.pw (encL1Cur (L1Cur.mk x1.1.code x1.1.at' x1.1.seed)), .s ([1, 1, 2, 3, x1.2].map encInt)]) (outs := [.pw (encL1Cur x3.1), .u]) (ids := [1]) (by exact expLG_cons (.c (.box rfl rfl)) (expLG_cons (.c .s) (expLG_nil))) (by decide) (.inl (by rfl)) (by rfl) (spec_l1Cur_among_ok _ _ _ (hx4)) rfl (by rfl) rfl) ?_
 refine AO.pu T ?_
 refine AO.nil (AW.ret ?_)
 have hR := someE hH; subst hR
 exact ⟨trivial, rfl, _, [], [1], rfl, expLG_cons (.c (.box rfl rfl)) (expLG_nil), .c (.c .v), by decide⟩

def spec_l1Cur_atMost_p (c : L1Cur) : Option (L1Cur × Int) :=
  (spec_l1Cur_among_p c ([0, 10] : List Int)).bind fun x1 =>
  (spec_l1Cur_among_p (L1Cur.mk x1.1.code x1.1.at' x1.1.seed) [1, 2, 3, 9, x1.2]).bind fun x3 =>
  some ((L1Cur.mk x3.1.code x3.1.at' x3.1.seed), x3.2)
theorem spec_l1Cur_atMost_ok (c : L1Cur) (r : (L1Cur × Int)) (hH : spec_l1Cur_atMost_p c = some r) : SpecM Tryz.prog 55 [.pw (encL1Cur c)] [.pw (encL1Cur r.1)] (.v (.int .i64 r.2)) := by
 refine fn_okM T Tryz.func55 rfl (by decide) rfl rfl ?_
 intro L
 show AW _ _ _ (⟨[(0, .p 1 0)], [(1, .box [.s (List.map encInt_u8 c.code), c.at', .v (.int .u64 c.seed)])], 9, [(1, L 1)]⟩ : St)
 refine AW.seq (AW.region ?_)
 refine AO.pu T ?_
 refine AO.nil (AW.seq ?_)
 obtain ⟨x1, hx2, hH⟩ := bindE hH
 obtain ⟨x3, hx4, hH⟩ := bindE hH
 refine AW.region ?_
 iterate 2 refine AO.pu T ?_
 refine AO.step rfl (mk_map_ok T rfl 2 rfl rfl rfl rfl rfl (f := encInt) (l := ([0, 10] : List Int)) rfl rfl (fun _ => rfl) rfl rfl rfl rfl rfl) ?_
 refine AO.le (Le.freezeM 2 (g := encInt) rfl (fun y => .vs rfl)) ?_
 refine AO.step rfl (callM_ok rfl 3 rfl rfl (es := [.pw (encL1Cur c), .s (([0, 10] : List Int).map encInt)]) (outs := [.pw (encL1Cur x1.1), .u]) (ids := [1]) (by exact expLG_cons (.c (.box rfl rfl)) (expLG_cons (.c .s) (expLG_nil))) (by decide) (.inl (by rfl)) (by rfl) (spec_l1Cur_among_ok _ _ _ (hx2)) rfl (by rfl) rfl) ?_
 refine AO.step rfl (mk_map_ok T rfl 3 rfl rfl rfl rfl rfl (f := encInt) (l := [1, 2, 3, 9, x1.2]) rfl rfl (fun _ => rfl) rfl rfl rfl rfl rfl) ?_
 refine AO.le (Le.freezeM 3 (g := encInt) rfl (fun y => .vs rfl)) ?_
 refine AO.step rfl (callM_ok rfl 4 rfl rfl (es := [.pw (encL1Cur (L1Cur.mk x1.1.code x1.1.at' x1.1.seed)), .s ([1, 2, 3, 9, x1.2].map encInt)]) (outs := [.pw (encL1Cur x3.1), .u]) (ids := [1]) (by exact expLG_cons (.c (.box rfl rfl)) (expLG_cons (.c .s) (expLG_nil))) (by decide) (.inl (by rfl)) (by rfl) (spec_l1Cur_among_ok _ _ _ (hx4)) rfl (by rfl) rfl) ?_
 refine AO.pu T ?_
 refine AO.nil (AW.ret ?_)
 have hR := someE hH; subst hR
 exact ⟨trivial, rfl, _, [], [1], rfl, expLG_cons (.c (.box rfl rfl)) (expLG_nil), .c (.c .v), by decide⟩

def spec_l1In_p (n : Int) (lo : Int) (hi : Int) : Option Bool :=
  some (decide (n ≥ lo) && decide (n ≤ hi))
theorem spec_l1In_ok (n : Int) (lo : Int) (hi : Int) (r : Bool) (hH : spec_l1In_p n lo hi = some r) : SpecR Tryz.prog 51 [n, lo, hi] (.v (.bool r)) := by
 refine fn_ok T Tryz.func51 rfl (by decide) rfl ?_
 refine AW.seq (AW.region ?_)
 refine AO.pu T ?_
 refine AO.nil (AW.seq ?_)
 refine AW.region ?_
 iterate 4 refine AO.pu T ?_
 iterate 2 refine AO.pureG T [] rfl trivial rfl rfl ?_
 refine AO.pureG T [11, 12] rfl ⟨fun h => h, fun h => h, trivial⟩ rfl rfl ?_
 refine AO.val rfl rfl (pick_and rfl rfl rfl rfl) ?_
 refine AO.pu T ?_
 refine AO.nil (AW.ret ?_)
 have hR := someE hH; subst hR
 exact retQ.i [] rfl (.c (.c .v))

def spec_l1All_l1 (lo : Int) (hi : Int) : List Int → Nat → Option Bool
  | [], k1 =>
    some true
  | y2 :: ys3, k1 =>
    (spec_l1In_p y2 lo hi).bind fun x12 =>
    cond (!x12)
      (some false)
      (spec_l1All_l1 lo hi ys3 (k1 + 1))
def spec_l1All_p (l : List Int) (lo : Int) (hi : Int) : Option Bool :=
  spec_l1All_l1 lo hi l 0
theorem spec_l1All_ok (l : List Int) (lo : Int) (hi : Int) (r : Bool) (hH : spec_l1All_p l lo hi = some r) : SpecR Tryz.prog 74 [.s (List.map encInt l), lo, hi] (.v (.bool r)) := by
 refine fn_ok T Tryz.func74 rfl (by decide) rfl ?_
 refine AW.seq (AW.region ?_)
 refine AO.pu T ?_
 refine AO.nil ?_
 iterate 2 refine AW.seq ?_
 refine AW.region ?_
 refine AO.pu T ?_
 refine AO.val rfl rfl (len_map_ok T rfl rfl rfl) ?_
 refine AO.pu T ?_
 refine AO.nil ?_
 refine AW.block ?_
 refine AW.loopS (fun s : Nat => (⟨[(1, lo), (2, hi), (9, .s (List.map encInt l)), (10, (l.length : Int)), (11, (s : Int))], [], 21, []⟩ : St)) (fun s => s ≤ l.length ∧ spec_l1All_l1 lo hi (l.drop s) s = some r) (fun s => l.length - s) 0 ⟨Nat.zero_le _, hH⟩ ?_ ?_
 exact Le.ct 0 0
 rintro k1 ⟨hk, hH⟩
 replace hH : spec_l1All_l1 lo hi (l.drop k1) k1 = some r := hH
 try dsimp only
 refine AW.boundM (t := 9) (l := l) rfl (fun hb5 => ?_)
 rcases hd4 : l.drop k1 with _ | ⟨y2, ys3⟩
 rw [hd4, spec_l1All_l1] at hH
 have hlt6 := drop_ge hd4
 refine AW.seq (AW.region ?_)
 refine AO.pu T ?_
 refine AO.nil (AW.seq ?_)
 refine AW.condF' (b := decide ((k1 : Int) < (l.length : Int))) rfl (rngF hlt6) ?_
 refine AW.exit ?_
 refine AW.seq (AW.region ?_)
 refine AO.pu T ?_
 refine AO.nil (AW.ret ?_)
 have hR := someE hH; subst hR
 exact retQ.i [] rfl (.c (.c .v))
 rw [hd4, spec_l1All_l1] at hH
 have hlt6 := drop_lt hd4
 refine AW.seq (AW.region ?_)
 refine AO.pu T ?_
 refine AO.nil (AW.seq ?_)
 refine AW.condT' (b := decide ((k1 : Int) < (l.length : Int))) rfl (rngT hlt6) ?_
 refine AW.skip ?_
 refine AW.seq ?_
 refine AW.block ?_
 refine AW.seq (AW.region ?_)
 refine AO.val rfl rfl (ix_map_ok T rfl rfl rfl rfl rfl (getI_drop hd4) rfl) ?_
 iterate 2 refine AO.pu T ?_
 refine AO.nil (AW.seq ?_)
 obtain ⟨x12, hx13, hH⟩ := bindE hH
 refine AW.region ?_
 iterate 3 refine AO.pu T ?_
 refine AO.val rfl rfl (callV_ok rfl rfl rfl rfl (spec_l1In_ok _ _ _ _ (hx13)) rfl) ?_
 refine AO.pu T ?_
 refine AO.nil ?_
 refine AW.cond (b := (!x12)) rfl (fun hc => ?_) (fun hc => ?_)
 replace hH := condT hc hH
 refine AW.seq (AW.region ?_)
 refine AO.pu T ?_
 refine AO.nil (AW.ret ?_)
 have hR := someE hH; subst hR
 exact retQ.i [] rfl (.c (.c .v))
 replace hH := condF hc hH
 refine AW.skip ?_
 refine AW.region ?_
 refine AO.val rfl rfl (ar_ok rfl rfl rfl rfl (inI_succ hlt6 hb5)) ?_
 refine AO.pu T ?_
 refine AO.nil ?_
 refine ⟨k1 + 1, ⟨Nat.succ_le_of_lt hlt6, (by rw [drop_succ_of hd4]; exact hH)⟩, (by have := hlt6; dsimp only; omega), ?_⟩
 exact Le.ct 0 0

def spec_dwKeys_p (keys : List Int) (most : Int) : Option Bool :=
  (opt (decide ((keys.length : Int) ≤ most)) default (spec_l1All_p keys 0 1000000000)).bind fun x1 =>
  some (decide ((keys.length : Int) ≤ most) && x1)
theorem spec_dwKeys_ok (keys : List Int) (most : Int) (r : Bool) (hH : spec_dwKeys_p keys most = some r) : SpecR Tryz.prog 36 [.s (List.map encInt keys), most] (.v (.bool r)) := by
 refine fn_ok T Tryz.func36 rfl (by decide) rfl ?_
 refine AW.seq (AW.region ?_)
 refine AO.pu T ?_
 refine AO.nil (AW.seq ?_)
 obtain ⟨x1, hx2, hH⟩ := bindE hH
 refine AW.region ?_
 refine AO.pu T ?_
 refine AO.val rfl rfl (len_map_ok T rfl rfl rfl) ?_
 iterate 3 refine AO.pu T ?_
 refine AO.pureG T [] rfl trivial rfl rfl ?_
 refine AO.guard [10] rfl ⟨fun h => h, trivial⟩ (fun hg => callV_ok rfl rfl rfl rfl (spec_l1All_ok _ _ _ _ (optT hx2 hg)) rfl) rfl ?_
 refine AO.val rfl rfl (pick_and rfl rfl rfl rfl) ?_
 refine AO.pu T ?_
 refine AO.nil (AW.ret ?_)
 have hR := someE hH; subst hR
 exact retQ.i [] rfl (.c (.c .v))

def spec_l1Has_l1 (n : Int) : List Int → Nat → Option Bool
  | [], k1 =>
    some false
  | y2 :: ys3, k1 =>
    cond (y2 == n)
      (some true)
      (spec_l1Has_l1 n ys3 (k1 + 1))
def spec_l1Has_p (l : List Int) (n : Int) : Option Bool :=
  spec_l1Has_l1 n l 0
theorem spec_l1Has_ok (l : List Int) (n : Int) (r : Bool) (hH : spec_l1Has_p l n = some r) : SpecR Tryz.prog 40 [.s (List.map encInt l), n] (.v (.bool r)) := by
 refine fn_ok T Tryz.func40 rfl (by decide) rfl ?_
 refine AW.seq (AW.region ?_)
 refine AO.pu T ?_
 refine AO.nil ?_
 iterate 2 refine AW.seq ?_
 refine AW.region ?_
 refine AO.pu T ?_
 refine AO.val rfl rfl (len_map_ok T rfl rfl rfl) ?_
 refine AO.pu T ?_
 refine AO.nil ?_
 refine AW.block ?_
 refine AW.loopS (fun s : Nat => (⟨[(1, n), (7, .s (List.map encInt l)), (8, (l.length : Int)), (9, (s : Int))], [], 17, []⟩ : St)) (fun s => s ≤ l.length ∧ spec_l1Has_l1 n (l.drop s) s = some r) (fun s => l.length - s) 0 ⟨Nat.zero_le _, hH⟩ ?_ ?_
 exact Le.ct 0 0
 rintro k1 ⟨hk, hH⟩
 replace hH : spec_l1Has_l1 n (l.drop k1) k1 = some r := hH
 try dsimp only
 refine AW.boundM (t := 7) (l := l) rfl (fun hb5 => ?_)
 rcases hd4 : l.drop k1 with _ | ⟨y2, ys3⟩
 rw [hd4, spec_l1Has_l1] at hH
 have hlt6 := drop_ge hd4
 refine AW.seq (AW.region ?_)
 refine AO.pu T ?_
 refine AO.nil (AW.seq ?_)
 refine AW.condF' (b := decide ((k1 : Int) < (l.length : Int))) rfl (rngF hlt6) ?_
 refine AW.exit ?_
 refine AW.seq (AW.region ?_)
 refine AO.pu T ?_
 refine AO.nil (AW.ret ?_)
 have hR := someE hH; subst hR
 exact retQ.i [] rfl (.c (.c .v))
 rw [hd4, spec_l1Has_l1] at hH
 have hlt6 := drop_lt hd4
 refine AW.seq (AW.region ?_)
 refine AO.pu T ?_
 refine AO.nil (AW.seq ?_)
 refine AW.condT' (b := decide ((k1 : Int) < (l.length : Int))) rfl (rngT hlt6) ?_
 refine AW.skip ?_
 refine AW.seq ?_
 refine AW.block ?_
 refine AW.seq (AW.region ?_)
 refine AO.val rfl rfl (ix_map_ok T rfl rfl rfl rfl rfl (getI_drop hd4) rfl) ?_
 iterate 2 refine AO.pu T ?_
 refine AO.nil (AW.seq ?_)
 refine AW.region ?_
 iterate 3 refine AO.pu T ?_
 refine AO.nil ?_
 refine AW.cond (b := (y2 == n)) rfl (fun hc => ?_) (fun hc => ?_)
 replace hH := condT hc hH
 refine AW.seq (AW.region ?_)
 refine AO.pu T ?_
 refine AO.nil (AW.ret ?_)
 have hR := someE hH; subst hR
 exact retQ.i [] rfl (.c (.c .v))
 replace hH := condF hc hH
 refine AW.skip ?_
 refine AW.region ?_
 refine AO.val rfl rfl (ar_ok rfl rfl rfl rfl (inI_succ hlt6 hb5)) ?_
 refine AO.pu T ?_
 refine AO.nil ?_
 refine ⟨k1 + 1, ⟨Nat.succ_le_of_lt hlt6, (by rw [drop_succ_of hd4]; exact hH)⟩, (by have := hlt6; dsimp only; omega), ?_⟩
 exact Le.ct 0 0

def spec_paOfficials_l1 (l : List Official) : List Official → Nat → List Int → Option Bool
  | [], k1, v28 =>
    some (decide ((l.length : Int) ≤ 24))
  | y2 :: ys3, k1, v28 =>
    (spec_l1In_p y2.number 1 999).bind fun x30 =>
    (opt (!(!x30)) default (spec_l1Has_p v28 y2.number)).bind fun x32 =>
    (opt (!((!x30) || x32)) default (spec_l1In_p y2.club 1 20)).bind fun x34 =>
    (opt (!(((!x30) || x32) || (!x34))) default (spec_l1In_p y2.level 1 3)).bind fun x36 =>
    cond ((((!x30) || x32) || (!x34)) || (!x36))
      (some false)
      ((need (fitsB 8 (v28.length + ([y2.number]).length))).bind fun u38 =>
      spec_paOfficials_l1 l ys3 (k1 + 1) (v28 ++ [y2.number]))
def spec_paOfficials_p (l : List Official) : Option Bool :=
  spec_paOfficials_l1 l l 0 []
theorem spec_paOfficials_ok (l : List Official) (r : Bool) (hH : spec_paOfficials_p l = some r) : SpecR Tryz.prog 50 [.s (List.map encOfficial l)] (.v (.bool r)) := by
 refine fn_ok T Tryz.func50 rfl (by decide) rfl ?_
 refine AW.seq (AW.region ?_)
 refine AO.pu T ?_
 refine AO.nil (AW.seq ?_)
 refine AW.region ?_
 refine AO.pu T ?_
 refine AO.nil ?_
 iterate 2 refine AW.seq ?_
 refine AW.region ?_
 refine AO.pu T ?_
 refine AO.val rfl rfl (len_map_ok T rfl rfl rfl) ?_
 refine AO.pu T ?_
 refine AO.nil ?_
 refine AW.block ?_
 refine AW.loopS (fun s : Nat × (List Int) => (⟨[(0, .s (List.map encOfficial l)), (3, .R 6), (6, .s (List.map encOfficial l)), (7, (l.length : Int)), (8, (s.1 : Int))], [(6, .row 1 (List.map encInt s.2))], 43, []⟩ : St)) (fun s => s.1 ≤ l.length ∧ spec_paOfficials_l1 l (l.drop s.1) s.1 s.2 = some r) (fun s => l.length - s.1) (0, []) ⟨Nat.zero_le _, hH⟩ ?_ ?_
 refine Le.trans (Le.void 3 6 1 rfl rfl) ?_
 exact Le.ct 0 0
 rintro ⟨k1, v28⟩ ⟨hk, hH⟩
 replace hH : spec_paOfficials_l1 l (l.drop k1) k1 v28 = some r := hH
 try dsimp only
 refine AW.boundM (t := 0) (l := l) rfl (fun hb5 => ?_)
 rcases hd4 : l.drop k1 with _ | ⟨y2, ys3⟩
 rw [hd4, spec_paOfficials_l1] at hH
 have hlt6 := drop_ge hd4
 refine AW.seq (AW.region ?_)
 refine AO.pu T ?_
 refine AO.nil (AW.seq ?_)
 refine AW.condF' (b := decide ((k1 : Int) < (l.length : Int))) rfl (rngF hlt6) ?_
 refine AW.exit ?_
 refine AW.seq (AW.region ?_)
 refine AO.pu T ?_
 refine AO.val rfl rfl (len_map_ok T rfl rfl rfl) ?_
 iterate 2 refine AO.pu T ?_
 refine AO.nil (AW.ret ?_)
 have hR := someE hH; subst hR
 exact retQ.i [] rfl (.c (.c .v))
 rw [hd4, spec_paOfficials_l1] at hH
 have hlt6 := drop_lt hd4
 refine AW.seq (AW.region ?_)
 refine AO.pu T ?_
 refine AO.nil (AW.seq ?_)
 refine AW.condT' (b := decide ((k1 : Int) < (l.length : Int))) rfl (rngT hlt6) ?_
 refine AW.skip ?_
 refine AW.seq ?_
 refine AW.block ?_
 refine AW.seq (AW.region ?_)
 refine AO.val rfl rfl (ix_map_ok T rfl rfl rfl rfl rfl (getI_drop hd4) rfl) ?_
 refine AO.pu T (d := .g [y2.number, y2.club, y2.level]) ?_
 refine AO.step rfl (alloc_ok T rfl 7 rfl rfl rfl rfl rfl) ?_
 refine AO.se T [y2.number, y2.club, y2.level] ?_
 refine AO.nil ?_
 iterate 2 refine AW.seq ?_
 obtain ⟨x30, hx31, hH⟩ := bindE hH
 obtain ⟨x32, hx33, hH⟩ := bindE hH
 obtain ⟨x34, hx35, hH⟩ := bindE hH
 obtain ⟨x36, hx37, hH⟩ := bindE hH
 refine AW.region ?_
 iterate 2 refine AO.pu T ?_
 refine AO.val rfl rfl (callV_ok rfl rfl rfl rfl (spec_l1In_ok _ _ _ _ (hx31)) rfl) ?_
 iterate 2 refine AO.pu T ?_
 iterate 2 refine AO.pureG T [] rfl trivial rfl rfl ?_
 refine AO.pureG T [18] rfl ⟨fun h => h, trivial⟩ rfl rfl ?_
 refine AO.guard [17, 19] rfl ⟨fun h => h, fun h => h, trivial⟩ (fun hg => callLV_ok rfl rfl rfl (es := [.s (List.map encInt v28), y2.number]) ⟨(.rowR rfl (.map fun y => .vs rfl)), .free rfl, trivial⟩ (spec_l1Has_ok _ _ _ (optT hx33 hg)) (zfree_v _) rfl) rfl ?_
 refine AO.val rfl rfl (pick_or rfl rfl rfl rfl) ?_
 refine AO.pu T ?_
 refine AO.pureG T [] rfl trivial rfl rfl ?_
 refine AO.pureG T [23] rfl ⟨fun h => h, trivial⟩ rfl rfl ?_
 refine AO.guard [24] rfl ⟨fun h => h, trivial⟩ (fun hg => callV_ok rfl rfl rfl rfl (spec_l1In_ok _ _ _ _ (optT hx35 hg)) rfl) rfl ?_
 refine AO.pureG T [25] rfl ⟨fun h => h, trivial⟩ rfl rfl ?_
 refine AO.val rfl rfl (pick_or rfl rfl rfl rfl) ?_
 refine AO.pu T ?_
 refine AO.pureG T [] rfl trivial rfl rfl ?_
 refine AO.pureG T [29] rfl ⟨fun h => h, trivial⟩ rfl rfl ?_
 refine AO.guard [30] rfl ⟨fun h => h, trivial⟩ (fun hg => callV_ok rfl rfl rfl rfl (spec_l1In_ok _ _ _ _ (optT hx37 hg)) rfl) rfl ?_
 refine AO.pureG T [31] rfl ⟨fun h => h, trivial⟩ rfl rfl ?_
 refine AO.val rfl rfl (pick_or rfl rfl rfl rfl) ?_
 refine AO.nil ?_
 refine AW.le (Le.ct 0 0 (σ' := (⟨[(0, .s (List.map encOfficial l)), (3, .R 6), (5, .p 7 0), (6, .s (List.map encOfficial l)), (7, (l.length : Int)), (8, (k1 : Int)), (33, .v (.bool ((((!x30) || x32) || (!x34)) || (!x36))))], [(6, .row 1 (List.map encInt v28)), (7, .box [y2.number, y2.club, y2.level])], 43, []⟩ : St))) ?_
 refine AW.cond (b := ((((!x30) || x32) || (!x34)) || (!x36))) rfl (fun hc => ?_) (fun hc => ?_)
 replace hH := condT hc hH
 refine AW.seq (AW.region ?_)
 refine AO.pu T ?_
 refine AO.nil (AW.ret ?_)
 have hR := someE hH; subst hR
 exact retQ.i [] rfl (.c (.c .v))
 replace hH := condF hc hH
 refine AW.skip ?_
 obtain ⟨u38, hx39, hH⟩ := bindE hH
 refine AW.region ?_
 iterate 3 refine AO.pu T ?_
 refine AO.step rfl (mk_map_ok T rfl 8 rfl rfl rfl rfl rfl (f := encInt) (l := [y2.number]) rfl rfl (fun _ => rfl) rfl rfl rfl rfl rfl) ?_
 refine AO.step rfl (app_rv_map T rfl 9 rfl rfl rfl rfl rfl (by decide) rfl rfl rfl rfl (fun _ => rfl) (needT (hx39)) rfl rfl) ?_
 refine AO.pu T ?_
 refine AO.nil ?_
 refine AW.region ?_
 refine AO.val rfl rfl (ar_ok rfl rfl rfl rfl (inI_succ hlt6 hb5)) ?_
 refine AO.pu T ?_
 refine AO.nil ?_
 refine ⟨(k1 + 1, (v28 ++ [y2.number])), ⟨Nat.succ_le_of_lt hlt6, (by rw [drop_succ_of hd4]; exact hH)⟩, (by have := hlt6; dsimp only; omega), ?_⟩
 exact Le.ct 9 6

def spec_l1Rising_l1 (l : List Int) (lo : Int) (hi : Int) : List Int → Nat → Option Bool
  | [], k1 =>
    some true
  | y2 :: ys3, k1 =>
    (spec_l1In_p y2 lo hi).bind fun x16 =>
    (opt ((!(!x16)) && decide ((k1 : Int) > 0)) default (getI l (w64 ((k1 : Int) - 1)))).bind fun x18 =>
    cond ((!x16) || (decide ((k1 : Int) > 0) && decide (x18 ≥ y2)))
      (some false)
      (spec_l1Rising_l1 l lo hi ys3 (k1 + 1))
def spec_l1Rising_p (l : List Int) (lo : Int) (hi : Int) : Option Bool :=
  spec_l1Rising_l1 l lo hi l 0
theorem spec_l1Rising_ok (l : List Int) (lo : Int) (hi : Int) (r : Bool) (hH : spec_l1Rising_p l lo hi = some r) : SpecR Tryz.prog 62 [.s (List.map encInt l), lo, hi] (.v (.bool r)) := by
 refine fn_ok T Tryz.func62 rfl (by decide) rfl ?_
 refine AW.seq (AW.region ?_)
 refine AO.pu T ?_
 refine AO.nil ?_
 iterate 2 refine AW.seq ?_
 refine AW.region ?_
 refine AO.pu T ?_
 refine AO.val rfl rfl (len_map_ok T rfl rfl rfl) ?_
 refine AO.pu T ?_
 refine AO.nil ?_
 refine AW.block ?_
 refine AW.loopS (fun s : Nat => (⟨[(0, .s (List.map encInt l)), (1, lo), (2, hi), (9, .s (List.map encInt l)), (10, (l.length : Int)), (11, (s : Int))], [], 35, []⟩ : St)) (fun s => s ≤ l.length ∧ spec_l1Rising_l1 l lo hi (l.drop s) s = some r) (fun s => l.length - s) 0 ⟨Nat.zero_le _, hH⟩ ?_ ?_
 exact Le.ct 0 0
 rintro k1 ⟨hk, hH⟩
 replace hH : spec_l1Rising_l1 l lo hi (l.drop k1) k1 = some r := hH
 try dsimp only
 refine AW.boundM (t := 0) (l := l) rfl (fun hb5 => ?_)
 rcases hd4 : l.drop k1 with _ | ⟨y2, ys3⟩
 rw [hd4, spec_l1Rising_l1] at hH
 have hlt6 := drop_ge hd4
 refine AW.seq (AW.region ?_)
 refine AO.pu T ?_
 refine AO.nil (AW.seq ?_)
 refine AW.condF' (b := decide ((k1 : Int) < (l.length : Int))) rfl (rngF hlt6) ?_
 refine AW.exit ?_
 refine AW.seq (AW.region ?_)
 refine AO.pu T ?_
 refine AO.nil (AW.ret ?_)
 have hR := someE hH; subst hR
 exact retQ.i [] rfl (.c (.c .v))
 rw [hd4, spec_l1Rising_l1] at hH
 have hlt6 := drop_lt hd4
 refine AW.seq (AW.region ?_)
 refine AO.pu T ?_
 refine AO.nil (AW.seq ?_)
 refine AW.condT' (b := decide ((k1 : Int) < (l.length : Int))) rfl (rngT hlt6) ?_
 refine AW.skip ?_
 refine AW.seq ?_
 refine AW.block ?_
 refine AW.seq (AW.region ?_)
 refine AO.pu T ?_
 refine AO.val rfl rfl (ix_map_ok T rfl rfl rfl rfl rfl (getI_drop hd4) rfl) ?_
 iterate 3 refine AO.pu T ?_
 refine AO.nil (AW.seq ?_)
 obtain ⟨x16, hx17, hH⟩ := bindE hH
 obtain ⟨x18, hx19, hH⟩ := bindE hH
 refine AW.region ?_
 iterate 3 refine AO.pu T ?_
 refine AO.val rfl rfl (callV_ok rfl rfl rfl rfl (spec_l1In_ok _ _ _ _ (hx17)) rfl) ?_
 iterate 2 refine AO.pu T ?_
 refine AO.pureG T [] rfl trivial rfl rfl ?_
 refine AO.pureG T [22] rfl ⟨fun h => h, trivial⟩ rfl rfl ?_
 refine AO.pureG T [23] rfl ⟨fun h => h, trivial⟩ rfl rfl ?_
 iterate 2 refine AO.pureG T [] rfl trivial rfl rfl ?_
 refine AO.guard [26] rfl ⟨fun h => h, trivial⟩ (fun hg => arw_ok rfl rfl rfl rfl) rfl ?_
 refine AO.guard [25, 27] rfl ⟨fun h => h, fun h => h, trivial⟩ (fun hg => ix_map_ok T rfl rfl rfl rfl rfl (optT hx19 hg) rfl) rfl ?_
 refine AO.pureG T [28] rfl ⟨fun h => h, trivial⟩ rfl rfl ?_
 refine AO.pureG T [] rfl trivial rfl rfl ?_
 refine AO.pureG T [29, 30] rfl ⟨fun h => h, fun h => h, trivial⟩ rfl rfl ?_
 refine AO.guard [24] rfl ⟨fun h => h, trivial⟩ (fun hg => pick_and rfl rfl rfl (by rw [hg]; exact Bool.true_and _)) rfl ?_
 refine AO.val rfl rfl (pick_or rfl rfl rfl rfl) ?_
 refine AO.nil ?_
 refine AW.le (Le.ct 0 0 (σ' := (⟨[(0, .s (List.map encInt l)), (1, lo), (2, hi), (9, .s (List.map encInt l)), (10, (l.length : Int)), (11, (k1 : Int)), (33, .v (.bool ((!x16) || (decide ((k1 : Int) > 0) && decide (x18 ≥ y2)))))], [], 35, []⟩ : St))) ?_
 refine AW.cond (b := ((!x16) || (decide ((k1 : Int) > 0) && decide (x18 ≥ y2)))) rfl (fun hc => ?_) (fun hc => ?_)
 replace hH := condT hc hH
 refine AW.seq (AW.region ?_)
 refine AO.pu T ?_
 refine AO.nil (AW.ret ?_)
 have hR := someE hH; subst hR
 exact retQ.i [] rfl (.c (.c .v))
 replace hH := condF hc hH
 refine AW.skip ?_
 refine AW.region ?_
 refine AO.val rfl rfl (ar_ok rfl rfl rfl rfl (inI_succ hlt6 hb5)) ?_
 refine AO.pu T ?_
 refine AO.nil ?_
 refine ⟨k1 + 1, ⟨Nat.succ_le_of_lt hlt6, (by rw [drop_succ_of hd4]; exact hH)⟩, (by have := hlt6; dsimp only; omega), ?_⟩
 exact Le.ct 0 0

def spec_paAsked_p (l : List Official) (clubs : List Int) (level : Int) : Option Bool :=
  (spec_paOfficials_p l).bind fun x1 =>
  (opt x1 default (spec_l1Rising_p clubs 1 20)).bind fun x3 =>
  (opt (x1 && x3) default (spec_l1In_p level 1 3)).bind fun x5 =>
  some ((x1 && x3) && x5)
theorem spec_paAsked_ok (l : List Official) (clubs : List Int) (level : Int) (r : Bool) (hH : spec_paAsked_p l clubs level = some r) : SpecR Tryz.prog 37 [.s (List.map encOfficial l), .s (List.map encInt clubs), level] (.v (.bool r)) := by
 refine fn_ok T Tryz.func37 rfl (by decide) rfl ?_
 refine AW.seq (AW.region ?_)
 refine AO.pu T ?_
 refine AO.nil (AW.seq ?_)
 obtain ⟨x1, hx2, hH⟩ := bindE hH
 obtain ⟨x3, hx4, hH⟩ := bindE hH
 obtain ⟨x5, hx6, hH⟩ := bindE hH
 refine AW.region ?_
 refine AO.pu T ?_
 refine AO.val rfl rfl (callV_ok rfl rfl rfl rfl (spec_paOfficials_ok _ _ (hx2)) rfl) ?_
 refine AO.pu T ?_
 refine AO.pureG T [] rfl trivial rfl rfl ?_
 refine AO.guard [10] rfl ⟨fun h => h, trivial⟩ (fun hg => callV_ok rfl rfl rfl rfl (spec_l1Rising_ok _ _ _ _ (optT hx4 hg)) rfl) rfl ?_
 refine AO.val rfl rfl (pick_and rfl rfl rfl rfl) ?_
 refine AO.pu T ?_
 refine AO.pureG T [] rfl trivial rfl rfl ?_
 refine AO.guard [14] rfl ⟨fun h => h, trivial⟩ (fun hg => callV_ok rfl rfl rfl rfl (spec_l1In_ok _ _ _ _ (optT hx6 hg)) rfl) rfl ?_
 refine AO.val rfl rfl (pick_and rfl rfl rfl rfl) ?_
 refine AO.pu T ?_
 refine AO.nil (AW.ret ?_)
 have hR := someE hH; subst hR
 exact retQ.i [] rfl (.c (.c .v))

def spec_paMost_p (most : Int) : Option Bool :=
  (spec_l1In_p most 1 9).bind fun x1 =>
  some x1
theorem spec_paMost_ok (most : Int) (r : Bool) (hH : spec_paMost_p most = some r) : SpecR Tryz.prog 38 [most] (.v (.bool r)) := by
 refine fn_ok T Tryz.func38 rfl (by decide) rfl ?_
 refine AW.seq (AW.region ?_)
 refine AO.pu T ?_
 refine AO.nil (AW.seq ?_)
 obtain ⟨x1, hx2, hH⟩ := bindE hH
 refine AW.region ?_
 refine AO.pu T ?_
 refine AO.val rfl rfl (callV_ok rfl rfl rfl rfl (spec_l1In_ok _ _ _ _ (hx2)) rfl) ?_
 refine AO.pu T ?_
 refine AO.nil (AW.ret ?_)
 have hR := someE hH; subst hR
 exact retQ.i [] rfl (.c (.c .v))

def spec_l1Put_l1 (l : List Int) (n : Int) : Nat → Int → Option Int
  | 0, _ => none
  | k13 + 1, v19 =>
    (opt (decide (v19 < (l.length : Int))) default (getI l v19)).bind fun x21 =>
    cond (decide (v19 < (l.length : Int)) && decide (x21 < n))
      (spec_l1Put_l1 l n k13 (w64 (v19 + 1)))
      (some v19)
def spec_l1Put_p (fuel : Nat) (l : List Int) (n : Int) : Option (List Int) :=
  (spec_l1Put_l1 l n fuel 0).bind fun v10 =>
  (opt (decide (v10 < (l.length : Int))) default (getI l v10)).bind fun x23 =>
  cond (decide (v10 < (l.length : Int)) && (x23 == n))
    (some l)
    ((need (inB 0 v10 l.length)).bind fun u25 =>
    (need (fitsB 8 ((((List.drop 0 l).take v10.toNat)).length))).bind fun u27 =>
    (need (fitsB 8 ((((List.drop 0 l).take v10.toNat)).length + ([n]).length))).bind fun u29 =>
    (need (inB v10 l.length l.length)).bind fun u31 =>
    (need (fitsB 8 (((((List.drop 0 l).take v10.toNat) ++ [n])).length + (((List.drop v10.toNat l).take (l.length - v10.toNat))).length))).bind fun u33 =>
    some ((((List.drop 0 l).take v10.toNat) ++ [n]) ++ ((List.drop v10.toNat l).take (l.length - v10.toNat))))
theorem spec_l1Put_ok (fuel : Nat) (l : List Int) (n : Int) (r : (List Int)) (hH : spec_l1Put_p fuel l n = some r) : SpecM Tryz.prog 42 [.w 1 (l.map encInt), n] [.u, .u] (.w 1 (r.map encInt)) := by
 refine fn_okM T Tryz.func42 rfl (by decide) rfl rfl ?_
 intro L
 show AW _ _ _ (⟨[(0, .R 1), (1, n)], [(1, .row 1 (List.map encInt l))], 48, [(1, L 1)]⟩ : St)
 refine AW.seq (AW.region ?_)
 refine AO.pu T ?_
 refine AO.nil (AW.seq ?_)
 refine AW.region ?_
 refine AO.pu T ?_
 refine AO.nil ?_
 obtain ⟨o11, hH, hK12⟩ := bindE hH
 refine AW.seqJ (fun s : Int => (⟨[(0, .R 1), (1, n), (5, s)], [(1, .row 1 (List.map encInt l))], 48, [(1, L 1)]⟩ : St)) (fun s => s = o11) ?_ ?_
 refine AW.block ?_
 refine AW.loopS (fun s : Nat × Int => (⟨[(0, .R 1), (1, n), (5, s.2)], [(1, .row 1 (List.map encInt l))], 48, [(1, L 1)]⟩ : St)) (fun s => spec_l1Put_l1 l n s.1 s.2 = some o11) (fun s => s.1) (fuel, 0) hH ?_ ?_
 exact Le.ct 0 0 (hpin := ⟨⟨rfl, rfl⟩, trivial⟩)
 rintro ⟨k13, v19⟩ hH
 replace hH : spec_l1Put_l1 l n k13 v19 = some o11 := hH
 try dsimp only
 rcases k13 with _ | k13
 cases (show none = some _ from hH)
 rw [spec_l1Put_l1] at hH
 iterate 2 refine AW.seq ?_
 obtain ⟨x21, hx22, hH⟩ := bindE hH
 refine AW.region ?_
 iterate 2 refine AO.pu T ?_
 refine AO.val rfl rfl (len_row_ok T rfl rfl rfl rfl) ?_
 iterate 2 refine AO.pu T ?_
 iterate 2 refine AO.pureG T [] rfl trivial rfl rfl ?_
 refine AO.guard [12, 13] rfl ⟨fun h => h, fun h => h, trivial⟩ (fun hg => ix_row_ok T rfl rfl rfl rfl rfl rfl (optT hx22 hg)) rfl ?_
 refine AO.guard [14] rfl ⟨fun h => h, trivial⟩ (fun hg => load_row_ok T rfl rfl rfl rfl (getI_get (optT hx22 hg)) rfl rfl rfl) rfl ?_
 refine AO.pureG T [] rfl trivial rfl rfl ?_
 refine AO.pureG T [15, 16] rfl ⟨fun h => h, fun h => h, trivial⟩ rfl rfl ?_
 refine AO.val rfl rfl (pick_and rfl rfl rfl rfl) ?_
 refine AO.nil ?_
 refine AW.cond (b := (decide (v19 < (l.length : Int)) && decide (x21 < n))) rfl (fun hc => ?_) (fun hc => ?_)
 replace hH := condT hc hH
 refine AW.skip ?_
 refine AW.block ?_
 refine AW.region ?_
 refine AO.pu T ?_
 refine AO.val rfl rfl (arw_ok rfl rfl rfl rfl) ?_
 refine AO.pu T ?_
 refine AO.nil ?_
 refine ⟨(k13, w64 (v19 + 1)), hH, Nat.lt_succ_self _, ?_⟩
 exact Le.ct 0 0 (hpin := ⟨⟨rfl, rfl⟩, trivial⟩)
 replace hH := condF hc hH
 refine AW.exit ?_
 refine ⟨_, someE hH, ?_⟩
 exact Le.ct 0 0 (hpin := ⟨⟨rfl, rfl⟩, trivial⟩)
 rintro v10 hs
 subst hs
 replace hH := hK12
 try dsimp only [flow, flowE] at hH
 try dsimp only
 iterate 2 refine AW.seq ?_
 obtain ⟨x23, hx24, hH⟩ := bindE hH
 refine AW.region ?_
 iterate 2 refine AO.pu T ?_
 refine AO.val rfl rfl (len_row_ok T rfl rfl rfl rfl) ?_
 iterate 2 refine AO.pu T ?_
 iterate 2 refine AO.pureG T [] rfl trivial rfl rfl ?_
 refine AO.guard [26, 27] rfl ⟨fun h => h, fun h => h, trivial⟩ (fun hg => ix_row_ok T rfl rfl rfl rfl rfl rfl (optT hx24 hg)) rfl ?_
 refine AO.guard [28] rfl ⟨fun h => h, trivial⟩ (fun hg => load_row_ok T rfl rfl rfl rfl (getI_get (optT hx24 hg)) rfl rfl rfl) rfl ?_
 refine AO.pureG T [] rfl trivial rfl rfl ?_
 refine AO.pureG T [29, 30] rfl ⟨fun h => h, fun h => h, trivial⟩ rfl rfl ?_
 refine AO.val rfl rfl (pick_and rfl rfl rfl rfl) ?_
 refine AO.nil ?_
 refine AW.cond (b := (decide (v10 < (l.length : Int)) && (x23 == n))) rfl (fun hc => ?_) (fun hc => ?_)
 replace hH := condT hc hH
 refine AW.seq (AW.region ?_)
 iterate 2 refine AO.pu T ?_
 refine AO.nil (AW.ret ?_)
 have hR := someE hH; subst hR
 exact ⟨trivial, rfl, _, [1], [], rfl, expLG_cons (.c .u) (expLG_cons (.c .u) (expLG_nil)), .c (.c (.rowR rfl)), by decide⟩
 replace hH := condF hc hH
 refine AW.skip ?_
 refine AW.seq ?_
 obtain ⟨u25, hx26, hH⟩ := bindE hH
 obtain ⟨u27, hx28, hH⟩ := bindE hH
 refine AW.region ?_
 refine AO.step rfl (mk0_ok T rfl rfl rfl rfl) ?_
 iterate 2 refine AO.pu T ?_
 refine AO.val rfl rfl (slice_row_hi T rfl rfl rfl rfl rfl rfl (needT (hx26))) ?_
 refine AO.step rfl (app_wp_map T rfl 2 rfl rfl rfl rfl rfl (by decide) rfl rfl rfl (by have := inB_iff (needT (hx26)); omega) (fun _ => rfl) (needT (hx28)) rfl rfl) ?_
 refine AO.pu T ?_
 refine AO.nil (AW.seq ?_)
 obtain ⟨u29, hx30, hH⟩ := bindE hH
 refine AW.region ?_
 iterate 2 refine AO.pu T ?_
 refine AO.step rfl (mk_map_ok T rfl 3 rfl rfl rfl rfl rfl (f := encInt) (l := [n]) rfl rfl (fun _ => rfl) rfl rfl rfl rfl rfl) ?_
 refine AO.step rfl (app_rv_map T rfl 4 rfl rfl rfl rfl rfl (by decide) rfl rfl rfl rfl (fun _ => rfl) (needT (hx30)) rfl rfl) ?_
 refine AO.pu T ?_
 refine AO.nil (AW.seq ?_)
 obtain ⟨u31, hx32, hH⟩ := bindE hH
 obtain ⟨u33, hx34, hH⟩ := bindE hH
 refine AW.region ?_
 iterate 3 refine AO.pu T ?_
 refine AO.val rfl rfl (slice_row_lo T rfl rfl rfl rfl rfl rfl (needT (hx32))) ?_
 refine AO.step rfl (app_rp_map T rfl 5 rfl rfl rfl rfl rfl (by decide) rfl rfl rfl rfl (by have := inB_iff (needT (hx32)); omega) (fun _ => rfl) (needT (hx34)) rfl rfl) ?_
 refine AO.pu T ?_
 refine AO.nil ?_
 refine AW.le (Le.ct 0 0 (σ' := (⟨[(4, .R 5)], [(1, .row 1 (List.map encInt l)), (5, .row 1 (List.map encInt ((((List.drop 0 l).take v10.toNat) ++ [n]) ++ ((List.drop v10.toNat l).take (l.length - v10.toNat)))))], 48, [(1, L 1)]⟩ : St)) (hpin := ⟨⟨rfl, rfl⟩, trivial⟩)) ?_
 refine AW.ret ?_
 have hR := someE hH; subst hR
 exact ⟨trivial, rfl, _, [5], [], rfl, expLG_cons (.c .u) (expLG_cons (.c .u) (expLG_nil)), .c (.c (.rowR rfl)), by decide⟩

def spec_paEligible_l1 (clubs : List Int) (level : Int) (fuel : Nat) : List Official → Nat → List Int → Option ((List Int))
  | [], k1, v16 =>
    some v16
  | y2 :: ys3, k1, v16 =>
    (spec_l1Has_p clubs y2.club).bind fun x18 =>
    cond ((!x18) && decide (y2.level ≥ level))
      ((spec_l1Put_p fuel v16 y2.number).bind fun x20 =>
      spec_paEligible_l1 clubs level fuel ys3 (k1 + 1) x20)
      (spec_paEligible_l1 clubs level fuel ys3 (k1 + 1) v16)
def spec_paEligible_p (fuel : Nat) (l : List Official) (clubs : List Int) (level : Int) : Option (List Int) :=
  spec_paEligible_l1 clubs level fuel l 0 []
theorem spec_paEligible_ok (fuel : Nat) (l : List Official) (clubs : List Int) (level : Int) (r : (List Int)) (hH : spec_paEligible_p fuel l clubs level = some r) : SpecR Tryz.prog 58 [.s (List.map encOfficial l), .s (List.map encInt clubs), level] (.w 1 (r.map encInt)) := by
 refine fn_ok T Tryz.func58 rfl (by decide) rfl ?_
 refine AW.seq (AW.region ?_)
 refine AO.pu T ?_
 refine AO.nil (AW.seq ?_)
 refine AW.region ?_
 refine AO.pu T ?_
 refine AO.nil ?_
 iterate 2 refine AW.seq ?_
 refine AW.region ?_
 refine AO.pu T ?_
 refine AO.val rfl rfl (len_map_ok T rfl rfl rfl) ?_
 refine AO.pu T ?_
 refine AO.nil ?_
 refine AW.block ?_
 refine AW.loopS (fun s : Nat × (List Int) => (⟨[(1, .s (List.map encInt clubs)), (2, level), (7, .R 4), (10, .s (List.map encOfficial l)), (11, (l.length : Int)), (12, (s.1 : Int))], [(4, .row 1 (List.map encInt s.2))], 33, []⟩ : St)) (fun s => s.1 ≤ l.length ∧ spec_paEligible_l1 clubs level fuel (l.drop s.1) s.1 s.2 = some r) (fun s => l.length - s.1) (0, []) ⟨Nat.zero_le _, hH⟩ ?_ ?_
 refine Le.trans (Le.void 7 4 1 rfl rfl) ?_
 exact Le.ct 0 0
 rintro ⟨k1, v16⟩ ⟨hk, hH⟩
 replace hH : spec_paEligible_l1 clubs level fuel (l.drop k1) k1 v16 = some r := hH
 try dsimp only
 refine AW.boundM (t := 10) (l := l) rfl (fun hb5 => ?_)
 rcases hd4 : l.drop k1 with _ | ⟨y2, ys3⟩
 rw [hd4, spec_paEligible_l1] at hH
 have hlt6 := drop_ge hd4
 refine AW.seq (AW.region ?_)
 refine AO.pu T ?_
 refine AO.nil (AW.seq ?_)
 refine AW.condF' (b := decide ((k1 : Int) < (l.length : Int))) rfl (rngF hlt6) ?_
 refine AW.exit ?_
 refine AW.seq (AW.region ?_)
 iterate 2 refine AO.pu T ?_
 refine AO.nil (AW.ret ?_)
 have hR := someE hH; subst hR
 exact retQ.i [4] rfl (.c (.c (.rowR rfl)))
 rw [hd4, spec_paEligible_l1] at hH
 have hlt6 := drop_lt hd4
 refine AW.seq (AW.region ?_)
 refine AO.pu T ?_
 refine AO.nil (AW.seq ?_)
 refine AW.condT' (b := decide ((k1 : Int) < (l.length : Int))) rfl (rngT hlt6) ?_
 refine AW.skip ?_
 refine AW.seq ?_
 refine AW.block ?_
 refine AW.seq (AW.region ?_)
 refine AO.val rfl rfl (ix_map_ok T rfl rfl rfl rfl rfl (getI_drop hd4) rfl) ?_
 refine AO.pu T (d := .g [y2.number, y2.club, y2.level]) ?_
 refine AO.step rfl (alloc_ok T rfl 5 rfl rfl rfl rfl rfl) ?_
 refine AO.se T [y2.number, y2.club, y2.level] ?_
 refine AO.nil (AW.seq ?_)
 obtain ⟨x18, hx19, hH⟩ := bindE hH
 refine AW.region ?_
 iterate 3 refine AO.pu T ?_
 refine AO.val rfl rfl (callV_ok rfl rfl rfl rfl (spec_l1Has_ok _ _ _ (hx19)) rfl) ?_
 iterate 2 refine AO.pu T ?_
 refine AO.pureG T [] rfl trivial rfl rfl ?_
 refine AO.pureG T [22] rfl ⟨fun h => h, trivial⟩ rfl rfl ?_
 refine AO.pureG T [] rfl trivial rfl rfl ?_
 refine AO.pureG T [23, 24] rfl ⟨fun h => h, fun h => h, trivial⟩ rfl rfl ?_
 refine AO.val rfl rfl (pick_and rfl rfl rfl rfl) ?_
 refine AO.nil ?_
 refine AW.cond (b := ((!x18) && decide (y2.level ≥ level))) rfl (fun hc => ?_) (fun hc => ?_)
 replace hH := condT hc hH
 obtain ⟨x20, hx21, hH⟩ := bindE hH
 refine AW.region ?_
 iterate 3 refine AO.pu T ?_
 refine AO.step rfl (callM_ok rfl 6 rfl rfl (es := [.w 1 (v16.map encInt), .v (.int .i64 y2.number)]) (outs := [.u, .u]) (ids := [4]) (by exact expLG_cons (.c (.rowR rfl)) (expLG_cons (.c .v) (expLG_nil))) (by decide) (.inr (by exact (show ([] : List Nat).Nodup ∧ ∀ i ∈ ([] : List Nat), i ∈ ([4] : List Nat) from by decide))) (by rfl) (spec_l1Put_ok fuel _ _ _ (hx21)) rfl (by rfl) rfl) ?_
 refine AO.pu T ?_
 refine AO.nil ?_
 refine AW.region ?_
 refine AO.val rfl rfl (ar_ok rfl rfl rfl rfl (inI_succ hlt6 hb5)) ?_
 refine AO.pu T ?_
 refine AO.nil ?_
 refine ⟨(k1 + 1, x20), ⟨Nat.succ_le_of_lt hlt6, (by rw [drop_succ_of hd4]; exact hH)⟩, (by have := hlt6; dsimp only; omega), ?_⟩
 exact Le.ct 6 4
 replace hH := condF hc hH
 refine AW.skip ?_
 refine AW.region ?_
 refine AO.val rfl rfl (ar_ok rfl rfl rfl rfl (inI_succ hlt6 hb5)) ?_
 refine AO.pu T ?_
 refine AO.nil ?_
 refine ⟨(k1 + 1, v16), ⟨Nat.succ_le_of_lt hlt6, (by rw [drop_succ_of hd4]; exact hH)⟩, (by have := hlt6; dsimp only; omega), ?_⟩
 exact Le.ct 0 0

def spec_l1Own_p (l : List Int) : Option (List Int) :=
  (need (fitsB 8 l.length)).bind fun u1 =>
  some l
theorem spec_l1Own_ok (l : List Int) (r : (List Int)) (hH : spec_l1Own_p l = some r) : SpecR Tryz.prog 95 [.s (List.map encInt l)] (.w 1 (r.map encInt)) := by
 refine fn_ok T Tryz.func95 rfl (by decide) rfl ?_
 refine AW.seq (AW.region ?_)
 refine AO.pu T ?_
 refine AO.nil (AW.seq ?_)
 obtain ⟨u1, hx2, hH⟩ := bindE hH
 refine AW.region ?_
 refine AO.step rfl (mk0_ok T rfl rfl rfl rfl) ?_
 refine AO.pu T ?_
 refine AO.step rfl (app_ws_map T rfl 1 rfl rfl rfl rfl rfl (by decide) (by decide) rfl rfl (fun _ => rfl) (needT (hx2)) rfl rfl) ?_
 refine AO.pu T ?_
 refine AO.nil (AW.ret ?_)
 have hR := someE hH; subst hR
 exact retQ.i [1] rfl (.c (.c (.rowR rfl)))

def spec_dwMix_l1 (x1 : (List Int)) : Nat → Int → Int → Option Int
  | 0, _, _ => none
  | k5 + 1, v20, v21 =>
    cond (decide (v21 < (((x1 ++ ([4, 1] : List Int))).length : Int)))
      ((getI (x1 ++ ([4, 1] : List Int)) v21).bind fun x23 =>
      (need (1000003 != 0)).bind fun u25 =>
      (need (16 != 0)).bind fun u27 =>
      spec_dwMix_l1 x1 k5 ((w64 (((w64 ((w64 ((w64 (29 * v20)) + x23)) + 13)).tmod 1000003) * (w64 ((w64 (((w64 ((w64 ((w64 (29 * v20)) + x23)) + 13)).tmod 1000003).tdiv 16)) + 5)))).tmod 1000003) (w64 (v21 + 1)))
      (some v20)
def spec_dwMix_p (fuel : Nat) (keys : List Int) : Option Int :=
  (spec_l1Own_p keys).bind fun x1 =>
  (need (fitsB 8 (x1.length + (([4, 1] : List Int)).length))).bind fun u3 =>
  spec_dwMix_l1 x1 fuel (w64 (5231 + (keys.length : Int))) 0
theorem spec_dwMix_ok (fuel : Nat) (keys : List Int) (r : Int) (hH : spec_dwMix_p fuel keys = some r) : SpecR Tryz.prog 103 [.s (List.map encInt keys)] (.v (.int .i64 r)) := by
 refine fn_ok T Tryz.func103 rfl (by decide) rfl ?_
 refine AW.seq (AW.region ?_)
 refine AO.pu T ?_
 refine AO.nil (AW.seq ?_)
 refine AW.region ?_
 refine AO.pu T ?_
 refine AO.val rfl rfl (len_map_ok T rfl rfl rfl) ?_
 refine AO.val rfl rfl (arw_ok rfl rfl rfl rfl) ?_
 refine AO.pu T ?_
 refine AO.nil ?_
 iterate 2 refine AW.seq ?_
 obtain ⟨x1, hx2, hH⟩ := bindE hH
 obtain ⟨u3, hx4, hH⟩ := bindE hH
 refine AW.region ?_
 refine AO.pu T ?_
 refine AO.step rfl (call_ok rfl 1 rfl rfl rfl (spec_l1Own_ok _ _ (hx2)) rfl rfl rfl) ?_
 refine AO.step rfl (mk_map_ok T rfl 2 rfl rfl rfl rfl rfl (f := encInt) (l := ([4, 1] : List Int)) rfl rfl (fun _ => rfl) rfl rfl rfl rfl rfl) ?_
 refine AO.step rfl (app_rv_map T rfl 3 rfl rfl rfl rfl rfl (by decide) rfl rfl rfl rfl (fun _ => rfl) (needT (hx4)) rfl rfl) ?_
 refine AO.val rfl rfl (len_row_ok T rfl rfl rfl rfl) ?_
 refine AO.pu T ?_
 refine AO.nil ?_
 refine AW.block ?_
 refine AW.loopS (fun s : Nat × Int × Int => (⟨[(3, s.2.1), (12, .R 3), (13, (((x1 ++ ([4, 1] : List Int))).length : Int)), (14, s.2.2)], [(3, .row 1 (List.map encInt (x1 ++ ([4, 1] : List Int))))], 32, []⟩ : St)) (fun s => spec_dwMix_l1 x1 s.1 s.2.1 s.2.2 = some r) (fun s => s.1) (fuel, w64 (5231 + (keys.length : Int)), 0) hH ?_ ?_
 exact Le.ct 0 0
 rintro ⟨k5, v20, v21⟩ hH
 replace hH : spec_dwMix_l1 x1 k5 v20 v21 = some r := hH
 try dsimp only
 rcases k5 with _ | k5
 cases (show none = some _ from hH)
 rw [spec_dwMix_l1] at hH
 refine AW.seq (AW.region ?_)
 refine AO.pu T ?_
 refine AO.nil (AW.seq ?_)
 refine AW.cond (b := decide (v21 < (((x1 ++ ([4, 1] : List Int))).length : Int))) rfl (fun hc => ?_) (fun hc => ?_)
 replace hH := condT hc hH
 refine AW.skip ?_
 refine AW.seq ?_
 refine AW.block ?_
 refine AW.seq ?_
 obtain ⟨x23, hx24, hH⟩ := bindE hH
 refine AW.region ?_
 refine AO.val rfl rfl (ix_row_ok T rfl rfl rfl rfl rfl rfl (hx24)) ?_
 refine AO.val rfl rfl (load_row_ok T rfl rfl rfl rfl (getI_get (hx24)) rfl rfl rfl) ?_
 refine AO.pu T ?_
 refine AO.nil (AW.seq ?_)
 obtain ⟨u25, hx26, hH⟩ := bindE hH
 refine AW.region ?_
 refine AO.pu T ?_
 refine AO.val rfl rfl (arw_ok rfl rfl rfl rfl) ?_
 refine AO.pu T ?_
 iterate 2 refine AO.val rfl rfl (arw_ok rfl rfl rfl rfl) ?_
 refine AO.val rfl rfl (rem_ok rfl rfl rfl (neZ (needT (hx26)))) ?_
 refine AO.pu T ?_
 refine AO.nil ?_
 obtain ⟨u27, hx28, hH⟩ := bindE hH
 refine AW.region ?_
 iterate 2 refine AO.pu T ?_
 refine AO.val rfl rfl (quow_ok rfl rfl rfl (neZ (needT (hx28)))) ?_
 iterate 2 refine AO.val rfl rfl (arw_ok rfl rfl rfl rfl) ?_
 refine AO.val rfl rfl (rem_ok rfl rfl rfl (neZ (needT (hx26)))) ?_
 refine AO.pu T ?_
 refine AO.nil ?_
 refine AW.region ?_
 refine AO.val rfl rfl (arw_ok rfl rfl rfl rfl) ?_
 refine AO.pu T ?_
 refine AO.nil ?_
 refine ⟨(k5, ((w64 (((w64 ((w64 ((w64 (29 * v20)) + x23)) + 13)).tmod 1000003) * (w64 ((w64 (((w64 ((w64 ((w64 (29 * v20)) + x23)) + 13)).tmod 1000003).tdiv 16)) + 5)))).tmod 1000003), w64 (v21 + 1)), hH, Nat.lt_succ_self _, ?_⟩
 exact Le.ct 0 0
 replace hH := condF hc hH
 refine AW.exit ?_
 refine AW.seq (AW.region ?_)
 iterate 2 refine AO.pu T ?_
 refine AO.nil (AW.ret ?_)
 have hR := someE hH; subst hR
 exact retQ.i [] rfl (.c (.c .v))

def spec_dwBelow_p (fuel : Nat) (keys : List Int) (n : Int) : Option Int :=
  (spec_l1Own_p keys).bind fun x1 =>
  (need (fitsB 8 (x1.length + ([n]).length))).bind fun u3 =>
  (spec_dwMix_p fuel (x1 ++ [n])).bind fun x5 =>
  (need (n != 0)).bind fun u7 =>
  some (x5.tmod n)
theorem spec_dwBelow_ok (fuel : Nat) (keys : List Int) (n : Int) (r : Int) (hH : spec_dwBelow_p fuel keys n = some r) : SpecR Tryz.prog 94 [.s (List.map encInt keys), n] (.v (.int .i64 r)) := by
 refine fn_ok T Tryz.func94 rfl (by decide) rfl ?_
 refine AW.seq (AW.region ?_)
 refine AO.pu T ?_
 refine AO.nil (AW.seq ?_)
 obtain ⟨x1, hx2, hH⟩ := bindE hH
 obtain ⟨u3, hx4, hH⟩ := bindE hH
 obtain ⟨x5, hx6, hH⟩ := bindE hH
 obtain ⟨u7, hx8, hH⟩ := bindE hH
 refine AW.region ?_
 refine AO.pu T ?_
 refine AO.step rfl (call_ok rfl 1 rfl rfl rfl (spec_l1Own_ok _ _ (hx2)) rfl rfl rfl) ?_
 refine AO.pu T ?_
 refine AO.step rfl (mk_map_ok T rfl 2 rfl rfl rfl rfl rfl (f := encInt) (l := [n]) rfl rfl (fun _ => rfl) rfl rfl rfl rfl rfl) ?_
 refine AO.step rfl (app_rv_map T rfl 3 rfl rfl rfl rfl rfl (by decide) rfl rfl rfl rfl (fun _ => rfl) (needT (hx4)) rfl rfl) ?_
 refine AO.val rfl rfl (callLV_ok rfl rfl rfl (es := [.s (List.map encInt (x1 ++ [n]))]) ⟨(.rowR rfl (.map fun y => .vs rfl)), trivial⟩ (spec_dwMix_ok fuel _ _ (hx6)) (zfree_v _) rfl) ?_
 refine AO.pu T ?_
 refine AO.val rfl rfl (rem_ok rfl rfl rfl (neZ (needT (hx8)))) ?_
 refine AO.pu T ?_
 refine AO.nil (AW.ret ?_)
 have hR := someE hH; subst hR
 exact retQ.i [] rfl (.c (.c .v))

def spec_dwShuffle_l2 (keys : List Int) (fuel : Nat) : Nat → List Int → Int → Option ((List Int))
  | 0, _, _ => none
  | k13 + 1, v40, v41 =>
    cond (decide (v41 ≥ 1))
      ((spec_l1Own_p keys).bind fun x43 =>
      (need (fitsB 8 (x43.length + ([v41]).length))).bind fun u45 =>
      (spec_dwBelow_p fuel (x43 ++ [v41]) (w64 (v41 + 1))).bind fun x47 =>
      (getI v40 v41).bind fun x49 =>
      (getI v40 x47).bind fun x51 =>
      (getI (v40.set v41.toNat x51) x47).bind fun x53 =>
      spec_dwShuffle_l2 keys fuel k13 ((v40.set v41.toNat x51).set x47.toNat x49) (w64 (v41 - 1)))
      (some v40)
def spec_dwShuffle_l1 (keys : List Int) (n : Int) (fuel : Nat) : Nat → List Int → Int → Option ((List Int))
  | 0, _, _ => none
  | k1 + 1, v8, v9 =>
    cond (decide (v9 < n))
      ((need (fitsB 8 (v8.length + ([v9]).length))).bind fun u11 =>
      spec_dwShuffle_l1 keys n fuel k1 (v8 ++ [v9]) (w64 (v9 + 1)))
      (spec_dwShuffle_l2 keys fuel fuel v8 (w64 (n - 1)))
def spec_dwShuffle_p (fuel : Nat) (keys : List Int) (n : Int) : Option (List Int) :=
  spec_dwShuffle_l1 keys n fuel fuel [] 0
theorem spec_dwShuffle_ok (fuel : Nat) (keys : List Int) (n : Int) (r : (List Int)) (hH : spec_dwShuffle_p fuel keys n = some r) : SpecR Tryz.prog 79 [.s (List.map encInt keys), n] (.w 1 (r.map encInt)) := by
 refine fn_ok T Tryz.func79 rfl (by decide) rfl ?_
 refine AW.seq (AW.region ?_)
 refine AO.pu T ?_
 refine AO.nil (AW.seq ?_)
 refine AW.region ?_
 refine AO.pu T ?_
 refine AO.nil ?_
 iterate 2 refine AW.seq ?_
 refine AW.region ?_
 refine AO.pu T ?_
 refine AO.nil ?_
 refine AW.block ?_
 refine AW.loopS (fun s : Nat × (List Int) × Int => (⟨[(0, .s (List.map encInt keys)), (1, n), (5, .R 4), (6, s.2.2)], [(4, .row 1 (List.map encInt s.2.1))], 49, []⟩ : St)) (fun s => spec_dwShuffle_l1 keys n fuel s.1 s.2.1 s.2.2 = some r) (fun s => s.1) (fuel, [], 0) hH ?_ ?_
 refine Le.trans (Le.void 5 4 1 rfl rfl) ?_
 exact Le.ct 0 0
 rintro ⟨k1, v8, v9⟩ hH
 replace hH : spec_dwShuffle_l1 keys n fuel k1 v8 v9 = some r := hH
 try dsimp only
 rcases k1 with _ | k1
 cases (show none = some _ from hH)
 rw [spec_dwShuffle_l1] at hH
 iterate 2 refine AW.seq ?_
 refine AW.region ?_
 iterate 3 refine AO.pu T ?_
 refine AO.nil ?_
 refine AW.cond (b := decide (v9 < n)) rfl (fun hc => ?_) (fun hc => ?_)
 replace hH := condT hc hH
 refine AW.skip ?_
 refine AW.seq ?_
 refine AW.block ?_
 obtain ⟨u11, hx12, hH⟩ := bindE hH
 refine AW.region ?_
 iterate 2 refine AO.pu T ?_
 refine AO.step rfl (mk_map_ok T rfl 5 rfl rfl rfl rfl rfl (f := encInt) (l := [v9]) rfl rfl (fun _ => rfl) rfl rfl rfl rfl rfl) ?_
 refine AO.step rfl (app_rv_map T rfl 6 rfl rfl rfl rfl rfl (by decide) rfl rfl rfl rfl (fun _ => rfl) (needT (hx12)) rfl rfl) ?_
 refine AO.pu T ?_
 refine AO.nil ?_
 refine AW.region ?_
 refine AO.pu T ?_
 refine AO.val rfl rfl (arw_ok rfl rfl rfl rfl) ?_
 refine AO.pu T ?_
 refine AO.nil ?_
 refine ⟨(k1, (v8 ++ [v9]), w64 (v9 + 1)), hH, Nat.lt_succ_self _, ?_⟩
 exact Le.ct 6 4
 replace hH := condF hc hH
 refine AW.exit ?_
 iterate 2 refine AW.seq ?_
 refine AW.region ?_
 refine AO.pu T ?_
 refine AO.val rfl rfl (arw_ok rfl rfl rfl rfl) ?_
 refine AO.pu T ?_
 refine AO.nil ?_
 refine AW.block ?_
 refine AW.loopS (fun s : Nat × (List Int) × Int => (⟨[(0, .s (List.map encInt keys)), (5, .R 4), (7, s.2.2)], [(4, .row 1 (List.map encInt s.2.1))], 49, []⟩ : St)) (fun s => spec_dwShuffle_l2 keys fuel s.1 s.2.1 s.2.2 = some r) (fun s => s.1) (fuel, v8, w64 (n - 1)) hH ?_ ?_
 exact Le.ct 0 0
 rintro ⟨k13, v40, v41⟩ hH
 replace hH : spec_dwShuffle_l2 keys fuel k13 v40 v41 = some r := hH
 try dsimp only
 rcases k13 with _ | k13
 cases (show none = some _ from hH)
 rw [spec_dwShuffle_l2] at hH
 iterate 2 refine AW.seq ?_
 refine AW.region ?_
 iterate 2 refine AO.pu T ?_
 refine AO.nil ?_
 refine AW.cond (b := decide (v41 ≥ 1)) rfl (fun hc => ?_) (fun hc => ?_)
 replace hH := condT hc hH
 refine AW.skip ?_
 refine AW.seq ?_
 refine AW.block ?_
 refine AW.seq ?_
 obtain ⟨x43, hx44, hH⟩ := bindE hH
 obtain ⟨u45, hx46, hH⟩ := bindE hH
 obtain ⟨x47, hx48, hH⟩ := bindE hH
 refine AW.region ?_
 refine AO.pu T ?_
 refine AO.step rfl (call_ok rfl 13 rfl rfl rfl (spec_l1Own_ok _ _ (hx44)) rfl rfl rfl) ?_
 refine AO.pu T ?_
 refine AO.step rfl (mk_map_ok T rfl 14 rfl rfl rfl rfl rfl (f := encInt) (l := [v41]) rfl rfl (fun _ => rfl) rfl rfl rfl rfl rfl) ?_
 refine AO.step rfl (app_rv_map T rfl 15 rfl rfl rfl rfl rfl (by decide) rfl rfl rfl rfl (fun _ => rfl) (needT (hx46)) rfl rfl) ?_
 refine AO.pu T ?_
 refine AO.val rfl rfl (arw_ok rfl rfl rfl rfl) ?_
 refine AO.val rfl rfl (callLV_ok rfl rfl rfl (es := [.s (List.map encInt (x43 ++ [v41])), w64 (v41 + 1)]) ⟨(.rowR rfl (.map fun y => .vs rfl)), .free rfl, trivial⟩ (spec_dwBelow_ok fuel _ _ _ (hx48)) (zfree_v _) rfl) ?_
 refine AO.pu T ?_
 refine AO.nil (AW.seq ?_)
 obtain ⟨x49, hx50, hH⟩ := bindE hH
 refine AW.region ?_
 iterate 2 refine AO.pu T ?_
 refine AO.val rfl rfl (ix_row_ok T rfl rfl rfl rfl rfl rfl (hx50)) ?_
 refine AO.val rfl rfl (load_row_ok T rfl rfl rfl rfl (getI_get (hx50)) rfl rfl rfl) ?_
 refine AO.pu T ?_
 refine AO.nil (AW.seq ?_)
 obtain ⟨x51, hx52, hH⟩ := bindE hH
 refine AW.region ?_
 iterate 4 refine AO.pu T ?_
 refine AO.val rfl rfl (ix_row_ok T rfl rfl rfl rfl rfl rfl (hx52)) ?_
 refine AO.val rfl rfl (load_row_ok T rfl rfl rfl rfl (getI_get (hx52)) rfl rfl rfl) ?_
 refine AO.val rfl rfl (ix_row_ok T rfl rfl rfl rfl rfl rfl (hx50)) ?_
 refine AO.step rfl (store_row_ok T rfl rfl rfl rfl rfl (getI_get (hx50)) rfl rfl rfl rfl (u' := x51) rfl rfl) ?_
 refine AO.nil ?_
 refine AW.le (Le.ct 0 0 (σ' := (⟨[(0, .s (List.map encInt keys)), (5, .R 4), (7, v41), (8, x47), (9, x49)], [(4, .row 1 (List.map encInt (v40.set v41.toNat x51)))], 49, []⟩ : St))) ?_
 obtain ⟨x53, hx54, hH⟩ := bindE hH
 refine AW.region ?_
 iterate 3 refine AO.pu T ?_
 refine AO.val rfl rfl (ix_row_ok T rfl rfl rfl rfl rfl rfl (hx54)) ?_
 refine AO.step rfl (store_row_ok T rfl rfl rfl rfl rfl (getI_get (hx54)) rfl rfl rfl rfl (u' := x49) rfl rfl) ?_
 refine AO.nil ?_
 refine AW.region ?_
 refine AO.pu T ?_
 refine AO.val rfl rfl (arw_ok rfl rfl rfl rfl) ?_
 refine AO.pu T ?_
 refine AO.nil ?_
 refine ⟨(k13, ((v40.set v41.toNat x51).set x47.toNat x49), w64 (v41 - 1)), hH, Nat.lt_succ_self _, ?_⟩
 exact Le.ct 0 0
 replace hH := condF hc hH
 refine AW.exit ?_
 refine AW.seq (AW.region ?_)
 iterate 2 refine AO.pu T ?_
 refine AO.nil (AW.ret ?_)
 have hR := someE hH; subst hR
 exact retQ.i [4] rfl (.c (.c (.rowR rfl)))

def spec_dwNumbers_l1 (l : List Int) : List Int → Nat → List Int → Option ((List Int))
  | [], k3, v18 =>
    some v18
  | y4 :: ys5, k3, v18 =>
    (getI l y4).bind fun x20 =>
    (need (fitsB 8 (v18.length + ([x20]).length))).bind fun u22 =>
    spec_dwNumbers_l1 l ys5 (k3 + 1) (v18 ++ [x20])
def spec_dwNumbers_p (fuel : Nat) (keys : List Int) (l : List Int) : Option (List Int) :=
  (spec_dwShuffle_p fuel keys (l.length : Int)).bind fun x1 =>
  spec_dwNumbers_l1 l x1 0 []
theorem spec_dwNumbers_ok (fuel : Nat) (keys : List Int) (l : List Int) (r : (List Int)) (hH : spec_dwNumbers_p fuel keys l = some r) : SpecR Tryz.prog 52 [.s (List.map encInt keys), .s (List.map encInt l)] (.w 1 (r.map encInt)) := by
 refine fn_ok T Tryz.func52 rfl (by decide) rfl ?_
 refine AW.seq (AW.region ?_)
 refine AO.pu T ?_
 refine AO.nil (AW.seq ?_)
 refine AW.region ?_
 refine AO.pu T ?_
 refine AO.nil ?_
 iterate 2 refine AW.seq ?_
 obtain ⟨x1, hx2, hH⟩ := bindE hH
 refine AW.region ?_
 iterate 2 refine AO.pu T ?_
 refine AO.val rfl rfl (len_map_ok T rfl rfl rfl) ?_
 refine AO.step rfl (call_ok rfl 1 rfl rfl rfl (spec_dwShuffle_ok fuel _ _ _ (hx2)) rfl rfl rfl) ?_
 refine AO.val rfl rfl (len_row_ok T rfl rfl rfl rfl) ?_
 refine AO.pu T ?_
 refine AO.nil ?_
 refine AW.block ?_
 refine AW.loopS (fun s : Nat × (List Int) => (⟨[(1, .s (List.map encInt l)), (5, .R 5), (11, .R 1), (12, (x1.length : Int)), (13, (s.1 : Int))], [(1, .row 1 (List.map encInt x1)), (5, .row 1 (List.map encInt s.2))], 26, []⟩ : St)) (fun s => s.1 ≤ x1.length ∧ spec_dwNumbers_l1 l (x1.drop s.1) s.1 s.2 = some r) (fun s => x1.length - s.1) (0, []) ⟨Nat.zero_le _, hH⟩ ?_ ?_
 refine Le.trans (Le.void 5 5 1 rfl rfl) ?_
 exact Le.ct 0 0
 rintro ⟨k3, v18⟩ ⟨hk, hH⟩
 replace hH : spec_dwNumbers_l1 l (x1.drop k3) k3 v18 = some r := hH
 try dsimp only
 refine AW.boundR (id := 1) (l := x1) rfl (fun hb7 => ?_)
 rcases hd6 : x1.drop k3 with _ | ⟨y4, ys5⟩
 rw [hd6, spec_dwNumbers_l1] at hH
 have hlt8 := drop_ge hd6
 refine AW.seq (AW.region ?_)
 refine AO.pu T ?_
 refine AO.nil (AW.seq ?_)
 refine AW.condF' (b := decide ((k3 : Int) < (x1.length : Int))) rfl (rngF hlt8) ?_
 refine AW.exit ?_
 refine AW.seq (AW.region ?_)
 iterate 2 refine AO.pu T ?_
 refine AO.nil (AW.ret ?_)
 have hR := someE hH; subst hR
 exact retQ.i [5] rfl (.c (.c (.rowR rfl)))
 rw [hd6, spec_dwNumbers_l1] at hH
 have hlt8 := drop_lt hd6
 refine AW.seq (AW.region ?_)
 refine AO.pu T ?_
 refine AO.nil (AW.seq ?_)
 refine AW.condT' (b := decide ((k3 : Int) < (x1.length : Int))) rfl (rngT hlt8) ?_
 refine AW.skip ?_
 refine AW.seq ?_
 refine AW.block ?_
 refine AW.seq (AW.region ?_)
 refine AO.val rfl rfl (ix_row_ok T rfl rfl rfl rfl rfl rfl (getI_drop hd6)) ?_
 refine AO.val rfl rfl (load_row_ok T rfl rfl rfl rfl (getI_get (getI_drop hd6)) rfl rfl rfl) ?_
 refine AO.pu T ?_
 refine AO.nil ?_
 obtain ⟨x20, hx21, hH⟩ := bindE hH
 obtain ⟨u22, hx23, hH⟩ := bindE hH
 refine AW.region ?_
 iterate 3 refine AO.pu T ?_
 refine AO.val rfl rfl (ix_map_ok T rfl rfl rfl rfl rfl (hx21) rfl) ?_
 refine AO.pu T ?_
 refine AO.step rfl (mk_map_ok T rfl 6 rfl rfl rfl rfl rfl (f := encInt) (l := [x20]) rfl rfl (fun _ => rfl) rfl rfl rfl rfl rfl) ?_
 refine AO.step rfl (app_rv_map T rfl 7 rfl rfl rfl rfl rfl (by decide) rfl rfl rfl rfl (fun _ => rfl) (needT (hx23)) rfl rfl) ?_
 refine AO.pu T ?_
 refine AO.nil ?_
 refine AW.region ?_
 refine AO.val rfl rfl (ar_ok rfl rfl rfl rfl (inI_succ hlt8 hb7)) ?_
 refine AO.pu T ?_
 refine AO.nil ?_
 refine ⟨(k3 + 1, (v18 ++ [x20])), ⟨Nat.succ_le_of_lt hlt8, (by rw [drop_succ_of hd6]; exact hH)⟩, (by have := hlt8; dsimp only; omega), ?_⟩
 exact Le.ct 7 5

def spec_paOrder_p (fuel : Nat) (keys : List Int) (l : List Official) (clubs : List Int) (level : Int) : Option (List Int) :=
  (spec_paEligible_p fuel l clubs level).bind fun x1 =>
  (spec_dwNumbers_p fuel keys x1).bind fun x3 =>
  some x3
theorem spec_paOrder_ok (fuel : Nat) (keys : List Int) (l : List Official) (clubs : List Int) (level : Int) (r : (List Int)) (hH : spec_paOrder_p fuel keys l clubs level = some r) : SpecR Tryz.prog 41 [.s (List.map encInt keys), .s (List.map encOfficial l), .s (List.map encInt clubs), level] (.w 1 (r.map encInt)) := by
 refine fn_ok T Tryz.func41 rfl (by decide) rfl ?_
 refine AW.seq (AW.region ?_)
 refine AO.pu T ?_
 refine AO.nil (AW.seq ?_)
 obtain ⟨x1, hx2, hH⟩ := bindE hH
 obtain ⟨x3, hx4, hH⟩ := bindE hH
 refine AW.region ?_
 iterate 4 refine AO.pu T ?_
 refine AO.step rfl (call_ok rfl 1 rfl rfl rfl (spec_paEligible_ok fuel _ _ _ _ (hx2)) rfl rfl rfl) ?_
 refine AO.step rfl (callL_ok rfl 2 rfl rfl (es := [.s (List.map encInt keys), .s (List.map encInt x1)]) (by exact ⟨.free rfl, (.rowR rfl (.map fun y => .vs rfl)), trivial⟩) (spec_dwNumbers_ok fuel _ _ _ (hx4)) (zfree_map (fun y => (.cons (zfree_v _) .nil))) rfl rfl rfl) ?_
 refine AO.pu T ?_
 refine AO.nil (AW.ret ?_)
 have hR := someE hH; subst hR
 exact retQ.i [2] rfl (.c (.c (.rowR rfl)))

def spec_paFind_l1 (number : Int) : List Official → Nat → Option Int
  | [], k1 =>
    some (-1)
  | y2 :: ys3, k1 =>
    cond (y2.number == number)
      (some (k1 : Int))
      (spec_paFind_l1 number ys3 (k1 + 1))
def spec_paFind_p (l : List Official) (number : Int) : Option Int :=
  spec_paFind_l1 number l 0
theorem spec_paFind_ok (l : List Official) (number : Int) (r : Int) (hH : spec_paFind_p l number = some r) : SpecR Tryz.prog 63 [.s (List.map encOfficial l), number] (.v (.int .i64 r)) := by
 refine fn_ok T Tryz.func63 rfl (by decide) rfl ?_
 refine AW.seq (AW.region ?_)
 refine AO.pu T ?_
 refine AO.nil ?_
 iterate 2 refine AW.seq ?_
 refine AW.region ?_
 refine AO.pu T ?_
 refine AO.val rfl rfl (len_map_ok T rfl rfl rfl) ?_
 refine AO.pu T ?_
 refine AO.nil ?_
 refine AW.block ?_
 refine AW.loopS (fun s : Nat => (⟨[(1, number), (7, .s (List.map encOfficial l)), (8, (l.length : Int)), (9, (s : Int))], [], 20, []⟩ : St)) (fun s => s ≤ l.length ∧ spec_paFind_l1 number (l.drop s) s = some r) (fun s => l.length - s) 0 ⟨Nat.zero_le _, hH⟩ ?_ ?_
 exact Le.ct 0 0
 rintro k1 ⟨hk, hH⟩
 replace hH : spec_paFind_l1 number (l.drop k1) k1 = some r := hH
 try dsimp only
 refine AW.boundM (t := 7) (l := l) rfl (fun hb5 => ?_)
 rcases hd4 : l.drop k1 with _ | ⟨y2, ys3⟩
 rw [hd4, spec_paFind_l1] at hH
 have hlt6 := drop_ge hd4
 refine AW.seq (AW.region ?_)
 refine AO.pu T ?_
 refine AO.nil (AW.seq ?_)
 refine AW.condF' (b := decide ((k1 : Int) < (l.length : Int))) rfl (rngF hlt6) ?_
 refine AW.exit ?_
 refine AW.seq (AW.region ?_)
 refine AO.pu T ?_
 refine AO.nil (AW.ret ?_)
 have hR := someE hH; subst hR
 exact retQ.i [] rfl (.c (.c .v))
 rw [hd4, spec_paFind_l1] at hH
 have hlt6 := drop_lt hd4
 refine AW.seq (AW.region ?_)
 refine AO.pu T ?_
 refine AO.nil (AW.seq ?_)
 refine AW.condT' (b := decide ((k1 : Int) < (l.length : Int))) rfl (rngT hlt6) ?_
 refine AW.skip ?_
 refine AW.seq ?_
 refine AW.block ?_
 refine AW.seq (AW.region ?_)
 refine AO.pu T ?_
 refine AO.val rfl rfl (ix_map_ok T rfl rfl rfl rfl rfl (getI_drop hd4) rfl) ?_
 refine AO.pu T (d := .g [y2.number, y2.club, y2.level]) ?_
 refine AO.step rfl (alloc_ok T rfl 3 rfl rfl rfl rfl rfl) ?_
 refine AO.pu T ?_
 refine AO.se T [y2.number, y2.club, y2.level] ?_
 refine AO.nil (AW.seq ?_)
 refine AW.region ?_
 iterate 4 refine AO.pu T ?_
 refine AO.nil ?_
 refine AW.cond (b := (y2.number == number)) rfl (fun hc => ?_) (fun hc => ?_)
 replace hH := condT hc hH
 refine AW.seq (AW.region ?_)
 iterate 2 refine AO.pu T ?_
 refine AO.nil (AW.ret ?_)
 have hR := someE hH; subst hR
 exact retQ.i [] rfl (.c (.c .v))
 replace hH := condF hc hH
 refine AW.skip ?_
 refine AW.region ?_
 refine AO.val rfl rfl (ar_ok rfl rfl rfl rfl (inI_succ hlt6 hb5)) ?_
 refine AO.pu T ?_
 refine AO.nil ?_
 refine ⟨k1 + 1, ⟨Nat.succ_le_of_lt hlt6, (by rw [drop_succ_of hd4]; exact hH)⟩, (by have := hlt6; dsimp only; omega), ?_⟩
 exact Le.ct 0 0

def spec_PanelOf_l1 (l : List Official) (most : Int) (n : Int) (fuel : Nat) : List Int → Nat → List Int → List Int → Option (((List Int) × Bool))
  | [], k13, v41, v42 =>
    cond (decide ((v42.length : Int) < n))
      (some ([], false))
      (some (v42, true))
  | y14 :: ys15, k13, v41, v42 =>
    (spec_paFind_p l y14).bind fun x44 =>
    (getI l x44).bind fun x46 =>
    (opt (decide ((v42.length : Int) < n)) default (getI v41 x46.club)).bind fun x48 =>
    cond (decide ((v42.length : Int) < n) && decide (x48 < most))
      ((getI v41 x46.club).bind fun x50 =>
      (spec_l1Put_p fuel v42 y14).bind fun x52 =>
      spec_PanelOf_l1 l most n fuel ys15 (k13 + 1) (v41.set x46.club.toNat (w64 (x50 + 1))) x52)
      (spec_PanelOf_l1 l most n fuel ys15 (k13 + 1) v41 v42)
def spec_PanelOf_p (fuel : Nat) (keys : List Int) (l : List Official) (clubs : List Int) (level : Int) (most : Int) (n : Int) : Option ((List Int) × Bool) :=
  (spec_dwKeys_p keys 6).bind fun x1 =>
  (opt (!(!x1)) default (spec_paAsked_p l clubs level)).bind fun x3 =>
  (opt (!((!x1) || (!x3))) default (spec_paMost_p most)).bind fun x5 =>
  (opt (!(((!x1) || (!x3)) || (!x5))) default (spec_paMost_p n)).bind fun x7 =>
  cond ((((!x1) || (!x3)) || (!x5)) || (!x7))
    (some ([], false))
    ((need (decide (0 ≤ 21) && fitsB 8 (21 : Int).toNat)).bind fun u9 =>
    (spec_paOrder_p fuel keys l clubs level).bind fun x11 =>
    spec_PanelOf_l1 l most n fuel x11 0 (List.replicate (21 : Int).toNat (0 : Int)) [])
theorem spec_PanelOf_ok (fuel : Nat) (keys : List Int) (l : List Official) (clubs : List Int) (level : Int) (most : Int) (n : Int) (r : ((List Int) × Bool)) (hH : spec_PanelOf_p fuel keys l clubs level most n = some r) : SpecR Tryz.prog 65 [.s (List.map encInt keys), .s (List.map encOfficial l), .s (List.map encInt clubs), level, most, n] (.t [.w 1 (r.1.map encInt), .v (.bool r.2)]) := by
 refine fn_ok T Tryz.func65 rfl (by decide) rfl ?_
 refine AW.seq (AW.region ?_)
 iterate 2 refine AO.pu T ?_
 refine AO.nil ?_
 iterate 2 refine AW.seq ?_
 obtain ⟨x1, hx2, hH⟩ := bindE hH
 obtain ⟨x3, hx4, hH⟩ := bindE hH
 obtain ⟨x5, hx6, hH⟩ := bindE hH
 obtain ⟨x7, hx8, hH⟩ := bindE hH
 refine AW.region ?_
 refine AO.pu T ?_
 refine AO.val rfl rfl (callV_ok rfl rfl rfl rfl (spec_dwKeys_ok _ _ _ (hx2)) rfl) ?_
 iterate 2 refine AO.pu T ?_
 iterate 3 refine AO.pureG T [] rfl trivial rfl rfl ?_
 refine AO.guard [23, 24, 25] rfl ⟨fun h => h, fun h => h, fun h => h, trivial⟩ (fun hg => callV_ok rfl rfl rfl rfl (spec_paAsked_ok _ _ _ _ (optT hx4 hg)) rfl) rfl ?_
 refine AO.pureG T [26] rfl ⟨fun h => h, trivial⟩ rfl rfl ?_
 refine AO.val rfl rfl (pick_or rfl rfl rfl rfl) ?_
 refine AO.pu T ?_
 refine AO.pureG T [] rfl trivial rfl rfl ?_
 refine AO.guard [30] rfl ⟨fun h => h, trivial⟩ (fun hg => callV_ok rfl rfl rfl rfl (spec_paMost_ok _ _ (optT hx6 hg)) rfl) rfl ?_
 refine AO.pureG T [31] rfl ⟨fun h => h, trivial⟩ rfl rfl ?_
 refine AO.val rfl rfl (pick_or rfl rfl rfl rfl) ?_
 refine AO.pu T ?_
 refine AO.pureG T [] rfl trivial rfl rfl ?_
 refine AO.guard [35] rfl ⟨fun h => h, trivial⟩ (fun hg => callV_ok rfl rfl rfl rfl (spec_paMost_ok _ _ (optT hx8 hg)) rfl) rfl ?_
 refine AO.pureG T [36] rfl ⟨fun h => h, trivial⟩ rfl rfl ?_
 refine AO.val rfl rfl (pick_or rfl rfl rfl rfl) ?_
 refine AO.nil ?_
 refine AW.cond (b := ((((!x1) || (!x3)) || (!x5)) || (!x7))) rfl (fun hc => ?_) (fun hc => ?_)
 replace hH := condT hc hH
 refine AW.seq (AW.region ?_)
 iterate 2 refine AO.pu T ?_
 refine AO.nil ?_
 refine AW.le (Le.ct 0 0 (σ' := (⟨[(12, .w 0 []), (13, .v (.bool false))], [], 84, []⟩ : St))) ?_
 refine AW.ret ?_
 have hR := someE hH; subst hR
 exact retQ.i [] rfl (.t (expLG_cons (.c .nil) (expLG_cons (.c .v) (expLG_nil))))
 replace hH := condF hc hH
 refine AW.skip ?_
 refine AW.seq ?_
 obtain ⟨u9, hx10, hH⟩ := bindE hH
 refine AW.region ?_
 refine AO.step rfl (make_map_ok T rfl 1 rfl rfl rfl rfl rfl (f := encInt) (zo := 0) (by repeat constructor) (by decide) rfl rfl (Bool.and_eq_true_iff.1 (needT (hx10))).1 (Bool.and_eq_true_iff.1 (needT (hx10))).2 rfl rfl) ?_
 refine AO.pu T ?_
 refine AO.nil ?_
 refine AW.le (Le.ct 0 0 (σ' := (⟨[(0, .s (List.map encInt keys)), (1, .s (List.map encOfficial l)), (2, .s (List.map encInt clubs)), (3, level), (4, most), (5, n), (14, .R 1)], [(1, .row 1 (List.map encInt (List.replicate (21 : Int).toNat (0 : Int))))], 84, []⟩ : St))) ?_
 refine AW.seq (AW.region ?_)
 refine AO.pu T ?_
 refine AO.nil ?_
 iterate 2 refine AW.seq ?_
 obtain ⟨x11, hx12, hH⟩ := bindE hH
 refine AW.region ?_
 iterate 4 refine AO.pu T ?_
 refine AO.step rfl (call_ok rfl 2 rfl rfl rfl (spec_paOrder_ok fuel _ _ _ _ _ (hx12)) rfl rfl rfl) ?_
 refine AO.val rfl rfl (len_row_ok T rfl rfl rfl rfl) ?_
 refine AO.pu T ?_
 refine AO.nil ?_
 refine AW.block ?_
 refine AW.loopS (fun s : Nat × (List Int) × (List Int) => (⟨[(1, .s (List.map encOfficial l)), (4, most), (5, n), (14, .R 1), (15, .R 4), (44, .R 2), (45, (x11.length : Int)), (46, (s.1 : Int))], [(1, .row 1 (List.map encInt s.2.1)), (2, .row 1 (List.map encInt x11)), (4, .row 1 (List.map encInt s.2.2))], 84, []⟩ : St)) (fun s => s.1 ≤ x11.length ∧ spec_PanelOf_l1 l most n fuel (x11.drop s.1) s.1 s.2.1 s.2.2 = some r) (fun s => x11.length - s.1) (0, (List.replicate (21 : Int).toNat (0 : Int)), []) ⟨Nat.zero_le _, hH⟩ ?_ ?_
 refine Le.trans (Le.void 15 4 1 rfl rfl) ?_
 exact Le.ct 0 0
 rintro ⟨k13, v41, v42⟩ ⟨hk, hH⟩
 replace hH : spec_PanelOf_l1 l most n fuel (x11.drop k13) k13 v41 v42 = some r := hH
 try dsimp only
 refine AW.boundR (id := 2) (l := x11) rfl (fun hb17 => ?_)
 rcases hd16 : x11.drop k13 with _ | ⟨y14, ys15⟩
 rw [hd16, spec_PanelOf_l1] at hH
 have hlt18 := drop_ge hd16
 refine AW.seq (AW.region ?_)
 refine AO.pu T ?_
 refine AO.nil (AW.seq ?_)
 refine AW.condF' (b := decide ((k13 : Int) < (x11.length : Int))) rfl (rngF hlt18) ?_
 refine AW.exit ?_
 iterate 2 refine AW.seq ?_
 refine AW.region ?_
 refine AO.pu T ?_
 refine AO.val rfl rfl (len_row_ok T rfl rfl rfl rfl) ?_
 iterate 2 refine AO.pu T ?_
 refine AO.nil ?_
 refine AW.cond (b := decide ((v42.length : Int) < n)) rfl (fun hc => ?_) (fun hc => ?_)
 replace hH := condT hc hH
 refine AW.seq (AW.region ?_)
 iterate 2 refine AO.pu T ?_
 refine AO.nil (AW.ret ?_)
 have hR := someE hH; subst hR
 exact retQ.i [] rfl (.t (expLG_cons (.c .nil) (expLG_cons (.c .v) (expLG_nil))))
 replace hH := condF hc hH
 refine AW.skip ?_
 refine AW.seq (AW.region ?_)
 iterate 3 refine AO.pu T ?_
 refine AO.nil (AW.ret ?_)
 have hR := someE hH; subst hR
 exact retQ.i [4] rfl (.t (expLG_cons (.c (.rowR rfl)) (expLG_cons (.c .v) (expLG_nil))))
 rw [hd16, spec_PanelOf_l1] at hH
 have hlt18 := drop_lt hd16
 refine AW.seq (AW.region ?_)
 refine AO.pu T ?_
 refine AO.nil (AW.seq ?_)
 refine AW.condT' (b := decide ((k13 : Int) < (x11.length : Int))) rfl (rngT hlt18) ?_
 refine AW.skip ?_
 refine AW.seq ?_
 refine AW.block ?_
 refine AW.seq (AW.region ?_)
 refine AO.val rfl rfl (ix_row_ok T rfl rfl rfl rfl rfl rfl (getI_drop hd16)) ?_
 refine AO.val rfl rfl (load_row_ok T rfl rfl rfl rfl (getI_get (getI_drop hd16)) rfl rfl rfl) ?_
 refine AO.pu T ?_
 refine AO.nil (AW.seq ?_)
 obtain ⟨x44, hx45, hH⟩ := bindE hH
 obtain ⟨x46, hx47, hH⟩ := bindE hH
 refine AW.region ?_
 iterate 3 refine AO.pu T ?_
 refine AO.val rfl rfl (callV_ok rfl rfl rfl rfl (spec_paFind_ok _ _ _ (hx45)) rfl) ?_
 refine AO.val rfl rfl (ix_map_ok T rfl rfl rfl rfl rfl (hx47) rfl) ?_
 iterate 3 refine AO.pu T ?_
 refine AO.nil (AW.seq ?_)
 obtain ⟨x48, hx49, hH⟩ := bindE hH
 refine AW.region ?_
 refine AO.pu T ?_
 refine AO.val rfl rfl (len_row_ok T rfl rfl rfl rfl) ?_
 iterate 3 refine AO.pu T ?_
 iterate 2 refine AO.pureG T [] rfl trivial rfl rfl ?_
 refine AO.guard [62, 63] rfl ⟨fun h => h, fun h => h, trivial⟩ (fun hg => ix_row_ok T rfl rfl rfl rfl rfl rfl (optT hx49 hg)) rfl ?_
 refine AO.guard [64] rfl ⟨fun h => h, trivial⟩ (fun hg => load_row_ok T rfl rfl rfl rfl (getI_get (optT hx49 hg)) rfl rfl rfl) rfl ?_
 refine AO.pureG T [] rfl trivial rfl rfl ?_
 refine AO.pureG T [65, 66] rfl ⟨fun h => h, fun h => h, trivial⟩ rfl rfl ?_
 refine AO.val rfl rfl (pick_and rfl rfl rfl rfl) ?_
 refine AO.nil ?_
 refine AW.le (Le.ct 0 0 (σ' := (⟨[(1, .s (List.map encOfficial l)), (4, most), (5, n), (14, .R 1), (15, .R 4), (17, y14), (18, x46.club), (44, .R 2), (45, (x11.length : Int)), (46, (k13 : Int)), (68, .v (.bool (decide ((v42.length : Int) < n) && decide (x48 < most))))], [(1, .row 1 (List.map encInt v41)), (2, .row 1 (List.map encInt x11)), (4, .row 1 (List.map encInt v42))], 84, []⟩ : St))) ?_
 refine AW.cond (b := (decide ((v42.length : Int) < n) && decide (x48 < most))) rfl (fun hc => ?_) (fun hc => ?_)
 replace hH := condT hc hH
 refine AW.seq ?_
 obtain ⟨x50, hx51, hH⟩ := bindE hH
 refine AW.region ?_
 iterate 2 refine AO.pu T ?_
 refine AO.val rfl rfl (ix_row_ok T rfl rfl rfl rfl rfl rfl (hx51)) ?_
 refine AO.val rfl rfl (load_row_ok T rfl rfl rfl rfl (getI_get (hx51)) rfl rfl rfl) ?_
 refine AO.val rfl rfl (arw_ok rfl rfl rfl rfl) ?_
 refine AO.val rfl rfl (ix_row_ok T rfl rfl rfl rfl rfl rfl (hx51)) ?_
 refine AO.step rfl (store_row_ok T rfl rfl rfl rfl rfl (getI_get (hx51)) rfl rfl rfl rfl (u' := w64 (x50 + 1)) rfl rfl) ?_
 refine AO.nil ?_
 obtain ⟨x52, hx53, hH⟩ := bindE hH
 refine AW.region ?_
 iterate 2 refine AO.pu T ?_
 refine AO.step rfl (callM_ok rfl 5 rfl rfl (es := [.w 1 (v42.map encInt), .v (.int .i64 y14)]) (outs := [.u, .u]) (ids := [4]) (by exact expLG_cons (.c (.rowR rfl)) (expLG_cons (.c .v) (expLG_nil))) (by decide) (.inr (by exact (show ([] : List Nat).Nodup ∧ ∀ i ∈ ([] : List Nat), i ∈ ([4] : List Nat) from by decide))) (by rfl) (spec_l1Put_ok fuel _ _ _ (hx53)) rfl (by rfl) rfl) ?_
 refine AO.pu T ?_
 refine AO.nil ?_
 refine AW.region ?_
 refine AO.val rfl rfl (ar_ok rfl rfl rfl rfl (inI_succ hlt18 hb17)) ?_
 refine AO.pu T ?_
 refine AO.nil ?_
 refine ⟨(k13 + 1, (v41.set x46.club.toNat (w64 (x50 + 1))), x52), ⟨Nat.succ_le_of_lt hlt18, (by rw [drop_succ_of hd16]; exact hH)⟩, (by have := hlt18; dsimp only; omega), ?_⟩
 exact Le.ct 5 4
 replace hH := condF hc hH
 refine AW.skip ?_
 refine AW.region ?_
 refine AO.val rfl rfl (ar_ok rfl rfl rfl rfl (inI_succ hlt18 hb17)) ?_
 refine AO.pu T ?_
 refine AO.nil ?_
 refine ⟨(k13 + 1, v41, v42), ⟨Nat.succ_le_of_lt hlt18, (by rw [drop_succ_of hd16]; exact hH)⟩, (by have := hlt18; dsimp only; omega), ?_⟩
 exact Le.ct 0 0

def spec_DrawIsPanel_l1 (fuel : Nat) (x1 : (L1Cur × (List Official))) (x3 : (L1Cur × (List Int))) (x5 : (L1Cur × Int)) (x7 : (L1Cur × Int)) : List Official → Nat → List Int → Option (((List Official) × (List Int) × Int × Int × (List Int)))
  | [], k35, v46 =>
    some (x1.2, x3.2, x5.2, x7.2, v46)
  | y36 :: ys37, k35, v46 =>
    cond (decide ((v46.length : Int) < 10))
      ((spec_l1Put_p fuel v46 y36.number).bind fun x48 =>
      spec_DrawIsPanel_l1 fuel x1 x3 x5 x7 ys37 (k35 + 1) x48)
      (spec_DrawIsPanel_l1 fuel x1 x3 x5 x7 ys37 (k35 + 1) v46)
def spec_DrawIsPanel_l2 (fuel : Nat) (x1 : (L1Cur × (List Official))) (x3 : (L1Cur × (List Int))) (x5 : (L1Cur × Int)) (x7 : (L1Cur × Int)) : List Official → Nat → List Int → Option (((List Official) × (List Int) × Int × Int × (List Int)))
  | [], k68, v79 =>
    some (x1.2, x3.2, x5.2, x7.2, v79)
  | y69 :: ys70, k68, v79 =>
    cond (decide ((v79.length : Int) < 10))
      ((spec_l1Put_p fuel v79 y69.number).bind fun x81 =>
      spec_DrawIsPanel_l2 fuel x1 x3 x5 x7 ys70 (k68 + 1) x81)
      (spec_DrawIsPanel_l2 fuel x1 x3 x5 x7 ys70 (k68 + 1) v79)
def spec_DrawIsPanel_p (fuel : Nat) (code : List Int) : Option ((List Official) × (List Int) × Int × Int × (List Int)) :=
  (spec_l1Cur_officials_p fuel (L1Cur.mk code 0 0)).bind fun x1 =>
  (spec_l1Cur_conflicts_p fuel (L1Cur.mk x1.1.code x1.1.at' x1.1.seed)).bind fun x3 =>
  (spec_l1Cur_grade_p (L1Cur.mk x3.1.code x3.1.at' x3.1.seed)).bind fun x5 =>
  (spec_l1Cur_atMost_p (L1Cur.mk x5.1.code x5.1.at' x5.1.seed)).bind fun x7 =>
  (spec_l1Cur_pick_p (L1Cur.mk x7.1.code x7.1.at' x7.1.seed) 99).bind fun x9 =>
  (spec_l1Cur_pick_p (L1Cur.mk x9.1.code x9.1.at' x9.1.seed) 4).bind fun x11 =>
  (spec_PanelOf_p fuel [x9.2] x1.2 x3.2 x5.2 x7.2 (w64 (1 + x11.2))).bind fun x13 =>
  cond (!x13.2)
    ((spec_l1Cur_pick_p (L1Cur.mk x11.1.code x11.1.at' x11.1.seed) 99).bind fun x15 =>
    (spec_l1Cur_pick_p (L1Cur.mk x15.1.code x15.1.at' x15.1.seed) 6).bind fun x17 =>
    cond (x17.2 == 0)
      ((getI [x15.2] 0).bind fun x19 =>
      (spec_l1Cur_among_p (L1Cur.mk x17.1.code x17.1.at' x17.1.seed) [999, 1, x19]).bind fun x21 =>
      (need (fitsB 8 (([x15.2]).length + ([x21.2]).length))).bind fun u23 =>
      some (x1.2, x3.2, x5.2, x7.2, ([x15.2] ++ [x21.2])))
      (cond (x17.2 == 1)
        ((sliceLo [x15.2] 1).bind fun x25 =>
        some (x1.2, x3.2, x5.2, x7.2, x25))
        (cond (x17.2 == 2)
          (cond (decide ((x1.2.length : Int) > 0))
            ((spec_l1Cur_pick_p (L1Cur.mk x17.1.code x17.1.at' x17.1.seed) (x1.2.length : Int)).bind fun x27 =>
            (getI x1.2 x27.2).bind fun x29 =>
            (spec_l1Put_p fuel [x15.2] x29.number).bind fun x31 =>
            some (x1.2, x3.2, x5.2, x7.2, x31))
            (some (x1.2, x3.2, x5.2, x7.2, [x15.2])))
          (cond (x17.2 == 3)
            ((spec_l1Cur_one_p (L1Cur.mk x17.1.code x17.1.at' x17.1.seed) 3).bind fun x33 =>
            cond x33.2
              (spec_DrawIsPanel_l1 fuel x1 x3 x5 x7 x1.2 0 [])
              (some (x1.2, x3.2, x5.2, x7.2, [x15.2])))
            (some (x1.2, x3.2, x5.2, x7.2, [x15.2]))))))
    ((spec_l1Cur_pick_p (L1Cur.mk x11.1.code x11.1.at' x11.1.seed) 6).bind fun x50 =>
    cond (x50.2 == 0)
      ((getI x13.1 0).bind fun x52 =>
      (spec_l1Cur_among_p (L1Cur.mk x50.1.code x50.1.at' x50.1.seed) [999, 1, x52]).bind fun x54 =>
      (need (fitsB 8 (x13.1.length + ([x54.2]).length))).bind fun u56 =>
      some (x1.2, x3.2, x5.2, x7.2, (x13.1 ++ [x54.2])))
      (cond (x50.2 == 1)
        ((sliceLo x13.1 1).bind fun x58 =>
        some (x1.2, x3.2, x5.2, x7.2, x58))
        (cond (x50.2 == 2)
          (cond (decide ((x1.2.length : Int) > 0))
            ((spec_l1Cur_pick_p (L1Cur.mk x50.1.code x50.1.at' x50.1.seed) (x1.2.length : Int)).bind fun x60 =>
            (getI x1.2 x60.2).bind fun x62 =>
            (spec_l1Put_p fuel x13.1 x62.number).bind fun x64 =>
            some (x1.2, x3.2, x5.2, x7.2, x64))
            (some (x1.2, x3.2, x5.2, x7.2, x13.1)))
          (cond (x50.2 == 3)
            ((spec_l1Cur_one_p (L1Cur.mk x50.1.code x50.1.at' x50.1.seed) 3).bind fun x66 =>
            cond x66.2
              (spec_DrawIsPanel_l2 fuel x1 x3 x5 x7 x1.2 0 [])
              (some (x1.2, x3.2, x5.2, x7.2, x13.1)))
            (some (x1.2, x3.2, x5.2, x7.2, x13.1))))))
theorem spec_DrawIsPanel_ok (fuel : Nat) (code : List Int) (r : ((List Official) × (List Int) × Int × Int × (List Int))) (hH : spec_DrawIsPanel_p fuel code = some r) : SpecR Tryz.prog 24 [.s (List.map encInt_u8 code)] (.t [.w 3 (r.1.map encOfficial), .w 1 (r.2.1.map encInt), .v (.int .i64 r.2.2.1), .v (.int .i64 r.2.2.2.1), .s (r.2.2.2.2.map encInt)]) := by
 refine fn_ok T Tryz.func24 rfl (by decide) rfl ?_
 refine AW.seq (AW.region ?_)
 iterate 5 refine AO.pu T ?_
 refine AO.nil (AW.seq ?_)
 refine AW.region ?_
 refine AO.pu T ?_
 refine AO.pu T (d := .g [.s (List.map encInt_u8 code), (0 : Int), .v (.int .u64 0)]) ?_
 refine AO.step rfl (box_ok T rfl 1 rfl rfl rfl rfl) ?_
 refine AO.pu T ?_
 refine AO.nil (AW.seq ?_)
 obtain ⟨x1, hx2, hH⟩ := bindE hH
 obtain ⟨x3, hx4, hH⟩ := bindE hH
 obtain ⟨x5, hx6, hH⟩ := bindE hH
 obtain ⟨x7, hx8, hH⟩ := bindE hH
 refine AW.region ?_
 refine AO.pu T ?_
 refine AO.step rfl (callM_ok rfl 2 rfl rfl (es := [.pw (encL1Cur (L1Cur.mk code 0 0))]) (outs := [.pw (encL1Cur x1.1)]) (ids := [1]) (by exact expLG_cons (.c (.box rfl rfl)) (expLG_nil)) (by decide) (.inl (by rfl)) (by rfl) (spec_l1Cur_officials_ok fuel _ _ (hx2)) rfl (by rfl) rfl) ?_
 refine AO.pu T ?_
 refine AO.step rfl (callM_ok rfl 3 rfl rfl (es := [.pw (encL1Cur (L1Cur.mk x1.1.code x1.1.at' x1.1.seed))]) (outs := [.pw (encL1Cur x3.1)]) (ids := [1]) (by exact expLG_cons (.c (.box rfl rfl)) (expLG_nil)) (by decide) (.inl (by rfl)) (by rfl) (spec_l1Cur_conflicts_ok fuel _ _ (hx4)) rfl (by rfl) rfl) ?_
 refine AO.pu T ?_
 refine AO.step rfl (callM_ok rfl 4 rfl rfl (es := [.pw (encL1Cur (L1Cur.mk x3.1.code x3.1.at' x3.1.seed))]) (outs := [.pw (encL1Cur x5.1)]) (ids := [1]) (by exact expLG_cons (.c (.box rfl rfl)) (expLG_nil)) (by decide) (.inl (by rfl)) (by rfl) (spec_l1Cur_grade_ok _ _ (hx6)) rfl (by rfl) rfl) ?_
 refine AO.pu T ?_
 refine AO.step rfl (callM_ok rfl 4 rfl rfl (es := [.pw (encL1Cur (L1Cur.mk x5.1.code x5.1.at' x5.1.seed))]) (outs := [.pw (encL1Cur x7.1)]) (ids := [1]) (by exact expLG_cons (.c (.box rfl rfl)) (expLG_nil)) (by decide) (.inl (by rfl)) (by rfl) (spec_l1Cur_atMost_ok _ _ (hx8)) rfl (by rfl) rfl) ?_
 iterate 4 refine AO.pu T ?_
 refine AO.nil (AW.seq ?_)
 obtain ⟨x9, hx10, hH⟩ := bindE hH
 obtain ⟨x11, hx12, hH⟩ := bindE hH
 obtain ⟨x13, hx14, hH⟩ := bindE hH
 refine AW.region ?_
 refine AO.pu T ?_
 refine AO.step rfl (callM_ok rfl 4 rfl rfl (es := [.pw (encL1Cur (L1Cur.mk x7.1.code x7.1.at' x7.1.seed)), .v (.int .i64 99)]) (outs := [.pw (encL1Cur x9.1), .u]) (ids := [1]) (by exact expLG_cons (.c (.box rfl rfl)) (expLG_cons (.c .v) (expLG_nil))) (by decide) (.inl (by rfl)) (by rfl) (spec_l1Cur_pick_ok _ _ _ (hx10)) rfl (by rfl) rfl) ?_
 refine AO.step rfl (mk_map_ok T rfl 4 rfl rfl rfl rfl rfl (f := encInt) (l := [x9.2]) rfl rfl (fun _ => rfl) rfl rfl rfl rfl rfl) ?_
 iterate 5 refine AO.pu T ?_
 refine AO.step rfl (callM_ok rfl 5 rfl rfl (es := [.pw (encL1Cur (L1Cur.mk x9.1.code x9.1.at' x9.1.seed)), .v (.int .i64 4)]) (outs := [.pw (encL1Cur x11.1), .u]) (ids := [1]) (by exact expLG_cons (.c (.box rfl rfl)) (expLG_cons (.c .v) (expLG_nil))) (by decide) (.inl (by rfl)) (by rfl) (spec_l1Cur_pick_ok _ _ _ (hx12)) rfl (by rfl) rfl) ?_
 refine AO.val rfl rfl (arw_ok rfl rfl rfl rfl) ?_
 refine AO.step rfl (callL_ok rfl 5 rfl rfl (es := [.s (List.map encInt [x9.2]), .s (List.map encOfficial x1.2), .s (List.map encInt x3.2), x5.2, x7.2, w64 (1 + x11.2)]) (by exact ⟨(.rowR rfl (.map fun y => .vs rfl)), (.rowR rfl (.map fun y => .vs rfl)), (.rowR rfl (.map fun y => .vs rfl)), .free rfl, .free rfl, .free rfl, trivial⟩) (spec_PanelOf_ok fuel _ _ _ _ _ _ _ (hx14)) (zfree_t (zfl (.cons (zfree_map (fun y => (.cons (zfree_v _) .nil))) (.cons (zfree_v _) .nil)))) rfl rfl rfl) ?_
 iterate 5 refine AO.pu T ?_
 refine AO.nil ?_
 refine AW.le (Le.ct 0 0 (σ' := (⟨[(7, .p 1 0), (8, .R 2), (9, .R 3), (10, x5.2), (11, x7.2), (12, .R 5), (13, .v (.bool x13.2))], [(1, .box [.s (List.map encInt_u8 x11.1.code), x11.1.at', .v (.int .u64 x11.1.seed)]), (2, .row 3 (List.map encOfficial x1.2)), (3, .row 1 (List.map encInt x3.2)), (5, .row 1 (List.map encInt x13.1))], 101, []⟩ : St))) ?_
 iterate 2 refine AW.seq ?_
 refine AW.region ?_
 iterate 2 refine AO.pu T ?_
 refine AO.nil ?_
 refine AW.cond (b := (!x13.2)) rfl (fun hc => ?_) (fun hc => ?_)
 replace hH := condT hc hH
 obtain ⟨x15, hx16, hH⟩ := bindE hH
 refine AW.region ?_
 refine AO.pu T ?_
 refine AO.step rfl (callM_ok rfl 6 rfl rfl (es := [.pw (encL1Cur (L1Cur.mk x11.1.code x11.1.at' x11.1.seed)), .v (.int .i64 99)]) (outs := [.pw (encL1Cur x15.1), .u]) (ids := [1]) (by exact expLG_cons (.c (.box rfl rfl)) (expLG_cons (.c .v) (expLG_nil))) (by decide) (.inl (by rfl)) (by rfl) (spec_l1Cur_pick_ok _ _ _ (hx16)) rfl (by rfl) rfl) ?_
 refine AO.step rfl (mk_map_ok T rfl 6 rfl rfl rfl rfl rfl (f := encInt) (l := [x15.2]) rfl rfl (fun _ => rfl) rfl rfl rfl rfl rfl) ?_
 refine AO.pu T ?_
 refine AO.nil ?_
 iterate 2 refine AW.seq ?_
 obtain ⟨x17, hx18, hH⟩ := bindE hH
 refine AW.region ?_
 refine AO.pu T ?_
 refine AO.step rfl (callM_ok rfl 7 rfl rfl (es := [.pw (encL1Cur (L1Cur.mk x15.1.code x15.1.at' x15.1.seed)), .v (.int .i64 6)]) (outs := [.pw (encL1Cur x17.1), .u]) (ids := [1]) (by exact expLG_cons (.c (.box rfl rfl)) (expLG_cons (.c .v) (expLG_nil))) (by decide) (.inl (by rfl)) (by rfl) (spec_l1Cur_pick_ok _ _ _ (hx18)) rfl (by rfl) rfl) ?_
 refine AO.nil ?_
 refine AW.block ?_
 refine AW.seq (AW.region ?_)
 iterate 2 refine AO.pu T ?_
 refine AO.nil ?_
 refine AW.cond (b := (x17.2 == 0)) rfl (fun hc => ?_) (fun hc => ?_)
 replace hH := condT hc hH
 obtain ⟨x19, hx20, hH⟩ := bindE hH
 obtain ⟨x21, hx22, hH⟩ := bindE hH
 obtain ⟨u23, hx24, hH⟩ := bindE hH
 refine AW.region ?_
 iterate 3 refine AO.pu T ?_
 refine AO.val rfl rfl (ix_row_ok T rfl rfl rfl rfl rfl rfl (hx20)) ?_
 refine AO.val rfl rfl (load_row_ok T rfl rfl rfl rfl (getI_get (hx20)) rfl rfl rfl) ?_
 refine AO.step rfl (mk_map_ok T rfl 7 rfl rfl rfl rfl rfl (f := encInt) (l := [999, 1, x19]) rfl rfl (fun _ => rfl) rfl rfl rfl rfl rfl) ?_
 refine AO.le (Le.freezeM 7 (g := encInt) rfl (fun y => .vs rfl)) ?_
 refine AO.step rfl (callM_ok rfl 8 rfl rfl (es := [.pw (encL1Cur (L1Cur.mk x17.1.code x17.1.at' x17.1.seed)), .s ([999, 1, x19].map encInt)]) (outs := [.pw (encL1Cur x21.1), .u]) (ids := [1]) (by exact expLG_cons (.c (.box rfl rfl)) (expLG_cons (.c .s) (expLG_nil))) (by decide) (.inl (by rfl)) (by rfl) (spec_l1Cur_among_ok _ _ _ (hx22)) rfl (by rfl) rfl) ?_
 refine AO.step rfl (mk_map_ok T rfl 8 rfl rfl rfl rfl rfl (f := encInt) (l := [x21.2]) rfl rfl (fun _ => rfl) rfl rfl rfl rfl rfl) ?_
 refine AO.step rfl (app_rv_map T rfl 9 rfl rfl rfl rfl rfl (by decide) rfl rfl rfl rfl (fun _ => rfl) (needT (hx24)) rfl rfl) ?_
 refine AO.pu T ?_
 refine AO.nil (AW.seq ?_)
 refine AW.region ?_
 iterate 10 refine AO.pu T ?_
 refine AO.nil ?_
 refine AW.le (Le.ct 0 0 (σ' := (⟨[(2, .R 2), (3, .R 3), (4, x5.2), (5, x7.2), (6, .R 9)], [(2, .row 3 (List.map encOfficial x1.2)), (3, .row 1 (List.map encInt x3.2)), (9, .row 1 (List.map encInt ([x15.2] ++ [x21.2])))], 101, []⟩ : St))) ?_
 refine AW.le (Le.freezeM 9 (g := encInt) rfl (fun y => .vs rfl)) ?_
 refine AW.ret ?_
 have hR := someE hH; subst hR
 exact retQ.i [2, 3] rfl (.t (expLG_cons (.c (.rowR rfl)) (expLG_cons (.c (.rowR rfl)) (expLG_cons (.c .v) (expLG_cons (.c .v) (expLG_cons (.c .s) (expLG_nil)))))))
 replace hH := condF hc hH
 refine AW.seq (AW.region ?_)
 iterate 2 refine AO.pu T ?_
 refine AO.nil ?_
 refine AW.cond (b := (x17.2 == 1)) rfl (fun hc => ?_) (fun hc => ?_)
 replace hH := condT hc hH
 obtain ⟨x25, hx26, hH⟩ := bindE hH
 refine AW.le (Le.freezeM 6 (g := encInt) rfl (fun y => .vs rfl)) ?_
 refine AW.region ?_
 refine AO.pu T ?_
 refine AO.val rfl rfl (slice_lo_map_ok T rfl rfl rfl rfl rfl (hx26) (fun _ => rfl)) ?_
 refine AO.pu T ?_
 refine AO.nil (AW.seq ?_)
 refine AW.region ?_
 iterate 10 refine AO.pu T ?_
 refine AO.nil ?_
 refine AW.le (Le.ct 0 0 (σ' := (⟨[(2, .R 2), (3, .R 3), (4, x5.2), (5, x7.2), (6, .s (List.map encInt x25))], [(2, .row 3 (List.map encOfficial x1.2)), (3, .row 1 (List.map encInt x3.2))], 101, []⟩ : St))) ?_
 refine AW.ret ?_
 have hR := someE hH; subst hR
 exact retQ.i [2, 3] rfl (.t (expLG_cons (.c (.rowR rfl)) (expLG_cons (.c (.rowR rfl)) (expLG_cons (.c .v) (expLG_cons (.c .v) (expLG_cons (.c .s) (expLG_nil)))))))
 replace hH := condF hc hH
 refine AW.seq (AW.region ?_)
 iterate 2 refine AO.pu T ?_
 refine AO.nil ?_
 refine AW.cond (b := (x17.2 == 2)) rfl (fun hc => ?_) (fun hc => ?_)
 replace hH := condT hc hH
 refine AW.seq (AW.region ?_)
 refine AO.pu T ?_
 refine AO.val rfl rfl (len_row_ok T rfl rfl rfl rfl) ?_
 refine AO.pu T ?_
 refine AO.nil ?_
 refine AW.cond (b := decide ((x1.2.length : Int) > 0)) rfl (fun hc => ?_) (fun hc => ?_)
 replace hH := condT hc hH
 obtain ⟨x27, hx28, hH⟩ := bindE hH
 obtain ⟨x29, hx30, hH⟩ := bindE hH
 obtain ⟨x31, hx32, hH⟩ := bindE hH
 refine AW.region ?_
 iterate 4 refine AO.pu T ?_
 refine AO.val rfl rfl (len_row_ok T rfl rfl rfl rfl) ?_
 refine AO.step rfl (callM_ok rfl 10 rfl rfl (es := [.pw (encL1Cur (L1Cur.mk x17.1.code x17.1.at' x17.1.seed)), .v (.int .i64 (x1.2.length : Int))]) (outs := [.pw (encL1Cur x27.1), .u]) (ids := [1]) (by exact expLG_cons (.c (.box rfl rfl)) (expLG_cons (.c .v) (expLG_nil))) (by decide) (.inl (by rfl)) (by rfl) (spec_l1Cur_pick_ok _ _ _ (hx28)) rfl (by rfl) rfl) ?_
 refine AO.val rfl rfl (ix_row_ok T rfl rfl rfl rfl rfl rfl (hx30)) ?_
 refine AO.pu T ?_
 refine AO.val rfl rfl (load_row_ok T rfl rfl rfl rfl (getI_get (hx30)) rfl rfl rfl) ?_
 refine AO.step rfl (callM_ok rfl 10 rfl rfl (es := [.w 1 ([x15.2].map encInt), .v (.int .i64 x29.number)]) (outs := [.u, .u]) (ids := [6]) (by exact expLG_cons (.c (.rowR rfl)) (expLG_cons (.c .v) (expLG_nil))) (by decide) (.inr (by exact (show ([] : List Nat).Nodup ∧ ∀ i ∈ ([] : List Nat), i ∈ ([6] : List Nat) from by decide))) (by rfl) (spec_l1Put_ok fuel _ _ _ (hx32)) rfl (by rfl) rfl) ?_
 refine AO.pu T ?_
 refine AO.nil ?_
 refine AW.le (Le.ct 0 0 (σ' := (⟨[(8, .R 2), (9, .R 3), (10, x5.2), (11, x7.2), (12, .R 10)], [(2, .row 3 (List.map encOfficial x1.2)), (3, .row 1 (List.map encInt x3.2)), (10, .row 1 (List.map encInt x31))], 101, []⟩ : St))) ?_
 refine AW.seq (AW.region ?_)
 iterate 10 refine AO.pu T ?_
 refine AO.nil ?_
 refine AW.le (Le.freezeM 10 (g := encInt) rfl (fun y => .vs rfl)) ?_
 refine AW.ret ?_
 have hR := someE hH; subst hR
 exact retQ.i [2, 3] rfl (.t (expLG_cons (.c (.rowR rfl)) (expLG_cons (.c (.rowR rfl)) (expLG_cons (.c .v) (expLG_cons (.c .v) (expLG_cons (.c .s) (expLG_nil)))))))
 replace hH := condF hc hH
 refine AW.skip ?_
 refine AW.seq (AW.region ?_)
 iterate 10 refine AO.pu T ?_
 refine AO.nil ?_
 refine AW.le (Le.ct 0 0 (σ' := (⟨[(2, .R 2), (3, .R 3), (4, x5.2), (5, x7.2), (6, .R 6)], [(2, .row 3 (List.map encOfficial x1.2)), (3, .row 1 (List.map encInt x3.2)), (6, .row 1 (List.map encInt [x15.2]))], 101, []⟩ : St))) ?_
 refine AW.le (Le.freezeM 6 (g := encInt) rfl (fun y => .vs rfl)) ?_
 refine AW.ret ?_
 have hR := someE hH; subst hR
 exact retQ.i [2, 3] rfl (.t (expLG_cons (.c (.rowR rfl)) (expLG_cons (.c (.rowR rfl)) (expLG_cons (.c .v) (expLG_cons (.c .v) (expLG_cons (.c .s) (expLG_nil)))))))
 replace hH := condF hc hH
 refine AW.seq (AW.region ?_)
 iterate 2 refine AO.pu T ?_
 refine AO.nil ?_
 refine AW.cond (b := (x17.2 == 3)) rfl (fun hc => ?_) (fun hc => ?_)
 replace hH := condT hc hH
 refine AW.seq ?_
 obtain ⟨x33, hx34, hH⟩ := bindE hH
 refine AW.region ?_
 refine AO.pu T ?_
 refine AO.step rfl (callM_ok rfl 11 rfl rfl (es := [.pw (encL1Cur (L1Cur.mk x17.1.code x17.1.at' x17.1.seed)), .v (.int .i64 3)]) (outs := [.pw (encL1Cur x33.1), .u]) (ids := [1]) (by exact expLG_cons (.c (.box rfl rfl)) (expLG_cons (.c .v) (expLG_nil))) (by decide) (.inl (by rfl)) (by rfl) (spec_l1Cur_one_ok _ _ _ (hx34)) rfl (by rfl) rfl) ?_
 refine AO.nil ?_
 refine AW.cond (b := x33.2) rfl (fun hc => ?_) (fun hc => ?_)
 replace hH := condT hc hH
 refine AW.seq (AW.region ?_)
 refine AO.pu T ?_
 refine AO.nil (AW.seq ?_)
 refine AW.region ?_
 refine AO.pu T ?_
 refine AO.val rfl rfl (len_row_ok T rfl rfl rfl rfl) ?_
 refine AO.pu T ?_
 refine AO.nil ?_
 refine AW.block ?_
 refine AW.loopS (fun s : Nat × (List Int) => (⟨[(8, .R 2), (9, .R 3), (10, x5.2), (11, x7.2), (12, .R 14), (82, .R 2), (83, (x1.2.length : Int)), (84, (s.1 : Int))], [(2, .row 3 (List.map encOfficial x1.2)), (3, .row 1 (List.map encInt x3.2)), (14, .row 1 (List.map encInt s.2))], 101, []⟩ : St)) (fun s => s.1 ≤ x1.2.length ∧ spec_DrawIsPanel_l1 fuel x1 x3 x5 x7 (x1.2.drop s.1) s.1 s.2 = some r) (fun s => x1.2.length - s.1) (0, []) ⟨Nat.zero_le _, hH⟩ ?_ ?_
 refine Le.trans (Le.void 12 14 1 rfl rfl) ?_
 exact Le.ct 0 0
 rintro ⟨k35, v46⟩ ⟨hk, hH⟩
 replace hH : spec_DrawIsPanel_l1 fuel x1 x3 x5 x7 (x1.2.drop k35) k35 v46 = some r := hH
 try dsimp only
 refine AW.boundR (id := 2) (l := x1.2) rfl (fun hb39 => ?_)
 rcases hd38 : x1.2.drop k35 with _ | ⟨y36, ys37⟩
 rw [hd38, spec_DrawIsPanel_l1] at hH
 have hlt40 := drop_ge hd38
 refine AW.seq (AW.region ?_)
 refine AO.pu T ?_
 refine AO.nil (AW.seq ?_)
 refine AW.condF' (b := decide ((k35 : Int) < (x1.2.length : Int))) rfl (rngF hlt40) ?_
 refine AW.exit ?_
 refine AW.seq (AW.region ?_)
 iterate 10 refine AO.pu T ?_
 refine AO.nil ?_
 refine AW.le (Le.freezeM 14 (g := encInt) rfl (fun y => .vs rfl)) ?_
 refine AW.ret ?_
 have hR := someE hH; subst hR
 exact retQ.i [2, 3] rfl (.t (expLG_cons (.c (.rowR rfl)) (expLG_cons (.c (.rowR rfl)) (expLG_cons (.c .v) (expLG_cons (.c .v) (expLG_cons (.c .s) (expLG_nil)))))))
 rw [hd38, spec_DrawIsPanel_l1] at hH
 have hlt40 := drop_lt hd38
 refine AW.seq (AW.region ?_)
 refine AO.pu T ?_
 refine AO.nil (AW.seq ?_)
 refine AW.condT' (b := decide ((k35 : Int) < (x1.2.length : Int))) rfl (rngT hlt40) ?_
 refine AW.skip ?_
 refine AW.seq ?_
 refine AW.block ?_
 refine AW.seq (AW.region ?_)
 refine AO.val rfl rfl (ix_row_ok T rfl rfl rfl rfl rfl rfl (getI_drop hd38)) ?_
 refine AO.val rfl rfl (load_row_ok T rfl rfl rfl rfl (getI_get (getI_drop hd38)) rfl rfl rfl) ?_
 refine AO.step rfl (alloc_ok T rfl 15 rfl rfl rfl rfl rfl) ?_
 refine AO.se T [y36.number, y36.club, y36.level] ?_
 refine AO.nil (AW.seq ?_)
 refine AW.region ?_
 refine AO.pu T ?_
 refine AO.val rfl rfl (len_row_ok T rfl rfl rfl rfl) ?_
 refine AO.pu T ?_
 refine AO.nil ?_
 refine AW.cond (b := decide ((v46.length : Int) < 10)) rfl (fun hc => ?_) (fun hc => ?_)
 replace hH := condT hc hH
 obtain ⟨x48, hx49, hH⟩ := bindE hH
 refine AW.region ?_
 iterate 3 refine AO.pu T ?_
 refine AO.step rfl (callM_ok rfl 16 rfl rfl (es := [.w 1 (v46.map encInt), .v (.int .i64 y36.number)]) (outs := [.u, .u]) (ids := [14]) (by exact expLG_cons (.c (.rowR rfl)) (expLG_cons (.c .v) (expLG_nil))) (by decide) (.inr (by exact (show ([] : List Nat).Nodup ∧ ∀ i ∈ ([] : List Nat), i ∈ ([14] : List Nat) from by decide))) (by rfl) (spec_l1Put_ok fuel _ _ _ (hx49)) rfl (by rfl) rfl) ?_
 refine AO.pu T ?_
 refine AO.nil ?_
 refine AW.region ?_
 refine AO.val rfl rfl (ar_ok rfl rfl rfl rfl (inI_succ hlt40 hb39)) ?_
 refine AO.pu T ?_
 refine AO.nil ?_
 refine ⟨(k35 + 1, x48), ⟨Nat.succ_le_of_lt hlt40, (by rw [drop_succ_of hd38]; exact hH)⟩, (by have := hlt40; dsimp only; omega), ?_⟩
 exact Le.ct 16 14
 replace hH := condF hc hH
 refine AW.skip ?_
 refine AW.region ?_
 refine AO.val rfl rfl (ar_ok rfl rfl rfl rfl (inI_succ hlt40 hb39)) ?_
 refine AO.pu T ?_
 refine AO.nil ?_
 refine ⟨(k35 + 1, v46), ⟨Nat.succ_le_of_lt hlt40, (by rw [drop_succ_of hd38]; exact hH)⟩, (by have := hlt40; dsimp only; omega), ?_⟩
 exact Le.ct 0 0
 replace hH := condF hc hH
 refine AW.skip ?_
 refine AW.seq (AW.region ?_)
 iterate 10 refine AO.pu T ?_
 refine AO.nil ?_
 refine AW.le (Le.ct 0 0 (σ' := (⟨[(2, .R 2), (3, .R 3), (4, x5.2), (5, x7.2), (6, .R 6)], [(2, .row 3 (List.map encOfficial x1.2)), (3, .row 1 (List.map encInt x3.2)), (6, .row 1 (List.map encInt [x15.2]))], 101, []⟩ : St))) ?_
 refine AW.le (Le.freezeM 6 (g := encInt) rfl (fun y => .vs rfl)) ?_
 refine AW.ret ?_
 have hR := someE hH; subst hR
 exact retQ.i [2, 3] rfl (.t (expLG_cons (.c (.rowR rfl)) (expLG_cons (.c (.rowR rfl)) (expLG_cons (.c .v) (expLG_cons (.c .v) (expLG_cons (.c .s) (expLG_nil)))))))
 replace hH := condF hc hH
 refine AW.skip ?_
 refine AW.seq (AW.region ?_)
 iterate 10 refine AO.pu T ?_
 refine AO.nil ?_
 refine AW.le (Le.ct 0 0 (σ' := (⟨[(2, .R 2), (3, .R 3), (4, x5.2), (5, x7.2), (6, .R 6)], [(2, .row 3 (List.map encOfficial x1.2)), (3, .row 1 (List.map encInt x3.2)), (6, .row 1 (List.map encInt [x15.2]))], 101, []⟩ : St))) ?_
 refine AW.le (Le.freezeM 6 (g := encInt) rfl (fun y => .vs rfl)) ?_
 refine AW.ret ?_
 have hR := someE hH; subst hR
 exact retQ.i [2, 3] rfl (.t (expLG_cons (.c (.rowR rfl)) (expLG_cons (.c (.rowR rfl)) (expLG_cons (.c .v) (expLG_cons (.c .v) (expLG_cons (.c .s) (expLG_nil)))))))
 replace hH := condF hc hH
 refine AW.skip ?_
 iterate 2 refine AW.seq ?_
 obtain ⟨x50, hx51, hH⟩ := bindE hH
 refine AW.region ?_
 refine AO.pu T ?_
 refine AO.step rfl (callM_ok rfl 17 rfl rfl (es := [.pw (encL1Cur (L1Cur.mk x11.1.code x11.1.at' x11.1.seed)), .v (.int .i64 6)]) (outs := [.pw (encL1Cur x50.1), .u]) (ids := [1]) (by exact expLG_cons (.c (.box rfl rfl)) (expLG_cons (.c .v) (expLG_nil))) (by decide) (.inl (by rfl)) (by rfl) (spec_l1Cur_pick_ok _ _ _ (hx51)) rfl (by rfl) rfl) ?_
 refine AO.nil ?_
 refine AW.block ?_
 refine AW.seq (AW.region ?_)
 iterate 2 refine AO.pu T ?_
 refine AO.nil ?_
 refine AW.cond (b := (x50.2 == 0)) rfl (fun hc => ?_) (fun hc => ?_)
 replace hH := condT hc hH
 obtain ⟨x52, hx53, hH⟩ := bindE hH
 obtain ⟨x54, hx55, hH⟩ := bindE hH
 obtain ⟨u56, hx57, hH⟩ := bindE hH
 refine AW.region ?_
 iterate 3 refine AO.pu T ?_
 refine AO.val rfl rfl (ix_row_ok T rfl rfl rfl rfl rfl rfl (hx53)) ?_
 refine AO.val rfl rfl (load_row_ok T rfl rfl rfl rfl (getI_get (hx53)) rfl rfl rfl) ?_
 refine AO.step rfl (mk_map_ok T rfl 17 rfl rfl rfl rfl rfl (f := encInt) (l := [999, 1, x52]) rfl rfl (fun _ => rfl) rfl rfl rfl rfl rfl) ?_
 refine AO.le (Le.freezeM 17 (g := encInt) rfl (fun y => .vs rfl)) ?_
 refine AO.step rfl (callM_ok rfl 18 rfl rfl (es := [.pw (encL1Cur (L1Cur.mk x50.1.code x50.1.at' x50.1.seed)), .s ([999, 1, x52].map encInt)]) (outs := [.pw (encL1Cur x54.1), .u]) (ids := [1]) (by exact expLG_cons (.c (.box rfl rfl)) (expLG_cons (.c .s) (expLG_nil))) (by decide) (.inl (by rfl)) (by rfl) (spec_l1Cur_among_ok _ _ _ (hx55)) rfl (by rfl) rfl) ?_
 refine AO.step rfl (mk_map_ok T rfl 18 rfl rfl rfl rfl rfl (f := encInt) (l := [x54.2]) rfl rfl (fun _ => rfl) rfl rfl rfl rfl rfl) ?_
 refine AO.step rfl (app_rv_map T rfl 19 rfl rfl rfl rfl rfl (by decide) rfl rfl rfl rfl (fun _ => rfl) (needT (hx57)) rfl rfl) ?_
 refine AO.pu T ?_
 refine AO.nil (AW.seq ?_)
 refine AW.region ?_
 iterate 10 refine AO.pu T ?_
 refine AO.nil ?_
 refine AW.le (Le.ct 0 0 (σ' := (⟨[(2, .R 2), (3, .R 3), (4, x5.2), (5, x7.2), (6, .R 19)], [(2, .row 3 (List.map encOfficial x1.2)), (3, .row 1 (List.map encInt x3.2)), (19, .row 1 (List.map encInt (x13.1 ++ [x54.2])))], 101, []⟩ : St))) ?_
 refine AW.le (Le.freezeM 19 (g := encInt) rfl (fun y => .vs rfl)) ?_
 refine AW.ret ?_
 have hR := someE hH; subst hR
 exact retQ.i [2, 3] rfl (.t (expLG_cons (.c (.rowR rfl)) (expLG_cons (.c (.rowR rfl)) (expLG_cons (.c .v) (expLG_cons (.c .v) (expLG_cons (.c .s) (expLG_nil)))))))
 replace hH := condF hc hH
 refine AW.seq (AW.region ?_)
 iterate 2 refine AO.pu T ?_
 refine AO.nil ?_
 refine AW.cond (b := (x50.2 == 1)) rfl (fun hc => ?_) (fun hc => ?_)
 replace hH := condT hc hH
 obtain ⟨x58, hx59, hH⟩ := bindE hH
 refine AW.le (Le.freezeM 5 (g := encInt) rfl (fun y => .vs rfl)) ?_
 refine AW.region ?_
 refine AO.pu T ?_
 refine AO.val rfl rfl (slice_lo_map_ok T rfl rfl rfl rfl rfl (hx59) (fun _ => rfl)) ?_
 refine AO.pu T ?_
 refine AO.nil (AW.seq ?_)
 refine AW.region ?_
 iterate 10 refine AO.pu T ?_
 refine AO.nil (AW.ret ?_)
 have hR := someE hH; subst hR
 exact retQ.i [2, 3] rfl (.t (expLG_cons (.c (.rowR rfl)) (expLG_cons (.c (.rowR rfl)) (expLG_cons (.c .v) (expLG_cons (.c .v) (expLG_cons (.c .s) (expLG_nil)))))))
 replace hH := condF hc hH
 refine AW.seq (AW.region ?_)
 iterate 2 refine AO.pu T ?_
 refine AO.nil ?_
 refine AW.cond (b := (x50.2 == 2)) rfl (fun hc => ?_) (fun hc => ?_)
 replace hH := condT hc hH
 refine AW.seq (AW.region ?_)
 refine AO.pu T ?_
 refine AO.val rfl rfl (len_row_ok T rfl rfl rfl rfl) ?_
 refine AO.pu T ?_
 refine AO.nil ?_
 refine AW.cond (b := decide ((x1.2.length : Int) > 0)) rfl (fun hc => ?_) (fun hc => ?_)
 replace hH := condT hc hH
 obtain ⟨x60, hx61, hH⟩ := bindE hH
 obtain ⟨x62, hx63, hH⟩ := bindE hH
 obtain ⟨x64, hx65, hH⟩ := bindE hH
 refine AW.region ?_
 iterate 4 refine AO.pu T ?_
 refine AO.val rfl rfl (len_row_ok T rfl rfl rfl rfl) ?_
 refine AO.step rfl (callM_ok rfl 20 rfl rfl (es := [.pw (encL1Cur (L1Cur.mk x50.1.code x50.1.at' x50.1.seed)), .v (.int .i64 (x1.2.length : Int))]) (outs := [.pw (encL1Cur x60.1), .u]) (ids := [1]) (by exact expLG_cons (.c (.box rfl rfl)) (expLG_cons (.c .v) (expLG_nil))) (by decide) (.inl (by rfl)) (by rfl) (spec_l1Cur_pick_ok _ _ _ (hx61)) rfl (by rfl) rfl) ?_
 refine AO.val rfl rfl (ix_row_ok T rfl rfl rfl rfl rfl rfl (hx63)) ?_
 refine AO.pu T ?_
 refine AO.val rfl rfl (load_row_ok T rfl rfl rfl rfl (getI_get (hx63)) rfl rfl rfl) ?_
 refine AO.step rfl (callM_ok rfl 20 rfl rfl (es := [.w 1 (x13.1.map encInt), .v (.int .i64 x62.number)]) (outs := [.u, .u]) (ids := [5]) (by exact expLG_cons (.c (.rowR rfl)) (expLG_cons (.c .v) (expLG_nil))) (by decide) (.inr (by exact (show ([] : List Nat).Nodup ∧ ∀ i ∈ ([] : List Nat), i ∈ ([5] : List Nat) from by decide))) (by rfl) (spec_l1Put_ok fuel _ _ _ (hx65)) rfl (by rfl) rfl) ?_
 refine AO.pu T ?_
 refine AO.nil ?_
 refine AW.le (Le.ct 0 0 (σ' := (⟨[(8, .R 2), (9, .R 3), (10, x5.2), (11, x7.2), (12, .R 20)], [(2, .row 3 (List.map encOfficial x1.2)), (3, .row 1 (List.map encInt x3.2)), (20, .row 1 (List.map encInt x64))], 101, []⟩ : St))) ?_
 refine AW.seq (AW.region ?_)
 iterate 10 refine AO.pu T ?_
 refine AO.nil ?_
 refine AW.le (Le.freezeM 20 (g := encInt) rfl (fun y => .vs rfl)) ?_
 refine AW.ret ?_
 have hR := someE hH; subst hR
 exact retQ.i [2, 3] rfl (.t (expLG_cons (.c (.rowR rfl)) (expLG_cons (.c (.rowR rfl)) (expLG_cons (.c .v) (expLG_cons (.c .v) (expLG_cons (.c .s) (expLG_nil)))))))
 replace hH := condF hc hH
 refine AW.skip ?_
 refine AW.seq (AW.region ?_)
 iterate 10 refine AO.pu T ?_
 refine AO.nil ?_
 refine AW.le (Le.freezeM 5 (g := encInt) rfl (fun y => .vs rfl)) ?_
 refine AW.ret ?_
 have hR := someE hH; subst hR
 exact retQ.i [2, 3] rfl (.t (expLG_cons (.c (.rowR rfl)) (expLG_cons (.c (.rowR rfl)) (expLG_cons (.c .v) (expLG_cons (.c .v) (expLG_cons (.c .s) (expLG_nil)))))))
 replace hH := condF hc hH
 refine AW.seq (AW.region ?_)
 iterate 2 refine AO.pu T ?_
 refine AO.nil ?_
 refine AW.cond (b := (x50.2 == 3)) rfl (fun hc => ?_) (fun hc => ?_)
 replace hH := condT hc hH
 refine AW.seq ?_
 obtain ⟨x66, hx67, hH⟩ := bindE hH
 refine AW.region ?_
 refine AO.pu T ?_
 refine AO.step rfl (callM_ok rfl 21 rfl rfl (es := [.pw (encL1Cur (L1Cur.mk x50.1.code x50.1.at' x50.1.seed)), .v (.int .i64 3)]) (outs := [.pw (encL1Cur x66.1), .u]) (ids := [1]) (by exact expLG_cons (.c (.box rfl rfl)) (expLG_cons (.c .v) (expLG_nil))) (by decide) (.inl (by rfl)) (by rfl) (spec_l1Cur_one_ok _ _ _ (hx67)) rfl (by rfl) rfl) ?_
 refine AO.nil ?_
 refine AW.cond (b := x66.2) rfl (fun hc => ?_) (fun hc => ?_)
 replace hH := condT hc hH
 refine AW.seq (AW.region ?_)
 refine AO.pu T ?_
 refine AO.nil (AW.seq ?_)
 refine AW.region ?_
 refine AO.pu T ?_
 refine AO.val rfl rfl (len_row_ok T rfl rfl rfl rfl) ?_
 refine AO.pu T ?_
 refine AO.nil ?_
 refine AW.block ?_
 refine AW.loopS (fun s : Nat × (List Int) => (⟨[(8, .R 2), (9, .R 3), (10, x5.2), (11, x7.2), (12, .R 24), (82, .R 2), (83, (x1.2.length : Int)), (84, (s.1 : Int))], [(2, .row 3 (List.map encOfficial x1.2)), (3, .row 1 (List.map encInt x3.2)), (24, .row 1 (List.map encInt s.2))], 101, []⟩ : St)) (fun s => s.1 ≤ x1.2.length ∧ spec_DrawIsPanel_l2 fuel x1 x3 x5 x7 (x1.2.drop s.1) s.1 s.2 = some r) (fun s => x1.2.length - s.1) (0, []) ⟨Nat.zero_le _, hH⟩ ?_ ?_
 refine Le.trans (Le.void 12 24 1 rfl rfl) ?_
 exact Le.ct 0 0
 rintro ⟨k68, v79⟩ ⟨hk, hH⟩
 replace hH : spec_DrawIsPanel_l2 fuel x1 x3 x5 x7 (x1.2.drop k68) k68 v79 = some r := hH
 try dsimp only
 refine AW.boundR (id := 2) (l := x1.2) rfl (fun hb72 => ?_)
 rcases hd71 : x1.2.drop k68 with _ | ⟨y69, ys70⟩
 rw [hd71, spec_DrawIsPanel_l2] at hH
 have hlt73 := drop_ge hd71
 refine AW.seq (AW.region ?_)
 refine AO.pu T ?_
 refine AO.nil (AW.seq ?_)
 refine AW.condF' (b := decide ((k68 : Int) < (x1.2.length : Int))) rfl (rngF hlt73) ?_
 refine AW.exit ?_
 refine AW.seq (AW.region ?_)
 iterate 10 refine AO.pu T ?_
 refine AO.nil ?_
 refine AW.le (Le.freezeM 24 (g := encInt) rfl (fun y => .vs rfl)) ?_
 refine AW.ret ?_
 have hR := someE hH; subst hR
 exact retQ.i [2, 3] rfl (.t (expLG_cons (.c (.rowR rfl)) (expLG_cons (.c (.rowR rfl)) (expLG_cons (.c .v) (expLG_cons (.c .v) (expLG_cons (.c .s) (expLG_nil)))))))
 rw [hd71, spec_DrawIsPanel_l2] at hH
 have hlt73 := drop_lt hd71
 refine AW.seq (AW.region ?_)
 refine AO.pu T ?_
 refine AO.nil (AW.seq ?_)
 refine AW.condT' (b := decide ((k68 : Int) < (x1.2.length : Int))) rfl (rngT hlt73) ?_
 refine AW.skip ?_
 refine AW.seq ?_
 refine AW.block ?_
 refine AW.seq (AW.region ?_)
 refine AO.val rfl rfl (ix_row_ok T rfl rfl rfl rfl rfl rfl (getI_drop hd71)) ?_
 refine AO.val rfl rfl (load_row_ok T rfl rfl rfl rfl (getI_get (getI_drop hd71)) rfl rfl rfl) ?_
 refine AO.step rfl (alloc_ok T rfl 25 rfl rfl rfl rfl rfl) ?_
 refine AO.se T [y69.number, y69.club, y69.level] ?_
 refine AO.nil (AW.seq ?_)
 refine AW.region ?_
 refine AO.pu T ?_
 refine AO.val rfl rfl (len_row_ok T rfl rfl rfl rfl) ?_
 refine AO.pu T ?_
 refine AO.nil ?_
 refine AW.cond (b := decide ((v79.length : Int) < 10)) rfl (fun hc => ?_) (fun hc => ?_)
 replace hH := condT hc hH
 obtain ⟨x81, hx82, hH⟩ := bindE hH
 refine AW.region ?_
 iterate 3 refine AO.pu T ?_
 refine AO.step rfl (callM_ok rfl 26 rfl rfl (es := [.w 1 (v79.map encInt), .v (.int .i64 y69.number)]) (outs := [.u, .u]) (ids := [24]) (by exact expLG_cons (.c (.rowR rfl)) (expLG_cons (.c .v) (expLG_nil))) (by decide) (.inr (by exact (show ([] : List Nat).Nodup ∧ ∀ i ∈ ([] : List Nat), i ∈ ([24] : List Nat) from by decide))) (by rfl) (spec_l1Put_ok fuel _ _ _ (hx82)) rfl (by rfl) rfl) ?_
 refine AO.pu T ?_
 refine AO.nil ?_
 refine AW.region ?_
 refine AO.val rfl rfl (ar_ok rfl rfl rfl rfl (inI_succ hlt73 hb72)) ?_
 refine AO.pu T ?_
 refine AO.nil ?_
 refine ⟨(k68 + 1, x81), ⟨Nat.succ_le_of_lt hlt73, (by rw [drop_succ_of hd71]; exact hH)⟩, (by have := hlt73; dsimp only; omega), ?_⟩
 exact Le.ct 26 24
 replace hH := condF hc hH
 refine AW.skip ?_
 refine AW.region ?_
 refine AO.val rfl rfl (ar_ok rfl rfl rfl rfl (inI_succ hlt73 hb72)) ?_
 refine AO.pu T ?_
 refine AO.nil ?_
 refine ⟨(k68 + 1, v79), ⟨Nat.succ_le_of_lt hlt73, (by rw [drop_succ_of hd71]; exact hH)⟩, (by have := hlt73; dsimp only; omega), ?_⟩
 exact Le.ct 0 0
 replace hH := condF hc hH
 refine AW.skip ?_
 refine AW.seq (AW.region ?_)
 iterate 10 refine AO.pu T ?_
 refine AO.nil ?_
 refine AW.le (Le.ct 0 0 (σ' := (⟨[(2, .R 2), (3, .R 3), (4, x5.2), (5, x7.2), (6, .R 5)], [(2, .row 3 (List.map encOfficial x1.2)), (3, .row 1 (List.map encInt x3.2)), (5, .row 1 (List.map encInt x13.1))], 101, []⟩ : St))) ?_
 refine AW.le (Le.freezeM 5 (g := encInt) rfl (fun y => .vs rfl)) ?_
 refine AW.ret ?_
 have hR := someE hH; subst hR
 exact retQ.i [2, 3] rfl (.t (expLG_cons (.c (.rowR rfl)) (expLG_cons (.c (.rowR rfl)) (expLG_cons (.c .v) (expLG_cons (.c .v) (expLG_cons (.c .s) (expLG_nil)))))))
 replace hH := condF hc hH
 refine AW.skip ?_
 refine AW.seq (AW.region ?_)
 iterate 10 refine AO.pu T ?_
 refine AO.nil ?_
 refine AW.le (Le.freezeM 5 (g := encInt) rfl (fun y => .vs rfl)) ?_
 refine AW.ret ?_
 have hR := someE hH; subst hR
 exact retQ.i [2, 3] rfl (.t (expLG_cons (.c (.rowR rfl)) (expLG_cons (.c (.rowR rfl)) (expLG_cons (.c .v) (expLG_cons (.c .v) (expLG_cons (.c .s) (expLG_nil)))))))

def spec_l1Cur_keyList_l2 (most : Int) (x33 : (L1Cur × Int)) : Nat → List Int → Option ((L1Cur × (List Int)))
  | 0, _ => none
  | k35 + 1, v41 =>
    cond (decide ((v41.length : Int) < (w64 (most + x33.2))))
      ((need (fitsB 8 (v41.length + (([1] : List Int)).length))).bind fun u43 =>
      spec_l1Cur_keyList_l2 most x33 k35 (v41 ++ ([1] : List Int)))
      (some ((L1Cur.mk x33.1.code x33.1.at' x33.1.seed), v41))
def spec_l1Cur_keyList_l1 (most : Int) (fuel : Nat) : Nat → List Int → Int → Int → List Int → Int → Option ((L1Cur × (List Int)))
  | 0, _, _, _, _, _ => none
  | k3 + 1, v17, v18, v19, v20, v21 =>
    cond (decide (v21 > 0))
      ((spec_l1Cur_pick_p (L1Cur.mk v17 v18 v19) 60000).bind fun x23 =>
      (need (fitsB 8 (v20.length + ([x23.2]).length))).bind fun u25 =>
      spec_l1Cur_keyList_l1 most fuel k3 x23.1.code x23.1.at' x23.1.seed (v20 ++ [x23.2]) (w64 (v21 - 1)))
      ((spec_l1Cur_pick_p (L1Cur.mk v17 v18 v19) 24).bind fun x27 =>
      cond (x27.2 == 0)
        ((spec_l1Cur_among_p (L1Cur.mk x27.1.code x27.1.at' x27.1.seed) ([(-1), 1000000000, 1000000001] : List Int)).bind fun x29 =>
        (need (fitsB 8 (v20.length + ([x29.2]).length))).bind fun u31 =>
        some ((L1Cur.mk x29.1.code x29.1.at' x29.1.seed), (v20 ++ [x29.2])))
        (cond (x27.2 == 1)
          ((spec_l1Cur_pick_p (L1Cur.mk x27.1.code x27.1.at' x27.1.seed) 2).bind fun x33 =>
          spec_l1Cur_keyList_l2 most x33 fuel v20)
          (some ((L1Cur.mk x27.1.code x27.1.at' x27.1.seed), v20))))
def spec_l1Cur_keyList_p (fuel : Nat) (c : L1Cur) (most : Int) : Option (L1Cur × (List Int)) :=
  (spec_l1Cur_pick_p c 5).bind fun x1 =>
  spec_l1Cur_keyList_l1 most fuel fuel x1.1.code x1.1.at' x1.1.seed [] x1.2
theorem spec_l1Cur_keyList_ok (fuel : Nat) (c : L1Cur) (most : Int) (r : (L1Cur × (List Int))) (hH : spec_l1Cur_keyList_p fuel c most = some r) : SpecM Tryz.prog 27 [.pw (encL1Cur c), most] [.pw (encL1Cur r.1), .u] (.w 1 (r.2.map encInt)) := by
 refine fn_okM T Tryz.func27 rfl (by decide) rfl rfl ?_
 intro L
 show AW _ _ _ (⟨[(0, .p 1 0), (1, most)], [(1, .box [.s (List.map encInt_u8 c.code), c.at', .v (.int .u64 c.seed)])], 43, [(1, L 1)]⟩ : St)
 refine AW.seq (AW.region ?_)
 refine AO.pu T ?_
 refine AO.nil (AW.seq ?_)
 refine AW.region ?_
 refine AO.pu T ?_
 refine AO.nil ?_
 iterate 2 refine AW.seq ?_
 obtain ⟨x1, hx2, hH⟩ := bindE hH
 refine AW.region ?_
 refine AO.pu T ?_
 refine AO.step rfl (callM_ok rfl 2 rfl rfl (es := [.pw (encL1Cur c), .v (.int .i64 5)]) (outs := [.pw (encL1Cur x1.1), .u]) (ids := [1]) (by exact expLG_cons (.c (.box rfl rfl)) (expLG_cons (.c .v) (expLG_nil))) (by decide) (.inl (by rfl)) (by rfl) (spec_l1Cur_pick_ok _ _ _ (hx2)) rfl (by rfl) rfl) ?_
 refine AO.pu T ?_
 refine AO.nil ?_
 refine AW.block ?_
 refine AW.loopS (fun s : Nat × (List Int) × Int × Int × (List Int) × Int => (⟨[(0, .p 1 0), (1, most), (5, .R 5), (6, s.2.2.2.2.2)], [(1, .box [.s (List.map encInt_u8 s.2.1), s.2.2.1, .v (.int .u64 s.2.2.2.1)]), (5, .row 1 (List.map encInt s.2.2.2.2.1))], 43, [(1, L 1)]⟩ : St)) (fun s => spec_l1Cur_keyList_l1 most fuel s.1 s.2.1 s.2.2.1 s.2.2.2.1 s.2.2.2.2.1 s.2.2.2.2.2 = some r) (fun s => s.1) (fuel, x1.1.code, x1.1.at', x1.1.seed, [], x1.2) hH ?_ ?_
 refine Le.trans (Le.void 5 5 1 rfl rfl) ?_
 exact Le.ct 0 0 (hpin := ⟨⟨rfl, rfl⟩, trivial⟩)
 rintro ⟨k3, v17, v18, v19, v20, v21⟩ hH
 replace hH : spec_l1Cur_keyList_l1 most fuel k3 v17 v18 v19 v20 v21 = some r := hH
 try dsimp only
 rcases k3 with _ | k3
 cases (show none = some _ from hH)
 rw [spec_l1Cur_keyList_l1] at hH
 iterate 2 refine AW.seq ?_
 refine AW.region ?_
 iterate 2 refine AO.pu T ?_
 refine AO.nil ?_
 refine AW.cond (b := decide (v21 > 0)) rfl (fun hc => ?_) (fun hc => ?_)
 replace hH := condT hc hH
 refine AW.skip ?_
 refine AW.seq ?_
 refine AW.block ?_
 obtain ⟨x23, hx24, hH⟩ := bindE hH
 obtain ⟨u25, hx26, hH⟩ := bindE hH
 refine AW.region ?_
 iterate 2 refine AO.pu T ?_
 refine AO.step rfl (callM_ok rfl 6 rfl rfl (es := [.pw (encL1Cur (L1Cur.mk v17 v18 v19)), .v (.int .i64 60000)]) (outs := [.pw (encL1Cur x23.1), .u]) (ids := [1]) (by exact expLG_cons (.c (.box rfl rfl)) (expLG_cons (.c .v) (expLG_nil))) (by decide) (.inl (by rfl)) (by rfl) (spec_l1Cur_pick_ok _ _ _ (hx24)) rfl (by rfl) rfl) ?_
 refine AO.step rfl (mk_map_ok T rfl 6 rfl rfl rfl rfl rfl (f := encInt) (l := [x23.2]) rfl rfl (fun _ => rfl) rfl rfl rfl rfl rfl) ?_
 refine AO.step rfl (app_rv_map T rfl 7 rfl rfl rfl rfl rfl (by decide) rfl rfl rfl rfl (fun _ => rfl) (needT (hx26)) rfl rfl) ?_
 refine AO.pu T ?_
 refine AO.nil ?_
 refine AW.region ?_
 refine AO.pu T ?_
 refine AO.val rfl rfl (arw_ok rfl rfl rfl rfl) ?_
 refine AO.pu T ?_
 refine AO.nil ?_
 refine ⟨(k3, x23.1.code, x23.1.at', x23.1.seed, (v20 ++ [x23.2]), w64 (v21 - 1)), hH, Nat.lt_succ_self _, ?_⟩
 exact Le.ct 7 5 (hpin := ⟨⟨rfl, rfl⟩, trivial⟩)
 replace hH := condF hc hH
 refine AW.exit ?_
 iterate 2 refine AW.seq ?_
 obtain ⟨x27, hx28, hH⟩ := bindE hH
 refine AW.region ?_
 refine AO.pu T ?_
 refine AO.step rfl (callM_ok rfl 8 rfl rfl (es := [.pw (encL1Cur (L1Cur.mk v17 v18 v19)), .v (.int .i64 24)]) (outs := [.pw (encL1Cur x27.1), .u]) (ids := [1]) (by exact expLG_cons (.c (.box rfl rfl)) (expLG_cons (.c .v) (expLG_nil))) (by decide) (.inl (by rfl)) (by rfl) (spec_l1Cur_pick_ok _ _ _ (hx28)) rfl (by rfl) rfl) ?_
 refine AO.nil ?_
 refine AW.block ?_
 refine AW.seq (AW.region ?_)
 iterate 2 refine AO.pu T ?_
 refine AO.nil ?_
 refine AW.cond (b := (x27.2 == 0)) rfl (fun hc => ?_) (fun hc => ?_)
 replace hH := condT hc hH
 obtain ⟨x29, hx30, hH⟩ := bindE hH
 obtain ⟨u31, hx32, hH⟩ := bindE hH
 refine AW.region ?_
 iterate 2 refine AO.pu T ?_
 refine AO.step rfl (mk_map_ok T rfl 8 rfl rfl rfl rfl rfl (f := encInt) (l := ([(-1), 1000000000, 1000000001] : List Int)) rfl rfl (fun _ => rfl) rfl rfl rfl rfl rfl) ?_
 refine AO.le (Le.freezeM 8 (g := encInt) rfl (fun y => .vs rfl)) ?_
 refine AO.step rfl (callM_ok rfl 9 rfl rfl (es := [.pw (encL1Cur (L1Cur.mk x27.1.code x27.1.at' x27.1.seed)), .s (([(-1), 1000000000, 1000000001] : List Int).map encInt)]) (outs := [.pw (encL1Cur x29.1), .u]) (ids := [1]) (by exact expLG_cons (.c (.box rfl rfl)) (expLG_cons (.c .s) (expLG_nil))) (by decide) (.inl (by rfl)) (by rfl) (spec_l1Cur_among_ok _ _ _ (hx30)) rfl (by rfl) rfl) ?_
 refine AO.step rfl (mk_map_ok T rfl 9 rfl rfl rfl rfl rfl (f := encInt) (l := [x29.2]) rfl rfl (fun _ => rfl) rfl rfl rfl rfl rfl) ?_
 refine AO.step rfl (app_rv_map T rfl 10 rfl rfl rfl rfl rfl (by decide) rfl rfl rfl rfl (fun _ => rfl) (needT (hx32)) rfl rfl) ?_
 refine AO.pu T ?_
 refine AO.nil (AW.seq ?_)
 refine AW.region ?_
 iterate 2 refine AO.pu T ?_
 refine AO.nil (AW.ret ?_)
 have hR := someE hH; subst hR
 exact ⟨trivial, rfl, _, [10], [1], rfl, expLG_cons (.c (.box rfl rfl)) (expLG_cons (.c .u) (expLG_nil)), .c (.c (.rowR rfl)), by decide⟩
 replace hH := condF hc hH
 refine AW.seq (AW.region ?_)
 iterate 2 refine AO.pu T ?_
 refine AO.nil ?_
 refine AW.cond (b := (x27.2 == 1)) rfl (fun hc => ?_) (fun hc => ?_)
 replace hH := condT hc hH
 refine AW.seq ?_
 obtain ⟨x33, hx34, hH⟩ := bindE hH
 refine AW.region ?_
 iterate 2 refine AO.pu T ?_
 refine AO.step rfl (callM_ok rfl 11 rfl rfl (es := [.pw (encL1Cur (L1Cur.mk x27.1.code x27.1.at' x27.1.seed)), .v (.int .i64 2)]) (outs := [.pw (encL1Cur x33.1), .u]) (ids := [1]) (by exact expLG_cons (.c (.box rfl rfl)) (expLG_cons (.c .v) (expLG_nil))) (by decide) (.inl (by rfl)) (by rfl) (spec_l1Cur_pick_ok _ _ _ (hx34)) rfl (by rfl) rfl) ?_
 refine AO.val rfl rfl (arw_ok rfl rfl rfl rfl) ?_
 refine AO.pu T ?_
 refine AO.nil ?_
 refine AW.block ?_
 refine AW.loopS (fun s : Nat × (List Int) => (⟨[(5, .R 5), (7, w64 (most + x33.2))], [(1, .box [.s (List.map encInt_u8 x33.1.code), x33.1.at', .v (.int .u64 x33.1.seed)]), (5, .row 1 (List.map encInt s.2))], 43, [(1, L 1)]⟩ : St)) (fun s => spec_l1Cur_keyList_l2 most x33 s.1 s.2 = some r) (fun s => s.1) (fuel, v20) hH ?_ ?_
 exact Le.ct 0 0 (hpin := ⟨⟨rfl, rfl⟩, trivial⟩)
 rintro ⟨k35, v41⟩ hH
 replace hH : spec_l1Cur_keyList_l2 most x33 k35 v41 = some r := hH
 try dsimp only
 rcases k35 with _ | k35
 cases (show none = some _ from hH)
 rw [spec_l1Cur_keyList_l2] at hH
 iterate 2 refine AW.seq ?_
 refine AW.region ?_
 refine AO.pu T ?_
 refine AO.val rfl rfl (len_row_ok T rfl rfl rfl rfl) ?_
 iterate 2 refine AO.pu T ?_
 refine AO.nil ?_
 refine AW.cond (b := decide ((v41.length : Int) < (w64 (most + x33.2)))) rfl (fun hc => ?_) (fun hc => ?_)
 replace hH := condT hc hH
 refine AW.skip ?_
 refine AW.block ?_
 obtain ⟨u43, hx44, hH⟩ := bindE hH
 refine AW.region ?_
 refine AO.pu T ?_
 refine AO.step rfl (mk_map_ok T rfl 15 rfl rfl rfl rfl rfl (f := encInt) (l := ([1] : List Int)) rfl rfl (fun _ => rfl) rfl rfl rfl rfl rfl) ?_
 refine AO.step rfl (app_rv_map T rfl 16 rfl rfl rfl rfl rfl (by decide) rfl rfl rfl rfl (fun _ => rfl) (needT (hx44)) rfl rfl) ?_
 refine AO.pu T ?_
 refine AO.nil ?_
 refine ⟨(k35, (v41 ++ ([1] : List Int))), hH, Nat.lt_succ_self _, ?_⟩
 exact Le.ct 16 5 (hpin := ⟨⟨rfl, rfl⟩, trivial⟩)
 replace hH := condF hc hH
 refine AW.exit ?_
 refine AW.seq (AW.region ?_)
 iterate 2 refine AO.pu T ?_
 refine AO.nil (AW.ret ?_)
 have hR := someE hH; subst hR
 exact ⟨trivial, rfl, _, [5], [1], rfl, expLG_cons (.c (.box rfl rfl)) (expLG_cons (.c .u) (expLG_nil)), .c (.c (.rowR rfl)), by decide⟩
 replace hH := condF hc hH
 refine AW.skip ?_
 refine AW.seq (AW.region ?_)
 iterate 2 refine AO.pu T ?_
 refine AO.nil (AW.ret ?_)
 have hR := someE hH; subst hR
 exact ⟨trivial, rfl, _, [5], [1], rfl, expLG_cons (.c (.box rfl rfl)) (expLG_cons (.c .u) (expLG_nil)), .c (.c (.rowR rfl)), by decide⟩

def spec_DrawReplaceJudge_p (fuel : Nat) (code : List Int) : Option ((List Int) × (List Official) × (List Int) × Int × Int × (List Int) × Int) :=
  (spec_DrawIsPanel_p fuel code).bind fun x1 =>
  (spec_l1Cur_pick_p (L1Cur.mk code 0 0) 99).bind fun x3 =>
  (opt (decide ((x1.2.2.2.2.length : Int) > 0)) ((L1Cur.mk x3.1.code x3.1.at' x3.1.seed), default) (spec_l1Cur_one_p (L1Cur.mk x3.1.code x3.1.at' x3.1.seed) 6)).bind fun x5 =>
  cond (decide ((x1.2.2.2.2.length : Int) > 0) && (!x5.2))
    ((spec_l1Cur_pick_p (L1Cur.mk x5.1.code x5.1.at' x5.1.seed) (x1.2.2.2.2.length : Int)).bind fun x7 =>
    (getI x1.2.2.2.2 x7.2).bind fun x9 =>
    (spec_l1Cur_keyList_p fuel (L1Cur.mk x7.1.code x7.1.at' x7.1.seed) 6).bind fun x11 =>
    some (x11.2, x1.1, x1.2.1, x1.2.2.1, x1.2.2.2.1, x1.2.2.2.2, x9))
    ((spec_l1Cur_keyList_p fuel (L1Cur.mk x5.1.code x5.1.at' x5.1.seed) 6).bind fun x13 =>
    some (x13.2, x1.1, x1.2.1, x1.2.2.1, x1.2.2.2.1, x1.2.2.2.2, x3.2))
theorem spec_DrawReplaceJudge_ok (fuel : Nat) (code : List Int) (r : ((List Int) × (List Official) × (List Int) × Int × Int × (List Int) × Int)) (hH : spec_DrawReplaceJudge_p fuel code = some r) : SpecR Tryz.prog 5 [.s (List.map encInt_u8 code)] (.t [.w 1 (r.1.map encInt), .w 3 (r.2.1.map encOfficial), .w 1 (r.2.2.1.map encInt), .v (.int .i64 r.2.2.2.1), .v (.int .i64 r.2.2.2.2.1), .s (r.2.2.2.2.2.1.map encInt), .v (.int .i64 r.2.2.2.2.2.2)]) := by
 refine fn_ok T Tryz.func5 rfl (by decide) rfl ?_
 refine AW.seq (AW.region ?_)
 iterate 7 refine AO.pu T ?_
 refine AO.nil (AW.seq ?_)
 refine AW.region ?_
 refine AO.pu T ?_
 refine AO.pu T (d := .g [.s (List.map encInt_u8 code), (0 : Int), .v (.int .u64 0)]) ?_
 refine AO.step rfl (box_ok T rfl 1 rfl rfl rfl rfl) ?_
 refine AO.pu T ?_
 refine AO.nil (AW.seq ?_)
 obtain ⟨x1, hx2, hH⟩ := bindE hH
 refine AW.region ?_
 refine AO.pu T ?_
 refine AO.step rfl (call_ok rfl 2 rfl rfl rfl (spec_DrawIsPanel_ok fuel _ _ (hx2)) rfl rfl rfl) ?_
 iterate 11 refine AO.pu T ?_
 refine AO.nil ?_
 refine AW.le (Le.ct 0 0 (σ' := (⟨[(9, .p 1 0), (10, .R 2), (11, .R 3), (12, x1.2.2.1), (13, x1.2.2.2.1), (14, .s (List.map encInt x1.2.2.2.2))], [(1, .box [.s (List.map encInt_u8 code), (0 : Int), .v (.int .u64 0)]), (2, .row 3 (List.map encOfficial x1.1)), (3, .row 1 (List.map encInt x1.2.1))], 52, []⟩ : St))) ?_
 refine AW.seq ?_
 obtain ⟨x3, hx4, hH⟩ := bindE hH
 refine AW.region ?_
 refine AO.pu T ?_
 refine AO.step rfl (callM_ok rfl 4 rfl rfl (es := [.pw (encL1Cur (L1Cur.mk code 0 0)), .v (.int .i64 99)]) (outs := [.pw (encL1Cur x3.1), .u]) (ids := [1]) (by exact expLG_cons (.c (.box rfl rfl)) (expLG_cons (.c .v) (expLG_nil))) (by decide) (.inl (by rfl)) (by rfl) (spec_l1Cur_pick_ok _ _ _ (hx4)) rfl (by rfl) rfl) ?_
 refine AO.pu T ?_
 refine AO.nil ?_
 iterate 2 refine AW.seq ?_
 obtain ⟨x5, hx6, hH⟩ := bindE hH
 refine AW.region ?_
 refine AO.pu T ?_
 refine AO.val rfl rfl (len_map_ok T rfl rfl rfl) ?_
 iterate 2 refine AO.pu T ?_
 refine AO.pureG T [] rfl trivial rfl rfl ?_
 refine AO.guardP (id := 1) (cs' := [.s (List.map encInt_u8 x5.1.code), x5.1.at', .v (.int .u64 x5.1.seed)]) (r := .v (.bool x5.2)) [33] rfl ⟨fun h => h, trivial⟩ (fun hg => callM_ok rfl 4 rfl rfl (es := [.pw (encL1Cur (L1Cur.mk x3.1.code x3.1.at' x3.1.seed)), .v (.int .i64 6)]) (outs := [.pw (encL1Cur x5.1), .u]) (ids := [1]) (by exact expLG_cons (.c (.box rfl rfl)) (expLG_cons (.c .v) (expLG_nil))) (by decide) (.inl (by rfl)) (by rfl) (spec_l1Cur_one_ok _ _ _ (optT hx6 hg)) rfl (by rfl) rfl) rfl (fun hg => by have q := optF hx6 hg; subst q; rfl) rfl ?_
 refine AO.pureG T [34] rfl ⟨fun h => h, trivial⟩ rfl rfl ?_
 refine AO.val rfl rfl (pick_and rfl rfl rfl rfl) ?_
 refine AO.nil ?_
 refine AW.cond (b := (decide ((x1.2.2.2.2.length : Int) > 0) && (!x5.2))) rfl (fun hc => ?_) (fun hc => ?_)
 replace hH := condT hc hH
 obtain ⟨x7, hx8, hH⟩ := bindE hH
 obtain ⟨x9, hx10, hH⟩ := bindE hH
 refine AW.region ?_
 iterate 3 refine AO.pu T ?_
 refine AO.val rfl rfl (len_map_ok T rfl rfl rfl) ?_
 refine AO.step rfl (callM_ok rfl 4 rfl rfl (es := [.pw (encL1Cur (L1Cur.mk x5.1.code x5.1.at' x5.1.seed)), .v (.int .i64 (x1.2.2.2.2.length : Int))]) (outs := [.pw (encL1Cur x7.1), .u]) (ids := [1]) (by exact expLG_cons (.c (.box rfl rfl)) (expLG_cons (.c .v) (expLG_nil))) (by decide) (.inl (by rfl)) (by rfl) (spec_l1Cur_pick_ok _ _ _ (hx8)) rfl (by rfl) rfl) ?_
 refine AO.val rfl rfl (ix_map_ok T rfl rfl rfl rfl rfl (hx10) rfl) ?_
 iterate 2 refine AO.pu T ?_
 refine AO.nil (AW.seq ?_)
 obtain ⟨x11, hx12, hH⟩ := bindE hH
 refine AW.region ?_
 refine AO.pu T ?_
 refine AO.step rfl (callM_ok rfl 4 rfl rfl (es := [.pw (encL1Cur (L1Cur.mk x7.1.code x7.1.at' x7.1.seed)), .v (.int .i64 6)]) (outs := [.pw (encL1Cur x11.1), .u]) (ids := [1]) (by exact expLG_cons (.c (.box rfl rfl)) (expLG_cons (.c .v) (expLG_nil))) (by decide) (.inl (by rfl)) (by rfl) (spec_l1Cur_keyList_ok fuel _ _ _ (hx12)) rfl (by rfl) rfl) ?_
 iterate 13 refine AO.pu T ?_
 refine AO.nil ?_
 refine AW.le (Le.ct 0 0 (σ' := (⟨[(2, .R 4), (3, .R 2), (4, .R 3), (5, x1.2.2.1), (6, x1.2.2.2.1), (7, .s (List.map encInt x1.2.2.2.2)), (8, x9)], [(2, .row 3 (List.map encOfficial x1.1)), (3, .row 1 (List.map encInt x1.2.1)), (4, .row 1 (List.map encInt x11.2))], 52, []⟩ : St))) ?_
 refine AW.ret ?_
 have hR := someE hH; subst hR
 exact retQ.i [4, 2, 3] rfl (.t (expLG_cons (.c (.rowR rfl)) (expLG_cons (.c (.rowR rfl)) (expLG_cons (.c (.rowR rfl)) (expLG_cons (.c .v) (expLG_cons (.c .v) (expLG_cons (.c .s) (expLG_cons (.c .v) (expLG_nil)))))))))
 replace hH := condF hc hH
 refine AW.skip ?_
 refine AW.seq ?_
 obtain ⟨x13, hx14, hH⟩ := bindE hH
 refine AW.region ?_
 refine AO.pu T ?_
 refine AO.step rfl (callM_ok rfl 5 rfl rfl (es := [.pw (encL1Cur (L1Cur.mk x5.1.code x5.1.at' x5.1.seed)), .v (.int .i64 6)]) (outs := [.pw (encL1Cur x13.1), .u]) (ids := [1]) (by exact expLG_cons (.c (.box rfl rfl)) (expLG_cons (.c .v) (expLG_nil))) (by decide) (.inl (by rfl)) (by rfl) (spec_l1Cur_keyList_ok fuel _ _ _ (hx14)) rfl (by rfl) rfl) ?_
 iterate 13 refine AO.pu T ?_
 refine AO.nil ?_
 refine AW.le (Le.ct 0 0 (σ' := (⟨[(2, .R 5), (3, .R 2), (4, .R 3), (5, x1.2.2.1), (6, x1.2.2.2.1), (7, .s (List.map encInt x1.2.2.2.2)), (8, x3.2)], [(2, .row 3 (List.map encOfficial x1.1)), (3, .row 1 (List.map encInt x1.2.1)), (5, .row 1 (List.map encInt x13.2))], 52, []⟩ : St))) ?_
 refine AW.ret ?_
 have hR := someE hH; subst hR
 exact retQ.i [5, 2, 3] rfl (.t (expLG_cons (.c (.rowR rfl)) (expLG_cons (.c (.rowR rfl)) (expLG_cons (.c (.rowR rfl)) (expLG_cons (.c .v) (expLG_cons (.c .v) (expLG_cons (.c .s) (expLG_cons (.c .v) (expLG_nil)))))))))

def impl_within_p (n : Int) (low : Int) (high : Int) : Option Bool :=
  some (decide (n ≥ low) && decide (n ≤ high))
theorem impl_within_ok (n : Int) (low : Int) (high : Int) (r : Bool) (hH : impl_within_p n low high = some r) : SpecR Tryz.prog 48 [n, low, high] (.v (.bool r)) := by
 refine fn_ok T Tryz.func48 rfl (by decide) rfl ?_
 refine AW.seq (AW.region ?_)
 refine AO.pu T ?_
 refine AO.nil (AW.seq ?_)
 refine AW.region ?_
 iterate 4 refine AO.pu T ?_
 iterate 2 refine AO.pureG T [] rfl trivial rfl rfl ?_
 refine AO.pureG T [11, 12] rfl ⟨fun h => h, fun h => h, trivial⟩ rfl rfl ?_
 refine AO.val rfl rfl (pick_and rfl rfl rfl rfl) ?_
 refine AO.pu T ?_
 refine AO.nil (AW.ret ?_)
 have hR := someE hH; subst hR
 exact retQ.i [] rfl (.c (.c .v))

def impl_allWithin_l1 (low : Int) (high : Int) : List Int → Nat → Option Bool
  | [], k1 =>
    some true
  | y2 :: ys3, k1 =>
    (impl_within_p y2 low high).bind fun x12 =>
    cond (!x12)
      (some false)
      (impl_allWithin_l1 low high ys3 (k1 + 1))
def impl_allWithin_p (l : List Int) (low : Int) (high : Int) : Option Bool :=
  impl_allWithin_l1 low high l 0
theorem impl_allWithin_ok (l : List Int) (low : Int) (high : Int) (r : Bool) (hH : impl_allWithin_p l low high = some r) : SpecR Tryz.prog 67 [.s (List.map encInt l), low, high] (.v (.bool r)) := by
 refine fn_ok T Tryz.func67 rfl (by decide) rfl ?_
 refine AW.seq (AW.region ?_)
 refine AO.pu T ?_
 refine AO.nil ?_
 iterate 2 refine AW.seq ?_
 refine AW.region ?_
 refine AO.pu T ?_
 refine AO.val rfl rfl (len_map_ok T rfl rfl rfl) ?_
 refine AO.pu T ?_
 refine AO.nil ?_
 refine AW.block ?_
 refine AW.loopS (fun s : Nat => (⟨[(1, low), (2, high), (9, .s (List.map encInt l)), (10, (l.length : Int)), (11, (s : Int))], [], 21, []⟩ : St)) (fun s => s ≤ l.length ∧ impl_allWithin_l1 low high (l.drop s) s = some r) (fun s => l.length - s) 0 ⟨Nat.zero_le _, hH⟩ ?_ ?_
 exact Le.ct 0 0
 rintro k1 ⟨hk, hH⟩
 replace hH : impl_allWithin_l1 low high (l.drop k1) k1 = some r := hH
 try dsimp only
 refine AW.boundM (t := 9) (l := l) rfl (fun hb5 => ?_)
 rcases hd4 : l.drop k1 with _ | ⟨y2, ys3⟩
 rw [hd4, impl_allWithin_l1] at hH
 have hlt6 := drop_ge hd4
 refine AW.seq (AW.region ?_)
 refine AO.pu T ?_
 refine AO.nil (AW.seq ?_)
 refine AW.condF' (b := decide ((k1 : Int) < (l.length : Int))) rfl (rngF hlt6) ?_
 refine AW.exit ?_
 refine AW.seq (AW.region ?_)
 refine AO.pu T ?_
 refine AO.nil (AW.ret ?_)
 have hR := someE hH; subst hR
 exact retQ.i [] rfl (.c (.c .v))
 rw [hd4, impl_allWithin_l1] at hH
 have hlt6 := drop_lt hd4
 refine AW.seq (AW.region ?_)
 refine AO.pu T ?_
 refine AO.nil (AW.seq ?_)
 refine AW.condT' (b := decide ((k1 : Int) < (l.length : Int))) rfl (rngT hlt6) ?_
 refine AW.skip ?_
 refine AW.seq ?_
 refine AW.block ?_
 refine AW.seq (AW.region ?_)
 refine AO.val rfl rfl (ix_map_ok T rfl rfl rfl rfl rfl (getI_drop hd4) rfl) ?_
 iterate 2 refine AO.pu T ?_
 refine AO.nil (AW.seq ?_)
 obtain ⟨x12, hx13, hH⟩ := bindE hH
 refine AW.region ?_
 iterate 3 refine AO.pu T ?_
 refine AO.val rfl rfl (callV_ok rfl rfl rfl rfl (impl_within_ok _ _ _ _ (hx13)) rfl) ?_
 refine AO.pu T ?_
 refine AO.nil ?_
 refine AW.cond (b := (!x12)) rfl (fun hc => ?_) (fun hc => ?_)
 replace hH := condT hc hH
 refine AW.seq (AW.region ?_)
 refine AO.pu T ?_
 refine AO.nil (AW.ret ?_)
 have hR := someE hH; subst hR
 exact retQ.i [] rfl (.c (.c .v))
 replace hH := condF hc hH
 refine AW.skip ?_
 refine AW.region ?_
 refine AO.val rfl rfl (ar_ok rfl rfl rfl rfl (inI_succ hlt6 hb5)) ?_
 refine AO.pu T ?_
 refine AO.nil ?_
 refine ⟨k1 + 1, ⟨Nat.succ_le_of_lt hlt6, (by rw [drop_succ_of hd4]; exact hH)⟩, (by have := hlt6; dsimp only; omega), ?_⟩
 exact Le.ct 0 0

def impl_areKeys_p (keys : List Int) (most : Int) : Option Bool :=
  (opt (decide ((keys.length : Int) ≤ most)) default (impl_allWithin_p keys 0 1000000000)).bind fun x1 =>
  some (decide ((keys.length : Int) ≤ most) && x1)
theorem impl_areKeys_ok (keys : List Int) (most : Int) (r : Bool) (hH : impl_areKeys_p keys most = some r) : SpecR Tryz.prog 28 [.s (List.map encInt keys), most] (.v (.bool r)) := by
 refine fn_ok T Tryz.func28 rfl (by decide) rfl ?_
 refine AW.seq (AW.region ?_)
 refine AO.pu T ?_
 refine AO.nil (AW.seq ?_)
 obtain ⟨x1, hx2, hH⟩ := bindE hH
 refine AW.region ?_
 refine AO.pu T ?_
 refine AO.val rfl rfl (len_map_ok T rfl rfl rfl) ?_
 iterate 3 refine AO.pu T ?_
 refine AO.pureG T [] rfl trivial rfl rfl ?_
 refine AO.guard [10] rfl ⟨fun h => h, trivial⟩ (fun hg => callV_ok rfl rfl rfl rfl (impl_allWithin_ok _ _ _ _ (optT hx2 hg)) rfl) rfl ?_
 refine AO.val rfl rfl (pick_and rfl rfl rfl rfl) ?_
 refine AO.pu T ?_
 refine AO.nil (AW.ret ?_)
 have hR := someE hH; subst hR
 exact retQ.i [] rfl (.c (.c .v))

def impl_isSkater_p (skater : Int) : Option Bool :=
  (impl_within_p skater 1 999).bind fun x1 =>
  some x1
theorem impl_isSkater_ok (skater : Int) (r : Bool) (hH : impl_isSkater_p skater = some r) : SpecR Tryz.prog 75 [skater] (.v (.bool r)) := by
 refine fn_ok T Tryz.func75 rfl (by decide) rfl ?_
 refine AW.seq (AW.region ?_)
 refine AO.pu T ?_
 refine AO.nil (AW.seq ?_)
 obtain ⟨x1, hx2, hH⟩ := bindE hH
 refine AW.region ?_
 refine AO.pu T ?_
 refine AO.val rfl rfl (callV_ok rfl rfl rfl rfl (impl_within_ok _ _ _ _ (hx2)) rfl) ?_
 refine AO.pu T ?_
 refine AO.nil (AW.ret ?_)
 have hR := someE hH; subst hR
 exact retQ.i [] rfl (.c (.c .v))

def slices_IndexFunc_Official_l1 (f : Official → Option Bool) : List Official → Nat → Option Int
  | [], k1 =>
    some (-1)
  | y2 :: ys3, k1 =>
    (f y2).bind fun x12 =>
    cond x12
      (some (k1 : Int))
      (slices_IndexFunc_Official_l1 f ys3 (k1 + 1))
def slices_IndexFunc_Official_p (sA : List Official) (f : Official → Option Bool) : Option Int :=
  slices_IndexFunc_Official_l1 f sA 0
theorem slices_IndexFunc_Official_ok (sA : List Official) (f_f : Nat) (f_c : List D) (f_k : f_c.all D.capOk = true) (f : Official → Option Bool) (f_h : ∀ (a0 : Official) (q : Bool), f a0 = some q → SpecR Tryz.prog f_f ([.g (encOfficial a0)] ++ f_c) (.v (.bool q))) (r : Int) (hH : slices_IndexFunc_Official_p sA f = some r) : SpecR Tryz.prog 93 [.s (List.map encOfficial sA), .f f_f f_c] (.v (.int .i64 r)) := by
 have f_r := cap_cfree f_k
 refine fn_ok T Tryz.func93 rfl (by decide) rfl ?_
 refine AW.seq (AW.region ?_)
 refine AO.pu T ?_
 refine AO.nil ?_
 iterate 2 refine AW.seq ?_
 refine AW.region ?_
 refine AO.pu T ?_
 refine AO.val rfl rfl (len_map_ok T rfl rfl rfl) ?_
 refine AO.pu T ?_
 refine AO.nil ?_
 refine AW.block ?_
 refine AW.loopS (fun s : Nat => (⟨[(0, .s (List.map encOfficial sA)), (1, .f f_f f_c), (7, (sA.length : Int)), (8, (s : Int))], [], 19, []⟩ : St)) (fun s => s ≤ sA.length ∧ slices_IndexFunc_Official_l1 f (sA.drop s) s = some r) (fun s => sA.length - s) 0 ⟨Nat.zero_le _, hH⟩ ?_ ?_
 exact Le.cut 0 0 rfl ⟨⟨_, rfl, rfl⟩, ⟨_, rfl, ren_fF f_r⟩, ⟨_, rfl, rfl⟩, ⟨_, rfl, rfl⟩, trivial⟩ (by repeat' (first | exact trivial | refine ⟨⟨_, rfl, rfl⟩, ?_⟩)) (andT (allC rfl (allC (known_fF f_r) (allC rfl (allC rfl allN)))) rfl)
 rintro k1 ⟨hk, hH⟩
 replace hH : slices_IndexFunc_Official_l1 f (sA.drop k1) k1 = some r := hH
 try dsimp only
 refine AW.boundM (t := 0) (l := sA) rfl (fun hb5 => ?_)
 rcases hd4 : sA.drop k1 with _ | ⟨y2, ys3⟩
 rw [hd4, slices_IndexFunc_Official_l1] at hH
 have hlt6 := drop_ge hd4
 refine AW.seq (AW.region ?_)
 refine AO.pu T ?_
 refine AO.nil (AW.seq ?_)
 refine AW.condF' (b := decide ((k1 : Int) < (sA.length : Int))) rfl (rngF hlt6) ?_
 refine AW.exit ?_
 refine AW.seq (AW.region ?_)
 refine AO.pu T ?_
 refine AO.nil (AW.ret ?_)
 have hR := someE hH; subst hR
 exact retQ.i [] rfl (.c (.c .v))
 rw [hd4, slices_IndexFunc_Official_l1] at hH
 have hlt6 := drop_lt hd4
 refine AW.seq (AW.region ?_)
 refine AO.pu T ?_
 refine AO.nil (AW.seq ?_)
 refine AW.condT' (b := decide ((k1 : Int) < (sA.length : Int))) rfl (rngT hlt6) ?_
 refine AW.skip ?_
 refine AW.seq ?_
 refine AW.block ?_
 refine AW.seq (AW.region ?_)
 iterate 2 refine AO.pu T ?_
 refine AO.nil (AW.seq ?_)
 obtain ⟨x12, hx13, hH⟩ := bindE hH
 refine AW.region ?_
 iterate 3 refine AO.pu T ?_
 refine AO.val rfl rfl (ix_map_ok T rfl rfl rfl rfl rfl (getI_drop hd4) rfl) ?_
 refine AO.pu T (d := .g [y2.number, y2.club, y2.level]) ?_
 refine AO.val rfl rfl (callV_ok rfl rfl rfl (andT rfl (free_cfree f_r)) (f_h _ _ (hx13)) rfl) ?_
 refine AO.nil ?_
 refine AW.cond (b := x12) rfl (fun hc => ?_) (fun hc => ?_)
 replace hH := condT hc hH
 refine AW.seq (AW.region ?_)
 iterate 2 refine AO.pu T ?_
 refine AO.nil (AW.ret ?_)
 have hR := someE hH; subst hR
 exact retQ.i [] rfl (.c (.c .v))
 replace hH := condF hc hH
 refine AW.skip ?_
 refine AW.region ?_
 refine AO.val rfl rfl (ar_ok rfl rfl rfl rfl (inI_succ hlt6 hb5)) ?_
 refine AO.pu T ?_
 refine AO.nil ?_
 refine ⟨k1 + 1, ⟨Nat.succ_le_of_lt hlt6, (by rw [drop_succ_of hd4]; exact hH)⟩, (by have := hlt6; dsimp only; omega), ?_⟩
 exact Le.cut 0 0 rfl ⟨⟨_, rfl, rfl⟩, ⟨_, rfl, ren_fF f_r⟩, ⟨_, rfl, rfl⟩, ⟨_, rfl, rfl⟩, trivial⟩ (by repeat' (first | exact trivial | refine ⟨⟨_, rfl, rfl⟩, ?_⟩)) (andT (allC rfl (allC (known_fF f_r) (allC rfl (allC rfl allN)))) rfl)

def slices_ContainsFunc_Official_p (sA : List Official) (f : Official → Option Bool) : Option Bool :=
  (slices_IndexFunc_Official_p sA f).bind fun x1 =>
  some (decide (x1 ≥ 0))
theorem slices_ContainsFunc_Official_ok (sA : List Official) (f_f : Nat) (f_c : List D) (f_k : f_c.all D.capOk = true) (f : Official → Option Bool) (f_h : ∀ (a0 : Official) (q : Bool), f a0 = some q → SpecR Tryz.prog f_f ([.g (encOfficial a0)] ++ f_c) (.v (.bool q))) (r : Bool) (hH : slices_ContainsFunc_Official_p sA f = some r) : SpecR Tryz.prog 76 [.s (List.map encOfficial sA), .f f_f f_c] (.v (.bool r)) := by
 have f_r := cap_cfree f_k
 refine fn_ok T Tryz.func76 rfl (by decide) rfl ?_
 refine AW.seq (AW.region ?_)
 refine AO.pu T ?_
 refine AO.nil (AW.seq ?_)
 obtain ⟨x1, hx2, hH⟩ := bindE hH
 refine AW.region ?_
 iterate 2 refine AO.pu T ?_
 refine AO.val rfl rfl (callV_ok rfl rfl rfl (andT (allC rfl (allC f_r allN)) rfl) (slices_IndexFunc_Official_ok _ f_f f_c f_k f f_h _ (hx2)) rfl) ?_
 iterate 2 refine AO.pu T ?_
 refine AO.nil (AW.ret ?_)
 have hR := someE hH; subst hR
 exact retQ.i [] rfl (.c (.c .v))

def impl_AreOfficials_c1_p (y : Official) (a : Official) : Option Bool :=
  some (y.number == a.number)
theorem impl_AreOfficials_c1_ok (y : Official) (a : Official) (r : Bool) (hH : impl_AreOfficials_c1_p y a = some r) : SpecR Tryz.prog 77 [.g (encOfficial y), .q (encOfficial a)] (.v (.bool r)) := by
 refine fn_ok T Tryz.func77 rfl (by decide) rfl ?_
 refine AW.seq (AW.region ?_)
 refine AO.step rfl (box_ok T rfl 1 rfl rfl rfl rfl) ?_
 refine AO.pu T ?_
 refine AO.nil (AW.seq ?_)
 refine AW.region ?_
 iterate 6 refine AO.pu T ?_
 refine AO.nil (AW.ret ?_)
 have hR := someE hH; subst hR
 exact retQ.i [] rfl (.c (.c .v))

def impl_AreOfficials_l1 (l : List Official) : List Official → Nat → Option Bool
  | [], k1 =>
    some (decide ((l.length : Int) ≤ 24))
  | y2 :: ys3, k1 =>
    (impl_isSkater_p y2.number).bind fun x28 =>
    (opt (!(!x28)) default (impl_within_p y2.club 1 20)).bind fun x30 =>
    (opt (!((!x28) || (!x30))) default (impl_within_p y2.level 1 3)).bind fun x32 =>
    cond (((!x28) || (!x30)) || (!x32))
      (some false)
      ((sliceHi l (k1 : Int)).bind fun x34 =>
      (slices_ContainsFunc_Official_p x34 (fun a0 => impl_AreOfficials_c1_p a0 y2)).bind fun x36 =>
      cond x36
        (some false)
        (impl_AreOfficials_l1 l ys3 (k1 + 1)))
def impl_AreOfficials_p (l : List Official) : Option Bool :=
  impl_AreOfficials_l1 l l 0
theorem impl_AreOfficials_ok (l : List Official) (r : Bool) (hH : impl_AreOfficials_p l = some r) : SpecR Tryz.prog 46 [.s (List.map encOfficial l)] (.v (.bool r)) := by
 refine fn_ok T Tryz.func46 rfl (by decide) rfl ?_
 refine AW.seq (AW.region ?_)
 refine AO.pu T ?_
 refine AO.nil ?_
 iterate 2 refine AW.seq ?_
 refine AW.region ?_
 refine AO.pu T ?_
 refine AO.val rfl rfl (len_map_ok T rfl rfl rfl) ?_
 refine AO.pu T ?_
 refine AO.nil ?_
 refine AW.block ?_
 refine AW.loopS (fun s : Nat => (⟨[(0, .s (List.map encOfficial l)), (5, .s (List.map encOfficial l)), (6, (l.length : Int)), (7, (s : Int))], [], 37, []⟩ : St)) (fun s => s ≤ l.length ∧ impl_AreOfficials_l1 l (l.drop s) s = some r) (fun s => l.length - s) 0 ⟨Nat.zero_le _, hH⟩ ?_ ?_
 exact Le.ct 0 0
 rintro k1 ⟨hk, hH⟩
 replace hH : impl_AreOfficials_l1 l (l.drop k1) k1 = some r := hH
 try dsimp only
 refine AW.boundM (t := 0) (l := l) rfl (fun hb5 => ?_)
 rcases hd4 : l.drop k1 with _ | ⟨y2, ys3⟩
 rw [hd4, impl_AreOfficials_l1] at hH
 have hlt6 := drop_ge hd4
 refine AW.seq (AW.region ?_)
 refine AO.pu T ?_
 refine AO.nil (AW.seq ?_)
 refine AW.condF' (b := decide ((k1 : Int) < (l.length : Int))) rfl (rngF hlt6) ?_
 refine AW.exit ?_
 refine AW.seq (AW.region ?_)
 refine AO.pu T ?_
 refine AO.val rfl rfl (len_map_ok T rfl rfl rfl) ?_
 iterate 2 refine AO.pu T ?_
 refine AO.nil (AW.ret ?_)
 have hR := someE hH; subst hR
 exact retQ.i [] rfl (.c (.c .v))
 rw [hd4, impl_AreOfficials_l1] at hH
 have hlt6 := drop_lt hd4
 refine AW.seq (AW.region ?_)
 refine AO.pu T ?_
 refine AO.nil (AW.seq ?_)
 refine AW.condT' (b := decide ((k1 : Int) < (l.length : Int))) rfl (rngT hlt6) ?_
 refine AW.skip ?_
 refine AW.seq ?_
 refine AW.block ?_
 refine AW.seq (AW.region ?_)
 refine AO.pu T ?_
 refine AO.val rfl rfl (ix_map_ok T rfl rfl rfl rfl rfl (getI_drop hd4) rfl) ?_
 refine AO.pu T (d := .g [y2.number, y2.club, y2.level]) ?_
 refine AO.step rfl (alloc_ok T rfl 3 rfl rfl rfl rfl rfl) ?_
 refine AO.pu T ?_
 refine AO.se T [y2.number, y2.club, y2.level] ?_
 refine AO.nil ?_
 iterate 2 refine AW.seq ?_
 obtain ⟨x28, hx29, hH⟩ := bindE hH
 obtain ⟨x30, hx31, hH⟩ := bindE hH
 obtain ⟨x32, hx33, hH⟩ := bindE hH
 refine AW.region ?_
 iterate 2 refine AO.pu T ?_
 refine AO.val rfl rfl (callV_ok rfl rfl rfl rfl (impl_isSkater_ok _ _ (hx29)) rfl) ?_
 iterate 2 refine AO.pu T ?_
 refine AO.pureG T [] rfl trivial rfl rfl ?_
 refine AO.pureG T [17] rfl ⟨fun h => h, trivial⟩ rfl rfl ?_
 refine AO.guard [18] rfl ⟨fun h => h, trivial⟩ (fun hg => callV_ok rfl rfl rfl rfl (impl_within_ok _ _ _ _ (optT hx31 hg)) rfl) rfl ?_
 refine AO.pureG T [19] rfl ⟨fun h => h, trivial⟩ rfl rfl ?_
 refine AO.val rfl rfl (pick_or rfl rfl rfl rfl) ?_
 refine AO.pu T ?_
 refine AO.pureG T [] rfl trivial rfl rfl ?_
 refine AO.pureG T [23] rfl ⟨fun h => h, trivial⟩ rfl rfl ?_
 refine AO.guard [24] rfl ⟨fun h => h, trivial⟩ (fun hg => callV_ok rfl rfl rfl rfl (impl_within_ok _ _ _ _ (optT hx33 hg)) rfl) rfl ?_
 refine AO.pureG T [25] rfl ⟨fun h => h, trivial⟩ rfl rfl ?_
 refine AO.val rfl rfl (pick_or rfl rfl rfl rfl) ?_
 refine AO.nil ?_
 refine AW.cond (b := (((!x28) || (!x30)) || (!x32))) rfl (fun hc => ?_) (fun hc => ?_)
 replace hH := condT hc hH
 refine AW.seq (AW.region ?_)
 refine AO.pu T ?_
 refine AO.nil ?_
 refine AW.le (Le.ct 0 0 (σ' := (⟨[(2, .v (.bool false))], [], 37, []⟩ : St))) ?_
 refine AW.ret ?_
 have hR := someE hH; subst hR
 exact retQ.i [] rfl (.c (.c .v))
 replace hH := condF hc hH
 refine AW.skip ?_
 refine AW.seq ?_
 obtain ⟨x34, hx35, hH⟩ := bindE hH
 obtain ⟨x36, hx37, hH⟩ := bindE hH
 refine AW.region ?_
 iterate 2 refine AO.pu T ?_
 refine AO.val rfl rfl (slice_hi_map_ok T rfl rfl rfl rfl rfl (hx35) (fun _ => rfl)) ?_
 refine AO.pu T ?_
 refine AO.val rfl rfl (callLV_ok rfl rfl rfl (es := [.s (List.map encOfficial x34), .f 77 [.q [y2.number, y2.club, y2.level]]]) ⟨.free rfl, lend_f (LendL.cons (Lend.boxF rfl rfl) LendL.nil), trivial⟩ (slices_ContainsFunc_Official_ok _ 77 [.q [y2.number, y2.club, y2.level]] rfl (fun a0 => impl_AreOfficials_c1_p a0 y2) (fun a0 q h => impl_AreOfficials_c1_ok a0 y2 q h) _ (hx37)) (zfree_v _) rfl) ?_
 refine AO.nil ?_
 refine AW.le (Le.ct 0 0 (σ' := (⟨[(0, .s (List.map encOfficial l)), (5, .s (List.map encOfficial l)), (6, (l.length : Int)), (7, (k1 : Int)), (32, .v (.bool x36))], [], 37, []⟩ : St))) ?_
 refine AW.cond (b := x36) rfl (fun hc => ?_) (fun hc => ?_)
 replace hH := condT hc hH
 refine AW.seq (AW.region ?_)
 refine AO.pu T ?_
 refine AO.nil (AW.ret ?_)
 have hR := someE hH; subst hR
 exact retQ.i [] rfl (.c (.c .v))
 replace hH := condF hc hH
 refine AW.skip ?_
 refine AW.region ?_
 refine AO.val rfl rfl (ar_ok rfl rfl rfl rfl (inI_succ hlt6 hb5)) ?_
 refine AO.pu T ?_
 refine AO.nil ?_
 refine ⟨k1 + 1, ⟨Nat.succ_le_of_lt hlt6, (by rw [drop_succ_of hd4]; exact hH)⟩, (by have := hlt6; dsimp only; omega), ?_⟩
 exact Le.ct 0 0

def impl_isIncreasing_l1 (l : List Int) (n : Int) : List Int → Nat → Option Bool
  | [], k1 =>
    some true
  | y2 :: ys3, k1 =>
    (impl_within_p y2 0 (w64 (n - 1))).bind fun x16 =>
    (opt ((!(!x16)) && decide ((k1 : Int) > 0)) default (getI l (w64 ((k1 : Int) - 1)))).bind fun x18 =>
    cond ((!x16) || (decide ((k1 : Int) > 0) && decide (x18 ≥ y2)))
      (some false)
      (impl_isIncreasing_l1 l n ys3 (k1 + 1))
def impl_isIncreasing_p (l : List Int) (n : Int) : Option Bool :=
  impl_isIncreasing_l1 l n l 0
theorem impl_isIncreasing_ok (l : List Int) (n : Int) (r : Bool) (hH : impl_isIncreasing_p l n = some r) : SpecR Tryz.prog 59 [.s (List.map encInt l), n] (.v (.bool r)) := by
 refine fn_ok T Tryz.func59 rfl (by decide) rfl ?_
 refine AW.seq (AW.region ?_)
 refine AO.pu T ?_
 refine AO.nil ?_
 iterate 2 refine AW.seq ?_
 refine AW.region ?_
 refine AO.pu T ?_
 refine AO.val rfl rfl (len_map_ok T rfl rfl rfl) ?_
 refine AO.pu T ?_
 refine AO.nil ?_
 refine AW.block ?_
 refine AW.loopS (fun s : Nat => (⟨[(0, .s (List.map encInt l)), (1, n), (7, .s (List.map encInt l)), (8, (l.length : Int)), (9, (s : Int))], [], 33, []⟩ : St)) (fun s => s ≤ l.length ∧ impl_isIncreasing_l1 l n (l.drop s) s = some r) (fun s => l.length - s) 0 ⟨Nat.zero_le _, hH⟩ ?_ ?_
 exact Le.ct 0 0
 rintro k1 ⟨hk, hH⟩
 replace hH : impl_isIncreasing_l1 l n (l.drop k1) k1 = some r := hH
 try dsimp only
 refine AW.boundM (t := 0) (l := l) rfl (fun hb5 => ?_)
 rcases hd4 : l.drop k1 with _ | ⟨y2, ys3⟩
 rw [hd4, impl_isIncreasing_l1] at hH
 have hlt6 := drop_ge hd4
 refine AW.seq (AW.region ?_)
 refine AO.pu T ?_
 refine AO.nil (AW.seq ?_)
 refine AW.condF' (b := decide ((k1 : Int) < (l.length : Int))) rfl (rngF hlt6) ?_
 refine AW.exit ?_
 refine AW.seq (AW.region ?_)
 refine AO.pu T ?_
 refine AO.nil (AW.ret ?_)
 have hR := someE hH; subst hR
 exact retQ.i [] rfl (.c (.c .v))
 rw [hd4, impl_isIncreasing_l1] at hH
 have hlt6 := drop_lt hd4
 refine AW.seq (AW.region ?_)
 refine AO.pu T ?_
 refine AO.nil (AW.seq ?_)
 refine AW.condT' (b := decide ((k1 : Int) < (l.length : Int))) rfl (rngT hlt6) ?_
 refine AW.skip ?_
 refine AW.seq ?_
 refine AW.block ?_
 refine AW.seq (AW.region ?_)
 refine AO.pu T ?_
 refine AO.val rfl rfl (ix_map_ok T rfl rfl rfl rfl rfl (getI_drop hd4) rfl) ?_
 iterate 3 refine AO.pu T ?_
 refine AO.nil (AW.seq ?_)
 obtain ⟨x16, hx17, hH⟩ := bindE hH
 obtain ⟨x18, hx19, hH⟩ := bindE hH
 refine AW.region ?_
 iterate 2 refine AO.pu T ?_
 refine AO.val rfl rfl (arw_ok rfl rfl rfl rfl) ?_
 refine AO.val rfl rfl (callV_ok rfl rfl rfl rfl (impl_within_ok _ _ _ _ (hx17)) rfl) ?_
 iterate 2 refine AO.pu T ?_
 refine AO.pureG T [] rfl trivial rfl rfl ?_
 refine AO.pureG T [20] rfl ⟨fun h => h, trivial⟩ rfl rfl ?_
 refine AO.pureG T [21] rfl ⟨fun h => h, trivial⟩ rfl rfl ?_
 iterate 2 refine AO.pureG T [] rfl trivial rfl rfl ?_
 refine AO.guard [24] rfl ⟨fun h => h, trivial⟩ (fun hg => arw_ok rfl rfl rfl rfl) rfl ?_
 refine AO.guard [23, 25] rfl ⟨fun h => h, fun h => h, trivial⟩ (fun hg => ix_map_ok T rfl rfl rfl rfl rfl (optT hx19 hg) rfl) rfl ?_
 refine AO.pureG T [26] rfl ⟨fun h => h, trivial⟩ rfl rfl ?_
 refine AO.pureG T [] rfl trivial rfl rfl ?_
 refine AO.pureG T [27, 28] rfl ⟨fun h => h, fun h => h, trivial⟩ rfl rfl ?_
 refine AO.guard [22] rfl ⟨fun h => h, trivial⟩ (fun hg => pick_and rfl rfl rfl (by rw [hg]; exact Bool.true_and _)) rfl ?_
 refine AO.val rfl rfl (pick_or rfl rfl rfl rfl) ?_
 refine AO.nil ?_
 refine AW.le (Le.ct 0 0 (σ' := (⟨[(0, .s (List.map encInt l)), (1, n), (7, .s (List.map encInt l)), (8, (l.length : Int)), (9, (k1 : Int)), (31, .v (.bool ((!x16) || (decide ((k1 : Int) > 0) && decide (x18 ≥ y2)))))], [], 33, []⟩ : St))) ?_
 refine AW.cond (b := ((!x16) || (decide ((k1 : Int) > 0) && decide (x18 ≥ y2)))) rfl (fun hc => ?_) (fun hc => ?_)
 replace hH := condT hc hH
 refine AW.seq (AW.region ?_)
 refine AO.pu T ?_
 refine AO.nil (AW.ret ?_)
 have hR := someE hH; subst hR
 exact retQ.i [] rfl (.c (.c .v))
 replace hH := condF hc hH
 refine AW.skip ?_
 refine AW.region ?_
 refine AO.val rfl rfl (ar_ok rfl rfl rfl rfl (inI_succ hlt6 hb5)) ?_
 refine AO.pu T ?_
 refine AO.nil ?_
 refine ⟨k1 + 1, ⟨Nat.succ_le_of_lt hlt6, (by rw [drop_succ_of hd4]; exact hH)⟩, (by have := hlt6; dsimp only; omega), ?_⟩
 exact Le.ct 0 0

def slices_Index_int_l1 (v : Int) : List Int → Nat → Option Int
  | [], k1 =>
    some (-1)
  | y2 :: ys3, k1 =>
    cond (v == y2)
      (some (k1 : Int))
      (slices_Index_int_l1 v ys3 (k1 + 1))
def slices_Index_int_p (sA : List Int) (v : Int) : Option Int :=
  slices_Index_int_l1 v sA 0
theorem slices_Index_int_ok (sA : List Int) (v : Int) (r : Int) (hH : slices_Index_int_p sA v = some r) : SpecR Tryz.prog 70 [.s (List.map encInt sA), v] (.v (.int .i64 r)) := by
 refine fn_ok T Tryz.func70 rfl (by decide) rfl ?_
 refine AW.seq (AW.region ?_)
 refine AO.pu T ?_
 refine AO.nil ?_
 iterate 2 refine AW.seq ?_
 refine AW.region ?_
 refine AO.pu T ?_
 refine AO.val rfl rfl (len_map_ok T rfl rfl rfl) ?_
 refine AO.pu T ?_
 refine AO.nil ?_
 refine AW.block ?_
 refine AW.loopS (fun s : Nat => (⟨[(0, .s (List.map encInt sA)), (1, v), (7, (sA.length : Int)), (8, (s : Int))], [], 19, []⟩ : St)) (fun s => s ≤ sA.length ∧ slices_Index_int_l1 v (sA.drop s) s = some r) (fun s => sA.length - s) 0 ⟨Nat.zero_le _, hH⟩ ?_ ?_
 exact Le.ct 0 0
 rintro k1 ⟨hk, hH⟩
 replace hH : slices_Index_int_l1 v (sA.drop k1) k1 = some r := hH
 try dsimp only
 refine AW.boundM (t := 0) (l := sA) rfl (fun hb5 => ?_)
 rcases hd4 : sA.drop k1 with _ | ⟨y2, ys3⟩
 rw [hd4, slices_Index_int_l1] at hH
 have hlt6 := drop_ge hd4
 refine AW.seq (AW.region ?_)
 refine AO.pu T ?_
 refine AO.nil (AW.seq ?_)
 refine AW.condF' (b := decide ((k1 : Int) < (sA.length : Int))) rfl (rngF hlt6) ?_
 refine AW.exit ?_
 refine AW.seq (AW.region ?_)
 refine AO.pu T ?_
 refine AO.nil (AW.ret ?_)
 have hR := someE hH; subst hR
 exact retQ.i [] rfl (.c (.c .v))
 rw [hd4, slices_Index_int_l1] at hH
 have hlt6 := drop_lt hd4
 refine AW.seq (AW.region ?_)
 refine AO.pu T ?_
 refine AO.nil (AW.seq ?_)
 refine AW.condT' (b := decide ((k1 : Int) < (sA.length : Int))) rfl (rngT hlt6) ?_
 refine AW.skip ?_
 refine AW.seq ?_
 refine AW.block ?_
 refine AW.seq (AW.region ?_)
 iterate 2 refine AO.pu T ?_
 refine AO.nil (AW.seq ?_)
 refine AW.region ?_
 iterate 3 refine AO.pu T ?_
 refine AO.val rfl rfl (ix_map_ok T rfl rfl rfl rfl rfl (getI_drop hd4) rfl) ?_
 iterate 2 refine AO.pu T ?_
 refine AO.nil ?_
 refine AW.cond (b := (v == y2)) rfl (fun hc => ?_) (fun hc => ?_)
 replace hH := condT hc hH
 refine AW.seq (AW.region ?_)
 iterate 2 refine AO.pu T ?_
 refine AO.nil (AW.ret ?_)
 have hR := someE hH; subst hR
 exact retQ.i [] rfl (.c (.c .v))
 replace hH := condF hc hH
 refine AW.skip ?_
 refine AW.region ?_
 refine AO.val rfl rfl (ar_ok rfl rfl rfl rfl (inI_succ hlt6 hb5)) ?_
 refine AO.pu T ?_
 refine AO.nil ?_
 refine ⟨k1 + 1, ⟨Nat.succ_le_of_lt hlt6, (by rw [drop_succ_of hd4]; exact hH)⟩, (by have := hlt6; dsimp only; omega), ?_⟩
 exact Le.ct 0 0

def slices_Contains_int_p (sA : List Int) (v : Int) : Option Bool :=
  (slices_Index_int_p sA v).bind fun x1 =>
  some (decide (x1 ≥ 0))
theorem slices_Contains_int_ok (sA : List Int) (v : Int) (r : Bool) (hH : slices_Contains_int_p sA v = some r) : SpecR Tryz.prog 31 [.s (List.map encInt sA), v] (.v (.bool r)) := by
 refine fn_ok T Tryz.func31 rfl (by decide) rfl ?_
 refine AW.seq (AW.region ?_)
 refine AO.pu T ?_
 refine AO.nil (AW.seq ?_)
 obtain ⟨x1, hx2, hH⟩ := bindE hH
 refine AW.region ?_
 iterate 2 refine AO.pu T ?_
 refine AO.val rfl rfl (callV_ok rfl rfl rfl rfl (slices_Index_int_ok _ _ _ (hx2)) rfl) ?_
 iterate 2 refine AO.pu T ?_
 refine AO.nil (AW.ret ?_)
 have hR := someE hH; subst hR
 exact retQ.i [] rfl (.c (.c .v))

def impl_areConflicts_p (clubs : List Int) : Option Bool :=
  (impl_isIncreasing_p clubs 21).bind fun x1 =>
  (opt x1 default (slices_Contains_int_p clubs 0)).bind fun x3 =>
  some (x1 && (!x3))
theorem impl_areConflicts_ok (clubs : List Int) (r : Bool) (hH : impl_areConflicts_p clubs = some r) : SpecR Tryz.prog 68 [.s (List.map encInt clubs)] (.v (.bool r)) := by
 refine fn_ok T Tryz.func68 rfl (by decide) rfl ?_
 refine AW.seq (AW.region ?_)
 refine AO.pu T ?_
 refine AO.nil (AW.seq ?_)
 obtain ⟨x1, hx2, hH⟩ := bindE hH
 obtain ⟨x3, hx4, hH⟩ := bindE hH
 refine AW.region ?_
 refine AO.pu T ?_
 refine AO.val rfl rfl (callV_ok rfl rfl rfl rfl (impl_isIncreasing_ok _ _ _ (hx2)) rfl) ?_
 refine AO.pu T ?_
 refine AO.pureG T [] rfl trivial rfl rfl ?_
 refine AO.guard [6] rfl ⟨fun h => h, trivial⟩ (fun hg => callV_ok rfl rfl rfl rfl (slices_Contains_int_ok _ _ _ (optT hx4 hg)) rfl) rfl ?_
 refine AO.pureG T [7] rfl ⟨fun h => h, trivial⟩ rfl rfl ?_
 refine AO.val rfl rfl (pick_and rfl rfl rfl rfl) ?_
 refine AO.pu T ?_
 refine AO.nil (AW.ret ?_)
 have hR := someE hH; subst hR
 exact retQ.i [] rfl (.c (.c .v))

def impl_canPanel_p (l : List Official) (clubs : List Int) (level : Int) (most : Int) : Option Bool :=
  (impl_AreOfficials_p l).bind fun x1 =>
  (opt x1 default (impl_areConflicts_p clubs)).bind fun x3 =>
  (opt (x1 && x3) default (impl_within_p level 1 3)).bind fun x5 =>
  (opt ((x1 && x3) && x5) default (impl_within_p most 1 9)).bind fun x7 =>
  some (((x1 && x3) && x5) && x7)
theorem impl_canPanel_ok (l : List Official) (clubs : List Int) (level : Int) (most : Int) (r : Bool) (hH : impl_canPanel_p l clubs level most = some r) : SpecR Tryz.prog 29 [.s (List.map encOfficial l), .s (List.map encInt clubs), level, most] (.v (.bool r)) := by
 refine fn_ok T Tryz.func29 rfl (by decide) rfl ?_
 refine AW.seq (AW.region ?_)
 refine AO.pu T ?_
 refine AO.nil (AW.seq ?_)
 obtain ⟨x1, hx2, hH⟩ := bindE hH
 obtain ⟨x3, hx4, hH⟩ := bindE hH
 obtain ⟨x5, hx6, hH⟩ := bindE hH
 obtain ⟨x7, hx8, hH⟩ := bindE hH
 refine AW.region ?_
 refine AO.pu T ?_
 refine AO.val rfl rfl (callV_ok rfl rfl rfl rfl (impl_AreOfficials_ok _ _ (hx2)) rfl) ?_
 refine AO.pu T ?_
 refine AO.pureG T [] rfl trivial rfl rfl ?_
 refine AO.guard [12] rfl ⟨fun h => h, trivial⟩ (fun hg => callV_ok rfl rfl rfl rfl (impl_areConflicts_ok _ _ (optT hx4 hg)) rfl) rfl ?_
 refine AO.val rfl rfl (pick_and rfl rfl rfl rfl) ?_
 refine AO.pu T ?_
 refine AO.pureG T [] rfl trivial rfl rfl ?_
 refine AO.guard [16] rfl ⟨fun h => h, trivial⟩ (fun hg => callV_ok rfl rfl rfl rfl (impl_within_ok _ _ _ _ (optT hx6 hg)) rfl) rfl ?_
 refine AO.val rfl rfl (pick_and rfl rfl rfl rfl) ?_
 refine AO.pu T ?_
 refine AO.pureG T [] rfl trivial rfl rfl ?_
 refine AO.guard [20] rfl ⟨fun h => h, trivial⟩ (fun hg => callV_ok rfl rfl rfl rfl (impl_within_ok _ _ _ _ (optT hx8 hg)) rfl) rfl ?_
 refine AO.val rfl rfl (pick_and rfl rfl rfl rfl) ?_
 refine AO.pu T ?_
 refine AO.nil (AW.ret ?_)
 have hR := someE hH; subst hR
 exact retQ.i [] rfl (.c (.c .v))

def slices_Sort_int_p (x : List Int) : Option (List Int) := (need (Nat.blt x.length 4611686018427387904)).bind fun _ => some (sortI x)
theorem slices_Sort_int_ok (x : List Int) (r : List Int) (hH : slices_Sort_int_p x = some r) : SpecM Tryz.prog 35 [.w 1 (x.map encInt)] [.w 1 (r.map encInt)] (.t []) := by
  obtain ⟨u, hu, hr⟩ := bindE hH
  cases someE hr
  exact spec_sortI ⟨_, Tryz.func35, rfl, by decide⟩ Tryz.slices_Sort_int Tryz.slices_Sort_int_none x (Nat.le_of_ble_eq_true (needT hu))

def impl_eligible_l1 (clubs : List Int) (level : Int) : List Official → Nat → List Int → Option ((List Int))
  | [], k1, v16 =>
    (slices_Sort_int_p v16).bind fun x18 =>
    some x18
  | y2 :: ys3, k1, v16 =>
    (opt (decide (y2.level ≥ level)) default (slices_Contains_int_p clubs y2.club)).bind fun x20 =>
    cond (decide (y2.level ≥ level) && (!x20))
      ((need (fitsB 8 (v16.length + ([y2.number]).length))).bind fun u22 =>
      impl_eligible_l1 clubs level ys3 (k1 + 1) (v16 ++ [y2.number]))
      (impl_eligible_l1 clubs level ys3 (k1 + 1) v16)
def impl_eligible_p (l : List Official) (clubs : List Int) (level : Int) : Option (List Int) :=
  impl_eligible_l1 clubs level l 0 []
theorem impl_eligible_ok (l : List Official) (clubs : List Int) (level : Int) (r : (List Int)) (hH : impl_eligible_p l clubs level = some r) : SpecR Tryz.prog 33 [.s (List.map encOfficial l), .s (List.map encInt clubs), level] (.w 1 (r.map encInt)) := by
 refine fn_ok T Tryz.func33 rfl (by decide) rfl ?_
 refine AW.seq (AW.region ?_)
 refine AO.pu T ?_
 refine AO.nil (AW.seq ?_)
 refine AW.region ?_
 refine AO.step rfl (mk0_ok T rfl rfl rfl rfl) ?_
 refine AO.pu T ?_
 refine AO.nil ?_
 iterate 2 refine AW.seq ?_
 refine AW.region ?_
 refine AO.pu T ?_
 refine AO.val rfl rfl (len_map_ok T rfl rfl rfl) ?_
 refine AO.pu T ?_
 refine AO.nil ?_
 refine AW.block ?_
 refine AW.loopS (fun s : Nat × (List Int) => (⟨[(1, .s (List.map encInt clubs)), (2, level), (7, .R 6), (11, .s (List.map encOfficial l)), (12, (l.length : Int)), (13, (s.1 : Int))], [(6, .row 1 (List.map encInt s.2))], 37, []⟩ : St)) (fun s => s.1 ≤ l.length ∧ impl_eligible_l1 clubs level (l.drop s.1) s.1 s.2 = some r) (fun s => l.length - s.1) (0, []) ⟨Nat.zero_le _, hH⟩ ?_ ?_
 refine Le.trans (Le.void 7 6 1 rfl rfl) ?_
 exact Le.ct 0 0
 rintro ⟨k1, v16⟩ ⟨hk, hH⟩
 replace hH : impl_eligible_l1 clubs level (l.drop k1) k1 v16 = some r := hH
 try dsimp only
 refine AW.boundM (t := 11) (l := l) rfl (fun hb5 => ?_)
 rcases hd4 : l.drop k1 with _ | ⟨y2, ys3⟩
 rw [hd4, impl_eligible_l1] at hH
 have hlt6 := drop_ge hd4
 refine AW.seq (AW.region ?_)
 refine AO.pu T ?_
 refine AO.nil (AW.seq ?_)
 refine AW.condF' (b := decide ((k1 : Int) < (l.length : Int))) rfl (rngF hlt6) ?_
 refine AW.exit ?_
 refine AW.seq ?_
 obtain ⟨x18, hx19, hH⟩ := bindE hH
 refine AW.region ?_
 refine AO.pu T ?_
 refine AO.step rfl (callM_ok rfl 7 rfl rfl (es := [.w 1 (v16.map encInt)]) (outs := [.w 1 (x18.map encInt)]) (ids := [6]) (by exact expLG_cons (.c (.rowR rfl)) (expLG_nil)) (by decide) (.inl (by rfl)) (by rfl) (slices_Sort_int_ok _ _ (hx19)) rfl (by rfl) rfl) ?_
 refine AO.nil (AW.seq ?_)
 refine AW.region ?_
 iterate 2 refine AO.pu T ?_
 refine AO.nil (AW.ret ?_)
 have hR := someE hH; subst hR
 exact retQ.i [6] rfl (.c (.c (.rowR rfl)))
 rw [hd4, impl_eligible_l1] at hH
 have hlt6 := drop_lt hd4
 refine AW.seq (AW.region ?_)
 refine AO.pu T ?_
 refine AO.nil (AW.seq ?_)
 refine AW.condT' (b := decide ((k1 : Int) < (l.length : Int))) rfl (rngT hlt6) ?_
 refine AW.skip ?_
 refine AW.seq ?_
 refine AW.block ?_
 refine AW.seq (AW.region ?_)
 refine AO.val rfl rfl (ix_map_ok T rfl rfl rfl rfl rfl (getI_drop hd4) rfl) ?_
 refine AO.pu T (d := .g [y2.number, y2.club, y2.level]) ?_
 refine AO.step rfl (alloc_ok T rfl 7 rfl rfl rfl rfl rfl) ?_
 refine AO.se T [y2.number, y2.club, y2.level] ?_
 refine AO.nil (AW.seq ?_)
 obtain ⟨x20, hx21, hH⟩ := bindE hH
 refine AW.region ?_
 iterate 5 refine AO.pu T ?_
 iterate 2 refine AO.pureG T [] rfl trivial rfl rfl ?_
 refine AO.pureG T [23] rfl ⟨fun h => h, trivial⟩ rfl rfl ?_
 refine AO.guard [22, 24] rfl ⟨fun h => h, fun h => h, trivial⟩ (fun hg => callV_ok rfl rfl rfl rfl (slices_Contains_int_ok _ _ _ (optT hx21 hg)) rfl) rfl ?_
 refine AO.pureG T [25] rfl ⟨fun h => h, trivial⟩ rfl rfl ?_
 refine AO.val rfl rfl (pick_and rfl rfl rfl rfl) ?_
 refine AO.nil ?_
 refine AW.cond (b := (decide (y2.level ≥ level) && (!x20))) rfl (fun hc => ?_) (fun hc => ?_)
 replace hH := condT hc hH
 obtain ⟨u22, hx23, hH⟩ := bindE hH
 refine AW.region ?_
 iterate 3 refine AO.pu T ?_
 refine AO.step rfl (mk_map_ok T rfl 8 rfl rfl rfl rfl rfl (f := encInt) (l := [y2.number]) rfl rfl (fun _ => rfl) rfl rfl rfl rfl rfl) ?_
 refine AO.step rfl (app_rv_map T rfl 9 rfl rfl rfl rfl rfl (by decide) rfl rfl rfl rfl (fun _ => rfl) (needT (hx23)) rfl rfl) ?_
 refine AO.pu T ?_
 refine AO.nil ?_
 refine AW.region ?_
 refine AO.val rfl rfl (ar_ok rfl rfl rfl rfl (inI_succ hlt6 hb5)) ?_
 refine AO.pu T ?_
 refine AO.nil ?_
 refine ⟨(k1 + 1, (v16 ++ [y2.number])), ⟨Nat.succ_le_of_lt hlt6, (by rw [drop_succ_of hd4]; exact hH)⟩, (by have := hlt6; dsimp only; omega), ?_⟩
 exact Le.ct 9 6
 replace hH := condF hc hH
 refine AW.skip ?_
 refine AW.region ?_
 refine AO.val rfl rfl (ar_ok rfl rfl rfl rfl (inI_succ hlt6 hb5)) ?_
 refine AO.pu T ?_
 refine AO.nil ?_
 refine ⟨(k1 + 1, v16), ⟨Nat.succ_le_of_lt hlt6, (by rw [drop_succ_of hd4]; exact hH)⟩, (by have := hlt6; dsimp only; omega), ?_⟩
 exact Le.ct 0 0

def impl_clubOf_l1 (number : Int) : List Official → Nat → Option Int
  | [], k1 =>
    some 0
  | y2 :: ys3, k1 =>
    cond (y2.number == number)
      (some y2.club)
      (impl_clubOf_l1 number ys3 (k1 + 1))
def impl_clubOf_p (l : List Official) (number : Int) : Option Int :=
  impl_clubOf_l1 number l 0
theorem impl_clubOf_ok (l : List Official) (number : Int) (r : Int) (hH : impl_clubOf_p l number = some r) : SpecR Tryz.prog 60 [.s (List.map encOfficial l), number] (.v (.int .i64 r)) := by
 refine fn_ok T Tryz.func60 rfl (by decide) rfl ?_
 refine AW.seq (AW.region ?_)
 refine AO.pu T ?_
 refine AO.nil ?_
 iterate 2 refine AW.seq ?_
 refine AW.region ?_
 refine AO.pu T ?_
 refine AO.val rfl rfl (len_map_ok T rfl rfl rfl) ?_
 refine AO.pu T ?_
 refine AO.nil ?_
 refine AW.block ?_
 refine AW.loopS (fun s : Nat => (⟨[(1, number), (7, .s (List.map encOfficial l)), (8, (l.length : Int)), (9, (s : Int))], [], 20, []⟩ : St)) (fun s => s ≤ l.length ∧ impl_clubOf_l1 number (l.drop s) s = some r) (fun s => l.length - s) 0 ⟨Nat.zero_le _, hH⟩ ?_ ?_
 exact Le.ct 0 0
 rintro k1 ⟨hk, hH⟩
 replace hH : impl_clubOf_l1 number (l.drop k1) k1 = some r := hH
 try dsimp only
 refine AW.boundM (t := 7) (l := l) rfl (fun hb5 => ?_)
 rcases hd4 : l.drop k1 with _ | ⟨y2, ys3⟩
 rw [hd4, impl_clubOf_l1] at hH
 have hlt6 := drop_ge hd4
 refine AW.seq (AW.region ?_)
 refine AO.pu T ?_
 refine AO.nil (AW.seq ?_)
 refine AW.condF' (b := decide ((k1 : Int) < (l.length : Int))) rfl (rngF hlt6) ?_
 refine AW.exit ?_
 refine AW.seq (AW.region ?_)
 refine AO.pu T ?_
 refine AO.nil (AW.ret ?_)
 have hR := someE hH; subst hR
 exact retQ.i [] rfl (.c (.c .v))
 rw [hd4, impl_clubOf_l1] at hH
 have hlt6 := drop_lt hd4
 refine AW.seq (AW.region ?_)
 refine AO.pu T ?_
 refine AO.nil (AW.seq ?_)
 refine AW.condT' (b := decide ((k1 : Int) < (l.length : Int))) rfl (rngT hlt6) ?_
 refine AW.skip ?_
 refine AW.seq ?_
 refine AW.block ?_
 refine AW.seq (AW.region ?_)
 refine AO.val rfl rfl (ix_map_ok T rfl rfl rfl rfl rfl (getI_drop hd4) rfl) ?_
 refine AO.pu T (d := .g [y2.number, y2.club, y2.level]) ?_
 refine AO.step rfl (alloc_ok T rfl 3 rfl rfl rfl rfl rfl) ?_
 refine AO.se T [y2.number, y2.club, y2.level] ?_
 refine AO.nil (AW.seq ?_)
 refine AW.region ?_
 iterate 4 refine AO.pu T ?_
 refine AO.nil ?_
 refine AW.cond (b := (y2.number == number)) rfl (fun hc => ?_) (fun hc => ?_)
 replace hH := condT hc hH
 refine AW.seq (AW.region ?_)
 iterate 3 refine AO.pu T ?_
 refine AO.nil (AW.ret ?_)
 have hR := someE hH; subst hR
 exact retQ.i [] rfl (.c (.c .v))
 replace hH := condF hc hH
 refine AW.skip ?_
 refine AW.region ?_
 refine AO.val rfl rfl (ar_ok rfl rfl rfl rfl (inI_succ hlt6 hb5)) ?_
 refine AO.pu T ?_
 refine AO.nil ?_
 refine ⟨k1 + 1, ⟨Nat.succ_le_of_lt hlt6, (by rw [drop_succ_of hd4]; exact hH)⟩, (by have := hlt6; dsimp only; omega), ?_⟩
 exact Le.ct 0 0

def impl_clubSizes_l1 (l : List Official) : List Int → Nat → List Int → Option ((List Int))
  | [], k3, v18 =>
    some v18
  | y4 :: ys5, k3, v18 =>
    (impl_clubOf_p l y4).bind fun x20 =>
    (getI v18 x20).bind fun x22 =>
    impl_clubSizes_l1 l ys5 (k3 + 1) (v18.set x20.toNat (w64 (x22 + 1)))
def impl_clubSizes_p (l : List Official) (numbers : List Int) : Option (List Int) :=
  (need (decide (0 ≤ 21) && fitsB 8 (21 : Int).toNat)).bind fun u1 =>
  impl_clubSizes_l1 l numbers 0 (List.replicate (21 : Int).toNat (0 : Int))
theorem impl_clubSizes_ok (l : List Official) (numbers : List Int) (r : (List Int)) (hH : impl_clubSizes_p l numbers = some r) : SpecR Tryz.prog 56 [.s (List.map encOfficial l), .s (List.map encInt numbers)] (.w 1 (r.map encInt)) := by
 refine fn_ok T Tryz.func56 rfl (by decide) rfl ?_
 refine AW.seq (AW.region ?_)
 refine AO.pu T ?_
 refine AO.nil (AW.seq ?_)
 obtain ⟨u1, hx2, hH⟩ := bindE hH
 refine AW.region ?_
 refine AO.step rfl (make_map_ok T rfl 1 rfl rfl rfl rfl rfl (f := encInt) (zo := 0) (by repeat constructor) (by decide) rfl rfl (Bool.and_eq_true_iff.1 (needT (hx2))).1 (Bool.and_eq_true_iff.1 (needT (hx2))).2 rfl rfl) ?_
 refine AO.pu T ?_
 refine AO.nil ?_
 iterate 2 refine AW.seq ?_
 refine AW.region ?_
 refine AO.pu T ?_
 refine AO.val rfl rfl (len_map_ok T rfl rfl rfl) ?_
 refine AO.pu T ?_
 refine AO.nil ?_
 refine AW.block ?_
 refine AW.loopS (fun s : Nat × (List Int) => (⟨[(0, .s (List.map encOfficial l)), (5, .R 1), (9, .s (List.map encInt numbers)), (10, (numbers.length : Int)), (11, (s.1 : Int))], [(1, .row 1 (List.map encInt s.2))], 25, []⟩ : St)) (fun s => s.1 ≤ numbers.length ∧ impl_clubSizes_l1 l (numbers.drop s.1) s.1 s.2 = some r) (fun s => numbers.length - s.1) (0, (List.replicate (21 : Int).toNat (0 : Int))) ⟨Nat.zero_le _, hH⟩ ?_ ?_
 exact Le.ct 0 0
 rintro ⟨k3, v18⟩ ⟨hk, hH⟩
 replace hH : impl_clubSizes_l1 l (numbers.drop k3) k3 v18 = some r := hH
 try dsimp only
 refine AW.boundM (t := 9) (l := numbers) rfl (fun hb7 => ?_)
 rcases hd6 : numbers.drop k3 with _ | ⟨y4, ys5⟩
 rw [hd6, impl_clubSizes_l1] at hH
 have hlt8 := drop_ge hd6
 refine AW.seq (AW.region ?_)
 refine AO.pu T ?_
 refine AO.nil (AW.seq ?_)
 refine AW.condF' (b := decide ((k3 : Int) < (numbers.length : Int))) rfl (rngF hlt8) ?_
 refine AW.exit ?_
 refine AW.seq (AW.region ?_)
 iterate 2 refine AO.pu T ?_
 refine AO.nil (AW.ret ?_)
 have hR := someE hH; subst hR
 exact retQ.i [1] rfl (.c (.c (.rowR rfl)))
 rw [hd6, impl_clubSizes_l1] at hH
 have hlt8 := drop_lt hd6
 refine AW.seq (AW.region ?_)
 refine AO.pu T ?_
 refine AO.nil (AW.seq ?_)
 refine AW.condT' (b := decide ((k3 : Int) < (numbers.length : Int))) rfl (rngT hlt8) ?_
 refine AW.skip ?_
 refine AW.seq ?_
 refine AW.block ?_
 refine AW.seq (AW.region ?_)
 refine AO.val rfl rfl (ix_map_ok T rfl rfl rfl rfl rfl (getI_drop hd6) rfl) ?_
 iterate 2 refine AO.pu T ?_
 refine AO.nil ?_
 obtain ⟨x20, hx21, hH⟩ := bindE hH
 obtain ⟨x22, hx23, hH⟩ := bindE hH
 refine AW.region ?_
 iterate 3 refine AO.pu T ?_
 refine AO.val rfl rfl (callV_ok rfl rfl rfl rfl (impl_clubOf_ok _ _ _ (hx21)) rfl) ?_
 refine AO.val rfl rfl (ix_row_ok T rfl rfl rfl rfl rfl rfl (hx23)) ?_
 refine AO.val rfl rfl (load_row_ok T rfl rfl rfl rfl (getI_get (hx23)) rfl rfl rfl) ?_
 refine AO.val rfl rfl (arw_ok rfl rfl rfl rfl) ?_
 refine AO.val rfl rfl (ix_row_ok T rfl rfl rfl rfl rfl rfl (hx23)) ?_
 refine AO.step rfl (store_row_ok T rfl rfl rfl rfl rfl (getI_get (hx23)) rfl rfl rfl rfl (u' := w64 (x22 + 1)) rfl rfl) ?_
 refine AO.nil ?_
 refine AW.region ?_
 refine AO.val rfl rfl (ar_ok rfl rfl rfl rfl (inI_succ hlt8 hb7)) ?_
 refine AO.pu T ?_
 refine AO.nil ?_
 refine ⟨(k3 + 1, (v18.set x20.toNat (w64 (x22 + 1)))), ⟨Nat.succ_le_of_lt hlt8, (by rw [drop_succ_of hd6]; exact hH)⟩, (by have := hlt8; dsimp only; omega), ?_⟩
 exact Le.ct 0 0

end Go.Proofs.YtegdphhfimaieacGreat

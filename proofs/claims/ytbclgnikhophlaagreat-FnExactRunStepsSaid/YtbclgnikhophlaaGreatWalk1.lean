/- The walk, part 1: what each function reached by the law FnExactRunSteps computes. No condition. -/
import Derived.Test.YtbclgnikhophlaaGreatAm3
import Derived.Test.YtbclgnikhophlaaGreatShelf
import Derived.Test.YtbclgnikhophlaaGreatProg
set_option maxRecDepth 4000
set_option maxHeartbeats 1000000
set_option linter.unusedVariables false
set_option linter.unusedSimpArgs false
set_option linter.unusedSectionVars false

namespace Go.Proofs.YtbclgnikhophlaaGreat
open Go.AM
def teL : List (Option TI) := [
  none,
  none,
  some ⟨.int .i64, 1, 8, some (.int .i64 0)⟩,
  some ⟨.int .i64, 1, 8, some (.int .i64 0)⟩,
  some ⟨.bool, 1, 1, some (.bool false)⟩,
  some ⟨.int .u8, 1, 1, some (.int .u8 0)⟩,
  some ⟨.int .u8, 1, 1, some (.int .u8 0)⟩,
  some ⟨.struct [(0, 2), (1, 3), (2, 4), (3, 6)], 4, 24, some (.agg #[.int .i64 0, .int .i64 0, .bool false, .int .u8 0])⟩,
  some ⟨.struct [(0, 2), (1, 3), (2, 4), (3, 6)], 4, 24, some (.agg #[.int .i64 0, .int .i64 0, .bool false, .int .u8 0])⟩,
  some ⟨.str, 1, 16, some (.string ⟨#[]⟩)⟩,
  some ⟨.str, 1, 16, some (.string ⟨#[]⟩)⟩,
  some ⟨.str, 1, 16, some (.string ⟨#[]⟩)⟩,
  some ⟨.int .u64, 1, 8, some (.int .u64 0)⟩,
  some ⟨.struct [(0, 9), (1, 12)], 2, 24, some (.agg #[.string ⟨#[]⟩, .int .u64 0])⟩,
  some ⟨.struct [(0, 9), (1, 12)], 2, 24, some (.agg #[.string ⟨#[]⟩, .int .u64 0])⟩,
  some ⟨.ptr 191, 1, 8, some (.pointer none)⟩,
  some ⟨.ptr 194, 1, 8, some (.pointer none)⟩,
  some ⟨.ptr 202, 1, 8, some (.pointer none)⟩,
  some ⟨.struct [(0, 17)], 1, 8, some (.agg #[.pointer none])⟩,
  some ⟨.struct [(0, 17)], 1, 8, some (.agg #[.pointer none])⟩,
  none,
  some ⟨.int .i32, 1, 4, some (.int .i32 0)⟩,
  some ⟨.slice 122, 1, 24, some (.slice none 0 0)⟩,
  some ⟨.slice 3, 1, 24, some (.slice none 0 0)⟩,
  some ⟨.slice 116, 1, 24, some (.slice none 0 0)⟩,
  some ⟨.struct [(0, 3), (1, 3), (2, 3), (3, 22), (4, 23), (5, 3), (6, 23), (7, 24)], 8, 128, some (.agg #[.int .i64 0, .int .i64 0, .int .i64 0, .slice none 0 0, .slice none 0 0, .int .i64 0, .slice none 0 0, .slice none 0 0])⟩,
  some ⟨.struct [(0, 3), (1, 3), (2, 3), (3, 22), (4, 23), (5, 3), (6, 23), (7, 24)], 8, 128, some (.agg #[.int .i64 0, .int .i64 0, .int .i64 0, .slice none 0 0, .slice none 0 0, .int .i64 0, .slice none 0 0, .slice none 0 0])⟩,
  none,
  none,
  none,
  some ⟨.slice 64, 1, 24, some (.slice none 0 0)⟩,
  some ⟨.slice 62, 1, 24, some (.slice none 0 0)⟩,
  some ⟨.struct [(0, 3), (1, 3), (2, 3), (3, 30), (4, 23), (5, 3), (6, 23), (7, 31)], 8, 128, some (.agg #[.int .i64 0, .int .i64 0, .int .i64 0, .slice none 0 0, .slice none 0 0, .int .i64 0, .slice none 0 0, .slice none 0 0])⟩,
  some ⟨.struct [(0, 3), (1, 3), (2, 3), (3, 30), (4, 23), (5, 3), (6, 23), (7, 31)], 8, 128, some (.agg #[.int .i64 0, .int .i64 0, .int .i64 0, .slice none 0 0, .slice none 0 0, .int .i64 0, .slice none 0 0, .slice none 0 0])⟩,
  none,
  none,
  none,
  none,
  none,
  none,
  none,
  none,
  some ⟨.slice 94, 1, 24, some (.slice none 0 0)⟩,
  none,
  none,
  none,
  some ⟨.slice 91, 1, 24, some (.slice none 0 0)⟩,
  none,
  none,
  none,
  none,
  some ⟨.slice 5, 1, 24, some (.slice none 0 0)⟩,
  none,
  none,
  none,
  none,
  none,
  none,
  none,
  none,
  none,
  some ⟨.struct [(0, 3), (1, 23)], 2, 32, some (.agg #[.int .i64 0, .slice none 0 0])⟩,
  some ⟨.struct [(0, 3), (1, 23)], 2, 32, some (.agg #[.int .i64 0, .slice none 0 0])⟩,
  some ⟨.struct [(0, 3), (1, 3)], 2, 16, some (.agg #[.int .i64 0, .int .i64 0])⟩,
  some ⟨.struct [(0, 3), (1, 3)], 2, 16, some (.agg #[.int .i64 0, .int .i64 0])⟩,
  none,
  none,
  none,
  none,
  none,
  none,
  none,
  none,
  none,
  none,
  none,
  none,
  none,
  none,
  none,
  none,
  none,
  none,
  none,
  none,
  none,
  none,
  none,
  none,
  none,
  some ⟨.struct [(0, 3), (1, 3), (2, 3)], 3, 24, some (.agg #[.int .i64 0, .int .i64 0, .int .i64 0])⟩,
  some ⟨.struct [(0, 3), (1, 3), (2, 3)], 3, 24, some (.agg #[.int .i64 0, .int .i64 0, .int .i64 0])⟩,
  none,
  none,
  some ⟨.struct [(0, 3), (1, 3), (2, 3)], 3, 24, some (.agg #[.int .i64 0, .int .i64 0, .int .i64 0])⟩,
  none,
  none,
  none,
  none,
  none,
  some ⟨.ptr 103, 1, 8, some (.pointer none)⟩,
  some ⟨.int .u64, 1, 8, some (.int .u64 0)⟩,
  some ⟨.struct [(0, 51), (1, 3), (2, 101)], 3, 40, some (.agg #[.slice none 0 0, .int .i64 0, .int .u64 0])⟩,
  some ⟨.struct [(0, 51), (1, 3), (2, 101)], 3, 40, some (.agg #[.slice none 0 0, .int .i64 0, .int .u64 0])⟩,
  none,
  none,
  none,
  none,
  none,
  none,
  none,
  none,
  none,
  none,
  none,
  none,
  some ⟨.struct [(0, 3), (1, 23)], 2, 32, some (.agg #[.int .i64 0, .slice none 0 0])⟩,
  none,
  none,
  none,
  none,
  none,
  some ⟨.struct [(0, 3), (1, 3)], 2, 16, some (.agg #[.int .i64 0, .int .i64 0])⟩,
  none,
  none,
  none,
  none,
  none,
  none,
  none,
  none,
  some ⟨.int .u64, 1, 8, some (.int .u64 0)⟩,
  some ⟨.ptr 91, 1, 8, some (.pointer none)⟩,
  none,
  none,
  none,
  none,
  none,
  none,
  none,
  some ⟨.slice 23, 1, 24, some (.slice none 0 0)⟩,
  none,
  none,
  none,
  none,
  none,
  none,
  none,
  none,
  none,
  some ⟨.int .i64, 1, 8, some (.int .i64 0)⟩,
  none,
  none,
  none,
  none,
  none,
  none,
  some ⟨.int .u32, 1, 4, some (.int .u32 0)⟩,
  none,
  none,
  none,
  none,
  some ⟨.int .u64, 1, 8, some (.int .u64 0)⟩,
  none,
  none,
  none,
  some ⟨.ptr 3, 1, 8, some (.pointer none)⟩,
  none,
  none,
  none,
  none,
  none,
  none,
  none,
  none,
  some ⟨.ptr 162, 1, 8, some (.pointer none)⟩,
  none,
  none,
  none,
  none,
  none,
  none,
  none,
  none,
  none,
  none,
  none,
  none,
  none,
  none,
  some ⟨.struct [(0, 17), (1, 17), (2, 17), (3, 9)], 4, 40, some (.agg #[.pointer none, .pointer none, .pointer none, .string ⟨#[]⟩])⟩,
  some ⟨.struct [(0, 17), (1, 17), (2, 17), (3, 9)], 4, 40, some (.agg #[.pointer none, .pointer none, .pointer none, .string ⟨#[]⟩])⟩,
  some ⟨.array 0 16, 0, 0, some (.agg #[])⟩,
  some ⟨.struct [(0, 192)], 0, 0, some (.agg #[])⟩,
  some ⟨.struct [(0, 192)], 0, 0, some (.agg #[])⟩,
  some ⟨.int .u8, 1, 1, some (.int .u8 0)⟩,
  some ⟨.int .u8, 1, 1, some (.int .u8 0)⟩,
  none,
  some ⟨.ptr 5, 1, 8, some (.pointer none)⟩,
  some ⟨.int .i32, 1, 4, some (.int .i32 0)⟩,
  some ⟨.int .i32, 1, 4, some (.int .i32 0)⟩,
  some ⟨.struct [(0, 12), (1, 12), (2, 157), (3, 195), (4, 5), (5, 5), (6, 196), (7, 197), (8, 198), (9, 199), (10, 200)], 11, 48, some (.agg #[.int .u64 0, .int .u64 0, .int .u32 0, .int .u8 0, .int .u8 0, .int .u8 0, .int .u8 0, .nilFunc, .pointer none, .int .i32 0, .int .i32 0])⟩,
  some ⟨.struct [(0, 12), (1, 12), (2, 157), (3, 195), (4, 5), (5, 5), (6, 196), (7, 197), (8, 198), (9, 199), (10, 200)], 11, 48, some (.agg #[.int .u64 0, .int .u64 0, .int .u32 0, .int .u8 0, .int .u8 0, .int .u8 0, .int .u8 0, .nilFunc, .pointer none, .int .i32 0, .int .i32 0])⟩,
  none]
def te : TE := teOf teL
theorem T : TEok Tryz.prog te := TEok_of (by kernel_rfl)
theorem mix : Tryz.prog.follows .mixedOrders = true := by kernel_rfl

def encInt (x : Int) : List D := [.v (.int .i64 x)]
def encBool (x : Bool) : List D := [.v (.bool x)]
def encStr (x : ByteArray) : List D := [.v (.string x)]
def encInt_u8 (x : Int) : List D := [.v (.int .u8 x)]
def encInt_u64 (x : Int) : List D := [.v (.int .u64 x)]
def encInt_i32 (x : Int) : List D := [.v (.int .i32 x)]
def encLInt (x : List Int) : List D := [.s (x.map encInt)]
def encLIntO (x : List Int) : List D := [.w 1 (x.map encInt)]
theorem frzLInt (x : List Int) : FrzL (encLIntO x) (encLInt x) := .cons (.map fun y => .vs rfl) .nil
structure Entrant where
  skater : Int
  rank : Int
  deriving Inhabited, DecidableEq
def encEntrant (x : Entrant) : List D := [.v (.int .i64 x.skater), .v (.int .i64 x.rank)]
def encLEntrant (x : List Entrant) : List D := [.s (x.map encEntrant)]
def encLEntrantO (x : List Entrant) : List D := [.w 2 (x.map encEntrant)]
theorem frzLEntrant (x : List Entrant) : FrzL (encLEntrantO x) (encLEntrant x) := .cons (.map fun y => .vs rfl) .nil
structure Result where
  skater : Int
  scores : List Int
  deriving Inhabited, DecidableEq
def encResult (x : Result) : List D := [.v (.int .i64 x.skater), .s (x.scores.map encInt)]
def encResultO (x : Result) : List D := [.v (.int .i64 x.skater), .w 1 (x.scores.map encInt)]
theorem frzResult (x : Result) : FrzL (encResultO x) (encResult x) := .cons (.vs rfl) (.cons (.map fun y => .vs rfl) (.nil))
structure Event where
  segments : Int
  size : Int
  key : Int
  entrants : List Entrant
  gone : List Int
  segment : Int
  order : List Int
  results : List Result
  deriving Inhabited, DecidableEq
def encEvent (x : Event) : List D := [.v (.int .i64 x.segments), .v (.int .i64 x.size), .v (.int .i64 x.key), .s (x.entrants.map encEntrant), .s (x.gone.map encInt), .v (.int .i64 x.segment), .s (x.order.map encInt), .s (x.results.map encResult)]
def encEventO (x : Event) : List D := [.v (.int .i64 x.segments), .v (.int .i64 x.size), .v (.int .i64 x.key), .w 2 (x.entrants.map encEntrant), .w 1 (x.gone.map encInt), .v (.int .i64 x.segment), .w 1 (x.order.map encInt), .w 2 (x.results.map encResultO)]
theorem frzEvent (x : Event) : FrzL (encEventO x) (encEvent x) := .cons (.vs rfl) (.cons (.vs rfl) (.cons (.vs rfl) (.cons (.map fun y => .vs rfl) (.cons (.map fun y => .vs rfl) (.cons (.vs rfl) (.cons (.map fun y => .vs rfl) (.cons (.map fun y => frzResult y) (.nil))))))))
structure Step where
  kind : Int
  skater : Int
  number : Int
  deriving Inhabited, DecidableEq
def encStep (x : Step) : List D := [.v (.int .i64 x.kind), .v (.int .i64 x.skater), .v (.int .i64 x.number)]

def laws_szEntrantS_p (a : List Entrant) (left : Int) : Option Int :=
  cond (decide ((w64 (left - (a.length : Int))) < 0))
    (some (-1))
    (some (w64 (left - (a.length : Int))))
theorem laws_szEntrantS_ok (a : List Entrant) (left : Int) (r : Int) (hH : laws_szEntrantS_p a left = some r) : SpecR Tryz.prog 52 [.s (List.map encEntrant a), left] (.v (.int .i64 r)) := by
 refine fn_ok T Tryz.func52 rfl (by decide) rfl ?_
 refine AW.seq (AW.region ?_)
 refine AO.pu T ?_
 refine AO.nil (AW.seq ?_)
 refine AW.region ?_
 iterate 2 refine AO.pu T ?_
 refine AO.val rfl rfl (len_map_ok T rfl rfl rfl) ?_
 refine AO.val rfl rfl (arw_ok rfl rfl rfl rfl) ?_
 refine AO.pu T ?_
 refine AO.nil ?_
 iterate 2 refine AW.seq ?_
 refine AW.region ?_
 iterate 2 refine AO.pu T ?_
 refine AO.nil ?_
 refine AW.cond (b := decide ((w64 (left - (a.length : Int))) < 0)) rfl (fun hc => ?_) (fun hc => ?_)
 replace hH := condT hc hH
 refine AW.seq (AW.region ?_)
 refine AO.pu T ?_
 refine AO.nil (AW.ret ?_)
 cases someE hH
 exact retQ.i [] rfl (.c (.c .v))
 replace hH := condF hc hH
 refine AW.skip ?_
 refine AW.seq (AW.region ?_)
 iterate 2 refine AO.pu T ?_
 refine AO.nil (AW.ret ?_)
 cases someE hH
 exact retQ.i [] rfl (.c (.c .v))

def laws_szIntS_p (a : List Int) (left : Int) : Option Int :=
  cond (decide ((w64 (left - (a.length : Int))) < 0))
    (some (-1))
    (some (w64 (left - (a.length : Int))))
theorem laws_szIntS_ok (a : List Int) (left : Int) (r : Int) (hH : laws_szIntS_p a left = some r) : SpecR Tryz.prog 53 [.s (List.map encInt a), left] (.v (.int .i64 r)) := by
 refine fn_ok T Tryz.func53 rfl (by decide) rfl ?_
 refine AW.seq (AW.region ?_)
 refine AO.pu T ?_
 refine AO.nil (AW.seq ?_)
 refine AW.region ?_
 iterate 2 refine AO.pu T ?_
 refine AO.val rfl rfl (len_map_ok T rfl rfl rfl) ?_
 refine AO.val rfl rfl (arw_ok rfl rfl rfl rfl) ?_
 refine AO.pu T ?_
 refine AO.nil ?_
 iterate 2 refine AW.seq ?_
 refine AW.region ?_
 iterate 2 refine AO.pu T ?_
 refine AO.nil ?_
 refine AW.cond (b := decide ((w64 (left - (a.length : Int))) < 0)) rfl (fun hc => ?_) (fun hc => ?_)
 replace hH := condT hc hH
 refine AW.seq (AW.region ?_)
 refine AO.pu T ?_
 refine AO.nil (AW.ret ?_)
 cases someE hH
 exact retQ.i [] rfl (.c (.c .v))
 replace hH := condF hc hH
 refine AW.skip ?_
 refine AW.seq (AW.region ?_)
 iterate 2 refine AO.pu T ?_
 refine AO.nil (AW.ret ?_)
 cases someE hH
 exact retQ.i [] rfl (.c (.c .v))

def laws_szResult_p (a : Result) (left : Int) : Option Int :=
  (laws_szIntS_p a.scores left).bind fun x1 =>
  cond (decide (x1 < 0))
    (some (-1))
    (some x1)
theorem laws_szResult_ok (a : Result) (left : Int) (r : Int) (hH : laws_szResult_p a left = some r) : SpecR Tryz.prog 109 [.g (encResult a), left] (.v (.int .i64 r)) := by
 refine fn_ok T Tryz.func109 rfl (by decide) rfl ?_
 refine AW.seq (AW.region ?_)
 refine AO.step rfl (box_ok T rfl 1 rfl rfl rfl rfl) ?_
 refine AO.pu T ?_
 refine AO.nil (AW.seq ?_)
 obtain ⟨x1, hx2, hH⟩ := bindE hH
 refine AW.region ?_
 iterate 3 refine AO.pu T ?_
 refine AO.val rfl rfl (callV_ok rfl rfl rfl rfl (laws_szIntS_ok _ _ _ (hx2)) rfl) ?_
 refine AO.pu T ?_
 refine AO.nil ?_
 iterate 2 refine AW.seq ?_
 refine AW.region ?_
 iterate 2 refine AO.pu T ?_
 refine AO.nil ?_
 refine AW.cond (b := decide (x1 < 0)) rfl (fun hc => ?_) (fun hc => ?_)
 replace hH := condT hc hH
 refine AW.seq (AW.region ?_)
 refine AO.pu T ?_
 refine AO.nil (AW.ret ?_)
 cases someE hH
 exact retQ.i [] rfl (.c (.c .v))
 replace hH := condF hc hH
 refine AW.skip ?_
 refine AW.seq (AW.region ?_)
 iterate 2 refine AO.pu T ?_
 refine AO.nil (AW.ret ?_)
 cases someE hH
 exact retQ.i [] rfl (.c (.c .v))

def laws_szResultS_l1 : List Result → Nat → Int → Option Int
  | [], k1, v12 =>
    some v12
  | y2 :: ys3, k1, v12 =>
    (laws_szResult_p y2 v12).bind fun x14 =>
    cond (decide (x14 < 0))
      (some (-1))
      (laws_szResultS_l1 ys3 (k1 + 1) x14)
def laws_szResultS_p (a : List Result) (left : Int) : Option Int :=
  cond (decide ((w64 (left - (a.length : Int))) < 0))
    (some (-1))
    (laws_szResultS_l1 a 0 (w64 (left - (a.length : Int))))
theorem laws_szResultS_ok (a : List Result) (left : Int) (r : Int) (hH : laws_szResultS_p a left = some r) : SpecR Tryz.prog 54 [.s (List.map encResult a), left] (.v (.int .i64 r)) := by
 refine fn_ok T Tryz.func54 rfl (by decide) rfl ?_
 refine AW.seq (AW.region ?_)
 refine AO.pu T ?_
 refine AO.nil (AW.seq ?_)
 refine AW.region ?_
 iterate 2 refine AO.pu T ?_
 refine AO.val rfl rfl (len_map_ok T rfl rfl rfl) ?_
 refine AO.val rfl rfl (arw_ok rfl rfl rfl rfl) ?_
 refine AO.pu T ?_
 refine AO.nil ?_
 iterate 2 refine AW.seq ?_
 refine AW.region ?_
 iterate 2 refine AO.pu T ?_
 refine AO.nil ?_
 refine AW.cond (b := decide ((w64 (left - (a.length : Int))) < 0)) rfl (fun hc => ?_) (fun hc => ?_)
 replace hH := condT hc hH
 refine AW.seq (AW.region ?_)
 refine AO.pu T ?_
 refine AO.nil (AW.ret ?_)
 cases someE hH
 exact retQ.i [] rfl (.c (.c .v))
 replace hH := condF hc hH
 refine AW.skip ?_
 iterate 2 refine AW.seq ?_
 refine AW.region ?_
 refine AO.pu T ?_
 refine AO.nil ?_
 refine AW.block ?_
 refine AW.loopS (fun s : Nat × Int => (⟨[(0, .s (List.map encResult a)), (1, s.2), (5, (s.1 : Int))], [], 27, []⟩ : St)) (fun s => s.1 ≤ a.length ∧ laws_szResultS_l1 (a.drop s.1) s.1 s.2 = some r) (fun s => a.length - s.1) (0, w64 (left - (a.length : Int))) ⟨Nat.zero_le _, hH⟩ ?_ ?_
 exact Le.ct 0 0
 rintro ⟨k1, v12⟩ ⟨hk, hH⟩
 replace hH : laws_szResultS_l1 (a.drop k1) k1 v12 = some r := hH
 try dsimp only
 refine AW.boundM (t := 0) (l := a) rfl (fun hb5 => ?_)
 rcases hd4 : a.drop k1 with _ | ⟨y2, ys3⟩
 rw [hd4, laws_szResultS_l1] at hH
 have hlt6 := drop_ge hd4
 iterate 2 refine AW.seq ?_
 refine AW.region ?_
 iterate 2 refine AO.pu T ?_
 refine AO.val rfl rfl (len_map_ok T rfl rfl rfl) ?_
 refine AO.pu T ?_
 refine AO.nil ?_
 refine AW.condF' (b := decide ((k1 : Int) < (a.length : Int))) rfl (rngF hlt6) ?_
 refine AW.exit ?_
 refine AW.seq (AW.region ?_)
 iterate 2 refine AO.pu T ?_
 refine AO.nil (AW.ret ?_)
 cases someE hH
 exact retQ.i [] rfl (.c (.c .v))
 rw [hd4, laws_szResultS_l1] at hH
 have hlt6 := drop_lt hd4
 iterate 2 refine AW.seq ?_
 refine AW.region ?_
 iterate 2 refine AO.pu T ?_
 refine AO.val rfl rfl (len_map_ok T rfl rfl rfl) ?_
 refine AO.pu T ?_
 refine AO.nil ?_
 refine AW.condT' (b := decide ((k1 : Int) < (a.length : Int))) rfl (rngT hlt6) ?_
 refine AW.skip ?_
 refine AW.seq ?_
 refine AW.block ?_
 refine AW.seq ?_
 obtain ⟨x14, hx15, hH⟩ := bindE hH
 refine AW.region ?_
 iterate 2 refine AO.pu T ?_
 refine AO.val rfl rfl (ix_map_ok T rfl rfl rfl rfl rfl (getI_drop hd4) rfl) ?_
 refine AO.pu T (d := .g [y2.skater, .s (List.map encInt y2.scores)]) ?_
 refine AO.pu T ?_
 refine AO.val rfl rfl (callV_ok rfl rfl rfl rfl (laws_szResult_ok _ _ _ (hx15)) rfl) ?_
 refine AO.pu T ?_
 refine AO.nil (AW.seq ?_)
 refine AW.region ?_
 iterate 2 refine AO.pu T ?_
 refine AO.nil ?_
 refine AW.cond (b := decide (x14 < 0)) rfl (fun hc => ?_) (fun hc => ?_)
 replace hH := condT hc hH
 refine AW.seq (AW.region ?_)
 refine AO.pu T ?_
 refine AO.nil (AW.ret ?_)
 cases someE hH
 exact retQ.i [] rfl (.c (.c .v))
 replace hH := condF hc hH
 refine AW.skip ?_
 refine AW.region ?_
 refine AO.pu T ?_
 refine AO.val rfl rfl (ar_ok rfl rfl rfl rfl (inI_succ hlt6 hb5)) ?_
 refine AO.pu T ?_
 refine AO.nil ?_
 refine ⟨(k1 + 1, x14), ⟨Nat.succ_le_of_lt hlt6, (by rw [drop_succ_of hd4]; exact hH)⟩, (by have := hlt6; dsimp only; omega), ?_⟩
 exact Le.ct 0 0

def laws_szEvent_p (a : Event) (left : Int) : Option Int :=
  (laws_szEntrantS_p a.entrants left).bind fun x1 =>
  cond (decide (x1 < 0))
    (some (-1))
    ((laws_szIntS_p a.gone x1).bind fun x3 =>
    cond (decide (x3 < 0))
      (some (-1))
      ((laws_szIntS_p a.order x3).bind fun x5 =>
      cond (decide (x5 < 0))
        (some (-1))
        ((laws_szResultS_p a.results x5).bind fun x7 =>
        cond (decide (x7 < 0))
          (some (-1))
          (some x7))))
theorem laws_szEvent_ok (a : Event) (left : Int) (r : Int) (hH : laws_szEvent_p a left = some r) : SpecR Tryz.prog 8 [.g (encEvent a), left] (.v (.int .i64 r)) := by
 refine fn_ok T Tryz.func8 rfl (by decide) rfl ?_
 refine AW.seq (AW.region ?_)
 refine AO.step rfl (box_ok T rfl 1 rfl rfl rfl rfl) ?_
 refine AO.pu T ?_
 refine AO.nil (AW.seq ?_)
 obtain ⟨x1, hx2, hH⟩ := bindE hH
 refine AW.region ?_
 iterate 3 refine AO.pu T ?_
 refine AO.val rfl rfl (callV_ok rfl rfl rfl rfl (laws_szEntrantS_ok _ _ _ (hx2)) rfl) ?_
 refine AO.pu T ?_
 refine AO.nil ?_
 iterate 2 refine AW.seq ?_
 refine AW.region ?_
 iterate 2 refine AO.pu T ?_
 refine AO.nil ?_
 refine AW.cond (b := decide (x1 < 0)) rfl (fun hc => ?_) (fun hc => ?_)
 replace hH := condT hc hH
 refine AW.seq (AW.region ?_)
 refine AO.pu T ?_
 refine AO.nil (AW.ret ?_)
 cases someE hH
 exact retQ.i [] rfl (.c (.c .v))
 replace hH := condF hc hH
 refine AW.skip ?_
 refine AW.seq ?_
 obtain ⟨x3, hx4, hH⟩ := bindE hH
 refine AW.region ?_
 iterate 3 refine AO.pu T ?_
 refine AO.val rfl rfl (callV_ok rfl rfl rfl rfl (laws_szIntS_ok _ _ _ (hx4)) rfl) ?_
 refine AO.pu T ?_
 refine AO.nil ?_
 iterate 2 refine AW.seq ?_
 refine AW.region ?_
 iterate 2 refine AO.pu T ?_
 refine AO.nil ?_
 refine AW.cond (b := decide (x3 < 0)) rfl (fun hc => ?_) (fun hc => ?_)
 replace hH := condT hc hH
 refine AW.seq (AW.region ?_)
 refine AO.pu T ?_
 refine AO.nil (AW.ret ?_)
 cases someE hH
 exact retQ.i [] rfl (.c (.c .v))
 replace hH := condF hc hH
 refine AW.skip ?_
 refine AW.seq ?_
 obtain ⟨x5, hx6, hH⟩ := bindE hH
 refine AW.region ?_
 iterate 3 refine AO.pu T ?_
 refine AO.val rfl rfl (callV_ok rfl rfl rfl rfl (laws_szIntS_ok _ _ _ (hx6)) rfl) ?_
 refine AO.pu T ?_
 refine AO.nil ?_
 iterate 2 refine AW.seq ?_
 refine AW.region ?_
 iterate 2 refine AO.pu T ?_
 refine AO.nil ?_
 refine AW.cond (b := decide (x5 < 0)) rfl (fun hc => ?_) (fun hc => ?_)
 replace hH := condT hc hH
 refine AW.seq (AW.region ?_)
 refine AO.pu T ?_
 refine AO.nil ?_
 refine AW.le (Le.ct 0 0 (σ' := (⟨[(4, (-1 : Int))], [], 30, []⟩ : St))) ?_
 refine AW.ret ?_
 cases someE hH
 exact retQ.i [] rfl (.c (.c .v))
 replace hH := condF hc hH
 refine AW.skip ?_
 refine AW.seq ?_
 obtain ⟨x7, hx8, hH⟩ := bindE hH
 refine AW.region ?_
 iterate 3 refine AO.pu T ?_
 refine AO.val rfl rfl (callV_ok rfl rfl rfl rfl (laws_szResultS_ok _ _ _ (hx8)) rfl) ?_
 refine AO.pu T ?_
 refine AO.nil ?_
 refine AW.le (Le.ct 0 0 (σ' := (⟨[(1, x7)], [], 30, []⟩ : St))) ?_
 iterate 2 refine AW.seq ?_
 refine AW.region ?_
 iterate 2 refine AO.pu T ?_
 refine AO.nil ?_
 refine AW.cond (b := decide (x7 < 0)) rfl (fun hc => ?_) (fun hc => ?_)
 replace hH := condT hc hH
 refine AW.seq (AW.region ?_)
 refine AO.pu T ?_
 refine AO.nil (AW.ret ?_)
 cases someE hH
 exact retQ.i [] rfl (.c (.c .v))
 replace hH := condF hc hH
 refine AW.skip ?_
 refine AW.seq (AW.region ?_)
 iterate 2 refine AO.pu T ?_
 refine AO.nil (AW.ret ?_)
 cases someE hH
 exact retQ.i [] rfl (.c (.c .v))

def laws_szStepS_p (a : List Step) (left : Int) : Option Int :=
  cond (decide ((w64 (left - (a.length : Int))) < 0))
    (some (-1))
    (some (w64 (left - (a.length : Int))))
theorem laws_szStepS_ok (a : List Step) (left : Int) (r : Int) (hH : laws_szStepS_p a left = some r) : SpecR Tryz.prog 20 [.s (List.map encStep a), left] (.v (.int .i64 r)) := by
 refine fn_ok T Tryz.func20 rfl (by decide) rfl ?_
 refine AW.seq (AW.region ?_)
 refine AO.pu T ?_
 refine AO.nil (AW.seq ?_)
 refine AW.region ?_
 iterate 2 refine AO.pu T ?_
 refine AO.val rfl rfl (len_map_ok T rfl rfl rfl) ?_
 refine AO.val rfl rfl (arw_ok rfl rfl rfl rfl) ?_
 refine AO.pu T ?_
 refine AO.nil ?_
 iterate 2 refine AW.seq ?_
 refine AW.region ?_
 iterate 2 refine AO.pu T ?_
 refine AO.nil ?_
 refine AW.cond (b := decide ((w64 (left - (a.length : Int))) < 0)) rfl (fun hc => ?_) (fun hc => ?_)
 replace hH := condT hc hH
 refine AW.seq (AW.region ?_)
 refine AO.pu T ?_
 refine AO.nil (AW.ret ?_)
 cases someE hH
 exact retQ.i [] rfl (.c (.c .v))
 replace hH := condF hc hH
 refine AW.skip ?_
 refine AW.seq (AW.region ?_)
 iterate 2 refine AO.pu T ?_
 refine AO.nil (AW.ret ?_)
 cases someE hH
 exact retQ.i [] rfl (.c (.c .v))

def laws_toEntrant_p (a : Entrant) : Option Entrant :=
  some a
theorem laws_toEntrant_ok (a : Entrant) (r : Entrant) (hH : laws_toEntrant_p a = some r) : SpecR Tryz.prog 118 [.g (encEntrant a)] (.g (encEntrant r)) := by
 refine fn_ok T Tryz.func118 rfl (by decide) rfl ?_
 refine AW.seq (AW.region ?_)
 refine AO.step rfl (box_ok T rfl 1 rfl rfl rfl rfl) ?_
 refine AO.step rfl (alloc_ok T rfl 2 rfl rfl rfl rfl rfl) ?_
 refine AO.nil (AW.seq ?_)
 refine AW.region ?_
 refine AO.step rfl (alloc_ok T rfl 3 rfl rfl rfl rfl rfl) ?_
 refine AO.nil (AW.seq ?_)
 refine AW.region ?_
 iterate 3 refine AO.pu T ?_
 refine AO.se T [a.skater, (0 : Int)] ?_
 refine AO.nil (AW.seq ?_)
 refine AW.region ?_
 iterate 3 refine AO.pu T ?_
 refine AO.se T [a.skater, a.rank] ?_
 refine AO.nil (AW.seq ?_)
 refine AW.region ?_
 refine AO.pu T (d := .g [a.skater, a.rank]) ?_
 refine AO.se T [a.skater, a.rank] ?_
 refine AO.nil (AW.ret ?_)
 cases someE hH
 exact retQ.i [] rfl (.c (.g (expLC_cons .v (expLC_cons .v (expLC_nil)))))

def laws_toEntrantS_l1 : List Entrant → Nat → List Entrant → Option ((List Entrant))
  | [], k3, v18 =>
    some v18
  | y4 :: ys5, k3, v18 =>
    (laws_toEntrant_p y4).bind fun x20 =>
    (getI v18 (k3 : Int)).bind fun x22 =>
    laws_toEntrantS_l1 ys5 (k3 + 1) (v18.set ((k3 : Int).toNat) x20)
def laws_toEntrantS_p (a : List Entrant) : Option (List Entrant) :=
  (need (decide (0 ≤ (a.length : Int)) && fitsB 16 (a.length : Int).toNat)).bind fun u1 =>
  laws_toEntrantS_l1 a 0 (List.replicate (a.length : Int).toNat (Entrant.mk 0 0))
theorem laws_toEntrantS_ok (a : List Entrant) (r : (List Entrant)) (hH : laws_toEntrantS_p a = some r) : SpecR Tryz.prog 58 [.s (List.map encEntrant a)] (.w 2 (r.map encEntrant)) := by
 refine fn_ok T Tryz.func58 rfl (by decide) rfl ?_
 refine AW.seq (AW.region ?_)
 refine AO.pu T ?_
 refine AO.nil (AW.seq ?_)
 obtain ⟨u1, hx2, hH⟩ := bindE hH
 refine AW.region ?_
 refine AO.pu T ?_
 refine AO.val rfl rfl (len_map_ok T rfl rfl rfl) ?_
 refine AO.step rfl (make_map_ok T rfl 1 rfl rfl rfl rfl rfl (f := encEntrant) (zo := (Entrant.mk 0 0)) (by repeat constructor) (by decide) rfl rfl (Bool.and_eq_true_iff.1 (needT (hx2))).1 (Bool.and_eq_true_iff.1 (needT (hx2))).2 rfl rfl) ?_
 refine AO.pu T ?_
 refine AO.nil ?_
 iterate 2 refine AW.seq ?_
 refine AW.region ?_
 refine AO.pu T ?_
 refine AO.nil ?_
 refine AW.block ?_
 refine AW.loopS (fun s : Nat × (List Entrant) => (⟨[(0, .s (List.map encEntrant a)), (3, .R 1), (4, (s.1 : Int))], [(1, .row 2 (List.map encEntrant s.2))], 23, []⟩ : St)) (fun s => s.1 ≤ a.length ∧ laws_toEntrantS_l1 (a.drop s.1) s.1 s.2 = some r) (fun s => a.length - s.1) (0, (List.replicate (a.length : Int).toNat (Entrant.mk 0 0))) ⟨Nat.zero_le _, hH⟩ ?_ ?_
 exact Le.ct 0 0
 rintro ⟨k3, v18⟩ ⟨hk, hH⟩
 replace hH : laws_toEntrantS_l1 (a.drop k3) k3 v18 = some r := hH
 try dsimp only
 refine AW.boundM (t := 0) (l := a) rfl (fun hb7 => ?_)
 rcases hd6 : a.drop k3 with _ | ⟨y4, ys5⟩
 rw [hd6, laws_toEntrantS_l1] at hH
 have hlt8 := drop_ge hd6
 iterate 2 refine AW.seq ?_
 refine AW.region ?_
 iterate 2 refine AO.pu T ?_
 refine AO.val rfl rfl (len_map_ok T rfl rfl rfl) ?_
 refine AO.pu T ?_
 refine AO.nil ?_
 refine AW.condF' (b := decide ((k3 : Int) < (a.length : Int))) rfl (rngF hlt8) ?_
 refine AW.exit ?_
 refine AW.seq (AW.region ?_)
 iterate 2 refine AO.pu T ?_
 refine AO.nil (AW.ret ?_)
 cases someE hH
 exact retQ.i [1] rfl (.c (.c (.rowR rfl)))
 rw [hd6, laws_toEntrantS_l1] at hH
 have hlt8 := drop_lt hd6
 iterate 2 refine AW.seq ?_
 refine AW.region ?_
 iterate 2 refine AO.pu T ?_
 refine AO.val rfl rfl (len_map_ok T rfl rfl rfl) ?_
 refine AO.pu T ?_
 refine AO.nil ?_
 refine AW.condT' (b := decide ((k3 : Int) < (a.length : Int))) rfl (rngT hlt8) ?_
 refine AW.skip ?_
 refine AW.seq ?_
 refine AW.block ?_
 obtain ⟨x20, hx21, hH⟩ := bindE hH
 obtain ⟨x22, hx23, hH⟩ := bindE hH
 refine AW.region ?_
 iterate 4 refine AO.pu T ?_
 refine AO.val rfl rfl (ix_map_ok T rfl rfl rfl rfl rfl (getI_drop hd6) rfl) ?_
 refine AO.pu T (d := .g [y4.skater, y4.rank]) ?_
 refine AO.val rfl rfl (callV_ok rfl rfl rfl rfl (laws_toEntrant_ok _ _ (hx21)) rfl) ?_
 refine AO.val rfl rfl (ix_row_ok T rfl rfl rfl rfl rfl rfl (hx23)) ?_
 refine AO.step rfl (store_row_ok T rfl rfl rfl rfl rfl (getI_get (hx23)) rfl rfl rfl rfl (u' := x20) rfl rfl) ?_
 refine AO.nil ?_
 refine AW.region ?_
 refine AO.pu T ?_
 refine AO.val rfl rfl (ar_ok rfl rfl rfl rfl (inI_succ hlt8 hb7)) ?_
 refine AO.pu T ?_
 refine AO.nil ?_
 refine ⟨(k3 + 1, (v18.set ((k3 : Int).toNat) x20)), ⟨Nat.succ_le_of_lt hlt8, (by rw [drop_succ_of hd6]; exact hH)⟩, (by have := hlt8; dsimp only; omega), ?_⟩
 exact Le.ct 0 0

def laws_toIntS_l1 : List Int → Nat → List Int → Option ((List Int))
  | [], k3, v14 =>
    some v14
  | y4 :: ys5, k3, v14 =>
    (getI v14 (k3 : Int)).bind fun x16 =>
    laws_toIntS_l1 ys5 (k3 + 1) (v14.set ((k3 : Int).toNat) y4)
def laws_toIntS_p (a : List Int) : Option (List Int) :=
  (need (decide (0 ≤ (a.length : Int)) && fitsB 8 (a.length : Int).toNat)).bind fun u1 =>
  laws_toIntS_l1 a 0 (List.replicate (a.length : Int).toNat 0)
theorem laws_toIntS_ok (a : List Int) (r : (List Int)) (hH : laws_toIntS_p a = some r) : SpecR Tryz.prog 59 [.s (List.map encInt a)] (.w 1 (r.map encInt)) := by
 refine fn_ok T Tryz.func59 rfl (by decide) rfl ?_
 refine AW.seq (AW.region ?_)
 refine AO.pu T ?_
 refine AO.nil (AW.seq ?_)
 obtain ⟨u1, hx2, hH⟩ := bindE hH
 refine AW.region ?_
 refine AO.pu T ?_
 refine AO.val rfl rfl (len_map_ok T rfl rfl rfl) ?_
 refine AO.step rfl (make_map_ok T rfl 1 rfl rfl rfl rfl rfl (f := encInt) (zo := 0) (by repeat constructor) (by decide) rfl rfl (Bool.and_eq_true_iff.1 (needT (hx2))).1 (Bool.and_eq_true_iff.1 (needT (hx2))).2 rfl rfl) ?_
 refine AO.pu T ?_
 refine AO.nil ?_
 iterate 2 refine AW.seq ?_
 refine AW.region ?_
 refine AO.pu T ?_
 refine AO.nil ?_
 refine AW.block ?_
 refine AW.loopS (fun s : Nat × (List Int) => (⟨[(0, .s (List.map encInt a)), (3, .R 1), (4, (s.1 : Int))], [(1, .row 1 (List.map encInt s.2))], 22, []⟩ : St)) (fun s => s.1 ≤ a.length ∧ laws_toIntS_l1 (a.drop s.1) s.1 s.2 = some r) (fun s => a.length - s.1) (0, (List.replicate (a.length : Int).toNat 0)) ⟨Nat.zero_le _, hH⟩ ?_ ?_
 exact Le.ct 0 0
 rintro ⟨k3, v14⟩ ⟨hk, hH⟩
 replace hH : laws_toIntS_l1 (a.drop k3) k3 v14 = some r := hH
 try dsimp only
 refine AW.boundM (t := 0) (l := a) rfl (fun hb7 => ?_)
 rcases hd6 : a.drop k3 with _ | ⟨y4, ys5⟩
 rw [hd6, laws_toIntS_l1] at hH
 have hlt8 := drop_ge hd6
 iterate 2 refine AW.seq ?_
 refine AW.region ?_
 iterate 2 refine AO.pu T ?_
 refine AO.val rfl rfl (len_map_ok T rfl rfl rfl) ?_
 refine AO.pu T ?_
 refine AO.nil ?_
 refine AW.condF' (b := decide ((k3 : Int) < (a.length : Int))) rfl (rngF hlt8) ?_
 refine AW.exit ?_
 refine AW.seq (AW.region ?_)
 iterate 2 refine AO.pu T ?_
 refine AO.nil (AW.ret ?_)
 cases someE hH
 exact retQ.i [1] rfl (.c (.c (.rowR rfl)))
 rw [hd6, laws_toIntS_l1] at hH
 have hlt8 := drop_lt hd6
 iterate 2 refine AW.seq ?_
 refine AW.region ?_
 iterate 2 refine AO.pu T ?_
 refine AO.val rfl rfl (len_map_ok T rfl rfl rfl) ?_
 refine AO.pu T ?_
 refine AO.nil ?_
 refine AW.condT' (b := decide ((k3 : Int) < (a.length : Int))) rfl (rngT hlt8) ?_
 refine AW.skip ?_
 refine AW.seq ?_
 refine AW.block ?_
 obtain ⟨x16, hx17, hH⟩ := bindE hH
 refine AW.region ?_
 iterate 4 refine AO.pu T ?_
 refine AO.val rfl rfl (ix_map_ok T rfl rfl rfl rfl rfl (getI_drop hd6) rfl) ?_
 refine AO.pu T ?_
 refine AO.val rfl rfl (ix_row_ok T rfl rfl rfl rfl rfl rfl (hx17)) ?_
 refine AO.step rfl (store_row_ok T rfl rfl rfl rfl rfl (getI_get (hx17)) rfl rfl rfl rfl (u' := y4) rfl rfl) ?_
 refine AO.nil ?_
 refine AW.region ?_
 refine AO.pu T ?_
 refine AO.val rfl rfl (ar_ok rfl rfl rfl rfl (inI_succ hlt8 hb7)) ?_
 refine AO.pu T ?_
 refine AO.nil ?_
 refine ⟨(k3 + 1, (v14.set ((k3 : Int).toNat) y4)), ⟨Nat.succ_le_of_lt hlt8, (by rw [drop_succ_of hd6]; exact hH)⟩, (by have := hlt8; dsimp only; omega), ?_⟩
 exact Le.ct 0 0

def laws_toResult_p (a : Result) : Option Result :=
  (laws_toIntS_p a.scores).bind fun x1 =>
  some (Result.mk a.skater x1)
theorem laws_toResult_ok (a : Result) (r : Result) (hH : laws_toResult_p a = some r) : SpecR Tryz.prog 119 [.g (encResult a)] (.g (encResultO r)) := by
 refine fn_ok T Tryz.func119 rfl (by decide) rfl ?_
 refine AW.seq (AW.region ?_)
 refine AO.step rfl (box_ok T rfl 1 rfl rfl rfl rfl) ?_
 refine AO.step rfl (alloc_ok T rfl 2 rfl rfl rfl rfl rfl) ?_
 refine AO.nil (AW.seq ?_)
 refine AW.region ?_
 refine AO.step rfl (alloc_ok T rfl 3 rfl rfl rfl rfl rfl) ?_
 refine AO.nil (AW.seq ?_)
 refine AW.region ?_
 iterate 3 refine AO.pu T ?_
 refine AO.se T [a.skater, .w 0 []] ?_
 refine AO.nil (AW.seq ?_)
 obtain ⟨x1, hx2, hH⟩ := bindE hH
 refine AW.region ?_
 iterate 2 refine AO.pu T ?_
 refine AO.step rfl (call_ok rfl 4 rfl rfl rfl (laws_toIntS_ok _ _ (hx2)) rfl rfl rfl) ?_
 refine AO.pu T ?_
 refine AO.se T [a.skater, .R 4] ?_
 refine AO.nil (AW.seq ?_)
 refine AW.region ?_
 refine AO.pu T (d := .g [a.skater, .R 4]) ?_
 refine AO.se T [a.skater, .R 4] ?_
 refine AO.nil (AW.ret ?_)
 cases someE hH
 exact retQ.i [4] rfl (.c (.g (expLC_cons .v (expLC_cons (.rowR rfl) (expLC_nil)))))

def laws_toResultS_l1 : List Result → Nat → List Result → Option ((List Result))
  | [], k3, v18 =>
    some v18
  | y4 :: ys5, k3, v18 =>
    (laws_toResult_p y4).bind fun x20 =>
    (getI v18 (k3 : Int)).bind fun x22 =>
    laws_toResultS_l1 ys5 (k3 + 1) (v18.set ((k3 : Int).toNat) x20)
def laws_toResultS_p (a : List Result) : Option (List Result) :=
  (need (decide (0 ≤ (a.length : Int)) && fitsB 32 (a.length : Int).toNat)).bind fun u1 =>
  laws_toResultS_l1 a 0 (List.replicate (a.length : Int).toNat (Result.mk 0 []))
theorem laws_toResultS_ok (a : List Result) (r : (List Result)) (hH : laws_toResultS_p a = some r) : SpecR Tryz.prog 60 [.s (List.map encResult a)] (.w 2 (r.map encResultO)) := by
 refine fn_ok T Tryz.func60 rfl (by decide) rfl ?_
 refine AW.seq (AW.region ?_)
 refine AO.pu T ?_
 refine AO.nil (AW.seq ?_)
 obtain ⟨u1, hx2, hH⟩ := bindE hH
 refine AW.region ?_
 refine AO.pu T ?_
 refine AO.val rfl rfl (len_map_ok T rfl rfl rfl) ?_
 refine AO.step rfl (make_map_ok T rfl 1 rfl rfl rfl rfl rfl (f := encResultO) (zo := (Result.mk 0 [])) (by repeat constructor) (by decide) rfl rfl (Bool.and_eq_true_iff.1 (needT (hx2))).1 (Bool.and_eq_true_iff.1 (needT (hx2))).2 rfl rfl) ?_
 refine AO.pu T ?_
 refine AO.nil ?_
 iterate 2 refine AW.seq ?_
 refine AW.region ?_
 refine AO.pu T ?_
 refine AO.nil ?_
 refine AW.block ?_
 refine AW.loopS (fun s : Nat × (List Result) => (⟨[(0, .s (List.map encResult a)), (3, .R 1), (4, (s.1 : Int))], [(1, .row 2 (List.map encResultO s.2))], 23, []⟩ : St)) (fun s => s.1 ≤ a.length ∧ laws_toResultS_l1 (a.drop s.1) s.1 s.2 = some r) (fun s => a.length - s.1) (0, (List.replicate (a.length : Int).toNat (Result.mk 0 []))) ⟨Nat.zero_le _, hH⟩ ?_ ?_
 exact Le.ct 0 0
 rintro ⟨k3, v18⟩ ⟨hk, hH⟩
 replace hH : laws_toResultS_l1 (a.drop k3) k3 v18 = some r := hH
 try dsimp only
 refine AW.boundM (t := 0) (l := a) rfl (fun hb7 => ?_)
 rcases hd6 : a.drop k3 with _ | ⟨y4, ys5⟩
 rw [hd6, laws_toResultS_l1] at hH
 have hlt8 := drop_ge hd6
 iterate 2 refine AW.seq ?_
 refine AW.region ?_
 iterate 2 refine AO.pu T ?_
 refine AO.val rfl rfl (len_map_ok T rfl rfl rfl) ?_
 refine AO.pu T ?_
 refine AO.nil ?_
 refine AW.condF' (b := decide ((k3 : Int) < (a.length : Int))) rfl (rngF hlt8) ?_
 refine AW.exit ?_
 refine AW.seq (AW.region ?_)
 iterate 2 refine AO.pu T ?_
 refine AO.nil (AW.ret ?_)
 cases someE hH
 exact retQ.i [1] rfl (.c (.c (.rowR rfl)))
 rw [hd6, laws_toResultS_l1] at hH
 have hlt8 := drop_lt hd6
 iterate 2 refine AW.seq ?_
 refine AW.region ?_
 iterate 2 refine AO.pu T ?_
 refine AO.val rfl rfl (len_map_ok T rfl rfl rfl) ?_
 refine AO.pu T ?_
 refine AO.nil ?_
 refine AW.condT' (b := decide ((k3 : Int) < (a.length : Int))) rfl (rngT hlt8) ?_
 refine AW.skip ?_
 refine AW.seq ?_
 refine AW.block ?_
 obtain ⟨x20, hx21, hH⟩ := bindE hH
 obtain ⟨x22, hx23, hH⟩ := bindE hH
 refine AW.region ?_
 iterate 4 refine AO.pu T ?_
 refine AO.val rfl rfl (ix_map_ok T rfl rfl rfl rfl rfl (getI_drop hd6) rfl) ?_
 refine AO.pu T (d := .g [y4.skater, .s (List.map encInt y4.scores)]) ?_
 refine AO.step rfl (call_ok rfl 4 rfl rfl rfl (laws_toResult_ok _ _ (hx21)) rfl rfl rfl) ?_
 refine AO.val rfl rfl (ix_row_ok T rfl rfl rfl rfl rfl rfl (hx23)) ?_
 refine AO.step rfl (store_rowO_ok T (ids := [4]) rfl rfl rfl rfl rfl (getI_get (hx23)) rfl (expLC_cons .v (expLC_cons (.rowR rfl) (expLC_nil))) (by decide) rfl rfl (u' := x20) rfl rfl) ?_
 refine AO.nil ?_
 refine AW.region ?_
 refine AO.pu T ?_
 refine AO.val rfl rfl (ar_ok rfl rfl rfl rfl (inI_succ hlt8 hb7)) ?_
 refine AO.pu T ?_
 refine AO.nil ?_
 refine ⟨(k3 + 1, (v18.set ((k3 : Int).toNat) x20)), ⟨Nat.succ_le_of_lt hlt8, (by rw [drop_succ_of hd6]; exact hH)⟩, (by have := hlt8; dsimp only; omega), ?_⟩
 exact Le.ct 0 0

def laws_toEvent_p (a : Event) : Option Event :=
  (laws_toEntrantS_p a.entrants).bind fun x1 =>
  (laws_toIntS_p a.gone).bind fun x3 =>
  (laws_toIntS_p a.order).bind fun x5 =>
  (laws_toResultS_p a.results).bind fun x7 =>
  some (Event.mk a.segments a.size a.key x1 x3 a.segment x5 x7)
theorem laws_toEvent_ok (a : Event) (r : Event) (hH : laws_toEvent_p a = some r) : SpecR Tryz.prog 10 [.g (encEvent a)] (.g (encEventO r)) := by
 refine fn_ok T Tryz.func10 rfl (by decide) rfl ?_
 refine AW.seq (AW.region ?_)
 refine AO.step rfl (box_ok T rfl 1 rfl rfl rfl rfl) ?_
 refine AO.step rfl (alloc_ok T rfl 2 rfl rfl rfl rfl rfl) ?_
 refine AO.nil (AW.seq ?_)
 refine AW.region ?_
 refine AO.step rfl (alloc_ok T rfl 3 rfl rfl rfl rfl rfl) ?_
 refine AO.nil (AW.seq ?_)
 refine AW.region ?_
 iterate 3 refine AO.pu T ?_
 refine AO.se T [a.segments, (0 : Int), (0 : Int), .w 0 [], .w 0 [], (0 : Int), .w 0 [], .w 0 []] ?_
 refine AO.nil (AW.seq ?_)
 refine AW.region ?_
 iterate 3 refine AO.pu T ?_
 refine AO.se T [a.segments, a.size, (0 : Int), .w 0 [], .w 0 [], (0 : Int), .w 0 [], .w 0 []] ?_
 refine AO.nil (AW.seq ?_)
 refine AW.region ?_
 iterate 3 refine AO.pu T ?_
 refine AO.se T [a.segments, a.size, a.key, .w 0 [], .w 0 [], (0 : Int), .w 0 [], .w 0 []] ?_
 refine AO.nil (AW.seq ?_)
 obtain ⟨x1, hx2, hH⟩ := bindE hH
 refine AW.region ?_
 iterate 2 refine AO.pu T ?_
 refine AO.step rfl (call_ok rfl 4 rfl rfl rfl (laws_toEntrantS_ok _ _ (hx2)) rfl rfl rfl) ?_
 refine AO.pu T ?_
 refine AO.se T [a.segments, a.size, a.key, .R 4, .w 0 [], (0 : Int), .w 0 [], .w 0 []] ?_
 refine AO.nil (AW.seq ?_)
 obtain ⟨x3, hx4, hH⟩ := bindE hH
 refine AW.region ?_
 iterate 2 refine AO.pu T ?_
 refine AO.step rfl (call_ok rfl 5 rfl rfl rfl (laws_toIntS_ok _ _ (hx4)) rfl rfl rfl) ?_
 refine AO.pu T ?_
 refine AO.se T [a.segments, a.size, a.key, .R 4, .R 5, (0 : Int), .w 0 [], .w 0 []] ?_
 refine AO.nil ?_
 refine AW.le (Le.ct 0 0 (σ' := (⟨[(1, .p 1 0), (2, .p 2 0), (3, .p 3 0)], [(1, .box [a.segments, a.size, a.key, .s (List.map encEntrant a.entrants), .s (List.map encInt a.gone), a.segment, .s (List.map encInt a.order), .s (List.map encResult a.results)]), (2, .box [(0 : Int), (0 : Int), (0 : Int), .w 0 [], .w 0 [], (0 : Int), .w 0 [], .w 0 []]), (3, .box [a.segments, a.size, a.key, .R 4, .R 5, (0 : Int), .w 0 [], .w 0 []]), (4, .row 2 (List.map encEntrant x1)), (5, .row 1 (List.map encInt x3))], 33, []⟩ : St))) ?_
 refine AW.seq (AW.region ?_)
 iterate 3 refine AO.pu T ?_
 refine AO.se T [a.segments, a.size, a.key, .R 4, .R 5, a.segment, .w 0 [], .w 0 []] ?_
 refine AO.nil (AW.seq ?_)
 obtain ⟨x5, hx6, hH⟩ := bindE hH
 refine AW.region ?_
 iterate 2 refine AO.pu T ?_
 refine AO.step rfl (call_ok rfl 6 rfl rfl rfl (laws_toIntS_ok _ _ (hx6)) rfl rfl rfl) ?_
 refine AO.pu T ?_
 refine AO.se T [a.segments, a.size, a.key, .R 4, .R 5, a.segment, .R 6, .w 0 []] ?_
 refine AO.nil (AW.seq ?_)
 obtain ⟨x7, hx8, hH⟩ := bindE hH
 refine AW.region ?_
 iterate 2 refine AO.pu T ?_
 refine AO.step rfl (call_ok rfl 7 rfl rfl rfl (laws_toResultS_ok _ _ (hx8)) rfl rfl rfl) ?_
 refine AO.pu T ?_
 refine AO.se T [a.segments, a.size, a.key, .R 4, .R 5, a.segment, .R 6, .R 7] ?_
 refine AO.nil (AW.seq ?_)
 refine AW.region ?_
 refine AO.pu T (d := .g [a.segments, a.size, a.key, .R 4, .R 5, a.segment, .R 6, .R 7]) ?_
 refine AO.se T [a.segments, a.size, a.key, .R 4, .R 5, a.segment, .R 6, .R 7] ?_
 refine AO.nil (AW.ret ?_)
 cases someE hH
 exact retQ.i [4, 5, 6, 7] rfl (.c (.g (expLC_cons .v (expLC_cons .v (expLC_cons .v (expLC_cons (.rowR rfl) (expLC_cons (.rowR rfl) (expLC_cons .v (expLC_cons (.rowR rfl) (expLC_cons (.rowR rfl) (expLC_nil)))))))))))

def laws_toStep_p (a : Step) : Option Step :=
  some a
theorem laws_toStep_ok (a : Step) (r : Step) (hH : laws_toStep_p a = some r) : SpecR Tryz.prog 76 [.g (encStep a)] (.g (encStep r)) := by
 refine fn_ok T Tryz.func76 rfl (by decide) rfl ?_
 refine AW.seq (AW.region ?_)
 refine AO.step rfl (box_ok T rfl 1 rfl rfl rfl rfl) ?_
 refine AO.step rfl (alloc_ok T rfl 2 rfl rfl rfl rfl rfl) ?_
 refine AO.nil (AW.seq ?_)
 refine AW.region ?_
 refine AO.step rfl (alloc_ok T rfl 3 rfl rfl rfl rfl rfl) ?_
 refine AO.nil (AW.seq ?_)
 refine AW.region ?_
 iterate 3 refine AO.pu T ?_
 refine AO.se T [a.kind, (0 : Int), (0 : Int)] ?_
 refine AO.nil (AW.seq ?_)
 refine AW.region ?_
 iterate 3 refine AO.pu T ?_
 refine AO.se T [a.kind, a.skater, (0 : Int)] ?_
 refine AO.nil (AW.seq ?_)
 refine AW.region ?_
 iterate 3 refine AO.pu T ?_
 refine AO.se T [a.kind, a.skater, a.number] ?_
 refine AO.nil (AW.seq ?_)
 refine AW.region ?_
 refine AO.pu T (d := .g [a.kind, a.skater, a.number]) ?_
 refine AO.se T [a.kind, a.skater, a.number] ?_
 refine AO.nil (AW.ret ?_)
 cases someE hH
 exact retQ.i [] rfl (.c (.g (expLC_cons .v (expLC_cons .v (expLC_cons .v (expLC_nil))))))

def laws_toStepS_l1 : List Step → Nat → List Step → Option ((List Step))
  | [], k3, v18 =>
    some v18
  | y4 :: ys5, k3, v18 =>
    (laws_toStep_p y4).bind fun x20 =>
    (getI v18 (k3 : Int)).bind fun x22 =>
    laws_toStepS_l1 ys5 (k3 + 1) (v18.set ((k3 : Int).toNat) x20)
def laws_toStepS_p (a : List Step) : Option (List Step) :=
  (need (decide (0 ≤ (a.length : Int)) && fitsB 24 (a.length : Int).toNat)).bind fun u1 =>
  laws_toStepS_l1 a 0 (List.replicate (a.length : Int).toNat (Step.mk 0 0 0))
theorem laws_toStepS_ok (a : List Step) (r : (List Step)) (hH : laws_toStepS_p a = some r) : SpecR Tryz.prog 22 [.s (List.map encStep a)] (.w 3 (r.map encStep)) := by
 refine fn_ok T Tryz.func22 rfl (by decide) rfl ?_
 refine AW.seq (AW.region ?_)
 refine AO.pu T ?_
 refine AO.nil (AW.seq ?_)
 obtain ⟨u1, hx2, hH⟩ := bindE hH
 refine AW.region ?_
 refine AO.pu T ?_
 refine AO.val rfl rfl (len_map_ok T rfl rfl rfl) ?_
 refine AO.step rfl (make_map_ok T rfl 1 rfl rfl rfl rfl rfl (f := encStep) (zo := (Step.mk 0 0 0)) (by repeat constructor) (by decide) rfl rfl (Bool.and_eq_true_iff.1 (needT (hx2))).1 (Bool.and_eq_true_iff.1 (needT (hx2))).2 rfl rfl) ?_
 refine AO.pu T ?_
 refine AO.nil ?_
 iterate 2 refine AW.seq ?_
 refine AW.region ?_
 refine AO.pu T ?_
 refine AO.nil ?_
 refine AW.block ?_
 refine AW.loopS (fun s : Nat × (List Step) => (⟨[(0, .s (List.map encStep a)), (3, .R 1), (4, (s.1 : Int))], [(1, .row 3 (List.map encStep s.2))], 23, []⟩ : St)) (fun s => s.1 ≤ a.length ∧ laws_toStepS_l1 (a.drop s.1) s.1 s.2 = some r) (fun s => a.length - s.1) (0, (List.replicate (a.length : Int).toNat (Step.mk 0 0 0))) ⟨Nat.zero_le _, hH⟩ ?_ ?_
 exact Le.ct 0 0
 rintro ⟨k3, v18⟩ ⟨hk, hH⟩
 replace hH : laws_toStepS_l1 (a.drop k3) k3 v18 = some r := hH
 try dsimp only
 refine AW.boundM (t := 0) (l := a) rfl (fun hb7 => ?_)
 rcases hd6 : a.drop k3 with _ | ⟨y4, ys5⟩
 rw [hd6, laws_toStepS_l1] at hH
 have hlt8 := drop_ge hd6
 iterate 2 refine AW.seq ?_
 refine AW.region ?_
 iterate 2 refine AO.pu T ?_
 refine AO.val rfl rfl (len_map_ok T rfl rfl rfl) ?_
 refine AO.pu T ?_
 refine AO.nil ?_
 refine AW.condF' (b := decide ((k3 : Int) < (a.length : Int))) rfl (rngF hlt8) ?_
 refine AW.exit ?_
 refine AW.seq (AW.region ?_)
 iterate 2 refine AO.pu T ?_
 refine AO.nil (AW.ret ?_)
 cases someE hH
 exact retQ.i [1] rfl (.c (.c (.rowR rfl)))
 rw [hd6, laws_toStepS_l1] at hH
 have hlt8 := drop_lt hd6
 iterate 2 refine AW.seq ?_
 refine AW.region ?_
 iterate 2 refine AO.pu T ?_
 refine AO.val rfl rfl (len_map_ok T rfl rfl rfl) ?_
 refine AO.pu T ?_
 refine AO.nil ?_
 refine AW.condT' (b := decide ((k3 : Int) < (a.length : Int))) rfl (rngT hlt8) ?_
 refine AW.skip ?_
 refine AW.seq ?_
 refine AW.block ?_
 obtain ⟨x20, hx21, hH⟩ := bindE hH
 obtain ⟨x22, hx23, hH⟩ := bindE hH
 refine AW.region ?_
 iterate 4 refine AO.pu T ?_
 refine AO.val rfl rfl (ix_map_ok T rfl rfl rfl rfl rfl (getI_drop hd6) rfl) ?_
 refine AO.pu T (d := .g [y4.kind, y4.skater, y4.number]) ?_
 refine AO.val rfl rfl (callV_ok rfl rfl rfl rfl (laws_toStep_ok _ _ (hx21)) rfl) ?_
 refine AO.val rfl rfl (ix_row_ok T rfl rfl rfl rfl rfl rfl (hx23)) ?_
 refine AO.step rfl (store_row_ok T rfl rfl rfl rfl rfl (getI_get (hx23)) rfl rfl rfl rfl (u' := x20) rfl rfl) ?_
 refine AO.nil ?_
 refine AW.region ?_
 refine AO.pu T ?_
 refine AO.val rfl rfl (ar_ok rfl rfl rfl rfl (inI_succ hlt8 hb7)) ?_
 refine AO.pu T ?_
 refine AO.nil ?_
 refine ⟨(k3 + 1, (v18.set ((k3 : Int).toNat) x20)), ⟨Nat.succ_le_of_lt hlt8, (by rw [drop_succ_of hd6]; exact hH)⟩, (by have := hlt8; dsimp only; omega), ?_⟩
 exact Le.ct 0 0

def spec_l1In_p (n : Int) (lo : Int) (hi : Int) : Option Bool :=
  some (decide (n ≥ lo) && decide (n ≤ hi))
theorem spec_l1In_ok (n : Int) (lo : Int) (hi : Int) (r : Bool) (hH : spec_l1In_p n lo hi = some r) : SpecR Tryz.prog 152 [n, lo, hi] (.v (.bool r)) := by
 refine fn_ok T Tryz.func152 rfl (by decide) rfl ?_
 refine AW.seq (AW.region ?_)
 refine AO.pu T ?_
 refine AO.nil (AW.seq ?_)
 refine AW.region ?_
 iterate 4 refine AO.pu T ?_
 iterate 2 refine AO.pureG T [] rfl trivial rfl rfl ?_
 refine AO.pureG T [11, 12] rfl ⟨fun h => h, fun h => h, trivial⟩ rfl rfl ?_
 refine AO.val rfl rfl (pick_and rfl rfl rfl rfl) ?_
 refine AO.pu T ?_
 refine AO.nil (AW.ret ?_)
 cases someE hH
 exact retQ.i [] rfl (.c (.c .v))

def spec_soSize_p (size : Int) : Option Bool :=
  (spec_l1In_p size 1 8).bind fun x1 =>
  some x1
theorem spec_soSize_ok (size : Int) (r : Bool) (hH : spec_soSize_p size = some r) : SpecR Tryz.prog 153 [size] (.v (.bool r)) := by
 refine fn_ok T Tryz.func153 rfl (by decide) rfl ?_
 refine AW.seq (AW.region ?_)
 refine AO.pu T ?_
 refine AO.nil (AW.seq ?_)
 obtain ⟨x1, hx2, hH⟩ := bindE hH
 refine AW.region ?_
 refine AO.pu T ?_
 refine AO.val rfl rfl (callV_ok rfl rfl rfl rfl (spec_l1In_ok _ _ _ _ (hx2)) rfl) ?_
 refine AO.pu T ?_
 refine AO.nil (AW.ret ?_)
 cases someE hH
 exact retQ.i [] rfl (.c (.c .v))

def spec_l1Has_l1 (n : Int) : List Int → Nat → Option Bool
  | [], k1 =>
    some false
  | y2 :: ys3, k1 =>
    cond (y2 == n)
      (some true)
      (spec_l1Has_l1 n ys3 (k1 + 1))
def spec_l1Has_p (l : List Int) (n : Int) : Option Bool :=
  spec_l1Has_l1 n l 0
theorem spec_l1Has_ok (l : List Int) (n : Int) (r : Bool) (hH : spec_l1Has_p l n = some r) : SpecR Tryz.prog 113 [.s (List.map encInt l), n] (.v (.bool r)) := by
 refine fn_ok T Tryz.func113 rfl (by decide) rfl ?_
 refine AW.seq (AW.region ?_)
 refine AO.pu T ?_
 refine AO.nil ?_
 iterate 2 refine AW.seq ?_
 refine AW.region ?_
 refine AO.pu T ?_
 refine AO.val rfl rfl (len_map_ok T rfl rfl rfl) ?_
 refine AO.pu T ?_
 refine AO.nil ?_
 refine AW.block ?_
 refine AW.loopS (fun s : Nat => (⟨[(1, n), (7, .s (List.map encInt l)), (8, (l.length : Int)), (9, (s : Int))], [], 17, []⟩ : St)) (fun s => s ≤ l.length ∧ spec_l1Has_l1 n (l.drop s) s = some r) (fun s => l.length - s) 0 ⟨Nat.zero_le _, hH⟩ ?_ ?_
 exact Le.ct 0 0
 rintro k1 ⟨hk, hH⟩
 replace hH : spec_l1Has_l1 n (l.drop k1) k1 = some r := hH
 try dsimp only
 refine AW.boundM (t := 7) (l := l) rfl (fun hb5 => ?_)
 rcases hd4 : l.drop k1 with _ | ⟨y2, ys3⟩
 rw [hd4, spec_l1Has_l1] at hH
 have hlt6 := drop_ge hd4
 refine AW.seq (AW.region ?_)
 refine AO.pu T ?_
 refine AO.nil (AW.seq ?_)
 refine AW.condF' (b := decide ((k1 : Int) < (l.length : Int))) rfl (rngF hlt6) ?_
 refine AW.exit ?_
 refine AW.seq (AW.region ?_)
 refine AO.pu T ?_
 refine AO.nil (AW.ret ?_)
 cases someE hH
 exact retQ.i [] rfl (.c (.c .v))
 rw [hd4, spec_l1Has_l1] at hH
 have hlt6 := drop_lt hd4
 refine AW.seq (AW.region ?_)
 refine AO.pu T ?_
 refine AO.nil (AW.seq ?_)
 refine AW.condT' (b := decide ((k1 : Int) < (l.length : Int))) rfl (rngT hlt6) ?_
 refine AW.skip ?_
 refine AW.seq ?_
 refine AW.block ?_
 refine AW.seq (AW.region ?_)
 refine AO.val rfl rfl (ix_map_ok T rfl rfl rfl rfl rfl (getI_drop hd4) rfl) ?_
 iterate 2 refine AO.pu T ?_
 refine AO.nil (AW.seq ?_)
 refine AW.region ?_
 iterate 3 refine AO.pu T ?_
 refine AO.nil ?_
 refine AW.cond (b := (y2 == n)) rfl (fun hc => ?_) (fun hc => ?_)
 replace hH := condT hc hH
 refine AW.seq (AW.region ?_)
 refine AO.pu T ?_
 refine AO.nil (AW.ret ?_)
 cases someE hH
 exact retQ.i [] rfl (.c (.c .v))
 replace hH := condF hc hH
 refine AW.skip ?_
 refine AW.region ?_
 refine AO.val rfl rfl (ar_ok rfl rfl rfl rfl (inI_succ hlt6 hb5)) ?_
 refine AO.pu T ?_
 refine AO.nil ?_
 refine ⟨k1 + 1, ⟨Nat.succ_le_of_lt hlt6, (by rw [drop_succ_of hd4]; exact hH)⟩, (by have := hlt6; dsimp only; omega), ?_⟩
 exact Le.ct 0 0

def spec_soEntrants_l1 (l : List Entrant) : List Entrant → Nat → List Int → List Int → Option Bool
  | [], k1, v33, v34 =>
    some (decide ((l.length : Int) ≤ 40))
  | y2 :: ys3, k1, v33, v34 =>
    (spec_l1In_p y2.skater 1 999).bind fun x36 =>
    (opt (!(!x36)) default (spec_l1In_p y2.rank 0 999)).bind fun x38 =>
    (opt (!((!x36) || (!x38))) default (spec_l1Has_p v33 y2.skater)).bind fun x40 =>
    (opt ((!(((!x36) || (!x38)) || x40)) && decide (y2.rank > 0)) default (spec_l1Has_p v34 y2.rank)).bind fun x42 =>
    cond ((((!x36) || (!x38)) || x40) || (decide (y2.rank > 0) && x42))
      (some false)
      ((need (fitsB 8 (v33.length + ([y2.skater]).length))).bind fun u44 =>
      (need (fitsB 8 (v34.length + ([y2.rank]).length))).bind fun u46 =>
      spec_soEntrants_l1 l ys3 (k1 + 1) (v33 ++ [y2.skater]) (v34 ++ [y2.rank]))
def spec_soEntrants_p (l : List Entrant) : Option Bool :=
  spec_soEntrants_l1 l l 0 [] []
theorem spec_soEntrants_ok (l : List Entrant) (r : Bool) (hH : spec_soEntrants_p l = some r) : SpecR Tryz.prog 141 [.s (List.map encEntrant l)] (.v (.bool r)) := by
 refine fn_ok T Tryz.func141 rfl (by decide) rfl ?_
 refine AW.seq (AW.region ?_)
 refine AO.pu T ?_
 refine AO.nil (AW.seq ?_)
 refine AW.region ?_
 iterate 2 refine AO.pu T ?_
 refine AO.nil ?_
 iterate 2 refine AW.seq ?_
 refine AW.region ?_
 refine AO.pu T ?_
 refine AO.val rfl rfl (len_map_ok T rfl rfl rfl) ?_
 refine AO.pu T ?_
 refine AO.nil ?_
 refine AW.block ?_
 refine AW.loopS (fun s : Nat × (List Int) × (List Int) => (⟨[(0, .s (List.map encEntrant l)), (3, .R 8), (4, .R 10), (7, .s (List.map encEntrant l)), (8, (l.length : Int)), (9, (s.1 : Int))], [(8, .row 1 (List.map encInt s.2.1)), (10, .row 1 (List.map encInt s.2.2))], 54, []⟩ : St)) (fun s => s.1 ≤ l.length ∧ spec_soEntrants_l1 l (l.drop s.1) s.1 s.2.1 s.2.2 = some r) (fun s => l.length - s.1) (0, [], []) ⟨Nat.zero_le _, hH⟩ ?_ ?_
 refine Le.trans (Le.void 3 8 1 rfl rfl) ?_
 refine Le.trans (Le.void 4 10 1 rfl rfl) ?_
 exact Le.ct 0 0
 rintro ⟨k1, v33, v34⟩ ⟨hk, hH⟩
 replace hH : spec_soEntrants_l1 l (l.drop k1) k1 v33 v34 = some r := hH
 try dsimp only
 refine AW.boundM (t := 0) (l := l) rfl (fun hb5 => ?_)
 rcases hd4 : l.drop k1 with _ | ⟨y2, ys3⟩
 rw [hd4, spec_soEntrants_l1] at hH
 have hlt6 := drop_ge hd4
 refine AW.seq (AW.region ?_)
 refine AO.pu T ?_
 refine AO.nil (AW.seq ?_)
 refine AW.condF' (b := decide ((k1 : Int) < (l.length : Int))) rfl (rngF hlt6) ?_
 refine AW.exit ?_
 refine AW.seq (AW.region ?_)
 refine AO.pu T ?_
 refine AO.val rfl rfl (len_map_ok T rfl rfl rfl) ?_
 iterate 2 refine AO.pu T ?_
 refine AO.nil (AW.ret ?_)
 cases someE hH
 exact retQ.i [] rfl (.c (.c .v))
 rw [hd4, spec_soEntrants_l1] at hH
 have hlt6 := drop_lt hd4
 refine AW.seq (AW.region ?_)
 refine AO.pu T ?_
 refine AO.nil (AW.seq ?_)
 refine AW.condT' (b := decide ((k1 : Int) < (l.length : Int))) rfl (rngT hlt6) ?_
 refine AW.skip ?_
 refine AW.seq ?_
 refine AW.block ?_
 refine AW.seq (AW.region ?_)
 refine AO.val rfl rfl (ix_map_ok T rfl rfl rfl rfl rfl (getI_drop hd4) rfl) ?_
 refine AO.pu T (d := .g [y2.skater, y2.rank]) ?_
 refine AO.step rfl (alloc_ok T rfl 11 rfl rfl rfl rfl rfl) ?_
 refine AO.se T [y2.skater, y2.rank] ?_
 refine AO.nil ?_
 iterate 2 refine AW.seq ?_
 obtain ⟨x36, hx37, hH⟩ := bindE hH
 obtain ⟨x38, hx39, hH⟩ := bindE hH
 obtain ⟨x40, hx41, hH⟩ := bindE hH
 obtain ⟨x42, hx43, hH⟩ := bindE hH
 refine AW.region ?_
 iterate 2 refine AO.pu T ?_
 refine AO.val rfl rfl (callV_ok rfl rfl rfl rfl (spec_l1In_ok _ _ _ _ (hx37)) rfl) ?_
 iterate 2 refine AO.pu T ?_
 refine AO.pureG T [] rfl trivial rfl rfl ?_
 refine AO.pureG T [18] rfl ⟨fun h => h, trivial⟩ rfl rfl ?_
 refine AO.guard [19] rfl ⟨fun h => h, trivial⟩ (fun hg => callV_ok rfl rfl rfl rfl (spec_l1In_ok _ _ _ _ (optT hx39 hg)) rfl) rfl ?_
 refine AO.pureG T [20] rfl ⟨fun h => h, trivial⟩ rfl rfl ?_
 refine AO.val rfl rfl (pick_or rfl rfl rfl rfl) ?_
 refine AO.pu T ?_
 iterate 2 refine AO.pureG T [] rfl trivial rfl rfl ?_
 refine AO.pureG T [25] rfl ⟨fun h => h, trivial⟩ rfl rfl ?_
 refine AO.guard [24, 26] rfl ⟨fun h => h, fun h => h, trivial⟩ (fun hg => callLV_ok rfl rfl rfl (es := [.s (List.map encInt v33), y2.skater]) ⟨(.rowR rfl (.map fun y => .vs rfl)), .free rfl, trivial⟩ (spec_l1Has_ok _ _ _ (optT hx41 hg)) (zfree_v _) rfl) rfl ?_
 refine AO.val rfl rfl (pick_or rfl rfl rfl rfl) ?_
 refine AO.pu T ?_
 refine AO.pureG T [] rfl trivial rfl rfl ?_
 refine AO.pureG T [30] rfl ⟨fun h => h, trivial⟩ rfl rfl ?_
 refine AO.pureG T [31] rfl ⟨fun h => h, trivial⟩ rfl rfl ?_
 refine AO.pureG T [32] rfl ⟨fun h => h, trivial⟩ rfl rfl ?_
 iterate 2 refine AO.pureG T [] rfl trivial rfl rfl ?_
 refine AO.pureG T [35] rfl ⟨fun h => h, trivial⟩ rfl rfl ?_
 refine AO.guard [34, 36] rfl ⟨fun h => h, fun h => h, trivial⟩ (fun hg => callLV_ok rfl rfl rfl (es := [.s (List.map encInt v34), y2.rank]) ⟨(.rowR rfl (.map fun y => .vs rfl)), .free rfl, trivial⟩ (spec_l1Has_ok _ _ _ (optT hx43 hg)) (zfree_v _) rfl) rfl ?_
 refine AO.guard [33] rfl ⟨fun h => h, trivial⟩ (fun hg => pick_and rfl rfl rfl (by rw [hg]; exact Bool.true_and _)) rfl ?_
 refine AO.val rfl rfl (pick_or rfl rfl rfl rfl) ?_
 refine AO.nil ?_
 refine AW.le (Le.ct 0 0 (σ' := (⟨[(0, .s (List.map encEntrant l)), (3, .R 8), (4, .R 10), (6, .p 11 0), (7, .s (List.map encEntrant l)), (8, (l.length : Int)), (9, (k1 : Int)), (39, .v (.bool ((((!x36) || (!x38)) || x40) || (decide (y2.rank > 0) && x42))))], [(8, .row 1 (List.map encInt v33)), (10, .row 1 (List.map encInt v34)), (11, .box [y2.skater, y2.rank])], 54, []⟩ : St))) ?_
 refine AW.cond (b := ((((!x36) || (!x38)) || x40) || (decide (y2.rank > 0) && x42))) rfl (fun hc => ?_) (fun hc => ?_)
 replace hH := condT hc hH
 refine AW.seq (AW.region ?_)
 refine AO.pu T ?_
 refine AO.nil (AW.ret ?_)
 cases someE hH
 exact retQ.i [] rfl (.c (.c .v))
 replace hH := condF hc hH
 refine AW.skip ?_
 refine AW.seq ?_
 obtain ⟨u44, hx45, hH⟩ := bindE hH
 refine AW.region ?_
 iterate 3 refine AO.pu T ?_
 refine AO.step rfl (mk_map_ok T rfl 12 rfl rfl rfl rfl rfl (f := encInt) (l := [y2.skater]) rfl rfl (fun _ => rfl) rfl rfl rfl rfl rfl) ?_
 refine AO.step rfl (app_rv_map T rfl 13 rfl rfl rfl rfl rfl (by decide) rfl rfl rfl rfl (fun _ => rfl) (needT (hx45)) rfl rfl) ?_
 refine AO.pu T ?_
 refine AO.nil ?_
 obtain ⟨u46, hx47, hH⟩ := bindE hH
 refine AW.region ?_
 iterate 3 refine AO.pu T ?_
 refine AO.step rfl (mk_map_ok T rfl 14 rfl rfl rfl rfl rfl (f := encInt) (l := [y2.rank]) rfl rfl (fun _ => rfl) rfl rfl rfl rfl rfl) ?_
 refine AO.step rfl (app_rv_map T rfl 15 rfl rfl rfl rfl rfl (by decide) rfl rfl rfl rfl (fun _ => rfl) (needT (hx47)) rfl rfl) ?_
 refine AO.pu T ?_
 refine AO.nil ?_
 refine AW.region ?_
 refine AO.val rfl rfl (ar_ok rfl rfl rfl rfl (inI_succ hlt6 hb5)) ?_
 refine AO.pu T ?_
 refine AO.nil ?_
 refine ⟨(k1 + 1, (v33 ++ [y2.skater]), (v34 ++ [y2.rank])), ⟨Nat.succ_le_of_lt hlt6, (by rw [drop_succ_of hd4]; exact hH)⟩, (by have := hlt6; dsimp only; omega), ?_⟩
 refine Le.trans (Le.ct 13 8 (σ' := (⟨[(0, .s (List.map encEntrant l)), (3, .R 8), (4, .R 15), (7, .s (List.map encEntrant l)), (8, (l.length : Int)), (9, ((k1 + 1 : Nat) : Int))], [(8, .row 1 (List.map encInt (v33 ++ [y2.skater]))), (15, .row 1 (List.map encInt (v34 ++ [y2.rank])))], 54, []⟩ : St))) ?_
 exact Le.ct 15 10

def spec_l1Rising_l1 (l : List Int) (lo : Int) (hi : Int) : List Int → Nat → Option Bool
  | [], k1 =>
    some true
  | y2 :: ys3, k1 =>
    (spec_l1In_p y2 lo hi).bind fun x16 =>
    (opt ((!(!x16)) && decide ((k1 : Int) > 0)) default (getI l (w64 ((k1 : Int) - 1)))).bind fun x18 =>
    cond ((!x16) || (decide ((k1 : Int) > 0) && decide (x18 ≥ y2)))
      (some false)
      (spec_l1Rising_l1 l lo hi ys3 (k1 + 1))
def spec_l1Rising_p (l : List Int) (lo : Int) (hi : Int) : Option Bool :=
  spec_l1Rising_l1 l lo hi l 0
theorem spec_l1Rising_ok (l : List Int) (lo : Int) (hi : Int) (r : Bool) (hH : spec_l1Rising_p l lo hi = some r) : SpecR Tryz.prog 154 [.s (List.map encInt l), lo, hi] (.v (.bool r)) := by
 refine fn_ok T Tryz.func154 rfl (by decide) rfl ?_
 refine AW.seq (AW.region ?_)
 refine AO.pu T ?_
 refine AO.nil ?_
 iterate 2 refine AW.seq ?_
 refine AW.region ?_
 refine AO.pu T ?_
 refine AO.val rfl rfl (len_map_ok T rfl rfl rfl) ?_
 refine AO.pu T ?_
 refine AO.nil ?_
 refine AW.block ?_
 refine AW.loopS (fun s : Nat => (⟨[(0, .s (List.map encInt l)), (1, lo), (2, hi), (9, .s (List.map encInt l)), (10, (l.length : Int)), (11, (s : Int))], [], 35, []⟩ : St)) (fun s => s ≤ l.length ∧ spec_l1Rising_l1 l lo hi (l.drop s) s = some r) (fun s => l.length - s) 0 ⟨Nat.zero_le _, hH⟩ ?_ ?_
 exact Le.ct 0 0
 rintro k1 ⟨hk, hH⟩
 replace hH : spec_l1Rising_l1 l lo hi (l.drop k1) k1 = some r := hH
 try dsimp only
 refine AW.boundM (t := 0) (l := l) rfl (fun hb5 => ?_)
 rcases hd4 : l.drop k1 with _ | ⟨y2, ys3⟩
 rw [hd4, spec_l1Rising_l1] at hH
 have hlt6 := drop_ge hd4
 refine AW.seq (AW.region ?_)
 refine AO.pu T ?_
 refine AO.nil (AW.seq ?_)
 refine AW.condF' (b := decide ((k1 : Int) < (l.length : Int))) rfl (rngF hlt6) ?_
 refine AW.exit ?_
 refine AW.seq (AW.region ?_)
 refine AO.pu T ?_
 refine AO.nil (AW.ret ?_)
 cases someE hH
 exact retQ.i [] rfl (.c (.c .v))
 rw [hd4, spec_l1Rising_l1] at hH
 have hlt6 := drop_lt hd4
 refine AW.seq (AW.region ?_)
 refine AO.pu T ?_
 refine AO.nil (AW.seq ?_)
 refine AW.condT' (b := decide ((k1 : Int) < (l.length : Int))) rfl (rngT hlt6) ?_
 refine AW.skip ?_
 refine AW.seq ?_
 refine AW.block ?_
 refine AW.seq (AW.region ?_)
 refine AO.pu T ?_
 refine AO.val rfl rfl (ix_map_ok T rfl rfl rfl rfl rfl (getI_drop hd4) rfl) ?_
 iterate 3 refine AO.pu T ?_
 refine AO.nil (AW.seq ?_)
 obtain ⟨x16, hx17, hH⟩ := bindE hH
 obtain ⟨x18, hx19, hH⟩ := bindE hH
 refine AW.region ?_
 iterate 3 refine AO.pu T ?_
 refine AO.val rfl rfl (callV_ok rfl rfl rfl rfl (spec_l1In_ok _ _ _ _ (hx17)) rfl) ?_
 iterate 2 refine AO.pu T ?_
 refine AO.pureG T [] rfl trivial rfl rfl ?_
 refine AO.pureG T [22] rfl ⟨fun h => h, trivial⟩ rfl rfl ?_
 refine AO.pureG T [23] rfl ⟨fun h => h, trivial⟩ rfl rfl ?_
 iterate 2 refine AO.pureG T [] rfl trivial rfl rfl ?_
 refine AO.guard [26] rfl ⟨fun h => h, trivial⟩ (fun hg => arw_ok rfl rfl rfl rfl) rfl ?_
 refine AO.guard [25, 27] rfl ⟨fun h => h, fun h => h, trivial⟩ (fun hg => ix_map_ok T rfl rfl rfl rfl rfl (optT hx19 hg) rfl) rfl ?_
 refine AO.pureG T [28] rfl ⟨fun h => h, trivial⟩ rfl rfl ?_
 refine AO.pureG T [] rfl trivial rfl rfl ?_
 refine AO.pureG T [29, 30] rfl ⟨fun h => h, fun h => h, trivial⟩ rfl rfl ?_
 refine AO.guard [24] rfl ⟨fun h => h, trivial⟩ (fun hg => pick_and rfl rfl rfl (by rw [hg]; exact Bool.true_and _)) rfl ?_
 refine AO.val rfl rfl (pick_or rfl rfl rfl rfl) ?_
 refine AO.nil ?_
 refine AW.le (Le.ct 0 0 (σ' := (⟨[(0, .s (List.map encInt l)), (1, lo), (2, hi), (9, .s (List.map encInt l)), (10, (l.length : Int)), (11, (k1 : Int)), (33, .v (.bool ((!x16) || (decide ((k1 : Int) > 0) && decide (x18 ≥ y2)))))], [], 35, []⟩ : St))) ?_
 refine AW.cond (b := ((!x16) || (decide ((k1 : Int) > 0) && decide (x18 ≥ y2)))) rfl (fun hc => ?_) (fun hc => ?_)
 replace hH := condT hc hH
 refine AW.seq (AW.region ?_)
 refine AO.pu T ?_
 refine AO.nil (AW.ret ?_)
 cases someE hH
 exact retQ.i [] rfl (.c (.c .v))
 replace hH := condF hc hH
 refine AW.skip ?_
 refine AW.region ?_
 refine AO.val rfl rfl (ar_ok rfl rfl rfl rfl (inI_succ hlt6 hb5)) ?_
 refine AO.pu T ?_
 refine AO.nil ?_
 refine ⟨k1 + 1, ⟨Nat.succ_le_of_lt hlt6, (by rw [drop_succ_of hd4]; exact hH)⟩, (by have := hlt6; dsimp only; omega), ?_⟩
 exact Le.ct 0 0

def spec_soOrder_l1 (order : List Int) : List Int → Nat → Option Bool
  | [], k1 =>
    some (decide ((order.length : Int) ≤ 40))
  | y2 :: ys3, k1 =>
    (spec_l1In_p y2 1 999).bind fun x20 =>
    (opt (!(!x20)) default (sliceHi order (k1 : Int))).bind fun x22 =>
    (opt (!(!x20)) default (spec_l1Has_p x22 y2)).bind fun x24 =>
    cond ((!x20) || x24)
      (some false)
      (spec_soOrder_l1 order ys3 (k1 + 1))
def spec_soOrder_p (order : List Int) : Option Bool :=
  spec_soOrder_l1 order order 0
theorem spec_soOrder_ok (order : List Int) (r : Bool) (hH : spec_soOrder_p order = some r) : SpecR Tryz.prog 155 [.s (List.map encInt order)] (.v (.bool r)) := by
 refine fn_ok T Tryz.func155 rfl (by decide) rfl ?_
 refine AW.seq (AW.region ?_)
 refine AO.pu T ?_
 refine AO.nil ?_
 iterate 2 refine AW.seq ?_
 refine AW.region ?_
 refine AO.pu T ?_
 refine AO.val rfl rfl (len_map_ok T rfl rfl rfl) ?_
 refine AO.pu T ?_
 refine AO.nil ?_
 refine AW.block ?_
 refine AW.loopS (fun s : Nat => (⟨[(0, .s (List.map encInt order)), (5, .s (List.map encInt order)), (6, (order.length : Int)), (7, (s : Int))], [], 26, []⟩ : St)) (fun s => s ≤ order.length ∧ spec_soOrder_l1 order (order.drop s) s = some r) (fun s => order.length - s) 0 ⟨Nat.zero_le _, hH⟩ ?_ ?_
 exact Le.ct 0 0
 rintro k1 ⟨hk, hH⟩
 replace hH : spec_soOrder_l1 order (order.drop k1) k1 = some r := hH
 try dsimp only
 refine AW.boundM (t := 0) (l := order) rfl (fun hb5 => ?_)
 rcases hd4 : order.drop k1 with _ | ⟨y2, ys3⟩
 rw [hd4, spec_soOrder_l1] at hH
 have hlt6 := drop_ge hd4
 refine AW.seq (AW.region ?_)
 refine AO.pu T ?_
 refine AO.nil (AW.seq ?_)
 refine AW.condF' (b := decide ((k1 : Int) < (order.length : Int))) rfl (rngF hlt6) ?_
 refine AW.exit ?_
 refine AW.seq (AW.region ?_)
 refine AO.pu T ?_
 refine AO.val rfl rfl (len_map_ok T rfl rfl rfl) ?_
 iterate 2 refine AO.pu T ?_
 refine AO.nil (AW.ret ?_)
 cases someE hH
 exact retQ.i [] rfl (.c (.c .v))
 rw [hd4, spec_soOrder_l1] at hH
 have hlt6 := drop_lt hd4
 refine AW.seq (AW.region ?_)
 refine AO.pu T ?_
 refine AO.nil (AW.seq ?_)
 refine AW.condT' (b := decide ((k1 : Int) < (order.length : Int))) rfl (rngT hlt6) ?_
 refine AW.skip ?_
 refine AW.seq ?_
 refine AW.block ?_
 refine AW.seq (AW.region ?_)
 refine AO.pu T ?_
 refine AO.val rfl rfl (ix_map_ok T rfl rfl rfl rfl rfl (getI_drop hd4) rfl) ?_
 iterate 3 refine AO.pu T ?_
 refine AO.nil (AW.seq ?_)
 obtain ⟨x20, hx21, hH⟩ := bindE hH
 obtain ⟨x22, hx23, hH⟩ := bindE hH
 obtain ⟨x24, hx25, hH⟩ := bindE hH
 refine AW.region ?_
 refine AO.pu T ?_
 refine AO.val rfl rfl (callV_ok rfl rfl rfl rfl (spec_l1In_ok _ _ _ _ (hx21)) rfl) ?_
 iterate 2 refine AO.pu T ?_
 iterate 2 refine AO.pureG T [] rfl trivial rfl rfl ?_
 refine AO.guard [16, 17] rfl ⟨fun h => h, fun h => h, trivial⟩ (fun hg => slice_hi_map_ok T rfl rfl rfl rfl rfl (optT hx23 hg) (fun _ => rfl)) rfl ?_
 refine AO.pureG T [] rfl trivial rfl rfl ?_
 refine AO.guard [18, 19] rfl ⟨fun h => h, fun h => h, trivial⟩ (fun hg => callV_ok rfl rfl rfl rfl (spec_l1Has_ok _ _ _ (optT hx25 hg)) rfl) rfl ?_
 refine AO.val rfl rfl (pick_or rfl rfl rfl rfl) ?_
 refine AO.nil ?_
 refine AW.cond (b := ((!x20) || x24)) rfl (fun hc => ?_) (fun hc => ?_)
 replace hH := condT hc hH
 refine AW.seq (AW.region ?_)
 refine AO.pu T ?_
 refine AO.nil (AW.ret ?_)
 cases someE hH
 exact retQ.i [] rfl (.c (.c .v))
 replace hH := condF hc hH
 refine AW.skip ?_
 refine AW.region ?_
 refine AO.val rfl rfl (ar_ok rfl rfl rfl rfl (inI_succ hlt6 hb5)) ?_
 refine AO.pu T ?_
 refine AO.nil ?_
 refine ⟨k1 + 1, ⟨Nat.succ_le_of_lt hlt6, (by rw [drop_succ_of hd4]; exact hH)⟩, (by have := hlt6; dsimp only; omega), ?_⟩
 exact Le.ct 0 0

def spec_rkResult_l1 (rA : Result) : List Int → Nat → Bool → Option Bool
  | [], k1, v12 =>
    (spec_l1In_p rA.skater 1 999).bind fun x14 =>
    (opt x14 default (spec_l1In_p (rA.scores.length : Int) 1 3)).bind fun x16 =>
    some (x14 && x16)
  | y2 :: ys3, k1, v12 =>
    (spec_l1In_p y2 (-1) 100000).bind fun x18 =>
    cond ((!x18) || (v12 && decide (y2 ≥ 0)))
      (some false)
      (spec_rkResult_l1 rA ys3 (k1 + 1) (decide (y2 < 0)))
def spec_rkResult_p (rA : Result) : Option Bool :=
  spec_rkResult_l1 rA rA.scores 0 false
theorem spec_rkResult_ok (rA : Result) (r : Bool) (hH : spec_rkResult_p rA = some r) : SpecR Tryz.prog 151 [.g (encResult rA)] (.v (.bool r)) := by
 refine fn_ok T Tryz.func151 rfl (by decide) rfl ?_
 refine AW.seq (AW.region ?_)
 refine AO.step rfl (box_ok T rfl 1 rfl rfl rfl rfl) ?_
 refine AO.pu T ?_
 refine AO.nil (AW.seq ?_)
 refine AW.region ?_
 refine AO.pu T ?_
 refine AO.nil ?_
 iterate 2 refine AW.seq ?_
 refine AW.region ?_
 iterate 2 refine AO.pu T ?_
 refine AO.val rfl rfl (len_map_ok T rfl rfl rfl) ?_
 refine AO.pu T ?_
 refine AO.nil ?_
 refine AW.block ?_
 refine AW.loopS (fun s : Nat × Bool => (⟨[(1, .p 1 0), (3, .v (.bool s.2)), (7, .s (List.map encInt rA.scores)), (8, (rA.scores.length : Int)), (9, (s.1 : Int))], [(1, .box [rA.skater, .s (List.map encInt rA.scores)])], 35, []⟩ : St)) (fun s => s.1 ≤ rA.scores.length ∧ spec_rkResult_l1 rA (rA.scores.drop s.1) s.1 s.2 = some r) (fun s => rA.scores.length - s.1) (0, false) ⟨Nat.zero_le _, hH⟩ ?_ ?_
 exact Le.ct 0 0
 rintro ⟨k1, v12⟩ ⟨hk, hH⟩
 replace hH : spec_rkResult_l1 rA (rA.scores.drop k1) k1 v12 = some r := hH
 try dsimp only
 refine AW.boundM (t := 7) (l := rA.scores) rfl (fun hb5 => ?_)
 rcases hd4 : rA.scores.drop k1 with _ | ⟨y2, ys3⟩
 rw [hd4, spec_rkResult_l1] at hH
 have hlt6 := drop_ge hd4
 refine AW.seq (AW.region ?_)
 refine AO.pu T ?_
 refine AO.nil (AW.seq ?_)
 refine AW.condF' (b := decide ((k1 : Int) < (rA.scores.length : Int))) rfl (rngF hlt6) ?_
 refine AW.exit ?_
 refine AW.seq ?_
 obtain ⟨x14, hx15, hH⟩ := bindE hH
 obtain ⟨x16, hx17, hH⟩ := bindE hH
 refine AW.region ?_
 iterate 2 refine AO.pu T ?_
 refine AO.val rfl rfl (callV_ok rfl rfl rfl rfl (spec_l1In_ok _ _ _ _ (hx15)) rfl) ?_
 refine AO.pu T ?_
 refine AO.pureG T [] rfl trivial rfl rfl ?_
 refine AO.pureG T [30] rfl ⟨fun h => h, trivial⟩ rfl rfl ?_
 refine AO.guard [31] rfl ⟨fun h => h, trivial⟩ (fun hg => len_map_ok T rfl rfl rfl) rfl ?_
 refine AO.guard [32] rfl ⟨fun h => h, trivial⟩ (fun hg => callV_ok rfl rfl rfl rfl (spec_l1In_ok _ _ _ _ (optT hx17 hg)) rfl) rfl ?_
 refine AO.val rfl rfl (pick_and rfl rfl rfl rfl) ?_
 refine AO.pu T ?_
 refine AO.nil (AW.ret ?_)
 cases someE hH
 exact retQ.i [] rfl (.c (.c .v))
 rw [hd4, spec_rkResult_l1] at hH
 have hlt6 := drop_lt hd4
 refine AW.seq (AW.region ?_)
 refine AO.pu T ?_
 refine AO.nil (AW.seq ?_)
 refine AW.condT' (b := decide ((k1 : Int) < (rA.scores.length : Int))) rfl (rngT hlt6) ?_
 refine AW.skip ?_
 refine AW.seq ?_
 refine AW.block ?_
 refine AW.seq (AW.region ?_)
 refine AO.val rfl rfl (ix_map_ok T rfl rfl rfl rfl rfl (getI_drop hd4) rfl) ?_
 iterate 2 refine AO.pu T ?_
 refine AO.nil ?_
 iterate 2 refine AW.seq ?_
 obtain ⟨x18, hx19, hH⟩ := bindE hH
 refine AW.region ?_
 refine AO.pu T ?_
 refine AO.val rfl rfl (callV_ok rfl rfl rfl rfl (spec_l1In_ok _ _ _ _ (hx19)) rfl) ?_
 iterate 2 refine AO.pu T ?_
 refine AO.pureG T [] rfl trivial rfl rfl ?_
 refine AO.pureG T [17] rfl ⟨fun h => h, trivial⟩ rfl rfl ?_
 refine AO.pureG T [] rfl trivial rfl rfl ?_
 refine AO.pureG T [19] rfl ⟨fun h => h, trivial⟩ rfl rfl ?_
 refine AO.guard [18] rfl ⟨fun h => h, trivial⟩ (fun hg => pick_and rfl rfl rfl (by rw [hg]; exact Bool.true_and _)) rfl ?_
 refine AO.val rfl rfl (pick_or rfl rfl rfl rfl) ?_
 refine AO.nil ?_
 refine AW.cond (b := ((!x18) || (v12 && decide (y2 ≥ 0)))) rfl (fun hc => ?_) (fun hc => ?_)
 replace hH := condT hc hH
 refine AW.seq (AW.region ?_)
 refine AO.pu T ?_
 refine AO.nil (AW.ret ?_)
 cases someE hH
 exact retQ.i [] rfl (.c (.c .v))
 replace hH := condF hc hH
 refine AW.skip ?_
 refine AW.region ?_
 iterate 3 refine AO.pu T ?_
 refine AO.nil ?_
 refine AW.region ?_
 refine AO.val rfl rfl (ar_ok rfl rfl rfl rfl (inI_succ hlt6 hb5)) ?_
 refine AO.pu T ?_
 refine AO.nil ?_
 refine ⟨(k1 + 1, decide (y2 < 0)), ⟨Nat.succ_le_of_lt hlt6, (by rw [drop_succ_of hd4]; exact hH)⟩, (by have := hlt6; dsimp only; omega), ?_⟩
 exact Le.ct 0 0

def spec_rkGood_l1 (l : List Result) : List Result → Nat → List Int → Option Bool
  | [], k1, v24 =>
    some (decide ((l.length : Int) ≤ 40))
  | y2 :: ys3, k1, v24 =>
    (spec_rkResult_p y2).bind fun x26 =>
    (opt (!(!x26)) default (spec_l1Has_p v24 y2.skater)).bind fun x28 =>
    (opt (!((!x26) || x28)) default (getI l 0)).bind fun x30 =>
    cond (((!x26) || x28) || ((y2.scores.length : Int) != (x30.scores.length : Int)))
      (some false)
      ((need (fitsB 8 (v24.length + ([y2.skater]).length))).bind fun u32 =>
      spec_rkGood_l1 l ys3 (k1 + 1) (v24 ++ [y2.skater]))
def spec_rkGood_p (l : List Result) : Option Bool :=
  spec_rkGood_l1 l l 0 []
theorem spec_rkGood_ok (l : List Result) (r : Bool) (hH : spec_rkGood_p l = some r) : SpecR Tryz.prog 107 [.s (List.map encResult l)] (.v (.bool r)) := by
 refine fn_ok T Tryz.func107 rfl (by decide) rfl ?_
 refine AW.seq (AW.region ?_)
 refine AO.pu T ?_
 refine AO.nil (AW.seq ?_)
 refine AW.region ?_
 refine AO.pu T ?_
 refine AO.nil ?_
 iterate 2 refine AW.seq ?_
 refine AW.region ?_
 refine AO.pu T ?_
 refine AO.val rfl rfl (len_map_ok T rfl rfl rfl) ?_
 refine AO.pu T ?_
 refine AO.nil ?_
 refine AW.block ?_
 refine AW.loopS (fun s : Nat × (List Int) => (⟨[(0, .s (List.map encResult l)), (3, .R 6), (6, .s (List.map encResult l)), (7, (l.length : Int)), (8, (s.1 : Int))], [(6, .row 1 (List.map encInt s.2))], 41, []⟩ : St)) (fun s => s.1 ≤ l.length ∧ spec_rkGood_l1 l (l.drop s.1) s.1 s.2 = some r) (fun s => l.length - s.1) (0, []) ⟨Nat.zero_le _, hH⟩ ?_ ?_
 refine Le.trans (Le.void 3 6 1 rfl rfl) ?_
 exact Le.ct 0 0
 rintro ⟨k1, v24⟩ ⟨hk, hH⟩
 replace hH : spec_rkGood_l1 l (l.drop k1) k1 v24 = some r := hH
 try dsimp only
 refine AW.boundM (t := 0) (l := l) rfl (fun hb5 => ?_)
 rcases hd4 : l.drop k1 with _ | ⟨y2, ys3⟩
 rw [hd4, spec_rkGood_l1] at hH
 have hlt6 := drop_ge hd4
 refine AW.seq (AW.region ?_)
 refine AO.pu T ?_
 refine AO.nil (AW.seq ?_)
 refine AW.condF' (b := decide ((k1 : Int) < (l.length : Int))) rfl (rngF hlt6) ?_
 refine AW.exit ?_
 refine AW.seq (AW.region ?_)
 refine AO.pu T ?_
 refine AO.val rfl rfl (len_map_ok T rfl rfl rfl) ?_
 iterate 2 refine AO.pu T ?_
 refine AO.nil (AW.ret ?_)
 cases someE hH
 exact retQ.i [] rfl (.c (.c .v))
 rw [hd4, spec_rkGood_l1] at hH
 have hlt6 := drop_lt hd4
 refine AW.seq (AW.region ?_)
 refine AO.pu T ?_
 refine AO.nil (AW.seq ?_)
 refine AW.condT' (b := decide ((k1 : Int) < (l.length : Int))) rfl (rngT hlt6) ?_
 refine AW.skip ?_
 refine AW.seq ?_
 refine AW.block ?_
 refine AW.seq (AW.region ?_)
 refine AO.val rfl rfl (ix_map_ok T rfl rfl rfl rfl rfl (getI_drop hd4) rfl) ?_
 refine AO.pu T (d := .g [y2.skater, .s (List.map encInt y2.scores)]) ?_
 refine AO.step rfl (alloc_ok T rfl 7 rfl rfl rfl rfl rfl) ?_
 refine AO.se T [y2.skater, .s (List.map encInt y2.scores)] ?_
 refine AO.nil ?_
 iterate 2 refine AW.seq ?_
 obtain ⟨x26, hx27, hH⟩ := bindE hH
 obtain ⟨x28, hx29, hH⟩ := bindE hH
 obtain ⟨x30, hx31, hH⟩ := bindE hH
 refine AW.drawn 18 8 [] mix (by kernel_rfl) rfl ?_
 refine AD.pure T (d := .g [y2.skater, .s (List.map encInt y2.scores)]) rfl rfl rfl ?_
 refine AD.val rfl rfl (callV_ok rfl rfl rfl rfl (spec_rkResult_ok _ _ (hx27)) rfl) ?_
 iterate 2 refine AD.pure T rfl rfl rfl ?_
 iterate 2 refine AD.pureG T [] rfl trivial rfl rfl ?_
 refine AD.pureG T [17] rfl ⟨fun h => h, trivial⟩ rfl rfl ?_
 refine AD.guard [16, 18] rfl ⟨fun h => h, fun h => h, trivial⟩ (fun hg => callLV_ok rfl rfl rfl (es := [.s (List.map encInt v24), y2.skater]) ⟨(.rowR rfl (.map fun y => .vs rfl)), .free rfl, trivial⟩ (spec_l1Has_ok _ _ _ (optT hx29 hg)) (zfree_v _) rfl) rfl ?_
 refine AD.val rfl rfl (pick_or rfl rfl rfl rfl) ?_
 refine AD.pure T rfl rfl rfl ?_
 refine AD.pureG T [] rfl trivial rfl rfl ?_
 refine AD.pureG T [22] rfl ⟨fun h => h, trivial⟩ rfl rfl ?_
 refine AD.guard [23] rfl ⟨fun h => h, trivial⟩ (fun hg => len_map_ok T rfl rfl rfl) rfl ?_
 refine AD.pureG T [] rfl trivial rfl rfl ?_
 refine AD.guard [25] rfl ⟨fun h => h, trivial⟩ (fun hg => ix_map_ok T rfl rfl rfl rfl rfl (optT hx31 hg) rfl) rfl ?_
 refine AD.pureG T [26] rfl ⟨fun h => h, trivial⟩ rfl rfl ?_
 refine AD.pureG T [27] rfl ⟨fun h => h, trivial⟩ rfl rfl ?_
 refine AD.guard [28] rfl ⟨fun h => h, trivial⟩ (fun hg => len_map_ok T rfl rfl rfl) rfl ?_
 refine AD.nil ?_
 refine AO.pureG T [24, 29] rfl ⟨fun h => h, fun h => h, trivial⟩ rfl rfl ?_
 refine AO.val rfl rfl (pick_or rfl rfl rfl rfl) ?_
 refine AO.nil ?_
 refine AW.le (Le.ct 0 0 (σ' := (⟨[(0, .s (List.map encResult l)), (3, .R 6), (5, .p 7 0), (6, .s (List.map encResult l)), (7, (l.length : Int)), (8, (k1 : Int)), (31, .v (.bool (((!x26) || x28) || ((y2.scores.length : Int) != (x30.scores.length : Int)))))], [(6, .row 1 (List.map encInt v24)), (7, .box [y2.skater, .s (List.map encInt y2.scores)])], 41, []⟩ : St))) ?_
 refine AW.cond (b := (((!x26) || x28) || ((y2.scores.length : Int) != (x30.scores.length : Int)))) rfl (fun hc => ?_) (fun hc => ?_)
 replace hH := condT hc hH
 refine AW.seq (AW.region ?_)
 refine AO.pu T ?_
 refine AO.nil (AW.ret ?_)
 cases someE hH
 exact retQ.i [] rfl (.c (.c .v))
 replace hH := condF hc hH
 refine AW.skip ?_
 obtain ⟨u32, hx33, hH⟩ := bindE hH
 refine AW.region ?_
 iterate 3 refine AO.pu T ?_
 refine AO.step rfl (mk_map_ok T rfl 8 rfl rfl rfl rfl rfl (f := encInt) (l := [y2.skater]) rfl rfl (fun _ => rfl) rfl rfl rfl rfl rfl) ?_
 refine AO.step rfl (app_rv_map T rfl 9 rfl rfl rfl rfl rfl (by decide) rfl rfl rfl rfl (fun _ => rfl) (needT (hx33)) rfl rfl) ?_
 refine AO.pu T ?_
 refine AO.nil ?_
 refine AW.region ?_
 refine AO.val rfl rfl (ar_ok rfl rfl rfl rfl (inI_succ hlt6 hb5)) ?_
 refine AO.pu T ?_
 refine AO.nil ?_
 refine ⟨(k1 + 1, (v24 ++ [y2.skater])), ⟨Nat.succ_le_of_lt hlt6, (by rw [drop_succ_of hd4]; exact hH)⟩, (by have := hlt6; dsimp only; omega), ?_⟩
 exact Le.ct 9 6

def spec_l1Own_p (l : List Int) : Option (List Int) :=
  (need (fitsB 8 l.length)).bind fun u1 =>
  some l
theorem spec_l1Own_ok (l : List Int) (r : (List Int)) (hH : spec_l1Own_p l = some r) : SpecR Tryz.prog 128 [.s (List.map encInt l)] (.w 1 (r.map encInt)) := by
 refine fn_ok T Tryz.func128 rfl (by decide) rfl ?_
 refine AW.seq (AW.region ?_)
 refine AO.pu T ?_
 refine AO.nil (AW.seq ?_)
 obtain ⟨u1, hx2, hH⟩ := bindE hH
 refine AW.region ?_
 refine AO.step rfl (mk0_ok T rfl rfl rfl rfl) ?_
 refine AO.pu T ?_
 refine AO.step rfl (app_ws_map T rfl 1 rfl rfl rfl rfl rfl (by decide) (by decide) rfl rfl (fun _ => rfl) (needT (hx2)) rfl rfl) ?_
 refine AO.pu T ?_
 refine AO.nil (AW.ret ?_)
 cases someE hH
 exact retQ.i [1] rfl (.c (.c (.rowR rfl)))

def spec_evHead_l2 (e : Event) (v32 : List Int) (x34 : (List Int)) : Nat → Int → Option Bool
  | 0, _ => none
  | k38 + 1, v48 =>
    cond (decide (v48 < (((x34 ++ e.order)).length : Int)))
      ((getI (x34 ++ e.order) v48).bind fun x50 =>
      (spec_l1Has_p v32 x50).bind fun x52 =>
      cond (!x52)
        (some false)
        (spec_evHead_l2 e v32 x34 k38 (w64 (v48 + 1))))
      (some true)
def spec_evHead_l1 (e : Event) (fuel : Nat) : List Entrant → Nat → List Int → Option Bool
  | [], k17, v32 =>
    (spec_l1Own_p e.gone).bind fun x34 =>
    (need (fitsB 8 (x34.length + e.order.length))).bind fun u36 =>
    spec_evHead_l2 e v32 x34 fuel 0
  | y18 :: ys19, k17, v32 =>
    (getI e.results (k17 : Int)).bind fun x54 =>
    cond ((x54.skater != y18.skater) || ((x54.scores.length : Int) != e.segments))
      (some false)
      ((need (fitsB 8 (v32.length + ([y18.skater]).length))).bind fun u56 =>
      spec_evHead_l1 e fuel ys19 (k17 + 1) (v32 ++ [y18.skater]))
def spec_evHead_p (fuel : Nat) (e : Event) : Option Bool :=
  (spec_l1In_p e.segments 1 3).bind fun x1 =>
  (opt (!(!x1)) default (spec_soSize_p e.size)).bind fun x3 =>
  (opt (!((!x1) || (!x3))) default (spec_l1In_p e.key 0 1000000000)).bind fun x5 =>
  (opt (!(((!x1) || (!x3)) || (!x5))) default (spec_soEntrants_p e.entrants)).bind fun x7 =>
  (opt (!((((!x1) || (!x3)) || (!x5)) || (!x7))) default (spec_l1Rising_p e.gone 1 999)).bind fun x9 =>
  (opt (!(((((!x1) || (!x3)) || (!x5)) || (!x7)) || (!x9))) default (spec_l1In_p e.segment 0 e.segments)).bind fun x11 =>
  (opt (!((((((!x1) || (!x3)) || (!x5)) || (!x7)) || (!x9)) || (!x11))) default (spec_soOrder_p e.order)).bind fun x13 =>
  (opt (!(((((((!x1) || (!x3)) || (!x5)) || (!x7)) || (!x9)) || (!x11)) || (!x13))) default (spec_rkGood_p e.results)).bind fun x15 =>
  cond (((((((((!x1) || (!x3)) || (!x5)) || (!x7)) || (!x9)) || (!x11)) || (!x13)) || (!x15)) || ((e.results.length : Int) != (e.entrants.length : Int)))
    (some false)
    (spec_evHead_l1 e fuel e.entrants 0 [])
theorem spec_evHead_ok (fuel : Nat) (e : Event) (r : Bool) (hH : spec_evHead_p fuel e = some r) : SpecR Tryz.prog 110 [.g (encEvent e)] (.v (.bool r)) := by
 refine fn_ok T Tryz.func110 rfl (by decide) rfl ?_
 refine AW.seq (AW.region ?_)
 refine AO.step rfl (box_ok T rfl 1 rfl rfl rfl rfl) ?_
 refine AO.pu T ?_
 refine AO.nil ?_
 iterate 2 refine AW.seq ?_
 obtain ⟨x1, hx2, hH⟩ := bindE hH
 obtain ⟨x3, hx4, hH⟩ := bindE hH
 obtain ⟨x5, hx6, hH⟩ := bindE hH
 obtain ⟨x7, hx8, hH⟩ := bindE hH
 obtain ⟨x9, hx10, hH⟩ := bindE hH
 obtain ⟨x11, hx12, hH⟩ := bindE hH
 obtain ⟨x13, hx14, hH⟩ := bindE hH
 obtain ⟨x15, hx16, hH⟩ := bindE hH
 refine AW.region ?_
 iterate 2 refine AO.pu T ?_
 refine AO.val rfl rfl (callV_ok rfl rfl rfl rfl (spec_l1In_ok _ _ _ _ (hx2)) rfl) ?_
 iterate 2 refine AO.pu T ?_
 refine AO.pureG T [] rfl trivial rfl rfl ?_
 refine AO.pureG T [13] rfl ⟨fun h => h, trivial⟩ rfl rfl ?_
 refine AO.guard [14] rfl ⟨fun h => h, trivial⟩ (fun hg => callV_ok rfl rfl rfl rfl (spec_soSize_ok _ _ (optT hx4 hg)) rfl) rfl ?_
 refine AO.pureG T [15] rfl ⟨fun h => h, trivial⟩ rfl rfl ?_
 refine AO.val rfl rfl (pick_or rfl rfl rfl rfl) ?_
 refine AO.pu T ?_
 refine AO.pureG T [] rfl trivial rfl rfl ?_
 refine AO.pureG T [19] rfl ⟨fun h => h, trivial⟩ rfl rfl ?_
 refine AO.guard [20] rfl ⟨fun h => h, trivial⟩ (fun hg => callV_ok rfl rfl rfl rfl (spec_l1In_ok _ _ _ _ (optT hx6 hg)) rfl) rfl ?_
 refine AO.pureG T [21] rfl ⟨fun h => h, trivial⟩ rfl rfl ?_
 refine AO.val rfl rfl (pick_or rfl rfl rfl rfl) ?_
 refine AO.pu T ?_
 refine AO.pureG T [] rfl trivial rfl rfl ?_
 refine AO.pureG T [25] rfl ⟨fun h => h, trivial⟩ rfl rfl ?_
 refine AO.guard [26] rfl ⟨fun h => h, trivial⟩ (fun hg => callV_ok rfl rfl rfl rfl (spec_soEntrants_ok _ _ (optT hx8 hg)) rfl) rfl ?_
 refine AO.pureG T [27] rfl ⟨fun h => h, trivial⟩ rfl rfl ?_
 refine AO.val rfl rfl (pick_or rfl rfl rfl rfl) ?_
 refine AO.pu T ?_
 refine AO.pureG T [] rfl trivial rfl rfl ?_
 refine AO.pureG T [31] rfl ⟨fun h => h, trivial⟩ rfl rfl ?_
 refine AO.guard [32] rfl ⟨fun h => h, trivial⟩ (fun hg => callV_ok rfl rfl rfl rfl (spec_l1Rising_ok _ _ _ _ (optT hx10 hg)) rfl) rfl ?_
 refine AO.pureG T [33] rfl ⟨fun h => h, trivial⟩ rfl rfl ?_
 refine AO.val rfl rfl (pick_or rfl rfl rfl rfl) ?_
 refine AO.pu T ?_
 refine AO.pureG T [] rfl trivial rfl rfl ?_
 refine AO.pureG T [37] rfl ⟨fun h => h, trivial⟩ rfl rfl ?_
 refine AO.pureG T [] rfl trivial rfl rfl ?_
 refine AO.pureG T [39] rfl ⟨fun h => h, trivial⟩ rfl rfl ?_
 refine AO.guard [38, 40] rfl ⟨fun h => h, fun h => h, trivial⟩ (fun hg => callV_ok rfl rfl rfl rfl (spec_l1In_ok _ _ _ _ (optT hx12 hg)) rfl) rfl ?_
 refine AO.pureG T [41] rfl ⟨fun h => h, trivial⟩ rfl rfl ?_
 refine AO.val rfl rfl (pick_or rfl rfl rfl rfl) ?_
 refine AO.pu T ?_
 refine AO.pureG T [] rfl trivial rfl rfl ?_
 refine AO.pureG T [45] rfl ⟨fun h => h, trivial⟩ rfl rfl ?_
 refine AO.guard [46] rfl ⟨fun h => h, trivial⟩ (fun hg => callV_ok rfl rfl rfl rfl (spec_soOrder_ok _ _ (optT hx14 hg)) rfl) rfl ?_
 refine AO.pureG T [47] rfl ⟨fun h => h, trivial⟩ rfl rfl ?_
 refine AO.val rfl rfl (pick_or rfl rfl rfl rfl) ?_
 refine AO.pu T ?_
 refine AO.pureG T [] rfl trivial rfl rfl ?_
 refine AO.pureG T [51] rfl ⟨fun h => h, trivial⟩ rfl rfl ?_
 refine AO.guard [52] rfl ⟨fun h => h, trivial⟩ (fun hg => callV_ok rfl rfl rfl rfl (spec_rkGood_ok _ _ (optT hx16 hg)) rfl) rfl ?_
 refine AO.pureG T [53] rfl ⟨fun h => h, trivial⟩ rfl rfl ?_
 refine AO.val rfl rfl (pick_or rfl rfl rfl rfl) ?_
 refine AO.pu T ?_
 refine AO.pureG T [] rfl trivial rfl rfl ?_
 refine AO.pureG T [57] rfl ⟨fun h => h, trivial⟩ rfl rfl ?_
 refine AO.guard [58] rfl ⟨fun h => h, trivial⟩ (fun hg => len_map_ok T rfl rfl rfl) rfl ?_
 refine AO.pureG T [] rfl trivial rfl rfl ?_
 refine AO.pureG T [60] rfl ⟨fun h => h, trivial⟩ rfl rfl ?_
 refine AO.guard [61] rfl ⟨fun h => h, trivial⟩ (fun hg => len_map_ok T rfl rfl rfl) rfl ?_
 refine AO.pureG T [59, 62] rfl ⟨fun h => h, fun h => h, trivial⟩ rfl rfl ?_
 refine AO.val rfl rfl (pick_or rfl rfl rfl rfl) ?_
 refine AO.nil ?_
 refine AW.le (Le.ct 0 0 (σ' := (⟨[(1, .p 1 0), (64, .v (.bool (((((((((!x1) || (!x3)) || (!x5)) || (!x7)) || (!x9)) || (!x11)) || (!x13)) || (!x15)) || ((e.results.length : Int) != (e.entrants.length : Int)))))], [(1, .box [e.segments, e.size, e.key, .s (List.map encEntrant e.entrants), .s (List.map encInt e.gone), e.segment, .s (List.map encInt e.order), .s (List.map encResult e.results)])], 116, []⟩ : St))) ?_
 refine AW.cond (b := (((((((((!x1) || (!x3)) || (!x5)) || (!x7)) || (!x9)) || (!x11)) || (!x13)) || (!x15)) || ((e.results.length : Int) != (e.entrants.length : Int)))) rfl (fun hc => ?_) (fun hc => ?_)
 replace hH := condT hc hH
 refine AW.seq (AW.region ?_)
 refine AO.pu T ?_
 refine AO.nil (AW.ret ?_)
 cases someE hH
 exact retQ.i [] rfl (.c (.c .v))
 replace hH := condF hc hH
 refine AW.skip ?_
 refine AW.seq (AW.region ?_)
 refine AO.pu T ?_
 refine AO.nil ?_
 iterate 2 refine AW.seq ?_
 refine AW.region ?_
 iterate 2 refine AO.pu T ?_
 refine AO.val rfl rfl (len_map_ok T rfl rfl rfl) ?_
 refine AO.pu T ?_
 refine AO.nil ?_
 refine AW.block ?_
 refine AW.loopS (fun s : Nat × (List Int) => (⟨[(1, .p 1 0), (3, .R 7), (66, .s (List.map encEntrant e.entrants)), (67, (e.entrants.length : Int)), (68, (s.1 : Int))], [(1, .box [e.segments, e.size, e.key, .s (List.map encEntrant e.entrants), .s (List.map encInt e.gone), e.segment, .s (List.map encInt e.order), .s (List.map encResult e.results)]), (7, .row 1 (List.map encInt s.2))], 116, []⟩ : St)) (fun s => s.1 ≤ e.entrants.length ∧ spec_evHead_l1 e fuel (e.entrants.drop s.1) s.1 s.2 = some r) (fun s => e.entrants.length - s.1) (0, []) ⟨Nat.zero_le _, hH⟩ ?_ ?_
 refine Le.trans (Le.void 3 7 1 rfl rfl) ?_
 exact Le.ct 0 0
 rintro ⟨k17, v32⟩ ⟨hk, hH⟩
 replace hH : spec_evHead_l1 e fuel (e.entrants.drop k17) k17 v32 = some r := hH
 try dsimp only
 refine AW.boundM (t := 66) (l := e.entrants) rfl (fun hb21 => ?_)
 rcases hd20 : e.entrants.drop k17 with _ | ⟨y18, ys19⟩
 rw [hd20, spec_evHead_l1] at hH
 have hlt22 := drop_ge hd20
 refine AW.seq (AW.region ?_)
 refine AO.pu T ?_
 refine AO.nil (AW.seq ?_)
 refine AW.condF' (b := decide ((k17 : Int) < (e.entrants.length : Int))) rfl (rngF hlt22) ?_
 refine AW.exit ?_
 iterate 2 refine AW.seq ?_
 obtain ⟨x34, hx35, hH⟩ := bindE hH
 obtain ⟨u36, hx37, hH⟩ := bindE hH
 refine AW.drawn 8 8 [] mix (by kernel_rfl) rfl ?_
 iterate 2 refine AD.pure T rfl rfl rfl ?_
 refine AD.q (FStep.call rfl rfl rfl rfl rfl (spec_l1Own_ok _ _ (hx35)) rfl rfl) (impT_names _ _) (impT_le _ _) rfl ?_
 iterate 2 refine AD.pure T rfl rfl rfl ?_
 refine AD.k rfl rfl (FStep.app_rs T rfl rfl rfl rfl rfl rfl rfl (by decide) (by decide) rfl rfl rfl (fun _ => rfl) (needT (hx37)) rfl) rfl rfl rfl ?_
 refine AD.vald rfl rfl rfl (len_row_ok T rfl rfl rfl rfl) ?_
 refine AD.pure T rfl rfl rfl ?_
 refine AD.nil ?_
 refine AO.nil ?_
 refine AW.block ?_
 refine AW.loopS (fun s : Nat × Int => (⟨[(3, .R 7), (105, .R 9), (106, (((x34 ++ e.order)).length : Int)), (107, s.2)], [(7, .row 1 (List.map encInt v32)), (9, .row 1 (List.map encInt (x34 ++ e.order)))], 116, []⟩ : St)) (fun s => spec_evHead_l2 e v32 x34 s.1 s.2 = some r) (fun s => s.1) (fuel, 0) hH ?_ ?_
 exact Le.ct 0 0
 rintro ⟨k38, v48⟩ hH
 replace hH : spec_evHead_l2 e v32 x34 k38 v48 = some r := hH
 try dsimp only
 rcases k38 with _ | k38
 cases (show none = some _ from hH)
 rw [spec_evHead_l2] at hH
 refine AW.seq (AW.region ?_)
 refine AO.pu T ?_
 refine AO.nil (AW.seq ?_)
 refine AW.cond (b := decide (v48 < (((x34 ++ e.order)).length : Int))) rfl (fun hc => ?_) (fun hc => ?_)
 replace hH := condT hc hH
 refine AW.skip ?_
 refine AW.seq ?_
 refine AW.block ?_
 refine AW.seq ?_
 obtain ⟨x50, hx51, hH⟩ := bindE hH
 refine AW.region ?_
 refine AO.val rfl rfl (ix_row_ok T rfl rfl rfl rfl rfl rfl (hx51)) ?_
 refine AO.val rfl rfl (load_row_ok T rfl rfl rfl rfl (getI_get (hx51)) rfl rfl rfl) ?_
 refine AO.pu T ?_
 refine AO.nil (AW.seq ?_)
 obtain ⟨x52, hx53, hH⟩ := bindE hH
 refine AW.region ?_
 iterate 2 refine AO.pu T ?_
 refine AO.val rfl rfl (callLV_ok rfl rfl rfl (es := [.s (List.map encInt v32), x50]) ⟨(.rowR rfl (.map fun y => .vs rfl)), .free rfl, trivial⟩ (spec_l1Has_ok _ _ _ (hx53)) (zfree_v _) rfl) ?_
 refine AO.pu T ?_
 refine AO.nil ?_
 refine AW.cond (b := (!x52)) rfl (fun hc => ?_) (fun hc => ?_)
 replace hH := condT hc hH
 refine AW.seq (AW.region ?_)
 refine AO.pu T ?_
 refine AO.nil (AW.ret ?_)
 cases someE hH
 exact retQ.i [] rfl (.c (.c .v))
 replace hH := condF hc hH
 refine AW.skip ?_
 refine AW.region ?_
 refine AO.val rfl rfl (arw_ok rfl rfl rfl rfl) ?_
 refine AO.pu T ?_
 refine AO.nil ?_
 refine ⟨(k38, w64 (v48 + 1)), hH, Nat.lt_succ_self _, ?_⟩
 exact Le.ct 0 0
 replace hH := condF hc hH
 refine AW.exit ?_
 refine AW.seq (AW.region ?_)
 refine AO.pu T ?_
 refine AO.nil (AW.ret ?_)
 cases someE hH
 exact retQ.i [] rfl (.c (.c .v))
 rw [hd20, spec_evHead_l1] at hH
 have hlt22 := drop_lt hd20
 refine AW.seq (AW.region ?_)
 refine AO.pu T ?_
 refine AO.nil (AW.seq ?_)
 refine AW.condT' (b := decide ((k17 : Int) < (e.entrants.length : Int))) rfl (rngT hlt22) ?_
 refine AW.skip ?_
 refine AW.seq ?_
 refine AW.block ?_
 refine AW.seq (AW.region ?_)
 refine AO.pu T ?_
 refine AO.val rfl rfl (ix_map_ok T rfl rfl rfl rfl rfl (getI_drop hd20) rfl) ?_
 refine AO.pu T (d := .g [y18.skater, y18.rank]) ?_
 refine AO.step rfl (alloc_ok T rfl 10 rfl rfl rfl rfl rfl) ?_
 refine AO.pu T ?_
 refine AO.se T [y18.skater, y18.rank] ?_
 refine AO.nil ?_
 iterate 2 refine AW.seq ?_
 obtain ⟨x54, hx55, hH⟩ := bindE hH
 refine AW.drawn 19 11 [] mix (by kernel_rfl) rfl ?_
 iterate 3 refine AD.pure T rfl rfl rfl ?_
 refine AD.val rfl rfl (ix_map_ok T rfl rfl rfl rfl rfl (hx55) rfl) ?_
 iterate 6 refine AD.pure T rfl rfl rfl ?_
 refine AD.pureG T [] rfl trivial rfl rfl ?_
 refine AD.pureG T [83] rfl ⟨fun h => h, trivial⟩ rfl rfl ?_
 refine AD.pureG T [] rfl trivial rfl rfl ?_
 refine AD.guard [84, 85] rfl ⟨fun h => h, fun h => h, trivial⟩ (fun hg => ix_map_ok T rfl rfl rfl rfl rfl (hx55) rfl) rfl ?_
 refine AD.pureG T [86] rfl ⟨fun h => h, trivial⟩ rfl rfl ?_
 refine AD.pureG T [87] rfl ⟨fun h => h, trivial⟩ rfl rfl ?_
 refine AD.guard [88] rfl ⟨fun h => h, trivial⟩ (fun hg => len_map_ok T rfl rfl rfl) rfl ?_
 refine AD.pureG T [] rfl trivial rfl rfl ?_
 refine AD.pureG T [90] rfl ⟨fun h => h, trivial⟩ rfl rfl ?_
 refine AD.nil ?_
 refine AO.pureG T [89, 91] rfl ⟨fun h => h, fun h => h, trivial⟩ rfl rfl ?_
 refine AO.val rfl rfl (pick_or rfl rfl rfl rfl) ?_
 refine AO.nil ?_
 refine AW.le (Le.ct 0 0 (σ' := (⟨[(1, .p 1 0), (3, .R 7), (5, .p 10 0), (66, .s (List.map encEntrant e.entrants)), (67, (e.entrants.length : Int)), (68, (k17 : Int)), (93, .v (.bool ((x54.skater != y18.skater) || ((x54.scores.length : Int) != e.segments))))], [(1, .box [e.segments, e.size, e.key, .s (List.map encEntrant e.entrants), .s (List.map encInt e.gone), e.segment, .s (List.map encInt e.order), .s (List.map encResult e.results)]), (7, .row 1 (List.map encInt v32)), (10, .box [y18.skater, y18.rank])], 116, []⟩ : St))) ?_
 refine AW.cond (b := ((x54.skater != y18.skater) || ((x54.scores.length : Int) != e.segments))) rfl (fun hc => ?_) (fun hc => ?_)
 replace hH := condT hc hH
 refine AW.seq (AW.region ?_)
 refine AO.pu T ?_
 refine AO.nil (AW.ret ?_)
 cases someE hH
 exact retQ.i [] rfl (.c (.c .v))
 replace hH := condF hc hH
 refine AW.skip ?_
 obtain ⟨u56, hx57, hH⟩ := bindE hH
 refine AW.region ?_
 iterate 3 refine AO.pu T ?_
 refine AO.step rfl (mk_map_ok T rfl 11 rfl rfl rfl rfl rfl (f := encInt) (l := [y18.skater]) rfl rfl (fun _ => rfl) rfl rfl rfl rfl rfl) ?_
 refine AO.step rfl (app_rv_map T rfl 12 rfl rfl rfl rfl rfl (by decide) rfl rfl rfl rfl (fun _ => rfl) (needT (hx57)) rfl rfl) ?_
 refine AO.pu T ?_
 refine AO.nil ?_
 refine AW.region ?_
 refine AO.val rfl rfl (ar_ok rfl rfl rfl rfl (inI_succ hlt22 hb21)) ?_
 refine AO.pu T ?_
 refine AO.nil ?_
 refine ⟨(k17 + 1, (v32 ++ [y18.skater])), ⟨Nat.succ_le_of_lt hlt22, (by rw [drop_succ_of hd20]; exact hH)⟩, (by have := hlt22; dsimp only; omega), ?_⟩
 exact Le.ct 12 7

def spec_rkTotal_l1 : List Int → Nat → Int → Int → Option ((Int × Int))
  | [], k1, v9, v10 =>
    some (v9, v10)
  | y2 :: ys3, k1, v9, v10 =>
    cond (decide (y2 ≥ 0))
      (spec_rkTotal_l1 ys3 (k1 + 1) (w64 (v9 + y2)) (w64 (v10 + 1)))
      (spec_rkTotal_l1 ys3 (k1 + 1) v9 v10)
def spec_rkTotal_p (rA : Result) : Option (Int × Int) :=
  spec_rkTotal_l1 rA.scores 0 0 0
theorem spec_rkTotal_ok (rA : Result) (r : (Int × Int)) (hH : spec_rkTotal_p rA = some r) : SpecR Tryz.prog 185 [.g (encResult rA)] (.t [.v (.int .i64 r.1), .v (.int .i64 r.2)]) := by
 refine fn_ok T Tryz.func185 rfl (by decide) rfl ?_
 refine AW.seq (AW.region ?_)
 refine AO.step rfl (box_ok T rfl 1 rfl rfl rfl rfl) ?_
 iterate 2 refine AO.pu T ?_
 refine AO.nil (AW.seq ?_)
 refine AW.region ?_
 iterate 2 refine AO.pu T ?_
 refine AO.nil ?_
 iterate 2 refine AW.seq ?_
 refine AW.region ?_
 iterate 2 refine AO.pu T ?_
 refine AO.val rfl rfl (len_map_ok T rfl rfl rfl) ?_
 refine AO.pu T ?_
 refine AO.nil ?_
 refine AW.block ?_
 refine AW.loopS (fun s : Nat × Int × Int => (⟨[(4, s.2.1), (5, s.2.2), (9, .s (List.map encInt rA.scores)), (10, (rA.scores.length : Int)), (11, (s.1 : Int))], [], 25, []⟩ : St)) (fun s => s.1 ≤ rA.scores.length ∧ spec_rkTotal_l1 (rA.scores.drop s.1) s.1 s.2.1 s.2.2 = some r) (fun s => rA.scores.length - s.1) (0, 0, 0) ⟨Nat.zero_le _, hH⟩ ?_ ?_
 exact Le.ct 0 0
 rintro ⟨k1, v9, v10⟩ ⟨hk, hH⟩
 replace hH : spec_rkTotal_l1 (rA.scores.drop k1) k1 v9 v10 = some r := hH
 try dsimp only
 refine AW.boundM (t := 9) (l := rA.scores) rfl (fun hb5 => ?_)
 rcases hd4 : rA.scores.drop k1 with _ | ⟨y2, ys3⟩
 rw [hd4, spec_rkTotal_l1] at hH
 have hlt6 := drop_ge hd4
 refine AW.seq (AW.region ?_)
 refine AO.pu T ?_
 refine AO.nil (AW.seq ?_)
 refine AW.condF' (b := decide ((k1 : Int) < (rA.scores.length : Int))) rfl (rngF hlt6) ?_
 refine AW.exit ?_
 refine AW.seq (AW.region ?_)
 iterate 4 refine AO.pu T ?_
 refine AO.nil (AW.ret ?_)
 cases someE hH
 exact retQ.i [] rfl (.t (expLG_cons (.c .v) (expLG_cons (.c .v) (expLG_nil))))
 rw [hd4, spec_rkTotal_l1] at hH
 have hlt6 := drop_lt hd4
 refine AW.seq (AW.region ?_)
 refine AO.pu T ?_
 refine AO.nil (AW.seq ?_)
 refine AW.condT' (b := decide ((k1 : Int) < (rA.scores.length : Int))) rfl (rngT hlt6) ?_
 refine AW.skip ?_
 refine AW.seq ?_
 refine AW.block ?_
 refine AW.seq (AW.region ?_)
 refine AO.val rfl rfl (ix_map_ok T rfl rfl rfl rfl rfl (getI_drop hd4) rfl) ?_
 iterate 2 refine AO.pu T ?_
 refine AO.nil (AW.seq ?_)
 refine AW.region ?_
 iterate 2 refine AO.pu T ?_
 refine AO.nil ?_
 refine AW.cond (b := decide (y2 ≥ 0)) rfl (fun hc => ?_) (fun hc => ?_)
 replace hH := condT hc hH
 refine AW.seq (AW.region ?_)
 iterate 2 refine AO.pu T ?_
 refine AO.val rfl rfl (arw_ok rfl rfl rfl rfl) ?_
 refine AO.pu T ?_
 refine AO.nil ?_
 refine AW.region ?_
 refine AO.pu T ?_
 refine AO.val rfl rfl (arw_ok rfl rfl rfl rfl) ?_
 refine AO.pu T ?_
 refine AO.nil ?_
 refine AW.region ?_
 refine AO.val rfl rfl (ar_ok rfl rfl rfl rfl (inI_succ hlt6 hb5)) ?_
 refine AO.pu T ?_
 refine AO.nil ?_
 refine ⟨(k1 + 1, w64 (v9 + y2), w64 (v10 + 1)), ⟨Nat.succ_le_of_lt hlt6, (by rw [drop_succ_of hd4]; exact hH)⟩, (by have := hlt6; dsimp only; omega), ?_⟩
 exact Le.ct 0 0
 replace hH := condF hc hH
 refine AW.skip ?_
 refine AW.region ?_
 refine AO.val rfl rfl (ar_ok rfl rfl rfl rfl (inI_succ hlt6 hb5)) ?_
 refine AO.pu T ?_
 refine AO.nil ?_
 refine ⟨(k1 + 1, v9, v10), ⟨Nat.succ_le_of_lt hlt6, (by rw [drop_succ_of hd4]; exact hH)⟩, (by have := hlt6; dsimp only; omega), ?_⟩
 exact Le.ct 0 0

def spec_evScores_p (rA : Result) : Option Int :=
  (spec_rkTotal_p rA).bind fun x1 =>
  some x1.2
theorem spec_evScores_ok (rA : Result) (r : Int) (hH : spec_evScores_p rA = some r) : SpecR Tryz.prog 156 [.g (encResult rA)] (.v (.int .i64 r)) := by
 refine fn_ok T Tryz.func156 rfl (by decide) rfl ?_
 refine AW.seq (AW.region ?_)
 refine AO.step rfl (box_ok T rfl 1 rfl rfl rfl rfl) ?_
 refine AO.pu T ?_
 refine AO.nil (AW.seq ?_)
 obtain ⟨x1, hx2, hH⟩ := bindE hH
 refine AW.region ?_
 refine AO.pu T (d := .g [rA.skater, .s (List.map encInt rA.scores)]) ?_
 refine AO.val rfl rfl (callV_ok rfl rfl rfl rfl (spec_rkTotal_ok _ _ (hx2)) rfl) ?_
 iterate 5 refine AO.pu T ?_
 refine AO.nil (AW.seq ?_)
 refine AW.region ?_
 iterate 2 refine AO.pu T ?_
 refine AO.nil (AW.ret ?_)
 cases someE hH
 exact retQ.i [] rfl (.c (.c .v))

def spec_evResult_p (e : Event) (rA : Result) : Option Bool :=
  (spec_evScores_p rA).bind fun x1 =>
  (opt (decide (x1 > e.segment)) default (spec_l1Has_p e.order rA.skater)).bind fun x3 =>
  cond (decide (x1 > e.segment) && (!x3))
    (some false)
    ((spec_l1Has_p e.gone rA.skater).bind fun x5 =>
    cond x5
      ((opt (decide (x1 ≤ (w64 (e.segment + 1))) && (!(decide (x1 > e.segment)))) default (spec_l1Has_p e.order rA.skater)).bind fun x7 =>
      some (decide (x1 ≤ (w64 (e.segment + 1))) && (decide (x1 > e.segment) || (!x7))))
      ((spec_l1In_p x1 e.segment (w64 (e.segment + 1))).bind fun x9 =>
      (opt (x9 && (!((e.order.length : Int) == 0))) default (spec_l1Has_p e.order rA.skater)).bind fun x11 =>
      some (x9 && (((e.order.length : Int) == 0) || x11))))
theorem spec_evResult_ok (e : Event) (rA : Result) (r : Bool) (hH : spec_evResult_p e rA = some r) : SpecR Tryz.prog 111 [.g (encEvent e), .g (encResult rA)] (.v (.bool r)) := by
 refine fn_ok T Tryz.func111 rfl (by decide) rfl ?_
 refine AW.seq (AW.region ?_)
 refine AO.step rfl (box_ok T rfl 1 rfl rfl rfl rfl) ?_
 refine AO.step rfl (box_ok T rfl 2 rfl rfl rfl rfl) ?_
 refine AO.pu T ?_
 refine AO.nil (AW.seq ?_)
 obtain ⟨x1, hx2, hH⟩ := bindE hH
 refine AW.region ?_
 refine AO.pu T (d := .g [rA.skater, .s (List.map encInt rA.scores)]) ?_
 refine AO.val rfl rfl (callV_ok rfl rfl rfl rfl (spec_evScores_ok _ _ (hx2)) rfl) ?_
 refine AO.pu T ?_
 refine AO.nil ?_
 iterate 2 refine AW.seq ?_
 obtain ⟨x3, hx4, hH⟩ := bindE hH
 refine AW.region ?_
 iterate 5 refine AO.pu T ?_
 refine AO.pureG T [] rfl trivial rfl rfl ?_
 refine AO.pureG T [13] rfl ⟨fun h => h, trivial⟩ rfl rfl ?_
 refine AO.pureG T [] rfl trivial rfl rfl ?_
 refine AO.pureG T [15] rfl ⟨fun h => h, trivial⟩ rfl rfl ?_
 refine AO.guard [14, 16] rfl ⟨fun h => h, fun h => h, trivial⟩ (fun hg => callV_ok rfl rfl rfl rfl (spec_l1Has_ok _ _ _ (optT hx4 hg)) rfl) rfl ?_
 refine AO.pureG T [17] rfl ⟨fun h => h, trivial⟩ rfl rfl ?_
 refine AO.val rfl rfl (pick_and rfl rfl rfl rfl) ?_
 refine AO.nil ?_
 refine AW.cond (b := (decide (x1 > e.segment) && (!x3))) rfl (fun hc => ?_) (fun hc => ?_)
 replace hH := condT hc hH
 refine AW.seq (AW.region ?_)
 refine AO.pu T ?_
 refine AO.nil (AW.ret ?_)
 cases someE hH
 exact retQ.i [] rfl (.c (.c .v))
 replace hH := condF hc hH
 refine AW.skip ?_
 iterate 2 refine AW.seq ?_
 obtain ⟨x5, hx6, hH⟩ := bindE hH
 refine AW.region ?_
 iterate 4 refine AO.pu T ?_
 refine AO.val rfl rfl (callV_ok rfl rfl rfl rfl (spec_l1Has_ok _ _ _ (hx6)) rfl) ?_
 refine AO.nil ?_
 refine AW.cond (b := x5) rfl (fun hc => ?_) (fun hc => ?_)
 replace hH := condT hc hH
 refine AW.seq ?_
 obtain ⟨x7, hx8, hH⟩ := bindE hH
 refine AW.region ?_
 iterate 3 refine AO.pu T ?_
 refine AO.val rfl rfl (arw_ok rfl rfl rfl rfl) ?_
 iterate 2 refine AO.pu T ?_
 iterate 2 refine AO.pureG T [] rfl trivial rfl rfl ?_
 refine AO.pureG T [32] rfl ⟨fun h => h, trivial⟩ rfl rfl ?_
 refine AO.pureG T [31, 33] rfl ⟨fun h => h, fun h => h, trivial⟩ rfl rfl ?_
 refine AO.pureG T [34] rfl ⟨fun h => h, trivial⟩ rfl rfl ?_
 refine AO.pureG T [] rfl trivial rfl rfl ?_
 refine AO.pureG T [36] rfl ⟨fun h => h, trivial⟩ rfl rfl ?_
 refine AO.pureG T [] rfl trivial rfl rfl ?_
 refine AO.pureG T [38] rfl ⟨fun h => h, trivial⟩ rfl rfl ?_
 refine AO.guard [37, 39] rfl ⟨fun h => h, fun h => h, trivial⟩ (fun hg => callV_ok rfl rfl rfl rfl (spec_l1Has_ok _ _ _ (optT hx8 hg)) rfl) rfl ?_
 refine AO.pureG T [40] rfl ⟨fun h => h, trivial⟩ rfl rfl ?_
 refine AO.guard [35] rfl ⟨fun h => h, trivial⟩ (fun hg => pick_or rfl rfl rfl (by rw [hg]; exact Bool.true_and _)) rfl ?_
 refine AO.val rfl rfl (pick_and rfl rfl rfl rfl) ?_
 refine AO.pu T ?_
 refine AO.nil ?_
 refine AW.le (Le.ct 0 0 (σ' := (⟨[(4, .v (.bool (decide (x1 ≤ (w64 (e.segment + 1))) && (decide (x1 > e.segment) || (!x7)))))], [], 64, []⟩ : St))) ?_
 refine AW.ret ?_
 cases someE hH
 exact retQ.i [] rfl (.c (.c .v))
 replace hH := condF hc hH
 refine AW.skip ?_
 refine AW.seq ?_
 obtain ⟨x9, hx10, hH⟩ := bindE hH
 obtain ⟨x11, hx12, hH⟩ := bindE hH
 refine AW.region ?_
 iterate 5 refine AO.pu T ?_
 refine AO.val rfl rfl (arw_ok rfl rfl rfl rfl) ?_
 refine AO.val rfl rfl (callV_ok rfl rfl rfl rfl (spec_l1In_ok _ _ _ _ (hx10)) rfl) ?_
 refine AO.pu T ?_
 refine AO.pureG T [] rfl trivial rfl rfl ?_
 refine AO.pureG T [52] rfl ⟨fun h => h, trivial⟩ rfl rfl ?_
 refine AO.guard [53] rfl ⟨fun h => h, trivial⟩ (fun hg => len_map_ok T rfl rfl rfl) rfl ?_
 refine AO.pureG T [54] rfl ⟨fun h => h, trivial⟩ rfl rfl ?_
 refine AO.pureG T [55] rfl ⟨fun h => h, trivial⟩ rfl rfl ?_
 refine AO.pureG T [] rfl trivial rfl rfl ?_
 refine AO.pureG T [57] rfl ⟨fun h => h, trivial⟩ rfl rfl ?_
 refine AO.pureG T [] rfl trivial rfl rfl ?_
 refine AO.pureG T [59] rfl ⟨fun h => h, trivial⟩ rfl rfl ?_
 refine AO.guard [58, 60] rfl ⟨fun h => h, fun h => h, trivial⟩ (fun hg => callV_ok rfl rfl rfl rfl (spec_l1Has_ok _ _ _ (optT hx12 hg)) rfl) rfl ?_
 refine AO.guard [56] rfl ⟨fun h => h, trivial⟩ (fun hg => pick_or rfl rfl rfl (by rw [hg]; exact Bool.true_and _)) rfl ?_
 refine AO.val rfl rfl (pick_and rfl rfl rfl rfl) ?_
 refine AO.pu T ?_
 refine AO.nil ?_
 refine AW.le (Le.ct 0 0 (σ' := (⟨[(4, .v (.bool (x9 && (((e.order.length : Int) == 0) || x11))))], [], 64, []⟩ : St))) ?_
 refine AW.ret ?_
 cases someE hH
 exact retQ.i [] rfl (.c (.c .v))

def spec_evHas_l1 (e : Event) (skater : Int) : List Result → Nat → Option Bool
  | [], k1 =>
    some false
  | y2 :: ys3, k1 =>
    cond (y2.skater == skater)
      ((spec_evScores_p y2).bind fun x12 =>
      some (decide (x12 > e.segment)))
      (spec_evHas_l1 e skater ys3 (k1 + 1))
def spec_evHas_p (e : Event) (skater : Int) : Option Bool :=
  spec_evHas_l1 e skater e.results 0
theorem spec_evHas_ok (e : Event) (skater : Int) (r : Bool) (hH : spec_evHas_p e skater = some r) : SpecR Tryz.prog 112 [.g (encEvent e), skater] (.v (.bool r)) := by
 refine fn_ok T Tryz.func112 rfl (by decide) rfl ?_
 refine AW.seq (AW.region ?_)
 refine AO.step rfl (box_ok T rfl 1 rfl rfl rfl rfl) ?_
 refine AO.pu T ?_
 refine AO.nil ?_
 iterate 2 refine AW.seq ?_
 refine AW.region ?_
 iterate 2 refine AO.pu T ?_
 refine AO.val rfl rfl (len_map_ok T rfl rfl rfl) ?_
 refine AO.pu T ?_
 refine AO.nil ?_
 refine AW.block ?_
 refine AW.loopS (fun s : Nat => (⟨[(1, skater), (2, .p 1 0), (8, .s (List.map encResult e.results)), (9, (e.results.length : Int)), (10, (s : Int))], [(1, .box [e.segments, e.size, e.key, .s (List.map encEntrant e.entrants), .s (List.map encInt e.gone), e.segment, .s (List.map encInt e.order), .s (List.map encResult e.results)])], 24, []⟩ : St)) (fun s => s ≤ e.results.length ∧ spec_evHas_l1 e skater (e.results.drop s) s = some r) (fun s => e.results.length - s) 0 ⟨Nat.zero_le _, hH⟩ ?_ ?_
 exact Le.ct 0 0
 rintro k1 ⟨hk, hH⟩
 replace hH : spec_evHas_l1 e skater (e.results.drop k1) k1 = some r := hH
 try dsimp only
 refine AW.boundM (t := 8) (l := e.results) rfl (fun hb5 => ?_)
 rcases hd4 : e.results.drop k1 with _ | ⟨y2, ys3⟩
 rw [hd4, spec_evHas_l1] at hH
 have hlt6 := drop_ge hd4
 refine AW.seq (AW.region ?_)
 refine AO.pu T ?_
 refine AO.nil (AW.seq ?_)
 refine AW.condF' (b := decide ((k1 : Int) < (e.results.length : Int))) rfl (rngF hlt6) ?_
 refine AW.exit ?_
 refine AW.seq (AW.region ?_)
 refine AO.pu T ?_
 refine AO.nil (AW.ret ?_)
 cases someE hH
 exact retQ.i [] rfl (.c (.c .v))
 rw [hd4, spec_evHas_l1] at hH
 have hlt6 := drop_lt hd4
 refine AW.seq (AW.region ?_)
 refine AO.pu T ?_
 refine AO.nil (AW.seq ?_)
 refine AW.condT' (b := decide ((k1 : Int) < (e.results.length : Int))) rfl (rngT hlt6) ?_
 refine AW.skip ?_
 refine AW.seq ?_
 refine AW.block ?_
 refine AW.seq (AW.region ?_)
 refine AO.val rfl rfl (ix_map_ok T rfl rfl rfl rfl rfl (getI_drop hd4) rfl) ?_
 refine AO.pu T (d := .g [y2.skater, .s (List.map encInt y2.scores)]) ?_
 refine AO.step rfl (alloc_ok T rfl 4 rfl rfl rfl rfl rfl) ?_
 refine AO.se T [y2.skater, .s (List.map encInt y2.scores)] ?_
 refine AO.nil (AW.seq ?_)
 refine AW.region ?_
 iterate 4 refine AO.pu T ?_
 refine AO.nil ?_
 refine AW.cond (b := (y2.skater == skater)) rfl (fun hc => ?_) (fun hc => ?_)
 replace hH := condT hc hH
 refine AW.seq ?_
 obtain ⟨x12, hx13, hH⟩ := bindE hH
 refine AW.drawn 4 5 [] mix (by kernel_rfl) rfl ?_
 refine AD.pure T (d := .g [y2.skater, .s (List.map encInt y2.scores)]) rfl rfl rfl ?_
 refine AD.val rfl rfl (callV_ok rfl rfl rfl rfl (spec_evScores_ok _ _ (hx13)) rfl) ?_
 iterate 2 refine AD.pure T rfl rfl rfl ?_
 refine AD.nil ?_
 iterate 2 refine AO.pu T ?_
 refine AO.nil (AW.ret ?_)
 cases someE hH
 exact retQ.i [] rfl (.c (.c .v))
 replace hH := condF hc hH
 refine AW.skip ?_
 refine AW.region ?_
 refine AO.val rfl rfl (ar_ok rfl rfl rfl rfl (inI_succ hlt6 hb5)) ?_
 refine AO.pu T ?_
 refine AO.nil ?_
 refine ⟨k1 + 1, ⟨Nat.succ_le_of_lt hlt6, (by rw [drop_succ_of hd4]; exact hH)⟩, (by have := hlt6; dsimp only; omega), ?_⟩
 exact Le.ct 0 0

def spec_evGood_l2 (e : Event) : Nat → Int → Option Bool
  | 0, _ => none
  | k14 + 1, v32 =>
    cond (decide (v32 < (e.order.length : Int)))
      ((getI e.order v32).bind fun x34 =>
      (spec_evHas_p e x34).bind fun x36 =>
      (opt x36 default (getI e.order (w64 (v32 - 1)))).bind fun x38 =>
      (opt x36 default (spec_evHas_p e x38)).bind fun x40 =>
      cond (x36 && (!x40))
        (some false)
        (spec_evGood_l2 e k14 (w64 (v32 + 1))))
      ((opt (!((e.order.length : Int) == 0)) default (getI e.order (w64 ((e.order.length : Int) - 1)))).bind fun x42 =>
      (opt (!((e.order.length : Int) == 0)) default (spec_evHas_p e x42)).bind fun x44 =>
      some (((e.order.length : Int) == 0) || (!x44)))
def spec_evGood_l1 (e : Event) (fuel : Nat) : List Result → Nat → Option Bool
  | [], k3 =>
    spec_evGood_l2 e fuel 1
  | y4 :: ys5, k3 =>
    (spec_evResult_p e y4).bind fun x46 =>
    cond (!x46)
      (some false)
      (spec_evGood_l1 e fuel ys5 (k3 + 1))
def spec_evGood_p (fuel : Nat) (e : Event) : Option Bool :=
  (spec_evHead_p fuel e).bind fun x1 =>
  cond ((!x1) || ((e.segment == e.segments) && decide ((e.order.length : Int) > 0)))
    (some false)
    (spec_evGood_l1 e fuel e.results 0)
theorem spec_evGood_ok (fuel : Nat) (e : Event) (r : Bool) (hH : spec_evGood_p fuel e = some r) : SpecR Tryz.prog 55 [.g (encEvent e)] (.v (.bool r)) := by
 refine fn_ok T Tryz.func55 rfl (by decide) rfl ?_
 refine AW.seq (AW.region ?_)
 refine AO.step rfl (box_ok T rfl 1 rfl rfl rfl rfl) ?_
 refine AO.pu T ?_
 refine AO.nil ?_
 iterate 2 refine AW.seq ?_
 obtain ⟨x1, hx2, hH⟩ := bindE hH
 refine AW.region ?_
 refine AO.pu T (d := .g [e.segments, e.size, e.key, .s (List.map encEntrant e.entrants), .s (List.map encInt e.gone), e.segment, .s (List.map encInt e.order), .s (List.map encResult e.results)]) ?_
 refine AO.val rfl rfl (callV_ok rfl rfl rfl rfl (spec_evHead_ok fuel _ _ (hx2)) rfl) ?_
 iterate 2 refine AO.pu T ?_
 refine AO.pureG T [] rfl trivial rfl rfl ?_
 refine AO.pureG T [10] rfl ⟨fun h => h, trivial⟩ rfl rfl ?_
 refine AO.pureG T [] rfl trivial rfl rfl ?_
 refine AO.pureG T [12] rfl ⟨fun h => h, trivial⟩ rfl rfl ?_
 refine AO.pureG T [11, 13] rfl ⟨fun h => h, fun h => h, trivial⟩ rfl rfl ?_
 refine AO.pureG T [14] rfl ⟨fun h => h, trivial⟩ rfl rfl ?_
 refine AO.pureG T [] rfl trivial rfl rfl ?_
 refine AO.pureG T [16] rfl ⟨fun h => h, trivial⟩ rfl rfl ?_
 refine AO.guard [17] rfl ⟨fun h => h, trivial⟩ (fun hg => len_map_ok T rfl rfl rfl) rfl ?_
 refine AO.pureG T [18] rfl ⟨fun h => h, trivial⟩ rfl rfl ?_
 refine AO.guard [15] rfl ⟨fun h => h, trivial⟩ (fun hg => pick_and rfl rfl rfl (by rw [hg]; exact Bool.true_and _)) rfl ?_
 refine AO.val rfl rfl (pick_or rfl rfl rfl rfl) ?_
 refine AO.nil ?_
 refine AW.cond (b := ((!x1) || ((e.segment == e.segments) && decide ((e.order.length : Int) > 0)))) rfl (fun hc => ?_) (fun hc => ?_)
 replace hH := condT hc hH
 refine AW.seq (AW.region ?_)
 refine AO.pu T ?_
 refine AO.nil (AW.ret ?_)
 cases someE hH
 exact retQ.i [] rfl (.c (.c .v))
 replace hH := condF hc hH
 refine AW.skip ?_
 iterate 2 refine AW.seq ?_
 refine AW.region ?_
 iterate 2 refine AO.pu T ?_
 refine AO.val rfl rfl (len_map_ok T rfl rfl rfl) ?_
 refine AO.pu T ?_
 refine AO.nil ?_
 refine AW.block ?_
 refine AW.loopS (fun s : Nat => (⟨[(1, .p 1 0), (23, .s (List.map encResult e.results)), (24, (e.results.length : Int)), (25, (s : Int))], [(1, .box [e.segments, e.size, e.key, .s (List.map encEntrant e.entrants), .s (List.map encInt e.gone), e.segment, .s (List.map encInt e.order), .s (List.map encResult e.results)])], 76, []⟩ : St)) (fun s => s ≤ e.results.length ∧ spec_evGood_l1 e fuel (e.results.drop s) s = some r) (fun s => e.results.length - s) 0 ⟨Nat.zero_le _, hH⟩ ?_ ?_
 exact Le.ct 0 0
 rintro k3 ⟨hk, hH⟩
 replace hH : spec_evGood_l1 e fuel (e.results.drop k3) k3 = some r := hH
 try dsimp only
 refine AW.boundM (t := 23) (l := e.results) rfl (fun hb7 => ?_)
 rcases hd6 : e.results.drop k3 with _ | ⟨y4, ys5⟩
 rw [hd6, spec_evGood_l1] at hH
 have hlt8 := drop_ge hd6
 refine AW.seq (AW.region ?_)
 refine AO.pu T ?_
 refine AO.nil (AW.seq ?_)
 refine AW.condF' (b := decide ((k3 : Int) < (e.results.length : Int))) rfl (rngF hlt8) ?_
 refine AW.exit ?_
 iterate 2 refine AW.seq ?_
 refine AW.region ?_
 refine AO.pu T ?_
 refine AO.nil ?_
 refine AW.block ?_
 refine AW.loopS (fun s : Nat × Int => (⟨[(1, .p 1 0), (5, s.2)], [(1, .box [e.segments, e.size, e.key, .s (List.map encEntrant e.entrants), .s (List.map encInt e.gone), e.segment, .s (List.map encInt e.order), .s (List.map encResult e.results)])], 76, []⟩ : St)) (fun s => spec_evGood_l2 e s.1 s.2 = some r) (fun s => s.1) (fuel, 1) hH ?_ ?_
 exact Le.ct 0 0
 rintro ⟨k14, v32⟩ hH
 replace hH : spec_evGood_l2 e k14 v32 = some r := hH
 try dsimp only
 rcases k14 with _ | k14
 cases (show none = some _ from hH)
 rw [spec_evGood_l2] at hH
 iterate 2 refine AW.seq ?_
 refine AW.region ?_
 iterate 3 refine AO.pu T ?_
 refine AO.val rfl rfl (len_map_ok T rfl rfl rfl) ?_
 refine AO.pu T ?_
 refine AO.nil ?_
 refine AW.cond (b := decide (v32 < (e.order.length : Int))) rfl (fun hc => ?_) (fun hc => ?_)
 replace hH := condT hc hH
 refine AW.skip ?_
 refine AW.seq ?_
 refine AW.block ?_
 refine AW.seq ?_
 obtain ⟨x34, hx35, hH⟩ := bindE hH
 obtain ⟨x36, hx37, hH⟩ := bindE hH
 obtain ⟨x38, hx39, hH⟩ := bindE hH
 obtain ⟨x40, hx41, hH⟩ := bindE hH
 refine AW.drawn 15 4 [] mix (by kernel_rfl) rfl ?_
 refine AD.pure T (d := .g [e.segments, e.size, e.key, .s (List.map encEntrant e.entrants), .s (List.map encInt e.gone), e.segment, .s (List.map encInt e.order), .s (List.map encResult e.results)]) rfl rfl rfl ?_
 iterate 3 refine AD.pure T rfl rfl rfl ?_
 refine AD.val rfl rfl (ix_map_ok T rfl rfl rfl rfl rfl (hx35) rfl) ?_
 refine AD.pure T rfl rfl rfl ?_
 refine AD.val rfl rfl (callV_ok rfl rfl rfl rfl (spec_evHas_ok _ _ _ (hx37)) rfl) ?_
 refine AD.pure T rfl rfl rfl ?_
 refine AD.pureG T (d := .g [e.segments, e.size, e.key, .s (List.map encEntrant e.entrants), .s (List.map encInt e.gone), e.segment, .s (List.map encInt e.order), .s (List.map encResult e.results)]) [] rfl trivial rfl rfl ?_
 refine AD.pureG T [] rfl trivial rfl rfl ?_
 refine AD.pureG T [50] rfl ⟨fun h => h, trivial⟩ rfl rfl ?_
 refine AD.pureG T [] rfl trivial rfl rfl ?_
 refine AD.guard [52] rfl ⟨fun h => h, trivial⟩ (fun hg => arw_ok rfl rfl rfl rfl) rfl ?_
 refine AD.guard [51, 53] rfl ⟨fun h => h, fun h => h, trivial⟩ (fun hg => ix_map_ok T rfl rfl rfl rfl rfl (optT hx39 hg) rfl) rfl ?_
 refine AD.pureG T [54] rfl ⟨fun h => h, trivial⟩ rfl rfl ?_
 refine AD.nil ?_
 refine AO.guard [49, 55] rfl ⟨fun h => h, fun h => h, trivial⟩ (fun hg => callV_ok rfl rfl rfl rfl (spec_evHas_ok _ _ _ (optT hx41 hg)) rfl) rfl ?_
 refine AO.pureG T [56] rfl ⟨fun h => h, trivial⟩ rfl rfl ?_
 refine AO.val rfl rfl (pick_and rfl rfl rfl rfl) ?_
 refine AO.nil ?_
 refine AW.cond (b := (x36 && (!x40))) rfl (fun hc => ?_) (fun hc => ?_)
 replace hH := condT hc hH
 refine AW.seq (AW.region ?_)
 refine AO.pu T ?_
 refine AO.nil ?_
 refine AW.le (Le.ct 0 0 (σ' := (⟨[(2, .v (.bool false))], [], 76, []⟩ : St))) ?_
 refine AW.ret ?_
 cases someE hH
 exact retQ.i [] rfl (.c (.c .v))
 replace hH := condF hc hH
 refine AW.skip ?_
 refine AW.region ?_
 refine AO.pu T ?_
 refine AO.val rfl rfl (arw_ok rfl rfl rfl rfl) ?_
 refine AO.pu T ?_
 refine AO.nil ?_
 refine ⟨(k14, w64 (v32 + 1)), hH, Nat.lt_succ_self _, ?_⟩
 exact Le.ct 0 0
 replace hH := condF hc hH
 refine AW.exit ?_
 refine AW.seq ?_
 obtain ⟨x42, hx43, hH⟩ := bindE hH
 obtain ⟨x44, hx45, hH⟩ := bindE hH
 refine AW.drawn 14 4 [] mix (by kernel_rfl) rfl ?_
 iterate 2 refine AD.pure T rfl rfl rfl ?_
 refine AD.val rfl rfl (len_map_ok T rfl rfl rfl) ?_
 iterate 2 refine AD.pure T rfl rfl rfl ?_
 refine AD.pureG T (d := .g [e.segments, e.size, e.key, .s (List.map encEntrant e.entrants), .s (List.map encInt e.gone), e.segment, .s (List.map encInt e.order), .s (List.map encResult e.results)]) [] rfl trivial rfl rfl ?_
 refine AD.pureG T [] rfl trivial rfl rfl ?_
 refine AD.pureG T [65] rfl ⟨fun h => h, trivial⟩ rfl rfl ?_
 refine AD.pureG T [] rfl trivial rfl rfl ?_
 refine AD.pureG T [67] rfl ⟨fun h => h, trivial⟩ rfl rfl ?_
 refine AD.guard [68] rfl ⟨fun h => h, trivial⟩ (fun hg => len_map_ok T rfl rfl rfl) rfl ?_
 refine AD.guard [69] rfl ⟨fun h => h, trivial⟩ (fun hg => arw_ok rfl rfl rfl rfl) rfl ?_
 refine AD.guard [66, 70] rfl ⟨fun h => h, fun h => h, trivial⟩ (fun hg => ix_map_ok T rfl rfl rfl rfl rfl (optT hx43 hg) rfl) rfl ?_
 refine AD.pureG T [71] rfl ⟨fun h => h, trivial⟩ rfl rfl ?_
 refine AD.nil ?_
 refine AO.guard [64, 72] rfl ⟨fun h => h, fun h => h, trivial⟩ (fun hg => callV_ok rfl rfl rfl rfl (spec_evHas_ok _ _ _ (optT hx45 hg)) rfl) rfl ?_
 refine AO.pureG T [73] rfl ⟨fun h => h, trivial⟩ rfl rfl ?_
 refine AO.val rfl rfl (pick_or rfl rfl rfl rfl) ?_
 refine AO.pu T ?_
 refine AO.nil (AW.ret ?_)
 cases someE hH
 exact retQ.i [] rfl (.c (.c .v))
 rw [hd6, spec_evGood_l1] at hH
 have hlt8 := drop_lt hd6
 refine AW.seq (AW.region ?_)
 refine AO.pu T ?_
 refine AO.nil (AW.seq ?_)
 refine AW.condT' (b := decide ((k3 : Int) < (e.results.length : Int))) rfl (rngT hlt8) ?_
 refine AW.skip ?_
 refine AW.seq ?_
 refine AW.block ?_
 refine AW.seq (AW.region ?_)
 refine AO.val rfl rfl (ix_map_ok T rfl rfl rfl rfl rfl (getI_drop hd6) rfl) ?_
 refine AO.pu T (d := .g [y4.skater, .s (List.map encInt y4.scores)]) ?_
 refine AO.step rfl (alloc_ok T rfl 4 rfl rfl rfl rfl rfl) ?_
 refine AO.se T [y4.skater, .s (List.map encInt y4.scores)] ?_
 refine AO.nil (AW.seq ?_)
 obtain ⟨x46, hx47, hH⟩ := bindE hH
 refine AW.region ?_
 refine AO.pu T (d := .g [e.segments, e.size, e.key, .s (List.map encEntrant e.entrants), .s (List.map encInt e.gone), e.segment, .s (List.map encInt e.order), .s (List.map encResult e.results)]) ?_
 refine AO.pu T (d := .g [y4.skater, .s (List.map encInt y4.scores)]) ?_
 refine AO.val rfl rfl (callV_ok rfl rfl rfl rfl (spec_evResult_ok _ _ _ (hx47)) rfl) ?_
 refine AO.pu T ?_
 refine AO.nil ?_
 refine AW.cond (b := (!x46)) rfl (fun hc => ?_) (fun hc => ?_)
 replace hH := condT hc hH
 refine AW.seq (AW.region ?_)
 refine AO.pu T ?_
 refine AO.nil (AW.ret ?_)
 cases someE hH
 exact retQ.i [] rfl (.c (.c .v))
 replace hH := condF hc hH
 refine AW.skip ?_
 refine AW.region ?_
 refine AO.val rfl rfl (ar_ok rfl rfl rfl rfl (inI_succ hlt8 hb7)) ?_
 refine AO.pu T ?_
 refine AO.nil ?_
 refine ⟨k3 + 1, ⟨Nat.succ_le_of_lt hlt8, (by rw [drop_succ_of hd6]; exact hH)⟩, (by have := hlt8; dsimp only; omega), ?_⟩
 exact Le.ct 0 0

def spec_evOwn_l1 (e : Event) (x3 : (List Int)) (x5 : (List Int)) : List Result → Nat → List Result → Option Event
  | [], k7, v22 =>
    some (Event.mk e.segments e.size e.key e.entrants x3 e.segment x5 v22)
  | y8 :: ys9, k7, v22 =>
    (spec_l1Own_p y8.scores).bind fun x24 =>
    (need (fitsB 32 (v22.length + ([(Result.mk y8.skater x24)]).length))).bind fun u26 =>
    spec_evOwn_l1 e x3 x5 ys9 (k7 + 1) (v22 ++ [(Result.mk y8.skater x24)])
def spec_evOwn_p (e : Event) : Option Event :=
  (need (fitsB 16 e.entrants.length)).bind fun u1 =>
  (spec_l1Own_p e.gone).bind fun x3 =>
  (spec_l1Own_p e.order).bind fun x5 =>
  spec_evOwn_l1 e x3 x5 e.results 0 []
theorem spec_evOwn_ok (e : Event) (r : Event) (hH : spec_evOwn_p e = some r) : SpecR Tryz.prog 74 [.g (encEvent e)] (.g (encEventO r)) := by
 refine fn_ok T Tryz.func74 rfl (by decide) rfl ?_
 refine AW.seq (AW.region ?_)
 refine AO.step rfl (box_ok T rfl 1 rfl rfl rfl rfl) ?_
 refine AO.step rfl (alloc_ok T rfl 2 rfl rfl rfl rfl rfl) ?_
 refine AO.nil (AW.seq ?_)
 obtain ⟨u1, hx2, hH⟩ := bindE hH
 obtain ⟨x3, hx4, hH⟩ := bindE hH
 obtain ⟨x5, hx6, hH⟩ := bindE hH
 refine AW.drawn 20 3 [] mix (by kernel_rfl) rfl ?_
 iterate 6 refine AD.pure T rfl rfl rfl ?_
 refine AD.v (FStep.mk0 T rfl rfl rfl rfl rfl) ?_
 iterate 2 refine AD.pure T rfl rfl rfl ?_
 refine AD.q (FStep.app_ws T rfl rfl rfl rfl rfl rfl rfl (by decide) (by decide) rfl rfl (fun _ => rfl) (needT (hx2)) rfl) (by simp [namesIn]) (Nat.le_succ _) rfl ?_
 iterate 2 refine AD.pure T rfl rfl rfl ?_
 refine AD.q (FStep.call rfl rfl rfl rfl rfl (spec_l1Own_ok _ _ (hx4)) rfl rfl) (impT_names _ _) (impT_le _ _) rfl ?_
 iterate 4 refine AD.pure T rfl rfl rfl ?_
 refine AD.q (FStep.call rfl rfl rfl rfl rfl (spec_l1Own_ok _ _ (hx6)) rfl rfl) (impT_names _ _) (impT_le _ _) rfl ?_
 refine AD.pured T (d := .g [e.segments, e.size, e.key, .R 3, .R 4, e.segment, .R 5, .w 0 []]) rfl rfl rfl rfl ?_
 refine AD.q (FStep.alloc T rfl rfl rfl rfl rfl rfl) (by simp [namesIn]) (Nat.le_succ _) rfl ?_
 refine AD.nil ?_
 refine AO.se T [e.segments, e.size, e.key, .R 3, .R 4, e.segment, .R 5, .w 0 []] ?_
 refine AO.nil ?_
 iterate 2 refine AW.seq ?_
 refine AW.region ?_
 iterate 2 refine AO.pu T ?_
 refine AO.val rfl rfl (len_map_ok T rfl rfl rfl) ?_
 refine AO.pu T ?_
 refine AO.nil ?_
 refine AW.le (Le.ct 0 0 (σ' := (⟨[(2, .p 2 0), (3, .p 6 0), (26, .s (List.map encResult e.results)), (27, (e.results.length : Int)), (28, (0 : Int))], [(2, .box [(0 : Int), (0 : Int), (0 : Int), .w 0 [], .w 0 [], (0 : Int), .w 0 [], .w 0 []]), (3, .row 2 (List.map encEntrant e.entrants)), (4, .row 1 (List.map encInt x3)), (5, .row 1 (List.map encInt x5)), (6, .box [e.segments, e.size, e.key, .R 3, .R 4, e.segment, .R 5, .w 0 []])], 45, []⟩ : St))) ?_
 refine AW.block ?_
 refine AW.loopS (fun s : Nat × (List Result) => (⟨[(2, .p 2 0), (3, .p 6 0), (26, .s (List.map encResult e.results)), (27, (e.results.length : Int)), (28, (s.1 : Int))], [(2, .box [(0 : Int), (0 : Int), (0 : Int), .w 0 [], .w 0 [], (0 : Int), .w 0 [], .w 0 []]), (3, .row 2 (List.map encEntrant e.entrants)), (4, .row 1 (List.map encInt x3)), (5, .row 1 (List.map encInt x5)), (6, .box [e.segments, e.size, e.key, .R 3, .R 4, e.segment, .R 5, .R 14]), (14, .row 2 (List.map encResultO s.2))], 45, []⟩ : St)) (fun s => s.1 ≤ e.results.length ∧ spec_evOwn_l1 e x3 x5 (e.results.drop s.1) s.1 s.2 = some r) (fun s => e.results.length - s.1) (0, []) ⟨Nat.zero_le _, hH⟩ ?_ ?_
 refine Le.trans (Le.voidBox 6 7 14 2 rfl rfl rfl rfl) ?_
 exact Le.ct 0 0
 rintro ⟨k7, v22⟩ ⟨hk, hH⟩
 replace hH : spec_evOwn_l1 e x3 x5 (e.results.drop k7) k7 v22 = some r := hH
 try dsimp only
 refine AW.boundM (t := 26) (l := e.results) rfl (fun hb11 => ?_)
 rcases hd10 : e.results.drop k7 with _ | ⟨y8, ys9⟩
 rw [hd10, spec_evOwn_l1] at hH
 have hlt12 := drop_ge hd10
 refine AW.seq (AW.region ?_)
 refine AO.pu T ?_
 refine AO.nil (AW.seq ?_)
 refine AW.condF' (b := decide ((k7 : Int) < (e.results.length : Int))) rfl (rngF hlt12) ?_
 refine AW.exit ?_
 refine AW.seq (AW.region ?_)
 refine AO.pu T (d := .g [e.segments, e.size, e.key, .R 3, .R 4, e.segment, .R 5, .R 14]) ?_
 refine AO.se T [e.segments, e.size, e.key, .R 3, .R 4, e.segment, .R 5, .R 14] ?_
 refine AO.nil (AW.ret ?_)
 cases someE hH
 exact retQ.i [3, 4, 5, 14] rfl (.c (.g (expLC_cons .v (expLC_cons .v (expLC_cons .v (expLC_cons (.rowR rfl) (expLC_cons (.rowR rfl) (expLC_cons .v (expLC_cons (.rowR rfl) (expLC_cons (.rowR rfl) (expLC_nil)))))))))))
 rw [hd10, spec_evOwn_l1] at hH
 have hlt12 := drop_lt hd10
 refine AW.seq (AW.region ?_)
 refine AO.pu T ?_
 refine AO.nil (AW.seq ?_)
 refine AW.condT' (b := decide ((k7 : Int) < (e.results.length : Int))) rfl (rngT hlt12) ?_
 refine AW.skip ?_
 refine AW.seq ?_
 refine AW.block ?_
 refine AW.seq (AW.region ?_)
 refine AO.val rfl rfl (ix_map_ok T rfl rfl rfl rfl rfl (getI_drop hd10) rfl) ?_
 refine AO.pu T (d := .g [y8.skater, .s (List.map encInt y8.scores)]) ?_
 refine AO.step rfl (alloc_ok T rfl 15 rfl rfl rfl rfl rfl) ?_
 refine AO.se T [y8.skater, .s (List.map encInt y8.scores)] ?_
 refine AO.nil ?_
 obtain ⟨x24, hx25, hH⟩ := bindE hH
 obtain ⟨u26, hx27, hH⟩ := bindE hH
 refine AW.drawn 9 16 [] mix (by kernel_rfl) rfl ?_
 iterate 6 refine AD.pure T rfl rfl rfl ?_
 refine AD.q (FStep.call rfl rfl rfl rfl rfl (spec_l1Own_ok _ _ (hx25)) rfl rfl) (impT_names _ _) (impT_le _ _) rfl ?_
 refine AD.pured T (d := .g [y8.skater, .R 16]) rfl rfl rfl rfl ?_
 refine AD.k rfl rfl (FStep.mk_o T rfl rfl rfl rfl rfl rfl rfl rfl (f := encResultO) (l := [(Result.mk y8.skater x24)]) (ids := [16]) rfl rfl (fun _ => rfl) (by exact expLC_cons .v (expLC_cons (.rowR rfl) (expLC_nil))) (by decide) rfl rfl rfl rfl) rfl rfl rfl ?_
 refine AD.nil ?_
 refine AO.step rfl (app_rr_map T rfl 18 rfl rfl rfl rfl rfl (by decide) rfl rfl rfl rfl rfl (needT (hx27)) rfl rfl) ?_
 refine AO.pu T ?_
 refine AO.se T [e.segments, e.size, e.key, .R 3, .R 4, e.segment, .R 5, .R 18] ?_
 refine AO.nil ?_
 refine AW.region ?_
 refine AO.val rfl rfl (ar_ok rfl rfl rfl rfl (inI_succ hlt12 hb11)) ?_
 refine AO.pu T ?_
 refine AO.nil ?_
 refine ⟨(k7 + 1, (v22 ++ [(Result.mk y8.skater x24)])), ⟨Nat.succ_le_of_lt hlt12, (by rw [drop_succ_of hd10]; exact hH)⟩, (by have := hlt12; dsimp only; omega), ?_⟩
 exact Le.ct 18 14

def spec_evEnter_l1 (e : Event) (x : Entrant) (x1 : Event) : Nat → List Int → Int → Option ((Event × Bool))
  | 0, _, _ => none
  | k7 + 1, v14, v15 =>
    cond (decide (v15 < e.segments))
      ((need (fitsB 8 (v14.length + ([(-1)]).length))).bind fun u17 =>
      spec_evEnter_l1 e x x1 k7 (v14 ++ [(-1)]) (w64 (v15 + 1)))
      ((need (fitsB 32 (x1.results.length + ([(Result.mk x.skater v14)]).length))).bind fun u19 =>
      some ((Event.mk x1.segments x1.size x1.key (x1.entrants ++ [x]) x1.gone x1.segment x1.order (x1.results ++ [(Result.mk x.skater v14)])), true))
def spec_evEnter_p (fuel : Nat) (e : Event) (x : Entrant) : Option (Event × Bool) :=
  (spec_evOwn_p e).bind fun x1 =>
  (need (fitsB 16 (x1.entrants.length + ([x]).length))).bind fun u3 =>
  (opt (!(decide (e.segment > 0) || decide ((e.order.length : Int) > 0))) default (spec_soEntrants_p (x1.entrants ++ [x]))).bind fun x5 =>
  cond ((decide (e.segment > 0) || decide ((e.order.length : Int) > 0)) || (!x5))
    (some ((Event.mk 0 0 0 [] [] 0 [] []), false))
    (spec_evEnter_l1 e x x1 fuel [] 0)
theorem spec_evEnter_ok (fuel : Nat) (e : Event) (x : Entrant) (r : (Event × Bool)) (hH : spec_evEnter_p fuel e x = some r) : SpecR Tryz.prog 95 [.g (encEvent e), .g (encEntrant x)] (.t [.g (encEventO r.1), .v (.bool r.2)]) := by
 refine fn_ok T Tryz.func95 rfl (by decide) rfl ?_
 refine AW.seq (AW.region ?_)
 refine AO.step rfl (box_ok T rfl 1 rfl rfl rfl rfl) ?_
 refine AO.step rfl (box_ok T rfl 2 rfl rfl rfl rfl) ?_
 refine AO.step rfl (alloc_ok T rfl 3 rfl rfl rfl rfl rfl) ?_
 refine AO.pu T ?_
 refine AO.nil (AW.seq ?_)
 obtain ⟨x1, hx2, hH⟩ := bindE hH
 refine AW.region ?_
 refine AO.pu T (d := .g [e.segments, e.size, e.key, .s (List.map encEntrant e.entrants), .s (List.map encInt e.gone), e.segment, .s (List.map encInt e.order), .s (List.map encResult e.results)]) ?_
 refine AO.step rfl (call_ok rfl 4 rfl rfl rfl (spec_evOwn_ok _ _ (hx2)) rfl rfl rfl) ?_
 refine AO.step rfl (alloc_ok T rfl 8 rfl rfl rfl rfl rfl) ?_
 refine AO.se T [x1.segments, x1.size, x1.key, .R 4, .R 5, x1.segment, .R 6, .R 7] ?_
 refine AO.nil (AW.seq ?_)
 obtain ⟨u3, hx4, hH⟩ := bindE hH
 refine AW.region ?_
 iterate 2 refine AO.pu T ?_
 refine AO.pu T (d := .g [x.skater, x.rank]) ?_
 refine AO.step rfl (mk_map_ok T rfl 9 rfl rfl rfl rfl rfl (f := encEntrant) (l := [x]) rfl rfl (fun _ => rfl) rfl rfl rfl rfl rfl) ?_
 refine AO.step rfl (app_rv_map T rfl 10 rfl rfl rfl rfl rfl (by decide) rfl rfl rfl rfl (fun _ => rfl) (needT (hx4)) rfl rfl) ?_
 refine AO.pu T ?_
 refine AO.se T [x1.segments, x1.size, x1.key, .R 10, .R 5, x1.segment, .R 6, .R 7] ?_
 refine AO.nil ?_
 iterate 2 refine AW.seq ?_
 obtain ⟨x5, hx6, hH⟩ := bindE hH
 refine AW.region ?_
 iterate 4 refine AO.pu T ?_
 refine AO.pureG T [] rfl trivial rfl rfl ?_
 refine AO.pureG T [21] rfl ⟨fun h => h, trivial⟩ rfl rfl ?_
 refine AO.guard [22] rfl ⟨fun h => h, trivial⟩ (fun hg => len_map_ok T rfl rfl rfl) rfl ?_
 refine AO.pureG T [23] rfl ⟨fun h => h, trivial⟩ rfl rfl ?_
 refine AO.val rfl rfl (pick_or rfl rfl rfl rfl) ?_
 refine AO.pu T ?_
 refine AO.pureG T [] rfl trivial rfl rfl ?_
 refine AO.pureG T [27] rfl ⟨fun h => h, trivial⟩ rfl rfl ?_
 refine AO.guard [28] rfl ⟨fun h => h, trivial⟩ (fun hg => callLV_ok rfl rfl rfl (es := [.s (List.map encEntrant (x1.entrants ++ [x]))]) ⟨(.rowR rfl (.map fun y => .vs rfl)), trivial⟩ (spec_soEntrants_ok _ _ (optT hx6 hg)) (zfree_v _) rfl) rfl ?_
 refine AO.pureG T [29] rfl ⟨fun h => h, trivial⟩ rfl rfl ?_
 refine AO.val rfl rfl (pick_or rfl rfl rfl rfl) ?_
 refine AO.nil ?_
 refine AW.le (Le.ct 0 0 (σ' := (⟨[(2, .p 1 0), (3, .p 2 0), (4, .p 3 0), (6, .p 8 0), (31, .v (.bool ((decide (e.segment > 0) || decide ((e.order.length : Int) > 0)) || (!x5))))], [(1, .box [e.segments, e.size, e.key, .s (List.map encEntrant e.entrants), .s (List.map encInt e.gone), e.segment, .s (List.map encInt e.order), .s (List.map encResult e.results)]), (2, .box [x.skater, x.rank]), (3, .box [(0 : Int), (0 : Int), (0 : Int), .w 0 [], .w 0 [], (0 : Int), .w 0 [], .w 0 []]), (5, .row 1 (List.map encInt x1.gone)), (6, .row 1 (List.map encInt x1.order)), (7, .row 2 (List.map encResultO x1.results)), (8, .box [x1.segments, x1.size, x1.key, .R 10, .R 5, x1.segment, .R 6, .R 7]), (10, .row 2 (List.map encEntrant (x1.entrants ++ [x])))], 54, []⟩ : St))) ?_
 refine AW.cond (b := ((decide (e.segment > 0) || decide ((e.order.length : Int) > 0)) || (!x5))) rfl (fun hc => ?_) (fun hc => ?_)
 replace hH := condT hc hH
 refine AW.seq (AW.region ?_)
 refine AO.pu T (d := .g [(0 : Int), (0 : Int), (0 : Int), .w 0 [], .w 0 [], (0 : Int), .w 0 [], .w 0 []]) ?_
 refine AO.se T [(0 : Int), (0 : Int), (0 : Int), .w 0 [], .w 0 [], (0 : Int), .w 0 [], .w 0 []] ?_
 refine AO.pu T ?_
 refine AO.nil (AW.ret ?_)
 cases someE hH
 exact retQ.i [] rfl (.t (expLG_cons (.g (expLC_cons .v (expLC_cons .v (expLC_cons .v (expLC_cons .nil (expLC_cons .nil (expLC_cons .v (expLC_cons .nil (expLC_cons .nil (expLC_nil)))))))))) (expLG_cons (.c .v) (expLG_nil))))
 replace hH := condF hc hH
 refine AW.skip ?_
 refine AW.seq (AW.region ?_)
 iterate 2 refine AO.pu T ?_
 refine AO.pu T (d := .g [x.skater, .w 0 []]) ?_
 refine AO.step rfl (alloc_ok T rfl 11 rfl rfl rfl rfl rfl) ?_
 refine AO.se T [x.skater, .w 0 []] ?_
 refine AO.nil ?_
 iterate 2 refine AW.seq ?_
 refine AW.region ?_
 refine AO.pu T ?_
 refine AO.nil ?_
 refine AW.block ?_
 refine AW.loopS (fun s : Nat × (List Int) × Int => (⟨[(2, .p 1 0), (4, .p 3 0), (6, .p 8 0), (7, .p 11 0), (8, s.2.2)], [(1, .box [e.segments, e.size, e.key, .s (List.map encEntrant e.entrants), .s (List.map encInt e.gone), e.segment, .s (List.map encInt e.order), .s (List.map encResult e.results)]), (3, .box [(0 : Int), (0 : Int), (0 : Int), .w 0 [], .w 0 [], (0 : Int), .w 0 [], .w 0 []]), (5, .row 1 (List.map encInt x1.gone)), (6, .row 1 (List.map encInt x1.order)), (7, .row 2 (List.map encResultO x1.results)), (8, .box [x1.segments, x1.size, x1.key, .R 10, .R 5, x1.segment, .R 6, .R 7]), (10, .row 2 (List.map encEntrant (x1.entrants ++ [x]))), (11, .box [x.skater, .R 15]), (15, .row 1 (List.map encInt s.2.1))], 54, []⟩ : St)) (fun s => spec_evEnter_l1 e x x1 s.1 s.2.1 s.2.2 = some r) (fun s => s.1) (fuel, [], 0) hH ?_ ?_
 refine Le.trans (Le.voidBox 11 1 15 1 rfl rfl rfl rfl) ?_
 exact Le.ct 0 0
 rintro ⟨k7, v14, v15⟩ hH
 replace hH : spec_evEnter_l1 e x x1 k7 v14 v15 = some r := hH
 try dsimp only
 rcases k7 with _ | k7
 cases (show none = some _ from hH)
 rw [spec_evEnter_l1] at hH
 iterate 2 refine AW.seq ?_
 refine AW.region ?_
 iterate 4 refine AO.pu T ?_
 refine AO.nil ?_
 refine AW.cond (b := decide (v15 < e.segments)) rfl (fun hc => ?_) (fun hc => ?_)
 replace hH := condT hc hH
 refine AW.skip ?_
 refine AW.seq ?_
 refine AW.block ?_
 obtain ⟨u17, hx18, hH⟩ := bindE hH
 refine AW.region ?_
 iterate 2 refine AO.pu T ?_
 refine AO.step rfl (mk_map_ok T rfl 16 rfl rfl rfl rfl rfl (f := encInt) (l := [(-1)]) rfl rfl (fun _ => rfl) rfl rfl rfl rfl rfl) ?_
 refine AO.step rfl (app_rv_map T rfl 17 rfl rfl rfl rfl rfl (by decide) rfl rfl rfl rfl (fun _ => rfl) (needT (hx18)) rfl rfl) ?_
 refine AO.pu T ?_
 refine AO.se T [x.skater, .R 17] ?_
 refine AO.nil ?_
 refine AW.region ?_
 refine AO.pu T ?_
 refine AO.val rfl rfl (arw_ok rfl rfl rfl rfl) ?_
 refine AO.pu T ?_
 refine AO.nil ?_
 refine ⟨(k7, (v14 ++ [(-1)]), w64 (v15 + 1)), hH, Nat.lt_succ_self _, ?_⟩
 exact Le.ct 17 15
 replace hH := condF hc hH
 refine AW.exit ?_
 refine AW.seq ?_
 obtain ⟨u19, hx20, hH⟩ := bindE hH
 refine AW.region ?_
 iterate 2 refine AO.pu T ?_
 refine AO.pu T (d := .g [x.skater, .R 15]) ?_
 refine AO.step rfl (mk_o_ok T rfl 18 rfl rfl rfl rfl rfl rfl (f := encResultO) (l := [(Result.mk x.skater v14)]) (ids := [15]) rfl rfl (fun _ => rfl) (by exact expLC_cons .v (expLC_cons (.rowR rfl) (expLC_nil))) (by decide) rfl rfl rfl rfl rfl) ?_
 refine AO.step rfl (app_rr_map T rfl 19 rfl rfl rfl rfl rfl (by decide) rfl rfl rfl rfl rfl (needT (hx20)) rfl rfl) ?_
 refine AO.pu T ?_
 refine AO.se T [x1.segments, x1.size, x1.key, .R 10, .R 5, x1.segment, .R 6, .R 19] ?_
 refine AO.nil (AW.seq ?_)
 refine AW.region ?_
 refine AO.pu T (d := .g [x1.segments, x1.size, x1.key, .R 10, .R 5, x1.segment, .R 6, .R 19]) ?_
 refine AO.se T [x1.segments, x1.size, x1.key, .R 10, .R 5, x1.segment, .R 6, .R 19] ?_
 refine AO.pu T ?_
 refine AO.nil (AW.ret ?_)
 cases someE hH
 exact retQ.i [10, 5, 6, 19] rfl (.t (expLG_cons (.g (expLC_cons .v (expLC_cons .v (expLC_cons .v (expLC_cons (.rowR rfl) (expLC_cons (.rowR rfl) (expLC_cons .v (expLC_cons (.rowR rfl) (expLC_cons (.rowR rfl) (expLC_nil)))))))))) (expLG_cons (.c .v) (expLG_nil))))

def spec_evThere_l1 (e : Event) : List Entrant → Nat → List Entrant → Option ((List Entrant))
  | [], k1, v16 =>
    some v16
  | y2 :: ys3, k1, v16 =>
    (spec_l1Has_p e.gone y2.skater).bind fun x18 =>
    cond (!x18)
      ((need (fitsB 16 (v16.length + ([y2]).length))).bind fun u20 =>
      spec_evThere_l1 e ys3 (k1 + 1) (v16 ++ [y2]))
      (spec_evThere_l1 e ys3 (k1 + 1) v16)
def spec_evThere_p (e : Event) : Option (List Entrant) :=
  spec_evThere_l1 e e.entrants 0 []
theorem spec_evThere_ok (e : Event) (r : (List Entrant)) (hH : spec_evThere_p e = some r) : SpecR Tryz.prog 56 [.g (encEvent e)] (.w 2 (r.map encEntrant)) := by
 refine fn_ok T Tryz.func56 rfl (by decide) rfl ?_
 refine AW.seq (AW.region ?_)
 refine AO.step rfl (box_ok T rfl 1 rfl rfl rfl rfl) ?_
 refine AO.pu T ?_
 refine AO.nil (AW.seq ?_)
 refine AW.region ?_
 refine AO.pu T ?_
 refine AO.nil ?_
 iterate 2 refine AW.seq ?_
 refine AW.region ?_
 iterate 2 refine AO.pu T ?_
 refine AO.val rfl rfl (len_map_ok T rfl rfl rfl) ?_
 refine AO.pu T ?_
 refine AO.nil ?_
 refine AW.block ?_
 refine AW.loopS (fun s : Nat × (List Entrant) => (⟨[(1, .p 1 0), (3, .R 7), (7, .s (List.map encEntrant e.entrants)), (8, (e.entrants.length : Int)), (9, (s.1 : Int))], [(1, .box [e.segments, e.size, e.key, .s (List.map encEntrant e.entrants), .s (List.map encInt e.gone), e.segment, .s (List.map encInt e.order), .s (List.map encResult e.results)]), (7, .row 2 (List.map encEntrant s.2))], 25, []⟩ : St)) (fun s => s.1 ≤ e.entrants.length ∧ spec_evThere_l1 e (e.entrants.drop s.1) s.1 s.2 = some r) (fun s => e.entrants.length - s.1) (0, []) ⟨Nat.zero_le _, hH⟩ ?_ ?_
 refine Le.trans (Le.void 3 7 2 rfl rfl) ?_
 exact Le.ct 0 0
 rintro ⟨k1, v16⟩ ⟨hk, hH⟩
 replace hH : spec_evThere_l1 e (e.entrants.drop k1) k1 v16 = some r := hH
 try dsimp only
 refine AW.boundM (t := 7) (l := e.entrants) rfl (fun hb5 => ?_)
 rcases hd4 : e.entrants.drop k1 with _ | ⟨y2, ys3⟩
 rw [hd4, spec_evThere_l1] at hH
 have hlt6 := drop_ge hd4
 refine AW.seq (AW.region ?_)
 refine AO.pu T ?_
 refine AO.nil (AW.seq ?_)
 refine AW.condF' (b := decide ((k1 : Int) < (e.entrants.length : Int))) rfl (rngF hlt6) ?_
 refine AW.exit ?_
 refine AW.seq (AW.region ?_)
 iterate 2 refine AO.pu T ?_
 refine AO.nil (AW.ret ?_)
 cases someE hH
 exact retQ.i [7] rfl (.c (.c (.rowR rfl)))
 rw [hd4, spec_evThere_l1] at hH
 have hlt6 := drop_lt hd4
 refine AW.seq (AW.region ?_)
 refine AO.pu T ?_
 refine AO.nil (AW.seq ?_)
 refine AW.condT' (b := decide ((k1 : Int) < (e.entrants.length : Int))) rfl (rngT hlt6) ?_
 refine AW.skip ?_
 refine AW.seq ?_
 refine AW.block ?_
 refine AW.seq (AW.region ?_)
 refine AO.val rfl rfl (ix_map_ok T rfl rfl rfl rfl rfl (getI_drop hd4) rfl) ?_
 refine AO.pu T (d := .g [y2.skater, y2.rank]) ?_
 refine AO.step rfl (alloc_ok T rfl 8 rfl rfl rfl rfl rfl) ?_
 refine AO.se T [y2.skater, y2.rank] ?_
 refine AO.nil (AW.seq ?_)
 obtain ⟨x18, hx19, hH⟩ := bindE hH
 refine AW.region ?_
 iterate 4 refine AO.pu T ?_
 refine AO.val rfl rfl (callV_ok rfl rfl rfl rfl (spec_l1Has_ok _ _ _ (hx19)) rfl) ?_
 refine AO.pu T ?_
 refine AO.nil ?_
 refine AW.cond (b := (!x18)) rfl (fun hc => ?_) (fun hc => ?_)
 replace hH := condT hc hH
 obtain ⟨u20, hx21, hH⟩ := bindE hH
 refine AW.region ?_
 refine AO.pu T ?_
 refine AO.pu T (d := .g [y2.skater, y2.rank]) ?_
 refine AO.step rfl (mk_map_ok T rfl 9 rfl rfl rfl rfl rfl (f := encEntrant) (l := [y2]) rfl rfl (fun _ => rfl) rfl rfl rfl rfl rfl) ?_
 refine AO.step rfl (app_rv_map T rfl 10 rfl rfl rfl rfl rfl (by decide) rfl rfl rfl rfl (fun _ => rfl) (needT (hx21)) rfl rfl) ?_
 refine AO.pu T ?_
 refine AO.nil ?_
 refine AW.region ?_
 refine AO.val rfl rfl (ar_ok rfl rfl rfl rfl (inI_succ hlt6 hb5)) ?_
 refine AO.pu T ?_
 refine AO.nil ?_
 refine ⟨(k1 + 1, (v16 ++ [y2])), ⟨Nat.succ_le_of_lt hlt6, (by rw [drop_succ_of hd4]; exact hH)⟩, (by have := hlt6; dsimp only; omega), ?_⟩
 exact Le.ct 10 7
 replace hH := condF hc hH
 refine AW.skip ?_
 refine AW.region ?_
 refine AO.val rfl rfl (ar_ok rfl rfl rfl rfl (inI_succ hlt6 hb5)) ?_
 refine AO.pu T ?_
 refine AO.nil ?_
 refine ⟨(k1 + 1, v16), ⟨Nat.succ_le_of_lt hlt6, (by rw [drop_succ_of hd4]; exact hH)⟩, (by have := hlt6; dsimp only; omega), ?_⟩
 exact Le.ct 0 0

def spec_l1Put_l1 (l : List Int) (n : Int) : Nat → Int → Option Int
  | 0, _ => none
  | k13 + 1, v19 =>
    (opt (decide (v19 < (l.length : Int))) default (getI l v19)).bind fun x21 =>
    cond (decide (v19 < (l.length : Int)) && decide (x21 < n))
      (spec_l1Put_l1 l n k13 (w64 (v19 + 1)))
      (some v19)
def spec_l1Put_p (fuel : Nat) (l : List Int) (n : Int) : Option (List Int) :=
  (spec_l1Put_l1 l n fuel 0).bind fun v10 =>
  (opt (decide (v10 < (l.length : Int))) default (getI l v10)).bind fun x23 =>
  cond (decide (v10 < (l.length : Int)) && (x23 == n))
    (some l)
    ((sliceHi l v10).bind fun x25 =>
    (need (fitsB 8 x25.length)).bind fun u27 =>
    (need (fitsB 8 (x25.length + ([n]).length))).bind fun u29 =>
    (sliceLo l v10).bind fun x31 =>
    (need (fitsB 8 (((x25 ++ [n])).length + x31.length))).bind fun u33 =>
    some ((x25 ++ [n]) ++ x31))
theorem spec_l1Put_ok (fuel : Nat) (l : List Int) (n : Int) (r : (List Int)) (hH : spec_l1Put_p fuel l n = some r) : SpecR Tryz.prog 137 [.s (List.map encInt l), n] (.s (r.map encInt)) := by
 refine fn_ok T Tryz.func137 rfl (by decide) rfl ?_
 refine AW.seq (AW.region ?_)
 refine AO.pu T ?_
 refine AO.nil (AW.seq ?_)
 refine AW.region ?_
 refine AO.pu T ?_
 refine AO.nil ?_
 obtain ⟨o11, hH, hK12⟩ := bindE hH
 refine AW.seqJ (fun s : Int => (⟨[(0, .s (List.map encInt l)), (1, n), (5, s)], [], 48, []⟩ : St)) (fun s => s = o11) ?_ ?_
 refine AW.block ?_
 refine AW.loopS (fun s : Nat × Int => (⟨[(0, .s (List.map encInt l)), (1, n), (5, s.2)], [], 48, []⟩ : St)) (fun s => spec_l1Put_l1 l n s.1 s.2 = some o11) (fun s => s.1) (fuel, 0) hH ?_ ?_
 exact Le.ct 0 0
 rintro ⟨k13, v19⟩ hH
 replace hH : spec_l1Put_l1 l n k13 v19 = some o11 := hH
 try dsimp only
 rcases k13 with _ | k13
 cases (show none = some _ from hH)
 rw [spec_l1Put_l1] at hH
 iterate 2 refine AW.seq ?_
 obtain ⟨x21, hx22, hH⟩ := bindE hH
 refine AW.region ?_
 iterate 2 refine AO.pu T ?_
 refine AO.val rfl rfl (len_map_ok T rfl rfl rfl) ?_
 iterate 2 refine AO.pu T ?_
 iterate 2 refine AO.pureG T [] rfl trivial rfl rfl ?_
 refine AO.guard [12, 13] rfl ⟨fun h => h, fun h => h, trivial⟩ (fun hg => ix_map_ok T rfl rfl rfl rfl rfl (optT hx22 hg) rfl) rfl ?_
 refine AO.pureG T [14] rfl ⟨fun h => h, trivial⟩ rfl rfl ?_
 refine AO.pureG T [] rfl trivial rfl rfl ?_
 refine AO.pureG T [15, 16] rfl ⟨fun h => h, fun h => h, trivial⟩ rfl rfl ?_
 refine AO.val rfl rfl (pick_and rfl rfl rfl rfl) ?_
 refine AO.nil ?_
 refine AW.cond (b := (decide (v19 < (l.length : Int)) && decide (x21 < n))) rfl (fun hc => ?_) (fun hc => ?_)
 replace hH := condT hc hH
 refine AW.skip ?_
 refine AW.block ?_
 refine AW.region ?_
 refine AO.pu T ?_
 refine AO.val rfl rfl (arw_ok rfl rfl rfl rfl) ?_
 refine AO.pu T ?_
 refine AO.nil ?_
 refine ⟨(k13, w64 (v19 + 1)), hH, Nat.lt_succ_self _, ?_⟩
 exact Le.ct 0 0
 replace hH := condF hc hH
 refine AW.exit ?_
 refine ⟨_, someE hH, ?_⟩
 exact Le.ct 0 0
 rintro v10 hs
 subst hs
 replace hH := hK12
 try dsimp only [flow, flowE] at hH
 try dsimp only
 iterate 2 refine AW.seq ?_
 obtain ⟨x23, hx24, hH⟩ := bindE hH
 refine AW.region ?_
 iterate 2 refine AO.pu T ?_
 refine AO.val rfl rfl (len_map_ok T rfl rfl rfl) ?_
 iterate 2 refine AO.pu T ?_
 iterate 2 refine AO.pureG T [] rfl trivial rfl rfl ?_
 refine AO.guard [26, 27] rfl ⟨fun h => h, fun h => h, trivial⟩ (fun hg => ix_map_ok T rfl rfl rfl rfl rfl (optT hx24 hg) rfl) rfl ?_
 refine AO.pureG T [28] rfl ⟨fun h => h, trivial⟩ rfl rfl ?_
 refine AO.pureG T [] rfl trivial rfl rfl ?_
 refine AO.pureG T [29, 30] rfl ⟨fun h => h, fun h => h, trivial⟩ rfl rfl ?_
 refine AO.val rfl rfl (pick_and rfl rfl rfl rfl) ?_
 refine AO.nil ?_
 refine AW.cond (b := (decide (v10 < (l.length : Int)) && (x23 == n))) rfl (fun hc => ?_) (fun hc => ?_)
 replace hH := condT hc hH
 refine AW.seq (AW.region ?_)
 iterate 2 refine AO.pu T ?_
 refine AO.nil (AW.ret ?_)
 cases someE hH
 exact retQ.i [] rfl (.c (.c .s))
 replace hH := condF hc hH
 refine AW.skip ?_
 refine AW.seq ?_
 obtain ⟨x25, hx26, hH⟩ := bindE hH
 obtain ⟨u27, hx28, hH⟩ := bindE hH
 refine AW.region ?_
 refine AO.step rfl (mk0_ok T rfl rfl rfl rfl) ?_
 iterate 2 refine AO.pu T ?_
 refine AO.val rfl rfl (slice_hi_map_ok T rfl rfl rfl rfl rfl (hx26) (fun _ => rfl)) ?_
 refine AO.step rfl (app_ws_map T rfl 1 rfl rfl rfl rfl rfl (by decide) (by decide) rfl rfl (fun _ => rfl) (needT (hx28)) rfl rfl) ?_
 refine AO.pu T ?_
 refine AO.nil (AW.seq ?_)
 obtain ⟨u29, hx30, hH⟩ := bindE hH
 refine AW.region ?_
 iterate 2 refine AO.pu T ?_
 refine AO.step rfl (mk_map_ok T rfl 2 rfl rfl rfl rfl rfl (f := encInt) (l := [n]) rfl rfl (fun _ => rfl) rfl rfl rfl rfl rfl) ?_
 refine AO.step rfl (app_rv_map T rfl 3 rfl rfl rfl rfl rfl (by decide) rfl rfl rfl rfl (fun _ => rfl) (needT (hx30)) rfl rfl) ?_
 refine AO.pu T ?_
 refine AO.nil (AW.seq ?_)
 obtain ⟨x31, hx32, hH⟩ := bindE hH
 obtain ⟨u33, hx34, hH⟩ := bindE hH
 refine AW.region ?_
 iterate 3 refine AO.pu T ?_
 refine AO.val rfl rfl (slice_lo_map_ok T rfl rfl rfl rfl rfl (hx32) (fun _ => rfl)) ?_
 refine AO.step rfl (app_rs_map T rfl 4 rfl rfl rfl rfl rfl (by decide) (by decide) rfl rfl rfl (fun _ => rfl) (needT (hx34)) rfl rfl) ?_
 refine AO.pu T ?_
 refine AO.nil ?_
 refine AW.le (Le.ct 0 0 (σ' := (⟨[(4, .R 4)], [(4, .row 1 (List.map encInt ((x25 ++ [n]) ++ x31)))], 48, []⟩ : St))) ?_
 refine AW.le (Le.freezeM 4 (g := encInt) rfl (fun y => .vs rfl)) ?_
 refine AW.ret ?_
 cases someE hH
 exact retQ.i [] rfl (.c (.c .s))

def spec_paWithout_l1 (gone : Int) : List Int → Nat → List Int → Option ((List Int))
  | [], k1, v12 =>
    some v12
  | y2 :: ys3, k1, v12 =>
    cond (y2 != gone)
      ((need (fitsB 8 (v12.length + ([y2]).length))).bind fun u14 =>
      spec_paWithout_l1 gone ys3 (k1 + 1) (v12 ++ [y2]))
      (spec_paWithout_l1 gone ys3 (k1 + 1) v12)
def spec_paWithout_p (l : List Int) (gone : Int) : Option (List Int) :=
  spec_paWithout_l1 gone l 0 []
theorem spec_paWithout_ok (l : List Int) (gone : Int) (r : (List Int)) (hH : spec_paWithout_p l gone = some r) : SpecR Tryz.prog 168 [.s (List.map encInt l), gone] (.w 1 (r.map encInt)) := by
 refine fn_ok T Tryz.func168 rfl (by decide) rfl ?_
 refine AW.seq (AW.region ?_)
 refine AO.pu T ?_
 refine AO.nil (AW.seq ?_)
 refine AW.region ?_
 refine AO.pu T ?_
 refine AO.nil ?_
 iterate 2 refine AW.seq ?_
 refine AW.region ?_
 refine AO.pu T ?_
 refine AO.val rfl rfl (len_map_ok T rfl rfl rfl) ?_
 refine AO.pu T ?_
 refine AO.nil ?_
 refine AW.block ?_
 refine AW.loopS (fun s : Nat × (List Int) => (⟨[(1, gone), (5, .R 4), (8, .s (List.map encInt l)), (9, (l.length : Int)), (10, (s.1 : Int))], [(4, .row 1 (List.map encInt s.2))], 23, []⟩ : St)) (fun s => s.1 ≤ l.length ∧ spec_paWithout_l1 gone (l.drop s.1) s.1 s.2 = some r) (fun s => l.length - s.1) (0, []) ⟨Nat.zero_le _, hH⟩ ?_ ?_
 refine Le.trans (Le.void 5 4 1 rfl rfl) ?_
 exact Le.ct 0 0
 rintro ⟨k1, v12⟩ ⟨hk, hH⟩
 replace hH : spec_paWithout_l1 gone (l.drop k1) k1 v12 = some r := hH
 try dsimp only
 refine AW.boundM (t := 8) (l := l) rfl (fun hb5 => ?_)
 rcases hd4 : l.drop k1 with _ | ⟨y2, ys3⟩
 rw [hd4, spec_paWithout_l1] at hH
 have hlt6 := drop_ge hd4
 refine AW.seq (AW.region ?_)
 refine AO.pu T ?_
 refine AO.nil (AW.seq ?_)
 refine AW.condF' (b := decide ((k1 : Int) < (l.length : Int))) rfl (rngF hlt6) ?_
 refine AW.exit ?_
 refine AW.seq (AW.region ?_)
 iterate 2 refine AO.pu T ?_
 refine AO.nil (AW.ret ?_)
 cases someE hH
 exact retQ.i [4] rfl (.c (.c (.rowR rfl)))
 rw [hd4, spec_paWithout_l1] at hH
 have hlt6 := drop_lt hd4
 refine AW.seq (AW.region ?_)
 refine AO.pu T ?_
 refine AO.nil (AW.seq ?_)
 refine AW.condT' (b := decide ((k1 : Int) < (l.length : Int))) rfl (rngT hlt6) ?_
 refine AW.skip ?_
 refine AW.seq ?_
 refine AW.block ?_
 refine AW.seq (AW.region ?_)
 refine AO.val rfl rfl (ix_map_ok T rfl rfl rfl rfl rfl (getI_drop hd4) rfl) ?_
 iterate 2 refine AO.pu T ?_
 refine AO.nil (AW.seq ?_)
 refine AW.region ?_
 iterate 3 refine AO.pu T ?_
 refine AO.nil ?_
 refine AW.cond (b := (y2 != gone)) rfl (fun hc => ?_) (fun hc => ?_)
 replace hH := condT hc hH
 obtain ⟨u14, hx15, hH⟩ := bindE hH
 refine AW.region ?_
 iterate 2 refine AO.pu T ?_
 refine AO.step rfl (mk_map_ok T rfl 5 rfl rfl rfl rfl rfl (f := encInt) (l := [y2]) rfl rfl (fun _ => rfl) rfl rfl rfl rfl rfl) ?_
 refine AO.step rfl (app_rv_map T rfl 6 rfl rfl rfl rfl rfl (by decide) rfl rfl rfl rfl (fun _ => rfl) (needT (hx15)) rfl rfl) ?_
 refine AO.pu T ?_
 refine AO.nil ?_
 refine AW.region ?_
 refine AO.val rfl rfl (ar_ok rfl rfl rfl rfl (inI_succ hlt6 hb5)) ?_
 refine AO.pu T ?_
 refine AO.nil ?_
 refine ⟨(k1 + 1, (v12 ++ [y2])), ⟨Nat.succ_le_of_lt hlt6, (by rw [drop_succ_of hd4]; exact hH)⟩, (by have := hlt6; dsimp only; omega), ?_⟩
 exact Le.ct 6 4
 replace hH := condF hc hH
 refine AW.skip ?_
 refine AW.region ?_
 refine AO.val rfl rfl (ar_ok rfl rfl rfl rfl (inI_succ hlt6 hb5)) ?_
 refine AO.pu T ?_
 refine AO.nil ?_
 refine ⟨(k1 + 1, v12), ⟨Nat.succ_le_of_lt hlt6, (by rw [drop_succ_of hd4]; exact hH)⟩, (by have := hlt6; dsimp only; omega), ?_⟩
 exact Le.ct 0 0

def spec_evEnd_p (e : Event) : Option Event :=
  (opt (decide ((e.order.length : Int) > 0)) default (getI e.order (w64 ((e.order.length : Int) - 1)))).bind fun x1 =>
  (opt (decide ((e.order.length : Int) > 0)) default (spec_evHas_p e x1)).bind fun x3 =>
  cond (decide ((e.order.length : Int) > 0) && x3)
    (some (Event.mk e.segments e.size e.key e.entrants e.gone (w64 (e.segment + 1)) [] e.results))
    (some e)
theorem spec_evEnd_ok (e : Event) (r : Event) (hH : spec_evEnd_p e = some r) : SpecR Tryz.prog 169 [.g (encEvent e)] (.g (encEvent r)) := by
 refine fn_ok T Tryz.func169 rfl (by decide) rfl ?_
 refine AW.seq (AW.region ?_)
 refine AO.step rfl (box_ok T rfl 1 rfl rfl rfl rfl) ?_
 refine AO.step rfl (alloc_ok T rfl 2 rfl rfl rfl rfl rfl) ?_
 refine AO.nil ?_
 iterate 2 refine AW.seq ?_
 obtain ⟨x1, hx2, hH⟩ := bindE hH
 obtain ⟨x3, hx4, hH⟩ := bindE hH
 refine AW.drawn 14 3 [] mix (by kernel_rfl) rfl ?_
 iterate 2 refine AD.pure T rfl rfl rfl ?_
 refine AD.val rfl rfl (len_map_ok T rfl rfl rfl) ?_
 iterate 2 refine AD.pure T rfl rfl rfl ?_
 refine AD.pureG T (d := .g [e.segments, e.size, e.key, .s (List.map encEntrant e.entrants), .s (List.map encInt e.gone), e.segment, .s (List.map encInt e.order), .s (List.map encResult e.results)]) [] rfl trivial rfl rfl ?_
 refine AD.pureG T [] rfl trivial rfl rfl ?_
 refine AD.pureG T [9] rfl ⟨fun h => h, trivial⟩ rfl rfl ?_
 refine AD.pureG T [] rfl trivial rfl rfl ?_
 refine AD.pureG T [11] rfl ⟨fun h => h, trivial⟩ rfl rfl ?_
 refine AD.guard [12] rfl ⟨fun h => h, trivial⟩ (fun hg => len_map_ok T rfl rfl rfl) rfl ?_
 refine AD.guard [13] rfl ⟨fun h => h, trivial⟩ (fun hg => arw_ok rfl rfl rfl rfl) rfl ?_
 refine AD.guard [10, 14] rfl ⟨fun h => h, fun h => h, trivial⟩ (fun hg => ix_map_ok T rfl rfl rfl rfl rfl (optT hx2 hg) rfl) rfl ?_
 refine AD.pureG T [15] rfl ⟨fun h => h, trivial⟩ rfl rfl ?_
 refine AD.nil ?_
 refine AO.guard [8, 16] rfl ⟨fun h => h, fun h => h, trivial⟩ (fun hg => callV_ok rfl rfl rfl rfl (spec_evHas_ok _ _ _ (optT hx4 hg)) rfl) rfl ?_
 refine AO.val rfl rfl (pick_and rfl rfl rfl rfl) ?_
 refine AO.nil ?_
 refine AW.cond (b := (decide ((e.order.length : Int) > 0) && x3)) rfl (fun hc => ?_) (fun hc => ?_)
 replace hH := condT hc hH
 refine AW.seq (AW.region ?_)
 iterate 2 refine AO.pu T ?_
 refine AO.val rfl rfl (arw_ok rfl rfl rfl rfl) ?_
 refine AO.pu T ?_
 refine AO.se T [e.segments, e.size, e.key, .s (List.map encEntrant e.entrants), .s (List.map encInt e.gone), w64 (e.segment + 1), .s (List.map encInt e.order), .s (List.map encResult e.results)] ?_
 refine AO.nil ?_
 refine AW.region ?_
 refine AO.pu T ?_
 refine AO.se T [e.segments, e.size, e.key, .s (List.map encEntrant e.entrants), .s (List.map encInt e.gone), w64 (e.segment + 1), .w 0 [], .s (List.map encResult e.results)] ?_
 refine AO.nil ?_
 refine AW.le (Le.ct 0 0 (σ' := (⟨[(1, .p 1 0), (2, .p 2 0)], [(1, .box [e.segments, e.size, e.key, .s (List.map encEntrant e.entrants), .s (List.map encInt e.gone), w64 (e.segment + 1), .w 0 [], .s (List.map encResult e.results)]), (2, .box [(0 : Int), (0 : Int), (0 : Int), .w 0 [], .w 0 [], (0 : Int), .w 0 [], .w 0 []])], 25, []⟩ : St))) ?_
 refine AW.seq (AW.region ?_)
 refine AO.pu T (d := .g [e.segments, e.size, e.key, .s (List.map encEntrant e.entrants), .s (List.map encInt e.gone), w64 (e.segment + 1), .w 0 [], .s (List.map encResult e.results)]) ?_
 refine AO.se T [e.segments, e.size, e.key, .s (List.map encEntrant e.entrants), .s (List.map encInt e.gone), w64 (e.segment + 1), .w 0 [], .s (List.map encResult e.results)] ?_
 refine AO.nil (AW.ret ?_)
 cases someE hH
 exact retQ.i [] rfl (.c (.g (expLC_cons .v (expLC_cons .v (expLC_cons .v (expLC_cons .s (expLC_cons .s (expLC_cons .v (expLC_cons .nilS (expLC_cons .s (expLC_nil)))))))))))
 replace hH := condF hc hH
 refine AW.skip ?_
 refine AW.seq (AW.region ?_)
 refine AO.pu T (d := .g [e.segments, e.size, e.key, .s (List.map encEntrant e.entrants), .s (List.map encInt e.gone), e.segment, .s (List.map encInt e.order), .s (List.map encResult e.results)]) ?_
 refine AO.se T [e.segments, e.size, e.key, .s (List.map encEntrant e.entrants), .s (List.map encInt e.gone), e.segment, .s (List.map encInt e.order), .s (List.map encResult e.results)] ?_
 refine AO.nil (AW.ret ?_)
 cases someE hH
 exact retQ.i [] rfl (.c (.g (expLC_cons .v (expLC_cons .v (expLC_cons .v (expLC_cons .s (expLC_cons .s (expLC_cons .v (expLC_cons .s (expLC_cons .s (expLC_nil)))))))))))

def spec_evLeave_l1 (e : Event) (skater : Int) (fuel : Nat) : List Entrant → Nat → Bool → Option ((Event × Bool))
  | [], k3, v10 =>
    cond (!v10)
      (some ((Event.mk 0 0 0 [] [] 0 [] []), false))
      ((spec_evOwn_p e).bind fun x12 =>
      (spec_l1Put_p fuel x12.gone skater).bind fun x14 =>
      (spec_evHas_p e skater).bind fun x16 =>
      cond (!x16)
        ((spec_paWithout_p x12.order skater).bind fun x18 =>
        (spec_evEnd_p (Event.mk x12.segments x12.size x12.key x12.entrants x14 x12.segment x18 x12.results)).bind fun x20 =>
        some (x20, true))
        ((spec_evEnd_p (Event.mk x12.segments x12.size x12.key x12.entrants x14 x12.segment x12.order x12.results)).bind fun x22 =>
        some (x22, true)))
  | y4 :: ys5, k3, v10 =>
    spec_evLeave_l1 e skater fuel ys5 (k3 + 1) (v10 || (y4.skater == skater))
def spec_evLeave_p (fuel : Nat) (e : Event) (skater : Int) : Option (Event × Bool) :=
  (spec_evThere_p e).bind fun x1 =>
  spec_evLeave_l1 e skater fuel x1 0 false
theorem spec_evLeave_ok (fuel : Nat) (e : Event) (skater : Int) (r : (Event × Bool)) (hH : spec_evLeave_p fuel e skater = some r) : SpecR Tryz.prog 129 [.g (encEvent e), skater] (.t [.g (encEvent r.1), .v (.bool r.2)]) := by
 refine fn_ok T Tryz.func129 rfl (by decide) rfl ?_
 refine AW.seq (AW.region ?_)
 refine AO.step rfl (box_ok T rfl 1 rfl rfl rfl rfl) ?_
 refine AO.step rfl (alloc_ok T rfl 2 rfl rfl rfl rfl rfl) ?_
 refine AO.pu T ?_
 refine AO.nil (AW.seq ?_)
 refine AW.region ?_
 refine AO.pu T ?_
 refine AO.nil ?_
 iterate 2 refine AW.seq ?_
 obtain ⟨x1, hx2, hH⟩ := bindE hH
 refine AW.region ?_
 refine AO.pu T (d := .g [e.segments, e.size, e.key, .s (List.map encEntrant e.entrants), .s (List.map encInt e.gone), e.segment, .s (List.map encInt e.order), .s (List.map encResult e.results)]) ?_
 refine AO.step rfl (call_ok rfl 3 rfl rfl rfl (spec_evThere_ok _ _ (hx2)) rfl rfl rfl) ?_
 refine AO.val rfl rfl (len_row_ok T rfl rfl rfl rfl) ?_
 refine AO.pu T ?_
 refine AO.nil ?_
 refine AW.block ?_
 refine AW.loopS (fun s : Nat × Bool => (⟨[(1, skater), (2, .p 1 0), (4, .p 2 0), (6, .v (.bool s.2)), (11, .R 3), (12, (x1.length : Int)), (13, (s.1 : Int))], [(1, .box [e.segments, e.size, e.key, .s (List.map encEntrant e.entrants), .s (List.map encInt e.gone), e.segment, .s (List.map encInt e.order), .s (List.map encResult e.results)]), (2, .box [(0 : Int), (0 : Int), (0 : Int), .w 0 [], .w 0 [], (0 : Int), .w 0 [], .w 0 []]), (3, .row 2 (List.map encEntrant x1))], 46, []⟩ : St)) (fun s => s.1 ≤ x1.length ∧ spec_evLeave_l1 e skater fuel (x1.drop s.1) s.1 s.2 = some r) (fun s => x1.length - s.1) (0, false) ⟨Nat.zero_le _, hH⟩ ?_ ?_
 exact Le.ct 0 0
 rintro ⟨k3, v10⟩ ⟨hk, hH⟩
 replace hH : spec_evLeave_l1 e skater fuel (x1.drop k3) k3 v10 = some r := hH
 try dsimp only
 refine AW.boundR (id := 3) (l := x1) rfl (fun hb7 => ?_)
 rcases hd6 : x1.drop k3 with _ | ⟨y4, ys5⟩
 rw [hd6, spec_evLeave_l1] at hH
 have hlt8 := drop_ge hd6
 refine AW.seq (AW.region ?_)
 refine AO.pu T ?_
 refine AO.nil (AW.seq ?_)
 refine AW.condF' (b := decide ((k3 : Int) < (x1.length : Int))) rfl (rngF hlt8) ?_
 refine AW.exit ?_
 iterate 2 refine AW.seq ?_
 refine AW.region ?_
 iterate 2 refine AO.pu T ?_
 refine AO.nil ?_
 refine AW.cond (b := (!v10)) rfl (fun hc => ?_) (fun hc => ?_)
 replace hH := condT hc hH
 refine AW.seq (AW.region ?_)
 refine AO.pu T (d := .g [(0 : Int), (0 : Int), (0 : Int), .w 0 [], .w 0 [], (0 : Int), .w 0 [], .w 0 []]) ?_
 refine AO.se T [(0 : Int), (0 : Int), (0 : Int), .w 0 [], .w 0 [], (0 : Int), .w 0 [], .w 0 []] ?_
 refine AO.pu T ?_
 refine AO.nil (AW.ret ?_)
 cases someE hH
 exact retQ.i [] rfl (.t (expLG_cons (.g (expLC_cons .v (expLC_cons .v (expLC_cons .v (expLC_cons .nilS (expLC_cons .nilS (expLC_cons .v (expLC_cons .nilS (expLC_cons .nilS (expLC_nil)))))))))) (expLG_cons (.c .v) (expLG_nil))))
 replace hH := condF hc hH
 refine AW.skip ?_
 refine AW.seq ?_
 obtain ⟨x12, hx13, hH⟩ := bindE hH
 refine AW.region ?_
 refine AO.pu T (d := .g [e.segments, e.size, e.key, .s (List.map encEntrant e.entrants), .s (List.map encInt e.gone), e.segment, .s (List.map encInt e.order), .s (List.map encResult e.results)]) ?_
 refine AO.step rfl (call_ok rfl 6 rfl rfl rfl (spec_evOwn_ok _ _ (hx13)) rfl rfl rfl) ?_
 refine AO.step rfl (alloc_ok T rfl 10 rfl rfl rfl rfl rfl) ?_
 refine AO.se T [x12.segments, x12.size, x12.key, .R 6, .R 7, x12.segment, .R 8, .R 9] ?_
 refine AO.nil (AW.seq ?_)
 obtain ⟨x14, hx15, hH⟩ := bindE hH
 refine AW.le (Le.freezeM 7 (g := encInt) rfl (fun y => .vs rfl)) ?_
 refine AW.region ?_
 iterate 3 refine AO.pu T ?_
 refine AO.val rfl rfl (callV_ok rfl rfl rfl rfl (spec_l1Put_ok fuel _ _ _ (hx15)) rfl) ?_
 refine AO.pu T ?_
 refine AO.se T [x12.segments, x12.size, x12.key, .R 6, .s (List.map encInt x14), x12.segment, .R 8, .R 9] ?_
 refine AO.nil ?_
 iterate 2 refine AW.seq ?_
 obtain ⟨x16, hx17, hH⟩ := bindE hH
 refine AW.region ?_
 refine AO.pu T (d := .g [e.segments, e.size, e.key, .s (List.map encEntrant e.entrants), .s (List.map encInt e.gone), e.segment, .s (List.map encInt e.order), .s (List.map encResult e.results)]) ?_
 refine AO.pu T ?_
 refine AO.val rfl rfl (callV_ok rfl rfl rfl rfl (spec_evHas_ok _ _ _ (hx17)) rfl) ?_
 refine AO.pu T ?_
 refine AO.nil ?_
 refine AW.cond (b := (!x16)) rfl (fun hc => ?_) (fun hc => ?_)
 replace hH := condT hc hH
 obtain ⟨x18, hx19, hH⟩ := bindE hH
 refine AW.region ?_
 iterate 3 refine AO.pu T ?_
 refine AO.step rfl (callL_ok rfl 11 rfl rfl (es := [.s (List.map encInt x12.order), skater]) (by exact ⟨(.rowR rfl (.map fun y => .vs rfl)), .free rfl, trivial⟩) (spec_paWithout_ok _ _ _ (hx19)) (zfree_map (fun y => (.cons (zfree_v _) .nil))) rfl rfl rfl) ?_
 refine AO.pu T ?_
 refine AO.se T [x12.segments, x12.size, x12.key, .R 6, .s (List.map encInt x14), x12.segment, .R 11, .R 9] ?_
 refine AO.nil (AW.seq ?_)
 obtain ⟨x20, hx21, hH⟩ := bindE hH
 refine AW.le (Le.freezeM 6 (g := encEntrant) rfl (fun y => .vs rfl)) ?_
 refine AW.le (Le.freezeM 9 (g := encResult) rfl (fun y => frzResult y)) ?_
 refine AW.le (Le.freezeM 11 (g := encInt) rfl (fun y => .vs rfl)) ?_
 refine AW.region ?_
 refine AO.pu T (d := .g [x12.segments, x12.size, x12.key, .s (List.map encEntrant x12.entrants), .s (List.map encInt x14), x12.segment, .s (List.map encInt x18), .s (List.map encResult x12.results)]) ?_
 refine AO.val rfl rfl (callV_ok rfl rfl rfl rfl (spec_evEnd_ok _ _ (hx21)) rfl) ?_
 refine AO.se T [x20.segments, x20.size, x20.key, .s (List.map encEntrant x20.entrants), .s (List.map encInt x20.gone), x20.segment, .s (List.map encInt x20.order), .s (List.map encResult x20.results)] ?_
 refine AO.pu T ?_
 refine AO.nil ?_
 refine AW.le (Le.ct 0 0 (σ' := (⟨[(4, .p 2 0), (5, .v (.bool true))], [(2, .box [x20.segments, x20.size, x20.key, .s (List.map encEntrant x20.entrants), .s (List.map encInt x20.gone), x20.segment, .s (List.map encInt x20.order), .s (List.map encResult x20.results)])], 46, []⟩ : St))) ?_
 refine AW.ret ?_
 cases someE hH
 exact retQ.i [] rfl (.t (expLG_cons (.g (expLC_cons .v (expLC_cons .v (expLC_cons .v (expLC_cons .s (expLC_cons .s (expLC_cons .v (expLC_cons .s (expLC_cons .s (expLC_nil)))))))))) (expLG_cons (.c .v) (expLG_nil))))
 replace hH := condF hc hH
 refine AW.skip ?_
 refine AW.seq ?_
 obtain ⟨x22, hx23, hH⟩ := bindE hH
 refine AW.le (Le.freezeM 6 (g := encEntrant) rfl (fun y => .vs rfl)) ?_
 refine AW.le (Le.freezeM 8 (g := encInt) rfl (fun y => .vs rfl)) ?_
 refine AW.le (Le.freezeM 9 (g := encResult) rfl (fun y => frzResult y)) ?_
 refine AW.region ?_
 refine AO.pu T (d := .g [x12.segments, x12.size, x12.key, .s (List.map encEntrant x12.entrants), .s (List.map encInt x14), x12.segment, .s (List.map encInt x12.order), .s (List.map encResult x12.results)]) ?_
 refine AO.val rfl rfl (callV_ok rfl rfl rfl rfl (spec_evEnd_ok _ _ (hx23)) rfl) ?_
 refine AO.se T [x22.segments, x22.size, x22.key, .s (List.map encEntrant x22.entrants), .s (List.map encInt x22.gone), x22.segment, .s (List.map encInt x22.order), .s (List.map encResult x22.results)] ?_
 refine AO.pu T ?_
 refine AO.nil (AW.ret ?_)
 cases someE hH
 exact retQ.i [] rfl (.t (expLG_cons (.g (expLC_cons .v (expLC_cons .v (expLC_cons .v (expLC_cons .s (expLC_cons .s (expLC_cons .v (expLC_cons .s (expLC_cons .s (expLC_nil)))))))))) (expLG_cons (.c .v) (expLG_nil))))
 rw [hd6, spec_evLeave_l1] at hH
 have hlt8 := drop_lt hd6
 refine AW.seq (AW.region ?_)
 refine AO.pu T ?_
 refine AO.nil (AW.seq ?_)
 refine AW.condT' (b := decide ((k3 : Int) < (x1.length : Int))) rfl (rngT hlt8) ?_
 refine AW.skip ?_
 refine AW.seq ?_
 refine AW.block ?_
 refine AW.seq (AW.region ?_)
 refine AO.val rfl rfl (ix_row_ok T rfl rfl rfl rfl rfl rfl (getI_drop hd6)) ?_
 refine AO.val rfl rfl (load_row_ok T rfl rfl rfl rfl (getI_get (getI_drop hd6)) rfl rfl rfl) ?_
 refine AO.step rfl (alloc_ok T rfl 12 rfl rfl rfl rfl rfl) ?_
 refine AO.se T [y4.skater, y4.rank] ?_
 refine AO.nil ?_
 refine AW.region ?_
 iterate 2 refine AO.pu T ?_
 refine AO.pureG T [] rfl trivial rfl rfl ?_
 refine AO.pureG T [19] rfl ⟨fun h => h, trivial⟩ rfl rfl ?_
 refine AO.pureG T [] rfl trivial rfl rfl ?_
 refine AO.pureG T [20, 21] rfl ⟨fun h => h, fun h => h, trivial⟩ rfl rfl ?_
 refine AO.val rfl rfl (pick_or rfl rfl rfl rfl) ?_
 refine AO.pu T ?_
 refine AO.nil ?_
 refine AW.region ?_
 refine AO.val rfl rfl (ar_ok rfl rfl rfl rfl (inI_succ hlt8 hb7)) ?_
 refine AO.pu T ?_
 refine AO.nil ?_
 refine ⟨(k3 + 1, (v10 || (y4.skater == skater))), ⟨Nat.succ_le_of_lt hlt8, (by rw [drop_succ_of hd6]; exact hH)⟩, (by have := hlt8; dsimp only; omega), ?_⟩
 exact Le.ct 0 0

def spec_l1All_l1 (lo : Int) (hi : Int) : List Int → Nat → Option Bool
  | [], k1 =>
    some true
  | y2 :: ys3, k1 =>
    (spec_l1In_p y2 lo hi).bind fun x12 =>
    cond (!x12)
      (some false)
      (spec_l1All_l1 lo hi ys3 (k1 + 1))
def spec_l1All_p (l : List Int) (lo : Int) (hi : Int) : Option Bool :=
  spec_l1All_l1 lo hi l 0
theorem spec_l1All_ok (l : List Int) (lo : Int) (hi : Int) (r : Bool) (hH : spec_l1All_p l lo hi = some r) : SpecR Tryz.prog 160 [.s (List.map encInt l), lo, hi] (.v (.bool r)) := by
 refine fn_ok T Tryz.func160 rfl (by decide) rfl ?_
 refine AW.seq (AW.region ?_)
 refine AO.pu T ?_
 refine AO.nil ?_
 iterate 2 refine AW.seq ?_
 refine AW.region ?_
 refine AO.pu T ?_
 refine AO.val rfl rfl (len_map_ok T rfl rfl rfl) ?_
 refine AO.pu T ?_
 refine AO.nil ?_
 refine AW.block ?_
 refine AW.loopS (fun s : Nat => (⟨[(1, lo), (2, hi), (9, .s (List.map encInt l)), (10, (l.length : Int)), (11, (s : Int))], [], 21, []⟩ : St)) (fun s => s ≤ l.length ∧ spec_l1All_l1 lo hi (l.drop s) s = some r) (fun s => l.length - s) 0 ⟨Nat.zero_le _, hH⟩ ?_ ?_
 exact Le.ct 0 0
 rintro k1 ⟨hk, hH⟩
 replace hH : spec_l1All_l1 lo hi (l.drop k1) k1 = some r := hH
 try dsimp only
 refine AW.boundM (t := 9) (l := l) rfl (fun hb5 => ?_)
 rcases hd4 : l.drop k1 with _ | ⟨y2, ys3⟩
 rw [hd4, spec_l1All_l1] at hH
 have hlt6 := drop_ge hd4
 refine AW.seq (AW.region ?_)
 refine AO.pu T ?_
 refine AO.nil (AW.seq ?_)
 refine AW.condF' (b := decide ((k1 : Int) < (l.length : Int))) rfl (rngF hlt6) ?_
 refine AW.exit ?_
 refine AW.seq (AW.region ?_)
 refine AO.pu T ?_
 refine AO.nil (AW.ret ?_)
 cases someE hH
 exact retQ.i [] rfl (.c (.c .v))
 rw [hd4, spec_l1All_l1] at hH
 have hlt6 := drop_lt hd4
 refine AW.seq (AW.region ?_)
 refine AO.pu T ?_
 refine AO.nil (AW.seq ?_)
 refine AW.condT' (b := decide ((k1 : Int) < (l.length : Int))) rfl (rngT hlt6) ?_
 refine AW.skip ?_
 refine AW.seq ?_
 refine AW.block ?_
 refine AW.seq (AW.region ?_)
 refine AO.val rfl rfl (ix_map_ok T rfl rfl rfl rfl rfl (getI_drop hd4) rfl) ?_
 iterate 2 refine AO.pu T ?_
 refine AO.nil (AW.seq ?_)
 obtain ⟨x12, hx13, hH⟩ := bindE hH
 refine AW.region ?_
 iterate 3 refine AO.pu T ?_
 refine AO.val rfl rfl (callV_ok rfl rfl rfl rfl (spec_l1In_ok _ _ _ _ (hx13)) rfl) ?_
 refine AO.pu T ?_
 refine AO.nil ?_
 refine AW.cond (b := (!x12)) rfl (fun hc => ?_) (fun hc => ?_)
 replace hH := condT hc hH
 refine AW.seq (AW.region ?_)
 refine AO.pu T ?_
 refine AO.nil (AW.ret ?_)
 cases someE hH
 exact retQ.i [] rfl (.c (.c .v))
 replace hH := condF hc hH
 refine AW.skip ?_
 refine AW.region ?_
 refine AO.val rfl rfl (ar_ok rfl rfl rfl rfl (inI_succ hlt6 hb5)) ?_
 refine AO.pu T ?_
 refine AO.nil ?_
 refine ⟨k1 + 1, ⟨Nat.succ_le_of_lt hlt6, (by rw [drop_succ_of hd4]; exact hH)⟩, (by have := hlt6; dsimp only; omega), ?_⟩
 exact Le.ct 0 0

def spec_dwKeys_p (keys : List Int) (most : Int) : Option Bool :=
  (opt (decide ((keys.length : Int) ≤ most)) default (spec_l1All_p keys 0 1000000000)).bind fun x1 =>
  some (decide ((keys.length : Int) ≤ most) && x1)
theorem spec_dwKeys_ok (keys : List Int) (most : Int) (r : Bool) (hH : spec_dwKeys_p keys most = some r) : SpecR Tryz.prog 157 [.s (List.map encInt keys), most] (.v (.bool r)) := by
 refine fn_ok T Tryz.func157 rfl (by decide) rfl ?_
 refine AW.seq (AW.region ?_)
 refine AO.pu T ?_
 refine AO.nil (AW.seq ?_)
 obtain ⟨x1, hx2, hH⟩ := bindE hH
 refine AW.region ?_
 refine AO.pu T ?_
 refine AO.val rfl rfl (len_map_ok T rfl rfl rfl) ?_
 iterate 3 refine AO.pu T ?_
 refine AO.pureG T [] rfl trivial rfl rfl ?_
 refine AO.guard [10] rfl ⟨fun h => h, trivial⟩ (fun hg => callV_ok rfl rfl rfl rfl (spec_l1All_ok _ _ _ _ (optT hx2 hg)) rfl) rfl ?_
 refine AO.val rfl rfl (pick_and rfl rfl rfl rfl) ?_
 refine AO.pu T ?_
 refine AO.nil (AW.ret ?_)
 cases someE hH
 exact retQ.i [] rfl (.c (.c .v))

def spec_soBehind_p (a : Entrant) (b : Entrant) : Option Bool :=
  cond ((a.rank == 0) && (b.rank == 0))
    (some (decide (a.skater > b.skater)))
    (cond ((a.rank == 0) || (b.rank == 0))
      (some (a.rank == 0))
      (some (decide (a.rank > b.rank))))
theorem spec_soBehind_ok (a : Entrant) (b : Entrant) (r : Bool) (hH : spec_soBehind_p a b = some r) : SpecR Tryz.prog 206 [.g (encEntrant a), .g (encEntrant b)] (.v (.bool r)) := by
 refine fn_ok T Tryz.func206 rfl (by decide) rfl ?_
 refine AW.seq (AW.region ?_)
 refine AO.step rfl (box_ok T rfl 1 rfl rfl rfl rfl) ?_
 refine AO.step rfl (box_ok T rfl 2 rfl rfl rfl rfl) ?_
 refine AO.pu T ?_
 refine AO.nil (AW.seq ?_)
 refine AW.block ?_
 refine AW.seq (AW.region ?_)
 iterate 4 refine AO.pu T ?_
 refine AO.pureG T [] rfl trivial rfl rfl ?_
 refine AO.pureG T [10] rfl ⟨fun h => h, trivial⟩ rfl rfl ?_
 refine AO.pureG T [11] rfl ⟨fun h => h, trivial⟩ rfl rfl ?_
 refine AO.val rfl rfl (pick_and rfl rfl rfl rfl) ?_
 refine AO.pu T ?_
 refine AO.nil ?_
 refine AW.cond (b := ((a.rank == 0) && (b.rank == 0))) rfl (fun hc => ?_) (fun hc => ?_)
 replace hH := condT hc hH
 refine AW.seq (AW.region ?_)
 iterate 6 refine AO.pu T ?_
 refine AO.nil (AW.ret ?_)
 cases someE hH
 exact retQ.i [] rfl (.c (.c .v))
 replace hH := condF hc hH
 refine AW.seq (AW.region ?_)
 iterate 4 refine AO.pu T ?_
 refine AO.pureG T [] rfl trivial rfl rfl ?_
 refine AO.pureG T [24] rfl ⟨fun h => h, trivial⟩ rfl rfl ?_
 refine AO.pureG T [25] rfl ⟨fun h => h, trivial⟩ rfl rfl ?_
 refine AO.val rfl rfl (pick_or rfl rfl rfl rfl) ?_
 refine AO.pu T ?_
 refine AO.nil ?_
 refine AW.cond (b := ((a.rank == 0) || (b.rank == 0))) rfl (fun hc => ?_) (fun hc => ?_)
 replace hH := condT hc hH
 refine AW.seq (AW.region ?_)
 iterate 4 refine AO.pu T ?_
 refine AO.nil ?_
 refine AW.le (Le.ct 0 0 (σ' := (⟨[(4, .v (.bool (a.rank == 0)))], [], 36, []⟩ : St))) ?_
 refine AW.ret ?_
 cases someE hH
 exact retQ.i [] rfl (.c (.c .v))
 replace hH := condF hc hH
 refine AW.skip ?_
 refine AW.seq (AW.region ?_)
 iterate 6 refine AO.pu T ?_
 refine AO.nil ?_
 refine AW.le (Le.ct 0 0 (σ' := (⟨[(4, .v (.bool (decide (a.rank > b.rank))))], [], 36, []⟩ : St))) ?_
 refine AW.ret ?_
 cases someE hH
 exact retQ.i [] rfl (.c (.c .v))

def spec_soSorted_l2 (y2 : Entrant) (v153 : List Entrant) : Nat → Int → Option Int
  | 0, _ => none
  | k219 + 1, v229 =>
    (opt (decide (v229 > 0)) default (getI v153 (w64 (v229 - 1)))).bind fun x231 =>
    (opt (decide (v229 > 0)) default (spec_soBehind_p y2 x231)).bind fun x233 =>
    cond (decide (v229 > 0) && x233)
      (spec_soSorted_l2 y2 v153 k219 (w64 (v229 - 1)))
      (some v229)
def spec_soSorted_l1 (fuel : Nat) : List Entrant → Nat → List Entrant → Option ((List Entrant))
  | [], k1, v153 =>
    some v153
  | y2 :: ys3, k1, v153 =>
    ((spec_soSorted_l2 y2 v153 fuel (v153.length : Int)).bind fun v216 =>
    (sliceHi v153 v216).bind fun x235 =>
    (need (fitsB 16 x235.length)).bind fun u237 =>
    (need (fitsB 16 (x235.length + ([y2]).length))).bind fun u239 =>
    (sliceLo v153 v216).bind fun x241 =>
    (need (fitsB 16 (((x235 ++ [y2])).length + x241.length))).bind fun u243 =>
    some ((x235 ++ [y2]) ++ x241)).bind fun v198 =>
    spec_soSorted_l1 fuel ys3 (k1 + 1) v198
def spec_soSorted_p (fuel : Nat) (l : List Entrant) : Option (List Entrant) :=
  spec_soSorted_l1 fuel l 0 []
theorem spec_soSorted_ok (fuel : Nat) (l : List Entrant) (r : (List Entrant)) (hH : spec_soSorted_p fuel l = some r) : SpecR Tryz.prog 187 [.s (List.map encEntrant l)] (.w 2 (r.map encEntrant)) := by
 refine fn_ok T Tryz.func187 rfl (by decide) rfl ?_
 refine AW.seq (AW.region ?_)
 refine AO.pu T ?_
 refine AO.nil (AW.seq ?_)
 refine AW.region ?_
 refine AO.pu T ?_
 refine AO.nil ?_
 iterate 2 refine AW.seq ?_
 refine AW.region ?_
 refine AO.pu T ?_
 refine AO.val rfl rfl (len_map_ok T rfl rfl rfl) ?_
 refine AO.pu T ?_
 refine AO.nil ?_
 refine AW.block ?_
 refine AW.loopS (fun s : Nat × (List Entrant) => (⟨[(3, .R 15), (7, .s (List.map encEntrant l)), (8, (l.length : Int)), (9, (s.1 : Int))], [(15, .row 2 (List.map encEntrant s.2))], 42, []⟩ : St)) (fun s => s.1 ≤ l.length ∧ spec_soSorted_l1 fuel (l.drop s.1) s.1 s.2 = some r) (fun s => l.length - s.1) (0, []) ⟨Nat.zero_le _, hH⟩ ?_ ?_
 refine Le.trans (Le.void 3 15 2 rfl rfl) ?_
 exact Le.ct 0 0
 rintro ⟨k1, v153⟩ ⟨hk, hH⟩
 replace hH : spec_soSorted_l1 fuel (l.drop k1) k1 v153 = some r := hH
 try dsimp only
 refine AW.boundM (t := 7) (l := l) rfl (fun hb5 => ?_)
 rcases hd4 : l.drop k1 with _ | ⟨y2, ys3⟩
 rw [hd4, spec_soSorted_l1] at hH
 have hlt6 := drop_ge hd4
 refine AW.seq (AW.region ?_)
 refine AO.pu T ?_
 refine AO.nil (AW.seq ?_)
 refine AW.condF' (b := decide ((k1 : Int) < (l.length : Int))) rfl (rngF hlt6) ?_
 refine AW.exit ?_
 refine AW.seq (AW.region ?_)
 iterate 2 refine AO.pu T ?_
 refine AO.nil (AW.ret ?_)
 cases someE hH
 exact retQ.i [15] rfl (.c (.c (.rowR rfl)))
 rw [hd4, spec_soSorted_l1] at hH
 have hlt6 := drop_lt hd4
 refine AW.seq (AW.region ?_)
 refine AO.pu T ?_
 refine AO.nil (AW.seq ?_)
 refine AW.condT' (b := decide ((k1 : Int) < (l.length : Int))) rfl (rngT hlt6) ?_
 refine AW.skip ?_
 obtain ⟨o199, hH, hK200⟩ := bindE hH
 refine AW.seqJ (fun s : List Entrant => (⟨[(3, .R 25), (7, .s (List.map encEntrant l)), (8, (l.length : Int)), (9, (k1 : Int))], [(25, .row 2 (List.map encEntrant s))], 42, []⟩ : St)) (fun s => s = o199) ?_ ?_
 refine AW.block ?_
 refine AW.seq (AW.region ?_)
 refine AO.val rfl rfl (ix_map_ok T rfl rfl rfl rfl rfl (getI_drop hd4) rfl) ?_
 refine AO.pu T (d := .g [y2.skater, y2.rank]) ?_
 refine AO.step rfl (alloc_ok T rfl 26 rfl rfl rfl rfl rfl) ?_
 refine AO.se T [y2.skater, y2.rank] ?_
 refine AO.nil (AW.seq ?_)
 refine AW.region ?_
 refine AO.pu T ?_
 refine AO.val rfl rfl (len_row_ok T rfl rfl rfl rfl) ?_
 refine AO.pu T ?_
 refine AO.nil ?_
 obtain ⟨o217, hH, hK218⟩ := bindE hH
 refine AW.seqJ (fun s : Int => (⟨[(3, .R 15), (5, .p 26 0), (6, s), (7, .s (List.map encEntrant l)), (8, (l.length : Int)), (9, (k1 : Int))], [(15, .row 2 (List.map encEntrant v153)), (26, .box [y2.skater, y2.rank])], 42, []⟩ : St)) (fun s => s = o217) ?_ ?_
 refine AW.block ?_
 refine AW.loopS (fun s : Nat × Int => (⟨[(3, .R 15), (5, .p 26 0), (6, s.2), (7, .s (List.map encEntrant l)), (8, (l.length : Int)), (9, (k1 : Int))], [(15, .row 2 (List.map encEntrant v153)), (26, .box [y2.skater, y2.rank])], 42, []⟩ : St)) (fun s => spec_soSorted_l2 y2 v153 s.1 s.2 = some o217) (fun s => s.1) (fuel, (v153.length : Int)) hH ?_ ?_
 exact Le.ct 0 0
 rintro ⟨k219, v229⟩ hH
 replace hH : spec_soSorted_l2 y2 v153 k219 v229 = some o217 := hH
 try dsimp only
 rcases k219 with _ | k219
 cases (show none = some _ from hH)
 rw [spec_soSorted_l2] at hH
 iterate 2 refine AW.seq ?_
 obtain ⟨x231, hx232, hH⟩ := bindE hH
 obtain ⟨x233, hx234, hH⟩ := bindE hH
 refine AW.drawn 9 27 [] mix (by kernel_rfl) rfl ?_
 iterate 3 refine AD.pure T rfl rfl rfl ?_
 refine AD.pureG T (d := .g [y2.skater, y2.rank]) [] rfl trivial rfl rfl ?_
 iterate 2 refine AD.pureG T [] rfl trivial rfl rfl ?_
 refine AD.guard [20] rfl ⟨fun h => h, trivial⟩ (fun hg => arw_ok rfl rfl rfl rfl) rfl ?_
 refine AD.guard [19, 21] rfl ⟨fun h => h, fun h => h, trivial⟩ (fun hg => ix_row_ok T rfl rfl rfl rfl rfl rfl (optT hx232 hg)) rfl ?_
 refine AD.guard [22] rfl ⟨fun h => h, trivial⟩ (fun hg => load_row_ok T rfl rfl rfl rfl (getI_get (optT hx232 hg)) rfl rfl rfl) rfl ?_
 refine AD.nil ?_
 refine AO.guard [18, 23] rfl ⟨fun h => h, fun h => h, trivial⟩ (fun hg => callV_ok rfl rfl rfl rfl (spec_soBehind_ok _ _ _ (optT hx234 hg)) rfl) rfl ?_
 refine AO.val rfl rfl (pick_and rfl rfl rfl rfl) ?_
 refine AO.nil ?_
 refine AW.cond (b := (decide (v229 > 0) && x233)) rfl (fun hc => ?_) (fun hc => ?_)
 replace hH := condT hc hH
 refine AW.skip ?_
 refine AW.block ?_
 refine AW.region ?_
 refine AO.pu T ?_
 refine AO.val rfl rfl (arw_ok rfl rfl rfl rfl) ?_
 refine AO.pu T ?_
 refine AO.nil ?_
 refine ⟨(k219, w64 (v229 - 1)), hH, Nat.lt_succ_self _, ?_⟩
 exact Le.ct 0 0
 replace hH := condF hc hH
 refine AW.exit ?_
 refine ⟨_, someE hH, ?_⟩
 exact Le.ct 0 0
 rintro v216 hs
 subst hs
 replace hH := hK218
 try dsimp only [flow, flowE] at hH
 try dsimp only
 obtain ⟨x235, hx236, hH⟩ := bindE hH
 obtain ⟨u237, hx238, hH⟩ := bindE hH
 obtain ⟨u239, hx240, hH⟩ := bindE hH
 obtain ⟨x241, hx242, hH⟩ := bindE hH
 obtain ⟨u243, hx244, hH⟩ := bindE hH
 refine AW.le (Le.freezeM 15 (g := encEntrant) rfl (fun y => .vs rfl)) ?_
 refine AW.drawn 11 27 [] mix (by kernel_rfl) rfl ?_
 refine AD.v (FStep.mk0 T rfl rfl rfl rfl rfl) ?_
 iterate 2 refine AD.pure T rfl rfl rfl ?_
 refine AD.val rfl rfl (slice_hi_map_ok T rfl rfl rfl rfl rfl (hx236) (fun _ => rfl)) ?_
 refine AD.q (FStep.app_ws T rfl rfl rfl rfl rfl rfl rfl (by decide) (by decide) rfl rfl (fun _ => rfl) (needT (hx238)) rfl) (by simp [namesIn]) (Nat.le_succ _) rfl ?_
 refine AD.pure T (d := .g [y2.skater, y2.rank]) rfl rfl rfl ?_
 refine AD.q (FStep.mk T (f := encEntrant) (l := [y2]) rfl rfl rfl rfl rfl rfl rfl rfl rfl (fun _ => rfl) rfl rfl rfl rfl) (by simp [namesIn]) (Nat.le_succ _) rfl ?_
 refine AD.k rfl rfl (FStep.app_rv T rfl rfl rfl rfl rfl rfl rfl (by decide) rfl rfl rfl rfl (fun _ => rfl) (needT (hx240)) rfl) rfl rfl rfl ?_
 iterate 2 refine AD.pure T rfl rfl rfl ?_
 refine AD.val rfl rfl (slice_lo_map_ok T rfl rfl rfl rfl rfl (hx242) (fun _ => rfl)) ?_
 refine AD.nil ?_
 refine AO.step rfl (app_rs_map T rfl 30 rfl rfl rfl rfl rfl (by decide) (by decide) rfl rfl rfl (fun _ => rfl) (needT (hx244)) rfl rfl) ?_
 refine AO.pu T ?_
 refine AO.nil ?_
 refine ⟨_, someE hH, ?_⟩
 exact Le.ct 30 25
 rintro v198 hs
 subst hs
 replace hH := hK200
 try dsimp only [flow, flowE] at hH
 try dsimp only
 refine AW.region ?_
 refine AO.val rfl rfl (ar_ok rfl rfl rfl rfl (inI_succ hlt6 hb5)) ?_
 refine AO.pu T ?_
 refine AO.nil ?_
 refine ⟨(k1 + 1, v198), ⟨Nat.succ_le_of_lt hlt6, (by rw [drop_succ_of hd4]; exact hH)⟩, (by have := hlt6; dsimp only; omega), ?_⟩
 exact Le.ct 25 15

def spec_dwSizes_l1 (n : Int) (groups : Int) : Nat → List Int → Int → Option ((List Int))
  | 0, _, _ => none
  | k1 + 1, v16, v17 =>
    cond (decide (v17 < groups))
      ((need (groups != 0)).bind fun u19 =>
      cond (decide (v17 < (n.tmod groups)))
        ((need (fitsB 8 (v16.length + ([w64 ((w64 (n.tdiv groups)) + 1)]).length))).bind fun u21 =>
        spec_dwSizes_l1 n groups k1 (v16 ++ [w64 ((w64 (n.tdiv groups)) + 1)]) (w64 (v17 + 1)))
        ((need (fitsB 8 (v16.length + ([w64 (n.tdiv groups)]).length))).bind fun u23 =>
        spec_dwSizes_l1 n groups k1 (v16 ++ [w64 (n.tdiv groups)]) (w64 (v17 + 1))))
      (some v16)
def spec_dwSizes_p (fuel : Nat) (n : Int) (groups : Int) : Option (List Int) :=
  spec_dwSizes_l1 n groups fuel [] 0
theorem spec_dwSizes_ok (fuel : Nat) (n : Int) (groups : Int) (r : (List Int)) (hH : spec_dwSizes_p fuel n groups = some r) : SpecR Tryz.prog 188 [n, groups] (.w 1 (r.map encInt)) := by
 refine fn_ok T Tryz.func188 rfl (by decide) rfl ?_
 refine AW.seq (AW.region ?_)
 refine AO.pu T ?_
 refine AO.nil (AW.seq ?_)
 refine AW.region ?_
 refine AO.pu T ?_
 refine AO.nil ?_
 iterate 2 refine AW.seq ?_
 refine AW.region ?_
 refine AO.pu T ?_
 refine AO.nil ?_
 refine AW.block ?_
 refine AW.loopS (fun s : Nat × (List Int) × Int => (⟨[(0, n), (1, groups), (5, .R 6), (6, s.2.2)], [(6, .row 1 (List.map encInt s.2.1))], 28, []⟩ : St)) (fun s => spec_dwSizes_l1 n groups s.1 s.2.1 s.2.2 = some r) (fun s => s.1) (fuel, [], 0) hH ?_ ?_
 refine Le.trans (Le.void 5 6 1 rfl rfl) ?_
 exact Le.ct 0 0
 rintro ⟨k1, v16, v17⟩ hH
 replace hH : spec_dwSizes_l1 n groups k1 v16 v17 = some r := hH
 try dsimp only
 rcases k1 with _ | k1
 cases (show none = some _ from hH)
 rw [spec_dwSizes_l1] at hH
 iterate 2 refine AW.seq ?_
 refine AW.region ?_
 iterate 3 refine AO.pu T ?_
 refine AO.nil ?_
 refine AW.cond (b := decide (v17 < groups)) rfl (fun hc => ?_) (fun hc => ?_)
 replace hH := condT hc hH
 refine AW.skip ?_
 refine AW.seq ?_
 refine AW.block ?_
 refine AW.seq ?_
 obtain ⟨u19, hx20, hH⟩ := bindE hH
 refine AW.region ?_
 iterate 2 refine AO.pu T ?_
 refine AO.val rfl rfl (quow_ok rfl rfl rfl (neZ (needT (hx20)))) ?_
 refine AO.pu T ?_
 refine AO.nil ?_
 iterate 2 refine AW.seq ?_
 refine AW.region ?_
 iterate 3 refine AO.pu T ?_
 refine AO.val rfl rfl (rem_ok rfl rfl rfl (neZ (needT (hx20)))) ?_
 refine AO.pu T ?_
 refine AO.nil ?_
 refine AW.cond (b := decide (v17 < (n.tmod groups))) rfl (fun hc => ?_) (fun hc => ?_)
 replace hH := condT hc hH
 refine AW.region ?_
 refine AO.pu T ?_
 refine AO.val rfl rfl (arw_ok rfl rfl rfl rfl) ?_
 refine AO.pu T ?_
 refine AO.nil ?_
 obtain ⟨u21, hx22, hH⟩ := bindE hH
 refine AW.region ?_
 iterate 2 refine AO.pu T ?_
 refine AO.step rfl (mk_map_ok T rfl 9 rfl rfl rfl rfl rfl (f := encInt) (l := [w64 ((w64 (n.tdiv groups)) + 1)]) rfl rfl (fun _ => rfl) rfl rfl rfl rfl rfl) ?_
 refine AO.step rfl (app_rv_map T rfl 10 rfl rfl rfl rfl rfl (by decide) rfl rfl rfl rfl (fun _ => rfl) (needT (hx22)) rfl rfl) ?_
 refine AO.pu T ?_
 refine AO.nil ?_
 refine AW.region ?_
 refine AO.pu T ?_
 refine AO.val rfl rfl (arw_ok rfl rfl rfl rfl) ?_
 refine AO.pu T ?_
 refine AO.nil ?_
 refine ⟨(k1, (v16 ++ [w64 ((w64 (n.tdiv groups)) + 1)]), w64 (v17 + 1)), hH, Nat.lt_succ_self _, ?_⟩
 exact Le.ct 10 6
 replace hH := condF hc hH
 refine AW.skip ?_
 obtain ⟨u23, hx24, hH⟩ := bindE hH
 refine AW.region ?_
 iterate 2 refine AO.pu T ?_
 refine AO.step rfl (mk_map_ok T rfl 11 rfl rfl rfl rfl rfl (f := encInt) (l := [w64 (n.tdiv groups)]) rfl rfl (fun _ => rfl) rfl rfl rfl rfl rfl) ?_
 refine AO.step rfl (app_rv_map T rfl 12 rfl rfl rfl rfl rfl (by decide) rfl rfl rfl rfl (fun _ => rfl) (needT (hx24)) rfl rfl) ?_
 refine AO.pu T ?_
 refine AO.nil ?_
 refine AW.region ?_
 refine AO.pu T ?_
 refine AO.val rfl rfl (arw_ok rfl rfl rfl rfl) ?_
 refine AO.pu T ?_
 refine AO.nil ?_
 refine ⟨(k1, (v16 ++ [w64 (n.tdiv groups)]), w64 (v17 + 1)), hH, Nat.lt_succ_self _, ?_⟩
 exact Le.ct 12 6
 replace hH := condF hc hH
 refine AW.exit ?_
 refine AW.seq (AW.region ?_)
 iterate 2 refine AO.pu T ?_
 refine AO.nil (AW.ret ?_)
 cases someE hH
 exact retQ.i [6] rfl (.c (.c (.rowR rfl)))

def spec_soGroups_l2 (fuel : Nat) (y8 : Int) (v103 : List Entrant) (v104 : List (List Int)) : List Entrant → Nat → List Int → Option ((List Entrant) × (List (List Int)))
  | [], k132, v143 =>
    (need (fitsB 24 (v104.length + ([v143]).length))).bind fun u145 =>
    (sliceLo v103 y8).bind fun x147 =>
    some (x147, (v104 ++ [v143]))
  | y133 :: ys134, k132, v143 =>
    (spec_l1Put_p fuel v143 y133.skater).bind fun x149 =>
    spec_soGroups_l2 fuel y8 v103 v104 ys134 (k132 + 1) x149
def spec_soGroups_l1 (fuel : Nat) : List Int → Nat → List Entrant → List (List Int) → Option (((List (List Int)) × Bool))
  | [], k7, v103, v104 =>
    some (v104, true)
  | y8 :: ys9, k7, v103, v104 =>
    ((sliceHi v103 y8).bind fun x130 =>
    spec_soGroups_l2 fuel y8 v103 v104 x130 0 []).bind fun (v126, v127) =>
    spec_soGroups_l1 fuel ys9 (k7 + 1) v126 v127
def spec_soGroups_p (fuel : Nat) (l : List Entrant) (size : Int) : Option ((List (List Int)) × Bool) :=
  (need (size != 0)).bind fun u1 =>
  cond ((w64 ((w64 ((w64 ((l.length : Int) + size)) - 1)).tdiv size)) == 0)
    (some ([], true))
    (cond (decide ((w64 ((w64 ((w64 ((l.length : Int) + size)) - 1)).tdiv size)) > 8))
      (some ([], false))
      ((spec_soSorted_p fuel l).bind fun x3 =>
      (spec_dwSizes_p fuel (l.length : Int) (w64 ((w64 ((w64 ((l.length : Int) + size)) - 1)).tdiv size))).bind fun x5 =>
      spec_soGroups_l1 fuel x5 0 x3 []))
theorem spec_soGroups_ok (fuel : Nat) (l : List Entrant) (size : Int) (r : ((List (List Int)) × Bool)) (hH : spec_soGroups_p fuel l size = some r) : SpecR Tryz.prog 158 [.s (List.map encEntrant l), size] (.t [.w 1 (r.1.map encLInt), .v (.bool r.2)]) := by
 refine fn_ok T Tryz.func158 rfl (by decide) rfl ?_
 refine AW.seq (AW.region ?_)
 iterate 2 refine AO.pu T ?_
 refine AO.nil (AW.seq ?_)
 obtain ⟨u1, hx2, hH⟩ := bindE hH
 refine AW.region ?_
 refine AO.pu T ?_
 refine AO.val rfl rfl (len_map_ok T rfl rfl rfl) ?_
 refine AO.pu T ?_
 iterate 2 refine AO.val rfl rfl (arw_ok rfl rfl rfl rfl) ?_
 refine AO.pu T ?_
 refine AO.val rfl rfl (quow_ok rfl rfl rfl (neZ (needT (hx2)))) ?_
 refine AO.pu T ?_
 refine AO.nil ?_
 iterate 2 refine AW.seq ?_
 refine AW.region ?_
 iterate 2 refine AO.pu T ?_
 refine AO.nil ?_
 refine AW.cond (b := ((w64 ((w64 ((w64 ((l.length : Int) + size)) - 1)).tdiv size)) == 0)) rfl (fun hc => ?_) (fun hc => ?_)
 replace hH := condT hc hH
 refine AW.seq (AW.region ?_)
 iterate 2 refine AO.pu T ?_
 refine AO.nil (AW.ret ?_)
 cases someE hH
 exact retQ.i [] rfl (.t (expLG_cons (.c .nil) (expLG_cons (.c .v) (expLG_nil))))
 replace hH := condF hc hH
 refine AW.skip ?_
 iterate 2 refine AW.seq ?_
 refine AW.region ?_
 iterate 2 refine AO.pu T ?_
 refine AO.nil ?_
 refine AW.cond (b := decide ((w64 ((w64 ((w64 ((l.length : Int) + size)) - 1)).tdiv size)) > 8)) rfl (fun hc => ?_) (fun hc => ?_)
 replace hH := condT hc hH
 refine AW.seq (AW.region ?_)
 iterate 2 refine AO.pu T ?_
 refine AO.nil (AW.ret ?_)
 cases someE hH
 exact retQ.i [] rfl (.t (expLG_cons (.c .nil) (expLG_cons (.c .v) (expLG_nil))))
 replace hH := condF hc hH
 refine AW.skip ?_
 refine AW.seq ?_
 obtain ⟨x3, hx4, hH⟩ := bindE hH
 refine AW.region ?_
 refine AO.pu T ?_
 refine AO.step rfl (call_ok rfl 1 rfl rfl rfl (spec_soSorted_ok fuel _ _ (hx4)) rfl rfl rfl) ?_
 refine AO.pu T ?_
 refine AO.nil (AW.seq ?_)
 refine AW.region ?_
 refine AO.pu T ?_
 refine AO.nil ?_
 iterate 2 refine AW.seq ?_
 obtain ⟨x5, hx6, hH⟩ := bindE hH
 refine AW.region ?_
 refine AO.pu T ?_
 refine AO.val rfl rfl (len_map_ok T rfl rfl rfl) ?_
 refine AO.pu T ?_
 refine AO.step rfl (call_ok rfl 2 rfl rfl rfl (spec_dwSizes_ok fuel _ _ _ (hx6)) rfl rfl rfl) ?_
 refine AO.val rfl rfl (len_row_ok T rfl rfl rfl rfl) ?_
 refine AO.pu T ?_
 refine AO.nil ?_
 refine AW.le (Le.ct 0 0 (σ' := (⟨[(7, .R 1), (8, .w 0 []), (30, .R 2), (31, (x5.length : Int)), (32, (0 : Int))], [(1, .row 2 (List.map encEntrant x3)), (2, .row 1 (List.map encInt x5))], 58, []⟩ : St))) ?_
 refine AW.block ?_
 refine AW.loopS (fun s : Nat × (List Entrant) × (List (List Int)) => (⟨[(7, .s (List.map encEntrant s.2.1)), (8, .R 16), (30, .R 2), (31, (x5.length : Int)), (32, (s.1 : Int))], [(2, .row 1 (List.map encInt x5)), (16, .row 1 (List.map encLInt s.2.2))], 58, []⟩ : St)) (fun s => s.1 ≤ x5.length ∧ spec_soGroups_l1 fuel (x5.drop s.1) s.1 s.2.1 s.2.2 = some r) (fun s => x5.length - s.1) (0, x3, []) ⟨Nat.zero_le _, hH⟩ ?_ ?_
 refine Le.trans (Le.freezeM 1 (g := encEntrant) rfl (fun y => .vs rfl)) ?_
 refine Le.trans (Le.void 8 16 1 rfl rfl) ?_
 exact Le.ct 0 0
 rintro ⟨k7, v103, v104⟩ ⟨hk, hH⟩
 replace hH : spec_soGroups_l1 fuel (x5.drop k7) k7 v103 v104 = some r := hH
 try dsimp only
 refine AW.boundR (id := 2) (l := x5) rfl (fun hb11 => ?_)
 rcases hd10 : x5.drop k7 with _ | ⟨y8, ys9⟩
 rw [hd10, spec_soGroups_l1] at hH
 have hlt12 := drop_ge hd10
 refine AW.seq (AW.region ?_)
 refine AO.pu T ?_
 refine AO.nil (AW.seq ?_)
 refine AW.condF' (b := decide ((k7 : Int) < (x5.length : Int))) rfl (rngF hlt12) ?_
 refine AW.exit ?_
 refine AW.seq (AW.region ?_)
 iterate 3 refine AO.pu T ?_
 refine AO.nil (AW.ret ?_)
 cases someE hH
 exact retQ.i [16] rfl (.t (expLG_cons (.c (.rowR rfl)) (expLG_cons (.c .v) (expLG_nil))))
 rw [hd10, spec_soGroups_l1] at hH
 have hlt12 := drop_lt hd10
 refine AW.seq (AW.region ?_)
 refine AO.pu T ?_
 refine AO.nil (AW.seq ?_)
 refine AW.condT' (b := decide ((k7 : Int) < (x5.length : Int))) rfl (rngT hlt12) ?_
 refine AW.skip ?_
 obtain ⟨o128, hH, hK129⟩ := bindE hH
 refine AW.seqJ (fun s : (List Entrant) × (List (List Int)) => (⟨[(7, .s (List.map encEntrant s.1)), (8, .R 26), (30, .R 2), (31, (x5.length : Int)), (32, (k7 : Int))], [(2, .row 1 (List.map encInt x5)), (26, .row 1 (List.map encLInt s.2))], 58, []⟩ : St)) (fun s => s = o128) ?_ ?_
 refine AW.block ?_
 refine AW.seq (AW.region ?_)
 refine AO.val rfl rfl (ix_row_ok T rfl rfl rfl rfl rfl rfl (getI_drop hd10)) ?_
 refine AO.val rfl rfl (load_row_ok T rfl rfl rfl rfl (getI_get (getI_drop hd10)) rfl rfl rfl) ?_
 refine AO.pu T ?_
 refine AO.nil (AW.seq ?_)
 refine AW.region ?_
 refine AO.pu T ?_
 refine AO.nil ?_
 iterate 2 refine AW.seq ?_
 obtain ⟨x130, hx131, hH⟩ := bindE hH
 refine AW.region ?_
 iterate 2 refine AO.pu T ?_
 refine AO.val rfl rfl (slice_hi_map_ok T rfl rfl rfl rfl rfl (hx131) (fun _ => rfl)) ?_
 refine AO.val rfl rfl (len_map_ok T rfl rfl rfl) ?_
 refine AO.pu T ?_
 refine AO.nil ?_
 refine AW.block ?_
 refine AW.loopS (fun s : Nat × (List Int) => (⟨[(7, .s (List.map encEntrant v103)), (8, .R 16), (10, y8), (11, .s (List.map encInt s.2)), (30, .R 2), (31, (x5.length : Int)), (32, (k7 : Int)), (38, .s (List.map encEntrant x130)), (39, (x130.length : Int)), (40, (s.1 : Int))], [(2, .row 1 (List.map encInt x5)), (16, .row 1 (List.map encLInt v104))], 58, []⟩ : St)) (fun s => s.1 ≤ x130.length ∧ spec_soGroups_l2 fuel y8 v103 v104 (x130.drop s.1) s.1 s.2 = some o128) (fun s => x130.length - s.1) (0, []) ⟨Nat.zero_le _, hH⟩ ?_ ?_
 refine Le.trans (Le.nilS 11 rfl) ?_
 exact Le.ct 0 0
 rintro ⟨k132, v143⟩ ⟨hk, hH⟩
 replace hH : spec_soGroups_l2 fuel y8 v103 v104 (x130.drop k132) k132 v143 = some o128 := hH
 try dsimp only
 refine AW.boundM (t := 38) (l := x130) rfl (fun hb136 => ?_)
 rcases hd135 : x130.drop k132 with _ | ⟨y133, ys134⟩
 rw [hd135, spec_soGroups_l2] at hH
 have hlt137 := drop_ge hd135
 refine AW.seq (AW.region ?_)
 refine AO.pu T ?_
 refine AO.nil (AW.seq ?_)
 refine AW.condF' (b := decide ((k132 : Int) < (x130.length : Int))) rfl (rngF hlt137) ?_
 refine AW.exit ?_
 refine AW.seq ?_
 obtain ⟨u145, hx146, hH⟩ := bindE hH
 refine AW.region ?_
 iterate 2 refine AO.pu T ?_
 refine AO.step rfl (mk_map_ok T rfl 30 rfl rfl rfl rfl rfl (f := encLInt) (l := [v143]) rfl rfl (fun _ => rfl) rfl rfl rfl rfl rfl) ?_
 refine AO.step rfl (app_rv_map T rfl 31 rfl rfl rfl rfl rfl (by decide) rfl rfl rfl rfl (fun _ => rfl) (needT (hx146)) rfl rfl) ?_
 refine AO.pu T ?_
 refine AO.nil ?_
 obtain ⟨x147, hx148, hH⟩ := bindE hH
 refine AW.region ?_
 iterate 2 refine AO.pu T ?_
 refine AO.val rfl rfl (slice_lo_map_ok T rfl rfl rfl rfl rfl (hx148) (fun _ => rfl)) ?_
 refine AO.pu T ?_
 refine AO.nil ?_
 refine ⟨_, someE hH, ?_⟩
 exact Le.ct 31 26
 rw [hd135, spec_soGroups_l2] at hH
 have hlt137 := drop_lt hd135
 refine AW.seq (AW.region ?_)
 refine AO.pu T ?_
 refine AO.nil (AW.seq ?_)
 refine AW.condT' (b := decide ((k132 : Int) < (x130.length : Int))) rfl (rngT hlt137) ?_
 refine AW.skip ?_
 refine AW.seq ?_
 refine AW.block ?_
 refine AW.seq (AW.region ?_)
 refine AO.val rfl rfl (ix_map_ok T rfl rfl rfl rfl rfl (getI_drop hd135) rfl) ?_
 refine AO.pu T (d := .g [y133.skater, y133.rank]) ?_
 refine AO.step rfl (alloc_ok T rfl 32 rfl rfl rfl rfl rfl) ?_
 refine AO.se T [y133.skater, y133.rank] ?_
 refine AO.nil ?_
 obtain ⟨x149, hx150, hH⟩ := bindE hH
 refine AW.region ?_
 iterate 3 refine AO.pu T ?_
 refine AO.val rfl rfl (callV_ok rfl rfl rfl rfl (spec_l1Put_ok fuel _ _ _ (hx150)) rfl) ?_
 refine AO.pu T ?_
 refine AO.nil ?_
 refine AW.region ?_
 refine AO.val rfl rfl (ar_ok rfl rfl rfl rfl (inI_succ hlt137 hb136)) ?_
 refine AO.pu T ?_
 refine AO.nil ?_
 refine ⟨(k132 + 1, x149), ⟨Nat.succ_le_of_lt hlt137, (by rw [drop_succ_of hd135]; exact hH)⟩, (by have := hlt137; dsimp only; omega), ?_⟩
 exact Le.ct 0 0
 rintro ⟨v126, v127⟩ hs
 subst hs
 replace hH := hK129
 try dsimp only [flow, flowE] at hH
 try dsimp only
 refine AW.region ?_
 refine AO.val rfl rfl (ar_ok rfl rfl rfl rfl (inI_succ hlt12 hb11)) ?_
 refine AO.pu T ?_
 refine AO.nil ?_
 refine ⟨(k7 + 1, v126, v127), ⟨Nat.succ_le_of_lt hlt12, (by rw [drop_succ_of hd10]; exact hH)⟩, (by have := hlt12; dsimp only; omega), ?_⟩
 exact Le.ct 26 16

def spec_dwMix_l1 (x1 : (List Int)) : Nat → Int → Int → Option Int
  | 0, _, _ => none
  | k5 + 1, v20, v21 =>
    cond (decide (v21 < (((x1 ++ [4, 1])).length : Int)))
      ((getI (x1 ++ [4, 1]) v21).bind fun x23 =>
      (need (1000003 != 0)).bind fun u25 =>
      (need (16 != 0)).bind fun u27 =>
      spec_dwMix_l1 x1 k5 ((w64 (((w64 ((w64 ((w64 (29 * v20)) + x23)) + 13)).tmod 1000003) * (w64 ((w64 (((w64 ((w64 ((w64 (29 * v20)) + x23)) + 13)).tmod 1000003).tdiv 16)) + 5)))).tmod 1000003) (w64 (v21 + 1)))
      (some v20)
def spec_dwMix_p (fuel : Nat) (keys : List Int) : Option Int :=
  (spec_l1Own_p keys).bind fun x1 =>
  (need (fitsB 8 (x1.length + ([4, 1]).length))).bind fun u3 =>
  spec_dwMix_l1 x1 fuel (w64 (5231 + (keys.length : Int))) 0
theorem spec_dwMix_ok (fuel : Nat) (keys : List Int) (r : Int) (hH : spec_dwMix_p fuel keys = some r) : SpecR Tryz.prog 216 [.s (List.map encInt keys)] (.v (.int .i64 r)) := by
 refine fn_ok T Tryz.func216 rfl (by decide) rfl ?_
 refine AW.seq (AW.region ?_)
 refine AO.pu T ?_
 refine AO.nil (AW.seq ?_)
 refine AW.region ?_
 refine AO.pu T ?_
 refine AO.val rfl rfl (len_map_ok T rfl rfl rfl) ?_
 refine AO.val rfl rfl (arw_ok rfl rfl rfl rfl) ?_
 refine AO.pu T ?_
 refine AO.nil ?_
 iterate 2 refine AW.seq ?_
 obtain ⟨x1, hx2, hH⟩ := bindE hH
 obtain ⟨u3, hx4, hH⟩ := bindE hH
 refine AW.region ?_
 refine AO.pu T ?_
 refine AO.step rfl (call_ok rfl 1 rfl rfl rfl (spec_l1Own_ok _ _ (hx2)) rfl rfl rfl) ?_
 refine AO.step rfl (mk_map_ok T rfl 2 rfl rfl rfl rfl rfl (f := encInt) (l := [4, 1]) rfl rfl (fun _ => rfl) rfl rfl rfl rfl rfl) ?_
 refine AO.step rfl (app_rv_map T rfl 3 rfl rfl rfl rfl rfl (by decide) rfl rfl rfl rfl (fun _ => rfl) (needT (hx4)) rfl rfl) ?_
 refine AO.val rfl rfl (len_row_ok T rfl rfl rfl rfl) ?_
 refine AO.pu T ?_
 refine AO.nil ?_
 refine AW.block ?_
 refine AW.loopS (fun s : Nat × Int × Int => (⟨[(3, s.2.1), (12, .R 3), (13, (((x1 ++ [4, 1])).length : Int)), (14, s.2.2)], [(3, .row 1 (List.map encInt (x1 ++ [4, 1])))], 32, []⟩ : St)) (fun s => spec_dwMix_l1 x1 s.1 s.2.1 s.2.2 = some r) (fun s => s.1) (fuel, w64 (5231 + (keys.length : Int)), 0) hH ?_ ?_
 exact Le.ct 0 0
 rintro ⟨k5, v20, v21⟩ hH
 replace hH : spec_dwMix_l1 x1 k5 v20 v21 = some r := hH
 try dsimp only
 rcases k5 with _ | k5
 cases (show none = some _ from hH)
 rw [spec_dwMix_l1] at hH
 refine AW.seq (AW.region ?_)
 refine AO.pu T ?_
 refine AO.nil (AW.seq ?_)
 refine AW.cond (b := decide (v21 < (((x1 ++ [4, 1])).length : Int))) rfl (fun hc => ?_) (fun hc => ?_)
 replace hH := condT hc hH
 refine AW.skip ?_
 refine AW.seq ?_
 refine AW.block ?_
 refine AW.seq ?_
 obtain ⟨x23, hx24, hH⟩ := bindE hH
 refine AW.region ?_
 refine AO.val rfl rfl (ix_row_ok T rfl rfl rfl rfl rfl rfl (hx24)) ?_
 refine AO.val rfl rfl (load_row_ok T rfl rfl rfl rfl (getI_get (hx24)) rfl rfl rfl) ?_
 refine AO.pu T ?_
 refine AO.nil (AW.seq ?_)
 obtain ⟨u25, hx26, hH⟩ := bindE hH
 refine AW.region ?_
 refine AO.pu T ?_
 refine AO.val rfl rfl (arw_ok rfl rfl rfl rfl) ?_
 refine AO.pu T ?_
 iterate 2 refine AO.val rfl rfl (arw_ok rfl rfl rfl rfl) ?_
 refine AO.val rfl rfl (rem_ok rfl rfl rfl (neZ (needT (hx26)))) ?_
 refine AO.pu T ?_
 refine AO.nil ?_
 obtain ⟨u27, hx28, hH⟩ := bindE hH
 refine AW.region ?_
 iterate 2 refine AO.pu T ?_
 refine AO.val rfl rfl (quow_ok rfl rfl rfl (neZ (needT (hx28)))) ?_
 iterate 2 refine AO.val rfl rfl (arw_ok rfl rfl rfl rfl) ?_
 refine AO.val rfl rfl (rem_ok rfl rfl rfl (neZ (needT (hx26)))) ?_
 refine AO.pu T ?_
 refine AO.nil ?_
 refine AW.region ?_
 refine AO.val rfl rfl (arw_ok rfl rfl rfl rfl) ?_
 refine AO.pu T ?_
 refine AO.nil ?_
 refine ⟨(k5, ((w64 (((w64 ((w64 ((w64 (29 * v20)) + x23)) + 13)).tmod 1000003) * (w64 ((w64 (((w64 ((w64 ((w64 (29 * v20)) + x23)) + 13)).tmod 1000003).tdiv 16)) + 5)))).tmod 1000003), w64 (v21 + 1)), hH, Nat.lt_succ_self _, ?_⟩
 exact Le.ct 0 0
 replace hH := condF hc hH
 refine AW.exit ?_
 refine AW.seq (AW.region ?_)
 iterate 2 refine AO.pu T ?_
 refine AO.nil (AW.ret ?_)
 cases someE hH
 exact retQ.i [] rfl (.c (.c .v))

def spec_dwBelow_p (fuel : Nat) (keys : List Int) (n : Int) : Option Int :=
  (spec_l1Own_p keys).bind fun x1 =>
  (need (fitsB 8 (x1.length + ([n]).length))).bind fun u3 =>
  (spec_dwMix_p fuel (x1 ++ [n])).bind fun x5 =>
  (need (n != 0)).bind fun u7 =>
  some (x5.tmod n)
theorem spec_dwBelow_ok (fuel : Nat) (keys : List Int) (n : Int) (r : Int) (hH : spec_dwBelow_p fuel keys n = some r) : SpecR Tryz.prog 207 [.s (List.map encInt keys), n] (.v (.int .i64 r)) := by
 refine fn_ok T Tryz.func207 rfl (by decide) rfl ?_
 refine AW.seq (AW.region ?_)
 refine AO.pu T ?_
 refine AO.nil (AW.seq ?_)
 obtain ⟨x1, hx2, hH⟩ := bindE hH
 obtain ⟨u3, hx4, hH⟩ := bindE hH
 obtain ⟨x5, hx6, hH⟩ := bindE hH
 obtain ⟨u7, hx8, hH⟩ := bindE hH
 refine AW.region ?_
 refine AO.pu T ?_
 refine AO.step rfl (call_ok rfl 1 rfl rfl rfl (spec_l1Own_ok _ _ (hx2)) rfl rfl rfl) ?_
 refine AO.pu T ?_
 refine AO.step rfl (mk_map_ok T rfl 2 rfl rfl rfl rfl rfl (f := encInt) (l := [n]) rfl rfl (fun _ => rfl) rfl rfl rfl rfl rfl) ?_
 refine AO.step rfl (app_rv_map T rfl 3 rfl rfl rfl rfl rfl (by decide) rfl rfl rfl rfl (fun _ => rfl) (needT (hx4)) rfl rfl) ?_
 refine AO.val rfl rfl (callLV_ok rfl rfl rfl (es := [.s (List.map encInt (x1 ++ [n]))]) ⟨(.rowR rfl (.map fun y => .vs rfl)), trivial⟩ (spec_dwMix_ok fuel _ _ (hx6)) (zfree_v _) rfl) ?_
 refine AO.pu T ?_
 refine AO.val rfl rfl (rem_ok rfl rfl rfl (neZ (needT (hx8)))) ?_
 refine AO.pu T ?_
 refine AO.nil (AW.ret ?_)
 cases someE hH
 exact retQ.i [] rfl (.c (.c .v))

def spec_dwShuffle_l2 (keys : List Int) (fuel : Nat) : Nat → List Int → Int → Option ((List Int))
  | 0, _, _ => none
  | k13 + 1, v40, v41 =>
    cond (decide (v41 ≥ 1))
      ((spec_l1Own_p keys).bind fun x43 =>
      (need (fitsB 8 (x43.length + ([v41]).length))).bind fun u45 =>
      (spec_dwBelow_p fuel (x43 ++ [v41]) (w64 (v41 + 1))).bind fun x47 =>
      (getI v40 v41).bind fun x49 =>
      (getI v40 x47).bind fun x51 =>
      (getI (v40.set v41.toNat x51) x47).bind fun x53 =>
      spec_dwShuffle_l2 keys fuel k13 ((v40.set v41.toNat x51).set x47.toNat x49) (w64 (v41 - 1)))
      (some v40)
def spec_dwShuffle_l1 (keys : List Int) (n : Int) (fuel : Nat) : Nat → List Int → Int → Option ((List Int))
  | 0, _, _ => none
  | k1 + 1, v8, v9 =>
    cond (decide (v9 < n))
      ((need (fitsB 8 (v8.length + ([v9]).length))).bind fun u11 =>
      spec_dwShuffle_l1 keys n fuel k1 (v8 ++ [v9]) (w64 (v9 + 1)))
      (spec_dwShuffle_l2 keys fuel fuel v8 (w64 (n - 1)))
def spec_dwShuffle_p (fuel : Nat) (keys : List Int) (n : Int) : Option (List Int) :=
  spec_dwShuffle_l1 keys n fuel fuel [] 0
theorem spec_dwShuffle_ok (fuel : Nat) (keys : List Int) (n : Int) (r : (List Int)) (hH : spec_dwShuffle_p fuel keys n = some r) : SpecR Tryz.prog 189 [.s (List.map encInt keys), n] (.w 1 (r.map encInt)) := by
 refine fn_ok T Tryz.func189 rfl (by decide) rfl ?_
 refine AW.seq (AW.region ?_)
 refine AO.pu T ?_
 refine AO.nil (AW.seq ?_)
 refine AW.region ?_
 refine AO.pu T ?_
 refine AO.nil ?_
 iterate 2 refine AW.seq ?_
 refine AW.region ?_
 refine AO.pu T ?_
 refine AO.nil ?_
 refine AW.block ?_
 refine AW.loopS (fun s : Nat × (List Int) × Int => (⟨[(0, .s (List.map encInt keys)), (1, n), (5, .R 4), (6, s.2.2)], [(4, .row 1 (List.map encInt s.2.1))], 49, []⟩ : St)) (fun s => spec_dwShuffle_l1 keys n fuel s.1 s.2.1 s.2.2 = some r) (fun s => s.1) (fuel, [], 0) hH ?_ ?_
 refine Le.trans (Le.void 5 4 1 rfl rfl) ?_
 exact Le.ct 0 0
 rintro ⟨k1, v8, v9⟩ hH
 replace hH : spec_dwShuffle_l1 keys n fuel k1 v8 v9 = some r := hH
 try dsimp only
 rcases k1 with _ | k1
 cases (show none = some _ from hH)
 rw [spec_dwShuffle_l1] at hH
 iterate 2 refine AW.seq ?_
 refine AW.region ?_
 iterate 3 refine AO.pu T ?_
 refine AO.nil ?_
 refine AW.cond (b := decide (v9 < n)) rfl (fun hc => ?_) (fun hc => ?_)
 replace hH := condT hc hH
 refine AW.skip ?_
 refine AW.seq ?_
 refine AW.block ?_
 obtain ⟨u11, hx12, hH⟩ := bindE hH
 refine AW.region ?_
 iterate 2 refine AO.pu T ?_
 refine AO.step rfl (mk_map_ok T rfl 5 rfl rfl rfl rfl rfl (f := encInt) (l := [v9]) rfl rfl (fun _ => rfl) rfl rfl rfl rfl rfl) ?_
 refine AO.step rfl (app_rv_map T rfl 6 rfl rfl rfl rfl rfl (by decide) rfl rfl rfl rfl (fun _ => rfl) (needT (hx12)) rfl rfl) ?_
 refine AO.pu T ?_
 refine AO.nil ?_
 refine AW.region ?_
 refine AO.pu T ?_
 refine AO.val rfl rfl (arw_ok rfl rfl rfl rfl) ?_
 refine AO.pu T ?_
 refine AO.nil ?_
 refine ⟨(k1, (v8 ++ [v9]), w64 (v9 + 1)), hH, Nat.lt_succ_self _, ?_⟩
 exact Le.ct 6 4
 replace hH := condF hc hH
 refine AW.exit ?_
 iterate 2 refine AW.seq ?_
 refine AW.region ?_
 refine AO.pu T ?_
 refine AO.val rfl rfl (arw_ok rfl rfl rfl rfl) ?_
 refine AO.pu T ?_
 refine AO.nil ?_
 refine AW.block ?_
 refine AW.loopS (fun s : Nat × (List Int) × Int => (⟨[(0, .s (List.map encInt keys)), (5, .R 4), (7, s.2.2)], [(4, .row 1 (List.map encInt s.2.1))], 49, []⟩ : St)) (fun s => spec_dwShuffle_l2 keys fuel s.1 s.2.1 s.2.2 = some r) (fun s => s.1) (fuel, v8, w64 (n - 1)) hH ?_ ?_
 exact Le.ct 0 0
 rintro ⟨k13, v40, v41⟩ hH
 replace hH : spec_dwShuffle_l2 keys fuel k13 v40 v41 = some r := hH
 try dsimp only
 rcases k13 with _ | k13
 cases (show none = some _ from hH)
 rw [spec_dwShuffle_l2] at hH
 iterate 2 refine AW.seq ?_
 refine AW.region ?_
 iterate 2 refine AO.pu T ?_
 refine AO.nil ?_
 refine AW.cond (b := decide (v41 ≥ 1)) rfl (fun hc => ?_) (fun hc => ?_)
 replace hH := condT hc hH
 refine AW.skip ?_
 refine AW.seq ?_
 refine AW.block ?_
 refine AW.seq ?_
 obtain ⟨x43, hx44, hH⟩ := bindE hH
 obtain ⟨u45, hx46, hH⟩ := bindE hH
 obtain ⟨x47, hx48, hH⟩ := bindE hH
 refine AW.region ?_
 refine AO.pu T ?_
 refine AO.step rfl (call_ok rfl 13 rfl rfl rfl (spec_l1Own_ok _ _ (hx44)) rfl rfl rfl) ?_
 refine AO.pu T ?_
 refine AO.step rfl (mk_map_ok T rfl 14 rfl rfl rfl rfl rfl (f := encInt) (l := [v41]) rfl rfl (fun _ => rfl) rfl rfl rfl rfl rfl) ?_
 refine AO.step rfl (app_rv_map T rfl 15 rfl rfl rfl rfl rfl (by decide) rfl rfl rfl rfl (fun _ => rfl) (needT (hx46)) rfl rfl) ?_
 refine AO.pu T ?_
 refine AO.val rfl rfl (arw_ok rfl rfl rfl rfl) ?_
 refine AO.val rfl rfl (callLV_ok rfl rfl rfl (es := [.s (List.map encInt (x43 ++ [v41])), w64 (v41 + 1)]) ⟨(.rowR rfl (.map fun y => .vs rfl)), .free rfl, trivial⟩ (spec_dwBelow_ok fuel _ _ _ (hx48)) (zfree_v _) rfl) ?_
 refine AO.pu T ?_
 refine AO.nil (AW.seq ?_)
 obtain ⟨x49, hx50, hH⟩ := bindE hH
 refine AW.region ?_
 iterate 2 refine AO.pu T ?_
 refine AO.val rfl rfl (ix_row_ok T rfl rfl rfl rfl rfl rfl (hx50)) ?_
 refine AO.val rfl rfl (load_row_ok T rfl rfl rfl rfl (getI_get (hx50)) rfl rfl rfl) ?_
 refine AO.pu T ?_
 refine AO.nil (AW.seq ?_)
 obtain ⟨x51, hx52, hH⟩ := bindE hH
 refine AW.region ?_
 iterate 4 refine AO.pu T ?_
 refine AO.val rfl rfl (ix_row_ok T rfl rfl rfl rfl rfl rfl (hx52)) ?_
 refine AO.val rfl rfl (load_row_ok T rfl rfl rfl rfl (getI_get (hx52)) rfl rfl rfl) ?_
 refine AO.val rfl rfl (ix_row_ok T rfl rfl rfl rfl rfl rfl (hx50)) ?_
 refine AO.step rfl (store_row_ok T rfl rfl rfl rfl rfl (getI_get (hx50)) rfl rfl rfl rfl (u' := x51) rfl rfl) ?_
 refine AO.nil ?_
 refine AW.le (Le.ct 0 0 (σ' := (⟨[(0, .s (List.map encInt keys)), (5, .R 4), (7, v41), (8, x47), (9, x49)], [(4, .row 1 (List.map encInt (v40.set v41.toNat x51)))], 49, []⟩ : St))) ?_
 obtain ⟨x53, hx54, hH⟩ := bindE hH
 refine AW.region ?_
 iterate 3 refine AO.pu T ?_
 refine AO.val rfl rfl (ix_row_ok T rfl rfl rfl rfl rfl rfl (hx54)) ?_
 refine AO.step rfl (store_row_ok T rfl rfl rfl rfl rfl (getI_get (hx54)) rfl rfl rfl rfl (u' := x49) rfl rfl) ?_
 refine AO.nil ?_
 refine AW.region ?_
 refine AO.pu T ?_
 refine AO.val rfl rfl (arw_ok rfl rfl rfl rfl) ?_
 refine AO.pu T ?_
 refine AO.nil ?_
 refine ⟨(k13, ((v40.set v41.toNat x51).set x47.toNat x49), w64 (v41 - 1)), hH, Nat.lt_succ_self _, ?_⟩
 exact Le.ct 0 0
 replace hH := condF hc hH
 refine AW.exit ?_
 refine AW.seq (AW.region ?_)
 iterate 2 refine AO.pu T ?_
 refine AO.nil (AW.ret ?_)
 cases someE hH
 exact retQ.i [4] rfl (.c (.c (.rowR rfl)))

def spec_dwNumbers_l1 (l : List Int) : List Int → Nat → List Int → Option ((List Int))
  | [], k3, v18 =>
    some v18
  | y4 :: ys5, k3, v18 =>
    (getI l y4).bind fun x20 =>
    (need (fitsB 8 (v18.length + ([x20]).length))).bind fun u22 =>
    spec_dwNumbers_l1 l ys5 (k3 + 1) (v18 ++ [x20])
def spec_dwNumbers_p (fuel : Nat) (keys : List Int) (l : List Int) : Option (List Int) :=
  (spec_dwShuffle_p fuel keys (l.length : Int)).bind fun x1 =>
  spec_dwNumbers_l1 l x1 0 []
theorem spec_dwNumbers_ok (fuel : Nat) (keys : List Int) (l : List Int) (r : (List Int)) (hH : spec_dwNumbers_p fuel keys l = some r) : SpecR Tryz.prog 159 [.s (List.map encInt keys), .s (List.map encInt l)] (.w 1 (r.map encInt)) := by
 refine fn_ok T Tryz.func159 rfl (by decide) rfl ?_
 refine AW.seq (AW.region ?_)
 refine AO.pu T ?_
 refine AO.nil (AW.seq ?_)
 refine AW.region ?_
 refine AO.pu T ?_
 refine AO.nil ?_
 iterate 2 refine AW.seq ?_
 obtain ⟨x1, hx2, hH⟩ := bindE hH
 refine AW.region ?_
 iterate 2 refine AO.pu T ?_
 refine AO.val rfl rfl (len_map_ok T rfl rfl rfl) ?_
 refine AO.step rfl (call_ok rfl 1 rfl rfl rfl (spec_dwShuffle_ok fuel _ _ _ (hx2)) rfl rfl rfl) ?_
 refine AO.val rfl rfl (len_row_ok T rfl rfl rfl rfl) ?_
 refine AO.pu T ?_
 refine AO.nil ?_
 refine AW.block ?_
 refine AW.loopS (fun s : Nat × (List Int) => (⟨[(1, .s (List.map encInt l)), (5, .R 5), (11, .R 1), (12, (x1.length : Int)), (13, (s.1 : Int))], [(1, .row 1 (List.map encInt x1)), (5, .row 1 (List.map encInt s.2))], 26, []⟩ : St)) (fun s => s.1 ≤ x1.length ∧ spec_dwNumbers_l1 l (x1.drop s.1) s.1 s.2 = some r) (fun s => x1.length - s.1) (0, []) ⟨Nat.zero_le _, hH⟩ ?_ ?_
 refine Le.trans (Le.void 5 5 1 rfl rfl) ?_
 exact Le.ct 0 0
 rintro ⟨k3, v18⟩ ⟨hk, hH⟩
 replace hH : spec_dwNumbers_l1 l (x1.drop k3) k3 v18 = some r := hH
 try dsimp only
 refine AW.boundR (id := 1) (l := x1) rfl (fun hb7 => ?_)
 rcases hd6 : x1.drop k3 with _ | ⟨y4, ys5⟩
 rw [hd6, spec_dwNumbers_l1] at hH
 have hlt8 := drop_ge hd6
 refine AW.seq (AW.region ?_)
 refine AO.pu T ?_
 refine AO.nil (AW.seq ?_)
 refine AW.condF' (b := decide ((k3 : Int) < (x1.length : Int))) rfl (rngF hlt8) ?_
 refine AW.exit ?_
 refine AW.seq (AW.region ?_)
 iterate 2 refine AO.pu T ?_
 refine AO.nil (AW.ret ?_)
 cases someE hH
 exact retQ.i [5] rfl (.c (.c (.rowR rfl)))
 rw [hd6, spec_dwNumbers_l1] at hH
 have hlt8 := drop_lt hd6
 refine AW.seq (AW.region ?_)
 refine AO.pu T ?_
 refine AO.nil (AW.seq ?_)
 refine AW.condT' (b := decide ((k3 : Int) < (x1.length : Int))) rfl (rngT hlt8) ?_
 refine AW.skip ?_
 refine AW.seq ?_
 refine AW.block ?_
 refine AW.seq (AW.region ?_)
 refine AO.val rfl rfl (ix_row_ok T rfl rfl rfl rfl rfl rfl (getI_drop hd6)) ?_
 refine AO.val rfl rfl (load_row_ok T rfl rfl rfl rfl (getI_get (getI_drop hd6)) rfl rfl rfl) ?_
 refine AO.pu T ?_
 refine AO.nil ?_
 obtain ⟨x20, hx21, hH⟩ := bindE hH
 obtain ⟨u22, hx23, hH⟩ := bindE hH
 refine AW.region ?_
 iterate 3 refine AO.pu T ?_
 refine AO.val rfl rfl (ix_map_ok T rfl rfl rfl rfl rfl (hx21) rfl) ?_
 refine AO.pu T ?_
 refine AO.step rfl (mk_map_ok T rfl 6 rfl rfl rfl rfl rfl (f := encInt) (l := [x20]) rfl rfl (fun _ => rfl) rfl rfl rfl rfl rfl) ?_
 refine AO.step rfl (app_rv_map T rfl 7 rfl rfl rfl rfl rfl (by decide) rfl rfl rfl rfl (fun _ => rfl) (needT (hx23)) rfl rfl) ?_
 refine AO.pu T ?_
 refine AO.nil ?_
 refine AW.region ?_
 refine AO.val rfl rfl (ar_ok rfl rfl rfl rfl (inI_succ hlt8 hb7)) ?_
 refine AO.pu T ?_
 refine AO.nil ?_
 refine ⟨(k3 + 1, (v18 ++ [x20])), ⟨Nat.succ_le_of_lt hlt8, (by rw [drop_succ_of hd6]; exact hH)⟩, (by have := hlt8; dsimp only; omega), ?_⟩
 exact Le.ct 7 5

def spec_StartOrder_l1 (keys : List Int) (fuel : Nat) (x7 : ((List (List Int)) × Bool)) : List (List Int) → Nat → List Int → Option (((List Int) × Bool))
  | [], k9, v32 =>
    some (v32, x7.2)
  | y10 :: ys11, k9, v32 =>
    (spec_l1Own_p keys).bind fun x34 =>
    (need (fitsB 8 (x34.length + ([(k9 : Int)]).length))).bind fun u36 =>
    (spec_dwNumbers_p fuel (x34 ++ [(k9 : Int)]) y10).bind fun x38 =>
    (need (fitsB 8 (v32.length + x38.length))).bind fun u40 =>
    spec_StartOrder_l1 keys fuel x7 ys11 (k9 + 1) (v32 ++ x38)
def spec_StartOrder_p (fuel : Nat) (keys : List Int) (l : List Entrant) (size : Int) : Option ((List Int) × Bool) :=
  (spec_dwKeys_p keys 4).bind fun x1 =>
  (opt (!(!x1)) default (spec_soEntrants_p l)).bind fun x3 =>
  (opt (!((!x1) || (!x3))) default (spec_soSize_p size)).bind fun x5 =>
  cond (((!x1) || (!x3)) || (!x5))
    (some ([], false))
    ((spec_soGroups_p fuel l size).bind fun x7 =>
    spec_StartOrder_l1 keys fuel x7 x7.1 0 [])
theorem spec_StartOrder_ok (fuel : Nat) (keys : List Int) (l : List Entrant) (size : Int) (r : ((List Int) × Bool)) (hH : spec_StartOrder_p fuel keys l size = some r) : SpecR Tryz.prog 114 [.s (List.map encInt keys), .s (List.map encEntrant l), size] (.t [.w 1 (r.1.map encInt), .v (.bool r.2)]) := by
 refine fn_ok T Tryz.func114 rfl (by decide) rfl ?_
 refine AW.seq (AW.region ?_)
 iterate 2 refine AO.pu T ?_
 refine AO.nil ?_
 iterate 2 refine AW.seq ?_
 obtain ⟨x1, hx2, hH⟩ := bindE hH
 obtain ⟨x3, hx4, hH⟩ := bindE hH
 obtain ⟨x5, hx6, hH⟩ := bindE hH
 refine AW.region ?_
 refine AO.pu T ?_
 refine AO.val rfl rfl (callV_ok rfl rfl rfl rfl (spec_dwKeys_ok _ _ _ (hx2)) rfl) ?_
 iterate 2 refine AO.pu T ?_
 refine AO.pureG T [] rfl trivial rfl rfl ?_
 refine AO.guard [17] rfl ⟨fun h => h, trivial⟩ (fun hg => callV_ok rfl rfl rfl rfl (spec_soEntrants_ok _ _ (optT hx4 hg)) rfl) rfl ?_
 refine AO.pureG T [18] rfl ⟨fun h => h, trivial⟩ rfl rfl ?_
 refine AO.val rfl rfl (pick_or rfl rfl rfl rfl) ?_
 refine AO.pu T ?_
 refine AO.pureG T [] rfl trivial rfl rfl ?_
 refine AO.guard [22] rfl ⟨fun h => h, trivial⟩ (fun hg => callV_ok rfl rfl rfl rfl (spec_soSize_ok _ _ (optT hx6 hg)) rfl) rfl ?_
 refine AO.pureG T [23] rfl ⟨fun h => h, trivial⟩ rfl rfl ?_
 refine AO.val rfl rfl (pick_or rfl rfl rfl rfl) ?_
 refine AO.nil ?_
 refine AW.cond (b := (((!x1) || (!x3)) || (!x5))) rfl (fun hc => ?_) (fun hc => ?_)
 replace hH := condT hc hH
 refine AW.seq (AW.region ?_)
 iterate 2 refine AO.pu T ?_
 refine AO.nil (AW.ret ?_)
 cases someE hH
 exact retQ.i [] rfl (.t (expLG_cons (.c .nil) (expLG_cons (.c .v) (expLG_nil))))
 replace hH := condF hc hH
 refine AW.skip ?_
 refine AW.seq ?_
 obtain ⟨x7, hx8, hH⟩ := bindE hH
 refine AW.region ?_
 iterate 2 refine AO.pu T ?_
 refine AO.step rfl (call_ok rfl 1 rfl rfl rfl (spec_soGroups_ok fuel _ _ _ (hx8)) rfl rfl rfl) ?_
 iterate 5 refine AO.pu T ?_
 refine AO.nil (AW.seq ?_)
 refine AW.region ?_
 refine AO.pu T ?_
 refine AO.nil ?_
 refine AW.le (Le.ct 0 0 (σ' := (⟨[(0, .s (List.map encInt keys)), (8, .R 1), (9, .v (.bool x7.2)), (10, .w 0 [])], [(1, .row 1 (List.map encLInt x7.1))], 51, []⟩ : St))) ?_
 iterate 2 refine AW.seq ?_
 refine AW.region ?_
 refine AO.pu T ?_
 refine AO.val rfl rfl (len_row_ok T rfl rfl rfl rfl) ?_
 refine AO.pu T ?_
 refine AO.nil ?_
 refine AW.block ?_
 refine AW.loopS (fun s : Nat × (List Int) => (⟨[(0, .s (List.map encInt keys)), (9, .v (.bool x7.2)), (10, .R 11), (32, .R 1), (33, (x7.1.length : Int)), (34, (s.1 : Int))], [(1, .row 1 (List.map encLInt x7.1)), (11, .row 1 (List.map encInt s.2))], 51, []⟩ : St)) (fun s => s.1 ≤ x7.1.length ∧ spec_StartOrder_l1 keys fuel x7 (x7.1.drop s.1) s.1 s.2 = some r) (fun s => x7.1.length - s.1) (0, []) ⟨Nat.zero_le _, hH⟩ ?_ ?_
 refine Le.trans (Le.void 10 11 1 rfl rfl) ?_
 exact Le.ct 0 0
 rintro ⟨k9, v32⟩ ⟨hk, hH⟩
 replace hH : spec_StartOrder_l1 keys fuel x7 (x7.1.drop k9) k9 v32 = some r := hH
 try dsimp only
 refine AW.boundR (id := 1) (l := x7.1) rfl (fun hb13 => ?_)
 rcases hd12 : x7.1.drop k9 with _ | ⟨y10, ys11⟩
 rw [hd12, spec_StartOrder_l1] at hH
 have hlt14 := drop_ge hd12
 refine AW.seq (AW.region ?_)
 refine AO.pu T ?_
 refine AO.nil (AW.seq ?_)
 refine AW.condF' (b := decide ((k9 : Int) < (x7.1.length : Int))) rfl (rngF hlt14) ?_
 refine AW.exit ?_
 refine AW.seq (AW.region ?_)
 iterate 4 refine AO.pu T ?_
 refine AO.nil (AW.ret ?_)
 cases someE hH
 exact retQ.i [11] rfl (.t (expLG_cons (.c (.rowR rfl)) (expLG_cons (.c .v) (expLG_nil))))
 rw [hd12, spec_StartOrder_l1] at hH
 have hlt14 := drop_lt hd12
 refine AW.seq (AW.region ?_)
 refine AO.pu T ?_
 refine AO.nil (AW.seq ?_)
 refine AW.condT' (b := decide ((k9 : Int) < (x7.1.length : Int))) rfl (rngT hlt14) ?_
 refine AW.skip ?_
 refine AW.seq ?_
 refine AW.block ?_
 refine AW.seq (AW.region ?_)
 refine AO.pu T ?_
 refine AO.val rfl rfl (ix_row_ok T rfl rfl rfl rfl rfl rfl (getI_drop hd12)) ?_
 refine AO.val rfl rfl (load_row_ok T rfl rfl rfl rfl (getI_get (getI_drop hd12)) rfl rfl rfl) ?_
 iterate 2 refine AO.pu T ?_
 refine AO.nil ?_
 obtain ⟨x34, hx35, hH⟩ := bindE hH
 obtain ⟨u36, hx37, hH⟩ := bindE hH
 obtain ⟨x38, hx39, hH⟩ := bindE hH
 obtain ⟨u40, hx41, hH⟩ := bindE hH
 refine AW.region ?_
 iterate 2 refine AO.pu T ?_
 refine AO.step rfl (call_ok rfl 12 rfl rfl rfl (spec_l1Own_ok _ _ (hx35)) rfl rfl rfl) ?_
 refine AO.pu T ?_
 refine AO.step rfl (mk_map_ok T rfl 13 rfl rfl rfl rfl rfl (f := encInt) (l := [(k9 : Int)]) rfl rfl (fun _ => rfl) rfl rfl rfl rfl rfl) ?_
 refine AO.step rfl (app_rv_map T rfl 14 rfl rfl rfl rfl rfl (by decide) rfl rfl rfl rfl (fun _ => rfl) (needT (hx37)) rfl rfl) ?_
 refine AO.pu T ?_
 refine AO.step rfl (callL_ok rfl 15 rfl rfl (es := [.s (List.map encInt (x34 ++ [(k9 : Int)])), .s (List.map encInt y10)]) (by exact ⟨(.rowR rfl (.map fun y => .vs rfl)), .free rfl, trivial⟩) (spec_dwNumbers_ok fuel _ _ _ (hx39)) (zfree_map (fun y => (.cons (zfree_v _) .nil))) rfl rfl rfl) ?_
 refine AO.step rfl (app_rv_map T rfl 16 rfl rfl rfl rfl rfl (by decide) rfl rfl rfl rfl (fun _ => rfl) (needT (hx41)) rfl rfl) ?_
 refine AO.pu T ?_
 refine AO.nil ?_
 refine AW.region ?_
 refine AO.val rfl rfl (ar_ok rfl rfl rfl rfl (inI_succ hlt14 hb13)) ?_
 refine AO.pu T ?_
 refine AO.nil ?_
 refine ⟨(k9 + 1, (v32 ++ x38)), ⟨Nat.succ_le_of_lt hlt14, (by rw [drop_succ_of hd12]; exact hH)⟩, (by have := hlt14; dsimp only; omega), ?_⟩
 exact Le.ct 16 11

def spec_evIf_p (e : Event) (ok : Bool) : Option (Event × Bool) :=
  cond (!ok)
    (some ((Event.mk 0 0 0 [] [] 0 [] []), false))
    (some (e, true))
theorem spec_evIf_ok (e : Event) (ok : Bool) (r : (Event × Bool)) (hH : spec_evIf_p e ok = some r) : SpecR Tryz.prog 115 [.g (encEvent e), .v (.bool ok)] (.t [.g (encEvent r.1), .v (.bool r.2)]) := by
 refine fn_ok T Tryz.func115 rfl (by decide) rfl ?_
 refine AW.seq (AW.region ?_)
 refine AO.step rfl (box_ok T rfl 1 rfl rfl rfl rfl) ?_
 refine AO.step rfl (alloc_ok T rfl 2 rfl rfl rfl rfl rfl) ?_
 refine AO.pu T ?_
 refine AO.nil ?_
 iterate 2 refine AW.seq ?_
 refine AW.region ?_
 iterate 2 refine AO.pu T ?_
 refine AO.nil ?_
 refine AW.cond (b := (!ok)) rfl (fun hc => ?_) (fun hc => ?_)
 replace hH := condT hc hH
 refine AW.seq (AW.region ?_)
 refine AO.pu T (d := .g [(0 : Int), (0 : Int), (0 : Int), .w 0 [], .w 0 [], (0 : Int), .w 0 [], .w 0 []]) ?_
 refine AO.se T [(0 : Int), (0 : Int), (0 : Int), .w 0 [], .w 0 [], (0 : Int), .w 0 [], .w 0 []] ?_
 refine AO.pu T ?_
 refine AO.nil (AW.ret ?_)
 cases someE hH
 exact retQ.i [] rfl (.t (expLG_cons (.g (expLC_cons .v (expLC_cons .v (expLC_cons .v (expLC_cons .nilS (expLC_cons .nilS (expLC_cons .v (expLC_cons .nilS (expLC_cons .nilS (expLC_nil)))))))))) (expLG_cons (.c .v) (expLG_nil))))
 replace hH := condF hc hH
 refine AW.skip ?_
 refine AW.seq (AW.region ?_)
 refine AO.pu T (d := .g [e.segments, e.size, e.key, .s (List.map encEntrant e.entrants), .s (List.map encInt e.gone), e.segment, .s (List.map encInt e.order), .s (List.map encResult e.results)]) ?_
 refine AO.se T [e.segments, e.size, e.key, .s (List.map encEntrant e.entrants), .s (List.map encInt e.gone), e.segment, .s (List.map encInt e.order), .s (List.map encResult e.results)] ?_
 refine AO.pu T ?_
 refine AO.nil (AW.ret ?_)
 cases someE hH
 exact retQ.i [] rfl (.t (expLG_cons (.g (expLC_cons .v (expLC_cons .v (expLC_cons .v (expLC_cons .s (expLC_cons .s (expLC_cons .v (expLC_cons .s (expLC_cons .s (expLC_nil)))))))))) (expLG_cons (.c .v) (expLG_nil))))

def spec_l1Sign_p (n : Int) : Option Int :=
  cond (decide (n > 0))
    (some 1)
    (cond (decide (n < 0))
      (some (-1))
      (some 0))
theorem spec_l1Sign_ok (n : Int) (r : Int) (hH : spec_l1Sign_p n = some r) : SpecR Tryz.prog 186 [n] (.v (.int .i64 r)) := by
 refine fn_ok T Tryz.func186 rfl (by decide) rfl ?_
 refine AW.seq (AW.region ?_)
 refine AO.pu T ?_
 refine AO.nil (AW.seq ?_)
 refine AW.block ?_
 refine AW.seq (AW.region ?_)
 iterate 3 refine AO.pu T ?_
 refine AO.nil ?_
 refine AW.cond (b := decide (n > 0)) rfl (fun hc => ?_) (fun hc => ?_)
 replace hH := condT hc hH
 refine AW.seq (AW.region ?_)
 refine AO.pu T ?_
 refine AO.nil (AW.ret ?_)
 cases someE hH
 exact retQ.i [] rfl (.c (.c .v))
 replace hH := condF hc hH
 refine AW.seq (AW.region ?_)
 iterate 3 refine AO.pu T ?_
 refine AO.nil ?_
 refine AW.cond (b := decide (n < 0)) rfl (fun hc => ?_) (fun hc => ?_)
 replace hH := condT hc hH
 refine AW.seq (AW.region ?_)
 refine AO.pu T ?_
 refine AO.nil (AW.ret ?_)
 cases someE hH
 exact retQ.i [] rfl (.c (.c .v))
 replace hH := condF hc hH
 refine AW.skip ?_
 refine AW.seq (AW.region ?_)
 refine AO.pu T ?_
 refine AO.nil (AW.ret ?_)
 cases someE hH
 exact retQ.i [] rfl (.c (.c .v))

def spec_rkCompare_l1 (a : Result) (b : Result) : Nat → Int → Option Int
  | 0, _ => none
  | k9 + 1, v23 =>
    cond (decide (v23 ≥ 0))
      ((getI a.scores v23).bind fun x25 =>
      (getI b.scores v23).bind fun x27 =>
      cond (x25 != x27)
        ((spec_l1Sign_p (w64 (x25 - x27))).bind fun x29 =>
        some x29)
        (spec_rkCompare_l1 a b k9 (w64 (v23 - 1))))
      (some 0)
def spec_rkCompare_p (fuel : Nat) (a : Result) (b : Result) : Option Int :=
  (spec_rkTotal_p a).bind fun x1 =>
  (spec_rkTotal_p b).bind fun x3 =>
  cond (x1.2 != x3.2)
    ((spec_l1Sign_p (w64 (x1.2 - x3.2))).bind fun x5 =>
    some x5)
    (cond (x1.1 != x3.1)
      ((spec_l1Sign_p (w64 (x1.1 - x3.1))).bind fun x7 =>
      some x7)
      (spec_rkCompare_l1 a b fuel (w64 ((a.scores.length : Int) - 1))))
theorem spec_rkCompare_ok (fuel : Nat) (a : Result) (b : Result) (r : Int) (hH : spec_rkCompare_p fuel a b = some r) : SpecR Tryz.prog 149 [.g (encResult a), .g (encResult b)] (.v (.int .i64 r)) := by
 refine fn_ok T Tryz.func149 rfl (by decide) rfl ?_
 refine AW.seq (AW.region ?_)
 refine AO.step rfl (box_ok T rfl 1 rfl rfl rfl rfl) ?_
 refine AO.step rfl (box_ok T rfl 2 rfl rfl rfl rfl) ?_
 refine AO.pu T ?_
 refine AO.nil (AW.seq ?_)
 obtain ⟨x1, hx2, hH⟩ := bindE hH
 refine AW.region ?_
 refine AO.pu T (d := .g [a.skater, .s (List.map encInt a.scores)]) ?_
 refine AO.val rfl rfl (callV_ok rfl rfl rfl rfl (spec_rkTotal_ok _ _ (hx2)) rfl) ?_
 iterate 5 refine AO.pu T ?_
 refine AO.nil (AW.seq ?_)
 obtain ⟨x3, hx4, hH⟩ := bindE hH
 refine AW.region ?_
 refine AO.pu T (d := .g [b.skater, .s (List.map encInt b.scores)]) ?_
 refine AO.val rfl rfl (callV_ok rfl rfl rfl rfl (spec_rkTotal_ok _ _ (hx4)) rfl) ?_
 iterate 5 refine AO.pu T ?_
 refine AO.nil ?_
 iterate 2 refine AW.seq ?_
 refine AW.region ?_
 iterate 3 refine AO.pu T ?_
 refine AO.nil ?_
 refine AW.cond (b := (x1.2 != x3.2)) rfl (fun hc => ?_) (fun hc => ?_)
 replace hH := condT hc hH
 refine AW.seq ?_
 obtain ⟨x5, hx6, hH⟩ := bindE hH
 refine AW.region ?_
 iterate 2 refine AO.pu T ?_
 refine AO.val rfl rfl (arw_ok rfl rfl rfl rfl) ?_
 refine AO.val rfl rfl (callV_ok rfl rfl rfl rfl (spec_l1Sign_ok _ _ (hx6)) rfl) ?_
 refine AO.pu T ?_
 refine AO.nil ?_
 refine AW.le (Le.ct 0 0 (σ' := (⟨[(4, x5)], [], 65, []⟩ : St))) ?_
 refine AW.ret ?_
 cases someE hH
 exact retQ.i [] rfl (.c (.c .v))
 replace hH := condF hc hH
 refine AW.skip ?_
 iterate 2 refine AW.seq ?_
 refine AW.region ?_
 iterate 3 refine AO.pu T ?_
 refine AO.nil ?_
 refine AW.cond (b := (x1.1 != x3.1)) rfl (fun hc => ?_) (fun hc => ?_)
 replace hH := condT hc hH
 refine AW.seq ?_
 obtain ⟨x7, hx8, hH⟩ := bindE hH
 refine AW.region ?_
 iterate 2 refine AO.pu T ?_
 refine AO.val rfl rfl (arw_ok rfl rfl rfl rfl) ?_
 refine AO.val rfl rfl (callV_ok rfl rfl rfl rfl (spec_l1Sign_ok _ _ (hx8)) rfl) ?_
 refine AO.pu T ?_
 refine AO.nil ?_
 refine AW.le (Le.ct 0 0 (σ' := (⟨[(4, x7)], [], 65, []⟩ : St))) ?_
 refine AW.ret ?_
 cases someE hH
 exact retQ.i [] rfl (.c (.c .v))
 replace hH := condF hc hH
 refine AW.skip ?_
 iterate 2 refine AW.seq ?_
 refine AW.region ?_
 iterate 2 refine AO.pu T ?_
 refine AO.val rfl rfl (len_map_ok T rfl rfl rfl) ?_
 refine AO.val rfl rfl (arw_ok rfl rfl rfl rfl) ?_
 refine AO.pu T ?_
 refine AO.nil ?_
 refine AW.le (Le.ct 0 0 (σ' := (⟨[(2, .p 1 0), (3, .p 2 0), (9, w64 ((a.scores.length : Int) - 1))], [(1, .box [a.skater, .s (List.map encInt a.scores)]), (2, .box [b.skater, .s (List.map encInt b.scores)])], 65, []⟩ : St))) ?_
 refine AW.block ?_
 refine AW.loopS (fun s : Nat × Int => (⟨[(2, .p 1 0), (3, .p 2 0), (9, s.2)], [(1, .box [a.skater, .s (List.map encInt a.scores)]), (2, .box [b.skater, .s (List.map encInt b.scores)])], 65, []⟩ : St)) (fun s => spec_rkCompare_l1 a b s.1 s.2 = some r) (fun s => s.1) (fuel, w64 ((a.scores.length : Int) - 1)) hH ?_ ?_
 exact Le.ct 0 0
 rintro ⟨k9, v23⟩ hH
 replace hH : spec_rkCompare_l1 a b k9 v23 = some r := hH
 try dsimp only
 rcases k9 with _ | k9
 cases (show none = some _ from hH)
 rw [spec_rkCompare_l1] at hH
 iterate 2 refine AW.seq ?_
 refine AW.region ?_
 iterate 2 refine AO.pu T ?_
 refine AO.nil ?_
 refine AW.cond (b := decide (v23 ≥ 0)) rfl (fun hc => ?_) (fun hc => ?_)
 replace hH := condT hc hH
 refine AW.skip ?_
 refine AW.seq ?_
 refine AW.block ?_
 refine AW.seq ?_
 obtain ⟨x25, hx26, hH⟩ := bindE hH
 obtain ⟨x27, hx28, hH⟩ := bindE hH
 refine AW.drawn 10 3 [] mix (by kernel_rfl) rfl ?_
 iterate 3 refine AD.pure T rfl rfl rfl ?_
 refine AD.val rfl rfl (ix_map_ok T rfl rfl rfl rfl rfl (hx26) rfl) ?_
 iterate 4 refine AD.pure T rfl rfl rfl ?_
 refine AD.val rfl rfl (ix_map_ok T rfl rfl rfl rfl rfl (hx28) rfl) ?_
 refine AD.pure T rfl rfl rfl ?_
 refine AD.nil ?_
 refine AO.pu T ?_
 refine AO.nil ?_
 refine AW.cond (b := (x25 != x27)) rfl (fun hc => ?_) (fun hc => ?_)
 replace hH := condT hc hH
 refine AW.seq ?_
 obtain ⟨x29, hx30, hH⟩ := bindE hH
 refine AW.drawn 10 3 [] mix (by kernel_rfl) rfl ?_
 iterate 3 refine AD.pure T rfl rfl rfl ?_
 refine AD.val rfl rfl (ix_map_ok T rfl rfl rfl rfl rfl (hx26) rfl) ?_
 iterate 4 refine AD.pure T rfl rfl rfl ?_
 refine AD.val rfl rfl (ix_map_ok T rfl rfl rfl rfl rfl (hx28) rfl) ?_
 refine AD.pure T rfl rfl rfl ?_
 refine AD.nil ?_
 refine AO.val rfl rfl (arw_ok rfl rfl rfl rfl) ?_
 refine AO.val rfl rfl (callV_ok rfl rfl rfl rfl (spec_l1Sign_ok _ _ (hx30)) rfl) ?_
 refine AO.pu T ?_
 refine AO.nil ?_
 refine AW.le (Le.ct 0 0 (σ' := (⟨[(4, x29)], [], 65, []⟩ : St))) ?_
 refine AW.ret ?_
 cases someE hH
 exact retQ.i [] rfl (.c (.c .v))
 replace hH := condF hc hH
 refine AW.skip ?_
 refine AW.region ?_
 refine AO.pu T ?_
 refine AO.val rfl rfl (arw_ok rfl rfl rfl rfl) ?_
 refine AO.pu T ?_
 refine AO.nil ?_
 refine ⟨(k9, w64 (v23 - 1)), hH, Nat.lt_succ_self _, ?_⟩
 exact Le.ct 0 0
 replace hH := condF hc hH
 refine AW.exit ?_
 refine AW.seq (AW.region ?_)
 refine AO.pu T ?_
 refine AO.nil (AW.ret ?_)
 cases someE hH
 exact retQ.i [] rfl (.c (.c .v))

def spec_rkPlace_l1 (l : List Result) (i : Int) (fuel : Nat) : List Result → Nat → Int → Option Int
  | [], k1, v16 =>
    some v16
  | y2 :: ys3, k1, v16 =>
    (getI l i).bind fun x18 =>
    (spec_rkCompare_p fuel y2 x18).bind fun x20 =>
    cond (decide (x20 > 0))
      (spec_rkPlace_l1 l i fuel ys3 (k1 + 1) (w64 (v16 + 1)))
      (spec_rkPlace_l1 l i fuel ys3 (k1 + 1) v16)
def spec_rkPlace_p (fuel : Nat) (l : List Result) (i : Int) : Option Int :=
  spec_rkPlace_l1 l i fuel l 0 1
theorem spec_rkPlace_ok (fuel : Nat) (l : List Result) (i : Int) (r : Int) (hH : spec_rkPlace_p fuel l i = some r) : SpecR Tryz.prog 105 [.s (List.map encResult l), i] (.v (.int .i64 r)) := by
 refine fn_ok T Tryz.func105 rfl (by decide) rfl ?_
 refine AW.seq (AW.region ?_)
 refine AO.pu T ?_
 refine AO.nil (AW.seq ?_)
 refine AW.region ?_
 refine AO.pu T ?_
 refine AO.nil ?_
 iterate 2 refine AW.seq ?_
 refine AW.region ?_
 refine AO.pu T ?_
 refine AO.val rfl rfl (len_map_ok T rfl rfl rfl) ?_
 refine AO.pu T ?_
 refine AO.nil ?_
 refine AW.block ?_
 refine AW.loopS (fun s : Nat × Int => (⟨[(0, .s (List.map encResult l)), (1, i), (5, s.2), (8, .s (List.map encResult l)), (9, (l.length : Int)), (10, (s.1 : Int))], [], 25, []⟩ : St)) (fun s => s.1 ≤ l.length ∧ spec_rkPlace_l1 l i fuel (l.drop s.1) s.1 s.2 = some r) (fun s => l.length - s.1) (0, 1) ⟨Nat.zero_le _, hH⟩ ?_ ?_
 exact Le.ct 0 0
 rintro ⟨k1, v16⟩ ⟨hk, hH⟩
 replace hH : spec_rkPlace_l1 l i fuel (l.drop k1) k1 v16 = some r := hH
 try dsimp only
 refine AW.boundM (t := 0) (l := l) rfl (fun hb5 => ?_)
 rcases hd4 : l.drop k1 with _ | ⟨y2, ys3⟩
 rw [hd4, spec_rkPlace_l1] at hH
 have hlt6 := drop_ge hd4
 refine AW.seq (AW.region ?_)
 refine AO.pu T ?_
 refine AO.nil (AW.seq ?_)
 refine AW.condF' (b := decide ((k1 : Int) < (l.length : Int))) rfl (rngF hlt6) ?_
 refine AW.exit ?_
 refine AW.seq (AW.region ?_)
 iterate 2 refine AO.pu T ?_
 refine AO.nil (AW.ret ?_)
 cases someE hH
 exact retQ.i [] rfl (.c (.c .v))
 rw [hd4, spec_rkPlace_l1] at hH
 have hlt6 := drop_lt hd4
 refine AW.seq (AW.region ?_)
 refine AO.pu T ?_
 refine AO.nil (AW.seq ?_)
 refine AW.condT' (b := decide ((k1 : Int) < (l.length : Int))) rfl (rngT hlt6) ?_
 refine AW.skip ?_
 refine AW.seq ?_
 refine AW.block ?_
 refine AW.seq (AW.region ?_)
 refine AO.val rfl rfl (ix_map_ok T rfl rfl rfl rfl rfl (getI_drop hd4) rfl) ?_
 refine AO.pu T (d := .g [y2.skater, .s (List.map encInt y2.scores)]) ?_
 refine AO.step rfl (alloc_ok T rfl 3 rfl rfl rfl rfl rfl) ?_
 refine AO.se T [y2.skater, .s (List.map encInt y2.scores)] ?_
 refine AO.nil (AW.seq ?_)
 obtain ⟨x18, hx19, hH⟩ := bindE hH
 obtain ⟨x20, hx21, hH⟩ := bindE hH
 refine AW.drawn 5 4 [] mix (by kernel_rfl) rfl ?_
 refine AD.pure T (d := .g [y2.skater, .s (List.map encInt y2.scores)]) rfl rfl rfl ?_
 iterate 2 refine AD.pure T rfl rfl rfl ?_
 refine AD.val rfl rfl (ix_map_ok T rfl rfl rfl rfl rfl (hx19) rfl) ?_
 refine AD.pure T (d := .g [x18.skater, .s (List.map encInt x18.scores)]) rfl rfl rfl ?_
 refine AD.nil ?_
 refine AO.val rfl rfl (callV_ok rfl rfl rfl rfl (spec_rkCompare_ok fuel _ _ _ (hx21)) rfl) ?_
 refine AO.pu T ?_
 refine AO.nil ?_
 refine AW.cond (b := decide (x20 > 0)) rfl (fun hc => ?_) (fun hc => ?_)
 replace hH := condT hc hH
 refine AW.region ?_
 refine AO.pu T ?_
 refine AO.val rfl rfl (arw_ok rfl rfl rfl rfl) ?_
 refine AO.pu T ?_
 refine AO.nil ?_
 refine AW.region ?_
 refine AO.val rfl rfl (ar_ok rfl rfl rfl rfl (inI_succ hlt6 hb5)) ?_
 refine AO.pu T ?_
 refine AO.nil ?_
 refine ⟨(k1 + 1, w64 (v16 + 1)), ⟨Nat.succ_le_of_lt hlt6, (by rw [drop_succ_of hd4]; exact hH)⟩, (by have := hlt6; dsimp only; omega), ?_⟩
 exact Le.ct 0 0
 replace hH := condF hc hH
 refine AW.skip ?_
 refine AW.region ?_
 refine AO.val rfl rfl (ar_ok rfl rfl rfl rfl (inI_succ hlt6 hb5)) ?_
 refine AO.pu T ?_
 refine AO.nil ?_
 refine ⟨(k1 + 1, v16), ⟨Nat.succ_le_of_lt hlt6, (by rw [drop_succ_of hd4]; exact hH)⟩, (by have := hlt6; dsimp only; omega), ?_⟩
 exact Le.ct 0 0

end Go.Proofs.YtbclgnikhophlaaGreat

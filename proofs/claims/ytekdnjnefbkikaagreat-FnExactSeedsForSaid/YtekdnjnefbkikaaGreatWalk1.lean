/- The walk, part 1: what each function reached by the law FnExactSeedsFor computes. No condition. -/
import Derived.Test.YtekdnjnefbkikaaGreatAm6
import Derived.Test.YtekdnjnefbkikaaGreatShelf
import Derived.Test.YtekdnjnefbkikaaGreatProg
set_option maxRecDepth 4000
set_option maxHeartbeats 1000000
set_option linter.unusedVariables false
set_option linter.unusedSimpArgs false
set_option linter.unusedSectionVars false

namespace Go.Proofs.YtekdnjnefbkikaaGreat
open Go.AM
def teL : List (Option TI) := [
  none,
  none,
  some ⟨.int .i64, 1, 8, some (.int .i64 0)⟩,
  some ⟨.int .i64, 1, 8, some (.int .i64 0)⟩,
  some ⟨.bool, 1, 1, some (.bool false)⟩,
  some ⟨.int .u8, 1, 1, some (.int .u8 0)⟩,
  some ⟨.int .u8, 1, 1, some (.int .u8 0)⟩,
  some ⟨.struct [(0, 2), (1, 3), (2, 4), (3, 6)], 4, 24, some (.agg #[.int .i64 0, .int .i64 0, .bool false, .int .u8 0])⟩,
  some ⟨.struct [(0, 2), (1, 3), (2, 4), (3, 6)], 4, 24, some (.agg #[.int .i64 0, .int .i64 0, .bool false, .int .u8 0])⟩,
  some ⟨.str, 1, 16, some (.string ⟨#[]⟩)⟩,
  some ⟨.str, 1, 16, some (.string ⟨#[]⟩)⟩,
  some ⟨.str, 1, 16, some (.string ⟨#[]⟩)⟩,
  some ⟨.int .u64, 1, 8, some (.int .u64 0)⟩,
  some ⟨.struct [(0, 9), (1, 12)], 2, 24, some (.agg #[.string ⟨#[]⟩, .int .u64 0])⟩,
  some ⟨.struct [(0, 9), (1, 12)], 2, 24, some (.agg #[.string ⟨#[]⟩, .int .u64 0])⟩,
  some ⟨.ptr 186, 1, 8, some (.pointer none)⟩,
  some ⟨.ptr 189, 1, 8, some (.pointer none)⟩,
  some ⟨.ptr 197, 1, 8, some (.pointer none)⟩,
  some ⟨.struct [(0, 17)], 1, 8, some (.agg #[.pointer none])⟩,
  some ⟨.struct [(0, 17)], 1, 8, some (.agg #[.pointer none])⟩,
  none,
  some ⟨.int .i32, 1, 4, some (.int .i32 0)⟩,
  some ⟨.slice 113, 1, 24, some (.slice none 0 0)⟩,
  some ⟨.slice 3, 1, 24, some (.slice none 0 0)⟩,
  some ⟨.struct [(0, 22), (1, 23)], 2, 48, some (.agg #[.slice none 0 0, .slice none 0 0])⟩,
  some ⟨.struct [(0, 22), (1, 23)], 2, 48, some (.agg #[.slice none 0 0, .slice none 0 0])⟩,
  none,
  some ⟨.slice 84, 1, 24, some (.slice none 0 0)⟩,
  none,
  none,
  some ⟨.slice 73, 1, 24, some (.slice none 0 0)⟩,
  some ⟨.struct [(0, 30), (1, 23)], 2, 48, some (.agg #[.slice none 0 0, .slice none 0 0])⟩,
  some ⟨.struct [(0, 30), (1, 23)], 2, 48, some (.agg #[.slice none 0 0, .slice none 0 0])⟩,
  none,
  none,
  none,
  none,
  none,
  none,
  none,
  none,
  none,
  some ⟨.slice 5, 1, 24, some (.slice none 0 0)⟩,
  none,
  none,
  some ⟨.slice 51, 1, 24, some (.slice none 0 0)⟩,
  none,
  none,
  none,
  none,
  some ⟨.struct [(0, 3), (1, 3), (2, 3)], 3, 24, some (.agg #[.int .i64 0, .int .i64 0, .int .i64 0])⟩,
  some ⟨.struct [(0, 3), (1, 3), (2, 3)], 3, 24, some (.agg #[.int .i64 0, .int .i64 0, .int .i64 0])⟩,
  none,
  none,
  none,
  none,
  none,
  none,
  none,
  none,
  some ⟨.struct [(0, 3), (1, 3), (2, 3)], 3, 24, some (.agg #[.int .i64 0, .int .i64 0, .int .i64 0])⟩,
  some ⟨.struct [(0, 3), (1, 3), (2, 3)], 3, 24, some (.agg #[.int .i64 0, .int .i64 0, .int .i64 0])⟩,
  none,
  none,
  none,
  none,
  some ⟨.slice 23, 1, 24, some (.slice none 0 0)⟩,
  none,
  none,
  none,
  none,
  some ⟨.slice 107, 1, 24, some (.slice none 0 0)⟩,
  some ⟨.struct [(0, 3), (1, 71)], 2, 32, some (.agg #[.int .i64 0, .slice none 0 0])⟩,
  some ⟨.struct [(0, 3), (1, 71)], 2, 32, some (.agg #[.int .i64 0, .slice none 0 0])⟩,
  none,
  none,
  none,
  none,
  none,
  none,
  none,
  none,
  none,
  some ⟨.struct [(0, 3), (1, 3)], 2, 16, some (.agg #[.int .i64 0, .int .i64 0])⟩,
  some ⟨.struct [(0, 3), (1, 3)], 2, 16, some (.agg #[.int .i64 0, .int .i64 0])⟩,
  none,
  none,
  none,
  none,
  none,
  none,
  none,
  none,
  none,
  none,
  some ⟨.ptr 98, 1, 8, some (.pointer none)⟩,
  some ⟨.int .u64, 1, 8, some (.int .u64 0)⟩,
  some ⟨.struct [(0, 42), (1, 3), (2, 96)], 3, 40, some (.agg #[.slice none 0 0, .int .i64 0, .int .u64 0])⟩,
  some ⟨.struct [(0, 42), (1, 3), (2, 96)], 3, 40, some (.agg #[.slice none 0 0, .int .i64 0, .int .u64 0])⟩,
  none,
  none,
  none,
  none,
  none,
  none,
  none,
  some ⟨.struct [(0, 3), (1, 23), (2, 23)], 3, 56, some (.agg #[.int .i64 0, .slice none 0 0, .slice none 0 0])⟩,
  some ⟨.struct [(0, 3), (1, 23), (2, 23)], 3, 56, some (.agg #[.int .i64 0, .slice none 0 0, .slice none 0 0])⟩,
  none,
  none,
  none,
  some ⟨.slice 149, 1, 24, some (.slice none 0 0)⟩,
  some ⟨.struct [(0, 3), (1, 111)], 2, 32, some (.agg #[.int .i64 0, .slice none 0 0])⟩,
  some ⟨.struct [(0, 3), (1, 111)], 2, 32, some (.agg #[.int .i64 0, .slice none 0 0])⟩,
  none,
  none,
  none,
  none,
  none,
  some ⟨.slice 61, 1, 24, some (.slice none 0 0)⟩,
  none,
  none,
  none,
  none,
  none,
  none,
  none,
  none,
  none,
  none,
  none,
  none,
  none,
  none,
  none,
  none,
  none,
  none,
  none,
  none,
  none,
  none,
  none,
  some ⟨.int .u64, 1, 8, some (.int .u64 0)⟩,
  none,
  some ⟨.ptr 107, 1, 8, some (.pointer none)⟩,
  none,
  none,
  none,
  some ⟨.struct [(0, 3), (1, 23), (2, 23)], 3, 56, some (.agg #[.int .i64 0, .slice none 0 0, .slice none 0 0])⟩,
  none,
  none,
  none,
  none,
  none,
  none,
  some ⟨.int .i64, 1, 8, some (.int .i64 0)⟩,
  none,
  none,
  none,
  none,
  none,
  none,
  some ⟨.int .u32, 1, 4, some (.int .u32 0)⟩,
  none,
  some ⟨.ptr 61, 1, 8, some (.pointer none)⟩,
  none,
  some ⟨.int .u64, 1, 8, some (.int .u64 0)⟩,
  none,
  none,
  none,
  some ⟨.ptr 3, 1, 8, some (.pointer none)⟩,
  none,
  none,
  none,
  none,
  none,
  none,
  some ⟨.ptr 167, 1, 8, some (.pointer none)⟩,
  none,
  none,
  none,
  none,
  none,
  none,
  some ⟨.struct [(0, 17), (1, 17), (2, 17), (3, 9)], 4, 40, some (.agg #[.pointer none, .pointer none, .pointer none, .string ⟨#[]⟩])⟩,
  some ⟨.struct [(0, 17), (1, 17), (2, 17), (3, 9)], 4, 40, some (.agg #[.pointer none, .pointer none, .pointer none, .string ⟨#[]⟩])⟩,
  some ⟨.array 0 16, 0, 0, some (.agg #[])⟩,
  some ⟨.struct [(0, 187)], 0, 0, some (.agg #[])⟩,
  some ⟨.struct [(0, 187)], 0, 0, some (.agg #[])⟩,
  some ⟨.int .u8, 1, 1, some (.int .u8 0)⟩,
  some ⟨.int .u8, 1, 1, some (.int .u8 0)⟩,
  none,
  some ⟨.ptr 5, 1, 8, some (.pointer none)⟩,
  some ⟨.int .i32, 1, 4, some (.int .i32 0)⟩,
  some ⟨.int .i32, 1, 4, some (.int .i32 0)⟩,
  some ⟨.struct [(0, 12), (1, 12), (2, 163), (3, 190), (4, 5), (5, 5), (6, 191), (7, 192), (8, 193), (9, 194), (10, 195)], 11, 48, some (.agg #[.int .u64 0, .int .u64 0, .int .u32 0, .int .u8 0, .int .u8 0, .int .u8 0, .int .u8 0, .nilFunc, .pointer none, .int .i32 0, .int .i32 0])⟩,
  some ⟨.struct [(0, 12), (1, 12), (2, 163), (3, 190), (4, 5), (5, 5), (6, 191), (7, 192), (8, 193), (9, 194), (10, 195)], 11, 48, some (.agg #[.int .u64 0, .int .u64 0, .int .u32 0, .int .u8 0, .int .u8 0, .int .u8 0, .int .u8 0, .nilFunc, .pointer none, .int .i32 0, .int .i32 0])⟩,
  none]
def te : TE := teOf teL
theorem T : TEok Tryz.prog te := TEok_of (by kernel_rfl)
theorem mix : Tryz.prog.follows .mixedOrders = true := by kernel_rfl

def encInt (x : Int) : List D := [.v (.int .i64 x)]
def encBool (x : Bool) : List D := [.v (.bool x)]
def encStr (x : ByteArray) : List D := [.v (.string x)]
def encInt_u8 (x : Int) : List D := [.v (.int .u8 x)]
def encInt_u64 (x : Int) : List D := [.v (.int .u64 x)]
def encInt_i32 (x : Int) : List D := [.v (.int .i32 x)]
def encLInt (x : List Int) : List D := [.s (x.map encInt)]
def encLIntO (x : List Int) : List D := [.w 1 (x.map encInt)]
theorem frzLInt (x : List Int) : FrzL (encLIntO x) (encLInt x) := .cons (.map fun y => .vs rfl) .nil
structure Line where
  skater : Int
  events : List Int
  points : List Int
  deriving Inhabited, DecidableEq
def encLine (x : Line) : List D := [.v (.int .i64 x.skater), .s (x.events.map encInt), .s (x.points.map encInt)]
def encLineO (x : Line) : List D := [.v (.int .i64 x.skater), .w 1 (x.events.map encInt), .w 1 (x.points.map encInt)]
theorem frzLine (x : Line) : FrzL (encLineO x) (encLine x) := .cons (.vs rfl) (.cons (.map fun y => .vs rfl) (.cons (.map fun y => .vs rfl) (.nil)))
structure Season where
  best : Int
  lines : List Line
  deriving Inhabited, DecidableEq
def encSeason (x : Season) : List D := [.v (.int .i64 x.best), .s (x.lines.map encLine)]
def encSeasonO (x : Season) : List D := [.v (.int .i64 x.best), .w 3 (x.lines.map encLineO)]
theorem frzSeason (x : Season) : FrzL (encSeasonO x) (encSeason x) := .cons (.vs rfl) (.cons (.map fun y => frzLine y) (.nil))
structure World where
  seasons : List Season
  weights : List Int
  deriving Inhabited, DecidableEq
def encWorld (x : World) : List D := [.s (x.seasons.map encSeason), .s (x.weights.map encInt)]
def encWorldO (x : World) : List D := [.w 2 (x.seasons.map encSeasonO), .w 1 (x.weights.map encInt)]
theorem frzWorld (x : World) : FrzL (encWorldO x) (encWorld x) := .cons (.map fun y => frzSeason y) (.cons (.map fun y => .vs rfl) (.nil))
structure Entrant where
  skater : Int
  rank : Int
  deriving Inhabited, DecidableEq
def encEntrant (x : Entrant) : List D := [.v (.int .i64 x.skater), .v (.int .i64 x.rank)]
structure Entry where
  event : Int
  skater : Int
  points : Int
  deriving Inhabited, DecidableEq
def encEntry (x : Entry) : List D := [.v (.int .i64 x.event), .v (.int .i64 x.skater), .v (.int .i64 x.points)]
structure Rank where
  skater : Int
  total : Int
  place : Int
  deriving Inhabited, DecidableEq
def encRank (x : Rank) : List D := [.v (.int .i64 x.skater), .v (.int .i64 x.total), .v (.int .i64 x.place)]

def laws_szIntS_p (a : List Int) (left : Int) : Option Int :=
  cond (decide ((w64 (left - (a.length : Int))) < 0))
    (some (-1))
    (some (w64 (left - (a.length : Int))))
theorem laws_szIntS_ok (a : List Int) (left : Int) (r : Int) (hH : laws_szIntS_p a left = some r) : SpecR Tryz.prog 51 [.s (List.map encInt a), .v (.int .i64 left)] (.v (.int .i64 r)) := by
  refine fn_ok T Tryz.func51 rfl (by decide) rfl ?_
  refine AW.seq ?_
  refine AW.region ?_
  refine AO.pure T rfl rfl rfl ?_
  refine AO.nil ?_
  refine AW.seq ?_
  refine AW.region ?_
  refine AO.pure T rfl rfl rfl ?_
  refine AO.pure T rfl rfl rfl ?_
  refine AO.val rfl rfl (len_map_ok T rfl rfl rfl) ?_
  refine AO.val rfl rfl (arw_ok rfl rfl rfl rfl) ?_
  refine AO.pure T rfl rfl rfl ?_
  refine AO.nil ?_
  refine AW.seq ?_
  refine AW.seq ?_
  refine AW.region ?_
  refine AO.pure T rfl rfl rfl ?_
  refine AO.pure T rfl rfl rfl ?_
  refine AO.nil ?_
  refine AW.cond (b := decide ((w64 (left - (a.length : Int))) < 0)) rfl (fun hc => ?_) (fun hc => ?_)
  · replace hH := condT hc hH
    refine AW.seq ?_
    refine AW.region ?_
    refine AO.pure T rfl rfl rfl ?_
    refine AO.nil ?_
    refine AW.ret ?_
    cases someE hH
    exact ⟨trivial, _, [], rfl, .c (.c .v), by decide⟩
  · replace hH := condF hc hH
    refine AW.skip ?_
    refine AW.seq ?_
    refine AW.region ?_
    refine AO.pure T rfl rfl rfl ?_
    refine AO.pure T rfl rfl rfl ?_
    refine AO.nil ?_
    refine AW.ret ?_
    cases someE hH
    exact ⟨trivial, _, [], rfl, .c (.c .v), by decide⟩

def laws_szLine_p (a : Line) (left : Int) : Option Int :=
  (laws_szIntS_p a.events left).bind fun x1 =>
  cond (decide (x1 < 0))
    (some (-1))
    ((laws_szIntS_p a.points x1).bind fun x3 =>
    cond (decide (x3 < 0))
      (some (-1))
      (some x3))
theorem laws_szLine_ok (a : Line) (left : Int) (r : Int) (hH : laws_szLine_p a left = some r) : SpecR Tryz.prog 136 [.g (encLine a), .v (.int .i64 left)] (.v (.int .i64 r)) := by
  refine fn_ok T Tryz.func136 rfl (by decide) rfl ?_
  refine AW.seq ?_
  refine AW.region ?_
  refine AO.step rfl (box_ok T rfl 1 rfl rfl rfl rfl) ?_
  refine AO.pure T rfl rfl rfl ?_
  refine AO.nil ?_
  refine AW.seq ?_
  obtain ⟨x1, hx2, hH⟩ := bindE hH
  refine AW.region ?_
  refine AO.pure T rfl rfl rfl ?_
  refine AO.pure T rfl rfl rfl ?_
  refine AO.pure T rfl rfl rfl ?_
  refine AO.val rfl rfl (callV_ok rfl rfl rfl rfl (laws_szIntS_ok _ _ _ (hx2)) rfl) ?_
  refine AO.pure T rfl rfl rfl ?_
  refine AO.nil ?_
  refine AW.seq ?_
  refine AW.seq ?_
  refine AW.region ?_
  refine AO.pure T rfl rfl rfl ?_
  refine AO.pure T rfl rfl rfl ?_
  refine AO.nil ?_
  refine AW.cond (b := decide (x1 < 0)) rfl (fun hc => ?_) (fun hc => ?_)
  · replace hH := condT hc hH
    refine AW.seq ?_
    refine AW.region ?_
    refine AO.pure T rfl rfl rfl ?_
    refine AO.nil ?_
    refine AW.ret ?_
    cases someE hH
    exact ⟨trivial, _, [], rfl, .c (.c .v), by decide⟩
  · replace hH := condF hc hH
    refine AW.skip ?_
    refine AW.seq ?_
    obtain ⟨x3, hx4, hH⟩ := bindE hH
    refine AW.region ?_
    refine AO.pure T rfl rfl rfl ?_
    refine AO.pure T rfl rfl rfl ?_
    refine AO.pure T rfl rfl rfl ?_
    refine AO.val rfl rfl (callV_ok rfl rfl rfl rfl (laws_szIntS_ok _ _ _ (hx4)) rfl) ?_
    refine AO.pure T rfl rfl rfl ?_
    refine AO.nil ?_
    refine AW.seq ?_
    refine AW.seq ?_
    refine AW.region ?_
    refine AO.pure T rfl rfl rfl ?_
    refine AO.pure T rfl rfl rfl ?_
    refine AO.nil ?_
    refine AW.cond (b := decide (x3 < 0)) rfl (fun hc => ?_) (fun hc => ?_)
    · replace hH := condT hc hH
      refine AW.seq ?_
      refine AW.region ?_
      refine AO.pure T rfl rfl rfl ?_
      refine AO.nil ?_
      refine AW.ret ?_
      cases someE hH
      exact ⟨trivial, _, [], rfl, .c (.c .v), by decide⟩
    · replace hH := condF hc hH
      refine AW.skip ?_
      refine AW.seq ?_
      refine AW.region ?_
      refine AO.pure T rfl rfl rfl ?_
      refine AO.pure T rfl rfl rfl ?_
      refine AO.nil ?_
      refine AW.ret ?_
      cases someE hH
      exact ⟨trivial, _, [], rfl, .c (.c .v), by decide⟩

def laws_szLineS_l1 : List Line → Nat → Int → Option Int
  | [], k1, v12 =>
    some v12
  | y2 :: ys3, k1, v12 =>
    (laws_szLine_p y2 v12).bind fun x14 =>
    cond (decide (x14 < 0))
      (some (-1))
      (laws_szLineS_l1 ys3 (k1 + 1) x14)
def laws_szLineS_p (a : List Line) (left : Int) : Option Int :=
  cond (decide ((w64 (left - (a.length : Int))) < 0))
    (some (-1))
    (laws_szLineS_l1 a 0 (w64 (left - (a.length : Int))))
theorem laws_szLineS_ok (a : List Line) (left : Int) (r : Int) (hH : laws_szLineS_p a left = some r) : SpecR Tryz.prog 117 [.s (List.map encLine a), .v (.int .i64 left)] (.v (.int .i64 r)) := by
  refine fn_ok T Tryz.func117 rfl (by decide) rfl ?_
  refine AW.seq ?_
  refine AW.region ?_
  refine AO.pure T rfl rfl rfl ?_
  refine AO.nil ?_
  refine AW.seq ?_
  refine AW.region ?_
  refine AO.pure T rfl rfl rfl ?_
  refine AO.pure T rfl rfl rfl ?_
  refine AO.val rfl rfl (len_map_ok T rfl rfl rfl) ?_
  refine AO.val rfl rfl (arw_ok rfl rfl rfl rfl) ?_
  refine AO.pure T rfl rfl rfl ?_
  refine AO.nil ?_
  refine AW.seq ?_
  refine AW.seq ?_
  refine AW.region ?_
  refine AO.pure T rfl rfl rfl ?_
  refine AO.pure T rfl rfl rfl ?_
  refine AO.nil ?_
  refine AW.cond (b := decide ((w64 (left - (a.length : Int))) < 0)) rfl (fun hc => ?_) (fun hc => ?_)
  · replace hH := condT hc hH
    refine AW.seq ?_
    refine AW.region ?_
    refine AO.pure T rfl rfl rfl ?_
    refine AO.nil ?_
    refine AW.ret ?_
    cases someE hH
    exact ⟨trivial, _, [], rfl, .c (.c .v), by decide⟩
  · replace hH := condF hc hH
    refine AW.skip ?_
    refine AW.seq ?_
    refine AW.seq ?_
    refine AW.region ?_
    refine AO.pure T rfl rfl rfl ?_
    refine AO.nil ?_
    refine AW.block ?_
    refine AW.loopS (fun s : Nat × Int => (⟨[(0, .s (List.map encLine a)), (1, .v (.int .i64 s.2)), (5, .v (.int .i64 (s.1 : Int)))], [], 27, []⟩ : St)) (fun s => s.1 ≤ a.length ∧ laws_szLineS_l1 (a.drop s.1) s.1 s.2 = some r) (fun s => a.length - s.1) (0, w64 (left - (a.length : Int))) ⟨Nat.zero_le _, hH⟩ ?_ ?_
    · exact Le.cut 0 0 rfl (by repeat' (first | exact trivial | refine ⟨⟨_, rfl, rfl⟩, ?_⟩)) (by repeat' (first | exact trivial | refine ⟨⟨_, rfl, rfl⟩, ?_⟩)) rfl
    · rintro ⟨k1, v12⟩ ⟨hk, hH⟩
      replace hH : laws_szLineS_l1 (a.drop k1) k1 v12 = some r := hH
      show AW _ _ _ (⟨[(0, .s (List.map encLine a)), (1, .v (.int .i64 v12)), (5, .v (.int .i64 (k1 : Int)))], [], 27, []⟩ : St)
      refine AW.boundM (t := 0) (l := a) rfl (fun hb5 => ?_)
      cases hd4 : a.drop k1 with
      | nil =>
        rw [hd4] at hH
        rw [laws_szLineS_l1] at hH
        have hlt6 := drop_ge hd4
        refine AW.seq ?_
        refine AW.seq ?_
        refine AW.region ?_
        refine AO.pure T rfl rfl rfl ?_
        refine AO.pure T rfl rfl rfl ?_
        refine AO.val rfl rfl (len_map_ok T rfl rfl rfl) ?_
        refine AO.pure T rfl rfl rfl ?_
        refine AO.nil ?_
        refine AW.condF' (b := decide ((k1 : Int) < (a.length : Int))) rfl (rngF hlt6) ?_
        refine AW.exit ?_
        refine AW.seq ?_
        refine AW.region ?_
        refine AO.pure T rfl rfl rfl ?_
        refine AO.pure T rfl rfl rfl ?_
        refine AO.nil ?_
        refine AW.ret ?_
        cases someE hH
        exact ⟨trivial, _, [], rfl, .c (.c .v), by decide⟩
      | cons y2 ys3 =>
        rw [hd4] at hH
        rw [laws_szLineS_l1] at hH
        have hlt6 := drop_lt hd4
        refine AW.seq ?_
        refine AW.seq ?_
        refine AW.region ?_
        refine AO.pure T rfl rfl rfl ?_
        refine AO.pure T rfl rfl rfl ?_
        refine AO.val rfl rfl (len_map_ok T rfl rfl rfl) ?_
        refine AO.pure T rfl rfl rfl ?_
        refine AO.nil ?_
        refine AW.condT' (b := decide ((k1 : Int) < (a.length : Int))) rfl (rngT hlt6) ?_
        refine AW.skip ?_
        refine AW.seq ?_
        refine AW.block ?_
        refine AW.seq ?_
        obtain ⟨x14, hx15, hH⟩ := bindE hH
        refine AW.region ?_
        refine AO.pure T rfl rfl rfl ?_
        refine AO.pure T rfl rfl rfl ?_
        refine AO.val rfl rfl (ix_map_ok T rfl rfl rfl rfl rfl (getI_drop hd4) rfl) ?_
        refine AO.pure T (d := .g [.v (.int .i64 y2.skater), .s (List.map encInt y2.events), .s (List.map encInt y2.points)]) rfl rfl rfl ?_
        refine AO.pure T rfl rfl rfl ?_
        refine AO.val rfl rfl (callV_ok rfl rfl rfl rfl (laws_szLine_ok _ _ _ (hx15)) rfl) ?_
        refine AO.pure T rfl rfl rfl ?_
        refine AO.nil ?_
        refine AW.seq ?_
        refine AW.region ?_
        refine AO.pure T rfl rfl rfl ?_
        refine AO.pure T rfl rfl rfl ?_
        refine AO.nil ?_
        refine AW.cond (b := decide (x14 < 0)) rfl (fun hc => ?_) (fun hc => ?_)
        · replace hH := condT hc hH
          refine AW.seq ?_
          refine AW.region ?_
          refine AO.pure T rfl rfl rfl ?_
          refine AO.nil ?_
          refine AW.ret ?_
          cases someE hH
          exact ⟨trivial, _, [], rfl, .c (.c .v), by decide⟩
        · replace hH := condF hc hH
          refine AW.skip ?_
          refine AW.region ?_
          refine AO.pure T rfl rfl rfl ?_
          refine AO.val rfl rfl (ar_ok rfl rfl rfl rfl (inI_succ hlt6 hb5)) ?_
          refine AO.pure T rfl rfl rfl ?_
          refine AO.nil ?_
          refine ⟨(k1 + 1, x14), ⟨Nat.succ_le_of_lt hlt6, (by rw [drop_succ_of hd4]; exact hH)⟩, (by have := hlt6; dsimp only; omega), ?_⟩
          exact Le.cut 0 0 rfl (by repeat' (first | exact trivial | refine ⟨⟨_, rfl, rfl⟩, ?_⟩)) (by repeat' (first | exact trivial | refine ⟨⟨_, rfl, rfl⟩, ?_⟩)) rfl

def laws_szSeason_p (a : Season) (left : Int) : Option Int :=
  (laws_szLineS_p a.lines left).bind fun x1 =>
  cond (decide (x1 < 0))
    (some (-1))
    (some x1)
theorem laws_szSeason_ok (a : Season) (left : Int) (r : Int) (hH : laws_szSeason_p a left = some r) : SpecR Tryz.prog 91 [.g (encSeason a), .v (.int .i64 left)] (.v (.int .i64 r)) := by
  refine fn_ok T Tryz.func91 rfl (by decide) rfl ?_
  refine AW.seq ?_
  refine AW.region ?_
  refine AO.step rfl (box_ok T rfl 1 rfl rfl rfl rfl) ?_
  refine AO.pure T rfl rfl rfl ?_
  refine AO.nil ?_
  refine AW.seq ?_
  obtain ⟨x1, hx2, hH⟩ := bindE hH
  refine AW.region ?_
  refine AO.pure T rfl rfl rfl ?_
  refine AO.pure T rfl rfl rfl ?_
  refine AO.pure T rfl rfl rfl ?_
  refine AO.val rfl rfl (callV_ok rfl rfl rfl rfl (laws_szLineS_ok _ _ _ (hx2)) rfl) ?_
  refine AO.pure T rfl rfl rfl ?_
  refine AO.nil ?_
  refine AW.seq ?_
  refine AW.seq ?_
  refine AW.region ?_
  refine AO.pure T rfl rfl rfl ?_
  refine AO.pure T rfl rfl rfl ?_
  refine AO.nil ?_
  refine AW.cond (b := decide (x1 < 0)) rfl (fun hc => ?_) (fun hc => ?_)
  · replace hH := condT hc hH
    refine AW.seq ?_
    refine AW.region ?_
    refine AO.pure T rfl rfl rfl ?_
    refine AO.nil ?_
    refine AW.ret ?_
    cases someE hH
    exact ⟨trivial, _, [], rfl, .c (.c .v), by decide⟩
  · replace hH := condF hc hH
    refine AW.skip ?_
    refine AW.seq ?_
    refine AW.region ?_
    refine AO.pure T rfl rfl rfl ?_
    refine AO.pure T rfl rfl rfl ?_
    refine AO.nil ?_
    refine AW.ret ?_
    cases someE hH
    exact ⟨trivial, _, [], rfl, .c (.c .v), by decide⟩

def laws_szSeasonS_l1 : List Season → Nat → Int → Option Int
  | [], k1, v12 =>
    some v12
  | y2 :: ys3, k1, v12 =>
    (laws_szSeason_p y2 v12).bind fun x14 =>
    cond (decide (x14 < 0))
      (some (-1))
      (laws_szSeasonS_l1 ys3 (k1 + 1) x14)
def laws_szSeasonS_p (a : List Season) (left : Int) : Option Int :=
  cond (decide ((w64 (left - (a.length : Int))) < 0))
    (some (-1))
    (laws_szSeasonS_l1 a 0 (w64 (left - (a.length : Int))))
theorem laws_szSeasonS_ok (a : List Season) (left : Int) (r : Int) (hH : laws_szSeasonS_p a left = some r) : SpecR Tryz.prog 50 [.s (List.map encSeason a), .v (.int .i64 left)] (.v (.int .i64 r)) := by
  refine fn_ok T Tryz.func50 rfl (by decide) rfl ?_
  refine AW.seq ?_
  refine AW.region ?_
  refine AO.pure T rfl rfl rfl ?_
  refine AO.nil ?_
  refine AW.seq ?_
  refine AW.region ?_
  refine AO.pure T rfl rfl rfl ?_
  refine AO.pure T rfl rfl rfl ?_
  refine AO.val rfl rfl (len_map_ok T rfl rfl rfl) ?_
  refine AO.val rfl rfl (arw_ok rfl rfl rfl rfl) ?_
  refine AO.pure T rfl rfl rfl ?_
  refine AO.nil ?_
  refine AW.seq ?_
  refine AW.seq ?_
  refine AW.region ?_
  refine AO.pure T rfl rfl rfl ?_
  refine AO.pure T rfl rfl rfl ?_
  refine AO.nil ?_
  refine AW.cond (b := decide ((w64 (left - (a.length : Int))) < 0)) rfl (fun hc => ?_) (fun hc => ?_)
  · replace hH := condT hc hH
    refine AW.seq ?_
    refine AW.region ?_
    refine AO.pure T rfl rfl rfl ?_
    refine AO.nil ?_
    refine AW.ret ?_
    cases someE hH
    exact ⟨trivial, _, [], rfl, .c (.c .v), by decide⟩
  · replace hH := condF hc hH
    refine AW.skip ?_
    refine AW.seq ?_
    refine AW.seq ?_
    refine AW.region ?_
    refine AO.pure T rfl rfl rfl ?_
    refine AO.nil ?_
    refine AW.block ?_
    refine AW.loopS (fun s : Nat × Int => (⟨[(0, .s (List.map encSeason a)), (1, .v (.int .i64 s.2)), (5, .v (.int .i64 (s.1 : Int)))], [], 27, []⟩ : St)) (fun s => s.1 ≤ a.length ∧ laws_szSeasonS_l1 (a.drop s.1) s.1 s.2 = some r) (fun s => a.length - s.1) (0, w64 (left - (a.length : Int))) ⟨Nat.zero_le _, hH⟩ ?_ ?_
    · exact Le.cut 0 0 rfl (by repeat' (first | exact trivial | refine ⟨⟨_, rfl, rfl⟩, ?_⟩)) (by repeat' (first | exact trivial | refine ⟨⟨_, rfl, rfl⟩, ?_⟩)) rfl
    · rintro ⟨k1, v12⟩ ⟨hk, hH⟩
      replace hH : laws_szSeasonS_l1 (a.drop k1) k1 v12 = some r := hH
      show AW _ _ _ (⟨[(0, .s (List.map encSeason a)), (1, .v (.int .i64 v12)), (5, .v (.int .i64 (k1 : Int)))], [], 27, []⟩ : St)
      refine AW.boundM (t := 0) (l := a) rfl (fun hb5 => ?_)
      cases hd4 : a.drop k1 with
      | nil =>
        rw [hd4] at hH
        rw [laws_szSeasonS_l1] at hH
        have hlt6 := drop_ge hd4
        refine AW.seq ?_
        refine AW.seq ?_
        refine AW.region ?_
        refine AO.pure T rfl rfl rfl ?_
        refine AO.pure T rfl rfl rfl ?_
        refine AO.val rfl rfl (len_map_ok T rfl rfl rfl) ?_
        refine AO.pure T rfl rfl rfl ?_
        refine AO.nil ?_
        refine AW.condF' (b := decide ((k1 : Int) < (a.length : Int))) rfl (rngF hlt6) ?_
        refine AW.exit ?_
        refine AW.seq ?_
        refine AW.region ?_
        refine AO.pure T rfl rfl rfl ?_
        refine AO.pure T rfl rfl rfl ?_
        refine AO.nil ?_
        refine AW.ret ?_
        cases someE hH
        exact ⟨trivial, _, [], rfl, .c (.c .v), by decide⟩
      | cons y2 ys3 =>
        rw [hd4] at hH
        rw [laws_szSeasonS_l1] at hH
        have hlt6 := drop_lt hd4
        refine AW.seq ?_
        refine AW.seq ?_
        refine AW.region ?_
        refine AO.pure T rfl rfl rfl ?_
        refine AO.pure T rfl rfl rfl ?_
        refine AO.val rfl rfl (len_map_ok T rfl rfl rfl) ?_
        refine AO.pure T rfl rfl rfl ?_
        refine AO.nil ?_
        refine AW.condT' (b := decide ((k1 : Int) < (a.length : Int))) rfl (rngT hlt6) ?_
        refine AW.skip ?_
        refine AW.seq ?_
        refine AW.block ?_
        refine AW.seq ?_
        obtain ⟨x14, hx15, hH⟩ := bindE hH
        refine AW.region ?_
        refine AO.pure T rfl rfl rfl ?_
        refine AO.pure T rfl rfl rfl ?_
        refine AO.val rfl rfl (ix_map_ok T rfl rfl rfl rfl rfl (getI_drop hd4) rfl) ?_
        refine AO.pure T (d := .g [.v (.int .i64 y2.best), .s (List.map encLine y2.lines)]) rfl rfl rfl ?_
        refine AO.pure T rfl rfl rfl ?_
        refine AO.val rfl rfl (callV_ok rfl rfl rfl rfl (laws_szSeason_ok _ _ _ (hx15)) rfl) ?_
        refine AO.pure T rfl rfl rfl ?_
        refine AO.nil ?_
        refine AW.seq ?_
        refine AW.region ?_
        refine AO.pure T rfl rfl rfl ?_
        refine AO.pure T rfl rfl rfl ?_
        refine AO.nil ?_
        refine AW.cond (b := decide (x14 < 0)) rfl (fun hc => ?_) (fun hc => ?_)
        · replace hH := condT hc hH
          refine AW.seq ?_
          refine AW.region ?_
          refine AO.pure T rfl rfl rfl ?_
          refine AO.nil ?_
          refine AW.ret ?_
          cases someE hH
          exact ⟨trivial, _, [], rfl, .c (.c .v), by decide⟩
        · replace hH := condF hc hH
          refine AW.skip ?_
          refine AW.region ?_
          refine AO.pure T rfl rfl rfl ?_
          refine AO.val rfl rfl (ar_ok rfl rfl rfl rfl (inI_succ hlt6 hb5)) ?_
          refine AO.pure T rfl rfl rfl ?_
          refine AO.nil ?_
          refine ⟨(k1 + 1, x14), ⟨Nat.succ_le_of_lt hlt6, (by rw [drop_succ_of hd4]; exact hH)⟩, (by have := hlt6; dsimp only; omega), ?_⟩
          exact Le.cut 0 0 rfl (by repeat' (first | exact trivial | refine ⟨⟨_, rfl, rfl⟩, ?_⟩)) (by repeat' (first | exact trivial | refine ⟨⟨_, rfl, rfl⟩, ?_⟩)) rfl

def laws_szWorld_p (a : World) (left : Int) : Option Int :=
  (laws_szSeasonS_p a.seasons left).bind fun x1 =>
  cond (decide (x1 < 0))
    (some (-1))
    ((laws_szIntS_p a.weights x1).bind fun x3 =>
    cond (decide (x3 < 0))
      (some (-1))
      (some x3))
theorem laws_szWorld_ok (a : World) (left : Int) (r : Int) (hH : laws_szWorld_p a left = some r) : SpecR Tryz.prog 6 [.g (encWorld a), .v (.int .i64 left)] (.v (.int .i64 r)) := by
  refine fn_ok T Tryz.func6 rfl (by decide) rfl ?_
  refine AW.seq ?_
  refine AW.region ?_
  refine AO.step rfl (box_ok T rfl 1 rfl rfl rfl rfl) ?_
  refine AO.pure T rfl rfl rfl ?_
  refine AO.nil ?_
  refine AW.seq ?_
  obtain ⟨x1, hx2, hH⟩ := bindE hH
  refine AW.region ?_
  refine AO.pure T rfl rfl rfl ?_
  refine AO.pure T rfl rfl rfl ?_
  refine AO.pure T rfl rfl rfl ?_
  refine AO.val rfl rfl (callV_ok rfl rfl rfl rfl (laws_szSeasonS_ok _ _ _ (hx2)) rfl) ?_
  refine AO.pure T rfl rfl rfl ?_
  refine AO.nil ?_
  refine AW.seq ?_
  refine AW.seq ?_
  refine AW.region ?_
  refine AO.pure T rfl rfl rfl ?_
  refine AO.pure T rfl rfl rfl ?_
  refine AO.nil ?_
  refine AW.cond (b := decide (x1 < 0)) rfl (fun hc => ?_) (fun hc => ?_)
  · replace hH := condT hc hH
    refine AW.seq ?_
    refine AW.region ?_
    refine AO.pure T rfl rfl rfl ?_
    refine AO.nil ?_
    refine AW.ret ?_
    cases someE hH
    exact ⟨trivial, _, [], rfl, .c (.c .v), by decide⟩
  · replace hH := condF hc hH
    refine AW.skip ?_
    refine AW.seq ?_
    obtain ⟨x3, hx4, hH⟩ := bindE hH
    refine AW.region ?_
    refine AO.pure T rfl rfl rfl ?_
    refine AO.pure T rfl rfl rfl ?_
    refine AO.pure T rfl rfl rfl ?_
    refine AO.val rfl rfl (callV_ok rfl rfl rfl rfl (laws_szIntS_ok _ _ _ (hx4)) rfl) ?_
    refine AO.pure T rfl rfl rfl ?_
    refine AO.nil ?_
    refine AW.seq ?_
    refine AW.seq ?_
    refine AW.region ?_
    refine AO.pure T rfl rfl rfl ?_
    refine AO.pure T rfl rfl rfl ?_
    refine AO.nil ?_
    refine AW.cond (b := decide (x3 < 0)) rfl (fun hc => ?_) (fun hc => ?_)
    · replace hH := condT hc hH
      refine AW.seq ?_
      refine AW.region ?_
      refine AO.pure T rfl rfl rfl ?_
      refine AO.nil ?_
      refine AW.ret ?_
      cases someE hH
      exact ⟨trivial, _, [], rfl, .c (.c .v), by decide⟩
    · replace hH := condF hc hH
      refine AW.skip ?_
      refine AW.seq ?_
      refine AW.region ?_
      refine AO.pure T rfl rfl rfl ?_
      refine AO.pure T rfl rfl rfl ?_
      refine AO.nil ?_
      refine AW.ret ?_
      cases someE hH
      exact ⟨trivial, _, [], rfl, .c (.c .v), by decide⟩

def laws_toIntS_l1 : List Int → Nat → List Int → Option ((List Int))
  | [], k3, v14 =>
    some v14
  | y4 :: ys5, k3, v14 =>
    (getI v14 (k3 : Int)).bind fun x16 =>
    laws_toIntS_l1 ys5 (k3 + 1) (v14.set ((k3 : Int).toNat) y4)
def laws_toIntS_p (a : List Int) : Option (List Int) :=
  (need (decide (0 ≤ (a.length : Int)) && fitsB 8 (a.length : Int).toNat)).bind fun u1 =>
  laws_toIntS_l1 a 0 (List.replicate (a.length : Int).toNat 0)
theorem laws_toIntS_ok (a : List Int) (r : (List Int)) (hH : laws_toIntS_p a = some r) : SpecR Tryz.prog 9 [.s (List.map encInt a)] (.w 1 (r.map encInt)) := by
  refine fn_ok T Tryz.func9 rfl (by decide) rfl ?_
  refine AW.seq ?_
  refine AW.region ?_
  refine AO.pure T rfl rfl rfl ?_
  refine AO.nil ?_
  refine AW.seq ?_
  obtain ⟨u1, hx2, hH⟩ := bindE hH
  refine AW.region ?_
  refine AO.pure T rfl rfl rfl ?_
  refine AO.val rfl rfl (len_map_ok T rfl rfl rfl) ?_
  refine AO.step rfl (make_map_ok T rfl 1 rfl rfl rfl rfl rfl (f := encInt) (zo := 0) (by repeat constructor) (by decide) rfl rfl (Bool.and_eq_true_iff.1 (needT (hx2))).1 (Bool.and_eq_true_iff.1 (needT (hx2))).2 rfl rfl) ?_
  refine AO.pure T rfl rfl rfl ?_
  refine AO.nil ?_
  refine AW.seq ?_
  refine AW.seq ?_
  refine AW.region ?_
  refine AO.pure T rfl rfl rfl ?_
  refine AO.nil ?_
  refine AW.block ?_
  refine AW.loopS (fun s : Nat × (List Int) => (⟨[(0, .s (List.map encInt a)), (3, .R 1), (4, .v (.int .i64 (s.1 : Int)))], [(1, .row 1 (List.map encInt s.2))], 22, []⟩ : St)) (fun s => s.1 ≤ a.length ∧ laws_toIntS_l1 (a.drop s.1) s.1 s.2 = some r) (fun s => a.length - s.1) (0, (List.replicate (a.length : Int).toNat 0)) ⟨Nat.zero_le _, hH⟩ ?_ ?_
  · exact Le.cut 0 0 rfl (by repeat' (first | exact trivial | refine ⟨⟨_, rfl, rfl⟩, ?_⟩)) (by repeat' (first | exact trivial | refine ⟨⟨_, rfl, rfl⟩, ?_⟩)) rfl
  · rintro ⟨k3, v14⟩ ⟨hk, hH⟩
    replace hH : laws_toIntS_l1 (a.drop k3) k3 v14 = some r := hH
    show AW _ _ _ (⟨[(0, .s (List.map encInt a)), (3, .R 1), (4, .v (.int .i64 (k3 : Int)))], [(1, .row 1 (List.map encInt v14))], 22, []⟩ : St)
    refine AW.boundM (t := 0) (l := a) rfl (fun hb7 => ?_)
    cases hd6 : a.drop k3 with
    | nil =>
      rw [hd6] at hH
      rw [laws_toIntS_l1] at hH
      have hlt8 := drop_ge hd6
      refine AW.seq ?_
      refine AW.seq ?_
      refine AW.region ?_
      refine AO.pure T rfl rfl rfl ?_
      refine AO.pure T rfl rfl rfl ?_
      refine AO.val rfl rfl (len_map_ok T rfl rfl rfl) ?_
      refine AO.pure T rfl rfl rfl ?_
      refine AO.nil ?_
      refine AW.condF' (b := decide ((k3 : Int) < (a.length : Int))) rfl (rngF hlt8) ?_
      refine AW.exit ?_
      refine AW.seq ?_
      refine AW.region ?_
      refine AO.pure T rfl rfl rfl ?_
      refine AO.pure T rfl rfl rfl ?_
      refine AO.nil ?_
      refine AW.ret ?_
      cases someE hH
      exact ⟨trivial, _, [1], rfl, .c (.c (.rowR rfl)), by decide⟩
    | cons y4 ys5 =>
      rw [hd6] at hH
      rw [laws_toIntS_l1] at hH
      have hlt8 := drop_lt hd6
      refine AW.seq ?_
      refine AW.seq ?_
      refine AW.region ?_
      refine AO.pure T rfl rfl rfl ?_
      refine AO.pure T rfl rfl rfl ?_
      refine AO.val rfl rfl (len_map_ok T rfl rfl rfl) ?_
      refine AO.pure T rfl rfl rfl ?_
      refine AO.nil ?_
      refine AW.condT' (b := decide ((k3 : Int) < (a.length : Int))) rfl (rngT hlt8) ?_
      refine AW.skip ?_
      refine AW.seq ?_
      refine AW.block ?_
      obtain ⟨x16, hx17, hH⟩ := bindE hH
      refine AW.region ?_
      refine AO.pure T rfl rfl rfl ?_
      refine AO.pure T rfl rfl rfl ?_
      refine AO.pure T rfl rfl rfl ?_
      refine AO.pure T rfl rfl rfl ?_
      refine AO.val rfl rfl (ix_map_ok T rfl rfl rfl rfl rfl (getI_drop hd6) rfl) ?_
      refine AO.pure T rfl rfl rfl ?_
      refine AO.val rfl rfl (ix_row_ok T rfl rfl rfl rfl rfl rfl (hx17)) ?_
      refine AO.step rfl (store_row_ok T rfl rfl rfl rfl rfl (getI_get (hx17)) rfl rfl rfl rfl (u' := y4) rfl rfl) ?_
      refine AO.nil ?_
      refine AW.region ?_
      refine AO.pure T rfl rfl rfl ?_
      refine AO.val rfl rfl (ar_ok rfl rfl rfl rfl (inI_succ hlt8 hb7)) ?_
      refine AO.pure T rfl rfl rfl ?_
      refine AO.nil ?_
      refine ⟨(k3 + 1, (v14.set ((k3 : Int).toNat) y4)), ⟨Nat.succ_le_of_lt hlt8, (by rw [drop_succ_of hd6]; exact hH)⟩, (by have := hlt8; dsimp only; omega), ?_⟩
      exact Le.cut 0 0 rfl (by repeat' (first | exact trivial | refine ⟨⟨_, rfl, rfl⟩, ?_⟩)) (by repeat' (first | exact trivial | refine ⟨⟨_, rfl, rfl⟩, ?_⟩)) rfl

def laws_toLine_p (a : Line) : Option Line :=
  (laws_toIntS_p a.events).bind fun x1 =>
  (laws_toIntS_p a.points).bind fun x3 =>
  some (Line.mk a.skater x1 x3)
theorem laws_toLine_ok (a : Line) (r : Line) (hH : laws_toLine_p a = some r) : SpecR Tryz.prog 137 [.g (encLine a)] (.g (encLineO r)) := by
  refine fn_ok T Tryz.func137 rfl (by decide) rfl ?_
  refine AW.seq ?_
  refine AW.region ?_
  refine AO.step rfl (box_ok T rfl 1 rfl rfl rfl rfl) ?_
  refine AO.step rfl (alloc_ok T rfl 2 rfl rfl rfl rfl rfl) ?_
  refine AO.nil ?_
  refine AW.seq ?_
  refine AW.region ?_
  refine AO.step rfl (alloc_ok T rfl 3 rfl rfl rfl rfl rfl) ?_
  refine AO.nil ?_
  refine AW.seq ?_
  refine AW.region ?_
  refine AO.pure T rfl rfl rfl ?_
  refine AO.pure T rfl rfl rfl ?_
  refine AO.pure T rfl rfl rfl ?_
  refine AO.step rfl (store_okE T rfl rfl rfl rfl rfl rfl rfl rfl rfl (ds' := [.v (.int .i64 a.skater), .w 0 [], .w 0 []]) rfl) ?_
  refine AO.nil ?_
  refine AW.seq ?_
  obtain ⟨x1, hx2, hH⟩ := bindE hH
  refine AW.region ?_
  refine AO.pure T rfl rfl rfl ?_
  refine AO.pure T rfl rfl rfl ?_
  refine AO.step rfl (call_ok rfl 4 rfl rfl rfl (laws_toIntS_ok _ _ (hx2)) rfl rfl rfl) ?_
  refine AO.pure T rfl rfl rfl ?_
  refine AO.step rfl (store_okE T rfl rfl rfl rfl rfl rfl rfl rfl rfl (ds' := [.v (.int .i64 a.skater), .R 4, .w 0 []]) rfl) ?_
  refine AO.nil ?_
  refine AW.seq ?_
  obtain ⟨x3, hx4, hH⟩ := bindE hH
  refine AW.region ?_
  refine AO.pure T rfl rfl rfl ?_
  refine AO.pure T rfl rfl rfl ?_
  refine AO.step rfl (call_ok rfl 5 rfl rfl rfl (laws_toIntS_ok _ _ (hx4)) rfl rfl rfl) ?_
  refine AO.pure T rfl rfl rfl ?_
  refine AO.step rfl (store_okE T rfl rfl rfl rfl rfl rfl rfl rfl rfl (ds' := [.v (.int .i64 a.skater), .R 4, .R 5]) rfl) ?_
  refine AO.nil ?_
  refine AW.seq ?_
  refine AW.region ?_
  refine AO.pure T (d := .g [.v (.int .i64 a.skater), .R 4, .R 5]) rfl rfl rfl ?_
  refine AO.step rfl (store_okE T rfl rfl rfl rfl rfl rfl rfl rfl rfl (ds' := [.v (.int .i64 a.skater), .R 4, .R 5]) rfl) ?_
  refine AO.nil ?_
  refine AW.ret ?_
  cases someE hH
  exact ⟨trivial, _, [4, 5], rfl, .c (.g (expLC_cons .v (expLC_cons (.rowR rfl) (expLC_cons (.rowR rfl) (expLC_nil))))), by decide⟩

def laws_toLineS_l1 : List Line → Nat → List Line → Option ((List Line))
  | [], k3, v18 =>
    some v18
  | y4 :: ys5, k3, v18 =>
    (laws_toLine_p y4).bind fun x20 =>
    (getI v18 (k3 : Int)).bind fun x22 =>
    laws_toLineS_l1 ys5 (k3 + 1) (v18.set ((k3 : Int).toNat) x20)
def laws_toLineS_p (a : List Line) : Option (List Line) :=
  (need (decide (0 ≤ (a.length : Int)) && fitsB 56 (a.length : Int).toNat)).bind fun u1 =>
  laws_toLineS_l1 a 0 (List.replicate (a.length : Int).toNat (Line.mk 0 [] []))
theorem laws_toLineS_ok (a : List Line) (r : (List Line)) (hH : laws_toLineS_p a = some r) : SpecR Tryz.prog 119 [.s (List.map encLine a)] (.w 3 (r.map encLineO)) := by
  refine fn_ok T Tryz.func119 rfl (by decide) rfl ?_
  refine AW.seq ?_
  refine AW.region ?_
  refine AO.pure T rfl rfl rfl ?_
  refine AO.nil ?_
  refine AW.seq ?_
  obtain ⟨u1, hx2, hH⟩ := bindE hH
  refine AW.region ?_
  refine AO.pure T rfl rfl rfl ?_
  refine AO.val rfl rfl (len_map_ok T rfl rfl rfl) ?_
  refine AO.step rfl (make_map_ok T rfl 1 rfl rfl rfl rfl rfl (f := encLineO) (zo := (Line.mk 0 [] [])) (by repeat constructor) (by decide) rfl rfl (Bool.and_eq_true_iff.1 (needT (hx2))).1 (Bool.and_eq_true_iff.1 (needT (hx2))).2 rfl rfl) ?_
  refine AO.pure T rfl rfl rfl ?_
  refine AO.nil ?_
  refine AW.seq ?_
  refine AW.seq ?_
  refine AW.region ?_
  refine AO.pure T rfl rfl rfl ?_
  refine AO.nil ?_
  refine AW.block ?_
  refine AW.loopS (fun s : Nat × (List Line) => (⟨[(0, .s (List.map encLine a)), (3, .R 1), (4, .v (.int .i64 (s.1 : Int)))], [(1, .row 3 (List.map encLineO s.2))], 23, []⟩ : St)) (fun s => s.1 ≤ a.length ∧ laws_toLineS_l1 (a.drop s.1) s.1 s.2 = some r) (fun s => a.length - s.1) (0, (List.replicate (a.length : Int).toNat (Line.mk 0 [] []))) ⟨Nat.zero_le _, hH⟩ ?_ ?_
  · exact Le.cut 0 0 rfl (by repeat' (first | exact trivial | refine ⟨⟨_, rfl, rfl⟩, ?_⟩)) (by repeat' (first | exact trivial | refine ⟨⟨_, rfl, rfl⟩, ?_⟩)) rfl
  · rintro ⟨k3, v18⟩ ⟨hk, hH⟩
    replace hH : laws_toLineS_l1 (a.drop k3) k3 v18 = some r := hH
    show AW _ _ _ (⟨[(0, .s (List.map encLine a)), (3, .R 1), (4, .v (.int .i64 (k3 : Int)))], [(1, .row 3 (List.map encLineO v18))], 23, []⟩ : St)
    refine AW.boundM (t := 0) (l := a) rfl (fun hb7 => ?_)
    cases hd6 : a.drop k3 with
    | nil =>
      rw [hd6] at hH
      rw [laws_toLineS_l1] at hH
      have hlt8 := drop_ge hd6
      refine AW.seq ?_
      refine AW.seq ?_
      refine AW.region ?_
      refine AO.pure T rfl rfl rfl ?_
      refine AO.pure T rfl rfl rfl ?_
      refine AO.val rfl rfl (len_map_ok T rfl rfl rfl) ?_
      refine AO.pure T rfl rfl rfl ?_
      refine AO.nil ?_
      refine AW.condF' (b := decide ((k3 : Int) < (a.length : Int))) rfl (rngF hlt8) ?_
      refine AW.exit ?_
      refine AW.seq ?_
      refine AW.region ?_
      refine AO.pure T rfl rfl rfl ?_
      refine AO.pure T rfl rfl rfl ?_
      refine AO.nil ?_
      refine AW.ret ?_
      cases someE hH
      exact ⟨trivial, _, [1], rfl, .c (.c (.rowR rfl)), by decide⟩
    | cons y4 ys5 =>
      rw [hd6] at hH
      rw [laws_toLineS_l1] at hH
      have hlt8 := drop_lt hd6
      refine AW.seq ?_
      refine AW.seq ?_
      refine AW.region ?_
      refine AO.pure T rfl rfl rfl ?_
      refine AO.pure T rfl rfl rfl ?_
      refine AO.val rfl rfl (len_map_ok T rfl rfl rfl) ?_
      refine AO.pure T rfl rfl rfl ?_
      refine AO.nil ?_
      refine AW.condT' (b := decide ((k3 : Int) < (a.length : Int))) rfl (rngT hlt8) ?_
      refine AW.skip ?_
      refine AW.seq ?_
      refine AW.block ?_
      obtain ⟨x20, hx21, hH⟩ := bindE hH
      obtain ⟨x22, hx23, hH⟩ := bindE hH
      refine AW.region ?_
      refine AO.pure T rfl rfl rfl ?_
      refine AO.pure T rfl rfl rfl ?_
      refine AO.pure T rfl rfl rfl ?_
      refine AO.pure T rfl rfl rfl ?_
      refine AO.val rfl rfl (ix_map_ok T rfl rfl rfl rfl rfl (getI_drop hd6) rfl) ?_
      refine AO.pure T (d := .g [.v (.int .i64 y4.skater), .s (List.map encInt y4.events), .s (List.map encInt y4.points)]) rfl rfl rfl ?_
      refine AO.step rfl (call_ok rfl 6 rfl rfl rfl (laws_toLine_ok _ _ (hx21)) rfl rfl rfl) ?_
      refine AO.val rfl rfl (ix_row_ok T rfl rfl rfl rfl rfl rfl (hx23)) ?_
      refine AO.step rfl (store_rowO_ok T (ids := [6, 7]) rfl rfl rfl rfl rfl (getI_get (hx23)) rfl (expLC_cons .v (expLC_cons (.rowR rfl) (expLC_cons (.rowR rfl) (expLC_nil)))) (by decide) rfl rfl (u' := x20) rfl rfl) ?_
      refine AO.nil ?_
      refine AW.region ?_
      refine AO.pure T rfl rfl rfl ?_
      refine AO.val rfl rfl (ar_ok rfl rfl rfl rfl (inI_succ hlt8 hb7)) ?_
      refine AO.pure T rfl rfl rfl ?_
      refine AO.nil ?_
      refine ⟨(k3 + 1, (v18.set ((k3 : Int).toNat) x20)), ⟨Nat.succ_le_of_lt hlt8, (by rw [drop_succ_of hd6]; exact hH)⟩, (by have := hlt8; dsimp only; omega), ?_⟩
      exact Le.cut 0 0 rfl (by repeat' (first | exact trivial | refine ⟨⟨_, rfl, rfl⟩, ?_⟩)) (by repeat' (first | exact trivial | refine ⟨⟨_, rfl, rfl⟩, ?_⟩)) rfl

def laws_toSeason_p (a : Season) : Option Season :=
  (laws_toLineS_p a.lines).bind fun x1 =>
  some (Season.mk a.best x1)
theorem laws_toSeason_ok (a : Season) (r : Season) (hH : laws_toSeason_p a = some r) : SpecR Tryz.prog 93 [.g (encSeason a)] (.g (encSeasonO r)) := by
  refine fn_ok T Tryz.func93 rfl (by decide) rfl ?_
  refine AW.seq ?_
  refine AW.region ?_
  refine AO.step rfl (box_ok T rfl 1 rfl rfl rfl rfl) ?_
  refine AO.step rfl (alloc_ok T rfl 2 rfl rfl rfl rfl rfl) ?_
  refine AO.nil ?_
  refine AW.seq ?_
  refine AW.region ?_
  refine AO.step rfl (alloc_ok T rfl 3 rfl rfl rfl rfl rfl) ?_
  refine AO.nil ?_
  refine AW.seq ?_
  refine AW.region ?_
  refine AO.pure T rfl rfl rfl ?_
  refine AO.pure T rfl rfl rfl ?_
  refine AO.pure T rfl rfl rfl ?_
  refine AO.step rfl (store_okE T rfl rfl rfl rfl rfl rfl rfl rfl rfl (ds' := [.v (.int .i64 a.best), .w 0 []]) rfl) ?_
  refine AO.nil ?_
  refine AW.seq ?_
  obtain ⟨x1, hx2, hH⟩ := bindE hH
  refine AW.region ?_
  refine AO.pure T rfl rfl rfl ?_
  refine AO.pure T rfl rfl rfl ?_
  refine AO.step rfl (call_ok rfl 4 rfl rfl rfl (laws_toLineS_ok _ _ (hx2)) rfl rfl rfl) ?_
  refine AO.pure T rfl rfl rfl ?_
  refine AO.step rfl (store_okE T rfl rfl rfl rfl rfl rfl rfl rfl rfl (ds' := [.v (.int .i64 a.best), .R 4]) rfl) ?_
  refine AO.nil ?_
  refine AW.seq ?_
  refine AW.region ?_
  refine AO.pure T (d := .g [.v (.int .i64 a.best), .R 4]) rfl rfl rfl ?_
  refine AO.step rfl (store_okE T rfl rfl rfl rfl rfl rfl rfl rfl rfl (ds' := [.v (.int .i64 a.best), .R 4]) rfl) ?_
  refine AO.nil ?_
  refine AW.ret ?_
  cases someE hH
  exact ⟨trivial, _, [4], rfl, .c (.g (expLC_cons .v (expLC_cons (.rowR rfl) (expLC_nil)))), by decide⟩

def laws_toSeasonS_l1 : List Season → Nat → List Season → Option ((List Season))
  | [], k3, v18 =>
    some v18
  | y4 :: ys5, k3, v18 =>
    (laws_toSeason_p y4).bind fun x20 =>
    (getI v18 (k3 : Int)).bind fun x22 =>
    laws_toSeasonS_l1 ys5 (k3 + 1) (v18.set ((k3 : Int).toNat) x20)
def laws_toSeasonS_p (a : List Season) : Option (List Season) :=
  (need (decide (0 ≤ (a.length : Int)) && fitsB 32 (a.length : Int).toNat)).bind fun u1 =>
  laws_toSeasonS_l1 a 0 (List.replicate (a.length : Int).toNat (Season.mk 0 []))
theorem laws_toSeasonS_ok (a : List Season) (r : (List Season)) (hH : laws_toSeasonS_p a = some r) : SpecR Tryz.prog 57 [.s (List.map encSeason a)] (.w 2 (r.map encSeasonO)) := by
  refine fn_ok T Tryz.func57 rfl (by decide) rfl ?_
  refine AW.seq ?_
  refine AW.region ?_
  refine AO.pure T rfl rfl rfl ?_
  refine AO.nil ?_
  refine AW.seq ?_
  obtain ⟨u1, hx2, hH⟩ := bindE hH
  refine AW.region ?_
  refine AO.pure T rfl rfl rfl ?_
  refine AO.val rfl rfl (len_map_ok T rfl rfl rfl) ?_
  refine AO.step rfl (make_map_ok T rfl 1 rfl rfl rfl rfl rfl (f := encSeasonO) (zo := (Season.mk 0 [])) (by repeat constructor) (by decide) rfl rfl (Bool.and_eq_true_iff.1 (needT (hx2))).1 (Bool.and_eq_true_iff.1 (needT (hx2))).2 rfl rfl) ?_
  refine AO.pure T rfl rfl rfl ?_
  refine AO.nil ?_
  refine AW.seq ?_
  refine AW.seq ?_
  refine AW.region ?_
  refine AO.pure T rfl rfl rfl ?_
  refine AO.nil ?_
  refine AW.block ?_
  refine AW.loopS (fun s : Nat × (List Season) => (⟨[(0, .s (List.map encSeason a)), (3, .R 1), (4, .v (.int .i64 (s.1 : Int)))], [(1, .row 2 (List.map encSeasonO s.2))], 23, []⟩ : St)) (fun s => s.1 ≤ a.length ∧ laws_toSeasonS_l1 (a.drop s.1) s.1 s.2 = some r) (fun s => a.length - s.1) (0, (List.replicate (a.length : Int).toNat (Season.mk 0 []))) ⟨Nat.zero_le _, hH⟩ ?_ ?_
  · exact Le.cut 0 0 rfl (by repeat' (first | exact trivial | refine ⟨⟨_, rfl, rfl⟩, ?_⟩)) (by repeat' (first | exact trivial | refine ⟨⟨_, rfl, rfl⟩, ?_⟩)) rfl
  · rintro ⟨k3, v18⟩ ⟨hk, hH⟩
    replace hH : laws_toSeasonS_l1 (a.drop k3) k3 v18 = some r := hH
    show AW _ _ _ (⟨[(0, .s (List.map encSeason a)), (3, .R 1), (4, .v (.int .i64 (k3 : Int)))], [(1, .row 2 (List.map encSeasonO v18))], 23, []⟩ : St)
    refine AW.boundM (t := 0) (l := a) rfl (fun hb7 => ?_)
    cases hd6 : a.drop k3 with
    | nil =>
      rw [hd6] at hH
      rw [laws_toSeasonS_l1] at hH
      have hlt8 := drop_ge hd6
      refine AW.seq ?_
      refine AW.seq ?_
      refine AW.region ?_
      refine AO.pure T rfl rfl rfl ?_
      refine AO.pure T rfl rfl rfl ?_
      refine AO.val rfl rfl (len_map_ok T rfl rfl rfl) ?_
      refine AO.pure T rfl rfl rfl ?_
      refine AO.nil ?_
      refine AW.condF' (b := decide ((k3 : Int) < (a.length : Int))) rfl (rngF hlt8) ?_
      refine AW.exit ?_
      refine AW.seq ?_
      refine AW.region ?_
      refine AO.pure T rfl rfl rfl ?_
      refine AO.pure T rfl rfl rfl ?_
      refine AO.nil ?_
      refine AW.ret ?_
      cases someE hH
      exact ⟨trivial, _, [1], rfl, .c (.c (.rowR rfl)), by decide⟩
    | cons y4 ys5 =>
      rw [hd6] at hH
      rw [laws_toSeasonS_l1] at hH
      have hlt8 := drop_lt hd6
      refine AW.seq ?_
      refine AW.seq ?_
      refine AW.region ?_
      refine AO.pure T rfl rfl rfl ?_
      refine AO.pure T rfl rfl rfl ?_
      refine AO.val rfl rfl (len_map_ok T rfl rfl rfl) ?_
      refine AO.pure T rfl rfl rfl ?_
      refine AO.nil ?_
      refine AW.condT' (b := decide ((k3 : Int) < (a.length : Int))) rfl (rngT hlt8) ?_
      refine AW.skip ?_
      refine AW.seq ?_
      refine AW.block ?_
      obtain ⟨x20, hx21, hH⟩ := bindE hH
      obtain ⟨x22, hx23, hH⟩ := bindE hH
      refine AW.region ?_
      refine AO.pure T rfl rfl rfl ?_
      refine AO.pure T rfl rfl rfl ?_
      refine AO.pure T rfl rfl rfl ?_
      refine AO.pure T rfl rfl rfl ?_
      refine AO.val rfl rfl (ix_map_ok T rfl rfl rfl rfl rfl (getI_drop hd6) rfl) ?_
      refine AO.pure T (d := .g [.v (.int .i64 y4.best), .s (List.map encLine y4.lines)]) rfl rfl rfl ?_
      refine AO.step rfl (call_ok rfl 4 rfl rfl rfl (laws_toSeason_ok _ _ (hx21)) rfl rfl rfl) ?_
      refine AO.val rfl rfl (ix_row_ok T rfl rfl rfl rfl rfl rfl (hx23)) ?_
      refine AO.step rfl (store_rowO_ok T (ids := [4]) rfl rfl rfl rfl rfl (getI_get (hx23)) rfl (expLC_cons .v (expLC_cons (.rowR rfl) (expLC_nil))) (by decide) rfl rfl (u' := x20) rfl rfl) ?_
      refine AO.nil ?_
      refine AW.region ?_
      refine AO.pure T rfl rfl rfl ?_
      refine AO.val rfl rfl (ar_ok rfl rfl rfl rfl (inI_succ hlt8 hb7)) ?_
      refine AO.pure T rfl rfl rfl ?_
      refine AO.nil ?_
      refine ⟨(k3 + 1, (v18.set ((k3 : Int).toNat) x20)), ⟨Nat.succ_le_of_lt hlt8, (by rw [drop_succ_of hd6]; exact hH)⟩, (by have := hlt8; dsimp only; omega), ?_⟩
      exact Le.cut 0 0 rfl (by repeat' (first | exact trivial | refine ⟨⟨_, rfl, rfl⟩, ?_⟩)) (by repeat' (first | exact trivial | refine ⟨⟨_, rfl, rfl⟩, ?_⟩)) rfl

def laws_toWorld_p (a : World) : Option World :=
  (laws_toSeasonS_p a.seasons).bind fun x1 =>
  (laws_toIntS_p a.weights).bind fun x3 =>
  some (World.mk x1 x3)
theorem laws_toWorld_ok (a : World) (r : World) (hH : laws_toWorld_p a = some r) : SpecR Tryz.prog 8 [.g (encWorld a)] (.g (encWorldO r)) := by
  refine fn_ok T Tryz.func8 rfl (by decide) rfl ?_
  refine AW.seq ?_
  refine AW.region ?_
  refine AO.step rfl (box_ok T rfl 1 rfl rfl rfl rfl) ?_
  refine AO.step rfl (alloc_ok T rfl 2 rfl rfl rfl rfl rfl) ?_
  refine AO.nil ?_
  refine AW.seq ?_
  refine AW.region ?_
  refine AO.step rfl (alloc_ok T rfl 3 rfl rfl rfl rfl rfl) ?_
  refine AO.nil ?_
  refine AW.seq ?_
  obtain ⟨x1, hx2, hH⟩ := bindE hH
  refine AW.region ?_
  refine AO.pure T rfl rfl rfl ?_
  refine AO.pure T rfl rfl rfl ?_
  refine AO.step rfl (call_ok rfl 4 rfl rfl rfl (laws_toSeasonS_ok _ _ (hx2)) rfl rfl rfl) ?_
  refine AO.pure T rfl rfl rfl ?_
  refine AO.step rfl (store_okE T rfl rfl rfl rfl rfl rfl rfl rfl rfl (ds' := [.R 4, .w 0 []]) rfl) ?_
  refine AO.nil ?_
  refine AW.seq ?_
  obtain ⟨x3, hx4, hH⟩ := bindE hH
  refine AW.region ?_
  refine AO.pure T rfl rfl rfl ?_
  refine AO.pure T rfl rfl rfl ?_
  refine AO.step rfl (call_ok rfl 5 rfl rfl rfl (laws_toIntS_ok _ _ (hx4)) rfl rfl rfl) ?_
  refine AO.pure T rfl rfl rfl ?_
  refine AO.step rfl (store_okE T rfl rfl rfl rfl rfl rfl rfl rfl rfl (ds' := [.R 4, .R 5]) rfl) ?_
  refine AO.nil ?_
  refine AW.seq ?_
  refine AW.region ?_
  refine AO.pure T (d := .g [.R 4, .R 5]) rfl rfl rfl ?_
  refine AO.step rfl (store_okE T rfl rfl rfl rfl rfl rfl rfl rfl rfl (ds' := [.R 4, .R 5]) rfl) ?_
  refine AO.nil ?_
  refine AW.ret ?_
  cases someE hH
  exact ⟨trivial, _, [4, 5], rfl, .c (.g (expLC_cons (.rowR rfl) (expLC_cons (.rowR rfl) (expLC_nil)))), by decide⟩

def spec_l1In_p (n : Int) (lo : Int) (hi : Int) : Option Bool :=
  some (decide (n ≥ lo) && decide (n ≤ hi))
theorem spec_l1In_ok (n : Int) (lo : Int) (hi : Int) (r : Bool) (hH : spec_l1In_p n lo hi = some r) : SpecR Tryz.prog 70 [.v (.int .i64 n), .v (.int .i64 lo), .v (.int .i64 hi)] (.v (.bool r)) := by
  refine fn_ok T Tryz.func70 rfl (by decide) rfl ?_
  refine AW.seq ?_
  refine AW.region ?_
  refine AO.pure T rfl rfl rfl ?_
  refine AO.nil ?_
  refine AW.seq ?_
  refine AW.region ?_
  refine AO.pure T rfl rfl rfl ?_
  refine AO.pure T rfl rfl rfl ?_
  refine AO.pure T rfl rfl rfl ?_
  refine AO.pure T rfl rfl rfl ?_
  refine AO.pureG T [] rfl trivial rfl rfl ?_
  refine AO.pureG T [] rfl trivial rfl rfl ?_
  refine AO.pureG T [11, 12] rfl ⟨fun h => h, fun h => h, trivial⟩ rfl rfl ?_
  refine AO.val rfl rfl (pick_and rfl rfl rfl rfl) ?_
  refine AO.pure T rfl rfl rfl ?_
  refine AO.nil ?_
  refine AW.ret ?_
  cases someE hH
  exact ⟨trivial, _, [], rfl, .c (.c .v), by decide⟩

def spec_seEntry_p (e : Entry) : Option Bool :=
  (spec_l1In_p e.event 1 99).bind fun x1 =>
  (opt x1 default (spec_l1In_p e.skater 1 999)).bind fun x3 =>
  (opt (x1 && x3) default (spec_l1In_p e.points 0 100000)).bind fun x5 =>
  some ((x1 && x3) && x5)
theorem spec_seEntry_ok (e : Entry) (r : Bool) (hH : spec_seEntry_p e = some r) : SpecR Tryz.prog 114 [.g (encEntry e)] (.v (.bool r)) := by
  refine fn_ok T Tryz.func114 rfl (by decide) rfl ?_
  refine AW.seq ?_
  refine AW.region ?_
  refine AO.step rfl (box_ok T rfl 1 rfl rfl rfl rfl) ?_
  refine AO.pure T rfl rfl rfl ?_
  refine AO.nil ?_
  refine AW.seq ?_
  obtain ⟨x1, hx2, hH⟩ := bindE hH
  obtain ⟨x3, hx4, hH⟩ := bindE hH
  obtain ⟨x5, hx6, hH⟩ := bindE hH
  refine AW.region ?_
  refine AO.pure T rfl rfl rfl ?_
  refine AO.pure T rfl rfl rfl ?_
  refine AO.val rfl rfl (callV_ok rfl rfl rfl rfl (spec_l1In_ok _ _ _ _ (hx2)) rfl) ?_
  refine AO.pure T rfl rfl rfl ?_
  refine AO.pureG T [] rfl trivial rfl rfl ?_
  refine AO.pureG T [7] rfl ⟨fun h => h, trivial⟩ rfl rfl ?_
  refine AO.guard [8] rfl ⟨fun h => h, trivial⟩ (fun hg => callV_ok rfl rfl rfl rfl (spec_l1In_ok _ _ _ _ (optT hx4 hg)) rfl) rfl ?_
  refine AO.val rfl rfl (pick_and rfl rfl rfl rfl) ?_
  refine AO.pure T rfl rfl rfl ?_
  refine AO.pureG T [] rfl trivial rfl rfl ?_
  refine AO.pureG T [12] rfl ⟨fun h => h, trivial⟩ rfl rfl ?_
  refine AO.guard [13] rfl ⟨fun h => h, trivial⟩ (fun hg => callV_ok rfl rfl rfl rfl (spec_l1In_ok _ _ _ _ (optT hx6 hg)) rfl) rfl ?_
  refine AO.val rfl rfl (pick_and rfl rfl rfl rfl) ?_
  refine AO.pure T rfl rfl rfl ?_
  refine AO.nil ?_
  refine AW.ret ?_
  cases someE hH
  exact ⟨trivial, _, [], rfl, .c (.c .v), by decide⟩

def spec_l1Has_l1 (n : Int) : List Int → Nat → Option Bool
  | [], k1 =>
    some false
  | y2 :: ys3, k1 =>
    cond (y2 == n)
      (some true)
      (spec_l1Has_l1 n ys3 (k1 + 1))
def spec_l1Has_p (l : List Int) (n : Int) : Option Bool :=
  spec_l1Has_l1 n l 0
theorem spec_l1Has_ok (l : List Int) (n : Int) (r : Bool) (hH : spec_l1Has_p l n = some r) : SpecR Tryz.prog 55 [.s (List.map encInt l), .v (.int .i64 n)] (.v (.bool r)) := by
  refine fn_ok T Tryz.func55 rfl (by decide) rfl ?_
  refine AW.seq ?_
  refine AW.region ?_
  refine AO.pure T rfl rfl rfl ?_
  refine AO.nil ?_
  refine AW.seq ?_
  refine AW.seq ?_
  refine AW.region ?_
  refine AO.pure T rfl rfl rfl ?_
  refine AO.val rfl rfl (len_map_ok T rfl rfl rfl) ?_
  refine AO.pure T rfl rfl rfl ?_
  refine AO.nil ?_
  refine AW.block ?_
  refine AW.loopS (fun s : Nat => (⟨[(1, .v (.int .i64 n)), (7, .s (List.map encInt l)), (8, .v (.int .i64 (l.length : Int))), (9, .v (.int .i64 (s : Int)))], [], 17, []⟩ : St)) (fun s => s ≤ l.length ∧ spec_l1Has_l1 n (l.drop s) s = some r) (fun s => l.length - s) 0 ⟨Nat.zero_le _, hH⟩ ?_ ?_
  · exact Le.cut 0 0 rfl (by repeat' (first | exact trivial | refine ⟨⟨_, rfl, rfl⟩, ?_⟩)) (by repeat' (first | exact trivial | refine ⟨⟨_, rfl, rfl⟩, ?_⟩)) rfl
  · rintro k1 ⟨hk, hH⟩
    replace hH : spec_l1Has_l1 n (l.drop k1) k1 = some r := hH
    show AW _ _ _ (⟨[(1, .v (.int .i64 n)), (7, .s (List.map encInt l)), (8, .v (.int .i64 (l.length : Int))), (9, .v (.int .i64 (k1 : Int)))], [], 17, []⟩ : St)
    refine AW.boundM (t := 7) (l := l) rfl (fun hb5 => ?_)
    cases hd4 : l.drop k1 with
    | nil =>
      rw [hd4] at hH
      rw [spec_l1Has_l1] at hH
      have hlt6 := drop_ge hd4
      refine AW.seq ?_
      refine AW.region ?_
      refine AO.pure T rfl rfl rfl ?_
      refine AO.nil ?_
      refine AW.seq ?_
      refine AW.condF' (b := decide ((k1 : Int) < (l.length : Int))) rfl (rngF hlt6) ?_
      refine AW.exit ?_
      refine AW.seq ?_
      refine AW.region ?_
      refine AO.pure T rfl rfl rfl ?_
      refine AO.nil ?_
      refine AW.ret ?_
      cases someE hH
      exact ⟨trivial, _, [], rfl, .c (.c .v), by decide⟩
    | cons y2 ys3 =>
      rw [hd4] at hH
      rw [spec_l1Has_l1] at hH
      have hlt6 := drop_lt hd4
      refine AW.seq ?_
      refine AW.region ?_
      refine AO.pure T rfl rfl rfl ?_
      refine AO.nil ?_
      refine AW.seq ?_
      refine AW.condT' (b := decide ((k1 : Int) < (l.length : Int))) rfl (rngT hlt6) ?_
      refine AW.skip ?_
      refine AW.seq ?_
      refine AW.block ?_
      refine AW.seq ?_
      refine AW.region ?_
      refine AO.val rfl rfl (ix_map_ok T rfl rfl rfl rfl rfl (getI_drop hd4) rfl) ?_
      refine AO.pure T rfl rfl rfl ?_
      refine AO.pure T rfl rfl rfl ?_
      refine AO.nil ?_
      refine AW.seq ?_
      refine AW.region ?_
      refine AO.pure T rfl rfl rfl ?_
      refine AO.pure T rfl rfl rfl ?_
      refine AO.pure T rfl rfl rfl ?_
      refine AO.nil ?_
      refine AW.cond (b := (y2 == n)) rfl (fun hc => ?_) (fun hc => ?_)
      · replace hH := condT hc hH
        refine AW.seq ?_
        refine AW.region ?_
        refine AO.pure T rfl rfl rfl ?_
        refine AO.nil ?_
        refine AW.ret ?_
        cases someE hH
        exact ⟨trivial, _, [], rfl, .c (.c .v), by decide⟩
      · replace hH := condF hc hH
        refine AW.skip ?_
        refine AW.region ?_
        refine AO.val rfl rfl (ar_ok rfl rfl rfl rfl (inI_succ hlt6 hb5)) ?_
        refine AO.pure T rfl rfl rfl ?_
        refine AO.nil ?_
        refine ⟨k1 + 1, ⟨Nat.succ_le_of_lt hlt6, (by rw [drop_succ_of hd4]; exact hH)⟩, (by have := hlt6; dsimp only; omega), ?_⟩
        exact Le.cut 0 0 rfl (by repeat' (first | exact trivial | refine ⟨⟨_, rfl, rfl⟩, ?_⟩)) (by repeat' (first | exact trivial | refine ⟨⟨_, rfl, rfl⟩, ?_⟩)) rfl

def spec_seLine_l1 (x : Line) : List Int → Nat → Option Bool
  | [], k1 =>
    some (decide ((x.events.length : Int) > 0))
  | y2 :: ys3, k1 =>
    (opt (!((x.points.length : Int) != (x.events.length : Int))) default (getI x.points (k1 : Int))).bind fun x36 =>
    (opt (!((x.points.length : Int) != (x.events.length : Int))) default (spec_seEntry_p (Entry.mk y2 x.skater x36))).bind fun x38 =>
    cond (((x.points.length : Int) != (x.events.length : Int)) || (!x38))
      (some false)
      ((opt (decide ((k1 : Int) > 0)) default (getI x.points (w64 ((k1 : Int) - 1)))).bind fun x40 =>
      (opt (decide ((k1 : Int) > 0)) default (getI x.points (k1 : Int))).bind fun x42 =>
      (opt ((decide ((k1 : Int) > 0) && (!(decide (x40 < x42)))) && (x40 == x42)) default (getI x.events (w64 ((k1 : Int) - 1)))).bind fun x44 =>
      cond (decide ((k1 : Int) > 0) && (decide (x40 < x42) || ((x40 == x42) && decide (x44 ≥ y2))))
        (some false)
        ((sliceHi x.events (k1 : Int)).bind fun x46 =>
        (spec_l1Has_p x46 y2).bind fun x48 =>
        cond x48
          (some false)
          (spec_seLine_l1 x ys3 (k1 + 1))))
def spec_seLine_p (x : Line) : Option Bool :=
  spec_seLine_l1 x x.events 0
theorem spec_seLine_ok (x : Line) (r : Bool) (hH : spec_seLine_p x = some r) : SpecR Tryz.prog 118 [.g (encLine x)] (.v (.bool r)) := by
  refine fn_ok T Tryz.func118 rfl (by decide) rfl ?_
  refine AW.seq ?_
  refine AW.region ?_
  refine AO.step rfl (box_ok T rfl 1 rfl rfl rfl rfl) ?_
  refine AO.pure T rfl rfl rfl ?_
  refine AO.nil ?_
  refine AW.seq ?_
  refine AW.seq ?_
  refine AW.region ?_
  refine AO.pure T rfl rfl rfl ?_
  refine AO.pure T rfl rfl rfl ?_
  refine AO.val rfl rfl (len_map_ok T rfl rfl rfl) ?_
  refine AO.pure T rfl rfl rfl ?_
  refine AO.nil ?_
  refine AW.block ?_
  refine AW.loopS (fun s : Nat => (⟨[(1, .p 1 0), (6, .v (.int .i64 (x.events.length : Int))), (7, .v (.int .i64 (s : Int)))], [(1, .box [.v (.int .i64 x.skater), .s (List.map encInt x.events), .s (List.map encInt x.points)])], 93, []⟩ : St)) (fun s => s ≤ x.events.length ∧ spec_seLine_l1 x (x.events.drop s) s = some r) (fun s => x.events.length - s) 0 ⟨Nat.zero_le _, hH⟩ ?_ ?_
  · exact Le.cut 0 0 rfl (by repeat' (first | exact trivial | refine ⟨⟨_, rfl, rfl⟩, ?_⟩)) (by repeat' (first | exact trivial | refine ⟨⟨_, rfl, rfl⟩, ?_⟩)) rfl
  · rintro k1 ⟨hk, hH⟩
    replace hH : spec_seLine_l1 x (x.events.drop k1) k1 = some r := hH
    show AW _ _ _ (⟨[(1, .p 1 0), (6, .v (.int .i64 (x.events.length : Int))), (7, .v (.int .i64 (k1 : Int)))], [(1, .box [.v (.int .i64 x.skater), .s (List.map encInt x.events), .s (List.map encInt x.points)])], 93, []⟩ : St)
    refine AW.boundBox (id := 1) (j := 1) (l := x.events) rfl rfl (fun hb5 => ?_)
    cases hd4 : x.events.drop k1 with
    | nil =>
      rw [hd4] at hH
      rw [spec_seLine_l1] at hH
      have hlt6 := drop_ge hd4
      refine AW.seq ?_
      refine AW.region ?_
      refine AO.pure T rfl rfl rfl ?_
      refine AO.nil ?_
      refine AW.seq ?_
      refine AW.condF' (b := decide ((k1 : Int) < (x.events.length : Int))) rfl (rngF hlt6) ?_
      refine AW.exit ?_
      refine AW.seq ?_
      refine AW.region ?_
      refine AO.pure T rfl rfl rfl ?_
      refine AO.pure T rfl rfl rfl ?_
      refine AO.val rfl rfl (len_map_ok T rfl rfl rfl) ?_
      refine AO.pure T rfl rfl rfl ?_
      refine AO.pure T rfl rfl rfl ?_
      refine AO.nil ?_
      refine AW.ret ?_
      cases someE hH
      exact ⟨trivial, _, [], rfl, .c (.c .v), by decide⟩
    | cons y2 ys3 =>
      rw [hd4] at hH
      rw [spec_seLine_l1] at hH
      have hlt6 := drop_lt hd4
      refine AW.seq ?_
      refine AW.region ?_
      refine AO.pure T rfl rfl rfl ?_
      refine AO.nil ?_
      refine AW.seq ?_
      refine AW.condT' (b := decide ((k1 : Int) < (x.events.length : Int))) rfl (rngT hlt6) ?_
      refine AW.skip ?_
      refine AW.seq ?_
      refine AW.block ?_
      refine AW.seq ?_
      refine AW.region ?_
      refine AO.pure T rfl rfl rfl ?_
      refine AO.pure T rfl rfl rfl ?_
      refine AO.nil ?_
      refine AW.seq ?_
      refine AW.seq ?_
      obtain ⟨x36, hx37, hH⟩ := bindE hH
      obtain ⟨x38, hx39, hH⟩ := bindE hH
      refine AW.drawn 20 2 [] mix (by kernel_rfl) rfl ?_
      refine AD.pure T rfl rfl rfl ?_
      refine AD.pure T rfl rfl rfl ?_
      refine AD.val rfl rfl (len_map_ok T rfl rfl rfl) ?_
      refine AD.pure T rfl rfl rfl ?_
      refine AD.pure T rfl rfl rfl ?_
      refine AD.val rfl rfl (len_map_ok T rfl rfl rfl) ?_
      refine AD.pure T rfl rfl rfl ?_
      refine AD.pure T rfl rfl rfl ?_
      refine AD.pureG T [] rfl trivial rfl rfl ?_
      refine AD.pureG T [18] rfl ⟨fun h => h, trivial⟩ rfl rfl ?_
      refine AD.pureG T [] rfl trivial rfl rfl ?_
      refine AD.guard [19, 20] rfl ⟨fun h => h, fun h => h, trivial⟩ (fun hg => ix_map_ok T rfl rfl rfl rfl rfl (getI_drop hd4) rfl) rfl ?_
      refine AD.pureG T [21] rfl ⟨fun h => h, trivial⟩ rfl rfl ?_
      refine AD.pureG T [] rfl trivial rfl rfl ?_
      refine AD.pureG T [23] rfl ⟨fun h => h, trivial⟩ rfl rfl ?_
      refine AD.pureG T [] rfl trivial rfl rfl ?_
      refine AD.pureG T [25] rfl ⟨fun h => h, trivial⟩ rfl rfl ?_
      refine AD.pureG T [] rfl trivial rfl rfl ?_
      refine AD.guard [26, 27] rfl ⟨fun h => h, fun h => h, trivial⟩ (fun hg => ix_map_ok T rfl rfl rfl rfl rfl (optT hx37 hg) rfl) rfl ?_
      refine AD.pureG T [28] rfl ⟨fun h => h, trivial⟩ rfl rfl ?_
      refine AD.nil ?_
      refine AO.pureG T (d := .g [.v (.int .i64 y2), .v (.int .i64 x.skater), .v (.int .i64 x36)]) [22, 24, 29] rfl ⟨fun h => h, fun h => h, fun h => h, trivial⟩ rfl rfl ?_
      refine AO.guard [30] rfl ⟨fun h => h, trivial⟩ (fun hg => callV_ok rfl rfl rfl rfl (spec_seEntry_ok _ _ (optT hx39 hg)) rfl) rfl ?_
      refine AO.pureG T [31] rfl ⟨fun h => h, trivial⟩ rfl rfl ?_
      refine AO.val rfl rfl (pick_or rfl rfl rfl rfl) ?_
      refine AO.nil ?_
      refine AW.le (Le.cut 0 0 (σ' := (⟨[(1, .p 1 0), (3, .v (.int .i64 (k1 : Int))), (6, .v (.int .i64 (x.events.length : Int))), (7, .v (.int .i64 (k1 : Int))), (33, .v (.bool (((x.points.length : Int) != (x.events.length : Int)) || (!x38))))], [(1, .box [.v (.int .i64 x.skater), .s (List.map encInt x.events), .s (List.map encInt x.points)])], 93, []⟩ : St)) rfl (by repeat' (first | exact trivial | refine ⟨⟨_, rfl, rfl⟩, ?_⟩)) (by repeat' (first | exact trivial | refine ⟨⟨_, rfl, rfl⟩, ?_⟩)) rfl) ?_
      refine AW.cond (b := (((x.points.length : Int) != (x.events.length : Int)) || (!x38))) rfl (fun hc => ?_) (fun hc => ?_)
      · replace hH := condT hc hH
        refine AW.seq ?_
        refine AW.region ?_
        refine AO.pure T rfl rfl rfl ?_
        refine AO.nil ?_
        refine AW.ret ?_
        cases someE hH
        exact ⟨trivial, _, [], rfl, .c (.c .v), by decide⟩
      · replace hH := condF hc hH
        refine AW.skip ?_
        refine AW.seq ?_
        refine AW.seq ?_
        obtain ⟨x40, hx41, hH⟩ := bindE hH
        obtain ⟨x42, hx43, hH⟩ := bindE hH
        obtain ⟨x44, hx45, hH⟩ := bindE hH
        refine AW.drawn 40 2 [] mix (by kernel_rfl) rfl ?_
        refine AD.pure T rfl rfl rfl ?_
        refine AD.pure T rfl rfl rfl ?_
        refine AD.pure T rfl rfl rfl ?_
        refine AD.pureG T [] rfl trivial rfl rfl ?_
        refine AD.pureG T [37] rfl ⟨fun h => h, trivial⟩ rfl rfl ?_
        refine AD.pureG T [] rfl trivial rfl rfl ?_
        refine AD.guard [39] rfl ⟨fun h => h, trivial⟩ (fun hg => arw_ok rfl rfl rfl rfl) rfl ?_
        refine AD.guard [38, 40] rfl ⟨fun h => h, fun h => h, trivial⟩ (fun hg => ix_map_ok T rfl rfl rfl rfl rfl (optT hx41 hg) rfl) rfl ?_
        refine AD.pureG T [41] rfl ⟨fun h => h, trivial⟩ rfl rfl ?_
        refine AD.pureG T [] rfl trivial rfl rfl ?_
        refine AD.pureG T [43] rfl ⟨fun h => h, trivial⟩ rfl rfl ?_
        refine AD.pureG T [] rfl trivial rfl rfl ?_
        refine AD.guard [44, 45] rfl ⟨fun h => h, fun h => h, trivial⟩ (fun hg => ix_map_ok T rfl rfl rfl rfl rfl (optT hx43 hg) rfl) rfl ?_
        refine AD.pureG T [46] rfl ⟨fun h => h, trivial⟩ rfl rfl ?_
        refine AD.pureG T [42, 47] rfl ⟨fun h => h, fun h => h, trivial⟩ rfl rfl ?_
        refine AD.pureG T [48] rfl ⟨fun h => h, trivial⟩ rfl rfl ?_
        refine AD.pureG T [] rfl trivial rfl rfl ?_
        refine AD.pureG T [50] rfl ⟨fun h => h, trivial⟩ rfl rfl ?_
        refine AD.pureG T [] rfl trivial rfl rfl ?_
        refine AD.guard [52] rfl ⟨fun h => h, trivial⟩ (fun hg => arw_ok rfl rfl rfl rfl) rfl ?_
        refine AD.guard [51, 53] rfl ⟨fun h => h, fun h => h, trivial⟩ (fun hg => ix_map_ok T rfl rfl rfl rfl rfl (optT hx41 ((fun h => (fun h => h) (Bool.and_eq_true_iff.1 h).1) hg)) rfl) rfl ?_
        refine AD.pureG T [54] rfl ⟨fun h => h, trivial⟩ rfl rfl ?_
        refine AD.pureG T [] rfl trivial rfl rfl ?_
        refine AD.pureG T [56] rfl ⟨fun h => h, trivial⟩ rfl rfl ?_
        refine AD.pureG T [] rfl trivial rfl rfl ?_
        refine AD.guard [57, 58] rfl ⟨fun h => h, fun h => h, trivial⟩ (fun hg => ix_map_ok T rfl rfl rfl rfl rfl (optT hx43 ((fun h => (fun h => h) (Bool.and_eq_true_iff.1 h).1) hg)) rfl) rfl ?_
        refine AD.pureG T [59] rfl ⟨fun h => h, trivial⟩ rfl rfl ?_
        refine AD.pureG T [55, 60] rfl ⟨fun h => h, fun h => h, trivial⟩ rfl rfl ?_
        refine AD.pureG T [61] rfl ⟨fun h => h, trivial⟩ rfl rfl ?_
        refine AD.pureG T [] rfl trivial rfl rfl ?_
        refine AD.pureG T [63] rfl ⟨fun h => h, trivial⟩ rfl rfl ?_
        refine AD.pureG T [] rfl trivial rfl rfl ?_
        refine AD.guard [65] rfl ⟨fun h => h, trivial⟩ (fun hg => arw_ok rfl rfl rfl rfl) rfl ?_
        refine AD.guard [64, 66] rfl ⟨fun h => h, fun h => h, trivial⟩ (fun hg => ix_map_ok T rfl rfl rfl rfl rfl (optT hx45 hg) rfl) rfl ?_
        refine AD.pureG T [67] rfl ⟨fun h => h, trivial⟩ rfl rfl ?_
        refine AD.pureG T [] rfl trivial rfl rfl ?_
        refine AD.pureG T [69] rfl ⟨fun h => h, trivial⟩ rfl rfl ?_
        refine AD.pureG T [] rfl trivial rfl rfl ?_
        refine AD.guard [70, 71] rfl ⟨fun h => h, fun h => h, trivial⟩ (fun hg => ix_map_ok T rfl rfl rfl rfl rfl (getI_drop hd4) rfl) rfl ?_
        refine AD.pureG T [72] rfl ⟨fun h => h, trivial⟩ rfl rfl ?_
        refine AD.nil ?_
        refine AO.pureG T [68, 73] rfl ⟨fun h => h, fun h => h, trivial⟩ rfl rfl ?_
        refine AO.guard [62] rfl ⟨fun h => h, trivial⟩ (fun hg => pick_and rfl rfl rfl (by rw [hg]; exact Bool.true_and _)) rfl ?_
        refine AO.guard [49] rfl ⟨fun h => h, trivial⟩ (fun hg => pick_or rfl rfl rfl (by rw [hg]; exact Bool.true_and _)) rfl ?_
        refine AO.val rfl rfl (pick_and rfl rfl rfl rfl) ?_
        refine AO.nil ?_
        refine AW.le (Le.cut 0 0 (σ' := (⟨[(1, .p 1 0), (3, .v (.int .i64 (k1 : Int))), (6, .v (.int .i64 (x.events.length : Int))), (7, .v (.int .i64 (k1 : Int))), (77, .v (.bool (decide ((k1 : Int) > 0) && (decide (x40 < x42) || ((x40 == x42) && decide (x44 ≥ y2))))))], [(1, .box [.v (.int .i64 x.skater), .s (List.map encInt x.events), .s (List.map encInt x.points)])], 93, []⟩ : St)) rfl (by repeat' (first | exact trivial | refine ⟨⟨_, rfl, rfl⟩, ?_⟩)) (by repeat' (first | exact trivial | refine ⟨⟨_, rfl, rfl⟩, ?_⟩)) rfl) ?_
        refine AW.cond (b := (decide ((k1 : Int) > 0) && (decide (x40 < x42) || ((x40 == x42) && decide (x44 ≥ y2))))) rfl (fun hc => ?_) (fun hc => ?_)
        · replace hH := condT hc hH
          refine AW.seq ?_
          refine AW.region ?_
          refine AO.pure T rfl rfl rfl ?_
          refine AO.nil ?_
          refine AW.ret ?_
          cases someE hH
          exact ⟨trivial, _, [], rfl, .c (.c .v), by decide⟩
        · replace hH := condF hc hH
          refine AW.skip ?_
          refine AW.seq ?_
          obtain ⟨x46, hx47, hH⟩ := bindE hH
          obtain ⟨x48, hx49, hH⟩ := bindE hH
          refine AW.drawn 9 2 [] mix (by kernel_rfl) rfl ?_
          refine AD.pure T rfl rfl rfl ?_
          refine AD.pure T rfl rfl rfl ?_
          refine AD.pure T rfl rfl rfl ?_
          refine AD.val rfl rfl (slice_hi_map_ok T rfl rfl rfl rfl rfl (hx47) (fun _ => rfl)) ?_
          refine AD.pure T rfl rfl rfl ?_
          refine AD.pure T rfl rfl rfl ?_
          refine AD.pure T rfl rfl rfl ?_
          refine AD.val rfl rfl (ix_map_ok T rfl rfl rfl rfl rfl (getI_drop hd4) rfl) ?_
          refine AD.pure T rfl rfl rfl ?_
          refine AD.nil ?_
          refine AO.val rfl rfl (callV_ok rfl rfl rfl rfl (spec_l1Has_ok _ _ _ (hx49)) rfl) ?_
          refine AO.nil ?_
          refine AW.cond (b := x48) rfl (fun hc => ?_) (fun hc => ?_)
          · replace hH := condT hc hH
            refine AW.seq ?_
            refine AW.region ?_
            refine AO.pure T rfl rfl rfl ?_
            refine AO.nil ?_
            refine AW.ret ?_
            cases someE hH
            exact ⟨trivial, _, [], rfl, .c (.c .v), by decide⟩
          · replace hH := condF hc hH
            refine AW.skip ?_
            refine AW.region ?_
            refine AO.val rfl rfl (ar_ok rfl rfl rfl rfl (inI_succ hlt6 hb5)) ?_
            refine AO.pure T rfl rfl rfl ?_
            refine AO.nil ?_
            refine ⟨k1 + 1, ⟨Nat.succ_le_of_lt hlt6, (by rw [drop_succ_of hd4]; exact hH)⟩, (by have := hlt6; dsimp only; omega), ?_⟩
            exact Le.cut 0 0 rfl (by repeat' (first | exact trivial | refine ⟨⟨_, rfl, rfl⟩, ?_⟩)) (by repeat' (first | exact trivial | refine ⟨⟨_, rfl, rfl⟩, ?_⟩)) rfl

def spec_seGood_l1 (sA : Season) : List Line → Nat → Int → Option Bool
  | [], k1, v16 =>
    (spec_l1In_p sA.best 1 9).bind fun x18 =>
    some (x18 && decide (v16 ≤ 80))
  | y2 :: ys3, k1, v16 =>
    (spec_seLine_p y2).bind fun x20 =>
    (opt ((!(!x20)) && decide ((k1 : Int) > 0)) default (getI sA.lines (w64 ((k1 : Int) - 1)))).bind fun x22 =>
    cond ((!x20) || (decide ((k1 : Int) > 0) && decide (x22.skater ≥ y2.skater)))
      (some false)
      (spec_seGood_l1 sA ys3 (k1 + 1) (w64 (v16 + (y2.events.length : Int))))
def spec_seGood_p (sA : Season) : Option Bool :=
  spec_seGood_l1 sA sA.lines 0 0
theorem spec_seGood_ok (sA : Season) (r : Bool) (hH : spec_seGood_p sA = some r) : SpecR Tryz.prog 92 [.g (encSeason sA)] (.v (.bool r)) := by
  refine fn_ok T Tryz.func92 rfl (by decide) rfl ?_
  refine AW.seq ?_
  refine AW.region ?_
  refine AO.step rfl (box_ok T rfl 1 rfl rfl rfl rfl) ?_
  refine AO.pure T rfl rfl rfl ?_
  refine AO.nil ?_
  refine AW.seq ?_
  refine AW.region ?_
  refine AO.pure T rfl rfl rfl ?_
  refine AO.nil ?_
  refine AW.seq ?_
  refine AW.seq ?_
  refine AW.region ?_
  refine AO.pure T rfl rfl rfl ?_
  refine AO.pure T rfl rfl rfl ?_
  refine AO.val rfl rfl (len_map_ok T rfl rfl rfl) ?_
  refine AO.pure T rfl rfl rfl ?_
  refine AO.nil ?_
  refine AW.block ?_
  refine AW.loopS (fun s : Nat × Int => (⟨[(1, .p 1 0), (3, .v (.int .i64 s.2)), (7, .s (List.map encLine sA.lines)), (8, .v (.int .i64 (sA.lines.length : Int))), (9, .v (.int .i64 (s.1 : Int)))], [(1, .box [.v (.int .i64 sA.best), .s (List.map encLine sA.lines)])], 46, []⟩ : St)) (fun s => s.1 ≤ sA.lines.length ∧ spec_seGood_l1 sA (sA.lines.drop s.1) s.1 s.2 = some r) (fun s => sA.lines.length - s.1) (0, 0) ⟨Nat.zero_le _, hH⟩ ?_ ?_
  · exact Le.cut 0 0 rfl (by repeat' (first | exact trivial | refine ⟨⟨_, rfl, rfl⟩, ?_⟩)) (by repeat' (first | exact trivial | refine ⟨⟨_, rfl, rfl⟩, ?_⟩)) rfl
  · rintro ⟨k1, v16⟩ ⟨hk, hH⟩
    replace hH : spec_seGood_l1 sA (sA.lines.drop k1) k1 v16 = some r := hH
    show AW _ _ _ (⟨[(1, .p 1 0), (3, .v (.int .i64 v16)), (7, .s (List.map encLine sA.lines)), (8, .v (.int .i64 (sA.lines.length : Int))), (9, .v (.int .i64 (k1 : Int)))], [(1, .box [.v (.int .i64 sA.best), .s (List.map encLine sA.lines)])], 46, []⟩ : St)
    refine AW.boundM (t := 7) (l := sA.lines) rfl (fun hb5 => ?_)
    cases hd4 : sA.lines.drop k1 with
    | nil =>
      rw [hd4] at hH
      rw [spec_seGood_l1] at hH
      have hlt6 := drop_ge hd4
      refine AW.seq ?_
      refine AW.region ?_
      refine AO.pure T rfl rfl rfl ?_
      refine AO.nil ?_
      refine AW.seq ?_
      refine AW.condF' (b := decide ((k1 : Int) < (sA.lines.length : Int))) rfl (rngF hlt6) ?_
      refine AW.exit ?_
      refine AW.seq ?_
      obtain ⟨x18, hx19, hH⟩ := bindE hH
      refine AW.region ?_
      refine AO.pure T rfl rfl rfl ?_
      refine AO.pure T rfl rfl rfl ?_
      refine AO.val rfl rfl (callV_ok rfl rfl rfl rfl (spec_l1In_ok _ _ _ _ (hx19)) rfl) ?_
      refine AO.pure T rfl rfl rfl ?_
      refine AO.pureG T [] rfl trivial rfl rfl ?_
      refine AO.pureG T [43] rfl ⟨fun h => h, trivial⟩ rfl rfl ?_
      refine AO.val rfl rfl (pick_and rfl rfl rfl rfl) ?_
      refine AO.pure T rfl rfl rfl ?_
      refine AO.nil ?_
      refine AW.ret ?_
      cases someE hH
      exact ⟨trivial, _, [], rfl, .c (.c .v), by decide⟩
    | cons y2 ys3 =>
      rw [hd4] at hH
      rw [spec_seGood_l1] at hH
      have hlt6 := drop_lt hd4
      refine AW.seq ?_
      refine AW.region ?_
      refine AO.pure T rfl rfl rfl ?_
      refine AO.nil ?_
      refine AW.seq ?_
      refine AW.condT' (b := decide ((k1 : Int) < (sA.lines.length : Int))) rfl (rngT hlt6) ?_
      refine AW.skip ?_
      refine AW.seq ?_
      refine AW.block ?_
      refine AW.seq ?_
      refine AW.region ?_
      refine AO.pure T rfl rfl rfl ?_
      refine AO.val rfl rfl (ix_map_ok T rfl rfl rfl rfl rfl (getI_drop hd4) rfl) ?_
      refine AO.pure T (d := .g [.v (.int .i64 y2.skater), .s (List.map encInt y2.events), .s (List.map encInt y2.points)]) rfl rfl rfl ?_
      refine AO.step rfl (alloc_ok T rfl 4 rfl rfl rfl rfl rfl) ?_
      refine AO.pure T rfl rfl rfl ?_
      refine AO.step rfl (store_okE T rfl rfl rfl rfl rfl rfl rfl rfl rfl (ds' := [.v (.int .i64 y2.skater), .s (List.map encInt y2.events), .s (List.map encInt y2.points)]) rfl) ?_
      refine AO.nil ?_
      refine AW.seq ?_
      refine AW.seq ?_
      obtain ⟨x20, hx21, hH⟩ := bindE hH
      obtain ⟨x22, hx23, hH⟩ := bindE hH
      refine AW.drawn 16 5 [] mix (by kernel_rfl) rfl ?_
      refine AD.pure T (d := .g [.v (.int .i64 y2.skater), .s (List.map encInt y2.events), .s (List.map encInt y2.points)]) rfl rfl rfl ?_
      refine AD.val rfl rfl (callV_ok rfl rfl rfl rfl (spec_seLine_ok _ _ (hx21)) rfl) ?_
      refine AD.pure T rfl rfl rfl ?_
      refine AD.pure T rfl rfl rfl ?_
      refine AD.pureG T [] rfl trivial rfl rfl ?_
      refine AD.pureG T [18] rfl ⟨fun h => h, trivial⟩ rfl rfl ?_
      refine AD.pureG T [19] rfl ⟨fun h => h, trivial⟩ rfl rfl ?_
      refine AD.pureG T [] rfl trivial rfl rfl ?_
      refine AD.pureG T [21] rfl ⟨fun h => h, trivial⟩ rfl rfl ?_
      refine AD.pureG T [] rfl trivial rfl rfl ?_
      refine AD.guard [23] rfl ⟨fun h => h, trivial⟩ (fun hg => arw_ok rfl rfl rfl rfl) rfl ?_
      refine AD.guard [22, 24] rfl ⟨fun h => h, fun h => h, trivial⟩ (fun hg => ix_map_ok T rfl rfl rfl rfl rfl (optT hx23 hg) rfl) rfl ?_
      refine AD.pureG T [25] rfl ⟨fun h => h, trivial⟩ rfl rfl ?_
      refine AD.pureG T [26] rfl ⟨fun h => h, trivial⟩ rfl rfl ?_
      refine AD.pureG T [] rfl trivial rfl rfl ?_
      refine AD.pureG T [28] rfl ⟨fun h => h, trivial⟩ rfl rfl ?_
      refine AD.nil ?_
      refine AO.pureG T [27, 29] rfl ⟨fun h => h, fun h => h, trivial⟩ rfl rfl ?_
      refine AO.guard [20] rfl ⟨fun h => h, trivial⟩ (fun hg => pick_and rfl rfl rfl (by rw [hg]; exact Bool.true_and _)) rfl ?_
      refine AO.val rfl rfl (pick_or rfl rfl rfl rfl) ?_
      refine AO.nil ?_
      refine AW.le (Le.cut 0 0 (σ' := (⟨[(1, .p 1 0), (3, .v (.int .i64 v16)), (5, .p 4 0), (7, .s (List.map encLine sA.lines)), (8, .v (.int .i64 (sA.lines.length : Int))), (9, .v (.int .i64 (k1 : Int))), (32, .v (.bool ((!x20) || (decide ((k1 : Int) > 0) && decide (x22.skater ≥ y2.skater)))))], [(1, .box [.v (.int .i64 sA.best), .s (List.map encLine sA.lines)]), (4, .box [.v (.int .i64 y2.skater), .s (List.map encInt y2.events), .s (List.map encInt y2.points)])], 46, []⟩ : St)) rfl (by repeat' (first | exact trivial | refine ⟨⟨_, rfl, rfl⟩, ?_⟩)) (by repeat' (first | exact trivial | refine ⟨⟨_, rfl, rfl⟩, ?_⟩)) rfl) ?_
      refine AW.cond (b := ((!x20) || (decide ((k1 : Int) > 0) && decide (x22.skater ≥ y2.skater)))) rfl (fun hc => ?_) (fun hc => ?_)
      · replace hH := condT hc hH
        refine AW.seq ?_
        refine AW.region ?_
        refine AO.pure T rfl rfl rfl ?_
        refine AO.nil ?_
        refine AW.ret ?_
        cases someE hH
        exact ⟨trivial, _, [], rfl, .c (.c .v), by decide⟩
      · replace hH := condF hc hH
        refine AW.skip ?_
        refine AW.region ?_
        refine AO.pure T rfl rfl rfl ?_
        refine AO.pure T rfl rfl rfl ?_
        refine AO.pure T rfl rfl rfl ?_
        refine AO.val rfl rfl (len_map_ok T rfl rfl rfl) ?_
        refine AO.val rfl rfl (arw_ok rfl rfl rfl rfl) ?_
        refine AO.pure T rfl rfl rfl ?_
        refine AO.nil ?_
        refine AW.region ?_
        refine AO.val rfl rfl (ar_ok rfl rfl rfl rfl (inI_succ hlt6 hb5)) ?_
        refine AO.pure T rfl rfl rfl ?_
        refine AO.nil ?_
        refine ⟨(k1 + 1, w64 (v16 + (y2.events.length : Int))), ⟨Nat.succ_le_of_lt hlt6, (by rw [drop_succ_of hd4]; exact hH)⟩, (by have := hlt6; dsimp only; omega), ?_⟩
        exact Le.cut 0 0 rfl (by repeat' (first | exact trivial | refine ⟨⟨_, rfl, rfl⟩, ?_⟩)) (by repeat' (first | exact trivial | refine ⟨⟨_, rfl, rfl⟩, ?_⟩)) rfl

def spec_wlGood_l2 (w : World) : List Int → Nat → Option Bool
  | [], k12 =>
    (spec_l1In_p (w.seasons.length : Int) 1 3).bind fun x27 =>
    some (x27 && ((w.weights.length : Int) == (w.seasons.length : Int)))
  | y13 :: ys14, k12 =>
    (spec_l1In_p y13 0 100).bind fun x29 =>
    (opt ((!(!x29)) && decide ((k12 : Int) > 0)) default (getI w.weights (w64 ((k12 : Int) - 1)))).bind fun x31 =>
    cond ((!x29) || (decide ((k12 : Int) > 0) && decide (x31 < y13)))
      (some false)
      (spec_wlGood_l2 w ys14 (k12 + 1))
def spec_wlGood_l1 (w : World) : List Season → Nat → Option Bool
  | [], k1 =>
    spec_wlGood_l2 w w.weights 0
  | y2 :: ys3, k1 =>
    (spec_seGood_p y2).bind fun x33 =>
    cond (!x33)
      (some false)
      (spec_wlGood_l1 w ys3 (k1 + 1))
def spec_wlGood_p (w : World) : Option Bool :=
  spec_wlGood_l1 w w.seasons 0
theorem spec_wlGood_ok (w : World) (r : Bool) (hH : spec_wlGood_p w = some r) : SpecR Tryz.prog 52 [.g (encWorld w)] (.v (.bool r)) := by
  refine fn_ok T Tryz.func52 rfl (by decide) rfl ?_
  refine AW.seq ?_
  refine AW.region ?_
  refine AO.step rfl (box_ok T rfl 1 rfl rfl rfl rfl) ?_
  refine AO.pure T rfl rfl rfl ?_
  refine AO.nil ?_
  refine AW.seq ?_
  refine AW.seq ?_
  refine AW.region ?_
  refine AO.pure T rfl rfl rfl ?_
  refine AO.pure T rfl rfl rfl ?_
  refine AO.val rfl rfl (len_map_ok T rfl rfl rfl) ?_
  refine AO.pure T rfl rfl rfl ?_
  refine AO.nil ?_
  refine AW.block ?_
  refine AW.loopS (fun s : Nat => (⟨[(1, .p 1 0), (8, .s (List.map encSeason w.seasons)), (9, .v (.int .i64 (w.seasons.length : Int))), (10, .v (.int .i64 (s : Int)))], [(1, .box [.s (List.map encSeason w.seasons), .s (List.map encInt w.weights)])], 57, []⟩ : St)) (fun s => s ≤ w.seasons.length ∧ spec_wlGood_l1 w (w.seasons.drop s) s = some r) (fun s => w.seasons.length - s) 0 ⟨Nat.zero_le _, hH⟩ ?_ ?_
  · exact Le.cut 0 0 rfl (by repeat' (first | exact trivial | refine ⟨⟨_, rfl, rfl⟩, ?_⟩)) (by repeat' (first | exact trivial | refine ⟨⟨_, rfl, rfl⟩, ?_⟩)) rfl
  · rintro k1 ⟨hk, hH⟩
    replace hH : spec_wlGood_l1 w (w.seasons.drop k1) k1 = some r := hH
    show AW _ _ _ (⟨[(1, .p 1 0), (8, .s (List.map encSeason w.seasons)), (9, .v (.int .i64 (w.seasons.length : Int))), (10, .v (.int .i64 (k1 : Int)))], [(1, .box [.s (List.map encSeason w.seasons), .s (List.map encInt w.weights)])], 57, []⟩ : St)
    refine AW.boundM (t := 8) (l := w.seasons) rfl (fun hb5 => ?_)
    cases hd4 : w.seasons.drop k1 with
    | nil =>
      rw [hd4] at hH
      rw [spec_wlGood_l1] at hH
      have hlt6 := drop_ge hd4
      refine AW.seq ?_
      refine AW.region ?_
      refine AO.pure T rfl rfl rfl ?_
      refine AO.nil ?_
      refine AW.seq ?_
      refine AW.condF' (b := decide ((k1 : Int) < (w.seasons.length : Int))) rfl (rngF hlt6) ?_
      refine AW.exit ?_
      refine AW.seq ?_
      refine AW.seq ?_
      refine AW.region ?_
      refine AO.pure T rfl rfl rfl ?_
      refine AO.pure T rfl rfl rfl ?_
      refine AO.val rfl rfl (len_map_ok T rfl rfl rfl) ?_
      refine AO.pure T rfl rfl rfl ?_
      refine AO.nil ?_
      refine AW.block ?_
      refine AW.loopS (fun s : Nat => (⟨[(1, .p 1 0), (19, .s (List.map encInt w.weights)), (20, .v (.int .i64 (w.weights.length : Int))), (21, .v (.int .i64 (s : Int)))], [(1, .box [.s (List.map encSeason w.seasons), .s (List.map encInt w.weights)])], 57, []⟩ : St)) (fun s => s ≤ w.weights.length ∧ spec_wlGood_l2 w (w.weights.drop s) s = some r) (fun s => w.weights.length - s) 0 ⟨Nat.zero_le _, hH⟩ ?_ ?_
      · exact Le.cut 0 0 rfl (by repeat' (first | exact trivial | refine ⟨⟨_, rfl, rfl⟩, ?_⟩)) (by repeat' (first | exact trivial | refine ⟨⟨_, rfl, rfl⟩, ?_⟩)) rfl
      · rintro k12 ⟨hk, hH⟩
        replace hH : spec_wlGood_l2 w (w.weights.drop k12) k12 = some r := hH
        show AW _ _ _ (⟨[(1, .p 1 0), (19, .s (List.map encInt w.weights)), (20, .v (.int .i64 (w.weights.length : Int))), (21, .v (.int .i64 (k12 : Int)))], [(1, .box [.s (List.map encSeason w.seasons), .s (List.map encInt w.weights)])], 57, []⟩ : St)
        refine AW.boundM (t := 19) (l := w.weights) rfl (fun hb16 => ?_)
        cases hd15 : w.weights.drop k12 with
        | nil =>
          rw [hd15] at hH
          rw [spec_wlGood_l2] at hH
          have hlt17 := drop_ge hd15
          refine AW.seq ?_
          refine AW.region ?_
          refine AO.pure T rfl rfl rfl ?_
          refine AO.nil ?_
          refine AW.seq ?_
          refine AW.condF' (b := decide ((k12 : Int) < (w.weights.length : Int))) rfl (rngF hlt17) ?_
          refine AW.exit ?_
          refine AW.seq ?_
          obtain ⟨x27, hx28, hH⟩ := bindE hH
          refine AW.region ?_
          refine AO.pure T rfl rfl rfl ?_
          refine AO.pure T rfl rfl rfl ?_
          refine AO.val rfl rfl (len_map_ok T rfl rfl rfl) ?_
          refine AO.val rfl rfl (callV_ok rfl rfl rfl rfl (spec_l1In_ok _ _ _ _ (hx28)) rfl) ?_
          refine AO.pure T rfl rfl rfl ?_
          refine AO.pureG T [] rfl trivial rfl rfl ?_
          refine AO.pureG T [49] rfl ⟨fun h => h, trivial⟩ rfl rfl ?_
          refine AO.guard [50] rfl ⟨fun h => h, trivial⟩ (fun hg => len_map_ok T rfl rfl rfl) rfl ?_
          refine AO.pureG T [] rfl trivial rfl rfl ?_
          refine AO.pureG T [52] rfl ⟨fun h => h, trivial⟩ rfl rfl ?_
          refine AO.guard [53] rfl ⟨fun h => h, trivial⟩ (fun hg => len_map_ok T rfl rfl rfl) rfl ?_
          refine AO.pureG T [51, 54] rfl ⟨fun h => h, fun h => h, trivial⟩ rfl rfl ?_
          refine AO.val rfl rfl (pick_and rfl rfl rfl rfl) ?_
          refine AO.pure T rfl rfl rfl ?_
          refine AO.nil ?_
          refine AW.ret ?_
          cases someE hH
          exact ⟨trivial, _, [], rfl, .c (.c .v), by decide⟩
        | cons y13 ys14 =>
          rw [hd15] at hH
          rw [spec_wlGood_l2] at hH
          have hlt17 := drop_lt hd15
          refine AW.seq ?_
          refine AW.region ?_
          refine AO.pure T rfl rfl rfl ?_
          refine AO.nil ?_
          refine AW.seq ?_
          refine AW.condT' (b := decide ((k12 : Int) < (w.weights.length : Int))) rfl (rngT hlt17) ?_
          refine AW.skip ?_
          refine AW.seq ?_
          refine AW.block ?_
          refine AW.seq ?_
          refine AW.region ?_
          refine AO.pure T rfl rfl rfl ?_
          refine AO.val rfl rfl (ix_map_ok T rfl rfl rfl rfl rfl (getI_drop hd15) rfl) ?_
          refine AO.pure T rfl rfl rfl ?_
          refine AO.pure T rfl rfl rfl ?_
          refine AO.pure T rfl rfl rfl ?_
          refine AO.nil ?_
          refine AW.seq ?_
          obtain ⟨x29, hx30, hH⟩ := bindE hH
          obtain ⟨x31, hx32, hH⟩ := bindE hH
          refine AW.region ?_
          refine AO.pure T rfl rfl rfl ?_
          refine AO.val rfl rfl (callV_ok rfl rfl rfl rfl (spec_l1In_ok _ _ _ _ (hx30)) rfl) ?_
          refine AO.pure T rfl rfl rfl ?_
          refine AO.pure T rfl rfl rfl ?_
          refine AO.pureG T [] rfl trivial rfl rfl ?_
          refine AO.pureG T [30] rfl ⟨fun h => h, trivial⟩ rfl rfl ?_
          refine AO.pureG T [31] rfl ⟨fun h => h, trivial⟩ rfl rfl ?_
          refine AO.pureG T [] rfl trivial rfl rfl ?_
          refine AO.pureG T [33] rfl ⟨fun h => h, trivial⟩ rfl rfl ?_
          refine AO.pureG T [] rfl trivial rfl rfl ?_
          refine AO.guard [35] rfl ⟨fun h => h, trivial⟩ (fun hg => arw_ok rfl rfl rfl rfl) rfl ?_
          refine AO.guard [34, 36] rfl ⟨fun h => h, fun h => h, trivial⟩ (fun hg => ix_map_ok T rfl rfl rfl rfl rfl (optT hx32 hg) rfl) rfl ?_
          refine AO.pureG T [37] rfl ⟨fun h => h, trivial⟩ rfl rfl ?_
          refine AO.pureG T [] rfl trivial rfl rfl ?_
          refine AO.pureG T [38, 39] rfl ⟨fun h => h, fun h => h, trivial⟩ rfl rfl ?_
          refine AO.guard [32] rfl ⟨fun h => h, trivial⟩ (fun hg => pick_and rfl rfl rfl (by rw [hg]; exact Bool.true_and _)) rfl ?_
          refine AO.val rfl rfl (pick_or rfl rfl rfl rfl) ?_
          refine AO.nil ?_
          refine AW.cond (b := ((!x29) || (decide ((k12 : Int) > 0) && decide (x31 < y13)))) rfl (fun hc => ?_) (fun hc => ?_)
          · replace hH := condT hc hH
            refine AW.seq ?_
            refine AW.region ?_
            refine AO.pure T rfl rfl rfl ?_
            refine AO.nil ?_
            refine AW.le (Le.cut 0 0 (σ' := (⟨[(2, .v (.bool false))], [], 57, []⟩ : St)) rfl (by repeat' (first | exact trivial | refine ⟨⟨_, rfl, rfl⟩, ?_⟩)) (by repeat' (first | exact trivial | refine ⟨⟨_, rfl, rfl⟩, ?_⟩)) rfl) ?_
            refine AW.ret ?_
            cases someE hH
            exact ⟨trivial, _, [], rfl, .c (.c .v), by decide⟩
          · replace hH := condF hc hH
            refine AW.skip ?_
            refine AW.region ?_
            refine AO.val rfl rfl (ar_ok rfl rfl rfl rfl (inI_succ hlt17 hb16)) ?_
            refine AO.pure T rfl rfl rfl ?_
            refine AO.nil ?_
            refine ⟨k12 + 1, ⟨Nat.succ_le_of_lt hlt17, (by rw [drop_succ_of hd15]; exact hH)⟩, (by have := hlt17; dsimp only; omega), ?_⟩
            exact Le.cut 0 0 rfl (by repeat' (first | exact trivial | refine ⟨⟨_, rfl, rfl⟩, ?_⟩)) (by repeat' (first | exact trivial | refine ⟨⟨_, rfl, rfl⟩, ?_⟩)) rfl
    | cons y2 ys3 =>
      rw [hd4] at hH
      rw [spec_wlGood_l1] at hH
      have hlt6 := drop_lt hd4
      refine AW.seq ?_
      refine AW.region ?_
      refine AO.pure T rfl rfl rfl ?_
      refine AO.nil ?_
      refine AW.seq ?_
      refine AW.condT' (b := decide ((k1 : Int) < (w.seasons.length : Int))) rfl (rngT hlt6) ?_
      refine AW.skip ?_
      refine AW.seq ?_
      refine AW.block ?_
      refine AW.seq ?_
      refine AW.region ?_
      refine AO.val rfl rfl (ix_map_ok T rfl rfl rfl rfl rfl (getI_drop hd4) rfl) ?_
      refine AO.pure T (d := .g [.v (.int .i64 y2.best), .s (List.map encLine y2.lines)]) rfl rfl rfl ?_
      refine AO.step rfl (alloc_ok T rfl 4 rfl rfl rfl rfl rfl) ?_
      refine AO.step rfl (store_okE T rfl rfl rfl rfl rfl rfl rfl rfl rfl (ds' := [.v (.int .i64 y2.best), .s (List.map encLine y2.lines)]) rfl) ?_
      refine AO.nil ?_
      refine AW.seq ?_
      obtain ⟨x33, hx34, hH⟩ := bindE hH
      refine AW.region ?_
      refine AO.pure T (d := .g [.v (.int .i64 y2.best), .s (List.map encLine y2.lines)]) rfl rfl rfl ?_
      refine AO.val rfl rfl (callV_ok rfl rfl rfl rfl (spec_seGood_ok _ _ (hx34)) rfl) ?_
      refine AO.pure T rfl rfl rfl ?_
      refine AO.nil ?_
      refine AW.cond (b := (!x33)) rfl (fun hc => ?_) (fun hc => ?_)
      · replace hH := condT hc hH
        refine AW.seq ?_
        refine AW.region ?_
        refine AO.pure T rfl rfl rfl ?_
        refine AO.nil ?_
        refine AW.ret ?_
        cases someE hH
        exact ⟨trivial, _, [], rfl, .c (.c .v), by decide⟩
      · replace hH := condF hc hH
        refine AW.skip ?_
        refine AW.region ?_
        refine AO.val rfl rfl (ar_ok rfl rfl rfl rfl (inI_succ hlt6 hb5)) ?_
        refine AO.pure T rfl rfl rfl ?_
        refine AO.nil ?_
        refine ⟨k1 + 1, ⟨Nat.succ_le_of_lt hlt6, (by rw [drop_succ_of hd4]; exact hH)⟩, (by have := hlt6; dsimp only; omega), ?_⟩
        exact Le.cut 0 0 rfl (by repeat' (first | exact trivial | refine ⟨⟨_, rfl, rfl⟩, ?_⟩)) (by repeat' (first | exact trivial | refine ⟨⟨_, rfl, rfl⟩, ?_⟩)) rfl

def spec_soOrder_l1 (order : List Int) : List Int → Nat → Option Bool
  | [], k1 =>
    some (decide ((order.length : Int) ≤ 40))
  | y2 :: ys3, k1 =>
    (spec_l1In_p y2 1 999).bind fun x20 =>
    (opt (!(!x20)) default (sliceHi order (k1 : Int))).bind fun x22 =>
    (opt (!(!x20)) default (spec_l1Has_p x22 y2)).bind fun x24 =>
    cond ((!x20) || x24)
      (some false)
      (spec_soOrder_l1 order ys3 (k1 + 1))
def spec_soOrder_p (order : List Int) : Option Bool :=
  spec_soOrder_l1 order order 0
theorem spec_soOrder_ok (order : List Int) (r : Bool) (hH : spec_soOrder_p order = some r) : SpecR Tryz.prog 53 [.s (List.map encInt order)] (.v (.bool r)) := by
  refine fn_ok T Tryz.func53 rfl (by decide) rfl ?_
  refine AW.seq ?_
  refine AW.region ?_
  refine AO.pure T rfl rfl rfl ?_
  refine AO.nil ?_
  refine AW.seq ?_
  refine AW.seq ?_
  refine AW.region ?_
  refine AO.pure T rfl rfl rfl ?_
  refine AO.val rfl rfl (len_map_ok T rfl rfl rfl) ?_
  refine AO.pure T rfl rfl rfl ?_
  refine AO.nil ?_
  refine AW.block ?_
  refine AW.loopS (fun s : Nat => (⟨[(0, .s (List.map encInt order)), (5, .s (List.map encInt order)), (6, .v (.int .i64 (order.length : Int))), (7, .v (.int .i64 (s : Int)))], [], 26, []⟩ : St)) (fun s => s ≤ order.length ∧ spec_soOrder_l1 order (order.drop s) s = some r) (fun s => order.length - s) 0 ⟨Nat.zero_le _, hH⟩ ?_ ?_
  · exact Le.cut 0 0 rfl (by repeat' (first | exact trivial | refine ⟨⟨_, rfl, rfl⟩, ?_⟩)) (by repeat' (first | exact trivial | refine ⟨⟨_, rfl, rfl⟩, ?_⟩)) rfl
  · rintro k1 ⟨hk, hH⟩
    replace hH : spec_soOrder_l1 order (order.drop k1) k1 = some r := hH
    show AW _ _ _ (⟨[(0, .s (List.map encInt order)), (5, .s (List.map encInt order)), (6, .v (.int .i64 (order.length : Int))), (7, .v (.int .i64 (k1 : Int)))], [], 26, []⟩ : St)
    refine AW.boundM (t := 0) (l := order) rfl (fun hb5 => ?_)
    cases hd4 : order.drop k1 with
    | nil =>
      rw [hd4] at hH
      rw [spec_soOrder_l1] at hH
      have hlt6 := drop_ge hd4
      refine AW.seq ?_
      refine AW.region ?_
      refine AO.pure T rfl rfl rfl ?_
      refine AO.nil ?_
      refine AW.seq ?_
      refine AW.condF' (b := decide ((k1 : Int) < (order.length : Int))) rfl (rngF hlt6) ?_
      refine AW.exit ?_
      refine AW.seq ?_
      refine AW.region ?_
      refine AO.pure T rfl rfl rfl ?_
      refine AO.val rfl rfl (len_map_ok T rfl rfl rfl) ?_
      refine AO.pure T rfl rfl rfl ?_
      refine AO.pure T rfl rfl rfl ?_
      refine AO.nil ?_
      refine AW.ret ?_
      cases someE hH
      exact ⟨trivial, _, [], rfl, .c (.c .v), by decide⟩
    | cons y2 ys3 =>
      rw [hd4] at hH
      rw [spec_soOrder_l1] at hH
      have hlt6 := drop_lt hd4
      refine AW.seq ?_
      refine AW.region ?_
      refine AO.pure T rfl rfl rfl ?_
      refine AO.nil ?_
      refine AW.seq ?_
      refine AW.condT' (b := decide ((k1 : Int) < (order.length : Int))) rfl (rngT hlt6) ?_
      refine AW.skip ?_
      refine AW.seq ?_
      refine AW.block ?_
      refine AW.seq ?_
      refine AW.region ?_
      refine AO.pure T rfl rfl rfl ?_
      refine AO.val rfl rfl (ix_map_ok T rfl rfl rfl rfl rfl (getI_drop hd4) rfl) ?_
      refine AO.pure T rfl rfl rfl ?_
      refine AO.pure T rfl rfl rfl ?_
      refine AO.pure T rfl rfl rfl ?_
      refine AO.nil ?_
      refine AW.seq ?_
      obtain ⟨x20, hx21, hH⟩ := bindE hH
      obtain ⟨x22, hx23, hH⟩ := bindE hH
      obtain ⟨x24, hx25, hH⟩ := bindE hH
      refine AW.region ?_
      refine AO.pure T rfl rfl rfl ?_
      refine AO.val rfl rfl (callV_ok rfl rfl rfl rfl (spec_l1In_ok _ _ _ _ (hx21)) rfl) ?_
      refine AO.pure T rfl rfl rfl ?_
      refine AO.pure T rfl rfl rfl ?_
      refine AO.pureG T [] rfl trivial rfl rfl ?_
      refine AO.pureG T [] rfl trivial rfl rfl ?_
      refine AO.guard [16, 17] rfl ⟨fun h => h, fun h => h, trivial⟩ (fun hg => slice_hi_map_ok T rfl rfl rfl rfl rfl (optT hx23 hg) (fun _ => rfl)) rfl ?_
      refine AO.pureG T [] rfl trivial rfl rfl ?_
      refine AO.guard [18, 19] rfl ⟨fun h => h, fun h => h, trivial⟩ (fun hg => callV_ok rfl rfl rfl rfl (spec_l1Has_ok _ _ _ (optT hx25 hg)) rfl) rfl ?_
      refine AO.val rfl rfl (pick_or rfl rfl rfl rfl) ?_
      refine AO.nil ?_
      refine AW.cond (b := ((!x20) || x24)) rfl (fun hc => ?_) (fun hc => ?_)
      · replace hH := condT hc hH
        refine AW.seq ?_
        refine AW.region ?_
        refine AO.pure T rfl rfl rfl ?_
        refine AO.nil ?_
        refine AW.ret ?_
        cases someE hH
        exact ⟨trivial, _, [], rfl, .c (.c .v), by decide⟩
      · replace hH := condF hc hH
        refine AW.skip ?_
        refine AW.region ?_
        refine AO.val rfl rfl (ar_ok rfl rfl rfl rfl (inI_succ hlt6 hb5)) ?_
        refine AO.pure T rfl rfl rfl ?_
        refine AO.nil ?_
        refine ⟨k1 + 1, ⟨Nat.succ_le_of_lt hlt6, (by rw [drop_succ_of hd4]; exact hH)⟩, (by have := hlt6; dsimp only; omega), ?_⟩
        exact Le.cut 0 0 rfl (by repeat' (first | exact trivial | refine ⟨⟨_, rfl, rfl⟩, ?_⟩)) (by repeat' (first | exact trivial | refine ⟨⟨_, rfl, rfl⟩, ?_⟩)) rfl

def spec_l1Put_l1 (l : List Int) (n : Int) : Nat → Int → Option Int
  | 0, _ => none
  | k13 + 1, v19 =>
    (opt (decide (v19 < (l.length : Int))) default (getI l v19)).bind fun x21 =>
    cond (decide (v19 < (l.length : Int)) && decide (x21 < n))
      (spec_l1Put_l1 l n k13 (w64 (v19 + 1)))
      (some v19)
def spec_l1Put_p (fuel : Nat) (l : List Int) (n : Int) : Option (List Int) :=
  (spec_l1Put_l1 l n fuel 0).bind fun v10 =>
  (opt (decide (v10 < (l.length : Int))) default (getI l v10)).bind fun x23 =>
  cond (decide (v10 < (l.length : Int)) && (x23 == n))
    (some l)
    ((sliceHi l v10).bind fun x25 =>
    (need (fitsB 8 x25.length)).bind fun u27 =>
    (need (fitsB 8 (x25.length + ([n]).length))).bind fun u29 =>
    (sliceLo l v10).bind fun x31 =>
    (need (fitsB 8 (((x25 ++ [n])).length + x31.length))).bind fun u33 =>
    some ((x25 ++ [n]) ++ x31))
theorem spec_l1Put_ok (fuel : Nat) (l : List Int) (n : Int) (r : (List Int)) (hH : spec_l1Put_p fuel l n = some r) : SpecR Tryz.prog 86 [.s (List.map encInt l), .v (.int .i64 n)] (.s (r.map encInt)) := by
  refine fn_ok T Tryz.func86 rfl (by decide) rfl ?_
  refine AW.seq ?_
  refine AW.region ?_
  refine AO.pure T rfl rfl rfl ?_
  refine AO.nil ?_
  refine AW.seq ?_
  refine AW.region ?_
  refine AO.pure T rfl rfl rfl ?_
  refine AO.nil ?_
  obtain ⟨o11, hH, hK12⟩ := bindE hH
  refine AW.seqJ (fun s : Int => (⟨[(0, .s (List.map encInt l)), (1, .v (.int .i64 n)), (5, .v (.int .i64 s))], [], 48, []⟩ : St)) (fun s => s = o11) ?_ ?_
  · refine AW.block ?_
    refine AW.loopS (fun s : Nat × Int => (⟨[(0, .s (List.map encInt l)), (1, .v (.int .i64 n)), (5, .v (.int .i64 s.2))], [], 48, []⟩ : St)) (fun s => spec_l1Put_l1 l n s.1 s.2 = some o11) (fun s => s.1) (fuel, 0) hH ?_ ?_
    · exact Le.cut 0 0 rfl (by repeat' (first | exact trivial | refine ⟨⟨_, rfl, rfl⟩, ?_⟩)) (by repeat' (first | exact trivial | refine ⟨⟨_, rfl, rfl⟩, ?_⟩)) rfl
    · rintro ⟨k13, v19⟩ hH
      replace hH : spec_l1Put_l1 l n k13 v19 = some o11 := hH
      show AW _ _ _ (⟨[(0, .s (List.map encInt l)), (1, .v (.int .i64 n)), (5, .v (.int .i64 v19))], [], 48, []⟩ : St)
      cases k13 with
      | zero => cases (show none = some _ from hH)
      | succ k13 =>
        rw [spec_l1Put_l1] at hH
        refine AW.seq ?_
        refine AW.seq ?_
        obtain ⟨x21, hx22, hH⟩ := bindE hH
        refine AW.region ?_
        refine AO.pure T rfl rfl rfl ?_
        refine AO.pure T rfl rfl rfl ?_
        refine AO.val rfl rfl (len_map_ok T rfl rfl rfl) ?_
        refine AO.pure T rfl rfl rfl ?_
        refine AO.pure T rfl rfl rfl ?_
        refine AO.pureG T [] rfl trivial rfl rfl ?_
        refine AO.pureG T [] rfl trivial rfl rfl ?_
        refine AO.guard [12, 13] rfl ⟨fun h => h, fun h => h, trivial⟩ (fun hg => ix_map_ok T rfl rfl rfl rfl rfl (optT hx22 hg) rfl) rfl ?_
        refine AO.pureG T [14] rfl ⟨fun h => h, trivial⟩ rfl rfl ?_
        refine AO.pureG T [] rfl trivial rfl rfl ?_
        refine AO.pureG T [15, 16] rfl ⟨fun h => h, fun h => h, trivial⟩ rfl rfl ?_
        refine AO.val rfl rfl (pick_and rfl rfl rfl rfl) ?_
        refine AO.nil ?_
        refine AW.cond (b := (decide (v19 < (l.length : Int)) && decide (x21 < n))) rfl (fun hc => ?_) (fun hc => ?_)
        · replace hH := condT hc hH
          refine AW.skip ?_
          refine AW.block ?_
          refine AW.region ?_
          refine AO.pure T rfl rfl rfl ?_
          refine AO.val rfl rfl (arw_ok rfl rfl rfl rfl) ?_
          refine AO.pure T rfl rfl rfl ?_
          refine AO.nil ?_
          refine ⟨(k13, w64 (v19 + 1)), hH, Nat.lt_succ_self _, ?_⟩
          exact Le.cut 0 0 rfl (by repeat' (first | exact trivial | refine ⟨⟨_, rfl, rfl⟩, ?_⟩)) (by repeat' (first | exact trivial | refine ⟨⟨_, rfl, rfl⟩, ?_⟩)) rfl
        · replace hH := condF hc hH
          refine AW.exit ?_
          refine ⟨_, someE hH, ?_⟩
          exact Le.cut 0 0 rfl (by repeat' (first | exact trivial | refine ⟨⟨_, rfl, rfl⟩, ?_⟩)) (by repeat' (first | exact trivial | refine ⟨⟨_, rfl, rfl⟩, ?_⟩)) rfl
  · rintro v10 hs
    subst hs
    replace hH := hK12
    try dsimp only [flow, flowE] at hH
    show AW _ _ _ (⟨[(0, .s (List.map encInt l)), (1, .v (.int .i64 n)), (5, .v (.int .i64 v10))], [], 48, []⟩ : St)
    refine AW.seq ?_
    refine AW.seq ?_
    obtain ⟨x23, hx24, hH⟩ := bindE hH
    refine AW.region ?_
    refine AO.pure T rfl rfl rfl ?_
    refine AO.pure T rfl rfl rfl ?_
    refine AO.val rfl rfl (len_map_ok T rfl rfl rfl) ?_
    refine AO.pure T rfl rfl rfl ?_
    refine AO.pure T rfl rfl rfl ?_
    refine AO.pureG T [] rfl trivial rfl rfl ?_
    refine AO.pureG T [] rfl trivial rfl rfl ?_
    refine AO.guard [26, 27] rfl ⟨fun h => h, fun h => h, trivial⟩ (fun hg => ix_map_ok T rfl rfl rfl rfl rfl (optT hx24 hg) rfl) rfl ?_
    refine AO.pureG T [28] rfl ⟨fun h => h, trivial⟩ rfl rfl ?_
    refine AO.pureG T [] rfl trivial rfl rfl ?_
    refine AO.pureG T [29, 30] rfl ⟨fun h => h, fun h => h, trivial⟩ rfl rfl ?_
    refine AO.val rfl rfl (pick_and rfl rfl rfl rfl) ?_
    refine AO.nil ?_
    refine AW.cond (b := (decide (v10 < (l.length : Int)) && (x23 == n))) rfl (fun hc => ?_) (fun hc => ?_)
    · replace hH := condT hc hH
      refine AW.seq ?_
      refine AW.region ?_
      refine AO.pure T rfl rfl rfl ?_
      refine AO.pure T rfl rfl rfl ?_
      refine AO.nil ?_
      refine AW.ret ?_
      cases someE hH
      exact ⟨trivial, _, [], rfl, .c (.c .s), by decide⟩
    · replace hH := condF hc hH
      refine AW.skip ?_
      refine AW.seq ?_
      obtain ⟨x25, hx26, hH⟩ := bindE hH
      obtain ⟨u27, hx28, hH⟩ := bindE hH
      refine AW.region ?_
      refine AO.step rfl (mk0_ok T rfl rfl rfl rfl) ?_
      refine AO.pure T rfl rfl rfl ?_
      refine AO.pure T rfl rfl rfl ?_
      refine AO.val rfl rfl (slice_hi_map_ok T rfl rfl rfl rfl rfl (hx26) (fun _ => rfl)) ?_
      refine AO.step rfl (app_ws_map T rfl 1 rfl rfl rfl rfl rfl (by decide) (by decide) rfl rfl (fun _ => rfl) (needT (hx28)) rfl rfl) ?_
      refine AO.pure T rfl rfl rfl ?_
      refine AO.nil ?_
      refine AW.seq ?_
      obtain ⟨u29, hx30, hH⟩ := bindE hH
      refine AW.region ?_
      refine AO.pure T rfl rfl rfl ?_
      refine AO.pure T rfl rfl rfl ?_
      refine AO.step rfl (mk_map_ok T rfl 2 rfl rfl rfl rfl rfl (f := encInt) (l := [n]) rfl rfl (fun _ => rfl) rfl rfl rfl rfl rfl) ?_
      refine AO.step rfl (app_rv_map T rfl 3 rfl rfl rfl rfl rfl (by decide) rfl rfl rfl rfl (fun _ => rfl) (needT (hx30)) rfl rfl) ?_
      refine AO.pure T rfl rfl rfl ?_
      refine AO.nil ?_
      refine AW.seq ?_
      obtain ⟨x31, hx32, hH⟩ := bindE hH
      obtain ⟨u33, hx34, hH⟩ := bindE hH
      refine AW.region ?_
      refine AO.pure T rfl rfl rfl ?_
      refine AO.pure T rfl rfl rfl ?_
      refine AO.pure T rfl rfl rfl ?_
      refine AO.val rfl rfl (slice_lo_map_ok T rfl rfl rfl rfl rfl (hx32) (fun _ => rfl)) ?_
      refine AO.step rfl (app_rs_map T rfl 4 rfl rfl rfl rfl rfl (by decide) (by decide) rfl rfl rfl (fun _ => rfl) (needT (hx34)) rfl rfl) ?_
      refine AO.pure T rfl rfl rfl ?_
      refine AO.nil ?_
      refine AW.le (Le.cut 0 0 (σ' := (⟨[(4, .R 4)], [(4, .row 1 (List.map encInt ((x25 ++ [n]) ++ x31)))], 48, []⟩ : St)) rfl (by repeat' (first | exact trivial | refine ⟨⟨_, rfl, rfl⟩, ?_⟩)) (by repeat' (first | exact trivial | refine ⟨⟨_, rfl, rfl⟩, ?_⟩)) rfl) ?_
      refine AW.le (Le.freezeM 4 (g := encInt) rfl (fun y => .vs rfl)) ?_
      refine AW.ret ?_
      cases someE hH
      exact ⟨trivial, _, [], rfl, .c (.c .s), by decide⟩

def spec_seIndex_l1 (sA : Season) (skater : Int) : Nat → Int → Option Int
  | 0, _ => none
  | k13 + 1, v19 =>
    (opt (decide (v19 < (sA.lines.length : Int))) default (getI sA.lines v19)).bind fun x21 =>
    cond (decide (v19 < (sA.lines.length : Int)) && decide (x21.skater < skater))
      (spec_seIndex_l1 sA skater k13 (w64 (v19 + 1)))
      (some v19)
def spec_seIndex_p (fuel : Nat) (sA : Season) (skater : Int) : Option Int :=
  (spec_seIndex_l1 sA skater fuel 0).bind fun v10 =>
  some v10
theorem spec_seIndex_ok (fuel : Nat) (sA : Season) (skater : Int) (r : Int) (hH : spec_seIndex_p fuel sA skater = some r) : SpecR Tryz.prog 126 [.g (encSeason sA), .v (.int .i64 skater)] (.v (.int .i64 r)) := by
  refine fn_ok T Tryz.func126 rfl (by decide) rfl ?_
  refine AW.seq ?_
  refine AW.region ?_
  refine AO.step rfl (box_ok T rfl 1 rfl rfl rfl rfl) ?_
  refine AO.pure T rfl rfl rfl ?_
  refine AO.nil ?_
  refine AW.seq ?_
  refine AW.region ?_
  refine AO.pure T rfl rfl rfl ?_
  refine AO.nil ?_
  obtain ⟨o11, hH, hK12⟩ := bindE hH
  refine AW.seqJ (fun s : Int => (⟨[(5, .v (.int .i64 s))], [], 24, []⟩ : St)) (fun s => s = o11) ?_ ?_
  · refine AW.block ?_
    refine AW.loopS (fun s : Nat × Int => (⟨[(1, .v (.int .i64 skater)), (2, .p 1 0), (5, .v (.int .i64 s.2))], [(1, .box [.v (.int .i64 sA.best), .s (List.map encLine sA.lines)])], 24, []⟩ : St)) (fun s => spec_seIndex_l1 sA skater s.1 s.2 = some o11) (fun s => s.1) (fuel, 0) hH ?_ ?_
    · exact Le.cut 0 0 rfl (by repeat' (first | exact trivial | refine ⟨⟨_, rfl, rfl⟩, ?_⟩)) (by repeat' (first | exact trivial | refine ⟨⟨_, rfl, rfl⟩, ?_⟩)) rfl
    · rintro ⟨k13, v19⟩ hH
      replace hH : spec_seIndex_l1 sA skater k13 v19 = some o11 := hH
      show AW _ _ _ (⟨[(1, .v (.int .i64 skater)), (2, .p 1 0), (5, .v (.int .i64 v19))], [(1, .box [.v (.int .i64 sA.best), .s (List.map encLine sA.lines)])], 24, []⟩ : St)
      cases k13 with
      | zero => cases (show none = some _ from hH)
      | succ k13 =>
        rw [spec_seIndex_l1] at hH
        refine AW.seq ?_
        refine AW.seq ?_
        obtain ⟨x21, hx22, hH⟩ := bindE hH
        refine AW.region ?_
        refine AO.pure T rfl rfl rfl ?_
        refine AO.pure T rfl rfl rfl ?_
        refine AO.pure T rfl rfl rfl ?_
        refine AO.val rfl rfl (len_map_ok T rfl rfl rfl) ?_
        refine AO.pure T rfl rfl rfl ?_
        refine AO.pure T rfl rfl rfl ?_
        refine AO.pureG T [] rfl trivial rfl rfl ?_
        refine AO.pureG T [12] rfl ⟨fun h => h, trivial⟩ rfl rfl ?_
        refine AO.pureG T [] rfl trivial rfl rfl ?_
        refine AO.guard [13, 14] rfl ⟨fun h => h, fun h => h, trivial⟩ (fun hg => ix_map_ok T rfl rfl rfl rfl rfl (optT hx22 hg) rfl) rfl ?_
        refine AO.pureG T [15] rfl ⟨fun h => h, trivial⟩ rfl rfl ?_
        refine AO.pureG T [16] rfl ⟨fun h => h, trivial⟩ rfl rfl ?_
        refine AO.pureG T [] rfl trivial rfl rfl ?_
        refine AO.pureG T [17, 18] rfl ⟨fun h => h, fun h => h, trivial⟩ rfl rfl ?_
        refine AO.val rfl rfl (pick_and rfl rfl rfl rfl) ?_
        refine AO.nil ?_
        refine AW.cond (b := (decide (v19 < (sA.lines.length : Int)) && decide (x21.skater < skater))) rfl (fun hc => ?_) (fun hc => ?_)
        · replace hH := condT hc hH
          refine AW.skip ?_
          refine AW.block ?_
          refine AW.region ?_
          refine AO.pure T rfl rfl rfl ?_
          refine AO.val rfl rfl (arw_ok rfl rfl rfl rfl) ?_
          refine AO.pure T rfl rfl rfl ?_
          refine AO.nil ?_
          refine ⟨(k13, w64 (v19 + 1)), hH, Nat.lt_succ_self _, ?_⟩
          exact Le.cut 0 0 rfl (by repeat' (first | exact trivial | refine ⟨⟨_, rfl, rfl⟩, ?_⟩)) (by repeat' (first | exact trivial | refine ⟨⟨_, rfl, rfl⟩, ?_⟩)) rfl
        · replace hH := condF hc hH
          refine AW.exit ?_
          refine ⟨_, someE hH, ?_⟩
          exact Le.cut 0 0 rfl (by repeat' (first | exact trivial | refine ⟨⟨_, rfl, rfl⟩, ?_⟩)) (by repeat' (first | exact trivial | refine ⟨⟨_, rfl, rfl⟩, ?_⟩)) rfl
  · rintro v10 hs
    subst hs
    replace hH := hK12
    try dsimp only [flow, flowE] at hH
    show AW _ _ _ (⟨[(5, .v (.int .i64 v10))], [], 24, []⟩ : St)
    refine AW.seq ?_
    refine AW.region ?_
    refine AO.pure T rfl rfl rfl ?_
    refine AO.pure T rfl rfl rfl ?_
    refine AO.nil ?_
    refine AW.ret ?_
    cases someE hH
    exact ⟨trivial, _, [], rfl, .c (.c .v), by decide⟩

def spec_seHas_p (fuel : Nat) (sA : Season) (skater : Int) : Option Int :=
  (spec_seIndex_p fuel sA skater).bind fun x1 =>
  (opt (!(x1 == (sA.lines.length : Int))) default (getI sA.lines x1)).bind fun x3 =>
  cond ((x1 == (sA.lines.length : Int)) || (x3.skater != skater))
    (some (-1))
    (some x1)
theorem spec_seHas_ok (fuel : Nat) (sA : Season) (skater : Int) (r : Int) (hH : spec_seHas_p fuel sA skater = some r) : SpecR Tryz.prog 106 [.g (encSeason sA), .v (.int .i64 skater)] (.v (.int .i64 r)) := by
  refine fn_ok T Tryz.func106 rfl (by decide) rfl ?_
  refine AW.seq ?_
  refine AW.region ?_
  refine AO.step rfl (box_ok T rfl 1 rfl rfl rfl rfl) ?_
  refine AO.pure T rfl rfl rfl ?_
  refine AO.nil ?_
  refine AW.seq ?_
  obtain ⟨x1, hx2, hH⟩ := bindE hH
  refine AW.region ?_
  refine AO.pure T (d := .g [.v (.int .i64 sA.best), .s (List.map encLine sA.lines)]) rfl rfl rfl ?_
  refine AO.pure T rfl rfl rfl ?_
  refine AO.val rfl rfl (callV_ok rfl rfl rfl rfl (spec_seIndex_ok fuel _ _ _ (hx2)) rfl) ?_
  refine AO.pure T rfl rfl rfl ?_
  refine AO.nil ?_
  refine AW.seq ?_
  refine AW.seq ?_
  obtain ⟨x3, hx4, hH⟩ := bindE hH
  refine AW.region ?_
  refine AO.pure T rfl rfl rfl ?_
  refine AO.pure T rfl rfl rfl ?_
  refine AO.pure T rfl rfl rfl ?_
  refine AO.val rfl rfl (len_map_ok T rfl rfl rfl) ?_
  refine AO.pure T rfl rfl rfl ?_
  refine AO.pure T rfl rfl rfl ?_
  refine AO.pureG T [] rfl trivial rfl rfl ?_
  refine AO.pureG T [15] rfl ⟨fun h => h, trivial⟩ rfl rfl ?_
  refine AO.pureG T [] rfl trivial rfl rfl ?_
  refine AO.guard [16, 17] rfl ⟨fun h => h, fun h => h, trivial⟩ (fun hg => ix_map_ok T rfl rfl rfl rfl rfl (optT hx4 hg) rfl) rfl ?_
  refine AO.pureG T [18] rfl ⟨fun h => h, trivial⟩ rfl rfl ?_
  refine AO.pureG T [19] rfl ⟨fun h => h, trivial⟩ rfl rfl ?_
  refine AO.pureG T [] rfl trivial rfl rfl ?_
  refine AO.pureG T [20, 21] rfl ⟨fun h => h, fun h => h, trivial⟩ rfl rfl ?_
  refine AO.val rfl rfl (pick_or rfl rfl rfl rfl) ?_
  refine AO.nil ?_
  refine AW.cond (b := ((x1 == (sA.lines.length : Int)) || (x3.skater != skater))) rfl (fun hc => ?_) (fun hc => ?_)
  · replace hH := condT hc hH
    refine AW.seq ?_
    refine AW.region ?_
    refine AO.pure T rfl rfl rfl ?_
    refine AO.nil ?_
    refine AW.ret ?_
    cases someE hH
    exact ⟨trivial, _, [], rfl, .c (.c .v), by decide⟩
  · replace hH := condF hc hH
    refine AW.skip ?_
    refine AW.seq ?_
    refine AW.region ?_
    refine AO.pure T rfl rfl rfl ?_
    refine AO.pure T rfl rfl rfl ?_
    refine AO.nil ?_
    refine AW.ret ?_
    cases someE hH
    exact ⟨trivial, _, [], rfl, .c (.c .v), by decide⟩

def spec_l1Least_p (a : Int) (b : Int) : Option Int :=
  cond (decide (a < b))
    (some a)
    (some b)
theorem spec_l1Least_ok (a : Int) (b : Int) (r : Int) (hH : spec_l1Least_p a b = some r) : SpecR Tryz.prog 142 [.v (.int .i64 a), .v (.int .i64 b)] (.v (.int .i64 r)) := by
  refine fn_ok T Tryz.func142 rfl (by decide) rfl ?_
  refine AW.seq ?_
  refine AW.region ?_
  refine AO.pure T rfl rfl rfl ?_
  refine AO.nil ?_
  refine AW.seq ?_
  refine AW.seq ?_
  refine AW.region ?_
  refine AO.pure T rfl rfl rfl ?_
  refine AO.pure T rfl rfl rfl ?_
  refine AO.pure T rfl rfl rfl ?_
  refine AO.nil ?_
  refine AW.cond (b := decide (a < b)) rfl (fun hc => ?_) (fun hc => ?_)
  · replace hH := condT hc hH
    refine AW.seq ?_
    refine AW.region ?_
    refine AO.pure T rfl rfl rfl ?_
    refine AO.pure T rfl rfl rfl ?_
    refine AO.nil ?_
    refine AW.ret ?_
    cases someE hH
    exact ⟨trivial, _, [], rfl, .c (.c .v), by decide⟩
  · replace hH := condF hc hH
    refine AW.skip ?_
    refine AW.seq ?_
    refine AW.region ?_
    refine AO.pure T rfl rfl rfl ?_
    refine AO.pure T rfl rfl rfl ?_
    refine AO.nil ?_
    refine AW.ret ?_
    cases someE hH
    exact ⟨trivial, _, [], rfl, .c (.c .v), by decide⟩

def spec_seCounted_p (sA : Season) (k : Int) : Option (List Int) :=
  (getI sA.lines k).bind fun x1 =>
  (spec_l1Least_p (x1.points.length : Int) sA.best).bind fun x3 =>
  (sliceHi x1.points x3).bind fun x5 =>
  some x5
theorem spec_seCounted_ok (sA : Season) (k : Int) (r : (List Int)) (hH : spec_seCounted_p sA k = some r) : SpecR Tryz.prog 128 [.g (encSeason sA), .v (.int .i64 k)] (.s (r.map encInt)) := by
  refine fn_ok T Tryz.func128 rfl (by decide) rfl ?_
  refine AW.seq ?_
  refine AW.region ?_
  refine AO.step rfl (box_ok T rfl 1 rfl rfl rfl rfl) ?_
  refine AO.pure T rfl rfl rfl ?_
  refine AO.nil ?_
  refine AW.seq ?_
  obtain ⟨x1, hx2, hH⟩ := bindE hH
  refine AW.region ?_
  refine AO.pure T rfl rfl rfl ?_
  refine AO.pure T rfl rfl rfl ?_
  refine AO.pure T rfl rfl rfl ?_
  refine AO.val rfl rfl (ix_map_ok T rfl rfl rfl rfl rfl (hx2) rfl) ?_
  refine AO.pure T rfl rfl rfl ?_
  refine AO.pure T rfl rfl rfl ?_
  refine AO.pure T rfl rfl rfl ?_
  refine AO.nil ?_
  refine AW.seq ?_
  obtain ⟨x3, hx4, hH⟩ := bindE hH
  obtain ⟨x5, hx6, hH⟩ := bindE hH
  refine AW.region ?_
  refine AO.pure T rfl rfl rfl ?_
  refine AO.pure T rfl rfl rfl ?_
  refine AO.val rfl rfl (len_map_ok T rfl rfl rfl) ?_
  refine AO.pure T rfl rfl rfl ?_
  refine AO.pure T rfl rfl rfl ?_
  refine AO.val rfl rfl (callV_ok rfl rfl rfl rfl (spec_l1Least_ok _ _ _ (hx4)) rfl) ?_
  refine AO.val rfl rfl (slice_hi_map_ok T rfl rfl rfl rfl rfl (hx6) (fun _ => rfl)) ?_
  refine AO.pure T rfl rfl rfl ?_
  refine AO.nil ?_
  refine AW.ret ?_
  cases someE hH
  exact ⟨trivial, _, [], rfl, .c (.c .s), by decide⟩

def spec_seTotal_l1 : List Int → Nat → Int → Option Int
  | [], k3, v10 =>
    some v10
  | y4 :: ys5, k3, v10 =>
    spec_seTotal_l1 ys5 (k3 + 1) (w64 (v10 + y4))
def spec_seTotal_p (sA : Season) (k : Int) : Option Int :=
  (spec_seCounted_p sA k).bind fun x1 =>
  spec_seTotal_l1 x1 0 0
theorem spec_seTotal_ok (sA : Season) (k : Int) (r : Int) (hH : spec_seTotal_p sA k = some r) : SpecR Tryz.prog 108 [.g (encSeason sA), .v (.int .i64 k)] (.v (.int .i64 r)) := by
  refine fn_ok T Tryz.func108 rfl (by decide) rfl ?_
  refine AW.seq ?_
  refine AW.region ?_
  refine AO.step rfl (box_ok T rfl 1 rfl rfl rfl rfl) ?_
  refine AO.pure T rfl rfl rfl ?_
  refine AO.nil ?_
  refine AW.seq ?_
  refine AW.region ?_
  refine AO.pure T rfl rfl rfl ?_
  refine AO.nil ?_
  refine AW.seq ?_
  refine AW.seq ?_
  obtain ⟨x1, hx2, hH⟩ := bindE hH
  refine AW.region ?_
  refine AO.pure T (d := .g [.v (.int .i64 sA.best), .s (List.map encLine sA.lines)]) rfl rfl rfl ?_
  refine AO.pure T rfl rfl rfl ?_
  refine AO.val rfl rfl (callV_ok rfl rfl rfl rfl (spec_seCounted_ok _ _ _ (hx2)) rfl) ?_
  refine AO.val rfl rfl (len_map_ok T rfl rfl rfl) ?_
  refine AO.pure T rfl rfl rfl ?_
  refine AO.nil ?_
  refine AW.block ?_
  refine AW.loopS (fun s : Nat × Int => (⟨[(5, .v (.int .i64 s.2)), (10, .s (List.map encInt x1)), (11, .v (.int .i64 (x1.length : Int))), (12, .v (.int .i64 (s.1 : Int)))], [], 21, []⟩ : St)) (fun s => s.1 ≤ x1.length ∧ spec_seTotal_l1 (x1.drop s.1) s.1 s.2 = some r) (fun s => x1.length - s.1) (0, 0) ⟨Nat.zero_le _, hH⟩ ?_ ?_
  · exact Le.cut 0 0 rfl (by repeat' (first | exact trivial | refine ⟨⟨_, rfl, rfl⟩, ?_⟩)) (by repeat' (first | exact trivial | refine ⟨⟨_, rfl, rfl⟩, ?_⟩)) rfl
  · rintro ⟨k3, v10⟩ ⟨hk, hH⟩
    replace hH : spec_seTotal_l1 (x1.drop k3) k3 v10 = some r := hH
    show AW _ _ _ (⟨[(5, .v (.int .i64 v10)), (10, .s (List.map encInt x1)), (11, .v (.int .i64 (x1.length : Int))), (12, .v (.int .i64 (k3 : Int)))], [], 21, []⟩ : St)
    refine AW.boundM (t := 10) (l := x1) rfl (fun hb7 => ?_)
    cases hd6 : x1.drop k3 with
    | nil =>
      rw [hd6] at hH
      rw [spec_seTotal_l1] at hH
      have hlt8 := drop_ge hd6
      refine AW.seq ?_
      refine AW.region ?_
      refine AO.pure T rfl rfl rfl ?_
      refine AO.nil ?_
      refine AW.seq ?_
      refine AW.condF' (b := decide ((k3 : Int) < (x1.length : Int))) rfl (rngF hlt8) ?_
      refine AW.exit ?_
      refine AW.seq ?_
      refine AW.region ?_
      refine AO.pure T rfl rfl rfl ?_
      refine AO.pure T rfl rfl rfl ?_
      refine AO.nil ?_
      refine AW.ret ?_
      cases someE hH
      exact ⟨trivial, _, [], rfl, .c (.c .v), by decide⟩
    | cons y4 ys5 =>
      rw [hd6] at hH
      rw [spec_seTotal_l1] at hH
      have hlt8 := drop_lt hd6
      refine AW.seq ?_
      refine AW.region ?_
      refine AO.pure T rfl rfl rfl ?_
      refine AO.nil ?_
      refine AW.seq ?_
      refine AW.condT' (b := decide ((k3 : Int) < (x1.length : Int))) rfl (rngT hlt8) ?_
      refine AW.skip ?_
      refine AW.seq ?_
      refine AW.block ?_
      refine AW.seq ?_
      refine AW.region ?_
      refine AO.val rfl rfl (ix_map_ok T rfl rfl rfl rfl rfl (getI_drop hd6) rfl) ?_
      refine AO.pure T rfl rfl rfl ?_
      refine AO.pure T rfl rfl rfl ?_
      refine AO.nil ?_
      refine AW.region ?_
      refine AO.pure T rfl rfl rfl ?_
      refine AO.pure T rfl rfl rfl ?_
      refine AO.val rfl rfl (arw_ok rfl rfl rfl rfl) ?_
      refine AO.pure T rfl rfl rfl ?_
      refine AO.nil ?_
      refine AW.region ?_
      refine AO.val rfl rfl (ar_ok rfl rfl rfl rfl (inI_succ hlt8 hb7)) ?_
      refine AO.pure T rfl rfl rfl ?_
      refine AO.nil ?_
      refine ⟨(k3 + 1, w64 (v10 + y4)), ⟨Nat.succ_le_of_lt hlt8, (by rw [drop_succ_of hd6]; exact hH)⟩, (by have := hlt8; dsimp only; omega), ?_⟩
      exact Le.cut 0 0 rfl (by repeat' (first | exact trivial | refine ⟨⟨_, rfl, rfl⟩, ?_⟩)) (by repeat' (first | exact trivial | refine ⟨⟨_, rfl, rfl⟩, ?_⟩)) rfl

def spec_poDown_p (a : Int) (b : Int) : Option Int :=
  (need (b != 0)).bind fun u1 =>
  cond (decide ((a.tmod b) < 0))
    (some (w64 ((w64 (a.tdiv b)) - 1)))
    (some (w64 (a.tdiv b)))
theorem spec_poDown_ok (a : Int) (b : Int) (r : Int) (hH : spec_poDown_p a b = some r) : SpecR Tryz.prog 127 [.v (.int .i64 a), .v (.int .i64 b)] (.v (.int .i64 r)) := by
  refine fn_ok T Tryz.func127 rfl (by decide) rfl ?_
  refine AW.seq ?_
  refine AW.region ?_
  refine AO.pure T rfl rfl rfl ?_
  refine AO.nil ?_
  refine AW.seq ?_
  obtain ⟨u1, hx2, hH⟩ := bindE hH
  refine AW.region ?_
  refine AO.pure T rfl rfl rfl ?_
  refine AO.pure T rfl rfl rfl ?_
  refine AO.val rfl rfl (quow_ok rfl rfl rfl (neZ (needT (hx2)))) ?_
  refine AO.pure T rfl rfl rfl ?_
  refine AO.nil ?_
  refine AW.seq ?_
  refine AW.seq ?_
  refine AW.region ?_
  refine AO.pure T rfl rfl rfl ?_
  refine AO.pure T rfl rfl rfl ?_
  refine AO.val rfl rfl (rem_ok rfl rfl rfl (neZ (needT (hx2)))) ?_
  refine AO.pure T rfl rfl rfl ?_
  refine AO.nil ?_
  refine AW.cond (b := decide ((a.tmod b) < 0)) rfl (fun hc => ?_) (fun hc => ?_)
  · replace hH := condT hc hH
    refine AW.region ?_
    refine AO.pure T rfl rfl rfl ?_
    refine AO.val rfl rfl (arw_ok rfl rfl rfl rfl) ?_
    refine AO.pure T rfl rfl rfl ?_
    refine AO.nil ?_
    refine AW.seq ?_
    refine AW.region ?_
    refine AO.pure T rfl rfl rfl ?_
    refine AO.pure T rfl rfl rfl ?_
    refine AO.nil ?_
    refine AW.ret ?_
    cases someE hH
    exact ⟨trivial, _, [], rfl, .c (.c .v), by decide⟩
  · replace hH := condF hc hH
    refine AW.skip ?_
    refine AW.seq ?_
    refine AW.region ?_
    refine AO.pure T rfl rfl rfl ?_
    refine AO.pure T rfl rfl rfl ?_
    refine AO.nil ?_
    refine AW.ret ?_
    cases someE hH
    exact ⟨trivial, _, [], rfl, .c (.c .v), by decide⟩

def spec_poRound_p (a : Int) (b : Int) : Option Int :=
  (spec_poDown_p (w64 ((w64 (2 * a)) + b)) (w64 (2 * b))).bind fun x1 =>
  some x1
theorem spec_poRound_ok (a : Int) (b : Int) (r : Int) (hH : spec_poRound_p a b = some r) : SpecR Tryz.prog 107 [.v (.int .i64 a), .v (.int .i64 b)] (.v (.int .i64 r)) := by
  refine fn_ok T Tryz.func107 rfl (by decide) rfl ?_
  refine AW.seq ?_
  refine AW.region ?_
  refine AO.pure T rfl rfl rfl ?_
  refine AO.nil ?_
  refine AW.seq ?_
  obtain ⟨x1, hx2, hH⟩ := bindE hH
  refine AW.region ?_
  refine AO.pure T rfl rfl rfl ?_
  refine AO.val rfl rfl (arw_ok rfl rfl rfl rfl) ?_
  refine AO.pure T rfl rfl rfl ?_
  refine AO.val rfl rfl (arw_ok rfl rfl rfl rfl) ?_
  refine AO.pure T rfl rfl rfl ?_
  refine AO.val rfl rfl (arw_ok rfl rfl rfl rfl) ?_
  refine AO.val rfl rfl (callV_ok rfl rfl rfl rfl (spec_poDown_ok _ _ _ (hx2)) rfl) ?_
  refine AO.pure T rfl rfl rfl ?_
  refine AO.nil ?_
  refine AW.ret ?_
  cases someE hH
  exact ⟨trivial, _, [], rfl, .c (.c .v), by decide⟩

def spec_wlParts_l1 (w : World) (skater : Int) (fuel : Nat) : List Season → Nat → List Int → Bool → Option (((List Int) × Bool))
  | [], k1, v33, v34 =>
    some (v33, v34)
  | y2 :: ys3, k1, v33, v34 =>
    (spec_seHas_p fuel y2 skater).bind fun x36 =>
    cond (decide (x36 ≥ 0))
      ((spec_seTotal_p y2 x36).bind fun x38 =>
      (getI w.weights (k1 : Int)).bind fun x40 =>
      (spec_poRound_p (w64 (x38 * x40)) 100).bind fun x42 =>
      (need (fitsB 8 (v33.length + ([x42]).length))).bind fun u44 =>
      spec_wlParts_l1 w skater fuel ys3 (k1 + 1) (v33 ++ [x42]) true)
      ((need (fitsB 8 (v33.length + ([0]).length))).bind fun u46 =>
      spec_wlParts_l1 w skater fuel ys3 (k1 + 1) (v33 ++ [0]) v34)
def spec_wlParts_p (fuel : Nat) (w : World) (skater : Int) : Option ((List Int) × Bool) :=
  spec_wlParts_l1 w skater fuel w.seasons 0 [] false
theorem spec_wlParts_ok (fuel : Nat) (w : World) (skater : Int) (r : ((List Int) × Bool)) (hH : spec_wlParts_p fuel w skater = some r) : SpecR Tryz.prog 71 [.g (encWorld w), .v (.int .i64 skater)] (.t [.w 1 (r.1.map encInt), .v (.bool r.2)]) := by
  refine fn_ok T Tryz.func71 rfl (by decide) rfl ?_
  refine AW.seq ?_
  refine AW.region ?_
  refine AO.step rfl (box_ok T rfl 1 rfl rfl rfl rfl) ?_
  refine AO.pure T rfl rfl rfl ?_
  refine AO.pure T rfl rfl rfl ?_
  refine AO.nil ?_
  refine AW.seq ?_
  refine AW.region ?_
  refine AO.pure T rfl rfl rfl ?_
  refine AO.nil ?_
  refine AW.seq ?_
  refine AW.region ?_
  refine AO.pure T rfl rfl rfl ?_
  refine AO.nil ?_
  refine AW.seq ?_
  refine AW.seq ?_
  refine AW.region ?_
  refine AO.pure T rfl rfl rfl ?_
  refine AO.pure T rfl rfl rfl ?_
  refine AO.val rfl rfl (len_map_ok T rfl rfl rfl) ?_
  refine AO.pure T rfl rfl rfl ?_
  refine AO.nil ?_
  refine AW.block ?_
  refine AW.loopS (fun s : Nat × (List Int) × Bool => (⟨[(1, .v (.int .i64 skater)), (2, .p 1 0), (6, .R 9), (7, .v (.bool s.2.2)), (13, .s (List.map encSeason w.seasons)), (14, .v (.int .i64 (w.seasons.length : Int))), (15, .v (.int .i64 (s.1 : Int)))], [(1, .box [.s (List.map encSeason w.seasons), .s (List.map encInt w.weights)]), (9, .row 1 (List.map encInt s.2.1))], 42, []⟩ : St)) (fun s => s.1 ≤ w.seasons.length ∧ spec_wlParts_l1 w skater fuel (w.seasons.drop s.1) s.1 s.2.1 s.2.2 = some r) (fun s => w.seasons.length - s.1) (0, [], false) ⟨Nat.zero_le _, hH⟩ ?_ ?_
  · refine Le.trans (Le.void 6 9 1 rfl rfl) ?_
    exact Le.cut 0 0 rfl (by repeat' (first | exact trivial | refine ⟨⟨_, rfl, rfl⟩, ?_⟩)) (by repeat' (first | exact trivial | refine ⟨⟨_, rfl, rfl⟩, ?_⟩)) rfl
  · rintro ⟨k1, v33, v34⟩ ⟨hk, hH⟩
    replace hH : spec_wlParts_l1 w skater fuel (w.seasons.drop k1) k1 v33 v34 = some r := hH
    show AW _ _ _ (⟨[(1, .v (.int .i64 skater)), (2, .p 1 0), (6, .R 9), (7, .v (.bool v34)), (13, .s (List.map encSeason w.seasons)), (14, .v (.int .i64 (w.seasons.length : Int))), (15, .v (.int .i64 (k1 : Int)))], [(1, .box [.s (List.map encSeason w.seasons), .s (List.map encInt w.weights)]), (9, .row 1 (List.map encInt v33))], 42, []⟩ : St)
    refine AW.boundM (t := 13) (l := w.seasons) rfl (fun hb5 => ?_)
    cases hd4 : w.seasons.drop k1 with
    | nil =>
      rw [hd4] at hH
      rw [spec_wlParts_l1] at hH
      have hlt6 := drop_ge hd4
      refine AW.seq ?_
      refine AW.region ?_
      refine AO.pure T rfl rfl rfl ?_
      refine AO.nil ?_
      refine AW.seq ?_
      refine AW.condF' (b := decide ((k1 : Int) < (w.seasons.length : Int))) rfl (rngF hlt6) ?_
      refine AW.exit ?_
      refine AW.seq ?_
      refine AW.region ?_
      refine AO.pure T rfl rfl rfl ?_
      refine AO.pure T rfl rfl rfl ?_
      refine AO.pure T rfl rfl rfl ?_
      refine AO.pure T rfl rfl rfl ?_
      refine AO.nil ?_
      refine AW.ret ?_
      cases someE hH
      exact ⟨trivial, _, [9], rfl, .t (expLG_cons (.c (.rowR rfl)) (expLG_cons (.c .v) (expLG_nil))), by decide⟩
    | cons y2 ys3 =>
      rw [hd4] at hH
      rw [spec_wlParts_l1] at hH
      have hlt6 := drop_lt hd4
      refine AW.seq ?_
      refine AW.region ?_
      refine AO.pure T rfl rfl rfl ?_
      refine AO.nil ?_
      refine AW.seq ?_
      refine AW.condT' (b := decide ((k1 : Int) < (w.seasons.length : Int))) rfl (rngT hlt6) ?_
      refine AW.skip ?_
      refine AW.seq ?_
      refine AW.block ?_
      refine AW.seq ?_
      refine AW.region ?_
      refine AO.pure T rfl rfl rfl ?_
      refine AO.val rfl rfl (ix_map_ok T rfl rfl rfl rfl rfl (getI_drop hd4) rfl) ?_
      refine AO.pure T (d := .g [.v (.int .i64 y2.best), .s (List.map encLine y2.lines)]) rfl rfl rfl ?_
      refine AO.step rfl (alloc_ok T rfl 12 rfl rfl rfl rfl rfl) ?_
      refine AO.pure T rfl rfl rfl ?_
      refine AO.step rfl (store_okE T rfl rfl rfl rfl rfl rfl rfl rfl rfl (ds' := [.v (.int .i64 y2.best), .s (List.map encLine y2.lines)]) rfl) ?_
      refine AO.nil ?_
      refine AW.seq ?_
      refine AW.region ?_
      refine AO.pure T rfl rfl rfl ?_
      refine AO.nil ?_
      refine AW.seq ?_
      refine AW.seq ?_
      obtain ⟨x36, hx37, hH⟩ := bindE hH
      refine AW.region ?_
      refine AO.pure T (d := .g [.v (.int .i64 y2.best), .s (List.map encLine y2.lines)]) rfl rfl rfl ?_
      refine AO.pure T rfl rfl rfl ?_
      refine AO.val rfl rfl (callV_ok rfl rfl rfl rfl (spec_seHas_ok fuel _ _ _ (hx37)) rfl) ?_
      refine AO.pure T rfl rfl rfl ?_
      refine AO.nil ?_
      refine AW.seq ?_
      refine AW.region ?_
      refine AO.pure T rfl rfl rfl ?_
      refine AO.pure T rfl rfl rfl ?_
      refine AO.nil ?_
      refine AW.cond (b := decide (x36 ≥ 0)) rfl (fun hc => ?_) (fun hc => ?_)
      · replace hH := condT hc hH
        refine AW.seq ?_
        obtain ⟨x38, hx39, hH⟩ := bindE hH
        obtain ⟨x40, hx41, hH⟩ := bindE hH
        obtain ⟨x42, hx43, hH⟩ := bindE hH
        refine AW.drawn 8 13 [] mix (by kernel_rfl) rfl ?_
        refine AD.pure T (d := .g [.v (.int .i64 y2.best), .s (List.map encLine y2.lines)]) rfl rfl rfl ?_
        refine AD.pure T rfl rfl rfl ?_
        refine AD.val rfl rfl (callV_ok rfl rfl rfl rfl (spec_seTotal_ok _ _ _ (hx39)) rfl) ?_
        refine AD.pure T rfl rfl rfl ?_
        refine AD.pure T rfl rfl rfl ?_
        refine AD.pure T rfl rfl rfl ?_
        refine AD.val rfl rfl (ix_map_ok T rfl rfl rfl rfl rfl (hx41) rfl) ?_
        refine AD.pure T rfl rfl rfl ?_
        refine AD.nil ?_
        refine AO.val rfl rfl (arw_ok rfl rfl rfl rfl) ?_
        refine AO.val rfl rfl (callV_ok rfl rfl rfl rfl (spec_poRound_ok _ _ _ (hx43)) rfl) ?_
        refine AO.pure T rfl rfl rfl ?_
        refine AO.nil ?_
        refine AW.le (Le.cut 0 0 (σ' := (⟨[(1, .v (.int .i64 skater)), (2, .p 1 0), (6, .R 9), (10, .v (.int .i64 x42)), (13, .s (List.map encSeason w.seasons)), (14, .v (.int .i64 (w.seasons.length : Int))), (15, .v (.int .i64 (k1 : Int)))], [(1, .box [.s (List.map encSeason w.seasons), .s (List.map encInt w.weights)]), (9, .row 1 (List.map encInt v33))], 42, []⟩ : St)) rfl (by repeat' (first | exact trivial | refine ⟨⟨_, rfl, rfl⟩, ?_⟩)) (by repeat' (first | exact trivial | refine ⟨⟨_, rfl, rfl⟩, ?_⟩)) rfl) ?_
        refine AW.region ?_
        refine AO.pure T rfl rfl rfl ?_
        refine AO.nil ?_
        obtain ⟨u44, hx45, hH⟩ := bindE hH
        refine AW.region ?_
        refine AO.pure T rfl rfl rfl ?_
        refine AO.pure T rfl rfl rfl ?_
        refine AO.step rfl (mk_map_ok T rfl 13 rfl rfl rfl rfl rfl (f := encInt) (l := [x42]) rfl rfl (fun _ => rfl) rfl rfl rfl rfl rfl) ?_
        refine AO.step rfl (app_rv_map T rfl 14 rfl rfl rfl rfl rfl (by decide) rfl rfl rfl rfl (fun _ => rfl) (needT (hx45)) rfl rfl) ?_
        refine AO.pure T rfl rfl rfl ?_
        refine AO.nil ?_
        refine AW.region ?_
        refine AO.val rfl rfl (ar_ok rfl rfl rfl rfl (inI_succ hlt6 hb5)) ?_
        refine AO.pure T rfl rfl rfl ?_
        refine AO.nil ?_
        refine ⟨(k1 + 1, (v33 ++ [x42]), true), ⟨Nat.succ_le_of_lt hlt6, (by rw [drop_succ_of hd4]; exact hH)⟩, (by have := hlt6; dsimp only; omega), ?_⟩
        exact Le.cut 14 9 rfl (by repeat' (first | exact trivial | refine ⟨⟨_, rfl, rfl⟩, ?_⟩)) (by repeat' (first | exact trivial | refine ⟨⟨_, rfl, rfl⟩, ?_⟩)) rfl
      · replace hH := condF hc hH
        refine AW.skip ?_
        obtain ⟨u46, hx47, hH⟩ := bindE hH
        refine AW.region ?_
        refine AO.pure T rfl rfl rfl ?_
        refine AO.pure T rfl rfl rfl ?_
        refine AO.step rfl (mk_map_ok T rfl 15 rfl rfl rfl rfl rfl (f := encInt) (l := [0]) rfl rfl (fun _ => rfl) rfl rfl rfl rfl rfl) ?_
        refine AO.step rfl (app_rv_map T rfl 16 rfl rfl rfl rfl rfl (by decide) rfl rfl rfl rfl (fun _ => rfl) (needT (hx47)) rfl rfl) ?_
        refine AO.pure T rfl rfl rfl ?_
        refine AO.nil ?_
        refine AW.region ?_
        refine AO.val rfl rfl (ar_ok rfl rfl rfl rfl (inI_succ hlt6 hb5)) ?_
        refine AO.pure T rfl rfl rfl ?_
        refine AO.nil ?_
        refine ⟨(k1 + 1, (v33 ++ [0]), v34), ⟨Nat.succ_le_of_lt hlt6, (by rw [drop_succ_of hd4]; exact hH)⟩, (by have := hlt6; dsimp only; omega), ?_⟩
        exact Le.cut 16 9 rfl (by repeat' (first | exact trivial | refine ⟨⟨_, rfl, rfl⟩, ?_⟩)) (by repeat' (first | exact trivial | refine ⟨⟨_, rfl, rfl⟩, ?_⟩)) rfl

def spec_poSum_l1 : List Int → Nat → Int → Option Int
  | [], k1, v8 =>
    some v8
  | y2 :: ys3, k1, v8 =>
    spec_poSum_l1 ys3 (k1 + 1) (w64 (v8 + y2))
def spec_poSum_p (l : List Int) : Option Int :=
  spec_poSum_l1 l 0 0
theorem spec_poSum_ok (l : List Int) (r : Int) (hH : spec_poSum_p l = some r) : SpecR Tryz.prog 78 [.s (List.map encInt l)] (.v (.int .i64 r)) := by
  refine fn_ok T Tryz.func78 rfl (by decide) rfl ?_
  refine AW.seq ?_
  refine AW.region ?_
  refine AO.pure T rfl rfl rfl ?_
  refine AO.nil ?_
  refine AW.seq ?_
  refine AW.region ?_
  refine AO.pure T rfl rfl rfl ?_
  refine AO.nil ?_
  refine AW.seq ?_
  refine AW.seq ?_
  refine AW.region ?_
  refine AO.pure T rfl rfl rfl ?_
  refine AO.val rfl rfl (len_map_ok T rfl rfl rfl) ?_
  refine AO.pure T rfl rfl rfl ?_
  refine AO.nil ?_
  refine AW.block ?_
  refine AW.loopS (fun s : Nat × Int => (⟨[(3, .v (.int .i64 s.2)), (6, .s (List.map encInt l)), (7, .v (.int .i64 (l.length : Int))), (8, .v (.int .i64 (s.1 : Int)))], [], 17, []⟩ : St)) (fun s => s.1 ≤ l.length ∧ spec_poSum_l1 (l.drop s.1) s.1 s.2 = some r) (fun s => l.length - s.1) (0, 0) ⟨Nat.zero_le _, hH⟩ ?_ ?_
  · exact Le.cut 0 0 rfl (by repeat' (first | exact trivial | refine ⟨⟨_, rfl, rfl⟩, ?_⟩)) (by repeat' (first | exact trivial | refine ⟨⟨_, rfl, rfl⟩, ?_⟩)) rfl
  · rintro ⟨k1, v8⟩ ⟨hk, hH⟩
    replace hH : spec_poSum_l1 (l.drop k1) k1 v8 = some r := hH
    show AW _ _ _ (⟨[(3, .v (.int .i64 v8)), (6, .s (List.map encInt l)), (7, .v (.int .i64 (l.length : Int))), (8, .v (.int .i64 (k1 : Int)))], [], 17, []⟩ : St)
    refine AW.boundM (t := 6) (l := l) rfl (fun hb5 => ?_)
    cases hd4 : l.drop k1 with
    | nil =>
      rw [hd4] at hH
      rw [spec_poSum_l1] at hH
      have hlt6 := drop_ge hd4
      refine AW.seq ?_
      refine AW.region ?_
      refine AO.pure T rfl rfl rfl ?_
      refine AO.nil ?_
      refine AW.seq ?_
      refine AW.condF' (b := decide ((k1 : Int) < (l.length : Int))) rfl (rngF hlt6) ?_
      refine AW.exit ?_
      refine AW.seq ?_
      refine AW.region ?_
      refine AO.pure T rfl rfl rfl ?_
      refine AO.pure T rfl rfl rfl ?_
      refine AO.nil ?_
      refine AW.ret ?_
      cases someE hH
      exact ⟨trivial, _, [], rfl, .c (.c .v), by decide⟩
    | cons y2 ys3 =>
      rw [hd4] at hH
      rw [spec_poSum_l1] at hH
      have hlt6 := drop_lt hd4
      refine AW.seq ?_
      refine AW.region ?_
      refine AO.pure T rfl rfl rfl ?_
      refine AO.nil ?_
      refine AW.seq ?_
      refine AW.condT' (b := decide ((k1 : Int) < (l.length : Int))) rfl (rngT hlt6) ?_
      refine AW.skip ?_
      refine AW.seq ?_
      refine AW.block ?_
      refine AW.seq ?_
      refine AW.region ?_
      refine AO.val rfl rfl (ix_map_ok T rfl rfl rfl rfl rfl (getI_drop hd4) rfl) ?_
      refine AO.pure T rfl rfl rfl ?_
      refine AO.pure T rfl rfl rfl ?_
      refine AO.nil ?_
      refine AW.region ?_
      refine AO.pure T rfl rfl rfl ?_
      refine AO.pure T rfl rfl rfl ?_
      refine AO.val rfl rfl (arw_ok rfl rfl rfl rfl) ?_
      refine AO.pure T rfl rfl rfl ?_
      refine AO.nil ?_
      refine AW.region ?_
      refine AO.val rfl rfl (ar_ok rfl rfl rfl rfl (inI_succ hlt6 hb5)) ?_
      refine AO.pure T rfl rfl rfl ?_
      refine AO.nil ?_
      refine ⟨(k1 + 1, w64 (v8 + y2)), ⟨Nat.succ_le_of_lt hlt6, (by rw [drop_succ_of hd4]; exact hH)⟩, (by have := hlt6; dsimp only; omega), ?_⟩
      exact Le.cut 0 0 rfl (by repeat' (first | exact trivial | refine ⟨⟨_, rfl, rfl⟩, ?_⟩)) (by repeat' (first | exact trivial | refine ⟨⟨_, rfl, rfl⟩, ?_⟩)) rfl

def spec_wlList_l3 (v193 : List Rank) : Nat → List Rank → Int → Option ((List Rank))
  | 0, _, _ => none
  | k195 + 1, v218, v219 =>
    cond (decide (v219 < (v193.length : Int)))
      ((getI v218 v219).bind fun x221 =>
      (opt (decide (v219 > 0)) default (getI (v218.set v219.toNat (Rank.mk x221.skater x221.total (w64 (v219 + 1)))) (w64 (v219 - 1)))).bind fun x223 =>
      (opt (decide (v219 > 0)) default (getI (v218.set v219.toNat (Rank.mk x221.skater x221.total (w64 (v219 + 1)))) v219)).bind fun x225 =>
      cond (decide (v219 > 0) && (x223.total == x225.total))
        ((getI (v218.set v219.toNat (Rank.mk x221.skater x221.total (w64 (v219 + 1)))) (w64 (v219 - 1))).bind fun x227 =>
        (getI (v218.set v219.toNat (Rank.mk x221.skater x221.total (w64 (v219 + 1)))) v219).bind fun x229 =>
        spec_wlList_l3 v193 k195 ((v218.set v219.toNat (Rank.mk x221.skater x221.total (w64 (v219 + 1)))).set v219.toNat (Rank.mk x229.skater x229.total x227.place)) (w64 (v219 + 1)))
        (spec_wlList_l3 v193 k195 (v218.set v219.toNat (Rank.mk x221.skater x221.total (w64 (v219 + 1)))) (w64 (v219 + 1))))
      (some v218)
def spec_wlList_l4 (v193 : List Rank) (x271 : Int) : Nat → Int → Option Int
  | 0, _ => none
  | k285 + 1, v291 =>
    (opt (decide (v291 > 0)) default (getI v193 (w64 (v291 - 1)))).bind fun x293 =>
    cond (decide (v291 > 0) && decide (x293.total < x271))
      (spec_wlList_l4 v193 x271 k285 (w64 (v291 - 1)))
      (some v291)
def spec_wlList_l2 (w : World) (fuel : Nat) : List Int → Nat → List Rank → Option ((List Rank))
  | [], k72, v193 =>
    spec_wlList_l3 v193 fuel v193 0
  | y73 :: ys74, k72, v193 =>
    ((spec_wlParts_p fuel w y73).bind fun x269 =>
    (spec_poSum_p x269.1).bind fun x271 =>
    (spec_wlList_l4 v193 x271 fuel (v193.length : Int)).bind fun v282 =>
    (sliceHi v193 v282).bind fun x295 =>
    (need (fitsB 24 x295.length)).bind fun u297 =>
    (need (fitsB 24 (x295.length + ([(Rank.mk y73 x271 0)]).length))).bind fun u299 =>
    (sliceLo v193 v282).bind fun x301 =>
    (need (fitsB 24 (((x295 ++ [(Rank.mk y73 x271 0)])).length + x301.length))).bind fun u303 =>
    some ((x295 ++ [(Rank.mk y73 x271 0)]) ++ x301)).bind fun v266 =>
    spec_wlList_l2 w fuel ys74 (k72 + 1) v266
def spec_wlList_l5 (fuel : Nat) : List Line → Nat → List Int → Option (List Int)
  | [], k322, v333 =>
    some v333
  | y323 :: ys324, k322, v333 =>
    (spec_l1Put_p fuel v333 y323.skater).bind fun x335 =>
    spec_wlList_l5 fuel ys324 (k322 + 1) x335
def spec_wlList_l1 (w : World) (fuel : Nat) : List Season → Nat → List Int → Option ((List Rank))
  | [], k1, v70 =>
    spec_wlList_l2 w fuel v70 0 []
  | y2 :: ys3, k1, v70 =>
    (spec_wlList_l5 fuel y2.lines 0 v70).bind fun v319 =>
    spec_wlList_l1 w fuel ys3 (k1 + 1) v319
def spec_wlList_p (fuel : Nat) (w : World) : Option (List Rank) :=
  spec_wlList_l1 w fuel w.seasons 0 []
theorem spec_wlList_ok (fuel : Nat) (w : World) (r : (List Rank)) (hH : spec_wlList_p fuel w = some r) : SpecR Tryz.prog 54 [.g (encWorld w)] (.w 3 (r.map encRank)) := by
  refine fn_ok T Tryz.func54 rfl (by decide) rfl ?_
  refine AW.seq ?_
  refine AW.region ?_
  refine AO.step rfl (box_ok T rfl 1 rfl rfl rfl rfl) ?_
  refine AO.pure T rfl rfl rfl ?_
  refine AO.nil ?_
  refine AW.seq ?_
  refine AW.region ?_
  refine AO.pure T rfl rfl rfl ?_
  refine AO.nil ?_
  refine AW.seq ?_
  refine AW.seq ?_
  refine AW.region ?_
  refine AO.pure T rfl rfl rfl ?_
  refine AO.pure T rfl rfl rfl ?_
  refine AO.val rfl rfl (len_map_ok T rfl rfl rfl) ?_
  refine AO.pure T rfl rfl rfl ?_
  refine AO.nil ?_
  refine AW.block ?_
  refine AW.loopS (fun s : Nat × (List Int) => (⟨[(1, .p 1 0), (3, .s (List.map encInt s.2)), (17, .s (List.map encSeason w.seasons)), (18, .v (.int .i64 (w.seasons.length : Int))), (19, .v (.int .i64 (s.1 : Int)))], [(1, .box [.s (List.map encSeason w.seasons), .s (List.map encInt w.weights)])], 121, []⟩ : St)) (fun s => s.1 ≤ w.seasons.length ∧ spec_wlList_l1 w fuel (w.seasons.drop s.1) s.1 s.2 = some r) (fun s => w.seasons.length - s.1) (0, []) ⟨Nat.zero_le _, hH⟩ ?_ ?_
  · refine Le.trans (Le.nilS 3 rfl) ?_
    exact Le.cut 0 0 rfl (by repeat' (first | exact trivial | refine ⟨⟨_, rfl, rfl⟩, ?_⟩)) (by repeat' (first | exact trivial | refine ⟨⟨_, rfl, rfl⟩, ?_⟩)) rfl
  · rintro ⟨k1, v70⟩ ⟨hk, hH⟩
    replace hH : spec_wlList_l1 w fuel (w.seasons.drop k1) k1 v70 = some r := hH
    show AW _ _ _ (⟨[(1, .p 1 0), (3, .s (List.map encInt v70)), (17, .s (List.map encSeason w.seasons)), (18, .v (.int .i64 (w.seasons.length : Int))), (19, .v (.int .i64 (k1 : Int)))], [(1, .box [.s (List.map encSeason w.seasons), .s (List.map encInt w.weights)])], 121, []⟩ : St)
    refine AW.boundM (t := 17) (l := w.seasons) rfl (fun hb5 => ?_)
    cases hd4 : w.seasons.drop k1 with
    | nil =>
      rw [hd4] at hH
      rw [spec_wlList_l1] at hH
      have hlt6 := drop_ge hd4
      refine AW.seq ?_
      refine AW.region ?_
      refine AO.pure T rfl rfl rfl ?_
      refine AO.nil ?_
      refine AW.seq ?_
      refine AW.condF' (b := decide ((k1 : Int) < (w.seasons.length : Int))) rfl (rngF hlt6) ?_
      refine AW.exit ?_
      refine AW.seq ?_
      refine AW.region ?_
      refine AO.pure T rfl rfl rfl ?_
      refine AO.nil ?_
      refine AW.seq ?_
      refine AW.seq ?_
      refine AW.region ?_
      refine AO.pure T rfl rfl rfl ?_
      refine AO.val rfl rfl (len_map_ok T rfl rfl rfl) ?_
      refine AO.pure T rfl rfl rfl ?_
      refine AO.nil ?_
      refine AW.block ?_
      refine AW.loopS (fun s : Nat × (List Rank) => (⟨[(1, .p 1 0), (8, .R 35), (36, .s (List.map encInt v70)), (37, .v (.int .i64 (v70.length : Int))), (38, .v (.int .i64 (s.1 : Int)))], [(1, .box [.s (List.map encSeason w.seasons), .s (List.map encInt w.weights)]), (35, .row 3 (List.map encRank s.2))], 121, []⟩ : St)) (fun s => s.1 ≤ v70.length ∧ spec_wlList_l2 w fuel (v70.drop s.1) s.1 s.2 = some r) (fun s => v70.length - s.1) (0, []) ⟨Nat.zero_le _, hH⟩ ?_ ?_
      · refine Le.trans (Le.void 8 35 3 rfl rfl) ?_
        exact Le.cut 0 0 rfl (by repeat' (first | exact trivial | refine ⟨⟨_, rfl, rfl⟩, ?_⟩)) (by repeat' (first | exact trivial | refine ⟨⟨_, rfl, rfl⟩, ?_⟩)) rfl
      · rintro ⟨k72, v193⟩ ⟨hk, hH⟩
        replace hH : spec_wlList_l2 w fuel (v70.drop k72) k72 v193 = some r := hH
        show AW _ _ _ (⟨[(1, .p 1 0), (8, .R 35), (36, .s (List.map encInt v70)), (37, .v (.int .i64 (v70.length : Int))), (38, .v (.int .i64 (k72 : Int)))], [(1, .box [.s (List.map encSeason w.seasons), .s (List.map encInt w.weights)]), (35, .row 3 (List.map encRank v193))], 121, []⟩ : St)
        refine AW.boundM (t := 36) (l := v70) rfl (fun hb76 => ?_)
        cases hd75 : v70.drop k72 with
        | nil =>
          rw [hd75] at hH
          rw [spec_wlList_l2] at hH
          have hlt77 := drop_ge hd75
          refine AW.seq ?_
          refine AW.region ?_
          refine AO.pure T rfl rfl rfl ?_
          refine AO.nil ?_
          refine AW.seq ?_
          refine AW.condF' (b := decide ((k72 : Int) < (v70.length : Int))) rfl (rngF hlt77) ?_
          refine AW.exit ?_
          refine AW.seq ?_
          refine AW.seq ?_
          refine AW.region ?_
          refine AO.pure T rfl rfl rfl ?_
          refine AO.val rfl rfl (len_row_ok T rfl rfl rfl rfl) ?_
          refine AO.pure T rfl rfl rfl ?_
          refine AO.nil ?_
          refine AW.block ?_
          refine AW.loopS (fun s : Nat × (List Rank) × Int => (⟨[(8, .R 35), (83, .v (.int .i64 (v193.length : Int))), (84, .v (.int .i64 s.2.2))], [(35, .row 3 (List.map encRank s.2.1))], 121, []⟩ : St)) (fun s => spec_wlList_l3 v193 s.1 s.2.1 s.2.2 = some r) (fun s => s.1) (fuel, v193, 0) hH ?_ ?_
          · exact Le.cut 0 0 rfl (by repeat' (first | exact trivial | refine ⟨⟨_, rfl, rfl⟩, ?_⟩)) (by repeat' (first | exact trivial | refine ⟨⟨_, rfl, rfl⟩, ?_⟩)) rfl
          · rintro ⟨k195, v218, v219⟩ hH
            replace hH : spec_wlList_l3 v193 k195 v218 v219 = some r := hH
            show AW _ _ _ (⟨[(8, .R 35), (83, .v (.int .i64 (v193.length : Int))), (84, .v (.int .i64 v219))], [(35, .row 3 (List.map encRank v218))], 121, []⟩ : St)
            cases k195 with
            | zero => cases (show none = some _ from hH)
            | succ k195 =>
              rw [spec_wlList_l3] at hH
              refine AW.seq ?_
              refine AW.region ?_
              refine AO.pure T rfl rfl rfl ?_
              refine AO.nil ?_
              refine AW.seq ?_
              refine AW.cond (b := decide (v219 < (v193.length : Int))) rfl (fun hc => ?_) (fun hc => ?_)
              · replace hH := condT hc hH
                refine AW.skip ?_
                refine AW.seq ?_
                refine AW.block ?_
                refine AW.seq ?_
                refine AW.region ?_
                refine AO.pure T rfl rfl rfl ?_
                refine AO.pure T rfl rfl rfl ?_
                refine AO.nil ?_
                refine AW.seq ?_
                obtain ⟨x221, hx222, hH⟩ := bindE hH
                refine AW.region ?_
                refine AO.pure T rfl rfl rfl ?_
                refine AO.pure T rfl rfl rfl ?_
                refine AO.pure T rfl rfl rfl ?_
                refine AO.val rfl rfl (arw_ok rfl rfl rfl rfl) ?_
                refine AO.val rfl rfl (ix_row_ok T rfl rfl rfl rfl rfl rfl (hx222)) ?_
                refine AO.pure T rfl rfl rfl ?_
                refine AO.step rfl (store_row_ok T rfl rfl rfl rfl rfl (getI_get (hx222)) rfl rfl rfl rfl (u' := (Rank.mk x221.skater x221.total (w64 (v219 + 1)))) rfl rfl) ?_
                refine AO.nil ?_
                refine AW.seq ?_
                obtain ⟨x223, hx224, hH⟩ := bindE hH
                obtain ⟨x225, hx226, hH⟩ := bindE hH
                refine AW.drawn 14 42 [] mix (by kernel_rfl) rfl ?_
                refine AD.pure T rfl rfl rfl ?_
                refine AD.pure T rfl rfl rfl ?_
                refine AD.pure T rfl rfl rfl ?_
                refine AD.pureG T [] rfl trivial rfl rfl ?_
                refine AD.pureG T [] rfl trivial rfl rfl ?_
                refine AD.guard [97] rfl ⟨fun h => h, trivial⟩ (fun hg => arw_ok rfl rfl rfl rfl) rfl ?_
                refine AD.guard [96, 98] rfl ⟨fun h => h, fun h => h, trivial⟩ (fun hg => ix_row_ok T rfl rfl rfl rfl rfl rfl (optT hx224 hg)) rfl ?_
                refine AD.pureG T [99] rfl ⟨fun h => h, trivial⟩ rfl rfl ?_
                refine AD.guard [100] rfl ⟨fun h => h, trivial⟩ (fun hg => load_row_ok T rfl rfl rfl rfl (getI_get (optT hx224 hg)) rfl rfl rfl) rfl ?_
                refine AD.pureG T [] rfl trivial rfl rfl ?_
                refine AD.pureG T [] rfl trivial rfl rfl ?_
                refine AD.guard [102, 103] rfl ⟨fun h => h, fun h => h, trivial⟩ (fun hg => ix_row_ok T rfl rfl rfl rfl rfl rfl (optT hx226 hg)) rfl ?_
                refine AD.pureG T [104] rfl ⟨fun h => h, trivial⟩ rfl rfl ?_
                refine AD.guard [105] rfl ⟨fun h => h, trivial⟩ (fun hg => load_row_ok T rfl rfl rfl rfl (getI_get (optT hx226 hg)) rfl rfl rfl) rfl ?_
                refine AD.nil ?_
                refine AO.pureG T [101, 106] rfl ⟨fun h => h, fun h => h, trivial⟩ rfl rfl ?_
                refine AO.val rfl rfl (pick_and rfl rfl rfl rfl) ?_
                refine AO.nil ?_
                refine AW.le (Le.cut 0 0 (σ' := (⟨[(8, .R 35), (15, .v (.int .i64 v219)), (83, .v (.int .i64 (v193.length : Int))), (84, .v (.int .i64 v219)), (108, .v (.bool (decide (v219 > 0) && (x223.total == x225.total))))], [(35, .row 3 (List.map encRank (v218.set v219.toNat (Rank.mk x221.skater x221.total (w64 (v219 + 1))))))], 121, []⟩ : St)) rfl (by repeat' (first | exact trivial | refine ⟨⟨_, rfl, rfl⟩, ?_⟩)) (by repeat' (first | exact trivial | refine ⟨⟨_, rfl, rfl⟩, ?_⟩)) rfl) ?_
                refine AW.cond (b := (decide (v219 > 0) && (x223.total == x225.total))) rfl (fun hc => ?_) (fun hc => ?_)
                · replace hH := condT hc hH
                  obtain ⟨x227, hx228, hH⟩ := bindE hH
                  obtain ⟨x229, hx230, hH⟩ := bindE hH
                  refine AW.region ?_
                  refine AO.pure T rfl rfl rfl ?_
                  refine AO.pure T rfl rfl rfl ?_
                  refine AO.pure T rfl rfl rfl ?_
                  refine AO.pure T rfl rfl rfl ?_
                  refine AO.val rfl rfl (arw_ok rfl rfl rfl rfl) ?_
                  refine AO.val rfl rfl (ix_row_ok T rfl rfl rfl rfl rfl rfl (hx228)) ?_
                  refine AO.pure T rfl rfl rfl ?_
                  refine AO.val rfl rfl (load_row_ok T rfl rfl rfl rfl (getI_get (hx228)) rfl rfl rfl) ?_
                  refine AO.val rfl rfl (ix_row_ok T rfl rfl rfl rfl rfl rfl (hx230)) ?_
                  refine AO.pure T rfl rfl rfl ?_
                  refine AO.step rfl (store_row_ok T rfl rfl rfl rfl rfl (getI_get (hx230)) rfl rfl rfl rfl (u' := (Rank.mk x229.skater x229.total x227.place)) rfl rfl) ?_
                  refine AO.nil ?_
                  refine AW.region ?_
                  refine AO.val rfl rfl (arw_ok rfl rfl rfl rfl) ?_
                  refine AO.pure T rfl rfl rfl ?_
                  refine AO.nil ?_
                  refine ⟨(k195, ((v218.set v219.toNat (Rank.mk x221.skater x221.total (w64 (v219 + 1)))).set v219.toNat (Rank.mk x229.skater x229.total x227.place)), w64 (v219 + 1)), hH, Nat.lt_succ_self _, ?_⟩
                  exact Le.cut 0 0 rfl (by repeat' (first | exact trivial | refine ⟨⟨_, rfl, rfl⟩, ?_⟩)) (by repeat' (first | exact trivial | refine ⟨⟨_, rfl, rfl⟩, ?_⟩)) rfl
                · replace hH := condF hc hH
                  refine AW.skip ?_
                  refine AW.region ?_
                  refine AO.val rfl rfl (arw_ok rfl rfl rfl rfl) ?_
                  refine AO.pure T rfl rfl rfl ?_
                  refine AO.nil ?_
                  refine ⟨(k195, (v218.set v219.toNat (Rank.mk x221.skater x221.total (w64 (v219 + 1)))), w64 (v219 + 1)), hH, Nat.lt_succ_self _, ?_⟩
                  exact Le.cut 0 0 rfl (by repeat' (first | exact trivial | refine ⟨⟨_, rfl, rfl⟩, ?_⟩)) (by repeat' (first | exact trivial | refine ⟨⟨_, rfl, rfl⟩, ?_⟩)) rfl
              · replace hH := condF hc hH
                refine AW.exit ?_
                refine AW.seq ?_
                refine AW.region ?_
                refine AO.pure T rfl rfl rfl ?_
                refine AO.pure T rfl rfl rfl ?_
                refine AO.nil ?_
                refine AW.ret ?_
                cases someE hH
                exact ⟨trivial, _, [35], rfl, .c (.c (.rowR rfl)), by decide⟩
        | cons y73 ys74 =>
          rw [hd75] at hH
          rw [spec_wlList_l2] at hH
          have hlt77 := drop_lt hd75
          refine AW.seq ?_
          refine AW.region ?_
          refine AO.pure T rfl rfl rfl ?_
          refine AO.nil ?_
          refine AW.seq ?_
          refine AW.condT' (b := decide ((k72 : Int) < (v70.length : Int))) rfl (rngT hlt77) ?_
          refine AW.skip ?_
          obtain ⟨o267, hH, hK268⟩ := bindE hH
          refine AW.seqJ (fun s : List Rank => (⟨[(1, .p 1 0), (8, .R 47), (36, .s (List.map encInt v70)), (37, .v (.int .i64 (v70.length : Int))), (38, .v (.int .i64 (k72 : Int)))], [(1, .box [.s (List.map encSeason w.seasons), .s (List.map encInt w.weights)]), (47, .row 3 (List.map encRank s))], 121, []⟩ : St)) (fun s => s = o267) ?_ ?_
          · refine AW.block ?_
            refine AW.seq ?_
            refine AW.region ?_
            refine AO.val rfl rfl (ix_map_ok T rfl rfl rfl rfl rfl (getI_drop hd75) rfl) ?_
            refine AO.pure T rfl rfl rfl ?_
            refine AO.pure T rfl rfl rfl ?_
            refine AO.nil ?_
            refine AW.seq ?_
            obtain ⟨x269, hx270, hH⟩ := bindE hH
            refine AW.region ?_
            refine AO.pure T (d := .g [.s (List.map encSeason w.seasons), .s (List.map encInt w.weights)]) rfl rfl rfl ?_
            refine AO.pure T rfl rfl rfl ?_
            refine AO.step rfl (call_ok rfl 48 rfl rfl rfl (spec_wlParts_ok fuel _ _ _ (hx270)) rfl rfl rfl) ?_
            refine AO.pure T rfl rfl rfl ?_
            refine AO.pure T rfl rfl rfl ?_
            refine AO.pure T rfl rfl rfl ?_
            refine AO.pure T rfl rfl rfl ?_
            refine AO.pure T rfl rfl rfl ?_
            refine AO.nil ?_
            refine AW.seq ?_
            obtain ⟨x271, hx272, hH⟩ := bindE hH
            refine AW.region ?_
            refine AO.pure T rfl rfl rfl ?_
            refine AO.pure T rfl rfl rfl ?_
            refine AO.val rfl rfl (callLV_ok rfl rfl rfl (es := [.s (List.map encInt x269.1)]) ⟨(.rowR rfl (.map fun y => .vs rfl)), trivial⟩ (spec_poSum_ok _ _ (hx272)) (zfree_v _) rfl) ?_
            refine AO.pure T (d := .g [.v (.int .i64 y73), .v (.int .i64 x271), .v (.int .i64 0)]) rfl rfl rfl ?_
            refine AO.step rfl (alloc_ok T rfl 49 rfl rfl rfl rfl rfl) ?_
            refine AO.step rfl (store_okE T rfl rfl rfl rfl rfl rfl rfl rfl rfl (ds' := [.v (.int .i64 y73), .v (.int .i64 x271), .v (.int .i64 0)]) rfl) ?_
            refine AO.nil ?_
            refine AW.seq ?_
            refine AW.region ?_
            refine AO.pure T rfl rfl rfl ?_
            refine AO.val rfl rfl (len_row_ok T rfl rfl rfl rfl) ?_
            refine AO.pure T rfl rfl rfl ?_
            refine AO.nil ?_
            obtain ⟨o283, hH, hK284⟩ := bindE hH
            refine AW.seqJ (fun s : Int => (⟨[(1, .p 1 0), (8, .R 35), (13, .p 49 0), (14, .v (.int .i64 s)), (36, .s (List.map encInt v70)), (37, .v (.int .i64 (v70.length : Int))), (38, .v (.int .i64 (k72 : Int)))], [(1, .box [.s (List.map encSeason w.seasons), .s (List.map encInt w.weights)]), (35, .row 3 (List.map encRank v193)), (49, .box [.v (.int .i64 y73), .v (.int .i64 x271), .v (.int .i64 0)])], 121, []⟩ : St)) (fun s => s = o283) ?_ ?_
            · refine AW.block ?_
              refine AW.loopS (fun s : Nat × Int => (⟨[(1, .p 1 0), (8, .R 35), (13, .p 49 0), (14, .v (.int .i64 s.2)), (36, .s (List.map encInt v70)), (37, .v (.int .i64 (v70.length : Int))), (38, .v (.int .i64 (k72 : Int)))], [(1, .box [.s (List.map encSeason w.seasons), .s (List.map encInt w.weights)]), (35, .row 3 (List.map encRank v193)), (49, .box [.v (.int .i64 y73), .v (.int .i64 x271), .v (.int .i64 0)])], 121, []⟩ : St)) (fun s => spec_wlList_l4 v193 x271 s.1 s.2 = some o283) (fun s => s.1) (fuel, (v193.length : Int)) hH ?_ ?_
              · exact Le.cut 0 0 rfl (by repeat' (first | exact trivial | refine ⟨⟨_, rfl, rfl⟩, ?_⟩)) (by repeat' (first | exact trivial | refine ⟨⟨_, rfl, rfl⟩, ?_⟩)) rfl
              · rintro ⟨k285, v291⟩ hH
                replace hH : spec_wlList_l4 v193 x271 k285 v291 = some o283 := hH
                show AW _ _ _ (⟨[(1, .p 1 0), (8, .R 35), (13, .p 49 0), (14, .v (.int .i64 v291)), (36, .s (List.map encInt v70)), (37, .v (.int .i64 (v70.length : Int))), (38, .v (.int .i64 (k72 : Int)))], [(1, .box [.s (List.map encSeason w.seasons), .s (List.map encInt w.weights)]), (35, .row 3 (List.map encRank v193)), (49, .box [.v (.int .i64 y73), .v (.int .i64 x271), .v (.int .i64 0)])], 121, []⟩ : St)
                cases k285 with
                | zero => cases (show none = some _ from hH)
                | succ k285 =>
                  rw [spec_wlList_l4] at hH
                  refine AW.seq ?_
                  refine AW.seq ?_
                  obtain ⟨x293, hx294, hH⟩ := bindE hH
                  refine AW.drawn 11 50 [] mix (by kernel_rfl) rfl ?_
                  refine AD.pure T rfl rfl rfl ?_
                  refine AD.pure T rfl rfl rfl ?_
                  refine AD.pure T rfl rfl rfl ?_
                  refine AD.pureG T [] rfl trivial rfl rfl ?_
                  refine AD.pureG T [] rfl trivial rfl rfl ?_
                  refine AD.guard [58] rfl ⟨fun h => h, trivial⟩ (fun hg => arw_ok rfl rfl rfl rfl) rfl ?_
                  refine AD.guard [57, 59] rfl ⟨fun h => h, fun h => h, trivial⟩ (fun hg => ix_row_ok T rfl rfl rfl rfl rfl rfl (optT hx294 hg)) rfl ?_
                  refine AD.pureG T [60] rfl ⟨fun h => h, trivial⟩ rfl rfl ?_
                  refine AD.guard [61] rfl ⟨fun h => h, trivial⟩ (fun hg => load_row_ok T rfl rfl rfl rfl (getI_get (optT hx294 hg)) rfl rfl rfl) rfl ?_
                  refine AD.pureG T [] rfl trivial rfl rfl ?_
                  refine AD.pureG T [63] rfl ⟨fun h => h, trivial⟩ rfl rfl ?_
                  refine AD.nil ?_
                  refine AO.pureG T [62, 64] rfl ⟨fun h => h, fun h => h, trivial⟩ rfl rfl ?_
                  refine AO.val rfl rfl (pick_and rfl rfl rfl rfl) ?_
                  refine AO.nil ?_
                  refine AW.cond (b := (decide (v291 > 0) && decide (x293.total < x271))) rfl (fun hc => ?_) (fun hc => ?_)
                  · replace hH := condT hc hH
                    refine AW.skip ?_
                    refine AW.block ?_
                    refine AW.region ?_
                    refine AO.pure T rfl rfl rfl ?_
                    refine AO.val rfl rfl (arw_ok rfl rfl rfl rfl) ?_
                    refine AO.pure T rfl rfl rfl ?_
                    refine AO.nil ?_
                    refine ⟨(k285, w64 (v291 - 1)), hH, Nat.lt_succ_self _, ?_⟩
                    exact Le.cut 0 0 rfl (by repeat' (first | exact trivial | refine ⟨⟨_, rfl, rfl⟩, ?_⟩)) (by repeat' (first | exact trivial | refine ⟨⟨_, rfl, rfl⟩, ?_⟩)) rfl
                  · replace hH := condF hc hH
                    refine AW.exit ?_
                    refine ⟨_, someE hH, ?_⟩
                    exact Le.cut 0 0 rfl (by repeat' (first | exact trivial | refine ⟨⟨_, rfl, rfl⟩, ?_⟩)) (by repeat' (first | exact trivial | refine ⟨⟨_, rfl, rfl⟩, ?_⟩)) rfl
            · rintro v282 hs
              subst hs
              replace hH := hK284
              try dsimp only [flow, flowE] at hH
              show AW _ _ _ (⟨[(1, .p 1 0), (8, .R 35), (13, .p 49 0), (14, .v (.int .i64 v282)), (36, .s (List.map encInt v70)), (37, .v (.int .i64 (v70.length : Int))), (38, .v (.int .i64 (k72 : Int)))], [(1, .box [.s (List.map encSeason w.seasons), .s (List.map encInt w.weights)]), (35, .row 3 (List.map encRank v193)), (49, .box [.v (.int .i64 y73), .v (.int .i64 x271), .v (.int .i64 0)])], 121, []⟩ : St)
              obtain ⟨x295, hx296, hH⟩ := bindE hH
              obtain ⟨u297, hx298, hH⟩ := bindE hH
              obtain ⟨u299, hx300, hH⟩ := bindE hH
              obtain ⟨x301, hx302, hH⟩ := bindE hH
              obtain ⟨u303, hx304, hH⟩ := bindE hH
              refine AW.le (Le.freezeM 35 (g := encRank) rfl (fun y => .vs rfl)) ?_
              refine AW.drawn 11 50 [] mix (by kernel_rfl) rfl ?_
              refine AD.v (FStep.mk0 T rfl rfl rfl rfl rfl) ?_
              refine AD.pure T rfl rfl rfl ?_
              refine AD.pure T rfl rfl rfl ?_
              refine AD.val rfl rfl (slice_hi_map_ok T rfl rfl rfl rfl rfl (hx296) (fun _ => rfl)) ?_
              refine AD.q (FStep.app_ws T rfl rfl rfl rfl rfl rfl rfl (by decide) (by decide) rfl rfl (fun _ => rfl) (needT (hx298)) rfl) (by simp [namesIn]) (Nat.le_succ _) rfl ?_
              refine AD.pure T (d := .g [.v (.int .i64 y73), .v (.int .i64 x271), .v (.int .i64 0)]) rfl rfl rfl ?_
              refine AD.q (FStep.mk T (f := encRank) (l := [(Rank.mk y73 x271 0)]) rfl rfl rfl rfl rfl rfl rfl rfl rfl (fun _ => rfl) rfl rfl rfl rfl) (by simp [namesIn]) (Nat.le_succ _) rfl ?_
              refine AD.k rfl rfl (FStep.app_rv T rfl rfl rfl rfl rfl rfl rfl (by decide) rfl rfl rfl rfl (fun _ => rfl) (needT (hx300)) rfl) rfl rfl rfl ?_
              refine AD.pure T rfl rfl rfl ?_
              refine AD.pure T rfl rfl rfl ?_
              refine AD.val rfl rfl (slice_lo_map_ok T rfl rfl rfl rfl rfl (hx302) (fun _ => rfl)) ?_
              refine AD.nil ?_
              refine AO.step rfl (app_rs_map T rfl 53 rfl rfl rfl rfl rfl (by decide) (by decide) rfl rfl rfl (fun _ => rfl) (needT (hx304)) rfl rfl) ?_
              refine AO.pure T rfl rfl rfl ?_
              refine AO.nil ?_
              refine ⟨_, someE hH, ?_⟩
              exact Le.cut 53 47 rfl (by repeat' (first | exact trivial | refine ⟨⟨_, rfl, rfl⟩, ?_⟩)) (by repeat' (first | exact trivial | refine ⟨⟨_, rfl, rfl⟩, ?_⟩)) rfl
          · rintro v266 hs
            subst hs
            replace hH := hK268
            try dsimp only [flow, flowE] at hH
            show AW _ _ _ (⟨[(1, .p 1 0), (8, .R 47), (36, .s (List.map encInt v70)), (37, .v (.int .i64 (v70.length : Int))), (38, .v (.int .i64 (k72 : Int)))], [(1, .box [.s (List.map encSeason w.seasons), .s (List.map encInt w.weights)]), (47, .row 3 (List.map encRank v266))], 121, []⟩ : St)
            refine AW.region ?_
            refine AO.val rfl rfl (ar_ok rfl rfl rfl rfl (inI_succ hlt77 hb76)) ?_
            refine AO.pure T rfl rfl rfl ?_
            refine AO.nil ?_
            refine ⟨(k72 + 1, v266), ⟨Nat.succ_le_of_lt hlt77, (by rw [drop_succ_of hd75]; exact hH)⟩, (by have := hlt77; dsimp only; omega), ?_⟩
            exact Le.cut 47 35 rfl (by repeat' (first | exact trivial | refine ⟨⟨_, rfl, rfl⟩, ?_⟩)) (by repeat' (first | exact trivial | refine ⟨⟨_, rfl, rfl⟩, ?_⟩)) rfl
    | cons y2 ys3 =>
      rw [hd4] at hH
      rw [spec_wlList_l1] at hH
      have hlt6 := drop_lt hd4
      refine AW.seq ?_
      refine AW.region ?_
      refine AO.pure T rfl rfl rfl ?_
      refine AO.nil ?_
      refine AW.seq ?_
      refine AW.condT' (b := decide ((k1 : Int) < (w.seasons.length : Int))) rfl (rngT hlt6) ?_
      refine AW.skip ?_
      obtain ⟨o320, hH, hK321⟩ := bindE hH
      refine AW.seqJ (fun s : List Int => (⟨[(1, .p 1 0), (3, .s (List.map encInt s)), (17, .s (List.map encSeason w.seasons)), (18, .v (.int .i64 (w.seasons.length : Int))), (19, .v (.int .i64 (k1 : Int)))], [(1, .box [.s (List.map encSeason w.seasons), .s (List.map encInt w.weights)])], 121, []⟩ : St)) (fun s => s = o320) ?_ ?_
      · refine AW.block ?_
        refine AW.seq ?_
        refine AW.region ?_
        refine AO.val rfl rfl (ix_map_ok T rfl rfl rfl rfl rfl (getI_drop hd4) rfl) ?_
        refine AO.pure T (d := .g [.v (.int .i64 y2.best), .s (List.map encLine y2.lines)]) rfl rfl rfl ?_
        refine AO.step rfl (alloc_ok T rfl 58 rfl rfl rfl rfl rfl) ?_
        refine AO.step rfl (store_okE T rfl rfl rfl rfl rfl rfl rfl rfl rfl (ds' := [.v (.int .i64 y2.best), .s (List.map encLine y2.lines)]) rfl) ?_
        refine AO.nil ?_
        refine AW.seq ?_
        refine AW.region ?_
        refine AO.pure T rfl rfl rfl ?_
        refine AO.pure T rfl rfl rfl ?_
        refine AO.val rfl rfl (len_map_ok T rfl rfl rfl) ?_
        refine AO.pure T rfl rfl rfl ?_
        refine AO.nil ?_
        refine AW.block ?_
        refine AW.loopS (fun s : Nat × (List Int) => (⟨[(1, .p 1 0), (3, .s (List.map encInt s.2)), (17, .s (List.map encSeason w.seasons)), (18, .v (.int .i64 (w.seasons.length : Int))), (19, .v (.int .i64 (k1 : Int))), (24, .s (List.map encLine y2.lines)), (25, .v (.int .i64 (y2.lines.length : Int))), (26, .v (.int .i64 (s.1 : Int)))], [(1, .box [.s (List.map encSeason w.seasons), .s (List.map encInt w.weights)])], 121, []⟩ : St)) (fun s => s.1 ≤ y2.lines.length ∧ spec_wlList_l5 fuel (y2.lines.drop s.1) s.1 s.2 = some o320) (fun s => y2.lines.length - s.1) (0, v70) ⟨Nat.zero_le _, hH⟩ ?_ ?_
        · exact Le.cut 0 0 rfl (by repeat' (first | exact trivial | refine ⟨⟨_, rfl, rfl⟩, ?_⟩)) (by repeat' (first | exact trivial | refine ⟨⟨_, rfl, rfl⟩, ?_⟩)) rfl
        · rintro ⟨k322, v333⟩ ⟨hk, hH⟩
          replace hH : spec_wlList_l5 fuel (y2.lines.drop k322) k322 v333 = some o320 := hH
          show AW _ _ _ (⟨[(1, .p 1 0), (3, .s (List.map encInt v333)), (17, .s (List.map encSeason w.seasons)), (18, .v (.int .i64 (w.seasons.length : Int))), (19, .v (.int .i64 (k1 : Int))), (24, .s (List.map encLine y2.lines)), (25, .v (.int .i64 (y2.lines.length : Int))), (26, .v (.int .i64 (k322 : Int)))], [(1, .box [.s (List.map encSeason w.seasons), .s (List.map encInt w.weights)])], 121, []⟩ : St)
          refine AW.boundM (t := 24) (l := y2.lines) rfl (fun hb326 => ?_)
          cases hd325 : y2.lines.drop k322 with
          | nil =>
            rw [hd325] at hH
            rw [spec_wlList_l5] at hH
            have hlt327 := drop_ge hd325
            refine AW.seq ?_
            refine AW.region ?_
            refine AO.pure T rfl rfl rfl ?_
            refine AO.nil ?_
            refine AW.seq ?_
            refine AW.condF' (b := decide ((k322 : Int) < (y2.lines.length : Int))) rfl (rngF hlt327) ?_
            refine AW.exit ?_
            refine ⟨_, someE hH, ?_⟩
            exact Le.cut 0 0 rfl (by repeat' (first | exact trivial | refine ⟨⟨_, rfl, rfl⟩, ?_⟩)) (by repeat' (first | exact trivial | refine ⟨⟨_, rfl, rfl⟩, ?_⟩)) rfl
          | cons y323 ys324 =>
            rw [hd325] at hH
            rw [spec_wlList_l5] at hH
            have hlt327 := drop_lt hd325
            refine AW.seq ?_
            refine AW.region ?_
            refine AO.pure T rfl rfl rfl ?_
            refine AO.nil ?_
            refine AW.seq ?_
            refine AW.condT' (b := decide ((k322 : Int) < (y2.lines.length : Int))) rfl (rngT hlt327) ?_
            refine AW.skip ?_
            refine AW.seq ?_
            refine AW.block ?_
            refine AW.seq ?_
            refine AW.region ?_
            refine AO.val rfl rfl (ix_map_ok T rfl rfl rfl rfl rfl (getI_drop hd325) rfl) ?_
            refine AO.pure T (d := .g [.v (.int .i64 y323.skater), .s (List.map encInt y323.events), .s (List.map encInt y323.points)]) rfl rfl rfl ?_
            refine AO.step rfl (alloc_ok T rfl 61 rfl rfl rfl rfl rfl) ?_
            refine AO.step rfl (store_okE T rfl rfl rfl rfl rfl rfl rfl rfl rfl (ds' := [.v (.int .i64 y323.skater), .s (List.map encInt y323.events), .s (List.map encInt y323.points)]) rfl) ?_
            refine AO.nil ?_
            obtain ⟨x335, hx336, hH⟩ := bindE hH
            refine AW.region ?_
            refine AO.pure T rfl rfl rfl ?_
            refine AO.pure T rfl rfl rfl ?_
            refine AO.pure T rfl rfl rfl ?_
            refine AO.val rfl rfl (callV_ok rfl rfl rfl rfl (spec_l1Put_ok fuel _ _ _ (hx336)) rfl) ?_
            refine AO.pure T rfl rfl rfl ?_
            refine AO.nil ?_
            refine AW.region ?_
            refine AO.val rfl rfl (ar_ok rfl rfl rfl rfl (inI_succ hlt327 hb326)) ?_
            refine AO.pure T rfl rfl rfl ?_
            refine AO.nil ?_
            refine ⟨(k322 + 1, x335), ⟨Nat.succ_le_of_lt hlt327, (by rw [drop_succ_of hd325]; exact hH)⟩, (by have := hlt327; dsimp only; omega), ?_⟩
            exact Le.cut 0 0 rfl (by repeat' (first | exact trivial | refine ⟨⟨_, rfl, rfl⟩, ?_⟩)) (by repeat' (first | exact trivial | refine ⟨⟨_, rfl, rfl⟩, ?_⟩)) rfl
      · rintro v319 hs
        subst hs
        replace hH := hK321
        try dsimp only [flow, flowE] at hH
        show AW _ _ _ (⟨[(1, .p 1 0), (3, .s (List.map encInt v319)), (17, .s (List.map encSeason w.seasons)), (18, .v (.int .i64 (w.seasons.length : Int))), (19, .v (.int .i64 (k1 : Int)))], [(1, .box [.s (List.map encSeason w.seasons), .s (List.map encInt w.weights)])], 121, []⟩ : St)
        refine AW.region ?_
        refine AO.val rfl rfl (ar_ok rfl rfl rfl rfl (inI_succ hlt6 hb5)) ?_
        refine AO.pure T rfl rfl rfl ?_
        refine AO.nil ?_
        refine ⟨(k1 + 1, v319), ⟨Nat.succ_le_of_lt hlt6, (by rw [drop_succ_of hd4]; exact hH)⟩, (by have := hlt6; dsimp only; omega), ?_⟩
        exact Le.cut 0 0 rfl (by repeat' (first | exact trivial | refine ⟨⟨_, rfl, rfl⟩, ?_⟩)) (by repeat' (first | exact trivial | refine ⟨⟨_, rfl, rfl⟩, ?_⟩)) rfl

def spec_soPlace_l1 (skater : Int) : List Int → Nat → Option Int
  | [], k1 =>
    some (-1)
  | y2 :: ys3, k1 =>
    cond (y2 == skater)
      (some (k1 : Int))
      (spec_soPlace_l1 skater ys3 (k1 + 1))
def spec_soPlace_p (order : List Int) (skater : Int) : Option Int :=
  spec_soPlace_l1 skater order 0
theorem spec_soPlace_ok (order : List Int) (skater : Int) (r : Int) (hH : spec_soPlace_p order skater = some r) : SpecR Tryz.prog 56 [.s (List.map encInt order), .v (.int .i64 skater)] (.v (.int .i64 r)) := by
  refine fn_ok T Tryz.func56 rfl (by decide) rfl ?_
  refine AW.seq ?_
  refine AW.region ?_
  refine AO.pure T rfl rfl rfl ?_
  refine AO.nil ?_
  refine AW.seq ?_
  refine AW.seq ?_
  refine AW.region ?_
  refine AO.pure T rfl rfl rfl ?_
  refine AO.val rfl rfl (len_map_ok T rfl rfl rfl) ?_
  refine AO.pure T rfl rfl rfl ?_
  refine AO.nil ?_
  refine AW.block ?_
  refine AW.loopS (fun s : Nat => (⟨[(1, .v (.int .i64 skater)), (7, .s (List.map encInt order)), (8, .v (.int .i64 (order.length : Int))), (9, .v (.int .i64 (s : Int)))], [], 19, []⟩ : St)) (fun s => s ≤ order.length ∧ spec_soPlace_l1 skater (order.drop s) s = some r) (fun s => order.length - s) 0 ⟨Nat.zero_le _, hH⟩ ?_ ?_
  · exact Le.cut 0 0 rfl (by repeat' (first | exact trivial | refine ⟨⟨_, rfl, rfl⟩, ?_⟩)) (by repeat' (first | exact trivial | refine ⟨⟨_, rfl, rfl⟩, ?_⟩)) rfl
  · rintro k1 ⟨hk, hH⟩
    replace hH : spec_soPlace_l1 skater (order.drop k1) k1 = some r := hH
    show AW _ _ _ (⟨[(1, .v (.int .i64 skater)), (7, .s (List.map encInt order)), (8, .v (.int .i64 (order.length : Int))), (9, .v (.int .i64 (k1 : Int)))], [], 19, []⟩ : St)
    refine AW.boundM (t := 7) (l := order) rfl (fun hb5 => ?_)
    cases hd4 : order.drop k1 with
    | nil =>
      rw [hd4] at hH
      rw [spec_soPlace_l1] at hH
      have hlt6 := drop_ge hd4
      refine AW.seq ?_
      refine AW.region ?_
      refine AO.pure T rfl rfl rfl ?_
      refine AO.nil ?_
      refine AW.seq ?_
      refine AW.condF' (b := decide ((k1 : Int) < (order.length : Int))) rfl (rngF hlt6) ?_
      refine AW.exit ?_
      refine AW.seq ?_
      refine AW.region ?_
      refine AO.pure T rfl rfl rfl ?_
      refine AO.nil ?_
      refine AW.ret ?_
      cases someE hH
      exact ⟨trivial, _, [], rfl, .c (.c .v), by decide⟩
    | cons y2 ys3 =>
      rw [hd4] at hH
      rw [spec_soPlace_l1] at hH
      have hlt6 := drop_lt hd4
      refine AW.seq ?_
      refine AW.region ?_
      refine AO.pure T rfl rfl rfl ?_
      refine AO.nil ?_
      refine AW.seq ?_
      refine AW.condT' (b := decide ((k1 : Int) < (order.length : Int))) rfl (rngT hlt6) ?_
      refine AW.skip ?_
      refine AW.seq ?_
      refine AW.block ?_
      refine AW.seq ?_
      refine AW.region ?_
      refine AO.pure T rfl rfl rfl ?_
      refine AO.val rfl rfl (ix_map_ok T rfl rfl rfl rfl rfl (getI_drop hd4) rfl) ?_
      refine AO.pure T rfl rfl rfl ?_
      refine AO.pure T rfl rfl rfl ?_
      refine AO.pure T rfl rfl rfl ?_
      refine AO.nil ?_
      refine AW.seq ?_
      refine AW.region ?_
      refine AO.pure T rfl rfl rfl ?_
      refine AO.pure T rfl rfl rfl ?_
      refine AO.pure T rfl rfl rfl ?_
      refine AO.nil ?_
      refine AW.cond (b := (y2 == skater)) rfl (fun hc => ?_) (fun hc => ?_)
      · replace hH := condT hc hH
        refine AW.seq ?_
        refine AW.region ?_
        refine AO.pure T rfl rfl rfl ?_
        refine AO.pure T rfl rfl rfl ?_
        refine AO.nil ?_
        refine AW.ret ?_
        cases someE hH
        exact ⟨trivial, _, [], rfl, .c (.c .v), by decide⟩
      · replace hH := condF hc hH
        refine AW.skip ?_
        refine AW.region ?_
        refine AO.val rfl rfl (ar_ok rfl rfl rfl rfl (inI_succ hlt6 hb5)) ?_
        refine AO.pure T rfl rfl rfl ?_
        refine AO.nil ?_
        refine ⟨k1 + 1, ⟨Nat.succ_le_of_lt hlt6, (by rw [drop_succ_of hd4]; exact hH)⟩, (by have := hlt6; dsimp only; omega), ?_⟩
        exact Le.cut 0 0 rfl (by repeat' (first | exact trivial | refine ⟨⟨_, rfl, rfl⟩, ?_⟩)) (by repeat' (first | exact trivial | refine ⟨⟨_, rfl, rfl⟩, ?_⟩)) rfl

def spec_SeedsFor_l2 (v22 : List Int) : List Int → Nat → List Entrant → Option (((List Entrant) × Bool))
  | [], k24, v39 =>
    some (v39, true)
  | y25 :: ys26, k24, v39 =>
    (spec_soPlace_p v22 y25).bind fun x41 =>
    (need (fitsB 16 (v39.length + ([(Entrant.mk y25 (w64 (x41 + 1)))]).length))).bind fun u43 =>
    spec_SeedsFor_l2 v22 ys26 (k24 + 1) (v39 ++ [(Entrant.mk y25 (w64 (x41 + 1)))])
def spec_SeedsFor_l1 (skaters : List Int) : List Rank → Nat → List Int → Option (((List Entrant) × Bool))
  | [], k7, v22 =>
    spec_SeedsFor_l2 v22 skaters 0 []
  | y8 :: ys9, k7, v22 =>
    (spec_l1Has_p skaters y8.skater).bind fun x45 =>
    cond x45
      ((need (fitsB 8 (v22.length + ([y8.skater]).length))).bind fun u47 =>
      spec_SeedsFor_l1 skaters ys9 (k7 + 1) (v22 ++ [y8.skater]))
      (spec_SeedsFor_l1 skaters ys9 (k7 + 1) v22)
def spec_SeedsFor_p (fuel : Nat) (w : World) (skaters : List Int) : Option ((List Entrant) × Bool) :=
  (spec_wlGood_p w).bind fun x1 =>
  (opt (!(!x1)) default (spec_soOrder_p skaters)).bind fun x3 =>
  cond ((!x1) || (!x3))
    (some ([], false))
    ((spec_wlList_p fuel w).bind fun x5 =>
    spec_SeedsFor_l1 skaters x5 0 [])
theorem spec_SeedsFor_ok (fuel : Nat) (w : World) (skaters : List Int) (r : ((List Entrant) × Bool)) (hH : spec_SeedsFor_p fuel w skaters = some r) : SpecR Tryz.prog 7 [.g (encWorld w), .s (List.map encInt skaters)] (.t [.w 2 (r.1.map encEntrant), .v (.bool r.2)]) := by
  refine fn_ok T Tryz.func7 rfl (by decide) rfl ?_
  refine AW.seq ?_
  refine AW.region ?_
  refine AO.step rfl (box_ok T rfl 1 rfl rfl rfl rfl) ?_
  refine AO.pure T rfl rfl rfl ?_
  refine AO.pure T rfl rfl rfl ?_
  refine AO.nil ?_
  refine AW.seq ?_
  refine AW.seq ?_
  obtain ⟨x1, hx2, hH⟩ := bindE hH
  obtain ⟨x3, hx4, hH⟩ := bindE hH
  refine AW.region ?_
  refine AO.pure T (d := .g [.s (List.map encSeason w.seasons), .s (List.map encInt w.weights)]) rfl rfl rfl ?_
  refine AO.val rfl rfl (callV_ok rfl rfl rfl rfl (spec_wlGood_ok _ _ (hx2)) rfl) ?_
  refine AO.pure T rfl rfl rfl ?_
  refine AO.pure T rfl rfl rfl ?_
  refine AO.pureG T [] rfl trivial rfl rfl ?_
  refine AO.guard [16] rfl ⟨fun h => h, trivial⟩ (fun hg => callV_ok rfl rfl rfl rfl (spec_soOrder_ok _ _ (optT hx4 hg)) rfl) rfl ?_
  refine AO.pureG T [17] rfl ⟨fun h => h, trivial⟩ rfl rfl ?_
  refine AO.val rfl rfl (pick_or rfl rfl rfl rfl) ?_
  refine AO.nil ?_
  refine AW.cond (b := ((!x1) || (!x3))) rfl (fun hc => ?_) (fun hc => ?_)
  · replace hH := condT hc hH
    refine AW.seq ?_
    refine AW.region ?_
    refine AO.pure T rfl rfl rfl ?_
    refine AO.pure T rfl rfl rfl ?_
    refine AO.nil ?_
    refine AW.ret ?_
    cases someE hH
    exact ⟨trivial, _, [], rfl, .t (expLG_cons (.c .nil) (expLG_cons (.c .v) (expLG_nil))), by decide⟩
  · replace hH := condF hc hH
    refine AW.skip ?_
    refine AW.seq ?_
    refine AW.region ?_
    refine AO.pure T rfl rfl rfl ?_
    refine AO.nil ?_
    refine AW.seq ?_
    refine AW.seq ?_
    obtain ⟨x5, hx6, hH⟩ := bindE hH
    refine AW.region ?_
    refine AO.pure T (d := .g [.s (List.map encSeason w.seasons), .s (List.map encInt w.weights)]) rfl rfl rfl ?_
    refine AO.step rfl (call_ok rfl 2 rfl rfl rfl (spec_wlList_ok fuel _ _ (hx6)) rfl rfl rfl) ?_
    refine AO.val rfl rfl (len_row_ok T rfl rfl rfl rfl) ?_
    refine AO.pure T rfl rfl rfl ?_
    refine AO.nil ?_
    refine AW.block ?_
    refine AW.loopS (fun s : Nat × (List Int) => (⟨[(1, .s (List.map encInt skaters)), (6, .R 8), (21, .R 2), (22, .v (.int .i64 (x5.length : Int))), (23, .v (.int .i64 (s.1 : Int)))], [(2, .row 3 (List.map encRank x5)), (8, .row 1 (List.map encInt s.2))], 54, []⟩ : St)) (fun s => s.1 ≤ x5.length ∧ spec_SeedsFor_l1 skaters (x5.drop s.1) s.1 s.2 = some r) (fun s => x5.length - s.1) (0, []) ⟨Nat.zero_le _, hH⟩ ?_ ?_
    · refine Le.trans (Le.void 6 8 1 rfl rfl) ?_
      exact Le.cut 0 0 rfl (by repeat' (first | exact trivial | refine ⟨⟨_, rfl, rfl⟩, ?_⟩)) (by repeat' (first | exact trivial | refine ⟨⟨_, rfl, rfl⟩, ?_⟩)) rfl
    · rintro ⟨k7, v22⟩ ⟨hk, hH⟩
      replace hH : spec_SeedsFor_l1 skaters (x5.drop k7) k7 v22 = some r := hH
      show AW _ _ _ (⟨[(1, .s (List.map encInt skaters)), (6, .R 8), (21, .R 2), (22, .v (.int .i64 (x5.length : Int))), (23, .v (.int .i64 (k7 : Int)))], [(2, .row 3 (List.map encRank x5)), (8, .row 1 (List.map encInt v22))], 54, []⟩ : St)
      refine AW.boundR (id := 2) (l := x5) rfl (fun hb11 => ?_)
      cases hd10 : x5.drop k7 with
      | nil =>
        rw [hd10] at hH
        rw [spec_SeedsFor_l1] at hH
        have hlt12 := drop_ge hd10
        refine AW.seq ?_
        refine AW.region ?_
        refine AO.pure T rfl rfl rfl ?_
        refine AO.nil ?_
        refine AW.seq ?_
        refine AW.condF' (b := decide ((k7 : Int) < (x5.length : Int))) rfl (rngF hlt12) ?_
        refine AW.exit ?_
        refine AW.seq ?_
        refine AW.region ?_
        refine AO.pure T rfl rfl rfl ?_
        refine AO.nil ?_
        refine AW.seq ?_
        refine AW.seq ?_
        refine AW.region ?_
        refine AO.pure T rfl rfl rfl ?_
        refine AO.val rfl rfl (len_map_ok T rfl rfl rfl) ?_
        refine AO.pure T rfl rfl rfl ?_
        refine AO.nil ?_
        refine AW.block ?_
        refine AW.loopS (fun s : Nat × (List Entrant) => (⟨[(6, .R 8), (9, .R 12), (37, .s (List.map encInt skaters)), (38, .v (.int .i64 (skaters.length : Int))), (39, .v (.int .i64 (s.1 : Int)))], [(8, .row 1 (List.map encInt v22)), (12, .row 2 (List.map encEntrant s.2))], 54, []⟩ : St)) (fun s => s.1 ≤ skaters.length ∧ spec_SeedsFor_l2 v22 (skaters.drop s.1) s.1 s.2 = some r) (fun s => skaters.length - s.1) (0, []) ⟨Nat.zero_le _, hH⟩ ?_ ?_
        · refine Le.trans (Le.void 9 12 2 rfl rfl) ?_
          exact Le.cut 0 0 rfl (by repeat' (first | exact trivial | refine ⟨⟨_, rfl, rfl⟩, ?_⟩)) (by repeat' (first | exact trivial | refine ⟨⟨_, rfl, rfl⟩, ?_⟩)) rfl
        · rintro ⟨k24, v39⟩ ⟨hk, hH⟩
          replace hH : spec_SeedsFor_l2 v22 (skaters.drop k24) k24 v39 = some r := hH
          show AW _ _ _ (⟨[(6, .R 8), (9, .R 12), (37, .s (List.map encInt skaters)), (38, .v (.int .i64 (skaters.length : Int))), (39, .v (.int .i64 (k24 : Int)))], [(8, .row 1 (List.map encInt v22)), (12, .row 2 (List.map encEntrant v39))], 54, []⟩ : St)
          refine AW.boundM (t := 37) (l := skaters) rfl (fun hb28 => ?_)
          cases hd27 : skaters.drop k24 with
          | nil =>
            rw [hd27] at hH
            rw [spec_SeedsFor_l2] at hH
            have hlt29 := drop_ge hd27
            refine AW.seq ?_
            refine AW.region ?_
            refine AO.pure T rfl rfl rfl ?_
            refine AO.nil ?_
            refine AW.seq ?_
            refine AW.condF' (b := decide ((k24 : Int) < (skaters.length : Int))) rfl (rngF hlt29) ?_
            refine AW.exit ?_
            refine AW.seq ?_
            refine AW.region ?_
            refine AO.pure T rfl rfl rfl ?_
            refine AO.pure T rfl rfl rfl ?_
            refine AO.pure T rfl rfl rfl ?_
            refine AO.nil ?_
            refine AW.ret ?_
            cases someE hH
            exact ⟨trivial, _, [12], rfl, .t (expLG_cons (.c (.rowR rfl)) (expLG_cons (.c .v) (expLG_nil))), by decide⟩
          | cons y25 ys26 =>
            rw [hd27] at hH
            rw [spec_SeedsFor_l2] at hH
            have hlt29 := drop_lt hd27
            refine AW.seq ?_
            refine AW.region ?_
            refine AO.pure T rfl rfl rfl ?_
            refine AO.nil ?_
            refine AW.seq ?_
            refine AW.condT' (b := decide ((k24 : Int) < (skaters.length : Int))) rfl (rngT hlt29) ?_
            refine AW.skip ?_
            refine AW.seq ?_
            refine AW.block ?_
            refine AW.seq ?_
            refine AW.region ?_
            refine AO.val rfl rfl (ix_map_ok T rfl rfl rfl rfl rfl (getI_drop hd27) rfl) ?_
            refine AO.pure T rfl rfl rfl ?_
            refine AO.pure T rfl rfl rfl ?_
            refine AO.nil ?_
            obtain ⟨x41, hx42, hH⟩ := bindE hH
            obtain ⟨u43, hx44, hH⟩ := bindE hH
            refine AW.region ?_
            refine AO.pure T rfl rfl rfl ?_
            refine AO.pure T rfl rfl rfl ?_
            refine AO.pure T rfl rfl rfl ?_
            refine AO.pure T rfl rfl rfl ?_
            refine AO.val rfl rfl (callLV_ok rfl rfl rfl (es := [.s (List.map encInt v22), .v (.int .i64 y25)]) ⟨(.rowR rfl (.map fun y => .vs rfl)), .free rfl, trivial⟩ (spec_soPlace_ok _ _ _ (hx42)) (zfree_v _) rfl) ?_
            refine AO.val rfl rfl (arw_ok rfl rfl rfl rfl) ?_
            refine AO.pure T (d := .g [.v (.int .i64 y25), .v (.int .i64 (w64 (x41 + 1)))]) rfl rfl rfl ?_
            refine AO.step rfl (mk_map_ok T rfl 13 rfl rfl rfl rfl rfl (f := encEntrant) (l := [(Entrant.mk y25 (w64 (x41 + 1)))]) rfl rfl (fun _ => rfl) rfl rfl rfl rfl rfl) ?_
            refine AO.step rfl (app_rv_map T rfl 14 rfl rfl rfl rfl rfl (by decide) rfl rfl rfl rfl (fun _ => rfl) (needT (hx44)) rfl rfl) ?_
            refine AO.pure T rfl rfl rfl ?_
            refine AO.nil ?_
            refine AW.region ?_
            refine AO.val rfl rfl (ar_ok rfl rfl rfl rfl (inI_succ hlt29 hb28)) ?_
            refine AO.pure T rfl rfl rfl ?_
            refine AO.nil ?_
            refine ⟨(k24 + 1, (v39 ++ [(Entrant.mk y25 (w64 (x41 + 1)))])), ⟨Nat.succ_le_of_lt hlt29, (by rw [drop_succ_of hd27]; exact hH)⟩, (by have := hlt29; dsimp only; omega), ?_⟩
            exact Le.cut 14 12 rfl (by repeat' (first | exact trivial | refine ⟨⟨_, rfl, rfl⟩, ?_⟩)) (by repeat' (first | exact trivial | refine ⟨⟨_, rfl, rfl⟩, ?_⟩)) rfl
      | cons y8 ys9 =>
        rw [hd10] at hH
        rw [spec_SeedsFor_l1] at hH
        have hlt12 := drop_lt hd10
        refine AW.seq ?_
        refine AW.region ?_
        refine AO.pure T rfl rfl rfl ?_
        refine AO.nil ?_
        refine AW.seq ?_
        refine AW.condT' (b := decide ((k7 : Int) < (x5.length : Int))) rfl (rngT hlt12) ?_
        refine AW.skip ?_
        refine AW.seq ?_
        refine AW.block ?_
        refine AW.seq ?_
        refine AW.region ?_
        refine AO.val rfl rfl (ix_row_ok T rfl rfl rfl rfl rfl rfl (getI_drop hd10)) ?_
        refine AO.val rfl rfl (load_row_ok T rfl rfl rfl rfl (getI_get (getI_drop hd10)) rfl rfl rfl) ?_
        refine AO.step rfl (alloc_ok T rfl 15 rfl rfl rfl rfl rfl) ?_
        refine AO.step rfl (store_okE T rfl rfl rfl rfl rfl rfl rfl rfl rfl (ds' := [.v (.int .i64 y8.skater), .v (.int .i64 y8.total), .v (.int .i64 y8.place)]) rfl) ?_
        refine AO.nil ?_
        refine AW.seq ?_
        obtain ⟨x45, hx46, hH⟩ := bindE hH
        refine AW.region ?_
        refine AO.pure T rfl rfl rfl ?_
        refine AO.pure T rfl rfl rfl ?_
        refine AO.pure T rfl rfl rfl ?_
        refine AO.val rfl rfl (callV_ok rfl rfl rfl rfl (spec_l1Has_ok _ _ _ (hx46)) rfl) ?_
        refine AO.nil ?_
        refine AW.cond (b := x45) rfl (fun hc => ?_) (fun hc => ?_)
        · replace hH := condT hc hH
          obtain ⟨u47, hx48, hH⟩ := bindE hH
          refine AW.region ?_
          refine AO.pure T rfl rfl rfl ?_
          refine AO.pure T rfl rfl rfl ?_
          refine AO.pure T rfl rfl rfl ?_
          refine AO.step rfl (mk_map_ok T rfl 16 rfl rfl rfl rfl rfl (f := encInt) (l := [y8.skater]) rfl rfl (fun _ => rfl) rfl rfl rfl rfl rfl) ?_
          refine AO.step rfl (app_rv_map T rfl 17 rfl rfl rfl rfl rfl (by decide) rfl rfl rfl rfl (fun _ => rfl) (needT (hx48)) rfl rfl) ?_
          refine AO.pure T rfl rfl rfl ?_
          refine AO.nil ?_
          refine AW.region ?_
          refine AO.val rfl rfl (ar_ok rfl rfl rfl rfl (inI_succ hlt12 hb11)) ?_
          refine AO.pure T rfl rfl rfl ?_
          refine AO.nil ?_
          refine ⟨(k7 + 1, (v22 ++ [y8.skater])), ⟨Nat.succ_le_of_lt hlt12, (by rw [drop_succ_of hd10]; exact hH)⟩, (by have := hlt12; dsimp only; omega), ?_⟩
          exact Le.cut 17 8 rfl (by repeat' (first | exact trivial | refine ⟨⟨_, rfl, rfl⟩, ?_⟩)) (by repeat' (first | exact trivial | refine ⟨⟨_, rfl, rfl⟩, ?_⟩)) rfl
        · replace hH := condF hc hH
          refine AW.skip ?_
          refine AW.region ?_
          refine AO.val rfl rfl (ar_ok rfl rfl rfl rfl (inI_succ hlt12 hb11)) ?_
          refine AO.pure T rfl rfl rfl ?_
          refine AO.nil ?_
          refine ⟨(k7 + 1, v22), ⟨Nat.succ_le_of_lt hlt12, (by rw [drop_succ_of hd10]; exact hH)⟩, (by have := hlt12; dsimp only; omega), ?_⟩
          exact Le.cut 0 0 rfl (by repeat' (first | exact trivial | refine ⟨⟨_, rfl, rfl⟩, ?_⟩)) (by repeat' (first | exact trivial | refine ⟨⟨_, rfl, rfl⟩, ?_⟩)) rfl

def impl_within_p (n : Int) (low : Int) (high : Int) : Option Bool :=
  some (decide (n ≥ low) && decide (n ≤ high))
theorem impl_within_ok (n : Int) (low : Int) (high : Int) (r : Bool) (hH : impl_within_p n low high = some r) : SpecR Tryz.prog 65 [.v (.int .i64 n), .v (.int .i64 low), .v (.int .i64 high)] (.v (.bool r)) := by
  refine fn_ok T Tryz.func65 rfl (by decide) rfl ?_
  refine AW.seq ?_
  refine AW.region ?_
  refine AO.pure T rfl rfl rfl ?_
  refine AO.nil ?_
  refine AW.seq ?_
  refine AW.region ?_
  refine AO.pure T rfl rfl rfl ?_
  refine AO.pure T rfl rfl rfl ?_
  refine AO.pure T rfl rfl rfl ?_
  refine AO.pure T rfl rfl rfl ?_
  refine AO.pureG T [] rfl trivial rfl rfl ?_
  refine AO.pureG T [] rfl trivial rfl rfl ?_
  refine AO.pureG T [11, 12] rfl ⟨fun h => h, fun h => h, trivial⟩ rfl rfl ?_
  refine AO.val rfl rfl (pick_and rfl rfl rfl rfl) ?_
  refine AO.pure T rfl rfl rfl ?_
  refine AO.nil ?_
  refine AW.ret ?_
  cases someE hH
  exact ⟨trivial, _, [], rfl, .c (.c .v), by decide⟩

def impl_allWithin_l1 (low : Int) (high : Int) : List Int → Nat → Option Bool
  | [], k1 =>
    some true
  | y2 :: ys3, k1 =>
    (impl_within_p y2 low high).bind fun x12 =>
    cond (!x12)
      (some false)
      (impl_allWithin_l1 low high ys3 (k1 + 1))
def impl_allWithin_p (l : List Int) (low : Int) (high : Int) : Option Bool :=
  impl_allWithin_l1 low high l 0
theorem impl_allWithin_ok (l : List Int) (low : Int) (high : Int) (r : Bool) (hH : impl_allWithin_p l low high = some r) : SpecR Tryz.prog 66 [.s (List.map encInt l), .v (.int .i64 low), .v (.int .i64 high)] (.v (.bool r)) := by
  refine fn_ok T Tryz.func66 rfl (by decide) rfl ?_
  refine AW.seq ?_
  refine AW.region ?_
  refine AO.pure T rfl rfl rfl ?_
  refine AO.nil ?_
  refine AW.seq ?_
  refine AW.seq ?_
  refine AW.region ?_
  refine AO.pure T rfl rfl rfl ?_
  refine AO.val rfl rfl (len_map_ok T rfl rfl rfl) ?_
  refine AO.pure T rfl rfl rfl ?_
  refine AO.nil ?_
  refine AW.block ?_
  refine AW.loopS (fun s : Nat => (⟨[(1, .v (.int .i64 low)), (2, .v (.int .i64 high)), (9, .s (List.map encInt l)), (10, .v (.int .i64 (l.length : Int))), (11, .v (.int .i64 (s : Int)))], [], 21, []⟩ : St)) (fun s => s ≤ l.length ∧ impl_allWithin_l1 low high (l.drop s) s = some r) (fun s => l.length - s) 0 ⟨Nat.zero_le _, hH⟩ ?_ ?_
  · exact Le.cut 0 0 rfl (by repeat' (first | exact trivial | refine ⟨⟨_, rfl, rfl⟩, ?_⟩)) (by repeat' (first | exact trivial | refine ⟨⟨_, rfl, rfl⟩, ?_⟩)) rfl
  · rintro k1 ⟨hk, hH⟩
    replace hH : impl_allWithin_l1 low high (l.drop k1) k1 = some r := hH
    show AW _ _ _ (⟨[(1, .v (.int .i64 low)), (2, .v (.int .i64 high)), (9, .s (List.map encInt l)), (10, .v (.int .i64 (l.length : Int))), (11, .v (.int .i64 (k1 : Int)))], [], 21, []⟩ : St)
    refine AW.boundM (t := 9) (l := l) rfl (fun hb5 => ?_)
    cases hd4 : l.drop k1 with
    | nil =>
      rw [hd4] at hH
      rw [impl_allWithin_l1] at hH
      have hlt6 := drop_ge hd4
      refine AW.seq ?_
      refine AW.region ?_
      refine AO.pure T rfl rfl rfl ?_
      refine AO.nil ?_
      refine AW.seq ?_
      refine AW.condF' (b := decide ((k1 : Int) < (l.length : Int))) rfl (rngF hlt6) ?_
      refine AW.exit ?_
      refine AW.seq ?_
      refine AW.region ?_
      refine AO.pure T rfl rfl rfl ?_
      refine AO.nil ?_
      refine AW.ret ?_
      cases someE hH
      exact ⟨trivial, _, [], rfl, .c (.c .v), by decide⟩
    | cons y2 ys3 =>
      rw [hd4] at hH
      rw [impl_allWithin_l1] at hH
      have hlt6 := drop_lt hd4
      refine AW.seq ?_
      refine AW.region ?_
      refine AO.pure T rfl rfl rfl ?_
      refine AO.nil ?_
      refine AW.seq ?_
      refine AW.condT' (b := decide ((k1 : Int) < (l.length : Int))) rfl (rngT hlt6) ?_
      refine AW.skip ?_
      refine AW.seq ?_
      refine AW.block ?_
      refine AW.seq ?_
      refine AW.region ?_
      refine AO.val rfl rfl (ix_map_ok T rfl rfl rfl rfl rfl (getI_drop hd4) rfl) ?_
      refine AO.pure T rfl rfl rfl ?_
      refine AO.pure T rfl rfl rfl ?_
      refine AO.nil ?_
      refine AW.seq ?_
      obtain ⟨x12, hx13, hH⟩ := bindE hH
      refine AW.region ?_
      refine AO.pure T rfl rfl rfl ?_
      refine AO.pure T rfl rfl rfl ?_
      refine AO.pure T rfl rfl rfl ?_
      refine AO.val rfl rfl (callV_ok rfl rfl rfl rfl (impl_within_ok _ _ _ _ (hx13)) rfl) ?_
      refine AO.pure T rfl rfl rfl ?_
      refine AO.nil ?_
      refine AW.cond (b := (!x12)) rfl (fun hc => ?_) (fun hc => ?_)
      · replace hH := condT hc hH
        refine AW.seq ?_
        refine AW.region ?_
        refine AO.pure T rfl rfl rfl ?_
        refine AO.nil ?_
        refine AW.ret ?_
        cases someE hH
        exact ⟨trivial, _, [], rfl, .c (.c .v), by decide⟩
      · replace hH := condF hc hH
        refine AW.skip ?_
        refine AW.region ?_
        refine AO.val rfl rfl (ar_ok rfl rfl rfl rfl (inI_succ hlt6 hb5)) ?_
        refine AO.pure T rfl rfl rfl ?_
        refine AO.nil ?_
        refine ⟨k1 + 1, ⟨Nat.succ_le_of_lt hlt6, (by rw [drop_succ_of hd4]; exact hH)⟩, (by have := hlt6; dsimp only; omega), ?_⟩
        exact Le.cut 0 0 rfl (by repeat' (first | exact trivial | refine ⟨⟨_, rfl, rfl⟩, ?_⟩)) (by repeat' (first | exact trivial | refine ⟨⟨_, rfl, rfl⟩, ?_⟩)) rfl

def impl_isBest_p (best : Int) : Option Bool :=
  (impl_within_p best 1 9).bind fun x1 =>
  some x1
theorem impl_isBest_ok (best : Int) (r : Bool) (hH : impl_isBest_p best = some r) : SpecR Tryz.prog 87 [.v (.int .i64 best)] (.v (.bool r)) := by
  refine fn_ok T Tryz.func87 rfl (by decide) rfl ?_
  refine AW.seq ?_
  refine AW.region ?_
  refine AO.pure T rfl rfl rfl ?_
  refine AO.nil ?_
  refine AW.seq ?_
  obtain ⟨x1, hx2, hH⟩ := bindE hH
  refine AW.region ?_
  refine AO.pure T rfl rfl rfl ?_
  refine AO.val rfl rfl (callV_ok rfl rfl rfl rfl (impl_within_ok _ _ _ _ (hx2)) rfl) ?_
  refine AO.pure T rfl rfl rfl ?_
  refine AO.nil ?_
  refine AW.ret ?_
  cases someE hH
  exact ⟨trivial, _, [], rfl, .c (.c .v), by decide⟩

def impl_entriesOf_l2 (y2 : Line) : List Int → Nat → List Entry → Option (List Entry)
  | [], k119, v134 =>
    some v134
  | y120 :: ys121, k119, v134 =>
    (getI y2.points (k119 : Int)).bind fun x136 =>
    (need (fitsB 24 (v134.length + ([(Entry.mk y120 y2.skater x136)]).length))).bind fun u138 =>
    impl_entriesOf_l2 y2 ys121 (k119 + 1) (v134 ++ [(Entry.mk y120 y2.skater x136)])
def impl_entriesOf_l1 : List Line → Nat → List Entry → Option ((List Entry))
  | [], k1, v94 =>
    some v94
  | y2 :: ys3, k1, v94 =>
    (impl_entriesOf_l2 y2 y2.events 0 v94).bind fun v116 =>
    impl_entriesOf_l1 ys3 (k1 + 1) v116
def impl_entriesOf_p (sA : Season) : Option (List Entry) :=
  impl_entriesOf_l1 sA.lines 0 []
theorem impl_entriesOf_ok (sA : Season) (r : (List Entry)) (hH : impl_entriesOf_p sA = some r) : SpecR Tryz.prog 99 [.g (encSeason sA)] (.w 3 (r.map encEntry)) := by
  refine fn_ok T Tryz.func99 rfl (by decide) rfl ?_
  refine AW.seq ?_
  refine AW.region ?_
  refine AO.step rfl (box_ok T rfl 1 rfl rfl rfl rfl) ?_
  refine AO.pure T rfl rfl rfl ?_
  refine AO.nil ?_
  refine AW.seq ?_
  refine AW.region ?_
  refine AO.step rfl (mk0_ok T rfl rfl rfl rfl) ?_
  refine AO.pure T rfl rfl rfl ?_
  refine AO.nil ?_
  refine AW.seq ?_
  refine AW.seq ?_
  refine AW.region ?_
  refine AO.pure T rfl rfl rfl ?_
  refine AO.pure T rfl rfl rfl ?_
  refine AO.val rfl rfl (len_map_ok T rfl rfl rfl) ?_
  refine AO.pure T rfl rfl rfl ?_
  refine AO.nil ?_
  refine AW.block ?_
  refine AW.loopS (fun s : Nat × (List Entry) => (⟨[(3, .R 6), (10, .s (List.map encLine sA.lines)), (11, .v (.int .i64 (sA.lines.length : Int))), (12, .v (.int .i64 (s.1 : Int)))], [(6, .row 3 (List.map encEntry s.2))], 39, []⟩ : St)) (fun s => s.1 ≤ sA.lines.length ∧ impl_entriesOf_l1 (sA.lines.drop s.1) s.1 s.2 = some r) (fun s => sA.lines.length - s.1) (0, []) ⟨Nat.zero_le _, hH⟩ ?_ ?_
  · refine Le.trans (Le.void 3 6 3 rfl rfl) ?_
    exact Le.cut 0 0 rfl (by repeat' (first | exact trivial | refine ⟨⟨_, rfl, rfl⟩, ?_⟩)) (by repeat' (first | exact trivial | refine ⟨⟨_, rfl, rfl⟩, ?_⟩)) rfl
  · rintro ⟨k1, v94⟩ ⟨hk, hH⟩
    replace hH : impl_entriesOf_l1 (sA.lines.drop k1) k1 v94 = some r := hH
    show AW _ _ _ (⟨[(3, .R 6), (10, .s (List.map encLine sA.lines)), (11, .v (.int .i64 (sA.lines.length : Int))), (12, .v (.int .i64 (k1 : Int)))], [(6, .row 3 (List.map encEntry v94))], 39, []⟩ : St)
    refine AW.boundM (t := 10) (l := sA.lines) rfl (fun hb5 => ?_)
    cases hd4 : sA.lines.drop k1 with
    | nil =>
      rw [hd4] at hH
      rw [impl_entriesOf_l1] at hH
      have hlt6 := drop_ge hd4
      refine AW.seq ?_
      refine AW.region ?_
      refine AO.pure T rfl rfl rfl ?_
      refine AO.nil ?_
      refine AW.seq ?_
      refine AW.condF' (b := decide ((k1 : Int) < (sA.lines.length : Int))) rfl (rngF hlt6) ?_
      refine AW.exit ?_
      refine AW.seq ?_
      refine AW.region ?_
      refine AO.pure T rfl rfl rfl ?_
      refine AO.pure T rfl rfl rfl ?_
      refine AO.nil ?_
      refine AW.ret ?_
      cases someE hH
      exact ⟨trivial, _, [6], rfl, .c (.c (.rowR rfl)), by decide⟩
    | cons y2 ys3 =>
      rw [hd4] at hH
      rw [impl_entriesOf_l1] at hH
      have hlt6 := drop_lt hd4
      refine AW.seq ?_
      refine AW.region ?_
      refine AO.pure T rfl rfl rfl ?_
      refine AO.nil ?_
      refine AW.seq ?_
      refine AW.condT' (b := decide ((k1 : Int) < (sA.lines.length : Int))) rfl (rngT hlt6) ?_
      refine AW.skip ?_
      obtain ⟨o117, hH, hK118⟩ := bindE hH
      refine AW.seqJ (fun s : List Entry => (⟨[(3, .R 6), (10, .s (List.map encLine sA.lines)), (11, .v (.int .i64 (sA.lines.length : Int))), (12, .v (.int .i64 (k1 : Int)))], [(6, .row 3 (List.map encEntry s))], 39, []⟩ : St)) (fun s => s = o117) ?_ ?_
      · refine AW.block ?_
        refine AW.seq ?_
        refine AW.region ?_
        refine AO.val rfl rfl (ix_map_ok T rfl rfl rfl rfl rfl (getI_drop hd4) rfl) ?_
        refine AO.pure T (d := .g [.v (.int .i64 y2.skater), .s (List.map encInt y2.events), .s (List.map encInt y2.points)]) rfl rfl rfl ?_
        refine AO.step rfl (alloc_ok T rfl 37 rfl rfl rfl rfl rfl) ?_
        refine AO.step rfl (store_okE T rfl rfl rfl rfl rfl rfl rfl rfl rfl (ds' := [.v (.int .i64 y2.skater), .s (List.map encInt y2.events), .s (List.map encInt y2.points)]) rfl) ?_
        refine AO.nil ?_
        refine AW.seq ?_
        refine AW.region ?_
        refine AO.pure T rfl rfl rfl ?_
        refine AO.pure T rfl rfl rfl ?_
        refine AO.val rfl rfl (len_map_ok T rfl rfl rfl) ?_
        refine AO.pure T rfl rfl rfl ?_
        refine AO.nil ?_
        refine AW.block ?_
        refine AW.loopS (fun s : Nat × (List Entry) => (⟨[(3, .R 6), (5, .p 37 0), (10, .s (List.map encLine sA.lines)), (11, .v (.int .i64 (sA.lines.length : Int))), (12, .v (.int .i64 (k1 : Int))), (17, .s (List.map encInt y2.events)), (18, .v (.int .i64 (y2.events.length : Int))), (19, .v (.int .i64 (s.1 : Int)))], [(6, .row 3 (List.map encEntry s.2)), (37, .box [.v (.int .i64 y2.skater), .s (List.map encInt y2.events), .s (List.map encInt y2.points)])], 39, []⟩ : St)) (fun s => s.1 ≤ y2.events.length ∧ impl_entriesOf_l2 y2 (y2.events.drop s.1) s.1 s.2 = some o117) (fun s => y2.events.length - s.1) (0, v94) ⟨Nat.zero_le _, hH⟩ ?_ ?_
        · exact Le.cut 0 0 rfl (by repeat' (first | exact trivial | refine ⟨⟨_, rfl, rfl⟩, ?_⟩)) (by repeat' (first | exact trivial | refine ⟨⟨_, rfl, rfl⟩, ?_⟩)) rfl
        · rintro ⟨k119, v134⟩ ⟨hk, hH⟩
          replace hH : impl_entriesOf_l2 y2 (y2.events.drop k119) k119 v134 = some o117 := hH
          show AW _ _ _ (⟨[(3, .R 6), (5, .p 37 0), (10, .s (List.map encLine sA.lines)), (11, .v (.int .i64 (sA.lines.length : Int))), (12, .v (.int .i64 (k1 : Int))), (17, .s (List.map encInt y2.events)), (18, .v (.int .i64 (y2.events.length : Int))), (19, .v (.int .i64 (k119 : Int)))], [(6, .row 3 (List.map encEntry v134)), (37, .box [.v (.int .i64 y2.skater), .s (List.map encInt y2.events), .s (List.map encInt y2.points)])], 39, []⟩ : St)
          refine AW.boundM (t := 17) (l := y2.events) rfl (fun hb123 => ?_)
          cases hd122 : y2.events.drop k119 with
          | nil =>
            rw [hd122] at hH
            rw [impl_entriesOf_l2] at hH
            have hlt124 := drop_ge hd122
            refine AW.seq ?_
            refine AW.region ?_
            refine AO.pure T rfl rfl rfl ?_
            refine AO.nil ?_
            refine AW.seq ?_
            refine AW.condF' (b := decide ((k119 : Int) < (y2.events.length : Int))) rfl (rngF hlt124) ?_
            refine AW.exit ?_
            refine ⟨_, someE hH, ?_⟩
            exact Le.cut 0 0 rfl (by repeat' (first | exact trivial | refine ⟨⟨_, rfl, rfl⟩, ?_⟩)) (by repeat' (first | exact trivial | refine ⟨⟨_, rfl, rfl⟩, ?_⟩)) rfl
          | cons y120 ys121 =>
            rw [hd122] at hH
            rw [impl_entriesOf_l2] at hH
            have hlt124 := drop_lt hd122
            refine AW.seq ?_
            refine AW.region ?_
            refine AO.pure T rfl rfl rfl ?_
            refine AO.nil ?_
            refine AW.seq ?_
            refine AW.condT' (b := decide ((k119 : Int) < (y2.events.length : Int))) rfl (rngT hlt124) ?_
            refine AW.skip ?_
            refine AW.seq ?_
            refine AW.block ?_
            refine AW.seq ?_
            refine AW.region ?_
            refine AO.pure T rfl rfl rfl ?_
            refine AO.val rfl rfl (ix_map_ok T rfl rfl rfl rfl rfl (getI_drop hd122) rfl) ?_
            refine AO.pure T rfl rfl rfl ?_
            refine AO.pure T rfl rfl rfl ?_
            refine AO.pure T rfl rfl rfl ?_
            refine AO.nil ?_
            obtain ⟨x136, hx137, hH⟩ := bindE hH
            obtain ⟨u138, hx139, hH⟩ := bindE hH
            refine AW.drawn 11 42 [] mix (by kernel_rfl) rfl ?_
            refine AD.pure T rfl rfl rfl ?_
            refine AD.pure T rfl rfl rfl ?_
            refine AD.pure T rfl rfl rfl ?_
            refine AD.pure T rfl rfl rfl ?_
            refine AD.pure T rfl rfl rfl ?_
            refine AD.pure T rfl rfl rfl ?_
            refine AD.pure T rfl rfl rfl ?_
            refine AD.val rfl rfl (ix_map_ok T rfl rfl rfl rfl rfl (hx137) rfl) ?_
            refine AD.pure T rfl rfl rfl ?_
            refine AD.pure T (d := .g [.v (.int .i64 y120), .v (.int .i64 y2.skater), .v (.int .i64 x136)]) rfl rfl rfl ?_
            refine AD.q (FStep.mk T (f := encEntry) (l := [(Entry.mk y120 y2.skater x136)]) rfl rfl rfl rfl rfl rfl rfl rfl rfl (fun _ => rfl) rfl rfl rfl rfl) (by simp [namesIn]) (Nat.le_succ _) rfl ?_
            refine AD.nil ?_
            refine AO.step rfl (app_rv_map T rfl 43 rfl rfl rfl rfl rfl (by decide) rfl rfl rfl rfl (fun _ => rfl) (needT (hx139)) rfl rfl) ?_
            refine AO.pure T rfl rfl rfl ?_
            refine AO.nil ?_
            refine AW.region ?_
            refine AO.val rfl rfl (ar_ok rfl rfl rfl rfl (inI_succ hlt124 hb123)) ?_
            refine AO.pure T rfl rfl rfl ?_
            refine AO.nil ?_
            refine ⟨(k119 + 1, (v134 ++ [(Entry.mk y120 y2.skater x136)])), ⟨Nat.succ_le_of_lt hlt124, (by rw [drop_succ_of hd122]; exact hH)⟩, (by have := hlt124; dsimp only; omega), ?_⟩
            exact Le.cut 43 6 rfl (by repeat' (first | exact trivial | refine ⟨⟨_, rfl, rfl⟩, ?_⟩)) (by repeat' (first | exact trivial | refine ⟨⟨_, rfl, rfl⟩, ?_⟩)) rfl
      · rintro v116 hs
        subst hs
        replace hH := hK118
        try dsimp only [flow, flowE] at hH
        show AW _ _ _ (⟨[(3, .R 6), (10, .s (List.map encLine sA.lines)), (11, .v (.int .i64 (sA.lines.length : Int))), (12, .v (.int .i64 (k1 : Int)))], [(6, .row 3 (List.map encEntry v116))], 39, []⟩ : St)
        refine AW.region ?_
        refine AO.val rfl rfl (ar_ok rfl rfl rfl rfl (inI_succ hlt6 hb5)) ?_
        refine AO.pure T rfl rfl rfl ?_
        refine AO.nil ?_
        refine ⟨(k1 + 1, v116), ⟨Nat.succ_le_of_lt hlt6, (by rw [drop_succ_of hd4]; exact hH)⟩, (by have := hlt6; dsimp only; omega), ?_⟩
        exact Le.cut 0 0 rfl (by repeat' (first | exact trivial | refine ⟨⟨_, rfl, rfl⟩, ?_⟩)) (by repeat' (first | exact trivial | refine ⟨⟨_, rfl, rfl⟩, ?_⟩)) rfl

def impl_isEvent_p (event : Int) : Option Bool :=
  (impl_within_p event 1 99).bind fun x1 =>
  some x1
theorem impl_isEvent_ok (event : Int) (r : Bool) (hH : impl_isEvent_p event = some r) : SpecR Tryz.prog 122 [.v (.int .i64 event)] (.v (.bool r)) := by
  refine fn_ok T Tryz.func122 rfl (by decide) rfl ?_
  refine AW.seq ?_
  refine AW.region ?_
  refine AO.pure T rfl rfl rfl ?_
  refine AO.nil ?_
  refine AW.seq ?_
  obtain ⟨x1, hx2, hH⟩ := bindE hH
  refine AW.region ?_
  refine AO.pure T rfl rfl rfl ?_
  refine AO.val rfl rfl (callV_ok rfl rfl rfl rfl (impl_within_ok _ _ _ _ (hx2)) rfl) ?_
  refine AO.pure T rfl rfl rfl ?_
  refine AO.nil ?_
  refine AW.ret ?_
  cases someE hH
  exact ⟨trivial, _, [], rfl, .c (.c .v), by decide⟩

def impl_isSkater_p (skater : Int) : Option Bool :=
  (impl_within_p skater 1 999).bind fun x1 =>
  some x1
theorem impl_isSkater_ok (skater : Int) (r : Bool) (hH : impl_isSkater_p skater = some r) : SpecR Tryz.prog 68 [.v (.int .i64 skater)] (.v (.bool r)) := by
  refine fn_ok T Tryz.func68 rfl (by decide) rfl ?_
  refine AW.seq ?_
  refine AW.region ?_
  refine AO.pure T rfl rfl rfl ?_
  refine AO.nil ?_
  refine AW.seq ?_
  obtain ⟨x1, hx2, hH⟩ := bindE hH
  refine AW.region ?_
  refine AO.pure T rfl rfl rfl ?_
  refine AO.val rfl rfl (callV_ok rfl rfl rfl rfl (impl_within_ok _ _ _ _ (hx2)) rfl) ?_
  refine AO.pure T rfl rfl rfl ?_
  refine AO.nil ?_
  refine AW.ret ?_
  cases someE hH
  exact ⟨trivial, _, [], rfl, .c (.c .v), by decide⟩

end Go.Proofs.YtekdnjnefbkikaaGreat

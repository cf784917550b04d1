/- The walk, part 1: what each function reached by the law FnExactStandingsOf computes. No condition. -/
import Derived.Test.YtioegmjleofmeaaGreatAm6
import Derived.Test.YtioegmjleofmeaaGreatShelf
import Derived.Test.YtioegmjleofmeaaGreatProg
set_option maxRecDepth 4000
set_option maxHeartbeats 1000000
set_option linter.unusedVariables false
set_option linter.unusedSimpArgs false
set_option linter.unusedSectionVars false

namespace Go.Proofs.YtioegmjleofmeaaGreat
open Go.AM
def teL : List (Option TI) := [
  none,
  none,
  some ⟨.int .i64, 1, 8, some (.int .i64 0)⟩,
  some ⟨.int .i64, 1, 8, some (.int .i64 0)⟩,
  some ⟨.bool, 1, 1, some (.bool false)⟩,
  some ⟨.int .u8, 1, 1, some (.int .u8 0)⟩,
  some ⟨.int .u8, 1, 1, some (.int .u8 0)⟩,
  some ⟨.struct [(0, 2), (1, 3), (2, 4), (3, 6)], 4, 24, some (.agg #[.int .i64 0, .int .i64 0, .bool false, .int .u8 0])⟩,
  some ⟨.struct [(0, 2), (1, 3), (2, 4), (3, 6)], 4, 24, some (.agg #[.int .i64 0, .int .i64 0, .bool false, .int .u8 0])⟩,
  some ⟨.str, 1, 16, some (.string ⟨#[]⟩)⟩,
  some ⟨.str, 1, 16, some (.string ⟨#[]⟩)⟩,
  some ⟨.str, 1, 16, some (.string ⟨#[]⟩)⟩,
  some ⟨.int .u64, 1, 8, some (.int .u64 0)⟩,
  some ⟨.struct [(0, 9), (1, 12)], 2, 24, some (.agg #[.string ⟨#[]⟩, .int .u64 0])⟩,
  some ⟨.struct [(0, 9), (1, 12)], 2, 24, some (.agg #[.string ⟨#[]⟩, .int .u64 0])⟩,
  some ⟨.ptr 146, 1, 8, some (.pointer none)⟩,
  some ⟨.ptr 149, 1, 8, some (.pointer none)⟩,
  some ⟨.ptr 158, 1, 8, some (.pointer none)⟩,
  some ⟨.struct [(0, 17)], 1, 8, some (.agg #[.pointer none])⟩,
  some ⟨.struct [(0, 17)], 1, 8, some (.agg #[.pointer none])⟩,
  none,
  some ⟨.int .i32, 1, 4, some (.int .i32 0)⟩,
  some ⟨.slice 28, 1, 24, some (.slice none 0 0)⟩,
  some ⟨.slice 3, 1, 24, some (.slice none 0 0)⟩,
  some ⟨.slice 74, 1, 24, some (.slice none 0 0)⟩,
  some ⟨.struct [(0, 3), (1, 3), (2, 3), (3, 22), (4, 23), (5, 3), (6, 23), (7, 24)], 8, 128, some (.agg #[.int .i64 0, .int .i64 0, .int .i64 0, .slice none 0 0, .slice none 0 0, .int .i64 0, .slice none 0 0, .slice none 0 0])⟩,
  some ⟨.struct [(0, 3), (1, 3), (2, 3), (3, 22), (4, 23), (5, 3), (6, 23), (7, 24)], 8, 128, some (.agg #[.int .i64 0, .int .i64 0, .int .i64 0, .slice none 0 0, .slice none 0 0, .int .i64 0, .slice none 0 0, .slice none 0 0])⟩,
  some ⟨.struct [(0, 3), (1, 3)], 2, 16, some (.agg #[.int .i64 0, .int .i64 0])⟩,
  some ⟨.struct [(0, 3), (1, 3)], 2, 16, some (.agg #[.int .i64 0, .int .i64 0])⟩,
  none,
  some ⟨.slice 37, 1, 24, some (.slice none 0 0)⟩,
  some ⟨.slice 61, 1, 24, some (.slice none 0 0)⟩,
  some ⟨.struct [(0, 3), (1, 3), (2, 3), (3, 30), (4, 23), (5, 3), (6, 23), (7, 31)], 8, 128, some (.agg #[.int .i64 0, .int .i64 0, .int .i64 0, .slice none 0 0, .slice none 0 0, .int .i64 0, .slice none 0 0, .slice none 0 0])⟩,
  some ⟨.struct [(0, 3), (1, 3), (2, 3), (3, 30), (4, 23), (5, 3), (6, 23), (7, 31)], 8, 128, some (.agg #[.int .i64 0, .int .i64 0, .int .i64 0, .slice none 0 0, .slice none 0 0, .int .i64 0, .slice none 0 0, .slice none 0 0])⟩,
  none,
  none,
  none,
  some ⟨.struct [(0, 3), (1, 3)], 2, 16, some (.agg #[.int .i64 0, .int .i64 0])⟩,
  none,
  none,
  none,
  none,
  none,
  none,
  none,
  none,
  none,
  none,
  none,
  none,
  none,
  none,
  some ⟨.struct [(0, 3), (1, 3), (2, 3)], 3, 24, some (.agg #[.int .i64 0, .int .i64 0, .int .i64 0])⟩,
  some ⟨.struct [(0, 3), (1, 3), (2, 3)], 3, 24, some (.agg #[.int .i64 0, .int .i64 0, .int .i64 0])⟩,
  none,
  none,
  none,
  none,
  none,
  none,
  some ⟨.struct [(0, 3), (1, 23)], 2, 32, some (.agg #[.int .i64 0, .slice none 0 0])⟩,
  some ⟨.struct [(0, 3), (1, 23)], 2, 32, some (.agg #[.int .i64 0, .slice none 0 0])⟩,
  none,
  none,
  none,
  none,
  none,
  none,
  none,
  none,
  none,
  none,
  none,
  none,
  some ⟨.struct [(0, 3), (1, 23)], 2, 32, some (.agg #[.int .i64 0, .slice none 0 0])⟩,
  none,
  none,
  none,
  none,
  none,
  none,
  none,
  none,
  none,
  some ⟨.int .u64, 1, 8, some (.int .u64 0)⟩,
  none,
  none,
  none,
  none,
  none,
  none,
  none,
  none,
  none,
  none,
  some ⟨.int .i64, 1, 8, some (.int .i64 0)⟩,
  none,
  none,
  none,
  none,
  none,
  none,
  none,
  none,
  some ⟨.int .u32, 1, 4, some (.int .u32 0)⟩,
  none,
  some ⟨.int .u64, 1, 8, some (.int .u64 0)⟩,
  none,
  none,
  none,
  none,
  none,
  none,
  none,
  none,
  none,
  none,
  none,
  none,
  none,
  some ⟨.int .u64, 1, 8, some (.int .u64 0)⟩,
  none,
  none,
  none,
  some ⟨.ptr 3, 1, 8, some (.pointer none)⟩,
  none,
  none,
  none,
  none,
  none,
  none,
  none,
  some ⟨.slice 23, 1, 24, some (.slice none 0 0)⟩,
  none,
  none,
  none,
  some ⟨.ptr 120, 1, 8, some (.pointer none)⟩,
  none,
  none,
  none,
  none,
  none,
  none,
  none,
  none,
  some ⟨.struct [(0, 17), (1, 17), (2, 17), (3, 9)], 4, 40, some (.agg #[.pointer none, .pointer none, .pointer none, .string ⟨#[]⟩])⟩,
  some ⟨.struct [(0, 17), (1, 17), (2, 17), (3, 9)], 4, 40, some (.agg #[.pointer none, .pointer none, .pointer none, .string ⟨#[]⟩])⟩,
  some ⟨.array 0 16, 0, 0, some (.agg #[])⟩,
  some ⟨.struct [(0, 147)], 0, 0, some (.agg #[])⟩,
  some ⟨.struct [(0, 147)], 0, 0, some (.agg #[])⟩,
  none,
  some ⟨.int .u8, 1, 1, some (.int .u8 0)⟩,
  some ⟨.int .u8, 1, 1, some (.int .u8 0)⟩,
  none,
  some ⟨.ptr 5, 1, 8, some (.pointer none)⟩,
  some ⟨.int .i32, 1, 4, some (.int .i32 0)⟩,
  some ⟨.int .i32, 1, 4, some (.int .i32 0)⟩,
  some ⟨.struct [(0, 12), (1, 12), (2, 104), (3, 151), (4, 5), (5, 5), (6, 152), (7, 153), (8, 154), (9, 155), (10, 156)], 11, 48, some (.agg #[.int .u64 0, .int .u64 0, .int .u32 0, .int .u8 0, .int .u8 0, .int .u8 0, .int .u8 0, .nilFunc, .pointer none, .int .i32 0, .int .i32 0])⟩,
  some ⟨.struct [(0, 12), (1, 12), (2, 104), (3, 151), (4, 5), (5, 5), (6, 152), (7, 153), (8, 154), (9, 155), (10, 156)], 11, 48, some (.agg #[.int .u64 0, .int .u64 0, .int .u32 0, .int .u8 0, .int .u8 0, .int .u8 0, .int .u8 0, .nilFunc, .pointer none, .int .i32 0, .int .i32 0])⟩,
  none]
def te : TE := teOf teL
theorem T : TEok Tryz.prog te := TEok_of (by kernel_rfl)
theorem mix : Tryz.prog.follows .mixedOrders = true := by kernel_rfl

def encInt (x : Int) : List D := [.v (.int .i64 x)]
def encBool (x : Bool) : List D := [.v (.bool x)]
def encStr (x : ByteArray) : List D := [.v (.string x)]
def encInt_u8 (x : Int) : List D := [.v (.int .u8 x)]
def encInt_u64 (x : Int) : List D := [.v (.int .u64 x)]
def encInt_i32 (x : Int) : List D := [.v (.int .i32 x)]
def encLInt (x : List Int) : List D := [.s (x.map encInt)]
def encLIntO (x : List Int) : List D := [.w 1 (x.map encInt)]
theorem frzLInt (x : List Int) : FrzL (encLIntO x) (encLInt x) := .cons (.map fun y => .vs rfl) .nil
structure Entrant where
  skater : Int
  rank : Int
  deriving Inhabited, DecidableEq
def encEntrant (x : Entrant) : List D := [.v (.int .i64 x.skater), .v (.int .i64 x.rank)]
structure Result where
  skater : Int
  scores : List Int
  deriving Inhabited, DecidableEq
def encResult (x : Result) : List D := [.v (.int .i64 x.skater), .s (x.scores.map encInt)]
def encResultO (x : Result) : List D := [.v (.int .i64 x.skater), .w 1 (x.scores.map encInt)]
theorem frzResult (x : Result) : FrzL (encResultO x) (encResult x) := .cons (.vs rfl) (.cons (.map fun y => .vs rfl) (.nil))
structure Event where
  segments : Int
  size : Int
  key : Int
  entrants : List Entrant
  gone : List Int
  segment : Int
  order : List Int
  results : List Result
  deriving Inhabited, DecidableEq
def encEvent (x : Event) : List D := [.v (.int .i64 x.segments), .v (.int .i64 x.size), .v (.int .i64 x.key), .s (x.entrants.map encEntrant), .s (x.gone.map encInt), .v (.int .i64 x.segment), .s (x.order.map encInt), .s (x.results.map encResult)]
def encEventO (x : Event) : List D := [.v (.int .i64 x.segments), .v (.int .i64 x.size), .v (.int .i64 x.key), .w 2 (x.entrants.map encEntrant), .w 1 (x.gone.map encInt), .v (.int .i64 x.segment), .w 1 (x.order.map encInt), .w 2 (x.results.map encResultO)]
theorem frzEvent (x : Event) : FrzL (encEventO x) (encEvent x) := .cons (.vs rfl) (.cons (.vs rfl) (.cons (.vs rfl) (.cons (.map fun y => .vs rfl) (.cons (.map fun y => .vs rfl) (.cons (.vs rfl) (.cons (.map fun y => .vs rfl) (.cons (.map fun y => frzResult y) (.nil))))))))

def laws_szEntrantS_p (a : List Entrant) (left : Int) : Option Int :=
  cond (decide ((w64 (left - (a.length : Int))) < 0))
    (some (-1))
    (some (w64 (left - (a.length : Int))))
theorem laws_szEntrantS_ok (a : List Entrant) (left : Int) (r : Int) (hH : laws_szEntrantS_p a left = some r) : SpecR Tryz.prog 24 [.s (List.map encEntrant a), .v (.int .i64 left)] (.v (.int .i64 r)) := by
  refine fn_ok T Tryz.func24 rfl (by decide) rfl ?_
  refine AW.seq ?_
  refine AW.region ?_
  refine AO.pure T rfl rfl rfl ?_
  refine AO.nil ?_
  refine AW.seq ?_
  refine AW.region ?_
  refine AO.pure T rfl rfl rfl ?_
  refine AO.pure T rfl rfl rfl ?_
  refine AO.val rfl rfl (len_map_ok T rfl rfl rfl) ?_
  refine AO.val rfl rfl (arw_ok rfl rfl rfl rfl) ?_
  refine AO.pure T rfl rfl rfl ?_
  refine AO.nil ?_
  refine AW.seq ?_
  refine AW.seq ?_
  refine AW.region ?_
  refine AO.pure T rfl rfl rfl ?_
  refine AO.pure T rfl rfl rfl ?_
  refine AO.nil ?_
  refine AW.cond (b := decide ((w64 (left - (a.length : Int))) < 0)) rfl (fun hc => ?_) (fun hc => ?_)
  · replace hH := condT hc hH
    refine AW.seq ?_
    refine AW.region ?_
    refine AO.pure T rfl rfl rfl ?_
    refine AO.nil ?_
    refine AW.ret ?_
    cases someE hH
    exact ⟨trivial, _, [], rfl, .c (.c .v), by decide⟩
  · replace hH := condF hc hH
    refine AW.skip ?_
    refine AW.seq ?_
    refine AW.region ?_
    refine AO.pure T rfl rfl rfl ?_
    refine AO.pure T rfl rfl rfl ?_
    refine AO.nil ?_
    refine AW.ret ?_
    cases someE hH
    exact ⟨trivial, _, [], rfl, .c (.c .v), by decide⟩

def laws_szIntS_p (a : List Int) (left : Int) : Option Int :=
  cond (decide ((w64 (left - (a.length : Int))) < 0))
    (some (-1))
    (some (w64 (left - (a.length : Int))))
theorem laws_szIntS_ok (a : List Int) (left : Int) (r : Int) (hH : laws_szIntS_p a left = some r) : SpecR Tryz.prog 25 [.s (List.map encInt a), .v (.int .i64 left)] (.v (.int .i64 r)) := by
  refine fn_ok T Tryz.func25 rfl (by decide) rfl ?_
  refine AW.seq ?_
  refine AW.region ?_
  refine AO.pure T rfl rfl rfl ?_
  refine AO.nil ?_
  refine AW.seq ?_
  refine AW.region ?_
  refine AO.pure T rfl rfl rfl ?_
  refine AO.pure T rfl rfl rfl ?_
  refine AO.val rfl rfl (len_map_ok T rfl rfl rfl) ?_
  refine AO.val rfl rfl (arw_ok rfl rfl rfl rfl) ?_
  refine AO.pure T rfl rfl rfl ?_
  refine AO.nil ?_
  refine AW.seq ?_
  refine AW.seq ?_
  refine AW.region ?_
  refine AO.pure T rfl rfl rfl ?_
  refine AO.pure T rfl rfl rfl ?_
  refine AO.nil ?_
  refine AW.cond (b := decide ((w64 (left - (a.length : Int))) < 0)) rfl (fun hc => ?_) (fun hc => ?_)
  · replace hH := condT hc hH
    refine AW.seq ?_
    refine AW.region ?_
    refine AO.pure T rfl rfl rfl ?_
    refine AO.nil ?_
    refine AW.ret ?_
    cases someE hH
    exact ⟨trivial, _, [], rfl, .c (.c .v), by decide⟩
  · replace hH := condF hc hH
    refine AW.skip ?_
    refine AW.seq ?_
    refine AW.region ?_
    refine AO.pure T rfl rfl rfl ?_
    refine AO.pure T rfl rfl rfl ?_
    refine AO.nil ?_
    refine AW.ret ?_
    cases someE hH
    exact ⟨trivial, _, [], rfl, .c (.c .v), by decide⟩

def laws_szResult_p (a : Result) (left : Int) : Option Int :=
  (laws_szIntS_p a.scores left).bind fun x1 =>
  cond (decide (x1 < 0))
    (some (-1))
    (some x1)
theorem laws_szResult_ok (a : Result) (left : Int) (r : Int) (hH : laws_szResult_p a left = some r) : SpecR Tryz.prog 54 [.g (encResult a), .v (.int .i64 left)] (.v (.int .i64 r)) := by
  refine fn_ok T Tryz.func54 rfl (by decide) rfl ?_
  refine AW.seq ?_
  refine AW.region ?_
  refine AO.step rfl (box_ok T rfl 1 rfl rfl rfl rfl) ?_
  refine AO.pure T rfl rfl rfl ?_
  refine AO.nil ?_
  refine AW.seq ?_
  obtain ⟨x1, hx2, hH⟩ := bindE hH
  refine AW.region ?_
  refine AO.pure T rfl rfl rfl ?_
  refine AO.pure T rfl rfl rfl ?_
  refine AO.pure T rfl rfl rfl ?_
  refine AO.val rfl rfl (callV_ok rfl rfl rfl rfl (laws_szIntS_ok _ _ _ (hx2)) rfl) ?_
  refine AO.pure T rfl rfl rfl ?_
  refine AO.nil ?_
  refine AW.seq ?_
  refine AW.seq ?_
  refine AW.region ?_
  refine AO.pure T rfl rfl rfl ?_
  refine AO.pure T rfl rfl rfl ?_
  refine AO.nil ?_
  refine AW.cond (b := decide (x1 < 0)) rfl (fun hc => ?_) (fun hc => ?_)
  · replace hH := condT hc hH
    refine AW.seq ?_
    refine AW.region ?_
    refine AO.pure T rfl rfl rfl ?_
    refine AO.nil ?_
    refine AW.ret ?_
    cases someE hH
    exact ⟨trivial, _, [], rfl, .c (.c .v), by decide⟩
  · replace hH := condF hc hH
    refine AW.skip ?_
    refine AW.seq ?_
    refine AW.region ?_
    refine AO.pure T rfl rfl rfl ?_
    refine AO.pure T rfl rfl rfl ?_
    refine AO.nil ?_
    refine AW.ret ?_
    cases someE hH
    exact ⟨trivial, _, [], rfl, .c (.c .v), by decide⟩

def laws_szResultS_l1 : List Result → Nat → Int → Option Int
  | [], k1, v12 =>
    some v12
  | y2 :: ys3, k1, v12 =>
    (laws_szResult_p y2 v12).bind fun x14 =>
    cond (decide (x14 < 0))
      (some (-1))
      (laws_szResultS_l1 ys3 (k1 + 1) x14)
def laws_szResultS_p (a : List Result) (left : Int) : Option Int :=
  cond (decide ((w64 (left - (a.length : Int))) < 0))
    (some (-1))
    (laws_szResultS_l1 a 0 (w64 (left - (a.length : Int))))
theorem laws_szResultS_ok (a : List Result) (left : Int) (r : Int) (hH : laws_szResultS_p a left = some r) : SpecR Tryz.prog 26 [.s (List.map encResult a), .v (.int .i64 left)] (.v (.int .i64 r)) := by
  refine fn_ok T Tryz.func26 rfl (by decide) rfl ?_
  refine AW.seq ?_
  refine AW.region ?_
  refine AO.pure T rfl rfl rfl ?_
  refine AO.nil ?_
  refine AW.seq ?_
  refine AW.region ?_
  refine AO.pure T rfl rfl rfl ?_
  refine AO.pure T rfl rfl rfl ?_
  refine AO.val rfl rfl (len_map_ok T rfl rfl rfl) ?_
  refine AO.val rfl rfl (arw_ok rfl rfl rfl rfl) ?_
  refine AO.pure T rfl rfl rfl ?_
  refine AO.nil ?_
  refine AW.seq ?_
  refine AW.seq ?_
  refine AW.region ?_
  refine AO.pure T rfl rfl rfl ?_
  refine AO.pure T rfl rfl rfl ?_
  refine AO.nil ?_
  refine AW.cond (b := decide ((w64 (left - (a.length : Int))) < 0)) rfl (fun hc => ?_) (fun hc => ?_)
  · replace hH := condT hc hH
    refine AW.seq ?_
    refine AW.region ?_
    refine AO.pure T rfl rfl rfl ?_
    refine AO.nil ?_
    refine AW.ret ?_
    cases someE hH
    exact ⟨trivial, _, [], rfl, .c (.c .v), by decide⟩
  · replace hH := condF hc hH
    refine AW.skip ?_
    refine AW.seq ?_
    refine AW.seq ?_
    refine AW.region ?_
    refine AO.pure T rfl rfl rfl ?_
    refine AO.nil ?_
    refine AW.block ?_
    refine AW.loopS (fun s : Nat × Int => (⟨[(0, .s (List.map encResult a)), (1, .v (.int .i64 s.2)), (5, .v (.int .i64 (s.1 : Int)))], [], 27, []⟩ : St)) (fun s => s.1 ≤ a.length ∧ laws_szResultS_l1 (a.drop s.1) s.1 s.2 = some r) (fun s => a.length - s.1) (0, w64 (left - (a.length : Int))) ⟨Nat.zero_le _, hH⟩ ?_ ?_
    · exact Le.cut 0 0 rfl (by repeat' (first | exact trivial | refine ⟨⟨_, rfl, rfl⟩, ?_⟩)) (by repeat' (first | exact trivial | refine ⟨⟨_, rfl, rfl⟩, ?_⟩)) rfl
    · rintro ⟨k1, v12⟩ ⟨hk, hH⟩
      replace hH : laws_szResultS_l1 (a.drop k1) k1 v12 = some r := hH
      show AW _ _ _ (⟨[(0, .s (List.map encResult a)), (1, .v (.int .i64 v12)), (5, .v (.int .i64 (k1 : Int)))], [], 27, []⟩ : St)
      refine AW.boundM (t := 0) (l := a) rfl (fun hb5 => ?_)
      cases hd4 : a.drop k1 with
      | nil =>
        rw [hd4] at hH
        rw [laws_szResultS_l1] at hH
        have hlt6 := drop_ge hd4
        refine AW.seq ?_
        refine AW.seq ?_
        refine AW.region ?_
        refine AO.pure T rfl rfl rfl ?_
        refine AO.pure T rfl rfl rfl ?_
        refine AO.val rfl rfl (len_map_ok T rfl rfl rfl) ?_
        refine AO.pure T rfl rfl rfl ?_
        refine AO.nil ?_
        refine AW.condF' (b := decide ((k1 : Int) < (a.length : Int))) rfl (rngF hlt6) ?_
        refine AW.exit ?_
        refine AW.seq ?_
        refine AW.region ?_
        refine AO.pure T rfl rfl rfl ?_
        refine AO.pure T rfl rfl rfl ?_
        refine AO.nil ?_
        refine AW.ret ?_
        cases someE hH
        exact ⟨trivial, _, [], rfl, .c (.c .v), by decide⟩
      | cons y2 ys3 =>
        rw [hd4] at hH
        rw [laws_szResultS_l1] at hH
        have hlt6 := drop_lt hd4
        refine AW.seq ?_
        refine AW.seq ?_
        refine AW.region ?_
        refine AO.pure T rfl rfl rfl ?_
        refine AO.pure T rfl rfl rfl ?_
        refine AO.val rfl rfl (len_map_ok T rfl rfl rfl) ?_
        refine AO.pure T rfl rfl rfl ?_
        refine AO.nil ?_
        refine AW.condT' (b := decide ((k1 : Int) < (a.length : Int))) rfl (rngT hlt6) ?_
        refine AW.skip ?_
        refine AW.seq ?_
        refine AW.block ?_
        refine AW.seq ?_
        obtain ⟨x14, hx15, hH⟩ := bindE hH
        refine AW.region ?_
        refine AO.pure T rfl rfl rfl ?_
        refine AO.pure T rfl rfl rfl ?_
        refine AO.val rfl rfl (ix_map_ok T rfl rfl rfl rfl rfl (getI_drop hd4) rfl) ?_
        refine AO.pure T (d := .g [.v (.int .i64 y2.skater), .s (List.map encInt y2.scores)]) rfl rfl rfl ?_
        refine AO.pure T rfl rfl rfl ?_
        refine AO.val rfl rfl (callV_ok rfl rfl rfl rfl (laws_szResult_ok _ _ _ (hx15)) rfl) ?_
        refine AO.pure T rfl rfl rfl ?_
        refine AO.nil ?_
        refine AW.seq ?_
        refine AW.region ?_
        refine AO.pure T rfl rfl rfl ?_
        refine AO.pure T rfl rfl rfl ?_
        refine AO.nil ?_
        refine AW.cond (b := decide (x14 < 0)) rfl (fun hc => ?_) (fun hc => ?_)
        · replace hH := condT hc hH
          refine AW.seq ?_
          refine AW.region ?_
          refine AO.pure T rfl rfl rfl ?_
          refine AO.nil ?_
          refine AW.ret ?_
          cases someE hH
          exact ⟨trivial, _, [], rfl, .c (.c .v), by decide⟩
        · replace hH := condF hc hH
          refine AW.skip ?_
          refine AW.region ?_
          refine AO.pure T rfl rfl rfl ?_
          refine AO.val rfl rfl (ar_ok rfl rfl rfl rfl (inI_succ hlt6 hb5)) ?_
          refine AO.pure T rfl rfl rfl ?_
          refine AO.nil ?_
          refine ⟨(k1 + 1, x14), ⟨Nat.succ_le_of_lt hlt6, (by rw [drop_succ_of hd4]; exact hH)⟩, (by have := hlt6; dsimp only; omega), ?_⟩
          exact Le.cut 0 0 rfl (by repeat' (first | exact trivial | refine ⟨⟨_, rfl, rfl⟩, ?_⟩)) (by repeat' (first | exact trivial | refine ⟨⟨_, rfl, rfl⟩, ?_⟩)) rfl

def laws_szEvent_p (a : Event) (left : Int) : Option Int :=
  (laws_szEntrantS_p a.entrants left).bind fun x1 =>
  cond (decide (x1 < 0))
    (some (-1))
    ((laws_szIntS_p a.gone x1).bind fun x3 =>
    cond (decide (x3 < 0))
      (some (-1))
      ((laws_szIntS_p a.order x3).bind fun x5 =>
      cond (decide (x5 < 0))
        (some (-1))
        ((laws_szResultS_p a.results x5).bind fun x7 =>
        cond (decide (x7 < 0))
          (some (-1))
          (some x7))))
theorem laws_szEvent_ok (a : Event) (left : Int) (r : Int) (hH : laws_szEvent_p a left = some r) : SpecR Tryz.prog 7 [.g (encEvent a), .v (.int .i64 left)] (.v (.int .i64 r)) := by
  refine fn_ok T Tryz.func7 rfl (by decide) rfl ?_
  refine AW.seq ?_
  refine AW.region ?_
  refine AO.step rfl (box_ok T rfl 1 rfl rfl rfl rfl) ?_
  refine AO.pure T rfl rfl rfl ?_
  refine AO.nil ?_
  refine AW.seq ?_
  obtain ⟨x1, hx2, hH⟩ := bindE hH
  refine AW.region ?_
  refine AO.pure T rfl rfl rfl ?_
  refine AO.pure T rfl rfl rfl ?_
  refine AO.pure T rfl rfl rfl ?_
  refine AO.val rfl rfl (callV_ok rfl rfl rfl rfl (laws_szEntrantS_ok _ _ _ (hx2)) rfl) ?_
  refine AO.pure T rfl rfl rfl ?_
  refine AO.nil ?_
  refine AW.seq ?_
  refine AW.seq ?_
  refine AW.region ?_
  refine AO.pure T rfl rfl rfl ?_
  refine AO.pure T rfl rfl rfl ?_
  refine AO.nil ?_
  refine AW.cond (b := decide (x1 < 0)) rfl (fun hc => ?_) (fun hc => ?_)
  · replace hH := condT hc hH
    refine AW.seq ?_
    refine AW.region ?_
    refine AO.pure T rfl rfl rfl ?_
    refine AO.nil ?_
    refine AW.ret ?_
    cases someE hH
    exact ⟨trivial, _, [], rfl, .c (.c .v), by decide⟩
  · replace hH := condF hc hH
    refine AW.skip ?_
    refine AW.seq ?_
    obtain ⟨x3, hx4, hH⟩ := bindE hH
    refine AW.region ?_
    refine AO.pure T rfl rfl rfl ?_
    refine AO.pure T rfl rfl rfl ?_
    refine AO.pure T rfl rfl rfl ?_
    refine AO.val rfl rfl (callV_ok rfl rfl rfl rfl (laws_szIntS_ok _ _ _ (hx4)) rfl) ?_
    refine AO.pure T rfl rfl rfl ?_
    refine AO.nil ?_
    refine AW.seq ?_
    refine AW.seq ?_
    refine AW.region ?_
    refine AO.pure T rfl rfl rfl ?_
    refine AO.pure T rfl rfl rfl ?_
    refine AO.nil ?_
    refine AW.cond (b := decide (x3 < 0)) rfl (fun hc => ?_) (fun hc => ?_)
    · replace hH := condT hc hH
      refine AW.seq ?_
      refine AW.region ?_
      refine AO.pure T rfl rfl rfl ?_
      refine AO.nil ?_
      refine AW.ret ?_
      cases someE hH
      exact ⟨trivial, _, [], rfl, .c (.c .v), by decide⟩
    · replace hH := condF hc hH
      refine AW.skip ?_
      refine AW.seq ?_
      obtain ⟨x5, hx6, hH⟩ := bindE hH
      refine AW.region ?_
      refine AO.pure T rfl rfl rfl ?_
      refine AO.pure T rfl rfl rfl ?_
      refine AO.pure T rfl rfl rfl ?_
      refine AO.val rfl rfl (callV_ok rfl rfl rfl rfl (laws_szIntS_ok _ _ _ (hx6)) rfl) ?_
      refine AO.pure T rfl rfl rfl ?_
      refine AO.nil ?_
      refine AW.seq ?_
      refine AW.seq ?_
      refine AW.region ?_
      refine AO.pure T rfl rfl rfl ?_
      refine AO.pure T rfl rfl rfl ?_
      refine AO.nil ?_
      refine AW.cond (b := decide (x5 < 0)) rfl (fun hc => ?_) (fun hc => ?_)
      · replace hH := condT hc hH
        refine AW.seq ?_
        refine AW.region ?_
        refine AO.pure T rfl rfl rfl ?_
        refine AO.nil ?_
        refine AW.le (Le.cut 0 0 (σ' := (⟨[(4, .v (.int .i64 (-1)))], [], 30, []⟩ : St)) rfl (by repeat' (first | exact trivial | refine ⟨⟨_, rfl, rfl⟩, ?_⟩)) (by repeat' (first | exact trivial | refine ⟨⟨_, rfl, rfl⟩, ?_⟩)) rfl) ?_
        refine AW.ret ?_
        cases someE hH
        exact ⟨trivial, _, [], rfl, .c (.c .v), by decide⟩
      · replace hH := condF hc hH
        refine AW.skip ?_
        refine AW.seq ?_
        obtain ⟨x7, hx8, hH⟩ := bindE hH
        refine AW.region ?_
        refine AO.pure T rfl rfl rfl ?_
        refine AO.pure T rfl rfl rfl ?_
        refine AO.pure T rfl rfl rfl ?_
        refine AO.val rfl rfl (callV_ok rfl rfl rfl rfl (laws_szResultS_ok _ _ _ (hx8)) rfl) ?_
        refine AO.pure T rfl rfl rfl ?_
        refine AO.nil ?_
        refine AW.le (Le.cut 0 0 (σ' := (⟨[(1, .v (.int .i64 x7))], [], 30, []⟩ : St)) rfl (by repeat' (first | exact trivial | refine ⟨⟨_, rfl, rfl⟩, ?_⟩)) (by repeat' (first | exact trivial | refine ⟨⟨_, rfl, rfl⟩, ?_⟩)) rfl) ?_
        refine AW.seq ?_
        refine AW.seq ?_
        refine AW.region ?_
        refine AO.pure T rfl rfl rfl ?_
        refine AO.pure T rfl rfl rfl ?_
        refine AO.nil ?_
        refine AW.cond (b := decide (x7 < 0)) rfl (fun hc => ?_) (fun hc => ?_)
        · replace hH := condT hc hH
          refine AW.seq ?_
          refine AW.region ?_
          refine AO.pure T rfl rfl rfl ?_
          refine AO.nil ?_
          refine AW.ret ?_
          cases someE hH
          exact ⟨trivial, _, [], rfl, .c (.c .v), by decide⟩
        · replace hH := condF hc hH
          refine AW.skip ?_
          refine AW.seq ?_
          refine AW.region ?_
          refine AO.pure T rfl rfl rfl ?_
          refine AO.pure T rfl rfl rfl ?_
          refine AO.nil ?_
          refine AW.ret ?_
          cases someE hH
          exact ⟨trivial, _, [], rfl, .c (.c .v), by decide⟩

def laws_toEntrant_p (a : Entrant) : Option Entrant :=
  some a
theorem laws_toEntrant_ok (a : Entrant) (r : Entrant) (hH : laws_toEntrant_p a = some r) : SpecR Tryz.prog 10 [.g (encEntrant a)] (.g (encEntrant r)) := by
  refine fn_ok T Tryz.func10 rfl (by decide) rfl ?_
  refine AW.seq ?_
  refine AW.region ?_
  refine AO.step rfl (box_ok T rfl 1 rfl rfl rfl rfl) ?_
  refine AO.step rfl (alloc_ok T rfl 2 rfl rfl rfl rfl rfl) ?_
  refine AO.nil ?_
  refine AW.seq ?_
  refine AW.region ?_
  refine AO.step rfl (alloc_ok T rfl 3 rfl rfl rfl rfl rfl) ?_
  refine AO.nil ?_
  refine AW.seq ?_
  refine AW.region ?_
  refine AO.pure T rfl rfl rfl ?_
  refine AO.pure T rfl rfl rfl ?_
  refine AO.pure T rfl rfl rfl ?_
  refine AO.step rfl (store_okE T rfl rfl rfl rfl rfl rfl rfl rfl rfl (ds' := [.v (.int .i64 a.skater), .v (.int .i64 0)]) rfl) ?_
  refine AO.nil ?_
  refine AW.seq ?_
  refine AW.region ?_
  refine AO.pure T rfl rfl rfl ?_
  refine AO.pure T rfl rfl rfl ?_
  refine AO.pure T rfl rfl rfl ?_
  refine AO.step rfl (store_okE T rfl rfl rfl rfl rfl rfl rfl rfl rfl (ds' := [.v (.int .i64 a.skater), .v (.int .i64 a.rank)]) rfl) ?_
  refine AO.nil ?_
  refine AW.seq ?_
  refine AW.region ?_
  refine AO.pure T (d := .g [.v (.int .i64 a.skater), .v (.int .i64 a.rank)]) rfl rfl rfl ?_
  refine AO.step rfl (store_okE T rfl rfl rfl rfl rfl rfl rfl rfl rfl (ds' := [.v (.int .i64 a.skater), .v (.int .i64 a.rank)]) rfl) ?_
  refine AO.nil ?_
  refine AW.ret ?_
  cases someE hH
  exact ⟨trivial, _, [], rfl, .c (.g (expLC_cons .v (expLC_cons .v (expLC_nil)))), by decide⟩

def laws_toEntrantS_l1 : List Entrant → Nat → List Entrant → Option ((List Entrant))
  | [], k3, v18 =>
    some v18
  | y4 :: ys5, k3, v18 =>
    (laws_toEntrant_p y4).bind fun x20 =>
    (getI v18 (k3 : Int)).bind fun x22 =>
    laws_toEntrantS_l1 ys5 (k3 + 1) (v18.set ((k3 : Int).toNat) x20)
def laws_toEntrantS_p (a : List Entrant) : Option (List Entrant) :=
  (need (decide (0 ≤ (a.length : Int)) && fitsB 16 (a.length : Int).toNat)).bind fun u1 =>
  laws_toEntrantS_l1 a 0 (List.replicate (a.length : Int).toNat (Entrant.mk 0 0))
theorem laws_toEntrantS_ok (a : List Entrant) (r : (List Entrant)) (hH : laws_toEntrantS_p a = some r) : SpecR Tryz.prog 28 [.s (List.map encEntrant a)] (.w 2 (r.map encEntrant)) := by
  refine fn_ok T Tryz.func28 rfl (by decide) rfl ?_
  refine AW.seq ?_
  refine AW.region ?_
  refine AO.pure T rfl rfl rfl ?_
  refine AO.nil ?_
  refine AW.seq ?_
  obtain ⟨u1, hx2, hH⟩ := bindE hH
  refine AW.region ?_
  refine AO.pure T rfl rfl rfl ?_
  refine AO.val rfl rfl (len_map_ok T rfl rfl rfl) ?_
  refine AO.step rfl (make_map_ok T rfl 1 rfl rfl rfl rfl rfl (f := encEntrant) (zo := (Entrant.mk 0 0)) (by repeat constructor) (by decide) rfl rfl (Bool.and_eq_true_iff.1 (needT (hx2))).1 (Bool.and_eq_true_iff.1 (needT (hx2))).2 rfl rfl) ?_
  refine AO.pure T rfl rfl rfl ?_
  refine AO.nil ?_
  refine AW.seq ?_
  refine AW.seq ?_
  refine AW.region ?_
  refine AO.pure T rfl rfl rfl ?_
  refine AO.nil ?_
  refine AW.block ?_
  refine AW.loopS (fun s : Nat × (List Entrant) => (⟨[(0, .s (List.map encEntrant a)), (3, .R 1), (4, .v (.int .i64 (s.1 : Int)))], [(1, .row 2 (List.map encEntrant s.2))], 23, []⟩ : St)) (fun s => s.1 ≤ a.length ∧ laws_toEntrantS_l1 (a.drop s.1) s.1 s.2 = some r) (fun s => a.length - s.1) (0, (List.replicate (a.length : Int).toNat (Entrant.mk 0 0))) ⟨Nat.zero_le _, hH⟩ ?_ ?_
  · exact Le.cut 0 0 rfl (by repeat' (first | exact trivial | refine ⟨⟨_, rfl, rfl⟩, ?_⟩)) (by repeat' (first | exact trivial | refine ⟨⟨_, rfl, rfl⟩, ?_⟩)) rfl
  · rintro ⟨k3, v18⟩ ⟨hk, hH⟩
    replace hH : laws_toEntrantS_l1 (a.drop k3) k3 v18 = some r := hH
    show AW _ _ _ (⟨[(0, .s (List.map encEntrant a)), (3, .R 1), (4, .v (.int .i64 (k3 : Int)))], [(1, .row 2 (List.map encEntrant v18))], 23, []⟩ : St)
    refine AW.boundM (t := 0) (l := a) rfl (fun hb7 => ?_)
    cases hd6 : a.drop k3 with
    | nil =>
      rw [hd6] at hH
      rw [laws_toEntrantS_l1] at hH
      have hlt8 := drop_ge hd6
      refine AW.seq ?_
      refine AW.seq ?_
      refine AW.region ?_
      refine AO.pure T rfl rfl rfl ?_
      refine AO.pure T rfl rfl rfl ?_
      refine AO.val rfl rfl (len_map_ok T rfl rfl rfl) ?_
      refine AO.pure T rfl rfl rfl ?_
      refine AO.nil ?_
      refine AW.condF' (b := decide ((k3 : Int) < (a.length : Int))) rfl (rngF hlt8) ?_
      refine AW.exit ?_
      refine AW.seq ?_
      refine AW.region ?_
      refine AO.pure T rfl rfl rfl ?_
      refine AO.pure T rfl rfl rfl ?_
      refine AO.nil ?_
      refine AW.ret ?_
      cases someE hH
      exact ⟨trivial, _, [1], rfl, .c (.c (.rowR rfl)), by decide⟩
    | cons y4 ys5 =>
      rw [hd6] at hH
      rw [laws_toEntrantS_l1] at hH
      have hlt8 := drop_lt hd6
      refine AW.seq ?_
      refine AW.seq ?_
      refine AW.region ?_
      refine AO.pure T rfl rfl rfl ?_
      refine AO.pure T rfl rfl rfl ?_
      refine AO.val rfl rfl (len_map_ok T rfl rfl rfl) ?_
      refine AO.pure T rfl rfl rfl ?_
      refine AO.nil ?_
      refine AW.condT' (b := decide ((k3 : Int) < (a.length : Int))) rfl (rngT hlt8) ?_
      refine AW.skip ?_
      refine AW.seq ?_
      refine AW.block ?_
      obtain ⟨x20, hx21, hH⟩ := bindE hH
      obtain ⟨x22, hx23, hH⟩ := bindE hH
      refine AW.region ?_
      refine AO.pure T rfl rfl rfl ?_
      refine AO.pure T rfl rfl rfl ?_
      refine AO.pure T rfl rfl rfl ?_
      refine AO.pure T rfl rfl rfl ?_
      refine AO.val rfl rfl (ix_map_ok T rfl rfl rfl rfl rfl (getI_drop hd6) rfl) ?_
      refine AO.pure T (d := .g [.v (.int .i64 y4.skater), .v (.int .i64 y4.rank)]) rfl rfl rfl ?_
      refine AO.val rfl rfl (callV_ok rfl rfl rfl rfl (laws_toEntrant_ok _ _ (hx21)) rfl) ?_
      refine AO.val rfl rfl (ix_row_ok T rfl rfl rfl rfl rfl rfl (hx23)) ?_
      refine AO.step rfl (store_row_ok T rfl rfl rfl rfl rfl (getI_get (hx23)) rfl rfl rfl rfl (u' := x20) rfl rfl) ?_
      refine AO.nil ?_
      refine AW.region ?_
      refine AO.pure T rfl rfl rfl ?_
      refine AO.val rfl rfl (ar_ok rfl rfl rfl rfl (inI_succ hlt8 hb7)) ?_
      refine AO.pure T rfl rfl rfl ?_
      refine AO.nil ?_
      refine ⟨(k3 + 1, (v18.set ((k3 : Int).toNat) x20)), ⟨Nat.succ_le_of_lt hlt8, (by rw [drop_succ_of hd6]; exact hH)⟩, (by have := hlt8; dsimp only; omega), ?_⟩
      exact Le.cut 0 0 rfl (by repeat' (first | exact trivial | refine ⟨⟨_, rfl, rfl⟩, ?_⟩)) (by repeat' (first | exact trivial | refine ⟨⟨_, rfl, rfl⟩, ?_⟩)) rfl

def laws_toIntS_l1 : List Int → Nat → List Int → Option ((List Int))
  | [], k3, v14 =>
    some v14
  | y4 :: ys5, k3, v14 =>
    (getI v14 (k3 : Int)).bind fun x16 =>
    laws_toIntS_l1 ys5 (k3 + 1) (v14.set ((k3 : Int).toNat) y4)
def laws_toIntS_p (a : List Int) : Option (List Int) :=
  (need (decide (0 ≤ (a.length : Int)) && fitsB 8 (a.length : Int).toNat)).bind fun u1 =>
  laws_toIntS_l1 a 0 (List.replicate (a.length : Int).toNat 0)
theorem laws_toIntS_ok (a : List Int) (r : (List Int)) (hH : laws_toIntS_p a = some r) : SpecR Tryz.prog 29 [.s (List.map encInt a)] (.w 1 (r.map encInt)) := by
  refine fn_ok T Tryz.func29 rfl (by decide) rfl ?_
  refine AW.seq ?_
  refine AW.region ?_
  refine AO.pure T rfl rfl rfl ?_
  refine AO.nil ?_
  refine AW.seq ?_
  obtain ⟨u1, hx2, hH⟩ := bindE hH
  refine AW.region ?_
  refine AO.pure T rfl rfl rfl ?_
  refine AO.val rfl rfl (len_map_ok T rfl rfl rfl) ?_
  refine AO.step rfl (make_map_ok T rfl 1 rfl rfl rfl rfl rfl (f := encInt) (zo := 0) (by repeat constructor) (by decide) rfl rfl (Bool.and_eq_true_iff.1 (needT (hx2))).1 (Bool.and_eq_true_iff.1 (needT (hx2))).2 rfl rfl) ?_
  refine AO.pure T rfl rfl rfl ?_
  refine AO.nil ?_
  refine AW.seq ?_
  refine AW.seq ?_
  refine AW.region ?_
  refine AO.pure T rfl rfl rfl ?_
  refine AO.nil ?_
  refine AW.block ?_
  refine AW.loopS (fun s : Nat × (List Int) => (⟨[(0, .s (List.map encInt a)), (3, .R 1), (4, .v (.int .i64 (s.1 : Int)))], [(1, .row 1 (List.map encInt s.2))], 22, []⟩ : St)) (fun s => s.1 ≤ a.length ∧ laws_toIntS_l1 (a.drop s.1) s.1 s.2 = some r) (fun s => a.length - s.1) (0, (List.replicate (a.length : Int).toNat 0)) ⟨Nat.zero_le _, hH⟩ ?_ ?_
  · exact Le.cut 0 0 rfl (by repeat' (first | exact trivial | refine ⟨⟨_, rfl, rfl⟩, ?_⟩)) (by repeat' (first | exact trivial | refine ⟨⟨_, rfl, rfl⟩, ?_⟩)) rfl
  · rintro ⟨k3, v14⟩ ⟨hk, hH⟩
    replace hH : laws_toIntS_l1 (a.drop k3) k3 v14 = some r := hH
    show AW _ _ _ (⟨[(0, .s (List.map encInt a)), (3, .R 1), (4, .v (.int .i64 (k3 : Int)))], [(1, .row 1 (List.map encInt v14))], 22, []⟩ : St)
    refine AW.boundM (t := 0) (l := a) rfl (fun hb7 => ?_)
    cases hd6 : a.drop k3 with
    | nil =>
      rw [hd6] at hH
      rw [laws_toIntS_l1] at hH
      have hlt8 := drop_ge hd6
      refine AW.seq ?_
      refine AW.seq ?_
      refine AW.region ?_
      refine AO.pure T rfl rfl rfl ?_
      refine AO.pure T rfl rfl rfl ?_
      refine AO.val rfl rfl (len_map_ok T rfl rfl rfl) ?_
      refine AO.pure T rfl rfl rfl ?_
      refine AO.nil ?_
      refine AW.condF' (b := decide ((k3 : Int) < (a.length : Int))) rfl (rngF hlt8) ?_
      refine AW.exit ?_
      refine AW.seq ?_
      refine AW.region ?_
      refine AO.pure T rfl rfl rfl ?_
      refine AO.pure T rfl rfl rfl ?_
      refine AO.nil ?_
      refine AW.ret ?_
      cases someE hH
      exact ⟨trivial, _, [1], rfl, .c (.c (.rowR rfl)), by decide⟩
    | cons y4 ys5 =>
      rw [hd6] at hH
      rw [laws_toIntS_l1] at hH
      have hlt8 := drop_lt hd6
      refine AW.seq ?_
      refine AW.seq ?_
      refine AW.region ?_
      refine AO.pure T rfl rfl rfl ?_
      refine AO.pure T rfl rfl rfl ?_
      refine AO.val rfl rfl (len_map_ok T rfl rfl rfl) ?_
      refine AO.pure T rfl rfl rfl ?_
      refine AO.nil ?_
      refine AW.condT' (b := decide ((k3 : Int) < (a.length : Int))) rfl (rngT hlt8) ?_
      refine AW.skip ?_
      refine AW.seq ?_
      refine AW.block ?_
      obtain ⟨x16, hx17, hH⟩ := bindE hH
      refine AW.region ?_
      refine AO.pure T rfl rfl rfl ?_
      refine AO.pure T rfl rfl rfl ?_
      refine AO.pure T rfl rfl rfl ?_
      refine AO.pure T rfl rfl rfl ?_
      refine AO.val rfl rfl (ix_map_ok T rfl rfl rfl rfl rfl (getI_drop hd6) rfl) ?_
      refine AO.pure T rfl rfl rfl ?_
      refine AO.val rfl rfl (ix_row_ok T rfl rfl rfl rfl rfl rfl (hx17)) ?_
      refine AO.step rfl (store_row_ok T rfl rfl rfl rfl rfl (getI_get (hx17)) rfl rfl rfl rfl (u' := y4) rfl rfl) ?_
      refine AO.nil ?_
      refine AW.region ?_
      refine AO.pure T rfl rfl rfl ?_
      refine AO.val rfl rfl (ar_ok rfl rfl rfl rfl (inI_succ hlt8 hb7)) ?_
      refine AO.pure T rfl rfl rfl ?_
      refine AO.nil ?_
      refine ⟨(k3 + 1, (v14.set ((k3 : Int).toNat) y4)), ⟨Nat.succ_le_of_lt hlt8, (by rw [drop_succ_of hd6]; exact hH)⟩, (by have := hlt8; dsimp only; omega), ?_⟩
      exact Le.cut 0 0 rfl (by repeat' (first | exact trivial | refine ⟨⟨_, rfl, rfl⟩, ?_⟩)) (by repeat' (first | exact trivial | refine ⟨⟨_, rfl, rfl⟩, ?_⟩)) rfl

def laws_toResult_p (a : Result) : Option Result :=
  (laws_toIntS_p a.scores).bind fun x1 =>
  some (Result.mk a.skater x1)
theorem laws_toResult_ok (a : Result) (r : Result) (hH : laws_toResult_p a = some r) : SpecR Tryz.prog 56 [.g (encResult a)] (.g (encResultO r)) := by
  refine fn_ok T Tryz.func56 rfl (by decide) rfl ?_
  refine AW.seq ?_
  refine AW.region ?_
  refine AO.step rfl (box_ok T rfl 1 rfl rfl rfl rfl) ?_
  refine AO.step rfl (alloc_ok T rfl 2 rfl rfl rfl rfl rfl) ?_
  refine AO.nil ?_
  refine AW.seq ?_
  refine AW.region ?_
  refine AO.step rfl (alloc_ok T rfl 3 rfl rfl rfl rfl rfl) ?_
  refine AO.nil ?_
  refine AW.seq ?_
  refine AW.region ?_
  refine AO.pure T rfl rfl rfl ?_
  refine AO.pure T rfl rfl rfl ?_
  refine AO.pure T rfl rfl rfl ?_
  refine AO.step rfl (store_okE T rfl rfl rfl rfl rfl rfl rfl rfl rfl (ds' := [.v (.int .i64 a.skater), .w 0 []]) rfl) ?_
  refine AO.nil ?_
  refine AW.seq ?_
  obtain ⟨x1, hx2, hH⟩ := bindE hH
  refine AW.region ?_
  refine AO.pure T rfl rfl rfl ?_
  refine AO.pure T rfl rfl rfl ?_
  refine AO.step rfl (call_ok rfl 4 rfl rfl rfl (laws_toIntS_ok _ _ (hx2)) rfl rfl rfl) ?_
  refine AO.pure T rfl rfl rfl ?_
  refine AO.step rfl (store_okE T rfl rfl rfl rfl rfl rfl rfl rfl rfl (ds' := [.v (.int .i64 a.skater), .R 4]) rfl) ?_
  refine AO.nil ?_
  refine AW.seq ?_
  refine AW.region ?_
  refine AO.pure T (d := .g [.v (.int .i64 a.skater), .R 4]) rfl rfl rfl ?_
  refine AO.step rfl (store_okE T rfl rfl rfl rfl rfl rfl rfl rfl rfl (ds' := [.v (.int .i64 a.skater), .R 4]) rfl) ?_
  refine AO.nil ?_
  refine AW.ret ?_
  cases someE hH
  exact ⟨trivial, _, [4], rfl, .c (.g (expLC_cons .v (expLC_cons (.rowR rfl) (expLC_nil)))), by decide⟩

def laws_toResultS_l1 : List Result → Nat → List Result → Option ((List Result))
  | [], k3, v18 =>
    some v18
  | y4 :: ys5, k3, v18 =>
    (laws_toResult_p y4).bind fun x20 =>
    (getI v18 (k3 : Int)).bind fun x22 =>
    laws_toResultS_l1 ys5 (k3 + 1) (v18.set ((k3 : Int).toNat) x20)
def laws_toResultS_p (a : List Result) : Option (List Result) :=
  (need (decide (0 ≤ (a.length : Int)) && fitsB 32 (a.length : Int).toNat)).bind fun u1 =>
  laws_toResultS_l1 a 0 (List.replicate (a.length : Int).toNat (Result.mk 0 []))
theorem laws_toResultS_ok (a : List Result) (r : (List Result)) (hH : laws_toResultS_p a = some r) : SpecR Tryz.prog 30 [.s (List.map encResult a)] (.w 2 (r.map encResultO)) := by
  refine fn_ok T Tryz.func30 rfl (by decide) rfl ?_
  refine AW.seq ?_
  refine AW.region ?_
  refine AO.pure T rfl rfl rfl ?_
  refine AO.nil ?_
  refine AW.seq ?_
  obtain ⟨u1, hx2, hH⟩ := bindE hH
  refine AW.region ?_
  refine AO.pure T rfl rfl rfl ?_
  refine AO.val rfl rfl (len_map_ok T rfl rfl rfl) ?_
  refine AO.step rfl (make_map_ok T rfl 1 rfl rfl rfl rfl rfl (f := encResultO) (zo := (Result.mk 0 [])) (by repeat constructor) (by decide) rfl rfl (Bool.and_eq_true_iff.1 (needT (hx2))).1 (Bool.and_eq_true_iff.1 (needT (hx2))).2 rfl rfl) ?_
  refine AO.pure T rfl rfl rfl ?_
  refine AO.nil ?_
  refine AW.seq ?_
  refine AW.seq ?_
  refine AW.region ?_
  refine AO.pure T rfl rfl rfl ?_
  refine AO.nil ?_
  refine AW.block ?_
  refine AW.loopS (fun s : Nat × (List Result) => (⟨[(0, .s (List.map encResult a)), (3, .R 1), (4, .v (.int .i64 (s.1 : Int)))], [(1, .row 2 (List.map encResultO s.2))], 23, []⟩ : St)) (fun s => s.1 ≤ a.length ∧ laws_toResultS_l1 (a.drop s.1) s.1 s.2 = some r) (fun s => a.length - s.1) (0, (List.replicate (a.length : Int).toNat (Result.mk 0 []))) ⟨Nat.zero_le _, hH⟩ ?_ ?_
  · exact Le.cut 0 0 rfl (by repeat' (first | exact trivial | refine ⟨⟨_, rfl, rfl⟩, ?_⟩)) (by repeat' (first | exact trivial | refine ⟨⟨_, rfl, rfl⟩, ?_⟩)) rfl
  · rintro ⟨k3, v18⟩ ⟨hk, hH⟩
    replace hH : laws_toResultS_l1 (a.drop k3) k3 v18 = some r := hH
    show AW _ _ _ (⟨[(0, .s (List.map encResult a)), (3, .R 1), (4, .v (.int .i64 (k3 : Int)))], [(1, .row 2 (List.map encResultO v18))], 23, []⟩ : St)
    refine AW.boundM (t := 0) (l := a) rfl (fun hb7 => ?_)
    cases hd6 : a.drop k3 with
    | nil =>
      rw [hd6] at hH
      rw [laws_toResultS_l1] at hH
      have hlt8 := drop_ge hd6
      refine AW.seq ?_
      refine AW.seq ?_
      refine AW.region ?_
      refine AO.pure T rfl rfl rfl ?_
      refine AO.pure T rfl rfl rfl ?_
      refine AO.val rfl rfl (len_map_ok T rfl rfl rfl) ?_
      refine AO.pure T rfl rfl rfl ?_
      refine AO.nil ?_
      refine AW.condF' (b := decide ((k3 : Int) < (a.length : Int))) rfl (rngF hlt8) ?_
      refine AW.exit ?_
      refine AW.seq ?_
      refine AW.region ?_
      refine AO.pure T rfl rfl rfl ?_
      refine AO.pure T rfl rfl rfl ?_
      refine AO.nil ?_
      refine AW.ret ?_
      cases someE hH
      exact ⟨trivial, _, [1], rfl, .c (.c (.rowR rfl)), by decide⟩
    | cons y4 ys5 =>
      rw [hd6] at hH
      rw [laws_toResultS_l1] at hH
      have hlt8 := drop_lt hd6
      refine AW.seq ?_
      refine AW.seq ?_
      refine AW.region ?_
      refine AO.pure T rfl rfl rfl ?_
      refine AO.pure T rfl rfl rfl ?_
      refine AO.val rfl rfl (len_map_ok T rfl rfl rfl) ?_
      refine AO.pure T rfl rfl rfl ?_
      refine AO.nil ?_
      refine AW.condT' (b := decide ((k3 : Int) < (a.length : Int))) rfl (rngT hlt8) ?_
      refine AW.skip ?_
      refine AW.seq ?_
      refine AW.block ?_
      obtain ⟨x20, hx21, hH⟩ := bindE hH
      obtain ⟨x22, hx23, hH⟩ := bindE hH
      refine AW.region ?_
      refine AO.pure T rfl rfl rfl ?_
      refine AO.pure T rfl rfl rfl ?_
      refine AO.pure T rfl rfl rfl ?_
      refine AO.pure T rfl rfl rfl ?_
      refine AO.val rfl rfl (ix_map_ok T rfl rfl rfl rfl rfl (getI_drop hd6) rfl) ?_
      refine AO.pure T (d := .g [.v (.int .i64 y4.skater), .s (List.map encInt y4.scores)]) rfl rfl rfl ?_
      refine AO.step rfl (call_ok rfl 4 rfl rfl rfl (laws_toResult_ok _ _ (hx21)) rfl rfl rfl) ?_
      refine AO.val rfl rfl (ix_row_ok T rfl rfl rfl rfl rfl rfl (hx23)) ?_
      refine AO.step rfl (store_rowO_ok T (ids := [4]) rfl rfl rfl rfl rfl (getI_get (hx23)) rfl (expLC_cons .v (expLC_cons (.rowR rfl) (expLC_nil))) (by decide) rfl rfl (u' := x20) rfl rfl) ?_
      refine AO.nil ?_
      refine AW.region ?_
      refine AO.pure T rfl rfl rfl ?_
      refine AO.val rfl rfl (ar_ok rfl rfl rfl rfl (inI_succ hlt8 hb7)) ?_
      refine AO.pure T rfl rfl rfl ?_
      refine AO.nil ?_
      refine ⟨(k3 + 1, (v18.set ((k3 : Int).toNat) x20)), ⟨Nat.succ_le_of_lt hlt8, (by rw [drop_succ_of hd6]; exact hH)⟩, (by have := hlt8; dsimp only; omega), ?_⟩
      exact Le.cut 0 0 rfl (by repeat' (first | exact trivial | refine ⟨⟨_, rfl, rfl⟩, ?_⟩)) (by repeat' (first | exact trivial | refine ⟨⟨_, rfl, rfl⟩, ?_⟩)) rfl

def laws_toEvent_p (a : Event) : Option Event :=
  (laws_toEntrantS_p a.entrants).bind fun x1 =>
  (laws_toIntS_p a.gone).bind fun x3 =>
  (laws_toIntS_p a.order).bind fun x5 =>
  (laws_toResultS_p a.results).bind fun x7 =>
  some (Event.mk a.segments a.size a.key x1 x3 a.segment x5 x7)
theorem laws_toEvent_ok (a : Event) (r : Event) (hH : laws_toEvent_p a = some r) : SpecR Tryz.prog 9 [.g (encEvent a)] (.g (encEventO r)) := by
  refine fn_ok T Tryz.func9 rfl (by decide) rfl ?_
  refine AW.seq ?_
  refine AW.region ?_
  refine AO.step rfl (box_ok T rfl 1 rfl rfl rfl rfl) ?_
  refine AO.step rfl (alloc_ok T rfl 2 rfl rfl rfl rfl rfl) ?_
  refine AO.nil ?_
  refine AW.seq ?_
  refine AW.region ?_
  refine AO.step rfl (alloc_ok T rfl 3 rfl rfl rfl rfl rfl) ?_
  refine AO.nil ?_
  refine AW.seq ?_
  refine AW.region ?_
  refine AO.pure T rfl rfl rfl ?_
  refine AO.pure T rfl rfl rfl ?_
  refine AO.pure T rfl rfl rfl ?_
  refine AO.step rfl (store_okE T rfl rfl rfl rfl rfl rfl rfl rfl rfl (ds' := [.v (.int .i64 a.segments), .v (.int .i64 0), .v (.int .i64 0), .w 0 [], .w 0 [], .v (.int .i64 0), .w 0 [], .w 0 []]) rfl) ?_
  refine AO.nil ?_
  refine AW.seq ?_
  refine AW.region ?_
  refine AO.pure T rfl rfl rfl ?_
  refine AO.pure T rfl rfl rfl ?_
  refine AO.pure T rfl rfl rfl ?_
  refine AO.step rfl (store_okE T rfl rfl rfl rfl rfl rfl rfl rfl rfl (ds' := [.v (.int .i64 a.segments), .v (.int .i64 a.size), .v (.int .i64 0), .w 0 [], .w 0 [], .v (.int .i64 0), .w 0 [], .w 0 []]) rfl) ?_
  refine AO.nil ?_
  refine AW.seq ?_
  refine AW.region ?_
  refine AO.pure T rfl rfl rfl ?_
  refine AO.pure T rfl rfl rfl ?_
  refine AO.pure T rfl rfl rfl ?_
  refine AO.step rfl (store_okE T rfl rfl rfl rfl rfl rfl rfl rfl rfl (ds' := [.v (.int .i64 a.segments), .v (.int .i64 a.size), .v (.int .i64 a.key), .w 0 [], .w 0 [], .v (.int .i64 0), .w 0 [], .w 0 []]) rfl) ?_
  refine AO.nil ?_
  refine AW.seq ?_
  obtain ⟨x1, hx2, hH⟩ := bindE hH
  refine AW.region ?_
  refine AO.pure T rfl rfl rfl ?_
  refine AO.pure T rfl rfl rfl ?_
  refine AO.step rfl (call_ok rfl 4 rfl rfl rfl (laws_toEntrantS_ok _ _ (hx2)) rfl rfl rfl) ?_
  refine AO.pure T rfl rfl rfl ?_
  refine AO.step rfl (store_okE T rfl rfl rfl rfl rfl rfl rfl rfl rfl (ds' := [.v (.int .i64 a.segments), .v (.int .i64 a.size), .v (.int .i64 a.key), .R 4, .w 0 [], .v (.int .i64 0), .w 0 [], .w 0 []]) rfl) ?_
  refine AO.nil ?_
  refine AW.seq ?_
  obtain ⟨x3, hx4, hH⟩ := bindE hH
  refine AW.region ?_
  refine AO.pure T rfl rfl rfl ?_
  refine AO.pure T rfl rfl rfl ?_
  refine AO.step rfl (call_ok rfl 5 rfl rfl rfl (laws_toIntS_ok _ _ (hx4)) rfl rfl rfl) ?_
  refine AO.pure T rfl rfl rfl ?_
  refine AO.step rfl (store_okE T rfl rfl rfl rfl rfl rfl rfl rfl rfl (ds' := [.v (.int .i64 a.segments), .v (.int .i64 a.size), .v (.int .i64 a.key), .R 4, .R 5, .v (.int .i64 0), .w 0 [], .w 0 []]) rfl) ?_
  refine AO.nil ?_
  refine AW.le (Le.cut 0 0 (σ' := (⟨[(1, .p 1 0), (2, .p 2 0), (3, .p 3 0)], [(1, .box [.v (.int .i64 a.segments), .v (.int .i64 a.size), .v (.int .i64 a.key), .s (List.map encEntrant a.entrants), .s (List.map encInt a.gone), .v (.int .i64 a.segment), .s (List.map encInt a.order), .s (List.map encResult a.results)]), (2, .box [.v (.int .i64 0), .v (.int .i64 0), .v (.int .i64 0), .w 0 [], .w 0 [], .v (.int .i64 0), .w 0 [], .w 0 []]), (3, .box [.v (.int .i64 a.segments), .v (.int .i64 a.size), .v (.int .i64 a.key), .R 4, .R 5, .v (.int .i64 0), .w 0 [], .w 0 []]), (4, .row 2 (List.map encEntrant x1)), (5, .row 1 (List.map encInt x3))], 33, []⟩ : St)) rfl (by repeat' (first | exact trivial | refine ⟨⟨_, rfl, rfl⟩, ?_⟩)) (by repeat' (first | exact trivial | refine ⟨⟨_, rfl, rfl⟩, ?_⟩)) rfl) ?_
  refine AW.seq ?_
  refine AW.region ?_
  refine AO.pure T rfl rfl rfl ?_
  refine AO.pure T rfl rfl rfl ?_
  refine AO.pure T rfl rfl rfl ?_
  refine AO.step rfl (store_okE T rfl rfl rfl rfl rfl rfl rfl rfl rfl (ds' := [.v (.int .i64 a.segments), .v (.int .i64 a.size), .v (.int .i64 a.key), .R 4, .R 5, .v (.int .i64 a.segment), .w 0 [], .w 0 []]) rfl) ?_
  refine AO.nil ?_
  refine AW.seq ?_
  obtain ⟨x5, hx6, hH⟩ := bindE hH
  refine AW.region ?_
  refine AO.pure T rfl rfl rfl ?_
  refine AO.pure T rfl rfl rfl ?_
  refine AO.step rfl (call_ok rfl 6 rfl rfl rfl (laws_toIntS_ok _ _ (hx6)) rfl rfl rfl) ?_
  refine AO.pure T rfl rfl rfl ?_
  refine AO.step rfl (store_okE T rfl rfl rfl rfl rfl rfl rfl rfl rfl (ds' := [.v (.int .i64 a.segments), .v (.int .i64 a.size), .v (.int .i64 a.key), .R 4, .R 5, .v (.int .i64 a.segment), .R 6, .w 0 []]) rfl) ?_
  refine AO.nil ?_
  refine AW.seq ?_
  obtain ⟨x7, hx8, hH⟩ := bindE hH
  refine AW.region ?_
  refine AO.pure T rfl rfl rfl ?_
  refine AO.pure T rfl rfl rfl ?_
  refine AO.step rfl (call_ok rfl 7 rfl rfl rfl (laws_toResultS_ok _ _ (hx8)) rfl rfl rfl) ?_
  refine AO.pure T rfl rfl rfl ?_
  refine AO.step rfl (store_okE T rfl rfl rfl rfl rfl rfl rfl rfl rfl (ds' := [.v (.int .i64 a.segments), .v (.int .i64 a.size), .v (.int .i64 a.key), .R 4, .R 5, .v (.int .i64 a.segment), .R 6, .R 7]) rfl) ?_
  refine AO.nil ?_
  refine AW.seq ?_
  refine AW.region ?_
  refine AO.pure T (d := .g [.v (.int .i64 a.segments), .v (.int .i64 a.size), .v (.int .i64 a.key), .R 4, .R 5, .v (.int .i64 a.segment), .R 6, .R 7]) rfl rfl rfl ?_
  refine AO.step rfl (store_okE T rfl rfl rfl rfl rfl rfl rfl rfl rfl (ds' := [.v (.int .i64 a.segments), .v (.int .i64 a.size), .v (.int .i64 a.key), .R 4, .R 5, .v (.int .i64 a.segment), .R 6, .R 7]) rfl) ?_
  refine AO.nil ?_
  refine AW.ret ?_
  cases someE hH
  exact ⟨trivial, _, [4, 5, 6, 7], rfl, .c (.g (expLC_cons .v (expLC_cons .v (expLC_cons .v (expLC_cons (.rowR rfl) (expLC_cons (.rowR rfl) (expLC_cons .v (expLC_cons (.rowR rfl) (expLC_cons (.rowR rfl) (expLC_nil)))))))))), by decide⟩

def spec_l1In_p (n : Int) (lo : Int) (hi : Int) : Option Bool :=
  some (decide (n ≥ lo) && decide (n ≤ hi))
theorem spec_l1In_ok (n : Int) (lo : Int) (hi : Int) (r : Bool) (hH : spec_l1In_p n lo hi = some r) : SpecR Tryz.prog 103 [.v (.int .i64 n), .v (.int .i64 lo), .v (.int .i64 hi)] (.v (.bool r)) := by
  refine fn_ok T Tryz.func103 rfl (by decide) rfl ?_
  refine AW.seq ?_
  refine AW.region ?_
  refine AO.pure T rfl rfl rfl ?_
  refine AO.nil ?_
  refine AW.seq ?_
  refine AW.region ?_
  refine AO.pure T rfl rfl rfl ?_
  refine AO.pure T rfl rfl rfl ?_
  refine AO.pure T rfl rfl rfl ?_
  refine AO.pure T rfl rfl rfl ?_
  refine AO.pureG T [] rfl trivial rfl rfl ?_
  refine AO.pureG T [] rfl trivial rfl rfl ?_
  refine AO.pureG T [11, 12] rfl ⟨fun h => h, fun h => h, trivial⟩ rfl rfl ?_
  refine AO.val rfl rfl (pick_and rfl rfl rfl rfl) ?_
  refine AO.pure T rfl rfl rfl ?_
  refine AO.nil ?_
  refine AW.ret ?_
  cases someE hH
  exact ⟨trivial, _, [], rfl, .c (.c .v), by decide⟩

def spec_soSize_p (size : Int) : Option Bool :=
  (spec_l1In_p size 1 8).bind fun x1 =>
  some x1
theorem spec_soSize_ok (size : Int) (r : Bool) (hH : spec_soSize_p size = some r) : SpecR Tryz.prog 104 [.v (.int .i64 size)] (.v (.bool r)) := by
  refine fn_ok T Tryz.func104 rfl (by decide) rfl ?_
  refine AW.seq ?_
  refine AW.region ?_
  refine AO.pure T rfl rfl rfl ?_
  refine AO.nil ?_
  refine AW.seq ?_
  obtain ⟨x1, hx2, hH⟩ := bindE hH
  refine AW.region ?_
  refine AO.pure T rfl rfl rfl ?_
  refine AO.val rfl rfl (callV_ok rfl rfl rfl rfl (spec_l1In_ok _ _ _ _ (hx2)) rfl) ?_
  refine AO.pure T rfl rfl rfl ?_
  refine AO.nil ?_
  refine AW.ret ?_
  cases someE hH
  exact ⟨trivial, _, [], rfl, .c (.c .v), by decide⟩

def spec_l1Has_l1 (n : Int) : List Int → Nat → Option Bool
  | [], k1 =>
    some false
  | y2 :: ys3, k1 =>
    cond (y2 == n)
      (some true)
      (spec_l1Has_l1 n ys3 (k1 + 1))
def spec_l1Has_p (l : List Int) (n : Int) : Option Bool :=
  spec_l1Has_l1 n l 0
theorem spec_l1Has_ok (l : List Int) (n : Int) (r : Bool) (hH : spec_l1Has_p l n = some r) : SpecR Tryz.prog 109 [.s (List.map encInt l), .v (.int .i64 n)] (.v (.bool r)) := by
  refine fn_ok T Tryz.func109 rfl (by decide) rfl ?_
  refine AW.seq ?_
  refine AW.region ?_
  refine AO.pure T rfl rfl rfl ?_
  refine AO.nil ?_
  refine AW.seq ?_
  refine AW.seq ?_
  refine AW.region ?_
  refine AO.pure T rfl rfl rfl ?_
  refine AO.val rfl rfl (len_map_ok T rfl rfl rfl) ?_
  refine AO.pure T rfl rfl rfl ?_
  refine AO.nil ?_
  refine AW.block ?_
  refine AW.loopS (fun s : Nat => (⟨[(1, .v (.int .i64 n)), (7, .s (List.map encInt l)), (8, .v (.int .i64 (l.length : Int))), (9, .v (.int .i64 (s : Int)))], [], 17, []⟩ : St)) (fun s => s ≤ l.length ∧ spec_l1Has_l1 n (l.drop s) s = some r) (fun s => l.length - s) 0 ⟨Nat.zero_le _, hH⟩ ?_ ?_
  · exact Le.cut 0 0 rfl (by repeat' (first | exact trivial | refine ⟨⟨_, rfl, rfl⟩, ?_⟩)) (by repeat' (first | exact trivial | refine ⟨⟨_, rfl, rfl⟩, ?_⟩)) rfl
  · rintro k1 ⟨hk, hH⟩
    replace hH : spec_l1Has_l1 n (l.drop k1) k1 = some r := hH
    show AW _ _ _ (⟨[(1, .v (.int .i64 n)), (7, .s (List.map encInt l)), (8, .v (.int .i64 (l.length : Int))), (9, .v (.int .i64 (k1 : Int)))], [], 17, []⟩ : St)
    refine AW.boundM (t := 7) (l := l) rfl (fun hb5 => ?_)
    cases hd4 : l.drop k1 with
    | nil =>
      rw [hd4] at hH
      rw [spec_l1Has_l1] at hH
      have hlt6 := drop_ge hd4
      refine AW.seq ?_
      refine AW.region ?_
      refine AO.pure T rfl rfl rfl ?_
      refine AO.nil ?_
      refine AW.seq ?_
      refine AW.condF' (b := decide ((k1 : Int) < (l.length : Int))) rfl (rngF hlt6) ?_
      refine AW.exit ?_
      refine AW.seq ?_
      refine AW.region ?_
      refine AO.pure T rfl rfl rfl ?_
      refine AO.nil ?_
      refine AW.ret ?_
      cases someE hH
      exact ⟨trivial, _, [], rfl, .c (.c .v), by decide⟩
    | cons y2 ys3 =>
      rw [hd4] at hH
      rw [spec_l1Has_l1] at hH
      have hlt6 := drop_lt hd4
      refine AW.seq ?_
      refine AW.region ?_
      refine AO.pure T rfl rfl rfl ?_
      refine AO.nil ?_
      refine AW.seq ?_
      refine AW.condT' (b := decide ((k1 : Int) < (l.length : Int))) rfl (rngT hlt6) ?_
      refine AW.skip ?_
      refine AW.seq ?_
      refine AW.block ?_
      refine AW.seq ?_
      refine AW.region ?_
      refine AO.val rfl rfl (ix_map_ok T rfl rfl rfl rfl rfl (getI_drop hd4) rfl) ?_
      refine AO.pure T rfl rfl rfl ?_
      refine AO.pure T rfl rfl rfl ?_
      refine AO.nil ?_
      refine AW.seq ?_
      refine AW.region ?_
      refine AO.pure T rfl rfl rfl ?_
      refine AO.pure T rfl rfl rfl ?_
      refine AO.pure T rfl rfl rfl ?_
      refine AO.nil ?_
      refine AW.cond (b := (y2 == n)) rfl (fun hc => ?_) (fun hc => ?_)
      · replace hH := condT hc hH
        refine AW.seq ?_
        refine AW.region ?_
        refine AO.pure T rfl rfl rfl ?_
        refine AO.nil ?_
        refine AW.ret ?_
        cases someE hH
        exact ⟨trivial, _, [], rfl, .c (.c .v), by decide⟩
      · replace hH := condF hc hH
        refine AW.skip ?_
        refine AW.region ?_
        refine AO.val rfl rfl (ar_ok rfl rfl rfl rfl (inI_succ hlt6 hb5)) ?_
        refine AO.pure T rfl rfl rfl ?_
        refine AO.nil ?_
        refine ⟨k1 + 1, ⟨Nat.succ_le_of_lt hlt6, (by rw [drop_succ_of hd4]; exact hH)⟩, (by have := hlt6; dsimp only; omega), ?_⟩
        exact Le.cut 0 0 rfl (by repeat' (first | exact trivial | refine ⟨⟨_, rfl, rfl⟩, ?_⟩)) (by repeat' (first | exact trivial | refine ⟨⟨_, rfl, rfl⟩, ?_⟩)) rfl

def spec_soEntrants_l1 (l : List Entrant) : List Entrant → Nat → List Int → List Int → Option Bool
  | [], k1, v33, v34 =>
    some (decide ((l.length : Int) ≤ 40))
  | y2 :: ys3, k1, v33, v34 =>
    (spec_l1In_p y2.skater 1 999).bind fun x36 =>
    (opt (!(!x36)) default (spec_l1In_p y2.rank 0 999)).bind fun x38 =>
    (opt (!((!x36) || (!x38))) default (spec_l1Has_p v33 y2.skater)).bind fun x40 =>
    (opt ((!(((!x36) || (!x38)) || x40)) && decide (y2.rank > 0)) default (spec_l1Has_p v34 y2.rank)).bind fun x42 =>
    cond ((((!x36) || (!x38)) || x40) || (decide (y2.rank > 0) && x42))
      (some false)
      ((need (fitsB 8 (v33.length + ([y2.skater]).length))).bind fun u44 =>
      (need (fitsB 8 (v34.length + ([y2.rank]).length))).bind fun u46 =>
      spec_soEntrants_l1 l ys3 (k1 + 1) (v33 ++ [y2.skater]) (v34 ++ [y2.rank]))
def spec_soEntrants_p (l : List Entrant) : Option Bool :=
  spec_soEntrants_l1 l l 0 [] []
theorem spec_soEntrants_ok (l : List Entrant) (r : Bool) (hH : spec_soEntrants_p l = some r) : SpecR Tryz.prog 105 [.s (List.map encEntrant l)] (.v (.bool r)) := by
  refine fn_ok T Tryz.func105 rfl (by decide) rfl ?_
  refine AW.seq ?_
  refine AW.region ?_
  refine AO.pure T rfl rfl rfl ?_
  refine AO.nil ?_
  refine AW.seq ?_
  refine AW.region ?_
  refine AO.pure T rfl rfl rfl ?_
  refine AO.pure T rfl rfl rfl ?_
  refine AO.nil ?_
  refine AW.seq ?_
  refine AW.seq ?_
  refine AW.region ?_
  refine AO.pure T rfl rfl rfl ?_
  refine AO.val rfl rfl (len_map_ok T rfl rfl rfl) ?_
  refine AO.pure T rfl rfl rfl ?_
  refine AO.nil ?_
  refine AW.block ?_
  refine AW.loopS (fun s : Nat × (List Int) × (List Int) => (⟨[(0, .s (List.map encEntrant l)), (3, .R 8), (4, .R 10), (7, .s (List.map encEntrant l)), (8, .v (.int .i64 (l.length : Int))), (9, .v (.int .i64 (s.1 : Int)))], [(8, .row 1 (List.map encInt s.2.1)), (10, .row 1 (List.map encInt s.2.2))], 54, []⟩ : St)) (fun s => s.1 ≤ l.length ∧ spec_soEntrants_l1 l (l.drop s.1) s.1 s.2.1 s.2.2 = some r) (fun s => l.length - s.1) (0, [], []) ⟨Nat.zero_le _, hH⟩ ?_ ?_
  · refine Le.trans (Le.void 3 8 1 rfl rfl) ?_
    refine Le.trans (Le.void 4 10 1 rfl rfl) ?_
    exact Le.cut 0 0 rfl (by repeat' (first | exact trivial | refine ⟨⟨_, rfl, rfl⟩, ?_⟩)) (by repeat' (first | exact trivial | refine ⟨⟨_, rfl, rfl⟩, ?_⟩)) rfl
  · rintro ⟨k1, v33, v34⟩ ⟨hk, hH⟩
    replace hH : spec_soEntrants_l1 l (l.drop k1) k1 v33 v34 = some r := hH
    show AW _ _ _ (⟨[(0, .s (List.map encEntrant l)), (3, .R 8), (4, .R 10), (7, .s (List.map encEntrant l)), (8, .v (.int .i64 (l.length : Int))), (9, .v (.int .i64 (k1 : Int)))], [(8, .row 1 (List.map encInt v33)), (10, .row 1 (List.map encInt v34))], 54, []⟩ : St)
    refine AW.boundM (t := 0) (l := l) rfl (fun hb5 => ?_)
    cases hd4 : l.drop k1 with
    | nil =>
      rw [hd4] at hH
      rw [spec_soEntrants_l1] at hH
      have hlt6 := drop_ge hd4
      refine AW.seq ?_
      refine AW.region ?_
      refine AO.pure T rfl rfl rfl ?_
      refine AO.nil ?_
      refine AW.seq ?_
      refine AW.condF' (b := decide ((k1 : Int) < (l.length : Int))) rfl (rngF hlt6) ?_
      refine AW.exit ?_
      refine AW.seq ?_
      refine AW.region ?_
      refine AO.pure T rfl rfl rfl ?_
      refine AO.val rfl rfl (len_map_ok T rfl rfl rfl) ?_
      refine AO.pure T rfl rfl rfl ?_
      refine AO.pure T rfl rfl rfl ?_
      refine AO.nil ?_
      refine AW.ret ?_
      cases someE hH
      exact ⟨trivial, _, [], rfl, .c (.c .v), by decide⟩
    | cons y2 ys3 =>
      rw [hd4] at hH
      rw [spec_soEntrants_l1] at hH
      have hlt6 := drop_lt hd4
      refine AW.seq ?_
      refine AW.region ?_
      refine AO.pure T rfl rfl rfl ?_
      refine AO.nil ?_
      refine AW.seq ?_
      refine AW.condT' (b := decide ((k1 : Int) < (l.length : Int))) rfl (rngT hlt6) ?_
      refine AW.skip ?_
      refine AW.seq ?_
      refine AW.block ?_
      refine AW.seq ?_
      refine AW.region ?_
      refine AO.val rfl rfl (ix_map_ok T rfl rfl rfl rfl rfl (getI_drop hd4) rfl) ?_
      refine AO.pure T (d := .g [.v (.int .i64 y2.skater), .v (.int .i64 y2.rank)]) rfl rfl rfl ?_
      refine AO.step rfl (alloc_ok T rfl 11 rfl rfl rfl rfl rfl) ?_
      refine AO.step rfl (store_okE T rfl rfl rfl rfl rfl rfl rfl rfl rfl (ds' := [.v (.int .i64 y2.skater), .v (.int .i64 y2.rank)]) rfl) ?_
      refine AO.nil ?_
      refine AW.seq ?_
      refine AW.seq ?_
      obtain ⟨x36, hx37, hH⟩ := bindE hH
      obtain ⟨x38, hx39, hH⟩ := bindE hH
      obtain ⟨x40, hx41, hH⟩ := bindE hH
      obtain ⟨x42, hx43, hH⟩ := bindE hH
      refine AW.region ?_
      refine AO.pure T rfl rfl rfl ?_
      refine AO.pure T rfl rfl rfl ?_
      refine AO.val rfl rfl (callV_ok rfl rfl rfl rfl (spec_l1In_ok _ _ _ _ (hx37)) rfl) ?_
      refine AO.pure T rfl rfl rfl ?_
      refine AO.pure T rfl rfl rfl ?_
      refine AO.pureG T [] rfl trivial rfl rfl ?_
      refine AO.pureG T [18] rfl ⟨fun h => h, trivial⟩ rfl rfl ?_
      refine AO.guard [19] rfl ⟨fun h => h, trivial⟩ (fun hg => callV_ok rfl rfl rfl rfl (spec_l1In_ok _ _ _ _ (optT hx39 hg)) rfl) rfl ?_
      refine AO.pureG T [20] rfl ⟨fun h => h, trivial⟩ rfl rfl ?_
      refine AO.val rfl rfl (pick_or rfl rfl rfl rfl) ?_
      refine AO.pure T rfl rfl rfl ?_
      refine AO.pureG T [] rfl trivial rfl rfl ?_
      refine AO.pureG T [] rfl trivial rfl rfl ?_
      refine AO.pureG T [25] rfl ⟨fun h => h, trivial⟩ rfl rfl ?_
      refine AO.guard [24, 26] rfl ⟨fun h => h, fun h => h, trivial⟩ (fun hg => callLV_ok rfl rfl rfl (es := [.s (List.map encInt v33), .v (.int .i64 y2.skater)]) ⟨(.rowR rfl (.map fun y => .vs rfl)), .free rfl, trivial⟩ (spec_l1Has_ok _ _ _ (optT hx41 hg)) (zfree_v _) rfl) rfl ?_
      refine AO.val rfl rfl (pick_or rfl rfl rfl rfl) ?_
      refine AO.pure T rfl rfl rfl ?_
      refine AO.pureG T [] rfl trivial rfl rfl ?_
      refine AO.pureG T [30] rfl ⟨fun h => h, trivial⟩ rfl rfl ?_
      refine AO.pureG T [31] rfl ⟨fun h => h, trivial⟩ rfl rfl ?_
      refine AO.pureG T [32] rfl ⟨fun h => h, trivial⟩ rfl rfl ?_
      refine AO.pureG T [] rfl trivial rfl rfl ?_
      refine AO.pureG T [] rfl trivial rfl rfl ?_
      refine AO.pureG T [35] rfl ⟨fun h => h, trivial⟩ rfl rfl ?_
      refine AO.guard [34, 36] rfl ⟨fun h => h, fun h => h, trivial⟩ (fun hg => callLV_ok rfl rfl rfl (es := [.s (List.map encInt v34), .v (.int .i64 y2.rank)]) ⟨(.rowR rfl (.map fun y => .vs rfl)), .free rfl, trivial⟩ (spec_l1Has_ok _ _ _ (optT hx43 hg)) (zfree_v _) rfl) rfl ?_
      refine AO.guard [33] rfl ⟨fun h => h, trivial⟩ (fun hg => pick_and rfl rfl rfl (by rw [hg]; exact Bool.true_and _)) rfl ?_
      refine AO.val rfl rfl (pick_or rfl rfl rfl rfl) ?_
      refine AO.nil ?_
      refine AW.le (Le.cut 0 0 (σ' := (⟨[(0, .s (List.map encEntrant l)), (3, .R 8), (4, .R 10), (6, .p 11 0), (7, .s (List.map encEntrant l)), (8, .v (.int .i64 (l.length : Int))), (9, .v (.int .i64 (k1 : Int))), (39, .v (.bool ((((!x36) || (!x38)) || x40) || (decide (y2.rank > 0) && x42))))], [(8, .row 1 (List.map encInt v33)), (10, .row 1 (List.map encInt v34)), (11, .box [.v (.int .i64 y2.skater), .v (.int .i64 y2.rank)])], 54, []⟩ : St)) rfl (by repeat' (first | exact trivial | refine ⟨⟨_, rfl, rfl⟩, ?_⟩)) (by repeat' (first | exact trivial | refine ⟨⟨_, rfl, rfl⟩, ?_⟩)) rfl) ?_
      refine AW.cond (b := ((((!x36) || (!x38)) || x40) || (decide (y2.rank > 0) && x42))) rfl (fun hc => ?_) (fun hc => ?_)
      · replace hH := condT hc hH
        refine AW.seq ?_
        refine AW.region ?_
        refine AO.pure T rfl rfl rfl ?_
        refine AO.nil ?_
        refine AW.ret ?_
        cases someE hH
        exact ⟨trivial, _, [], rfl, .c (.c .v), by decide⟩
      · replace hH := condF hc hH
        refine AW.skip ?_
        refine AW.seq ?_
        obtain ⟨u44, hx45, hH⟩ := bindE hH
        refine AW.region ?_
        refine AO.pure T rfl rfl rfl ?_
        refine AO.pure T rfl rfl rfl ?_
        refine AO.pure T rfl rfl rfl ?_
        refine AO.step rfl (mk_map_ok T rfl 12 rfl rfl rfl rfl rfl (f := encInt) (l := [y2.skater]) rfl rfl (fun _ => rfl) rfl rfl rfl rfl rfl) ?_
        refine AO.step rfl (app_rv_map T rfl 13 rfl rfl rfl rfl rfl (by decide) rfl rfl rfl rfl (fun _ => rfl) (needT (hx45)) rfl rfl) ?_
        refine AO.pure T rfl rfl rfl ?_
        refine AO.nil ?_
        obtain ⟨u46, hx47, hH⟩ := bindE hH
        refine AW.region ?_
        refine AO.pure T rfl rfl rfl ?_
        refine AO.pure T rfl rfl rfl ?_
        refine AO.pure T rfl rfl rfl ?_
        refine AO.step rfl (mk_map_ok T rfl 14 rfl rfl rfl rfl rfl (f := encInt) (l := [y2.rank]) rfl rfl (fun _ => rfl) rfl rfl rfl rfl rfl) ?_
        refine AO.step rfl (app_rv_map T rfl 15 rfl rfl rfl rfl rfl (by decide) rfl rfl rfl rfl (fun _ => rfl) (needT (hx47)) rfl rfl) ?_
        refine AO.pure T rfl rfl rfl ?_
        refine AO.nil ?_
        refine AW.region ?_
        refine AO.val rfl rfl (ar_ok rfl rfl rfl rfl (inI_succ hlt6 hb5)) ?_
        refine AO.pure T rfl rfl rfl ?_
        refine AO.nil ?_
        refine ⟨(k1 + 1, (v33 ++ [y2.skater]), (v34 ++ [y2.rank])), ⟨Nat.succ_le_of_lt hlt6, (by rw [drop_succ_of hd4]; exact hH)⟩, (by have := hlt6; dsimp only; omega), ?_⟩
        refine Le.trans (Le.cut 13 8 (σ' := (⟨[(0, .s (List.map encEntrant l)), (3, .R 8), (4, .R 15), (7, .s (List.map encEntrant l)), (8, .v (.int .i64 (l.length : Int))), (9, .v (.int .i64 (k1 + 1 : Nat)))], [(8, .row 1 (List.map encInt (v33 ++ [y2.skater]))), (15, .row 1 (List.map encInt (v34 ++ [y2.rank])))], 54, []⟩ : St)) rfl (by repeat' (first | exact trivial | refine ⟨⟨_, rfl, rfl⟩, ?_⟩)) (by repeat' (first | exact trivial | refine ⟨⟨_, rfl, rfl⟩, ?_⟩)) rfl) ?_
        exact Le.cut 15 10 rfl (by repeat' (first | exact trivial | refine ⟨⟨_, rfl, rfl⟩, ?_⟩)) (by repeat' (first | exact trivial | refine ⟨⟨_, rfl, rfl⟩, ?_⟩)) rfl

def spec_l1Rising_l1 (l : List Int) (lo : Int) (hi : Int) : List Int → Nat → Option Bool
  | [], k1 =>
    some true
  | y2 :: ys3, k1 =>
    (spec_l1In_p y2 lo hi).bind fun x16 =>
    (opt ((!(!x16)) && decide ((k1 : Int) > 0)) default (getI l (w64 ((k1 : Int) - 1)))).bind fun x18 =>
    cond ((!x16) || (decide ((k1 : Int) > 0) && decide (x18 ≥ y2)))
      (some false)
      (spec_l1Rising_l1 l lo hi ys3 (k1 + 1))
def spec_l1Rising_p (l : List Int) (lo : Int) (hi : Int) : Option Bool :=
  spec_l1Rising_l1 l lo hi l 0
theorem spec_l1Rising_ok (l : List Int) (lo : Int) (hi : Int) (r : Bool) (hH : spec_l1Rising_p l lo hi = some r) : SpecR Tryz.prog 106 [.s (List.map encInt l), .v (.int .i64 lo), .v (.int .i64 hi)] (.v (.bool r)) := by
  refine fn_ok T Tryz.func106 rfl (by decide) rfl ?_
  refine AW.seq ?_
  refine AW.region ?_
  refine AO.pure T rfl rfl rfl ?_
  refine AO.nil ?_
  refine AW.seq ?_
  refine AW.seq ?_
  refine AW.region ?_
  refine AO.pure T rfl rfl rfl ?_
  refine AO.val rfl rfl (len_map_ok T rfl rfl rfl) ?_
  refine AO.pure T rfl rfl rfl ?_
  refine AO.nil ?_
  refine AW.block ?_
  refine AW.loopS (fun s : Nat => (⟨[(0, .s (List.map encInt l)), (1, .v (.int .i64 lo)), (2, .v (.int .i64 hi)), (9, .s (List.map encInt l)), (10, .v (.int .i64 (l.length : Int))), (11, .v (.int .i64 (s : Int)))], [], 35, []⟩ : St)) (fun s => s ≤ l.length ∧ spec_l1Rising_l1 l lo hi (l.drop s) s = some r) (fun s => l.length - s) 0 ⟨Nat.zero_le _, hH⟩ ?_ ?_
  · exact Le.cut 0 0 rfl (by repeat' (first | exact trivial | refine ⟨⟨_, rfl, rfl⟩, ?_⟩)) (by repeat' (first | exact trivial | refine ⟨⟨_, rfl, rfl⟩, ?_⟩)) rfl
  · rintro k1 ⟨hk, hH⟩
    replace hH : spec_l1Rising_l1 l lo hi (l.drop k1) k1 = some r := hH
    show AW _ _ _ (⟨[(0, .s (List.map encInt l)), (1, .v (.int .i64 lo)), (2, .v (.int .i64 hi)), (9, .s (List.map encInt l)), (10, .v (.int .i64 (l.length : Int))), (11, .v (.int .i64 (k1 : Int)))], [], 35, []⟩ : St)
    refine AW.boundM (t := 0) (l := l) rfl (fun hb5 => ?_)
    cases hd4 : l.drop k1 with
    | nil =>
      rw [hd4] at hH
      rw [spec_l1Rising_l1] at hH
      have hlt6 := drop_ge hd4
      refine AW.seq ?_
      refine AW.region ?_
      refine AO.pure T rfl rfl rfl ?_
      refine AO.nil ?_
      refine AW.seq ?_
      refine AW.condF' (b := decide ((k1 : Int) < (l.length : Int))) rfl (rngF hlt6) ?_
      refine AW.exit ?_
      refine AW.seq ?_
      refine AW.region ?_
      refine AO.pure T rfl rfl rfl ?_
      refine AO.nil ?_
      refine AW.ret ?_
      cases someE hH
      exact ⟨trivial, _, [], rfl, .c (.c .v), by decide⟩
    | cons y2 ys3 =>
      rw [hd4] at hH
      rw [spec_l1Rising_l1] at hH
      have hlt6 := drop_lt hd4
      refine AW.seq ?_
      refine AW.region ?_
      refine AO.pure T rfl rfl rfl ?_
      refine AO.nil ?_
      refine AW.seq ?_
      refine AW.condT' (b := decide ((k1 : Int) < (l.length : Int))) rfl (rngT hlt6) ?_
      refine AW.skip ?_
      refine AW.seq ?_
      refine AW.block ?_
      refine AW.seq ?_
      refine AW.region ?_
      refine AO.pure T rfl rfl rfl ?_
      refine AO.val rfl rfl (ix_map_ok T rfl rfl rfl rfl rfl (getI_drop hd4) rfl) ?_
      refine AO.pure T rfl rfl rfl ?_
      refine AO.pure T rfl rfl rfl ?_
      refine AO.pure T rfl rfl rfl ?_
      refine AO.nil ?_
      refine AW.seq ?_
      obtain ⟨x16, hx17, hH⟩ := bindE hH
      obtain ⟨x18, hx19, hH⟩ := bindE hH
      refine AW.region ?_
      refine AO.pure T rfl rfl rfl ?_
      refine AO.pure T rfl rfl rfl ?_
      refine AO.pure T rfl rfl rfl ?_
      refine AO.val rfl rfl (callV_ok rfl rfl rfl rfl (spec_l1In_ok _ _ _ _ (hx17)) rfl) ?_
      refine AO.pure T rfl rfl rfl ?_
      refine AO.pure T rfl rfl rfl ?_
      refine AO.pureG T [] rfl trivial rfl rfl ?_
      refine AO.pureG T [22] rfl ⟨fun h => h, trivial⟩ rfl rfl ?_
      refine AO.pureG T [23] rfl ⟨fun h => h, trivial⟩ rfl rfl ?_
      refine AO.pureG T [] rfl trivial rfl rfl ?_
      refine AO.pureG T [] rfl trivial rfl rfl ?_
      refine AO.guard [26] rfl ⟨fun h => h, trivial⟩ (fun hg => arw_ok rfl rfl rfl rfl) rfl ?_
      refine AO.guard [25, 27] rfl ⟨fun h => h, fun h => h, trivial⟩ (fun hg => ix_map_ok T rfl rfl rfl rfl rfl (optT hx19 hg) rfl) rfl ?_
      refine AO.pureG T [28] rfl ⟨fun h => h, trivial⟩ rfl rfl ?_
      refine AO.pureG T [] rfl trivial rfl rfl ?_
      refine AO.pureG T [29, 30] rfl ⟨fun h => h, fun h => h, trivial⟩ rfl rfl ?_
      refine AO.guard [24] rfl ⟨fun h => h, trivial⟩ (fun hg => pick_and rfl rfl rfl (by rw [hg]; exact Bool.true_and _)) rfl ?_
      refine AO.val rfl rfl (pick_or rfl rfl rfl rfl) ?_
      refine AO.nil ?_
      refine AW.le (Le.cut 0 0 (σ' := (⟨[(0, .s (List.map encInt l)), (1, .v (.int .i64 lo)), (2, .v (.int .i64 hi)), (9, .s (List.map encInt l)), (10, .v (.int .i64 (l.length : Int))), (11, .v (.int .i64 (k1 : Int))), (33, .v (.bool ((!x16) || (decide ((k1 : Int) > 0) && decide (x18 ≥ y2)))))], [], 35, []⟩ : St)) rfl (by repeat' (first | exact trivial | refine ⟨⟨_, rfl, rfl⟩, ?_⟩)) (by repeat' (first | exact trivial | refine ⟨⟨_, rfl, rfl⟩, ?_⟩)) rfl) ?_
      refine AW.cond (b := ((!x16) || (decide ((k1 : Int) > 0) && decide (x18 ≥ y2)))) rfl (fun hc => ?_) (fun hc => ?_)
      · replace hH := condT hc hH
        refine AW.seq ?_
        refine AW.region ?_
        refine AO.pure T rfl rfl rfl ?_
        refine AO.nil ?_
        refine AW.ret ?_
        cases someE hH
        exact ⟨trivial, _, [], rfl, .c (.c .v), by decide⟩
      · replace hH := condF hc hH
        refine AW.skip ?_
        refine AW.region ?_
        refine AO.val rfl rfl (ar_ok rfl rfl rfl rfl (inI_succ hlt6 hb5)) ?_
        refine AO.pure T rfl rfl rfl ?_
        refine AO.nil ?_
        refine ⟨k1 + 1, ⟨Nat.succ_le_of_lt hlt6, (by rw [drop_succ_of hd4]; exact hH)⟩, (by have := hlt6; dsimp only; omega), ?_⟩
        exact Le.cut 0 0 rfl (by repeat' (first | exact trivial | refine ⟨⟨_, rfl, rfl⟩, ?_⟩)) (by repeat' (first | exact trivial | refine ⟨⟨_, rfl, rfl⟩, ?_⟩)) rfl

def spec_soOrder_l1 (order : List Int) : List Int → Nat → Option Bool
  | [], k1 =>
    some (decide ((order.length : Int) ≤ 40))
  | y2 :: ys3, k1 =>
    (spec_l1In_p y2 1 999).bind fun x20 =>
    (opt (!(!x20)) default (sliceHi order (k1 : Int))).bind fun x22 =>
    (opt (!(!x20)) default (spec_l1Has_p x22 y2)).bind fun x24 =>
    cond ((!x20) || x24)
      (some false)
      (spec_soOrder_l1 order ys3 (k1 + 1))
def spec_soOrder_p (order : List Int) : Option Bool :=
  spec_soOrder_l1 order order 0
theorem spec_soOrder_ok (order : List Int) (r : Bool) (hH : spec_soOrder_p order = some r) : SpecR Tryz.prog 107 [.s (List.map encInt order)] (.v (.bool r)) := by
  refine fn_ok T Tryz.func107 rfl (by decide) rfl ?_
  refine AW.seq ?_
  refine AW.region ?_
  refine AO.pure T rfl rfl rfl ?_
  refine AO.nil ?_
  refine AW.seq ?_
  refine AW.seq ?_
  refine AW.region ?_
  refine AO.pure T rfl rfl rfl ?_
  refine AO.val rfl rfl (len_map_ok T rfl rfl rfl) ?_
  refine AO.pure T rfl rfl rfl ?_
  refine AO.nil ?_
  refine AW.block ?_
  refine AW.loopS (fun s : Nat => (⟨[(0, .s (List.map encInt order)), (5, .s (List.map encInt order)), (6, .v (.int .i64 (order.length : Int))), (7, .v (.int .i64 (s : Int)))], [], 26, []⟩ : St)) (fun s => s ≤ order.length ∧ spec_soOrder_l1 order (order.drop s) s = some r) (fun s => order.length - s) 0 ⟨Nat.zero_le _, hH⟩ ?_ ?_
  · exact Le.cut 0 0 rfl (by repeat' (first | exact trivial | refine ⟨⟨_, rfl, rfl⟩, ?_⟩)) (by repeat' (first | exact trivial | refine ⟨⟨_, rfl, rfl⟩, ?_⟩)) rfl
  · rintro k1 ⟨hk, hH⟩
    replace hH : spec_soOrder_l1 order (order.drop k1) k1 = some r := hH
    show AW _ _ _ (⟨[(0, .s (List.map encInt order)), (5, .s (List.map encInt order)), (6, .v (.int .i64 (order.length : Int))), (7, .v (.int .i64 (k1 : Int)))], [], 26, []⟩ : St)
    refine AW.boundM (t := 0) (l := order) rfl (fun hb5 => ?_)
    cases hd4 : order.drop k1 with
    | nil =>
      rw [hd4] at hH
      rw [spec_soOrder_l1] at hH
      have hlt6 := drop_ge hd4
      refine AW.seq ?_
      refine AW.region ?_
      refine AO.pure T rfl rfl rfl ?_
      refine AO.nil ?_
      refine AW.seq ?_
      refine AW.condF' (b := decide ((k1 : Int) < (order.length : Int))) rfl (rngF hlt6) ?_
      refine AW.exit ?_
      refine AW.seq ?_
      refine AW.region ?_
      refine AO.pure T rfl rfl rfl ?_
      refine AO.val rfl rfl (len_map_ok T rfl rfl rfl) ?_
      refine AO.pure T rfl rfl rfl ?_
      refine AO.pure T rfl rfl rfl ?_
      refine AO.nil ?_
      refine AW.ret ?_
      cases someE hH
      exact ⟨trivial, _, [], rfl, .c (.c .v), by decide⟩
    | cons y2 ys3 =>
      rw [hd4] at hH
      rw [spec_soOrder_l1] at hH
      have hlt6 := drop_lt hd4
      refine AW.seq ?_
      refine AW.region ?_
      refine AO.pure T rfl rfl rfl ?_
      refine AO.nil ?_
      refine AW.seq ?_
      refine AW.condT' (b := decide ((k1 : Int) < (order.length : Int))) rfl (rngT hlt6) ?_
      refine AW.skip ?_
      refine AW.seq ?_
      refine AW.block ?_
      refine AW.seq ?_
      refine AW.region ?_
      refine AO.pure T rfl rfl rfl ?_
      refine AO.val rfl rfl (ix_map_ok T rfl rfl rfl rfl rfl (getI_drop hd4) rfl) ?_
      refine AO.pure T rfl rfl rfl ?_
      refine AO.pure T rfl rfl rfl ?_
      refine AO.pure T rfl rfl rfl ?_
      refine AO.nil ?_
      refine AW.seq ?_
      obtain ⟨x20, hx21, hH⟩ := bindE hH
      obtain ⟨x22, hx23, hH⟩ := bindE hH
      obtain ⟨x24, hx25, hH⟩ := bindE hH
      refine AW.region ?_
      refine AO.pure T rfl rfl rfl ?_
      refine AO.val rfl rfl (callV_ok rfl rfl rfl rfl (spec_l1In_ok _ _ _ _ (hx21)) rfl) ?_
      refine AO.pure T rfl rfl rfl ?_
      refine AO.pure T rfl rfl rfl ?_
      refine AO.pureG T [] rfl trivial rfl rfl ?_
      refine AO.pureG T [] rfl trivial rfl rfl ?_
      refine AO.guard [16, 17] rfl ⟨fun h => h, fun h => h, trivial⟩ (fun hg => slice_hi_map_ok T rfl rfl rfl rfl rfl (optT hx23 hg) (fun _ => rfl)) rfl ?_
      refine AO.pureG T [] rfl trivial rfl rfl ?_
      refine AO.guard [18, 19] rfl ⟨fun h => h, fun h => h, trivial⟩ (fun hg => callV_ok rfl rfl rfl rfl (spec_l1Has_ok _ _ _ (optT hx25 hg)) rfl) rfl ?_
      refine AO.val rfl rfl (pick_or rfl rfl rfl rfl) ?_
      refine AO.nil ?_
      refine AW.cond (b := ((!x20) || x24)) rfl (fun hc => ?_) (fun hc => ?_)
      · replace hH := condT hc hH
        refine AW.seq ?_
        refine AW.region ?_
        refine AO.pure T rfl rfl rfl ?_
        refine AO.nil ?_
        refine AW.ret ?_
        cases someE hH
        exact ⟨trivial, _, [], rfl, .c (.c .v), by decide⟩
      · replace hH := condF hc hH
        refine AW.skip ?_
        refine AW.region ?_
        refine AO.val rfl rfl (ar_ok rfl rfl rfl rfl (inI_succ hlt6 hb5)) ?_
        refine AO.pure T rfl rfl rfl ?_
        refine AO.nil ?_
        refine ⟨k1 + 1, ⟨Nat.succ_le_of_lt hlt6, (by rw [drop_succ_of hd4]; exact hH)⟩, (by have := hlt6; dsimp only; omega), ?_⟩
        exact Le.cut 0 0 rfl (by repeat' (first | exact trivial | refine ⟨⟨_, rfl, rfl⟩, ?_⟩)) (by repeat' (first | exact trivial | refine ⟨⟨_, rfl, rfl⟩, ?_⟩)) rfl

def spec_rkResult_l1 (rA : Result) : List Int → Nat → Bool → Option Bool
  | [], k1, v12 =>
    (spec_l1In_p rA.skater 1 999).bind fun x14 =>
    (opt x14 default (spec_l1In_p (rA.scores.length : Int) 1 3)).bind fun x16 =>
    some (x14 && x16)
  | y2 :: ys3, k1, v12 =>
    (spec_l1In_p y2 (-1) 100000).bind fun x18 =>
    cond ((!x18) || (v12 && decide (y2 ≥ 0)))
      (some false)
      (spec_rkResult_l1 rA ys3 (k1 + 1) (decide (y2 < 0)))
def spec_rkResult_p (rA : Result) : Option Bool :=
  spec_rkResult_l1 rA rA.scores 0 false
theorem spec_rkResult_ok (rA : Result) (r : Bool) (hH : spec_rkResult_p rA = some r) : SpecR Tryz.prog 136 [.g (encResult rA)] (.v (.bool r)) := by
  refine fn_ok T Tryz.func136 rfl (by decide) rfl ?_
  refine AW.seq ?_
  refine AW.region ?_
  refine AO.step rfl (box_ok T rfl 1 rfl rfl rfl rfl) ?_
  refine AO.pure T rfl rfl rfl ?_
  refine AO.nil ?_
  refine AW.seq ?_
  refine AW.region ?_
  refine AO.pure T rfl rfl rfl ?_
  refine AO.nil ?_
  refine AW.seq ?_
  refine AW.seq ?_
  refine AW.region ?_
  refine AO.pure T rfl rfl rfl ?_
  refine AO.pure T rfl rfl rfl ?_
  refine AO.val rfl rfl (len_map_ok T rfl rfl rfl) ?_
  refine AO.pure T rfl rfl rfl ?_
  refine AO.nil ?_
  refine AW.block ?_
  refine AW.loopS (fun s : Nat × Bool => (⟨[(1, .p 1 0), (3, .v (.bool s.2)), (7, .s (List.map encInt rA.scores)), (8, .v (.int .i64 (rA.scores.length : Int))), (9, .v (.int .i64 (s.1 : Int)))], [(1, .box [.v (.int .i64 rA.skater), .s (List.map encInt rA.scores)])], 35, []⟩ : St)) (fun s => s.1 ≤ rA.scores.length ∧ spec_rkResult_l1 rA (rA.scores.drop s.1) s.1 s.2 = some r) (fun s => rA.scores.length - s.1) (0, false) ⟨Nat.zero_le _, hH⟩ ?_ ?_
  · exact Le.cut 0 0 rfl (by repeat' (first | exact trivial | refine ⟨⟨_, rfl, rfl⟩, ?_⟩)) (by repeat' (first | exact trivial | refine ⟨⟨_, rfl, rfl⟩, ?_⟩)) rfl
  · rintro ⟨k1, v12⟩ ⟨hk, hH⟩
    replace hH : spec_rkResult_l1 rA (rA.scores.drop k1) k1 v12 = some r := hH
    show AW _ _ _ (⟨[(1, .p 1 0), (3, .v (.bool v12)), (7, .s (List.map encInt rA.scores)), (8, .v (.int .i64 (rA.scores.length : Int))), (9, .v (.int .i64 (k1 : Int)))], [(1, .box [.v (.int .i64 rA.skater), .s (List.map encInt rA.scores)])], 35, []⟩ : St)
    refine AW.boundM (t := 7) (l := rA.scores) rfl (fun hb5 => ?_)
    cases hd4 : rA.scores.drop k1 with
    | nil =>
      rw [hd4] at hH
      rw [spec_rkResult_l1] at hH
      have hlt6 := drop_ge hd4
      refine AW.seq ?_
      refine AW.region ?_
      refine AO.pure T rfl rfl rfl ?_
      refine AO.nil ?_
      refine AW.seq ?_
      refine AW.condF' (b := decide ((k1 : Int) < (rA.scores.length : Int))) rfl (rngF hlt6) ?_
      refine AW.exit ?_
      refine AW.seq ?_
      obtain ⟨x14, hx15, hH⟩ := bindE hH
      obtain ⟨x16, hx17, hH⟩ := bindE hH
      refine AW.region ?_
      refine AO.pure T rfl rfl rfl ?_
      refine AO.pure T rfl rfl rfl ?_
      refine AO.val rfl rfl (callV_ok rfl rfl rfl rfl (spec_l1In_ok _ _ _ _ (hx15)) rfl) ?_
      refine AO.pure T rfl rfl rfl ?_
      refine AO.pureG T [] rfl trivial rfl rfl ?_
      refine AO.pureG T [30] rfl ⟨fun h => h, trivial⟩ rfl rfl ?_
      refine AO.guard [31] rfl ⟨fun h => h, trivial⟩ (fun hg => len_map_ok T rfl rfl rfl) rfl ?_
      refine AO.guard [32] rfl ⟨fun h => h, trivial⟩ (fun hg => callV_ok rfl rfl rfl rfl (spec_l1In_ok _ _ _ _ (optT hx17 hg)) rfl) rfl ?_
      refine AO.val rfl rfl (pick_and rfl rfl rfl rfl) ?_
      refine AO.pure T rfl rfl rfl ?_
      refine AO.nil ?_
      refine AW.ret ?_
      cases someE hH
      exact ⟨trivial, _, [], rfl, .c (.c .v), by decide⟩
    | cons y2 ys3 =>
      rw [hd4] at hH
      rw [spec_rkResult_l1] at hH
      have hlt6 := drop_lt hd4
      refine AW.seq ?_
      refine AW.region ?_
      refine AO.pure T rfl rfl rfl ?_
      refine AO.nil ?_
      refine AW.seq ?_
      refine AW.condT' (b := decide ((k1 : Int) < (rA.scores.length : Int))) rfl (rngT hlt6) ?_
      refine AW.skip ?_
      refine AW.seq ?_
      refine AW.block ?_
      refine AW.seq ?_
      refine AW.region ?_
      refine AO.val rfl rfl (ix_map_ok T rfl rfl rfl rfl rfl (getI_drop hd4) rfl) ?_
      refine AO.pure T rfl rfl rfl ?_
      refine AO.pure T rfl rfl rfl ?_
      refine AO.nil ?_
      refine AW.seq ?_
      refine AW.seq ?_
      obtain ⟨x18, hx19, hH⟩ := bindE hH
      refine AW.region ?_
      refine AO.pure T rfl rfl rfl ?_
      refine AO.val rfl rfl (callV_ok rfl rfl rfl rfl (spec_l1In_ok _ _ _ _ (hx19)) rfl) ?_
      refine AO.pure T rfl rfl rfl ?_
      refine AO.pure T rfl rfl rfl ?_
      refine AO.pureG T [] rfl trivial rfl rfl ?_
      refine AO.pureG T [17] rfl ⟨fun h => h, trivial⟩ rfl rfl ?_
      refine AO.pureG T [] rfl trivial rfl rfl ?_
      refine AO.pureG T [19] rfl ⟨fun h => h, trivial⟩ rfl rfl ?_
      refine AO.guard [18] rfl ⟨fun h => h, trivial⟩ (fun hg => pick_and rfl rfl rfl (by rw [hg]; exact Bool.true_and _)) rfl ?_
      refine AO.val rfl rfl (pick_or rfl rfl rfl rfl) ?_
      refine AO.nil ?_
      refine AW.cond (b := ((!x18) || (v12 && decide (y2 ≥ 0)))) rfl (fun hc => ?_) (fun hc => ?_)
      · replace hH := condT hc hH
        refine AW.seq ?_
        refine AW.region ?_
        refine AO.pure T rfl rfl rfl ?_
        refine AO.nil ?_
        refine AW.ret ?_
        cases someE hH
        exact ⟨trivial, _, [], rfl, .c (.c .v), by decide⟩
      · replace hH := condF hc hH
        refine AW.skip ?_
        refine AW.region ?_
        refine AO.pure T rfl rfl rfl ?_
        refine AO.pure T rfl rfl rfl ?_
        refine AO.pure T rfl rfl rfl ?_
        refine AO.nil ?_
        refine AW.region ?_
        refine AO.val rfl rfl (ar_ok rfl rfl rfl rfl (inI_succ hlt6 hb5)) ?_
        refine AO.pure T rfl rfl rfl ?_
        refine AO.nil ?_
        refine ⟨(k1 + 1, decide (y2 < 0)), ⟨Nat.succ_le_of_lt hlt6, (by rw [drop_succ_of hd4]; exact hH)⟩, (by have := hlt6; dsimp only; omega), ?_⟩
        exact Le.cut 0 0 rfl (by repeat' (first | exact trivial | refine ⟨⟨_, rfl, rfl⟩, ?_⟩)) (by repeat' (first | exact trivial | refine ⟨⟨_, rfl, rfl⟩, ?_⟩)) rfl

def spec_rkGood_l1 (l : List Result) : List Result → Nat → List Int → Option Bool
  | [], k1, v24 =>
    some (decide ((l.length : Int) ≤ 40))
  | y2 :: ys3, k1, v24 =>
    (spec_rkResult_p y2).bind fun x26 =>
    (opt (!(!x26)) default (spec_l1Has_p v24 y2.skater)).bind fun x28 =>
    (opt (!((!x26) || x28)) default (getI l 0)).bind fun x30 =>
    cond (((!x26) || x28) || ((y2.scores.length : Int) != (x30.scores.length : Int)))
      (some false)
      ((need (fitsB 8 (v24.length + ([y2.skater]).length))).bind fun u32 =>
      spec_rkGood_l1 l ys3 (k1 + 1) (v24 ++ [y2.skater]))
def spec_rkGood_p (l : List Result) : Option Bool :=
  spec_rkGood_l1 l l 0 []
theorem spec_rkGood_ok (l : List Result) (r : Bool) (hH : spec_rkGood_p l = some r) : SpecR Tryz.prog 108 [.s (List.map encResult l)] (.v (.bool r)) := by
  refine fn_ok T Tryz.func108 rfl (by decide) rfl ?_
  refine AW.seq ?_
  refine AW.region ?_
  refine AO.pure T rfl rfl rfl ?_
  refine AO.nil ?_
  refine AW.seq ?_
  refine AW.region ?_
  refine AO.pure T rfl rfl rfl ?_
  refine AO.nil ?_
  refine AW.seq ?_
  refine AW.seq ?_
  refine AW.region ?_
  refine AO.pure T rfl rfl rfl ?_
  refine AO.val rfl rfl (len_map_ok T rfl rfl rfl) ?_
  refine AO.pure T rfl rfl rfl ?_
  refine AO.nil ?_
  refine AW.block ?_
  refine AW.loopS (fun s : Nat × (List Int) => (⟨[(0, .s (List.map encResult l)), (3, .R 6), (6, .s (List.map encResult l)), (7, .v (.int .i64 (l.length : Int))), (8, .v (.int .i64 (s.1 : Int)))], [(6, .row 1 (List.map encInt s.2))], 41, []⟩ : St)) (fun s => s.1 ≤ l.length ∧ spec_rkGood_l1 l (l.drop s.1) s.1 s.2 = some r) (fun s => l.length - s.1) (0, []) ⟨Nat.zero_le _, hH⟩ ?_ ?_
  · refine Le.trans (Le.void 3 6 1 rfl rfl) ?_
    exact Le.cut 0 0 rfl (by repeat' (first | exact trivial | refine ⟨⟨_, rfl, rfl⟩, ?_⟩)) (by repeat' (first | exact trivial | refine ⟨⟨_, rfl, rfl⟩, ?_⟩)) rfl
  · rintro ⟨k1, v24⟩ ⟨hk, hH⟩
    replace hH : spec_rkGood_l1 l (l.drop k1) k1 v24 = some r := hH
    show AW _ _ _ (⟨[(0, .s (List.map encResult l)), (3, .R 6), (6, .s (List.map encResult l)), (7, .v (.int .i64 (l.length : Int))), (8, .v (.int .i64 (k1 : Int)))], [(6, .row 1 (List.map encInt v24))], 41, []⟩ : St)
    refine AW.boundM (t := 0) (l := l) rfl (fun hb5 => ?_)
    cases hd4 : l.drop k1 with
    | nil =>
      rw [hd4] at hH
      rw [spec_rkGood_l1] at hH
      have hlt6 := drop_ge hd4
      refine AW.seq ?_
      refine AW.region ?_
      refine AO.pure T rfl rfl rfl ?_
      refine AO.nil ?_
      refine AW.seq ?_
      refine AW.condF' (b := decide ((k1 : Int) < (l.length : Int))) rfl (rngF hlt6) ?_
      refine AW.exit ?_
      refine AW.seq ?_
      refine AW.region ?_
      refine AO.pure T rfl rfl rfl ?_
      refine AO.val rfl rfl (len_map_ok T rfl rfl rfl) ?_
      refine AO.pure T rfl rfl rfl ?_
      refine AO.pure T rfl rfl rfl ?_
      refine AO.nil ?_
      refine AW.ret ?_
      cases someE hH
      exact ⟨trivial, _, [], rfl, .c (.c .v), by decide⟩
    | cons y2 ys3 =>
      rw [hd4] at hH
      rw [spec_rkGood_l1] at hH
      have hlt6 := drop_lt hd4
      refine AW.seq ?_
      refine AW.region ?_
      refine AO.pure T rfl rfl rfl ?_
      refine AO.nil ?_
      refine AW.seq ?_
      refine AW.condT' (b := decide ((k1 : Int) < (l.length : Int))) rfl (rngT hlt6) ?_
      refine AW.skip ?_
      refine AW.seq ?_
      refine AW.block ?_
      refine AW.seq ?_
      refine AW.region ?_
      refine AO.val rfl rfl (ix_map_ok T rfl rfl rfl rfl rfl (getI_drop hd4) rfl) ?_
      refine AO.pure T (d := .g [.v (.int .i64 y2.skater), .s (List.map encInt y2.scores)]) rfl rfl rfl ?_
      refine AO.step rfl (alloc_ok T rfl 7 rfl rfl rfl rfl rfl) ?_
      refine AO.step rfl (store_okE T rfl rfl rfl rfl rfl rfl rfl rfl rfl (ds' := [.v (.int .i64 y2.skater), .s (List.map encInt y2.scores)]) rfl) ?_
      refine AO.nil ?_
      refine AW.seq ?_
      refine AW.seq ?_
      obtain ⟨x26, hx27, hH⟩ := bindE hH
      obtain ⟨x28, hx29, hH⟩ := bindE hH
      obtain ⟨x30, hx31, hH⟩ := bindE hH
      refine AW.drawn 18 8 [] mix (by kernel_rfl) rfl ?_
      refine AD.pure T (d := .g [.v (.int .i64 y2.skater), .s (List.map encInt y2.scores)]) rfl rfl rfl ?_
      refine AD.val rfl rfl (callV_ok rfl rfl rfl rfl (spec_rkResult_ok _ _ (hx27)) rfl) ?_
      refine AD.pure T rfl rfl rfl ?_
      refine AD.pure T rfl rfl rfl ?_
      refine AD.pureG T [] rfl trivial rfl rfl ?_
      refine AD.pureG T [] rfl trivial rfl rfl ?_
      refine AD.pureG T [17] rfl ⟨fun h => h, trivial⟩ rfl rfl ?_
      refine AD.guard [16, 18] rfl ⟨fun h => h, fun h => h, trivial⟩ (fun hg => callLV_ok rfl rfl rfl (es := [.s (List.map encInt v24), .v (.int .i64 y2.skater)]) ⟨(.rowR rfl (.map fun y => .vs rfl)), .free rfl, trivial⟩ (spec_l1Has_ok _ _ _ (optT hx29 hg)) (zfree_v _) rfl) rfl ?_
      refine AD.val rfl rfl (pick_or rfl rfl rfl rfl) ?_
      refine AD.pure T rfl rfl rfl ?_
      refine AD.pureG T [] rfl trivial rfl rfl ?_
      refine AD.pureG T [22] rfl ⟨fun h => h, trivial⟩ rfl rfl ?_
      refine AD.guard [23] rfl ⟨fun h => h, trivial⟩ (fun hg => len_map_ok T rfl rfl rfl) rfl ?_
      refine AD.pureG T [] rfl trivial rfl rfl ?_
      refine AD.guard [25] rfl ⟨fun h => h, trivial⟩ (fun hg => ix_map_ok T rfl rfl rfl rfl rfl (optT hx31 hg) rfl) rfl ?_
      refine AD.pureG T [26] rfl ⟨fun h => h, trivial⟩ rfl rfl ?_
      refine AD.pureG T [27] rfl ⟨fun h => h, trivial⟩ rfl rfl ?_
      refine AD.guard [28] rfl ⟨fun h => h, trivial⟩ (fun hg => len_map_ok T rfl rfl rfl) rfl ?_
      refine AD.nil ?_
      refine AO.pureG T [24, 29] rfl ⟨fun h => h, fun h => h, trivial⟩ rfl rfl ?_
      refine AO.val rfl rfl (pick_or rfl rfl rfl rfl) ?_
      refine AO.nil ?_
      refine AW.le (Le.cut 0 0 (σ' := (⟨[(0, .s (List.map encResult l)), (3, .R 6), (5, .p 7 0), (6, .s (List.map encResult l)), (7, .v (.int .i64 (l.length : Int))), (8, .v (.int .i64 (k1 : Int))), (31, .v (.bool (((!x26) || x28) || ((y2.scores.length : Int) != (x30.scores.length : Int)))))], [(6, .row 1 (List.map encInt v24)), (7, .box [.v (.int .i64 y2.skater), .s (List.map encInt y2.scores)])], 41, []⟩ : St)) rfl (by repeat' (first | exact trivial | refine ⟨⟨_, rfl, rfl⟩, ?_⟩)) (by repeat' (first | exact trivial | refine ⟨⟨_, rfl, rfl⟩, ?_⟩)) rfl) ?_
      refine AW.cond (b := (((!x26) || x28) || ((y2.scores.length : Int) != (x30.scores.length : Int)))) rfl (fun hc => ?_) (fun hc => ?_)
      · replace hH := condT hc hH
        refine AW.seq ?_
        refine AW.region ?_
        refine AO.pure T rfl rfl rfl ?_
        refine AO.nil ?_
        refine AW.ret ?_
        cases someE hH
        exact ⟨trivial, _, [], rfl, .c (.c .v), by decide⟩
      · replace hH := condF hc hH
        refine AW.skip ?_
        obtain ⟨u32, hx33, hH⟩ := bindE hH
        refine AW.region ?_
        refine AO.pure T rfl rfl rfl ?_
        refine AO.pure T rfl rfl rfl ?_
        refine AO.pure T rfl rfl rfl ?_
        refine AO.step rfl (mk_map_ok T rfl 8 rfl rfl rfl rfl rfl (f := encInt) (l := [y2.skater]) rfl rfl (fun _ => rfl) rfl rfl rfl rfl rfl) ?_
        refine AO.step rfl (app_rv_map T rfl 9 rfl rfl rfl rfl rfl (by decide) rfl rfl rfl rfl (fun _ => rfl) (needT (hx33)) rfl rfl) ?_
        refine AO.pure T rfl rfl rfl ?_
        refine AO.nil ?_
        refine AW.region ?_
        refine AO.val rfl rfl (ar_ok rfl rfl rfl rfl (inI_succ hlt6 hb5)) ?_
        refine AO.pure T rfl rfl rfl ?_
        refine AO.nil ?_
        refine ⟨(k1 + 1, (v24 ++ [y2.skater])), ⟨Nat.succ_le_of_lt hlt6, (by rw [drop_succ_of hd4]; exact hH)⟩, (by have := hlt6; dsimp only; omega), ?_⟩
        exact Le.cut 9 6 rfl (by repeat' (first | exact trivial | refine ⟨⟨_, rfl, rfl⟩, ?_⟩)) (by repeat' (first | exact trivial | refine ⟨⟨_, rfl, rfl⟩, ?_⟩)) rfl

def spec_l1Own_p (l : List Int) : Option (List Int) :=
  (need (fitsB 8 l.length)).bind fun u1 =>
  some l
theorem spec_l1Own_ok (l : List Int) (r : (List Int)) (hH : spec_l1Own_p l = some r) : SpecR Tryz.prog 73 [.s (List.map encInt l)] (.w 1 (r.map encInt)) := by
  refine fn_ok T Tryz.func73 rfl (by decide) rfl ?_
  refine AW.seq ?_
  refine AW.region ?_
  refine AO.pure T rfl rfl rfl ?_
  refine AO.nil ?_
  refine AW.seq ?_
  obtain ⟨u1, hx2, hH⟩ := bindE hH
  refine AW.region ?_
  refine AO.step rfl (mk0_ok T rfl rfl rfl rfl) ?_
  refine AO.pure T rfl rfl rfl ?_
  refine AO.step rfl (app_ws_map T rfl 1 rfl rfl rfl rfl rfl (by decide) (by decide) rfl rfl (fun _ => rfl) (needT (hx2)) rfl rfl) ?_
  refine AO.pure T rfl rfl rfl ?_
  refine AO.nil ?_
  refine AW.ret ?_
  cases someE hH
  exact ⟨trivial, _, [1], rfl, .c (.c (.rowR rfl)), by decide⟩

def spec_evHead_l2 (e : Event) (v32 : List Int) (x34 : (List Int)) : Nat → Int → Option Bool
  | 0, _ => none
  | k38 + 1, v48 =>
    cond (decide (v48 < (((x34 ++ e.order)).length : Int)))
      ((getI (x34 ++ e.order) v48).bind fun x50 =>
      (spec_l1Has_p v32 x50).bind fun x52 =>
      cond (!x52)
        (some false)
        (spec_evHead_l2 e v32 x34 k38 (w64 (v48 + 1))))
      (some true)
def spec_evHead_l1 (e : Event) (fuel : Nat) : List Entrant → Nat → List Int → Option Bool
  | [], k17, v32 =>
    (spec_l1Own_p e.gone).bind fun x34 =>
    (need (fitsB 8 (x34.length + e.order.length))).bind fun u36 =>
    spec_evHead_l2 e v32 x34 fuel 0
  | y18 :: ys19, k17, v32 =>
    (getI e.results (k17 : Int)).bind fun x54 =>
    cond ((x54.skater != y18.skater) || ((x54.scores.length : Int) != e.segments))
      (some false)
      ((need (fitsB 8 (v32.length + ([y18.skater]).length))).bind fun u56 =>
      spec_evHead_l1 e fuel ys19 (k17 + 1) (v32 ++ [y18.skater]))
def spec_evHead_p (fuel : Nat) (e : Event) : Option Bool :=
  (spec_l1In_p e.segments 1 3).bind fun x1 =>
  (opt (!(!x1)) default (spec_soSize_p e.size)).bind fun x3 =>
  (opt (!((!x1) || (!x3))) default (spec_l1In_p e.key 0 1000000000)).bind fun x5 =>
  (opt (!(((!x1) || (!x3)) || (!x5))) default (spec_soEntrants_p e.entrants)).bind fun x7 =>
  (opt (!((((!x1) || (!x3)) || (!x5)) || (!x7))) default (spec_l1Rising_p e.gone 1 999)).bind fun x9 =>
  (opt (!(((((!x1) || (!x3)) || (!x5)) || (!x7)) || (!x9))) default (spec_l1In_p e.segment 0 e.segments)).bind fun x11 =>
  (opt (!((((((!x1) || (!x3)) || (!x5)) || (!x7)) || (!x9)) || (!x11))) default (spec_soOrder_p e.order)).bind fun x13 =>
  (opt (!(((((((!x1) || (!x3)) || (!x5)) || (!x7)) || (!x9)) || (!x11)) || (!x13))) default (spec_rkGood_p e.results)).bind fun x15 =>
  cond (((((((((!x1) || (!x3)) || (!x5)) || (!x7)) || (!x9)) || (!x11)) || (!x13)) || (!x15)) || ((e.results.length : Int) != (e.entrants.length : Int)))
    (some false)
    (spec_evHead_l1 e fuel e.entrants 0 [])
theorem spec_evHead_ok (fuel : Nat) (e : Event) (r : Bool) (hH : spec_evHead_p fuel e = some r) : SpecR Tryz.prog 69 [.g (encEvent e)] (.v (.bool r)) := by
  refine fn_ok T Tryz.func69 rfl (by decide) rfl ?_
  refine AW.seq ?_
  refine AW.region ?_
  refine AO.step rfl (box_ok T rfl 1 rfl rfl rfl rfl) ?_
  refine AO.pure T rfl rfl rfl ?_
  refine AO.nil ?_
  refine AW.seq ?_
  refine AW.seq ?_
  obtain ⟨x1, hx2, hH⟩ := bindE hH
  obtain ⟨x3, hx4, hH⟩ := bindE hH
  obtain ⟨x5, hx6, hH⟩ := bindE hH
  obtain ⟨x7, hx8, hH⟩ := bindE hH
  obtain ⟨x9, hx10, hH⟩ := bindE hH
  obtain ⟨x11, hx12, hH⟩ := bindE hH
  obtain ⟨x13, hx14, hH⟩ := bindE hH
  obtain ⟨x15, hx16, hH⟩ := bindE hH
  refine AW.region ?_
  refine AO.pure T rfl rfl rfl ?_
  refine AO.pure T rfl rfl rfl ?_
  refine AO.val rfl rfl (callV_ok rfl rfl rfl rfl (spec_l1In_ok _ _ _ _ (hx2)) rfl) ?_
  refine AO.pure T rfl rfl rfl ?_
  refine AO.pure T rfl rfl rfl ?_
  refine AO.pureG T [] rfl trivial rfl rfl ?_
  refine AO.pureG T [13] rfl ⟨fun h => h, trivial⟩ rfl rfl ?_
  refine AO.guard [14] rfl ⟨fun h => h, trivial⟩ (fun hg => callV_ok rfl rfl rfl rfl (spec_soSize_ok _ _ (optT hx4 hg)) rfl) rfl ?_
  refine AO.pureG T [15] rfl ⟨fun h => h, trivial⟩ rfl rfl ?_
  refine AO.val rfl rfl (pick_or rfl rfl rfl rfl) ?_
  refine AO.pure T rfl rfl rfl ?_
  refine AO.pureG T [] rfl trivial rfl rfl ?_
  refine AO.pureG T [19] rfl ⟨fun h => h, trivial⟩ rfl rfl ?_
  refine AO.guard [20] rfl ⟨fun h => h, trivial⟩ (fun hg => callV_ok rfl rfl rfl rfl (spec_l1In_ok _ _ _ _ (optT hx6 hg)) rfl) rfl ?_
  refine AO.pureG T [21] rfl ⟨fun h => h, trivial⟩ rfl rfl ?_
  refine AO.val rfl rfl (pick_or rfl rfl rfl rfl) ?_
  refine AO.pure T rfl rfl rfl ?_
  refine AO.pureG T [] rfl trivial rfl rfl ?_
  refine AO.pureG T [25] rfl ⟨fun h => h, trivial⟩ rfl rfl ?_
  refine AO.guard [26] rfl ⟨fun h => h, trivial⟩ (fun hg => callV_ok rfl rfl rfl rfl (spec_soEntrants_ok _ _ (optT hx8 hg)) rfl) rfl ?_
  refine AO.pureG T [27] rfl ⟨fun h => h, trivial⟩ rfl rfl ?_
  refine AO.val rfl rfl (pick_or rfl rfl rfl rfl) ?_
  refine AO.pure T rfl rfl rfl ?_
  refine AO.pureG T [] rfl trivial rfl rfl ?_
  refine AO.pureG T [31] rfl ⟨fun h => h, trivial⟩ rfl rfl ?_
  refine AO.guard [32] rfl ⟨fun h => h, trivial⟩ (fun hg => callV_ok rfl rfl rfl rfl (spec_l1Rising_ok _ _ _ _ (optT hx10 hg)) rfl) rfl ?_
  refine AO.pureG T [33] rfl ⟨fun h => h, trivial⟩ rfl rfl ?_
  refine AO.val rfl rfl (pick_or rfl rfl rfl rfl) ?_
  refine AO.pure T rfl rfl rfl ?_
  refine AO.pureG T [] rfl trivial rfl rfl ?_
  refine AO.pureG T [37] rfl ⟨fun h => h, trivial⟩ rfl rfl ?_
  refine AO.pureG T [] rfl trivial rfl rfl ?_
  refine AO.pureG T [39] rfl ⟨fun h => h, trivial⟩ rfl rfl ?_
  refine AO.guard [38, 40] rfl ⟨fun h => h, fun h => h, trivial⟩ (fun hg => callV_ok rfl rfl rfl rfl (spec_l1In_ok _ _ _ _ (optT hx12 hg)) rfl) rfl ?_
  refine AO.pureG T [41] rfl ⟨fun h => h, trivial⟩ rfl rfl ?_
  refine AO.val rfl rfl (pick_or rfl rfl rfl rfl) ?_
  refine AO.pure T rfl rfl rfl ?_
  refine AO.pureG T [] rfl trivial rfl rfl ?_
  refine AO.pureG T [45] rfl ⟨fun h => h, trivial⟩ rfl rfl ?_
  refine AO.guard [46] rfl ⟨fun h => h, trivial⟩ (fun hg => callV_ok rfl rfl rfl rfl (spec_soOrder_ok _ _ (optT hx14 hg)) rfl) rfl ?_
  refine AO.pureG T [47] rfl ⟨fun h => h, trivial⟩ rfl rfl ?_
  refine AO.val rfl rfl (pick_or rfl rfl rfl rfl) ?_
  refine AO.pure T rfl rfl rfl ?_
  refine AO.pureG T [] rfl trivial rfl rfl ?_
  refine AO.pureG T [51] rfl ⟨fun h => h, trivial⟩ rfl rfl ?_
  refine AO.guard [52] rfl ⟨fun h => h, trivial⟩ (fun hg => callV_ok rfl rfl rfl rfl (spec_rkGood_ok _ _ (optT hx16 hg)) rfl) rfl ?_
  refine AO.pureG T [53] rfl ⟨fun h => h, trivial⟩ rfl rfl ?_
  refine AO.val rfl rfl (pick_or rfl rfl rfl rfl) ?_
  refine AO.pure T rfl rfl rfl ?_
  refine AO.pureG T [] rfl trivial rfl rfl ?_
  refine AO.pureG T [57] rfl ⟨fun h => h, trivial⟩ rfl rfl ?_
  refine AO.guard [58] rfl ⟨fun h => h, trivial⟩ (fun hg => len_map_ok T rfl rfl rfl) rfl ?_
  refine AO.pureG T [] rfl trivial rfl rfl ?_
  refine AO.pureG T [60] rfl ⟨fun h => h, trivial⟩ rfl rfl ?_
  refine AO.guard [61] rfl ⟨fun h => h, trivial⟩ (fun hg => len_map_ok T rfl rfl rfl) rfl ?_
  refine AO.pureG T [59, 62] rfl ⟨fun h => h, fun h => h, trivial⟩ rfl rfl ?_
  refine AO.val rfl rfl (pick_or rfl rfl rfl rfl) ?_
  refine AO.nil ?_
  refine AW.le (Le.cut 0 0 (σ' := (⟨[(1, .p 1 0), (64, .v (.bool (((((((((!x1) || (!x3)) || (!x5)) || (!x7)) || (!x9)) || (!x11)) || (!x13)) || (!x15)) || ((e.results.length : Int) != (e.entrants.length : Int)))))], [(1, .box [.v (.int .i64 e.segments), .v (.int .i64 e.size), .v (.int .i64 e.key), .s (List.map encEntrant e.entrants), .s (List.map encInt e.gone), .v (.int .i64 e.segment), .s (List.map encInt e.order), .s (List.map encResult e.results)])], 116, []⟩ : St)) rfl (by repeat' (first | exact trivial | refine ⟨⟨_, rfl, rfl⟩, ?_⟩)) (by repeat' (first | exact trivial | refine ⟨⟨_, rfl, rfl⟩, ?_⟩)) rfl) ?_
  refine AW.cond (b := (((((((((!x1) || (!x3)) || (!x5)) || (!x7)) || (!x9)) || (!x11)) || (!x13)) || (!x15)) || ((e.results.length : Int) != (e.entrants.length : Int)))) rfl (fun hc => ?_) (fun hc => ?_)
  · replace hH := condT hc hH
    refine AW.seq ?_
    refine AW.region ?_
    refine AO.pure T rfl rfl rfl ?_
    refine AO.nil ?_
    refine AW.ret ?_
    cases someE hH
    exact ⟨trivial, _, [], rfl, .c (.c .v), by decide⟩
  · replace hH := condF hc hH
    refine AW.skip ?_
    refine AW.seq ?_
    refine AW.region ?_
    refine AO.pure T rfl rfl rfl ?_
    refine AO.nil ?_
    refine AW.seq ?_
    refine AW.seq ?_
    refine AW.region ?_
    refine AO.pure T rfl rfl rfl ?_
    refine AO.pure T rfl rfl rfl ?_
    refine AO.val rfl rfl (len_map_ok T rfl rfl rfl) ?_
    refine AO.pure T rfl rfl rfl ?_
    refine AO.nil ?_
    refine AW.block ?_
    refine AW.loopS (fun s : Nat × (List Int) => (⟨[(1, .p 1 0), (3, .R 7), (66, .s (List.map encEntrant e.entrants)), (67, .v (.int .i64 (e.entrants.length : Int))), (68, .v (.int .i64 (s.1 : Int)))], [(1, .box [.v (.int .i64 e.segments), .v (.int .i64 e.size), .v (.int .i64 e.key), .s (List.map encEntrant e.entrants), .s (List.map encInt e.gone), .v (.int .i64 e.segment), .s (List.map encInt e.order), .s (List.map encResult e.results)]), (7, .row 1 (List.map encInt s.2))], 116, []⟩ : St)) (fun s => s.1 ≤ e.entrants.length ∧ spec_evHead_l1 e fuel (e.entrants.drop s.1) s.1 s.2 = some r) (fun s => e.entrants.length - s.1) (0, []) ⟨Nat.zero_le _, hH⟩ ?_ ?_
    · refine Le.trans (Le.void 3 7 1 rfl rfl) ?_
      exact Le.cut 0 0 rfl (by repeat' (first | exact trivial | refine ⟨⟨_, rfl, rfl⟩, ?_⟩)) (by repeat' (first | exact trivial | refine ⟨⟨_, rfl, rfl⟩, ?_⟩)) rfl
    · rintro ⟨k17, v32⟩ ⟨hk, hH⟩
      replace hH : spec_evHead_l1 e fuel (e.entrants.drop k17) k17 v32 = some r := hH
      show AW _ _ _ (⟨[(1, .p 1 0), (3, .R 7), (66, .s (List.map encEntrant e.entrants)), (67, .v (.int .i64 (e.entrants.length : Int))), (68, .v (.int .i64 (k17 : Int)))], [(1, .box [.v (.int .i64 e.segments), .v (.int .i64 e.size), .v (.int .i64 e.key), .s (List.map encEntrant e.entrants), .s (List.map encInt e.gone), .v (.int .i64 e.segment), .s (List.map encInt e.order), .s (List.map encResult e.results)]), (7, .row 1 (List.map encInt v32))], 116, []⟩ : St)
      refine AW.boundM (t := 66) (l := e.entrants) rfl (fun hb21 => ?_)
      cases hd20 : e.entrants.drop k17 with
      | nil =>
        rw [hd20] at hH
        rw [spec_evHead_l1] at hH
        have hlt22 := drop_ge hd20
        refine AW.seq ?_
        refine AW.region ?_
        refine AO.pure T rfl rfl rfl ?_
        refine AO.nil ?_
        refine AW.seq ?_
        refine AW.condF' (b := decide ((k17 : Int) < (e.entrants.length : Int))) rfl (rngF hlt22) ?_
        refine AW.exit ?_
        refine AW.seq ?_
        refine AW.seq ?_
        obtain ⟨x34, hx35, hH⟩ := bindE hH
        obtain ⟨u36, hx37, hH⟩ := bindE hH
        refine AW.drawn 8 8 [] mix (by kernel_rfl) rfl ?_
        refine AD.pure T rfl rfl rfl ?_
        refine AD.pure T rfl rfl rfl ?_
        refine AD.q (FStep.call rfl rfl rfl rfl rfl (spec_l1Own_ok _ _ (hx35)) rfl rfl) (impT_names _ _) (impT_le _ _) rfl ?_
        refine AD.pure T rfl rfl rfl ?_
        refine AD.pure T rfl rfl rfl ?_
        refine AD.k rfl rfl (FStep.app_rs T rfl rfl rfl rfl rfl rfl rfl (by decide) (by decide) rfl rfl rfl (fun _ => rfl) (needT (hx37)) rfl) rfl rfl rfl ?_
        refine AD.vald rfl rfl rfl (len_row_ok T rfl rfl rfl rfl) ?_
        refine AD.pure T rfl rfl rfl ?_
        refine AD.nil ?_
        refine AO.nil ?_
        refine AW.block ?_
        refine AW.loopS (fun s : Nat × Int => (⟨[(3, .R 7), (105, .R 9), (106, .v (.int .i64 (((x34 ++ e.order)).length : Int))), (107, .v (.int .i64 s.2))], [(7, .row 1 (List.map encInt v32)), (9, .row 1 (List.map encInt (x34 ++ e.order)))], 116, []⟩ : St)) (fun s => spec_evHead_l2 e v32 x34 s.1 s.2 = some r) (fun s => s.1) (fuel, 0) hH ?_ ?_
        · exact Le.cut 0 0 rfl (by repeat' (first | exact trivial | refine ⟨⟨_, rfl, rfl⟩, ?_⟩)) (by repeat' (first | exact trivial | refine ⟨⟨_, rfl, rfl⟩, ?_⟩)) rfl
        · rintro ⟨k38, v48⟩ hH
          replace hH : spec_evHead_l2 e v32 x34 k38 v48 = some r := hH
          show AW _ _ _ (⟨[(3, .R 7), (105, .R 9), (106, .v (.int .i64 (((x34 ++ e.order)).length : Int))), (107, .v (.int .i64 v48))], [(7, .row 1 (List.map encInt v32)), (9, .row 1 (List.map encInt (x34 ++ e.order)))], 116, []⟩ : St)
          cases k38 with
          | zero => cases (show none = some _ from hH)
          | succ k38 =>
            rw [spec_evHead_l2] at hH
            refine AW.seq ?_
            refine AW.region ?_
            refine AO.pure T rfl rfl rfl ?_
            refine AO.nil ?_
            refine AW.seq ?_
            refine AW.cond (b := decide (v48 < (((x34 ++ e.order)).length : Int))) rfl (fun hc => ?_) (fun hc => ?_)
            · replace hH := condT hc hH
              refine AW.skip ?_
              refine AW.seq ?_
              refine AW.block ?_
              refine AW.seq ?_
              obtain ⟨x50, hx51, hH⟩ := bindE hH
              refine AW.region ?_
              refine AO.val rfl rfl (ix_row_ok T rfl rfl rfl rfl rfl rfl (hx51)) ?_
              refine AO.val rfl rfl (load_row_ok T rfl rfl rfl rfl (getI_get (hx51)) rfl rfl rfl) ?_
              refine AO.pure T rfl rfl rfl ?_
              refine AO.nil ?_
              refine AW.seq ?_
              obtain ⟨x52, hx53, hH⟩ := bindE hH
              refine AW.region ?_
              refine AO.pure T rfl rfl rfl ?_
              refine AO.pure T rfl rfl rfl ?_
              refine AO.val rfl rfl (callLV_ok rfl rfl rfl (es := [.s (List.map encInt v32), .v (.int .i64 x50)]) ⟨(.rowR rfl (.map fun y => .vs rfl)), .free rfl, trivial⟩ (spec_l1Has_ok _ _ _ (hx53)) (zfree_v _) rfl) ?_
              refine AO.pure T rfl rfl rfl ?_
              refine AO.nil ?_
              refine AW.cond (b := (!x52)) rfl (fun hc => ?_) (fun hc => ?_)
              · replace hH := condT hc hH
                refine AW.seq ?_
                refine AW.region ?_
                refine AO.pure T rfl rfl rfl ?_
                refine AO.nil ?_
                refine AW.ret ?_
                cases someE hH
                exact ⟨trivial, _, [], rfl, .c (.c .v), by decide⟩
              · replace hH := condF hc hH
                refine AW.skip ?_
                refine AW.region ?_
                refine AO.val rfl rfl (arw_ok rfl rfl rfl rfl) ?_
                refine AO.pure T rfl rfl rfl ?_
                refine AO.nil ?_
                refine ⟨(k38, w64 (v48 + 1)), hH, Nat.lt_succ_self _, ?_⟩
                exact Le.cut 0 0 rfl (by repeat' (first | exact trivial | refine ⟨⟨_, rfl, rfl⟩, ?_⟩)) (by repeat' (first | exact trivial | refine ⟨⟨_, rfl, rfl⟩, ?_⟩)) rfl
            · replace hH := condF hc hH
              refine AW.exit ?_
              refine AW.seq ?_
              refine AW.region ?_
              refine AO.pure T rfl rfl rfl ?_
              refine AO.nil ?_
              refine AW.ret ?_
              cases someE hH
              exact ⟨trivial, _, [], rfl, .c (.c .v), by decide⟩
      | cons y18 ys19 =>
        rw [hd20] at hH
        rw [spec_evHead_l1] at hH
        have hlt22 := drop_lt hd20
        refine AW.seq ?_
        refine AW.region ?_
        refine AO.pure T rfl rfl rfl ?_
        refine AO.nil ?_
        refine AW.seq ?_
        refine AW.condT' (b := decide ((k17 : Int) < (e.entrants.length : Int))) rfl (rngT hlt22) ?_
        refine AW.skip ?_
        refine AW.seq ?_
        refine AW.block ?_
        refine AW.seq ?_
        refine AW.region ?_
        refine AO.pure T rfl rfl rfl ?_
        refine AO.val rfl rfl (ix_map_ok T rfl rfl rfl rfl rfl (getI_drop hd20) rfl) ?_
        refine AO.pure T (d := .g [.v (.int .i64 y18.skater), .v (.int .i64 y18.rank)]) rfl rfl rfl ?_
        refine AO.step rfl (alloc_ok T rfl 10 rfl rfl rfl rfl rfl) ?_
        refine AO.pure T rfl rfl rfl ?_
        refine AO.step rfl (store_okE T rfl rfl rfl rfl rfl rfl rfl rfl rfl (ds' := [.v (.int .i64 y18.skater), .v (.int .i64 y18.rank)]) rfl) ?_
        refine AO.nil ?_
        refine AW.seq ?_
        refine AW.seq ?_
        obtain ⟨x54, hx55, hH⟩ := bindE hH
        refine AW.drawn 19 11 [] mix (by kernel_rfl) rfl ?_
        refine AD.pure T rfl rfl rfl ?_
        refine AD.pure T rfl rfl rfl ?_
        refine AD.pure T rfl rfl rfl ?_
        refine AD.val rfl rfl (ix_map_ok T rfl rfl rfl rfl rfl (hx55) rfl) ?_
        refine AD.pure T rfl rfl rfl ?_
        refine AD.pure T rfl rfl rfl ?_
        refine AD.pure T rfl rfl rfl ?_
        refine AD.pure T rfl rfl rfl ?_
        refine AD.pure T rfl rfl rfl ?_
        refine AD.pure T rfl rfl rfl ?_
        refine AD.pureG T [] rfl trivial rfl rfl ?_
        refine AD.pureG T [83] rfl ⟨fun h => h, trivial⟩ rfl rfl ?_
        refine AD.pureG T [] rfl trivial rfl rfl ?_
        refine AD.guard [84, 85] rfl ⟨fun h => h, fun h => h, trivial⟩ (fun hg => ix_map_ok T rfl rfl rfl rfl rfl (hx55) rfl) rfl ?_
        refine AD.pureG T [86] rfl ⟨fun h => h, trivial⟩ rfl rfl ?_
        refine AD.pureG T [87] rfl ⟨fun h => h, trivial⟩ rfl rfl ?_
        refine AD.guard [88] rfl ⟨fun h => h, trivial⟩ (fun hg => len_map_ok T rfl rfl rfl) rfl ?_
        refine AD.pureG T [] rfl trivial rfl rfl ?_
        refine AD.pureG T [90] rfl ⟨fun h => h, trivial⟩ rfl rfl ?_
        refine AD.nil ?_
        refine AO.pureG T [89, 91] rfl ⟨fun h => h, fun h => h, trivial⟩ rfl rfl ?_
        refine AO.val rfl rfl (pick_or rfl rfl rfl rfl) ?_
        refine AO.nil ?_
        refine AW.le (Le.cut 0 0 (σ' := (⟨[(1, .p 1 0), (3, .R 7), (5, .p 10 0), (66, .s (List.map encEntrant e.entrants)), (67, .v (.int .i64 (e.entrants.length : Int))), (68, .v (.int .i64 (k17 : Int))), (93, .v (.bool ((x54.skater != y18.skater) || ((x54.scores.length : Int) != e.segments))))], [(1, .box [.v (.int .i64 e.segments), .v (.int .i64 e.size), .v (.int .i64 e.key), .s (List.map encEntrant e.entrants), .s (List.map encInt e.gone), .v (.int .i64 e.segment), .s (List.map encInt e.order), .s (List.map encResult e.results)]), (7, .row 1 (List.map encInt v32)), (10, .box [.v (.int .i64 y18.skater), .v (.int .i64 y18.rank)])], 116, []⟩ : St)) rfl (by repeat' (first | exact trivial | refine ⟨⟨_, rfl, rfl⟩, ?_⟩)) (by repeat' (first | exact trivial | refine ⟨⟨_, rfl, rfl⟩, ?_⟩)) rfl) ?_
        refine AW.cond (b := ((x54.skater != y18.skater) || ((x54.scores.length : Int) != e.segments))) rfl (fun hc => ?_) (fun hc => ?_)
        · replace hH := condT hc hH
          refine AW.seq ?_
          refine AW.region ?_
          refine AO.pure T rfl rfl rfl ?_
          refine AO.nil ?_
          refine AW.ret ?_
          cases someE hH
          exact ⟨trivial, _, [], rfl, .c (.c .v), by decide⟩
        · replace hH := condF hc hH
          refine AW.skip ?_
          obtain ⟨u56, hx57, hH⟩ := bindE hH
          refine AW.region ?_
          refine AO.pure T rfl rfl rfl ?_
          refine AO.pure T rfl rfl rfl ?_
          refine AO.pure T rfl rfl rfl ?_
          refine AO.step rfl (mk_map_ok T rfl 11 rfl rfl rfl rfl rfl (f := encInt) (l := [y18.skater]) rfl rfl (fun _ => rfl) rfl rfl rfl rfl rfl) ?_
          refine AO.step rfl (app_rv_map T rfl 12 rfl rfl rfl rfl rfl (by decide) rfl rfl rfl rfl (fun _ => rfl) (needT (hx57)) rfl rfl) ?_
          refine AO.pure T rfl rfl rfl ?_
          refine AO.nil ?_
          refine AW.region ?_
          refine AO.val rfl rfl (ar_ok rfl rfl rfl rfl (inI_succ hlt22 hb21)) ?_
          refine AO.pure T rfl rfl rfl ?_
          refine AO.nil ?_
          refine ⟨(k17 + 1, (v32 ++ [y18.skater])), ⟨Nat.succ_le_of_lt hlt22, (by rw [drop_succ_of hd20]; exact hH)⟩, (by have := hlt22; dsimp only; omega), ?_⟩
          exact Le.cut 12 7 rfl (by repeat' (first | exact trivial | refine ⟨⟨_, rfl, rfl⟩, ?_⟩)) (by repeat' (first | exact trivial | refine ⟨⟨_, rfl, rfl⟩, ?_⟩)) rfl

def spec_rkTotal_l1 : List Int → Nat → Int → Int → Option ((Int × Int))
  | [], k1, v9, v10 =>
    some (v9, v10)
  | y2 :: ys3, k1, v9, v10 =>
    cond (decide (y2 ≥ 0))
      (spec_rkTotal_l1 ys3 (k1 + 1) (w64 (v9 + y2)) (w64 (v10 + 1)))
      (spec_rkTotal_l1 ys3 (k1 + 1) v9 v10)
def spec_rkTotal_p (rA : Result) : Option (Int × Int) :=
  spec_rkTotal_l1 rA.scores 0 0 0
theorem spec_rkTotal_ok (rA : Result) (r : (Int × Int)) (hH : spec_rkTotal_p rA = some r) : SpecR Tryz.prog 111 [.g (encResult rA)] (.t [.v (.int .i64 r.1), .v (.int .i64 r.2)]) := by
  refine fn_ok T Tryz.func111 rfl (by decide) rfl ?_
  refine AW.seq ?_
  refine AW.region ?_
  refine AO.step rfl (box_ok T rfl 1 rfl rfl rfl rfl) ?_
  refine AO.pure T rfl rfl rfl ?_
  refine AO.pure T rfl rfl rfl ?_
  refine AO.nil ?_
  refine AW.seq ?_
  refine AW.region ?_
  refine AO.pure T rfl rfl rfl ?_
  refine AO.pure T rfl rfl rfl ?_
  refine AO.nil ?_
  refine AW.seq ?_
  refine AW.seq ?_
  refine AW.region ?_
  refine AO.pure T rfl rfl rfl ?_
  refine AO.pure T rfl rfl rfl ?_
  refine AO.val rfl rfl (len_map_ok T rfl rfl rfl) ?_
  refine AO.pure T rfl rfl rfl ?_
  refine AO.nil ?_
  refine AW.block ?_
  refine AW.loopS (fun s : Nat × Int × Int => (⟨[(4, .v (.int .i64 s.2.1)), (5, .v (.int .i64 s.2.2)), (9, .s (List.map encInt rA.scores)), (10, .v (.int .i64 (rA.scores.length : Int))), (11, .v (.int .i64 (s.1 : Int)))], [], 25, []⟩ : St)) (fun s => s.1 ≤ rA.scores.length ∧ spec_rkTotal_l1 (rA.scores.drop s.1) s.1 s.2.1 s.2.2 = some r) (fun s => rA.scores.length - s.1) (0, 0, 0) ⟨Nat.zero_le _, hH⟩ ?_ ?_
  · exact Le.cut 0 0 rfl (by repeat' (first | exact trivial | refine ⟨⟨_, rfl, rfl⟩, ?_⟩)) (by repeat' (first | exact trivial | refine ⟨⟨_, rfl, rfl⟩, ?_⟩)) rfl
  · rintro ⟨k1, v9, v10⟩ ⟨hk, hH⟩
    replace hH : spec_rkTotal_l1 (rA.scores.drop k1) k1 v9 v10 = some r := hH
    show AW _ _ _ (⟨[(4, .v (.int .i64 v9)), (5, .v (.int .i64 v10)), (9, .s (List.map encInt rA.scores)), (10, .v (.int .i64 (rA.scores.length : Int))), (11, .v (.int .i64 (k1 : Int)))], [], 25, []⟩ : St)
    refine AW.boundM (t := 9) (l := rA.scores) rfl (fun hb5 => ?_)
    cases hd4 : rA.scores.drop k1 with
    | nil =>
      rw [hd4] at hH
      rw [spec_rkTotal_l1] at hH
      have hlt6 := drop_ge hd4
      refine AW.seq ?_
      refine AW.region ?_
      refine AO.pure T rfl rfl rfl ?_
      refine AO.nil ?_
      refine AW.seq ?_
      refine AW.condF' (b := decide ((k1 : Int) < (rA.scores.length : Int))) rfl (rngF hlt6) ?_
      refine AW.exit ?_
      refine AW.seq ?_
      refine AW.region ?_
      refine AO.pure T rfl rfl rfl ?_
      refine AO.pure T rfl rfl rfl ?_
      refine AO.pure T rfl rfl rfl ?_
      refine AO.pure T rfl rfl rfl ?_
      refine AO.nil ?_
      refine AW.ret ?_
      cases someE hH
      exact ⟨trivial, _, [], rfl, .t (expLG_cons (.c .v) (expLG_cons (.c .v) (expLG_nil))), by decide⟩
    | cons y2 ys3 =>
      rw [hd4] at hH
      rw [spec_rkTotal_l1] at hH
      have hlt6 := drop_lt hd4
      refine AW.seq ?_
      refine AW.region ?_
      refine AO.pure T rfl rfl rfl ?_
      refine AO.nil ?_
      refine AW.seq ?_
      refine AW.condT' (b := decide ((k1 : Int) < (rA.scores.length : Int))) rfl (rngT hlt6) ?_
      refine AW.skip ?_
      refine AW.seq ?_
      refine AW.block ?_
      refine AW.seq ?_
      refine AW.region ?_
      refine AO.val rfl rfl (ix_map_ok T rfl rfl rfl rfl rfl (getI_drop hd4) rfl) ?_
      refine AO.pure T rfl rfl rfl ?_
      refine AO.pure T rfl rfl rfl ?_
      refine AO.nil ?_
      refine AW.seq ?_
      refine AW.region ?_
      refine AO.pure T rfl rfl rfl ?_
      refine AO.pure T rfl rfl rfl ?_
      refine AO.nil ?_
      refine AW.cond (b := decide (y2 ≥ 0)) rfl (fun hc => ?_) (fun hc => ?_)
      · replace hH := condT hc hH
        refine AW.seq ?_
        refine AW.region ?_
        refine AO.pure T rfl rfl rfl ?_
        refine AO.pure T rfl rfl rfl ?_
        refine AO.val rfl rfl (arw_ok rfl rfl rfl rfl) ?_
        refine AO.pure T rfl rfl rfl ?_
        refine AO.nil ?_
        refine AW.region ?_
        refine AO.pure T rfl rfl rfl ?_
        refine AO.val rfl rfl (arw_ok rfl rfl rfl rfl) ?_
        refine AO.pure T rfl rfl rfl ?_
        refine AO.nil ?_
        refine AW.region ?_
        refine AO.val rfl rfl (ar_ok rfl rfl rfl rfl (inI_succ hlt6 hb5)) ?_
        refine AO.pure T rfl rfl rfl ?_
        refine AO.nil ?_
        refine ⟨(k1 + 1, w64 (v9 + y2), w64 (v10 + 1)), ⟨Nat.succ_le_of_lt hlt6, (by rw [drop_succ_of hd4]; exact hH)⟩, (by have := hlt6; dsimp only; omega), ?_⟩
        exact Le.cut 0 0 rfl (by repeat' (first | exact trivial | refine ⟨⟨_, rfl, rfl⟩, ?_⟩)) (by repeat' (first | exact trivial | refine ⟨⟨_, rfl, rfl⟩, ?_⟩)) rfl
      · replace hH := condF hc hH
        refine AW.skip ?_
        refine AW.region ?_
        refine AO.val rfl rfl (ar_ok rfl rfl rfl rfl (inI_succ hlt6 hb5)) ?_
        refine AO.pure T rfl rfl rfl ?_
        refine AO.nil ?_
        refine ⟨(k1 + 1, v9, v10), ⟨Nat.succ_le_of_lt hlt6, (by rw [drop_succ_of hd4]; exact hH)⟩, (by have := hlt6; dsimp only; omega), ?_⟩
        exact Le.cut 0 0 rfl (by repeat' (first | exact trivial | refine ⟨⟨_, rfl, rfl⟩, ?_⟩)) (by repeat' (first | exact trivial | refine ⟨⟨_, rfl, rfl⟩, ?_⟩)) rfl

def spec_evScores_p (rA : Result) : Option Int :=
  (spec_rkTotal_p rA).bind fun x1 =>
  some x1.2
theorem spec_evScores_ok (rA : Result) (r : Int) (hH : spec_evScores_p rA = some r) : SpecR Tryz.prog 110 [.g (encResult rA)] (.v (.int .i64 r)) := by
  refine fn_ok T Tryz.func110 rfl (by decide) rfl ?_
  refine AW.seq ?_
  refine AW.region ?_
  refine AO.step rfl (box_ok T rfl 1 rfl rfl rfl rfl) ?_
  refine AO.pure T rfl rfl rfl ?_
  refine AO.nil ?_
  refine AW.seq ?_
  obtain ⟨x1, hx2, hH⟩ := bindE hH
  refine AW.region ?_
  refine AO.pure T (d := .g [.v (.int .i64 rA.skater), .s (List.map encInt rA.scores)]) rfl rfl rfl ?_
  refine AO.val rfl rfl (callV_ok rfl rfl rfl rfl (spec_rkTotal_ok _ _ (hx2)) rfl) ?_
  refine AO.pure T rfl rfl rfl ?_
  refine AO.pure T rfl rfl rfl ?_
  refine AO.pure T rfl rfl rfl ?_
  refine AO.pure T rfl rfl rfl ?_
  refine AO.pure T rfl rfl rfl ?_
  refine AO.nil ?_
  refine AW.seq ?_
  refine AW.region ?_
  refine AO.pure T rfl rfl rfl ?_
  refine AO.pure T rfl rfl rfl ?_
  refine AO.nil ?_
  refine AW.ret ?_
  cases someE hH
  exact ⟨trivial, _, [], rfl, .c (.c .v), by decide⟩

def spec_evResult_p (e : Event) (rA : Result) : Option Bool :=
  (spec_evScores_p rA).bind fun x1 =>
  (opt (decide (x1 > e.segment)) default (spec_l1Has_p e.order rA.skater)).bind fun x3 =>
  cond (decide (x1 > e.segment) && (!x3))
    (some false)
    ((spec_l1Has_p e.gone rA.skater).bind fun x5 =>
    cond x5
      ((opt (decide (x1 ≤ (w64 (e.segment + 1))) && (!(decide (x1 > e.segment)))) default (spec_l1Has_p e.order rA.skater)).bind fun x7 =>
      some (decide (x1 ≤ (w64 (e.segment + 1))) && (decide (x1 > e.segment) || (!x7))))
      ((spec_l1In_p x1 e.segment (w64 (e.segment + 1))).bind fun x9 =>
      (opt (x9 && (!((e.order.length : Int) == 0))) default (spec_l1Has_p e.order rA.skater)).bind fun x11 =>
      some (x9 && (((e.order.length : Int) == 0) || x11))))
theorem spec_evResult_ok (e : Event) (rA : Result) (r : Bool) (hH : spec_evResult_p e rA = some r) : SpecR Tryz.prog 70 [.g (encEvent e), .g (encResult rA)] (.v (.bool r)) := by
  refine fn_ok T Tryz.func70 rfl (by decide) rfl ?_
  refine AW.seq ?_
  refine AW.region ?_
  refine AO.step rfl (box_ok T rfl 1 rfl rfl rfl rfl) ?_
  refine AO.step rfl (box_ok T rfl 2 rfl rfl rfl rfl) ?_
  refine AO.pure T rfl rfl rfl ?_
  refine AO.nil ?_
  refine AW.seq ?_
  obtain ⟨x1, hx2, hH⟩ := bindE hH
  refine AW.region ?_
  refine AO.pure T (d := .g [.v (.int .i64 rA.skater), .s (List.map encInt rA.scores)]) rfl rfl rfl ?_
  refine AO.val rfl rfl (callV_ok rfl rfl rfl rfl (spec_evScores_ok _ _ (hx2)) rfl) ?_
  refine AO.pure T rfl rfl rfl ?_
  refine AO.nil ?_
  refine AW.seq ?_
  refine AW.seq ?_
  obtain ⟨x3, hx4, hH⟩ := bindE hH
  refine AW.region ?_
  refine AO.pure T rfl rfl rfl ?_
  refine AO.pure T rfl rfl rfl ?_
  refine AO.pure T rfl rfl rfl ?_
  refine AO.pure T rfl rfl rfl ?_
  refine AO.pure T rfl rfl rfl ?_
  refine AO.pureG T [] rfl trivial rfl rfl ?_
  refine AO.pureG T [13] rfl ⟨fun h => h, trivial⟩ rfl rfl ?_
  refine AO.pureG T [] rfl trivial rfl rfl ?_
  refine AO.pureG T [15] rfl ⟨fun h => h, trivial⟩ rfl rfl ?_
  refine AO.guard [14, 16] rfl ⟨fun h => h, fun h => h, trivial⟩ (fun hg => callV_ok rfl rfl rfl rfl (spec_l1Has_ok _ _ _ (optT hx4 hg)) rfl) rfl ?_
  refine AO.pureG T [17] rfl ⟨fun h => h, trivial⟩ rfl rfl ?_
  refine AO.val rfl rfl (pick_and rfl rfl rfl rfl) ?_
  refine AO.nil ?_
  refine AW.cond (b := (decide (x1 > e.segment) && (!x3))) rfl (fun hc => ?_) (fun hc => ?_)
  · replace hH := condT hc hH
    refine AW.seq ?_
    refine AW.region ?_
    refine AO.pure T rfl rfl rfl ?_
    refine AO.nil ?_
    refine AW.ret ?_
    cases someE hH
    exact ⟨trivial, _, [], rfl, .c (.c .v), by decide⟩
  · replace hH := condF hc hH
    refine AW.skip ?_
    refine AW.seq ?_
    refine AW.seq ?_
    obtain ⟨x5, hx6, hH⟩ := bindE hH
    refine AW.region ?_
    refine AO.pure T rfl rfl rfl ?_
    refine AO.pure T rfl rfl rfl ?_
    refine AO.pure T rfl rfl rfl ?_
    refine AO.pure T rfl rfl rfl ?_
    refine AO.val rfl rfl (callV_ok rfl rfl rfl rfl (spec_l1Has_ok _ _ _ (hx6)) rfl) ?_
    refine AO.nil ?_
    refine AW.cond (b := x5) rfl (fun hc => ?_) (fun hc => ?_)
    · replace hH := condT hc hH
      refine AW.seq ?_
      obtain ⟨x7, hx8, hH⟩ := bindE hH
      refine AW.region ?_
      refine AO.pure T rfl rfl rfl ?_
      refine AO.pure T rfl rfl rfl ?_
      refine AO.pure T rfl rfl rfl ?_
      refine AO.val rfl rfl (arw_ok rfl rfl rfl rfl) ?_
      refine AO.pure T rfl rfl rfl ?_
      refine AO.pure T rfl rfl rfl ?_
      refine AO.pureG T [] rfl trivial rfl rfl ?_
      refine AO.pureG T [] rfl trivial rfl rfl ?_
      refine AO.pureG T [32] rfl ⟨fun h => h, trivial⟩ rfl rfl ?_
      refine AO.pureG T [31, 33] rfl ⟨fun h => h, fun h => h, trivial⟩ rfl rfl ?_
      refine AO.pureG T [34] rfl ⟨fun h => h, trivial⟩ rfl rfl ?_
      refine AO.pureG T [] rfl trivial rfl rfl ?_
      refine AO.pureG T [36] rfl ⟨fun h => h, trivial⟩ rfl rfl ?_
      refine AO.pureG T [] rfl trivial rfl rfl ?_
      refine AO.pureG T [38] rfl ⟨fun h => h, trivial⟩ rfl rfl ?_
      refine AO.guard [37, 39] rfl ⟨fun h => h, fun h => h, trivial⟩ (fun hg => callV_ok rfl rfl rfl rfl (spec_l1Has_ok _ _ _ (optT hx8 hg)) rfl) rfl ?_
      refine AO.pureG T [40] rfl ⟨fun h => h, trivial⟩ rfl rfl ?_
      refine AO.guard [35] rfl ⟨fun h => h, trivial⟩ (fun hg => pick_or rfl rfl rfl (by rw [hg]; exact Bool.true_and _)) rfl ?_
      refine AO.val rfl rfl (pick_and rfl rfl rfl rfl) ?_
      refine AO.pure T rfl rfl rfl ?_
      refine AO.nil ?_
      refine AW.le (Le.cut 0 0 (σ' := (⟨[(4, .v (.bool (decide (x1 ≤ (w64 (e.segment + 1))) && (decide (x1 > e.segment) || (!x7)))))], [], 64, []⟩ : St)) rfl (by repeat' (first | exact trivial | refine ⟨⟨_, rfl, rfl⟩, ?_⟩)) (by repeat' (first | exact trivial | refine ⟨⟨_, rfl, rfl⟩, ?_⟩)) rfl) ?_
      refine AW.ret ?_
      cases someE hH
      exact ⟨trivial, _, [], rfl, .c (.c .v), by decide⟩
    · replace hH := condF hc hH
      refine AW.skip ?_
      refine AW.seq ?_
      obtain ⟨x9, hx10, hH⟩ := bindE hH
      obtain ⟨x11, hx12, hH⟩ := bindE hH
      refine AW.region ?_
      refine AO.pure T rfl rfl rfl ?_
      refine AO.pure T rfl rfl rfl ?_
      refine AO.pure T rfl rfl rfl ?_
      refine AO.pure T rfl rfl rfl ?_
      refine AO.pure T rfl rfl rfl ?_
      refine AO.val rfl rfl (arw_ok rfl rfl rfl rfl) ?_
      refine AO.val rfl rfl (callV_ok rfl rfl rfl rfl (spec_l1In_ok _ _ _ _ (hx10)) rfl) ?_
      refine AO.pure T rfl rfl rfl ?_
      refine AO.pureG T [] rfl trivial rfl rfl ?_
      refine AO.pureG T [52] rfl ⟨fun h => h, trivial⟩ rfl rfl ?_
      refine AO.guard [53] rfl ⟨fun h => h, trivial⟩ (fun hg => len_map_ok T rfl rfl rfl) rfl ?_
      refine AO.pureG T [54] rfl ⟨fun h => h, trivial⟩ rfl rfl ?_
      refine AO.pureG T [55] rfl ⟨fun h => h, trivial⟩ rfl rfl ?_
      refine AO.pureG T [] rfl trivial rfl rfl ?_
      refine AO.pureG T [57] rfl ⟨fun h => h, trivial⟩ rfl rfl ?_
      refine AO.pureG T [] rfl trivial rfl rfl ?_
      refine AO.pureG T [59] rfl ⟨fun h => h, trivial⟩ rfl rfl ?_
      refine AO.guard [58, 60] rfl ⟨fun h => h, fun h => h, trivial⟩ (fun hg => callV_ok rfl rfl rfl rfl (spec_l1Has_ok _ _ _ (optT hx12 hg)) rfl) rfl ?_
      refine AO.guard [56] rfl ⟨fun h => h, trivial⟩ (fun hg => pick_or rfl rfl rfl (by rw [hg]; exact Bool.true_and _)) rfl ?_
      refine AO.val rfl rfl (pick_and rfl rfl rfl rfl) ?_
      refine AO.pure T rfl rfl rfl ?_
      refine AO.nil ?_
      refine AW.le (Le.cut 0 0 (σ' := (⟨[(4, .v (.bool (x9 && (((e.order.length : Int) == 0) || x11))))], [], 64, []⟩ : St)) rfl (by repeat' (first | exact trivial | refine ⟨⟨_, rfl, rfl⟩, ?_⟩)) (by repeat' (first | exact trivial | refine ⟨⟨_, rfl, rfl⟩, ?_⟩)) rfl) ?_
      refine AW.ret ?_
      cases someE hH
      exact ⟨trivial, _, [], rfl, .c (.c .v), by decide⟩

def spec_evHas_l1 (e : Event) (skater : Int) : List Result → Nat → Option Bool
  | [], k1 =>
    some false
  | y2 :: ys3, k1 =>
    cond (y2.skater == skater)
      ((spec_evScores_p y2).bind fun x12 =>
      some (decide (x12 > e.segment)))
      (spec_evHas_l1 e skater ys3 (k1 + 1))
def spec_evHas_p (e : Event) (skater : Int) : Option Bool :=
  spec_evHas_l1 e skater e.results 0
theorem spec_evHas_ok (e : Event) (skater : Int) (r : Bool) (hH : spec_evHas_p e skater = some r) : SpecR Tryz.prog 71 [.g (encEvent e), .v (.int .i64 skater)] (.v (.bool r)) := by
  refine fn_ok T Tryz.func71 rfl (by decide) rfl ?_
  refine AW.seq ?_
  refine AW.region ?_
  refine AO.step rfl (box_ok T rfl 1 rfl rfl rfl rfl) ?_
  refine AO.pure T rfl rfl rfl ?_
  refine AO.nil ?_
  refine AW.seq ?_
  refine AW.seq ?_
  refine AW.region ?_
  refine AO.pure T rfl rfl rfl ?_
  refine AO.pure T rfl rfl rfl ?_
  refine AO.val rfl rfl (len_map_ok T rfl rfl rfl) ?_
  refine AO.pure T rfl rfl rfl ?_
  refine AO.nil ?_
  refine AW.block ?_
  refine AW.loopS (fun s : Nat => (⟨[(1, .v (.int .i64 skater)), (2, .p 1 0), (8, .s (List.map encResult e.results)), (9, .v (.int .i64 (e.results.length : Int))), (10, .v (.int .i64 (s : Int)))], [(1, .box [.v (.int .i64 e.segments), .v (.int .i64 e.size), .v (.int .i64 e.key), .s (List.map encEntrant e.entrants), .s (List.map encInt e.gone), .v (.int .i64 e.segment), .s (List.map encInt e.order), .s (List.map encResult e.results)])], 24, []⟩ : St)) (fun s => s ≤ e.results.length ∧ spec_evHas_l1 e skater (e.results.drop s) s = some r) (fun s => e.results.length - s) 0 ⟨Nat.zero_le _, hH⟩ ?_ ?_
  · exact Le.cut 0 0 rfl (by repeat' (first | exact trivial | refine ⟨⟨_, rfl, rfl⟩, ?_⟩)) (by repeat' (first | exact trivial | refine ⟨⟨_, rfl, rfl⟩, ?_⟩)) rfl
  · rintro k1 ⟨hk, hH⟩
    replace hH : spec_evHas_l1 e skater (e.results.drop k1) k1 = some r := hH
    show AW _ _ _ (⟨[(1, .v (.int .i64 skater)), (2, .p 1 0), (8, .s (List.map encResult e.results)), (9, .v (.int .i64 (e.results.length : Int))), (10, .v (.int .i64 (k1 : Int)))], [(1, .box [.v (.int .i64 e.segments), .v (.int .i64 e.size), .v (.int .i64 e.key), .s (List.map encEntrant e.entrants), .s (List.map encInt e.gone), .v (.int .i64 e.segment), .s (List.map encInt e.order), .s (List.map encResult e.results)])], 24, []⟩ : St)
    refine AW.boundM (t := 8) (l := e.results) rfl (fun hb5 => ?_)
    cases hd4 : e.results.drop k1 with
    | nil =>
      rw [hd4] at hH
      rw [spec_evHas_l1] at hH
      have hlt6 := drop_ge hd4
      refine AW.seq ?_
      refine AW.region ?_
      refine AO.pure T rfl rfl rfl ?_
      refine AO.nil ?_
      refine AW.seq ?_
      refine AW.condF' (b := decide ((k1 : Int) < (e.results.length : Int))) rfl (rngF hlt6) ?_
      refine AW.exit ?_
      refine AW.seq ?_
      refine AW.region ?_
      refine AO.pure T rfl rfl rfl ?_
      refine AO.nil ?_
      refine AW.ret ?_
      cases someE hH
      exact ⟨trivial, _, [], rfl, .c (.c .v), by decide⟩
    | cons y2 ys3 =>
      rw [hd4] at hH
      rw [spec_evHas_l1] at hH
      have hlt6 := drop_lt hd4
      refine AW.seq ?_
      refine AW.region ?_
      refine AO.pure T rfl rfl rfl ?_
      refine AO.nil ?_
      refine AW.seq ?_
      refine AW.condT' (b := decide ((k1 : Int) < (e.results.length : Int))) rfl (rngT hlt6) ?_
      refine AW.skip ?_
      refine AW.seq ?_
      refine AW.block ?_
      refine AW.seq ?_
      refine AW.region ?_
      refine AO.val rfl rfl (ix_map_ok T rfl rfl rfl rfl rfl (getI_drop hd4) rfl) ?_
      refine AO.pure T (d := .g [.v (.int .i64 y2.skater), .s (List.map encInt y2.scores)]) rfl rfl rfl ?_
      refine AO.step rfl (alloc_ok T rfl 4 rfl rfl rfl rfl rfl) ?_
      refine AO.step rfl (store_okE T rfl rfl rfl rfl rfl rfl rfl rfl rfl (ds' := [.v (.int .i64 y2.skater), .s (List.map encInt y2.scores)]) rfl) ?_
      refine AO.nil ?_
      refine AW.seq ?_
      refine AW.region ?_
      refine AO.pure T rfl rfl rfl ?_
      refine AO.pure T rfl rfl rfl ?_
      refine AO.pure T rfl rfl rfl ?_
      refine AO.pure T rfl rfl rfl ?_
      refine AO.nil ?_
      refine AW.cond (b := (y2.skater == skater)) rfl (fun hc => ?_) (fun hc => ?_)
      · replace hH := condT hc hH
        refine AW.seq ?_
        obtain ⟨x12, hx13, hH⟩ := bindE hH
        refine AW.drawn 4 5 [] mix (by kernel_rfl) rfl ?_
        refine AD.pure T (d := .g [.v (.int .i64 y2.skater), .s (List.map encInt y2.scores)]) rfl rfl rfl ?_
        refine AD.val rfl rfl (callV_ok rfl rfl rfl rfl (spec_evScores_ok _ _ (hx13)) rfl) ?_
        refine AD.pure T rfl rfl rfl ?_
        refine AD.pure T rfl rfl rfl ?_
        refine AD.nil ?_
        refine AO.pure T rfl rfl rfl ?_
        refine AO.pure T rfl rfl rfl ?_
        refine AO.nil ?_
        refine AW.ret ?_
        cases someE hH
        exact ⟨trivial, _, [], rfl, .c (.c .v), by decide⟩
      · replace hH := condF hc hH
        refine AW.skip ?_
        refine AW.region ?_
        refine AO.val rfl rfl (ar_ok rfl rfl rfl rfl (inI_succ hlt6 hb5)) ?_
        refine AO.pure T rfl rfl rfl ?_
        refine AO.nil ?_
        refine ⟨k1 + 1, ⟨Nat.succ_le_of_lt hlt6, (by rw [drop_succ_of hd4]; exact hH)⟩, (by have := hlt6; dsimp only; omega), ?_⟩
        exact Le.cut 0 0 rfl (by repeat' (first | exact trivial | refine ⟨⟨_, rfl, rfl⟩, ?_⟩)) (by repeat' (first | exact trivial | refine ⟨⟨_, rfl, rfl⟩, ?_⟩)) rfl

def spec_evGood_l2 (e : Event) : Nat → Int → Option Bool
  | 0, _ => none
  | k14 + 1, v32 =>
    cond (decide (v32 < (e.order.length : Int)))
      ((getI e.order v32).bind fun x34 =>
      (spec_evHas_p e x34).bind fun x36 =>
      (opt x36 default (getI e.order (w64 (v32 - 1)))).bind fun x38 =>
      (opt x36 default (spec_evHas_p e x38)).bind fun x40 =>
      cond (x36 && (!x40))
        (some false)
        (spec_evGood_l2 e k14 (w64 (v32 + 1))))
      ((opt (!((e.order.length : Int) == 0)) default (getI e.order (w64 ((e.order.length : Int) - 1)))).bind fun x42 =>
      (opt (!((e.order.length : Int) == 0)) default (spec_evHas_p e x42)).bind fun x44 =>
      some (((e.order.length : Int) == 0) || (!x44)))
def spec_evGood_l1 (e : Event) (fuel : Nat) : List Result → Nat → Option Bool
  | [], k3 =>
    spec_evGood_l2 e fuel 1
  | y4 :: ys5, k3 =>
    (spec_evResult_p e y4).bind fun x46 =>
    cond (!x46)
      (some false)
      (spec_evGood_l1 e fuel ys5 (k3 + 1))
def spec_evGood_p (fuel : Nat) (e : Event) : Option Bool :=
  (spec_evHead_p fuel e).bind fun x1 =>
  cond ((!x1) || ((e.segment == e.segments) && decide ((e.order.length : Int) > 0)))
    (some false)
    (spec_evGood_l1 e fuel e.results 0)
theorem spec_evGood_ok (fuel : Nat) (e : Event) (r : Bool) (hH : spec_evGood_p fuel e = some r) : SpecR Tryz.prog 47 [.g (encEvent e)] (.v (.bool r)) := by
  refine fn_ok T Tryz.func47 rfl (by decide) rfl ?_
  refine AW.seq ?_
  refine AW.region ?_
  refine AO.step rfl (box_ok T rfl 1 rfl rfl rfl rfl) ?_
  refine AO.pure T rfl rfl rfl ?_
  refine AO.nil ?_
  refine AW.seq ?_
  refine AW.seq ?_
  obtain ⟨x1, hx2, hH⟩ := bindE hH
  refine AW.region ?_
  refine AO.pure T (d := .g [.v (.int .i64 e.segments), .v (.int .i64 e.size), .v (.int .i64 e.key), .s (List.map encEntrant e.entrants), .s (List.map encInt e.gone), .v (.int .i64 e.segment), .s (List.map encInt e.order), .s (List.map encResult e.results)]) rfl rfl rfl ?_
  refine AO.val rfl rfl (callV_ok rfl rfl rfl rfl (spec_evHead_ok fuel _ _ (hx2)) rfl) ?_
  refine AO.pure T rfl rfl rfl ?_
  refine AO.pure T rfl rfl rfl ?_
  refine AO.pureG T [] rfl trivial rfl rfl ?_
  refine AO.pureG T [10] rfl ⟨fun h => h, trivial⟩ rfl rfl ?_
  refine AO.pureG T [] rfl trivial rfl rfl ?_
  refine AO.pureG T [12] rfl ⟨fun h => h, trivial⟩ rfl rfl ?_
  refine AO.pureG T [11, 13] rfl ⟨fun h => h, fun h => h, trivial⟩ rfl rfl ?_
  refine AO.pureG T [14] rfl ⟨fun h => h, trivial⟩ rfl rfl ?_
  refine AO.pureG T [] rfl trivial rfl rfl ?_
  refine AO.pureG T [16] rfl ⟨fun h => h, trivial⟩ rfl rfl ?_
  refine AO.guard [17] rfl ⟨fun h => h, trivial⟩ (fun hg => len_map_ok T rfl rfl rfl) rfl ?_
  refine AO.pureG T [18] rfl ⟨fun h => h, trivial⟩ rfl rfl ?_
  refine AO.guard [15] rfl ⟨fun h => h, trivial⟩ (fun hg => pick_and rfl rfl rfl (by rw [hg]; exact Bool.true_and _)) rfl ?_
  refine AO.val rfl rfl (pick_or rfl rfl rfl rfl) ?_
  refine AO.nil ?_
  refine AW.cond (b := ((!x1) || ((e.segment == e.segments) && decide ((e.order.length : Int) > 0)))) rfl (fun hc => ?_) (fun hc => ?_)
  · replace hH := condT hc hH
    refine AW.seq ?_
    refine AW.region ?_
    refine AO.pure T rfl rfl rfl ?_
    refine AO.nil ?_
    refine AW.ret ?_
    cases someE hH
    exact ⟨trivial, _, [], rfl, .c (.c .v), by decide⟩
  · replace hH := condF hc hH
    refine AW.skip ?_
    refine AW.seq ?_
    refine AW.seq ?_
    refine AW.region ?_
    refine AO.pure T rfl rfl rfl ?_
    refine AO.pure T rfl rfl rfl ?_
    refine AO.val rfl rfl (len_map_ok T rfl rfl rfl) ?_
    refine AO.pure T rfl rfl rfl ?_
    refine AO.nil ?_
    refine AW.block ?_
    refine AW.loopS (fun s : Nat => (⟨[(1, .p 1 0), (23, .s (List.map encResult e.results)), (24, .v (.int .i64 (e.results.length : Int))), (25, .v (.int .i64 (s : Int)))], [(1, .box [.v (.int .i64 e.segments), .v (.int .i64 e.size), .v (.int .i64 e.key), .s (List.map encEntrant e.entrants), .s (List.map encInt e.gone), .v (.int .i64 e.segment), .s (List.map encInt e.order), .s (List.map encResult e.results)])], 76, []⟩ : St)) (fun s => s ≤ e.results.length ∧ spec_evGood_l1 e fuel (e.results.drop s) s = some r) (fun s => e.results.length - s) 0 ⟨Nat.zero_le _, hH⟩ ?_ ?_
    · exact Le.cut 0 0 rfl (by repeat' (first | exact trivial | refine ⟨⟨_, rfl, rfl⟩, ?_⟩)) (by repeat' (first | exact trivial | refine ⟨⟨_, rfl, rfl⟩, ?_⟩)) rfl
    · rintro k3 ⟨hk, hH⟩
      replace hH : spec_evGood_l1 e fuel (e.results.drop k3) k3 = some r := hH
      show AW _ _ _ (⟨[(1, .p 1 0), (23, .s (List.map encResult e.results)), (24, .v (.int .i64 (e.results.length : Int))), (25, .v (.int .i64 (k3 : Int)))], [(1, .box [.v (.int .i64 e.segments), .v (.int .i64 e.size), .v (.int .i64 e.key), .s (List.map encEntrant e.entrants), .s (List.map encInt e.gone), .v (.int .i64 e.segment), .s (List.map encInt e.order), .s (List.map encResult e.results)])], 76, []⟩ : St)
      refine AW.boundM (t := 23) (l := e.results) rfl (fun hb7 => ?_)
      cases hd6 : e.results.drop k3 with
      | nil =>
        rw [hd6] at hH
        rw [spec_evGood_l1] at hH
        have hlt8 := drop_ge hd6
        refine AW.seq ?_
        refine AW.region ?_
        refine AO.pure T rfl rfl rfl ?_
        refine AO.nil ?_
        refine AW.seq ?_
        refine AW.condF' (b := decide ((k3 : Int) < (e.results.length : Int))) rfl (rngF hlt8) ?_
        refine AW.exit ?_
        refine AW.seq ?_
        refine AW.seq ?_
        refine AW.region ?_
        refine AO.pure T rfl rfl rfl ?_
        refine AO.nil ?_
        refine AW.block ?_
        refine AW.loopS (fun s : Nat × Int => (⟨[(1, .p 1 0), (5, .v (.int .i64 s.2))], [(1, .box [.v (.int .i64 e.segments), .v (.int .i64 e.size), .v (.int .i64 e.key), .s (List.map encEntrant e.entrants), .s (List.map encInt e.gone), .v (.int .i64 e.segment), .s (List.map encInt e.order), .s (List.map encResult e.results)])], 76, []⟩ : St)) (fun s => spec_evGood_l2 e s.1 s.2 = some r) (fun s => s.1) (fuel, 1) hH ?_ ?_
        · exact Le.cut 0 0 rfl (by repeat' (first | exact trivial | refine ⟨⟨_, rfl, rfl⟩, ?_⟩)) (by repeat' (first | exact trivial | refine ⟨⟨_, rfl, rfl⟩, ?_⟩)) rfl
        · rintro ⟨k14, v32⟩ hH
          replace hH : spec_evGood_l2 e k14 v32 = some r := hH
          show AW _ _ _ (⟨[(1, .p 1 0), (5, .v (.int .i64 v32))], [(1, .box [.v (.int .i64 e.segments), .v (.int .i64 e.size), .v (.int .i64 e.key), .s (List.map encEntrant e.entrants), .s (List.map encInt e.gone), .v (.int .i64 e.segment), .s (List.map encInt e.order), .s (List.map encResult e.results)])], 76, []⟩ : St)
          cases k14 with
          | zero => cases (show none = some _ from hH)
          | succ k14 =>
            rw [spec_evGood_l2] at hH
            refine AW.seq ?_
            refine AW.seq ?_
            refine AW.region ?_
            refine AO.pure T rfl rfl rfl ?_
            refine AO.pure T rfl rfl rfl ?_
            refine AO.pure T rfl rfl rfl ?_
            refine AO.val rfl rfl (len_map_ok T rfl rfl rfl) ?_
            refine AO.pure T rfl rfl rfl ?_
            refine AO.nil ?_
            refine AW.cond (b := decide (v32 < (e.order.length : Int))) rfl (fun hc => ?_) (fun hc => ?_)
            · replace hH := condT hc hH
              refine AW.skip ?_
              refine AW.seq ?_
              refine AW.block ?_
              refine AW.seq ?_
              obtain ⟨x34, hx35, hH⟩ := bindE hH
              obtain ⟨x36, hx37, hH⟩ := bindE hH
              obtain ⟨x38, hx39, hH⟩ := bindE hH
              obtain ⟨x40, hx41, hH⟩ := bindE hH
              refine AW.drawn 15 4 [] mix (by kernel_rfl) rfl ?_
              refine AD.pure T (d := .g [.v (.int .i64 e.segments), .v (.int .i64 e.size), .v (.int .i64 e.key), .s (List.map encEntrant e.entrants), .s (List.map encInt e.gone), .v (.int .i64 e.segment), .s (List.map encInt e.order), .s (List.map encResult e.results)]) rfl rfl rfl ?_
              refine AD.pure T rfl rfl rfl ?_
              refine AD.pure T rfl rfl rfl ?_
              refine AD.pure T rfl rfl rfl ?_
              refine AD.val rfl rfl (ix_map_ok T rfl rfl rfl rfl rfl (hx35) rfl) ?_
              refine AD.pure T rfl rfl rfl ?_
              refine AD.val rfl rfl (callV_ok rfl rfl rfl rfl (spec_evHas_ok _ _ _ (hx37)) rfl) ?_
              refine AD.pure T rfl rfl rfl ?_
              refine AD.pureG T (d := .g [.v (.int .i64 e.segments), .v (.int .i64 e.size), .v (.int .i64 e.key), .s (List.map encEntrant e.entrants), .s (List.map encInt e.gone), .v (.int .i64 e.segment), .s (List.map encInt e.order), .s (List.map encResult e.results)]) [] rfl trivial rfl rfl ?_
              refine AD.pureG T [] rfl trivial rfl rfl ?_
              refine AD.pureG T [50] rfl ⟨fun h => h, trivial⟩ rfl rfl ?_
              refine AD.pureG T [] rfl trivial rfl rfl ?_
              refine AD.guard [52] rfl ⟨fun h => h, trivial⟩ (fun hg => arw_ok rfl rfl rfl rfl) rfl ?_
              refine AD.guard [51, 53] rfl ⟨fun h => h, fun h => h, trivial⟩ (fun hg => ix_map_ok T rfl rfl rfl rfl rfl (optT hx39 hg) rfl) rfl ?_
              refine AD.pureG T [54] rfl ⟨fun h => h, trivial⟩ rfl rfl ?_
              refine AD.nil ?_
              refine AO.guard [49, 55] rfl ⟨fun h => h, fun h => h, trivial⟩ (fun hg => callV_ok rfl rfl rfl rfl (spec_evHas_ok _ _ _ (optT hx41 hg)) rfl) rfl ?_
              refine AO.pureG T [56] rfl ⟨fun h => h, trivial⟩ rfl rfl ?_
              refine AO.val rfl rfl (pick_and rfl rfl rfl rfl) ?_
              refine AO.nil ?_
              refine AW.cond (b := (x36 && (!x40))) rfl (fun hc => ?_) (fun hc => ?_)
              · replace hH := condT hc hH
                refine AW.seq ?_
                refine AW.region ?_
                refine AO.pure T rfl rfl rfl ?_
                refine AO.nil ?_
                refine AW.le (Le.cut 0 0 (σ' := (⟨[(2, .v (.bool false))], [], 76, []⟩ : St)) rfl (by repeat' (first | exact trivial | refine ⟨⟨_, rfl, rfl⟩, ?_⟩)) (by repeat' (first | exact trivial | refine ⟨⟨_, rfl, rfl⟩, ?_⟩)) rfl) ?_
                refine AW.ret ?_
                cases someE hH
                exact ⟨trivial, _, [], rfl, .c (.c .v), by decide⟩
              · replace hH := condF hc hH
                refine AW.skip ?_
                refine AW.region ?_
                refine AO.pure T rfl rfl rfl ?_
                refine AO.val rfl rfl (arw_ok rfl rfl rfl rfl) ?_
                refine AO.pure T rfl rfl rfl ?_
                refine AO.nil ?_
                refine ⟨(k14, w64 (v32 + 1)), hH, Nat.lt_succ_self _, ?_⟩
                exact Le.cut 0 0 rfl (by repeat' (first | exact trivial | refine ⟨⟨_, rfl, rfl⟩, ?_⟩)) (by repeat' (first | exact trivial | refine ⟨⟨_, rfl, rfl⟩, ?_⟩)) rfl
            · replace hH := condF hc hH
              refine AW.exit ?_
              refine AW.seq ?_
              obtain ⟨x42, hx43, hH⟩ := bindE hH
              obtain ⟨x44, hx45, hH⟩ := bindE hH
              refine AW.drawn 14 4 [] mix (by kernel_rfl) rfl ?_
              refine AD.pure T rfl rfl rfl ?_
              refine AD.pure T rfl rfl rfl ?_
              refine AD.val rfl rfl (len_map_ok T rfl rfl rfl) ?_
              refine AD.pure T rfl rfl rfl ?_
              refine AD.pure T rfl rfl rfl ?_
              refine AD.pureG T (d := .g [.v (.int .i64 e.segments), .v (.int .i64 e.size), .v (.int .i64 e.key), .s (List.map encEntrant e.entrants), .s (List.map encInt e.gone), .v (.int .i64 e.segment), .s (List.map encInt e.order), .s (List.map encResult e.results)]) [] rfl trivial rfl rfl ?_
              refine AD.pureG T [] rfl trivial rfl rfl ?_
              refine AD.pureG T [65] rfl ⟨fun h => h, trivial⟩ rfl rfl ?_
              refine AD.pureG T [] rfl trivial rfl rfl ?_
              refine AD.pureG T [67] rfl ⟨fun h => h, trivial⟩ rfl rfl ?_
              refine AD.guard [68] rfl ⟨fun h => h, trivial⟩ (fun hg => len_map_ok T rfl rfl rfl) rfl ?_
              refine AD.guard [69] rfl ⟨fun h => h, trivial⟩ (fun hg => arw_ok rfl rfl rfl rfl) rfl ?_
              refine AD.guard [66, 70] rfl ⟨fun h => h, fun h => h, trivial⟩ (fun hg => ix_map_ok T rfl rfl rfl rfl rfl (optT hx43 hg) rfl) rfl ?_
              refine AD.pureG T [71] rfl ⟨fun h => h, trivial⟩ rfl rfl ?_
              refine AD.nil ?_
              refine AO.guard [64, 72] rfl ⟨fun h => h, fun h => h, trivial⟩ (fun hg => callV_ok rfl rfl rfl rfl (spec_evHas_ok _ _ _ (optT hx45 hg)) rfl) rfl ?_
              refine AO.pureG T [73] rfl ⟨fun h => h, trivial⟩ rfl rfl ?_
              refine AO.val rfl rfl (pick_or rfl rfl rfl rfl) ?_
              refine AO.pure T rfl rfl rfl ?_
              refine AO.nil ?_
              refine AW.ret ?_
              cases someE hH
              exact ⟨trivial, _, [], rfl, .c (.c .v), by decide⟩
      | cons y4 ys5 =>
        rw [hd6] at hH
        rw [spec_evGood_l1] at hH
        have hlt8 := drop_lt hd6
        refine AW.seq ?_
        refine AW.region ?_
        refine AO.pure T rfl rfl rfl ?_
        refine AO.nil ?_
        refine AW.seq ?_
        refine AW.condT' (b := decide ((k3 : Int) < (e.results.length : Int))) rfl (rngT hlt8) ?_
        refine AW.skip ?_
        refine AW.seq ?_
        refine AW.block ?_
        refine AW.seq ?_
        refine AW.region ?_
        refine AO.val rfl rfl (ix_map_ok T rfl rfl rfl rfl rfl (getI_drop hd6) rfl) ?_
        refine AO.pure T (d := .g [.v (.int .i64 y4.skater), .s (List.map encInt y4.scores)]) rfl rfl rfl ?_
        refine AO.step rfl (alloc_ok T rfl 4 rfl rfl rfl rfl rfl) ?_
        refine AO.step rfl (store_okE T rfl rfl rfl rfl rfl rfl rfl rfl rfl (ds' := [.v (.int .i64 y4.skater), .s (List.map encInt y4.scores)]) rfl) ?_
        refine AO.nil ?_
        refine AW.seq ?_
        obtain ⟨x46, hx47, hH⟩ := bindE hH
        refine AW.region ?_
        refine AO.pure T (d := .g [.v (.int .i64 e.segments), .v (.int .i64 e.size), .v (.int .i64 e.key), .s (List.map encEntrant e.entrants), .s (List.map encInt e.gone), .v (.int .i64 e.segment), .s (List.map encInt e.order), .s (List.map encResult e.results)]) rfl rfl rfl ?_
        refine AO.pure T (d := .g [.v (.int .i64 y4.skater), .s (List.map encInt y4.scores)]) rfl rfl rfl ?_
        refine AO.val rfl rfl (callV_ok rfl rfl rfl rfl (spec_evResult_ok _ _ _ (hx47)) rfl) ?_
        refine AO.pure T rfl rfl rfl ?_
        refine AO.nil ?_
        refine AW.cond (b := (!x46)) rfl (fun hc => ?_) (fun hc => ?_)
        · replace hH := condT hc hH
          refine AW.seq ?_
          refine AW.region ?_
          refine AO.pure T rfl rfl rfl ?_
          refine AO.nil ?_
          refine AW.ret ?_
          cases someE hH
          exact ⟨trivial, _, [], rfl, .c (.c .v), by decide⟩
        · replace hH := condF hc hH
          refine AW.skip ?_
          refine AW.region ?_
          refine AO.val rfl rfl (ar_ok rfl rfl rfl rfl (inI_succ hlt8 hb7)) ?_
          refine AO.pure T rfl rfl rfl ?_
          refine AO.nil ?_
          refine ⟨k3 + 1, ⟨Nat.succ_le_of_lt hlt8, (by rw [drop_succ_of hd6]; exact hH)⟩, (by have := hlt8; dsimp only; omega), ?_⟩
          exact Le.cut 0 0 rfl (by repeat' (first | exact trivial | refine ⟨⟨_, rfl, rfl⟩, ?_⟩)) (by repeat' (first | exact trivial | refine ⟨⟨_, rfl, rfl⟩, ?_⟩)) rfl

def spec_l1Sign_p (n : Int) : Option Int :=
  cond (decide (n > 0))
    (some 1)
    (cond (decide (n < 0))
      (some (-1))
      (some 0))
theorem spec_l1Sign_ok (n : Int) (r : Int) (hH : spec_l1Sign_p n = some r) : SpecR Tryz.prog 112 [.v (.int .i64 n)] (.v (.int .i64 r)) := by
  refine fn_ok T Tryz.func112 rfl (by decide) rfl ?_
  refine AW.seq ?_
  refine AW.region ?_
  refine AO.pure T rfl rfl rfl ?_
  refine AO.nil ?_
  refine AW.seq ?_
  refine AW.block ?_
  refine AW.seq ?_
  refine AW.region ?_
  refine AO.pure T rfl rfl rfl ?_
  refine AO.pure T rfl rfl rfl ?_
  refine AO.pure T rfl rfl rfl ?_
  refine AO.nil ?_
  refine AW.cond (b := decide (n > 0)) rfl (fun hc => ?_) (fun hc => ?_)
  · replace hH := condT hc hH
    refine AW.seq ?_
    refine AW.region ?_
    refine AO.pure T rfl rfl rfl ?_
    refine AO.nil ?_
    refine AW.ret ?_
    cases someE hH
    exact ⟨trivial, _, [], rfl, .c (.c .v), by decide⟩
  · replace hH := condF hc hH
    refine AW.seq ?_
    refine AW.region ?_
    refine AO.pure T rfl rfl rfl ?_
    refine AO.pure T rfl rfl rfl ?_
    refine AO.pure T rfl rfl rfl ?_
    refine AO.nil ?_
    refine AW.cond (b := decide (n < 0)) rfl (fun hc => ?_) (fun hc => ?_)
    · replace hH := condT hc hH
      refine AW.seq ?_
      refine AW.region ?_
      refine AO.pure T rfl rfl rfl ?_
      refine AO.nil ?_
      refine AW.ret ?_
      cases someE hH
      exact ⟨trivial, _, [], rfl, .c (.c .v), by decide⟩
    · replace hH := condF hc hH
      refine AW.skip ?_
      refine AW.seq ?_
      refine AW.region ?_
      refine AO.pure T rfl rfl rfl ?_
      refine AO.nil ?_
      refine AW.ret ?_
      cases someE hH
      exact ⟨trivial, _, [], rfl, .c (.c .v), by decide⟩

def spec_rkCompare_l1 (a : Result) (b : Result) : Nat → Int → Option Int
  | 0, _ => none
  | k9 + 1, v23 =>
    cond (decide (v23 ≥ 0))
      ((getI a.scores v23).bind fun x25 =>
      (getI b.scores v23).bind fun x27 =>
      cond (x25 != x27)
        ((spec_l1Sign_p (w64 (x25 - x27))).bind fun x29 =>
        some x29)
        (spec_rkCompare_l1 a b k9 (w64 (v23 - 1))))
      (some 0)
def spec_rkCompare_p (fuel : Nat) (a : Result) (b : Result) : Option Int :=
  (spec_rkTotal_p a).bind fun x1 =>
  (spec_rkTotal_p b).bind fun x3 =>
  cond (x1.2 != x3.2)
    ((spec_l1Sign_p (w64 (x1.2 - x3.2))).bind fun x5 =>
    some x5)
    (cond (x1.1 != x3.1)
      ((spec_l1Sign_p (w64 (x1.1 - x3.1))).bind fun x7 =>
      some x7)
      (spec_rkCompare_l1 a b fuel (w64 ((a.scores.length : Int) - 1))))
theorem spec_rkCompare_ok (fuel : Nat) (a : Result) (b : Result) (r : Int) (hH : spec_rkCompare_p fuel a b = some r) : SpecR Tryz.prog 72 [.g (encResult a), .g (encResult b)] (.v (.int .i64 r)) := by
  refine fn_ok T Tryz.func72 rfl (by decide) rfl ?_
  refine AW.seq ?_
  refine AW.region ?_
  refine AO.step rfl (box_ok T rfl 1 rfl rfl rfl rfl) ?_
  refine AO.step rfl (box_ok T rfl 2 rfl rfl rfl rfl) ?_
  refine AO.pure T rfl rfl rfl ?_
  refine AO.nil ?_
  refine AW.seq ?_
  obtain ⟨x1, hx2, hH⟩ := bindE hH
  refine AW.region ?_
  refine AO.pure T (d := .g [.v (.int .i64 a.skater), .s (List.map encInt a.scores)]) rfl rfl rfl ?_
  refine AO.val rfl rfl (callV_ok rfl rfl rfl rfl (spec_rkTotal_ok _ _ (hx2)) rfl) ?_
  refine AO.pure T rfl rfl rfl ?_
  refine AO.pure T rfl rfl rfl ?_
  refine AO.pure T rfl rfl rfl ?_
  refine AO.pure T rfl rfl rfl ?_
  refine AO.pure T rfl rfl rfl ?_
  refine AO.nil ?_
  refine AW.seq ?_
  obtain ⟨x3, hx4, hH⟩ := bindE hH
  refine AW.region ?_
  refine AO.pure T (d := .g [.v (.int .i64 b.skater), .s (List.map encInt b.scores)]) rfl rfl rfl ?_
  refine AO.val rfl rfl (callV_ok rfl rfl rfl rfl (spec_rkTotal_ok _ _ (hx4)) rfl) ?_
  refine AO.pure T rfl rfl rfl ?_
  refine AO.pure T rfl rfl rfl ?_
  refine AO.pure T rfl rfl rfl ?_
  refine AO.pure T rfl rfl rfl ?_
  refine AO.pure T rfl rfl rfl ?_
  refine AO.nil ?_
  refine AW.seq ?_
  refine AW.seq ?_
  refine AW.region ?_
  refine AO.pure T rfl rfl rfl ?_
  refine AO.pure T rfl rfl rfl ?_
  refine AO.pure T rfl rfl rfl ?_
  refine AO.nil ?_
  refine AW.cond (b := (x1.2 != x3.2)) rfl (fun hc => ?_) (fun hc => ?_)
  · replace hH := condT hc hH
    refine AW.seq ?_
    obtain ⟨x5, hx6, hH⟩ := bindE hH
    refine AW.region ?_
    refine AO.pure T rfl rfl rfl ?_
    refine AO.pure T rfl rfl rfl ?_
    refine AO.val rfl rfl (arw_ok rfl rfl rfl rfl) ?_
    refine AO.val rfl rfl (callV_ok rfl rfl rfl rfl (spec_l1Sign_ok _ _ (hx6)) rfl) ?_
    refine AO.pure T rfl rfl rfl ?_
    refine AO.nil ?_
    refine AW.le (Le.cut 0 0 (σ' := (⟨[(4, .v (.int .i64 x5))], [], 65, []⟩ : St)) rfl (by repeat' (first | exact trivial | refine ⟨⟨_, rfl, rfl⟩, ?_⟩)) (by repeat' (first | exact trivial | refine ⟨⟨_, rfl, rfl⟩, ?_⟩)) rfl) ?_
    refine AW.ret ?_
    cases someE hH
    exact ⟨trivial, _, [], rfl, .c (.c .v), by decide⟩
  · replace hH := condF hc hH
    refine AW.skip ?_
    refine AW.seq ?_
    refine AW.seq ?_
    refine AW.region ?_
    refine AO.pure T rfl rfl rfl ?_
    refine AO.pure T rfl rfl rfl ?_
    refine AO.pure T rfl rfl rfl ?_
    refine AO.nil ?_
    refine AW.cond (b := (x1.1 != x3.1)) rfl (fun hc => ?_) (fun hc => ?_)
    · replace hH := condT hc hH
      refine AW.seq ?_
      obtain ⟨x7, hx8, hH⟩ := bindE hH
      refine AW.region ?_
      refine AO.pure T rfl rfl rfl ?_
      refine AO.pure T rfl rfl rfl ?_
      refine AO.val rfl rfl (arw_ok rfl rfl rfl rfl) ?_
      refine AO.val rfl rfl (callV_ok rfl rfl rfl rfl (spec_l1Sign_ok _ _ (hx8)) rfl) ?_
      refine AO.pure T rfl rfl rfl ?_
      refine AO.nil ?_
      refine AW.le (Le.cut 0 0 (σ' := (⟨[(4, .v (.int .i64 x7))], [], 65, []⟩ : St)) rfl (by repeat' (first | exact trivial | refine ⟨⟨_, rfl, rfl⟩, ?_⟩)) (by repeat' (first | exact trivial | refine ⟨⟨_, rfl, rfl⟩, ?_⟩)) rfl) ?_
      refine AW.ret ?_
      cases someE hH
      exact ⟨trivial, _, [], rfl, .c (.c .v), by decide⟩
    · replace hH := condF hc hH
      refine AW.skip ?_
      refine AW.seq ?_
      refine AW.seq ?_
      refine AW.region ?_
      refine AO.pure T rfl rfl rfl ?_
      refine AO.pure T rfl rfl rfl ?_
      refine AO.val rfl rfl (len_map_ok T rfl rfl rfl) ?_
      refine AO.val rfl rfl (arw_ok rfl rfl rfl rfl) ?_
      refine AO.pure T rfl rfl rfl ?_
      refine AO.nil ?_
      refine AW.le (Le.cut 0 0 (σ' := (⟨[(2, .p 1 0), (3, .p 2 0), (9, .v (.int .i64 (w64 ((a.scores.length : Int) - 1))))], [(1, .box [.v (.int .i64 a.skater), .s (List.map encInt a.scores)]), (2, .box [.v (.int .i64 b.skater), .s (List.map encInt b.scores)])], 65, []⟩ : St)) rfl (by repeat' (first | exact trivial | refine ⟨⟨_, rfl, rfl⟩, ?_⟩)) (by repeat' (first | exact trivial | refine ⟨⟨_, rfl, rfl⟩, ?_⟩)) rfl) ?_
      refine AW.block ?_
      refine AW.loopS (fun s : Nat × Int => (⟨[(2, .p 1 0), (3, .p 2 0), (9, .v (.int .i64 s.2))], [(1, .box [.v (.int .i64 a.skater), .s (List.map encInt a.scores)]), (2, .box [.v (.int .i64 b.skater), .s (List.map encInt b.scores)])], 65, []⟩ : St)) (fun s => spec_rkCompare_l1 a b s.1 s.2 = some r) (fun s => s.1) (fuel, w64 ((a.scores.length : Int) - 1)) hH ?_ ?_
      · exact Le.cut 0 0 rfl (by repeat' (first | exact trivial | refine ⟨⟨_, rfl, rfl⟩, ?_⟩)) (by repeat' (first | exact trivial | refine ⟨⟨_, rfl, rfl⟩, ?_⟩)) rfl
      · rintro ⟨k9, v23⟩ hH
        replace hH : spec_rkCompare_l1 a b k9 v23 = some r := hH
        show AW _ _ _ (⟨[(2, .p 1 0), (3, .p 2 0), (9, .v (.int .i64 v23))], [(1, .box [.v (.int .i64 a.skater), .s (List.map encInt a.scores)]), (2, .box [.v (.int .i64 b.skater), .s (List.map encInt b.scores)])], 65, []⟩ : St)
        cases k9 with
        | zero => cases (show none = some _ from hH)
        | succ k9 =>
          rw [spec_rkCompare_l1] at hH
          refine AW.seq ?_
          refine AW.seq ?_
          refine AW.region ?_
          refine AO.pure T rfl rfl rfl ?_
          refine AO.pure T rfl rfl rfl ?_
          refine AO.nil ?_
          refine AW.cond (b := decide (v23 ≥ 0)) rfl (fun hc => ?_) (fun hc => ?_)
          · replace hH := condT hc hH
            refine AW.skip ?_
            refine AW.seq ?_
            refine AW.block ?_
            refine AW.seq ?_
            obtain ⟨x25, hx26, hH⟩ := bindE hH
            obtain ⟨x27, hx28, hH⟩ := bindE hH
            refine AW.drawn 10 3 [] mix (by kernel_rfl) rfl ?_
            refine AD.pure T rfl rfl rfl ?_
            refine AD.pure T rfl rfl rfl ?_
            refine AD.pure T rfl rfl rfl ?_
            refine AD.val rfl rfl (ix_map_ok T rfl rfl rfl rfl rfl (hx26) rfl) ?_
            refine AD.pure T rfl rfl rfl ?_
            refine AD.pure T rfl rfl rfl ?_
            refine AD.pure T rfl rfl rfl ?_
            refine AD.pure T rfl rfl rfl ?_
            refine AD.val rfl rfl (ix_map_ok T rfl rfl rfl rfl rfl (hx28) rfl) ?_
            refine AD.pure T rfl rfl rfl ?_
            refine AD.nil ?_
            refine AO.pure T rfl rfl rfl ?_
            refine AO.nil ?_
            refine AW.cond (b := (x25 != x27)) rfl (fun hc => ?_) (fun hc => ?_)
            · replace hH := condT hc hH
              refine AW.seq ?_
              obtain ⟨x29, hx30, hH⟩ := bindE hH
              refine AW.drawn 10 3 [] mix (by kernel_rfl) rfl ?_
              refine AD.pure T rfl rfl rfl ?_
              refine AD.pure T rfl rfl rfl ?_
              refine AD.pure T rfl rfl rfl ?_
              refine AD.val rfl rfl (ix_map_ok T rfl rfl rfl rfl rfl (hx26) rfl) ?_
              refine AD.pure T rfl rfl rfl ?_
              refine AD.pure T rfl rfl rfl ?_
              refine AD.pure T rfl rfl rfl ?_
              refine AD.pure T rfl rfl rfl ?_
              refine AD.val rfl rfl (ix_map_ok T rfl rfl rfl rfl rfl (hx28) rfl) ?_
              refine AD.pure T rfl rfl rfl ?_
              refine AD.nil ?_
              refine AO.val rfl rfl (arw_ok rfl rfl rfl rfl) ?_
              refine AO.val rfl rfl (callV_ok rfl rfl rfl rfl (spec_l1Sign_ok _ _ (hx30)) rfl) ?_
              refine AO.pure T rfl rfl rfl ?_
              refine AO.nil ?_
              refine AW.le (Le.cut 0 0 (σ' := (⟨[(4, .v (.int .i64 x29))], [], 65, []⟩ : St)) rfl (by repeat' (first | exact trivial | refine ⟨⟨_, rfl, rfl⟩, ?_⟩)) (by repeat' (first | exact trivial | refine ⟨⟨_, rfl, rfl⟩, ?_⟩)) rfl) ?_
              refine AW.ret ?_
              cases someE hH
              exact ⟨trivial, _, [], rfl, .c (.c .v), by decide⟩
            · replace hH := condF hc hH
              refine AW.skip ?_
              refine AW.region ?_
              refine AO.pure T rfl rfl rfl ?_
              refine AO.val rfl rfl (arw_ok rfl rfl rfl rfl) ?_
              refine AO.pure T rfl rfl rfl ?_
              refine AO.nil ?_
              refine ⟨(k9, w64 (v23 - 1)), hH, Nat.lt_succ_self _, ?_⟩
              exact Le.cut 0 0 rfl (by repeat' (first | exact trivial | refine ⟨⟨_, rfl, rfl⟩, ?_⟩)) (by repeat' (first | exact trivial | refine ⟨⟨_, rfl, rfl⟩, ?_⟩)) rfl
          · replace hH := condF hc hH
            refine AW.exit ?_
            refine AW.seq ?_
            refine AW.region ?_
            refine AO.pure T rfl rfl rfl ?_
            refine AO.nil ?_
            refine AW.ret ?_
            cases someE hH
            exact ⟨trivial, _, [], rfl, .c (.c .v), by decide⟩

def spec_rkOrder_l2 (l : List Result) (fuel : Nat) (y2 : Result) (v144 : List Int) : Nat → Int → Option Int
  | 0, _ => none
  | k228 + 1, v242 =>
    cond (decide (v242 > 0))
      ((getI v144 (w64 (v242 - 1))).bind fun x244 =>
      (getI l x244).bind fun x246 =>
      (spec_rkCompare_p fuel y2 x246).bind fun x248 =>
      cond (decide (x248 < 0) || ((x248 == 0) && decide (y2.skater > x246.skater)))
        (some v242)
        (spec_rkOrder_l2 l fuel y2 v144 k228 (w64 (v242 - 1))))
      (some v242)
def spec_rkOrder_l1 (l : List Result) (fuel : Nat) : List Result → Nat → List Int → Option ((List Int))
  | [], k1, v144 =>
    some v144
  | y2 :: ys3, k1, v144 =>
    ((spec_rkOrder_l2 l fuel y2 v144 fuel (v144.length : Int)).bind fun v225 =>
    (sliceHi v144 v225).bind fun x250 =>
    (spec_l1Own_p x250).bind fun x252 =>
    (need (fitsB 8 (x252.length + ([(k1 : Int)]).length))).bind fun u254 =>
    (sliceLo v144 v225).bind fun x256 =>
    (need (fitsB 8 (((x252 ++ [(k1 : Int)])).length + x256.length))).bind fun u258 =>
    some ((x252 ++ [(k1 : Int)]) ++ x256)).bind fun v201 =>
    spec_rkOrder_l1 l fuel ys3 (k1 + 1) v201
def spec_rkOrder_p (fuel : Nat) (l : List Result) : Option (List Int) :=
  spec_rkOrder_l1 l fuel l 0 []
theorem spec_rkOrder_ok (fuel : Nat) (l : List Result) (r : (List Int)) (hH : spec_rkOrder_p fuel l = some r) : SpecR Tryz.prog 48 [.s (List.map encResult l)] (.w 1 (r.map encInt)) := by
  refine fn_ok T Tryz.func48 rfl (by decide) rfl ?_
  refine AW.seq ?_
  refine AW.region ?_
  refine AO.pure T rfl rfl rfl ?_
  refine AO.nil ?_
  refine AW.seq ?_
  refine AW.region ?_
  refine AO.pure T rfl rfl rfl ?_
  refine AO.nil ?_
  refine AW.seq ?_
  refine AW.seq ?_
  refine AW.region ?_
  refine AO.pure T rfl rfl rfl ?_
  refine AO.val rfl rfl (len_map_ok T rfl rfl rfl) ?_
  refine AO.pure T rfl rfl rfl ?_
  refine AO.nil ?_
  refine AW.block ?_
  refine AW.loopS (fun s : Nat × (List Int) => (⟨[(0, .s (List.map encResult l)), (3, .R 15), (8, .s (List.map encResult l)), (9, .v (.int .i64 (l.length : Int))), (10, .v (.int .i64 (s.1 : Int)))], [(15, .row 1 (List.map encInt s.2))], 64, []⟩ : St)) (fun s => s.1 ≤ l.length ∧ spec_rkOrder_l1 l fuel (l.drop s.1) s.1 s.2 = some r) (fun s => l.length - s.1) (0, []) ⟨Nat.zero_le _, hH⟩ ?_ ?_
  · refine Le.trans (Le.void 3 15 1 rfl rfl) ?_
    exact Le.cut 0 0 rfl (by repeat' (first | exact trivial | refine ⟨⟨_, rfl, rfl⟩, ?_⟩)) (by repeat' (first | exact trivial | refine ⟨⟨_, rfl, rfl⟩, ?_⟩)) rfl
  · rintro ⟨k1, v144⟩ ⟨hk, hH⟩
    replace hH : spec_rkOrder_l1 l fuel (l.drop k1) k1 v144 = some r := hH
    show AW _ _ _ (⟨[(0, .s (List.map encResult l)), (3, .R 15), (8, .s (List.map encResult l)), (9, .v (.int .i64 (l.length : Int))), (10, .v (.int .i64 (k1 : Int)))], [(15, .row 1 (List.map encInt v144))], 64, []⟩ : St)
    refine AW.boundM (t := 0) (l := l) rfl (fun hb5 => ?_)
    cases hd4 : l.drop k1 with
    | nil =>
      rw [hd4] at hH
      rw [spec_rkOrder_l1] at hH
      have hlt6 := drop_ge hd4
      refine AW.seq ?_
      refine AW.region ?_
      refine AO.pure T rfl rfl rfl ?_
      refine AO.nil ?_
      refine AW.seq ?_
      refine AW.condF' (b := decide ((k1 : Int) < (l.length : Int))) rfl (rngF hlt6) ?_
      refine AW.exit ?_
      refine AW.seq ?_
      refine AW.region ?_
      refine AO.pure T rfl rfl rfl ?_
      refine AO.pure T rfl rfl rfl ?_
      refine AO.nil ?_
      refine AW.ret ?_
      cases someE hH
      exact ⟨trivial, _, [15], rfl, .c (.c (.rowR rfl)), by decide⟩
    | cons y2 ys3 =>
      rw [hd4] at hH
      rw [spec_rkOrder_l1] at hH
      have hlt6 := drop_lt hd4
      refine AW.seq ?_
      refine AW.region ?_
      refine AO.pure T rfl rfl rfl ?_
      refine AO.nil ?_
      refine AW.seq ?_
      refine AW.condT' (b := decide ((k1 : Int) < (l.length : Int))) rfl (rngT hlt6) ?_
      refine AW.skip ?_
      obtain ⟨o202, hH, hK203⟩ := bindE hH
      refine AW.seqJ (fun s : List Int => (⟨[(0, .s (List.map encResult l)), (3, .R 25), (8, .s (List.map encResult l)), (9, .v (.int .i64 (l.length : Int))), (10, .v (.int .i64 (k1 : Int)))], [(25, .row 1 (List.map encInt s))], 64, []⟩ : St)) (fun s => s = o202) ?_ ?_
      · refine AW.block ?_
        refine AW.seq ?_
        refine AW.region ?_
        refine AO.pure T rfl rfl rfl ?_
        refine AO.val rfl rfl (ix_map_ok T rfl rfl rfl rfl rfl (getI_drop hd4) rfl) ?_
        refine AO.pure T (d := .g [.v (.int .i64 y2.skater), .s (List.map encInt y2.scores)]) rfl rfl rfl ?_
        refine AO.step rfl (alloc_ok T rfl 26 rfl rfl rfl rfl rfl) ?_
        refine AO.pure T rfl rfl rfl ?_
        refine AO.step rfl (store_okE T rfl rfl rfl rfl rfl rfl rfl rfl rfl (ds' := [.v (.int .i64 y2.skater), .s (List.map encInt y2.scores)]) rfl) ?_
        refine AO.nil ?_
        refine AW.seq ?_
        refine AW.region ?_
        refine AO.pure T rfl rfl rfl ?_
        refine AO.val rfl rfl (len_row_ok T rfl rfl rfl rfl) ?_
        refine AO.pure T rfl rfl rfl ?_
        refine AO.nil ?_
        obtain ⟨o226, hH, hK227⟩ := bindE hH
        refine AW.seqJ (fun s : Int => (⟨[(0, .s (List.map encResult l)), (3, .R 15), (4, .v (.int .i64 (k1 : Int))), (6, .v (.int .i64 s)), (8, .s (List.map encResult l)), (9, .v (.int .i64 (l.length : Int))), (10, .v (.int .i64 (k1 : Int)))], [(15, .row 1 (List.map encInt v144))], 64, []⟩ : St)) (fun s => s = o226) ?_ ?_
        · refine AW.block ?_
          refine AW.loopS (fun s : Nat × Int => (⟨[(0, .s (List.map encResult l)), (3, .R 15), (4, .v (.int .i64 (k1 : Int))), (5, .p 26 0), (6, .v (.int .i64 s.2)), (8, .s (List.map encResult l)), (9, .v (.int .i64 (l.length : Int))), (10, .v (.int .i64 (k1 : Int)))], [(15, .row 1 (List.map encInt v144)), (26, .box [.v (.int .i64 y2.skater), .s (List.map encInt y2.scores)])], 64, []⟩ : St)) (fun s => spec_rkOrder_l2 l fuel y2 v144 s.1 s.2 = some o226) (fun s => s.1) (fuel, (v144.length : Int)) hH ?_ ?_
          · exact Le.cut 0 0 rfl (by repeat' (first | exact trivial | refine ⟨⟨_, rfl, rfl⟩, ?_⟩)) (by repeat' (first | exact trivial | refine ⟨⟨_, rfl, rfl⟩, ?_⟩)) rfl
          · rintro ⟨k228, v242⟩ hH
            replace hH : spec_rkOrder_l2 l fuel y2 v144 k228 v242 = some o226 := hH
            show AW _ _ _ (⟨[(0, .s (List.map encResult l)), (3, .R 15), (4, .v (.int .i64 (k1 : Int))), (5, .p 26 0), (6, .v (.int .i64 v242)), (8, .s (List.map encResult l)), (9, .v (.int .i64 (l.length : Int))), (10, .v (.int .i64 (k1 : Int)))], [(15, .row 1 (List.map encInt v144)), (26, .box [.v (.int .i64 y2.skater), .s (List.map encInt y2.scores)])], 64, []⟩ : St)
            cases k228 with
            | zero => cases (show none = some _ from hH)
            | succ k228 =>
              rw [spec_rkOrder_l2] at hH
              refine AW.seq ?_
              refine AW.seq ?_
              refine AW.region ?_
              refine AO.pure T rfl rfl rfl ?_
              refine AO.pure T rfl rfl rfl ?_
              refine AO.nil ?_
              refine AW.cond (b := decide (v242 > 0)) rfl (fun hc => ?_) (fun hc => ?_)
              · replace hH := condT hc hH
                refine AW.skip ?_
                refine AW.block ?_
                refine AW.seq ?_
                obtain ⟨x244, hx245, hH⟩ := bindE hH
                obtain ⟨x246, hx247, hH⟩ := bindE hH
                obtain ⟨x248, hx249, hH⟩ := bindE hH
                refine AW.drawn 9 27 [] mix (by kernel_rfl) rfl ?_
                refine AD.pure T (d := .g [.v (.int .i64 y2.skater), .s (List.map encInt y2.scores)]) rfl rfl rfl ?_
                refine AD.pure T rfl rfl rfl ?_
                refine AD.pure T rfl rfl rfl ?_
                refine AD.pure T rfl rfl rfl ?_
                refine AD.val rfl rfl (arw_ok rfl rfl rfl rfl) ?_
                refine AD.val rfl rfl (ix_row_ok T rfl rfl rfl rfl rfl rfl (hx245)) ?_
                refine AD.val rfl rfl (load_row_ok T rfl rfl rfl rfl (getI_get (hx245)) rfl rfl rfl) ?_
                refine AD.val rfl rfl (ix_map_ok T rfl rfl rfl rfl rfl (hx247) rfl) ?_
                refine AD.pure T (d := .g [.v (.int .i64 x246.skater), .s (List.map encInt x246.scores)]) rfl rfl rfl ?_
                refine AD.nil ?_
                refine AO.val rfl rfl (callV_ok rfl rfl rfl rfl (spec_rkCompare_ok fuel _ _ _ (hx249)) rfl) ?_
                refine AO.pure T rfl rfl rfl ?_
                refine AO.nil ?_
                refine AW.seq ?_
                refine AW.seq ?_
                refine AW.drawn 17 27 [] mix (by kernel_rfl) rfl ?_
                refine AD.pure T rfl rfl rfl ?_
                refine AD.pure T rfl rfl rfl ?_
                refine AD.pure T rfl rfl rfl ?_
                refine AD.pureG T [] rfl trivial rfl rfl ?_
                refine AD.pureG T [32] rfl ⟨fun h => h, trivial⟩ rfl rfl ?_
                refine AD.pureG T [33] rfl ⟨fun h => h, trivial⟩ rfl rfl ?_
                refine AD.pureG T [] rfl trivial rfl rfl ?_
                refine AD.pureG T [35] rfl ⟨fun h => h, trivial⟩ rfl rfl ?_
                refine AD.pureG T [] rfl trivial rfl rfl ?_
                refine AD.pureG T [] rfl trivial rfl rfl ?_
                refine AD.pureG T [] rfl trivial rfl rfl ?_
                refine AD.guard [39] rfl ⟨fun h => h, trivial⟩ (fun hg => arw_ok rfl rfl rfl rfl) rfl ?_
                refine AD.guard [38, 40] rfl ⟨fun h => h, fun h => h, trivial⟩ (fun hg => ix_row_ok T rfl rfl rfl rfl rfl rfl (hx245)) rfl ?_
                refine AD.guard [41] rfl ⟨fun h => h, trivial⟩ (fun hg => load_row_ok T rfl rfl rfl rfl (getI_get (hx245)) rfl rfl rfl) rfl ?_
                refine AD.guard [37, 42] rfl ⟨fun h => h, fun h => h, trivial⟩ (fun hg => ix_map_ok T rfl rfl rfl rfl rfl (hx247) rfl) rfl ?_
                refine AD.pureG T [43] rfl ⟨fun h => h, trivial⟩ rfl rfl ?_
                refine AD.pureG T [44] rfl ⟨fun h => h, trivial⟩ rfl rfl ?_
                refine AD.nil ?_
                refine AO.pureG T [36, 45] rfl ⟨fun h => h, fun h => h, trivial⟩ rfl rfl ?_
                refine AO.guard [34] rfl ⟨fun h => h, trivial⟩ (fun hg => pick_and rfl rfl rfl (by rw [hg]; exact Bool.true_and _)) rfl ?_
                refine AO.val rfl rfl (pick_or rfl rfl rfl rfl) ?_
                refine AO.nil ?_
                refine AW.le (Le.cut 0 0 (σ' := (⟨[(0, .s (List.map encResult l)), (3, .R 15), (4, .v (.int .i64 (k1 : Int))), (5, .p 26 0), (6, .v (.int .i64 v242)), (8, .s (List.map encResult l)), (9, .v (.int .i64 (l.length : Int))), (10, .v (.int .i64 (k1 : Int))), (48, .v (.bool (decide (x248 < 0) || ((x248 == 0) && decide (y2.skater > x246.skater)))))], [(15, .row 1 (List.map encInt v144)), (26, .box [.v (.int .i64 y2.skater), .s (List.map encInt y2.scores)])], 64, []⟩ : St)) rfl (by repeat' (first | exact trivial | refine ⟨⟨_, rfl, rfl⟩, ?_⟩)) (by repeat' (first | exact trivial | refine ⟨⟨_, rfl, rfl⟩, ?_⟩)) rfl) ?_
                refine AW.cond (b := (decide (x248 < 0) || ((x248 == 0) && decide (y2.skater > x246.skater)))) rfl (fun hc => ?_) (fun hc => ?_)
                · replace hH := condT hc hH
                  refine AW.exit ?_
                  refine ⟨_, someE hH, ?_⟩
                  exact Le.cut 0 0 rfl (by repeat' (first | exact trivial | refine ⟨⟨_, rfl, rfl⟩, ?_⟩)) (by repeat' (first | exact trivial | refine ⟨⟨_, rfl, rfl⟩, ?_⟩)) rfl
                · replace hH := condF hc hH
                  refine AW.skip ?_
                  refine AW.region ?_
                  refine AO.pure T rfl rfl rfl ?_
                  refine AO.val rfl rfl (arw_ok rfl rfl rfl rfl) ?_
                  refine AO.pure T rfl rfl rfl ?_
                  refine AO.nil ?_
                  refine ⟨(k228, w64 (v242 - 1)), hH, Nat.lt_succ_self _, ?_⟩
                  exact Le.cut 0 0 rfl (by repeat' (first | exact trivial | refine ⟨⟨_, rfl, rfl⟩, ?_⟩)) (by repeat' (first | exact trivial | refine ⟨⟨_, rfl, rfl⟩, ?_⟩)) rfl
              · replace hH := condF hc hH
                refine AW.exit ?_
                refine ⟨_, someE hH, ?_⟩
                exact Le.cut 0 0 rfl (by repeat' (first | exact trivial | refine ⟨⟨_, rfl, rfl⟩, ?_⟩)) (by repeat' (first | exact trivial | refine ⟨⟨_, rfl, rfl⟩, ?_⟩)) rfl
        · rintro v225 hs
          subst hs
          replace hH := hK227
          try dsimp only [flow, flowE] at hH
          show AW _ _ _ (⟨[(0, .s (List.map encResult l)), (3, .R 15), (4, .v (.int .i64 (k1 : Int))), (6, .v (.int .i64 v225)), (8, .s (List.map encResult l)), (9, .v (.int .i64 (l.length : Int))), (10, .v (.int .i64 (k1 : Int)))], [(15, .row 1 (List.map encInt v144))], 64, []⟩ : St)
          obtain ⟨x250, hx251, hH⟩ := bindE hH
          obtain ⟨x252, hx253, hH⟩ := bindE hH
          obtain ⟨u254, hx255, hH⟩ := bindE hH
          obtain ⟨x256, hx257, hH⟩ := bindE hH
          obtain ⟨u258, hx259, hH⟩ := bindE hH
          refine AW.le (Le.freezeM 15 (g := encInt) rfl (fun y => .vs rfl)) ?_
          refine AW.drawn 10 27 [] mix (by kernel_rfl) rfl ?_
          refine AD.pure T rfl rfl rfl ?_
          refine AD.pure T rfl rfl rfl ?_
          refine AD.val rfl rfl (slice_hi_map_ok T rfl rfl rfl rfl rfl (hx251) (fun _ => rfl)) ?_
          refine AD.q (FStep.call rfl rfl rfl rfl rfl (spec_l1Own_ok _ _ (hx253)) rfl rfl) (impT_names _ _) (impT_le _ _) rfl ?_
          refine AD.pure T rfl rfl rfl ?_
          refine AD.q (FStep.mk T (f := encInt) (l := [(k1 : Int)]) rfl rfl rfl rfl rfl rfl rfl rfl rfl (fun _ => rfl) rfl rfl rfl rfl) (by simp [namesIn]) (Nat.le_succ _) rfl ?_
          refine AD.k rfl rfl (FStep.app_rv T rfl rfl rfl rfl rfl rfl rfl (by decide) rfl rfl rfl rfl (fun _ => rfl) (needT (hx255)) rfl) rfl rfl rfl ?_
          refine AD.pure T rfl rfl rfl ?_
          refine AD.pure T rfl rfl rfl ?_
          refine AD.val rfl rfl (slice_lo_map_ok T rfl rfl rfl rfl rfl (hx257) (fun _ => rfl)) ?_
          refine AD.nil ?_
          refine AO.step rfl (app_rs_map T rfl 30 rfl rfl rfl rfl rfl (by decide) (by decide) rfl rfl rfl (fun _ => rfl) (needT (hx259)) rfl rfl) ?_
          refine AO.pure T rfl rfl rfl ?_
          refine AO.nil ?_
          refine ⟨_, someE hH, ?_⟩
          exact Le.cut 30 25 rfl (by repeat' (first | exact trivial | refine ⟨⟨_, rfl, rfl⟩, ?_⟩)) (by repeat' (first | exact trivial | refine ⟨⟨_, rfl, rfl⟩, ?_⟩)) rfl
      · rintro v201 hs
        subst hs
        replace hH := hK203
        try dsimp only [flow, flowE] at hH
        show AW _ _ _ (⟨[(0, .s (List.map encResult l)), (3, .R 25), (8, .s (List.map encResult l)), (9, .v (.int .i64 (l.length : Int))), (10, .v (.int .i64 (k1 : Int)))], [(25, .row 1 (List.map encInt v201))], 64, []⟩ : St)
        refine AW.region ?_
        refine AO.val rfl rfl (ar_ok rfl rfl rfl rfl (inI_succ hlt6 hb5)) ?_
        refine AO.pure T rfl rfl rfl ?_
        refine AO.nil ?_
        refine ⟨(k1 + 1, v201), ⟨Nat.succ_le_of_lt hlt6, (by rw [drop_succ_of hd4]; exact hH)⟩, (by have := hlt6; dsimp only; omega), ?_⟩
        exact Le.cut 25 15 rfl (by repeat' (first | exact trivial | refine ⟨⟨_, rfl, rfl⟩, ?_⟩)) (by repeat' (first | exact trivial | refine ⟨⟨_, rfl, rfl⟩, ?_⟩)) rfl

def spec_rkPlace_l1 (l : List Result) (i : Int) (fuel : Nat) : List Result → Nat → Int → Option Int
  | [], k1, v16 =>
    some v16
  | y2 :: ys3, k1, v16 =>
    (getI l i).bind fun x18 =>
    (spec_rkCompare_p fuel y2 x18).bind fun x20 =>
    cond (decide (x20 > 0))
      (spec_rkPlace_l1 l i fuel ys3 (k1 + 1) (w64 (v16 + 1)))
      (spec_rkPlace_l1 l i fuel ys3 (k1 + 1) v16)
def spec_rkPlace_p (fuel : Nat) (l : List Result) (i : Int) : Option Int :=
  spec_rkPlace_l1 l i fuel l 0 1
theorem spec_rkPlace_ok (fuel : Nat) (l : List Result) (i : Int) (r : Int) (hH : spec_rkPlace_p fuel l i = some r) : SpecR Tryz.prog 49 [.s (List.map encResult l), .v (.int .i64 i)] (.v (.int .i64 r)) := by
  refine fn_ok T Tryz.func49 rfl (by decide) rfl ?_
  refine AW.seq ?_
  refine AW.region ?_
  refine AO.pure T rfl rfl rfl ?_
  refine AO.nil ?_
  refine AW.seq ?_
  refine AW.region ?_
  refine AO.pure T rfl rfl rfl ?_
  refine AO.nil ?_
  refine AW.seq ?_
  refine AW.seq ?_
  refine AW.region ?_
  refine AO.pure T rfl rfl rfl ?_
  refine AO.val rfl rfl (len_map_ok T rfl rfl rfl) ?_
  refine AO.pure T rfl rfl rfl ?_
  refine AO.nil ?_
  refine AW.block ?_
  refine AW.loopS (fun s : Nat × Int => (⟨[(0, .s (List.map encResult l)), (1, .v (.int .i64 i)), (5, .v (.int .i64 s.2)), (8, .s (List.map encResult l)), (9, .v (.int .i64 (l.length : Int))), (10, .v (.int .i64 (s.1 : Int)))], [], 25, []⟩ : St)) (fun s => s.1 ≤ l.length ∧ spec_rkPlace_l1 l i fuel (l.drop s.1) s.1 s.2 = some r) (fun s => l.length - s.1) (0, 1) ⟨Nat.zero_le _, hH⟩ ?_ ?_
  · exact Le.cut 0 0 rfl (by repeat' (first | exact trivial | refine ⟨⟨_, rfl, rfl⟩, ?_⟩)) (by repeat' (first | exact trivial | refine ⟨⟨_, rfl, rfl⟩, ?_⟩)) rfl
  · rintro ⟨k1, v16⟩ ⟨hk, hH⟩
    replace hH : spec_rkPlace_l1 l i fuel (l.drop k1) k1 v16 = some r := hH
    show AW _ _ _ (⟨[(0, .s (List.map encResult l)), (1, .v (.int .i64 i)), (5, .v (.int .i64 v16)), (8, .s (List.map encResult l)), (9, .v (.int .i64 (l.length : Int))), (10, .v (.int .i64 (k1 : Int)))], [], 25, []⟩ : St)
    refine AW.boundM (t := 0) (l := l) rfl (fun hb5 => ?_)
    cases hd4 : l.drop k1 with
    | nil =>
      rw [hd4] at hH
      rw [spec_rkPlace_l1] at hH
      have hlt6 := drop_ge hd4
      refine AW.seq ?_
      refine AW.region ?_
      refine AO.pure T rfl rfl rfl ?_
      refine AO.nil ?_
      refine AW.seq ?_
      refine AW.condF' (b := decide ((k1 : Int) < (l.length : Int))) rfl (rngF hlt6) ?_
      refine AW.exit ?_
      refine AW.seq ?_
      refine AW.region ?_
      refine AO.pure T rfl rfl rfl ?_
      refine AO.pure T rfl rfl rfl ?_
      refine AO.nil ?_
      refine AW.ret ?_
      cases someE hH
      exact ⟨trivial, _, [], rfl, .c (.c .v), by decide⟩
    | cons y2 ys3 =>
      rw [hd4] at hH
      rw [spec_rkPlace_l1] at hH
      have hlt6 := drop_lt hd4
      refine AW.seq ?_
      refine AW.region ?_
      refine AO.pure T rfl rfl rfl ?_
      refine AO.nil ?_
      refine AW.seq ?_
      refine AW.condT' (b := decide ((k1 : Int) < (l.length : Int))) rfl (rngT hlt6) ?_
      refine AW.skip ?_
      refine AW.seq ?_
      refine AW.block ?_
      refine AW.seq ?_
      refine AW.region ?_
      refine AO.val rfl rfl (ix_map_ok T rfl rfl rfl rfl rfl (getI_drop hd4) rfl) ?_
      refine AO.pure T (d := .g [.v (.int .i64 y2.skater), .s (List.map encInt y2.scores)]) rfl rfl rfl ?_
      refine AO.step rfl (alloc_ok T rfl 3 rfl rfl rfl rfl rfl) ?_
      refine AO.step rfl (store_okE T rfl rfl rfl rfl rfl rfl rfl rfl rfl (ds' := [.v (.int .i64 y2.skater), .s (List.map encInt y2.scores)]) rfl) ?_
      refine AO.nil ?_
      refine AW.seq ?_
      obtain ⟨x18, hx19, hH⟩ := bindE hH
      obtain ⟨x20, hx21, hH⟩ := bindE hH
      refine AW.drawn 5 4 [] mix (by kernel_rfl) rfl ?_
      refine AD.pure T (d := .g [.v (.int .i64 y2.skater), .s (List.map encInt y2.scores)]) rfl rfl rfl ?_
      refine AD.pure T rfl rfl rfl ?_
      refine AD.pure T rfl rfl rfl ?_
      refine AD.val rfl rfl (ix_map_ok T rfl rfl rfl rfl rfl (hx19) rfl) ?_
      refine AD.pure T (d := .g [.v (.int .i64 x18.skater), .s (List.map encInt x18.scores)]) rfl rfl rfl ?_
      refine AD.nil ?_
      refine AO.val rfl rfl (callV_ok rfl rfl rfl rfl (spec_rkCompare_ok fuel _ _ _ (hx21)) rfl) ?_
      refine AO.pure T rfl rfl rfl ?_
      refine AO.nil ?_
      refine AW.cond (b := decide (x20 > 0)) rfl (fun hc => ?_) (fun hc => ?_)
      · replace hH := condT hc hH
        refine AW.region ?_
        refine AO.pure T rfl rfl rfl ?_
        refine AO.val rfl rfl (arw_ok rfl rfl rfl rfl) ?_
        refine AO.pure T rfl rfl rfl ?_
        refine AO.nil ?_
        refine AW.region ?_
        refine AO.val rfl rfl (ar_ok rfl rfl rfl rfl (inI_succ hlt6 hb5)) ?_
        refine AO.pure T rfl rfl rfl ?_
        refine AO.nil ?_
        refine ⟨(k1 + 1, w64 (v16 + 1)), ⟨Nat.succ_le_of_lt hlt6, (by rw [drop_succ_of hd4]; exact hH)⟩, (by have := hlt6; dsimp only; omega), ?_⟩
        exact Le.cut 0 0 rfl (by repeat' (first | exact trivial | refine ⟨⟨_, rfl, rfl⟩, ?_⟩)) (by repeat' (first | exact trivial | refine ⟨⟨_, rfl, rfl⟩, ?_⟩)) rfl
      · replace hH := condF hc hH
        refine AW.skip ?_
        refine AW.region ?_
        refine AO.val rfl rfl (ar_ok rfl rfl rfl rfl (inI_succ hlt6 hb5)) ?_
        refine AO.pure T rfl rfl rfl ?_
        refine AO.nil ?_
        refine ⟨(k1 + 1, v16), ⟨Nat.succ_le_of_lt hlt6, (by rw [drop_succ_of hd4]; exact hH)⟩, (by have := hlt6; dsimp only; omega), ?_⟩
        exact Le.cut 0 0 rfl (by repeat' (first | exact trivial | refine ⟨⟨_, rfl, rfl⟩, ?_⟩)) (by repeat' (first | exact trivial | refine ⟨⟨_, rfl, rfl⟩, ?_⟩)) rfl

def spec_StandingsOf_l1 (e : Event) (fuel : Nat) : List Int → Nat → List Int → List Int → Option (((List Int) × (List Int) × Bool))
  | [], k5, v29, v30 =>
    some (v29, v30, true)
  | y6 :: ys7, k5, v29, v30 =>
    (getI e.results y6).bind fun x32 =>
    (need (fitsB 8 (v29.length + ([x32.skater]).length))).bind fun u34 =>
    (spec_rkPlace_p fuel e.results y6).bind fun x36 =>
    (need (fitsB 8 (v30.length + ([x36]).length))).bind fun u38 =>
    spec_StandingsOf_l1 e fuel ys7 (k5 + 1) (v29 ++ [x32.skater]) (v30 ++ [x36])
def spec_StandingsOf_p (fuel : Nat) (e : Event) : Option ((List Int) × (List Int) × Bool) :=
  (spec_evGood_p fuel e).bind fun x1 =>
  cond (!x1)
    (some ([], [], false))
    ((spec_rkOrder_p fuel e.results).bind fun x3 =>
    spec_StandingsOf_l1 e fuel x3 0 [] [])
theorem spec_StandingsOf_ok (fuel : Nat) (e : Event) (r : ((List Int) × (List Int) × Bool)) (hH : spec_StandingsOf_p fuel e = some r) : SpecR Tryz.prog 19 [.g (encEvent e)] (.t [.w 1 (r.1.map encInt), .w 1 (r.2.1.map encInt), .v (.bool r.2.2)]) := by
  refine fn_ok T Tryz.func19 rfl (by decide) rfl ?_
  refine AW.seq ?_
  refine AW.region ?_
  refine AO.step rfl (box_ok T rfl 1 rfl rfl rfl rfl) ?_
  refine AO.pure T rfl rfl rfl ?_
  refine AO.pure T rfl rfl rfl ?_
  refine AO.pure T rfl rfl rfl ?_
  refine AO.nil ?_
  refine AW.seq ?_
  refine AW.seq ?_
  obtain ⟨x1, hx2, hH⟩ := bindE hH
  refine AW.region ?_
  refine AO.pure T (d := .g [.v (.int .i64 e.segments), .v (.int .i64 e.size), .v (.int .i64 e.key), .s (List.map encEntrant e.entrants), .s (List.map encInt e.gone), .v (.int .i64 e.segment), .s (List.map encInt e.order), .s (List.map encResult e.results)]) rfl rfl rfl ?_
  refine AO.val rfl rfl (callV_ok rfl rfl rfl rfl (spec_evGood_ok fuel _ _ (hx2)) rfl) ?_
  refine AO.pure T rfl rfl rfl ?_
  refine AO.nil ?_
  refine AW.cond (b := (!x1)) rfl (fun hc => ?_) (fun hc => ?_)
  · replace hH := condT hc hH
    refine AW.seq ?_
    refine AW.region ?_
    refine AO.pure T rfl rfl rfl ?_
    refine AO.pure T rfl rfl rfl ?_
    refine AO.pure T rfl rfl rfl ?_
    refine AO.nil ?_
    refine AW.ret ?_
    cases someE hH
    exact ⟨trivial, _, [], rfl, .t (expLG_cons (.c .nil) (expLG_cons (.c .nil) (expLG_cons (.c .v) (expLG_nil)))), by decide⟩
  · replace hH := condF hc hH
    refine AW.skip ?_
    refine AW.seq ?_
    refine AW.region ?_
    refine AO.pure T rfl rfl rfl ?_
    refine AO.pure T rfl rfl rfl ?_
    refine AO.nil ?_
    refine AW.seq ?_
    refine AW.seq ?_
    obtain ⟨x3, hx4, hH⟩ := bindE hH
    refine AW.region ?_
    refine AO.pure T rfl rfl rfl ?_
    refine AO.pure T rfl rfl rfl ?_
    refine AO.step rfl (call_ok rfl 2 rfl rfl rfl (spec_rkOrder_ok fuel _ _ (hx4)) rfl rfl rfl) ?_
    refine AO.val rfl rfl (len_row_ok T rfl rfl rfl rfl) ?_
    refine AO.pure T rfl rfl rfl ?_
    refine AO.nil ?_
    refine AW.block ?_
    refine AW.loopS (fun s : Nat × (List Int) × (List Int) => (⟨[(1, .p 1 0), (5, .R 8), (6, .R 10), (14, .R 2), (15, .v (.int .i64 (x3.length : Int))), (16, .v (.int .i64 (s.1 : Int)))], [(1, .box [.v (.int .i64 e.segments), .v (.int .i64 e.size), .v (.int .i64 e.key), .s (List.map encEntrant e.entrants), .s (List.map encInt e.gone), .v (.int .i64 e.segment), .s (List.map encInt e.order), .s (List.map encResult e.results)]), (2, .row 1 (List.map encInt x3)), (8, .row 1 (List.map encInt s.2.1)), (10, .row 1 (List.map encInt s.2.2))], 39, []⟩ : St)) (fun s => s.1 ≤ x3.length ∧ spec_StandingsOf_l1 e fuel (x3.drop s.1) s.1 s.2.1 s.2.2 = some r) (fun s => x3.length - s.1) (0, [], []) ⟨Nat.zero_le _, hH⟩ ?_ ?_
    · refine Le.trans (Le.void 5 8 1 rfl rfl) ?_
      refine Le.trans (Le.void 6 10 1 rfl rfl) ?_
      exact Le.cut 0 0 rfl (by repeat' (first | exact trivial | refine ⟨⟨_, rfl, rfl⟩, ?_⟩)) (by repeat' (first | exact trivial | refine ⟨⟨_, rfl, rfl⟩, ?_⟩)) rfl
    · rintro ⟨k5, v29, v30⟩ ⟨hk, hH⟩
      replace hH : spec_StandingsOf_l1 e fuel (x3.drop k5) k5 v29 v30 = some r := hH
      show AW _ _ _ (⟨[(1, .p 1 0), (5, .R 8), (6, .R 10), (14, .R 2), (15, .v (.int .i64 (x3.length : Int))), (16, .v (.int .i64 (k5 : Int)))], [(1, .box [.v (.int .i64 e.segments), .v (.int .i64 e.size), .v (.int .i64 e.key), .s (List.map encEntrant e.entrants), .s (List.map encInt e.gone), .v (.int .i64 e.segment), .s (List.map encInt e.order), .s (List.map encResult e.results)]), (2, .row 1 (List.map encInt x3)), (8, .row 1 (List.map encInt v29)), (10, .row 1 (List.map encInt v30))], 39, []⟩ : St)
      refine AW.boundR (id := 2) (l := x3) rfl (fun hb9 => ?_)
      cases hd8 : x3.drop k5 with
      | nil =>
        rw [hd8] at hH
        rw [spec_StandingsOf_l1] at hH
        have hlt10 := drop_ge hd8
        refine AW.seq ?_
        refine AW.region ?_
        refine AO.pure T rfl rfl rfl ?_
        refine AO.nil ?_
        refine AW.seq ?_
        refine AW.condF' (b := decide ((k5 : Int) < (x3.length : Int))) rfl (rngF hlt10) ?_
        refine AW.exit ?_
        refine AW.seq ?_
        refine AW.region ?_
        refine AO.pure T rfl rfl rfl ?_
        refine AO.pure T rfl rfl rfl ?_
        refine AO.pure T rfl rfl rfl ?_
        refine AO.pure T rfl rfl rfl ?_
        refine AO.pure T rfl rfl rfl ?_
        refine AO.nil ?_
        refine AW.ret ?_
        cases someE hH
        exact ⟨trivial, _, [8, 10], rfl, .t (expLG_cons (.c (.rowR rfl)) (expLG_cons (.c (.rowR rfl)) (expLG_cons (.c .v) (expLG_nil)))), by decide⟩
      | cons y6 ys7 =>
        rw [hd8] at hH
        rw [spec_StandingsOf_l1] at hH
        have hlt10 := drop_lt hd8
        refine AW.seq ?_
        refine AW.region ?_
        refine AO.pure T rfl rfl rfl ?_
        refine AO.nil ?_
        refine AW.seq ?_
        refine AW.condT' (b := decide ((k5 : Int) < (x3.length : Int))) rfl (rngT hlt10) ?_
        refine AW.skip ?_
        refine AW.seq ?_
        refine AW.block ?_
        refine AW.seq ?_
        refine AW.region ?_
        refine AO.val rfl rfl (ix_row_ok T rfl rfl rfl rfl rfl rfl (getI_drop hd8)) ?_
        refine AO.val rfl rfl (load_row_ok T rfl rfl rfl rfl (getI_get (getI_drop hd8)) rfl rfl rfl) ?_
        refine AO.pure T rfl rfl rfl ?_
        refine AO.nil ?_
        refine AW.seq ?_
        obtain ⟨x32, hx33, hH⟩ := bindE hH
        obtain ⟨u34, hx35, hH⟩ := bindE hH
        refine AW.region ?_
        refine AO.pure T rfl rfl rfl ?_
        refine AO.pure T rfl rfl rfl ?_
        refine AO.pure T rfl rfl rfl ?_
        refine AO.pure T rfl rfl rfl ?_
        refine AO.val rfl rfl (ix_map_ok T rfl rfl rfl rfl rfl (hx33) rfl) ?_
        refine AO.pure T rfl rfl rfl ?_
        refine AO.pure T rfl rfl rfl ?_
        refine AO.step rfl (mk_map_ok T rfl 11 rfl rfl rfl rfl rfl (f := encInt) (l := [x32.skater]) rfl rfl (fun _ => rfl) rfl rfl rfl rfl rfl) ?_
        refine AO.step rfl (app_rv_map T rfl 12 rfl rfl rfl rfl rfl (by decide) rfl rfl rfl rfl (fun _ => rfl) (needT (hx35)) rfl rfl) ?_
        refine AO.pure T rfl rfl rfl ?_
        refine AO.nil ?_
        obtain ⟨x36, hx37, hH⟩ := bindE hH
        obtain ⟨u38, hx39, hH⟩ := bindE hH
        refine AW.region ?_
        refine AO.pure T rfl rfl rfl ?_
        refine AO.pure T rfl rfl rfl ?_
        refine AO.pure T rfl rfl rfl ?_
        refine AO.pure T rfl rfl rfl ?_
        refine AO.val rfl rfl (callV_ok rfl rfl rfl rfl (spec_rkPlace_ok fuel _ _ _ (hx37)) rfl) ?_
        refine AO.step rfl (mk_map_ok T rfl 13 rfl rfl rfl rfl rfl (f := encInt) (l := [x36]) rfl rfl (fun _ => rfl) rfl rfl rfl rfl rfl) ?_
        refine AO.step rfl (app_rv_map T rfl 14 rfl rfl rfl rfl rfl (by decide) rfl rfl rfl rfl (fun _ => rfl) (needT (hx39)) rfl rfl) ?_
        refine AO.pure T rfl rfl rfl ?_
        refine AO.nil ?_
        refine AW.region ?_
        refine AO.val rfl rfl (ar_ok rfl rfl rfl rfl (inI_succ hlt10 hb9)) ?_
        refine AO.pure T rfl rfl rfl ?_
        refine AO.nil ?_
        refine ⟨(k5 + 1, (v29 ++ [x32.skater]), (v30 ++ [x36])), ⟨Nat.succ_le_of_lt hlt10, (by rw [drop_succ_of hd8]; exact hH)⟩, (by have := hlt10; dsimp only; omega), ?_⟩
        refine Le.trans (Le.cut 12 8 (σ' := (⟨[(1, .p 1 0), (5, .R 8), (6, .R 14), (14, .R 2), (15, .v (.int .i64 (x3.length : Int))), (16, .v (.int .i64 (k5 + 1 : Nat)))], [(1, .box [.v (.int .i64 e.segments), .v (.int .i64 e.size), .v (.int .i64 e.key), .s (List.map encEntrant e.entrants), .s (List.map encInt e.gone), .v (.int .i64 e.segment), .s (List.map encInt e.order), .s (List.map encResult e.results)]), (2, .row 1 (List.map encInt x3)), (8, .row 1 (List.map encInt (v29 ++ [x32.skater]))), (14, .row 1 (List.map encInt (v30 ++ [x36])))], 39, []⟩ : St)) rfl (by repeat' (first | exact trivial | refine ⟨⟨_, rfl, rfl⟩, ?_⟩)) (by repeat' (first | exact trivial | refine ⟨⟨_, rfl, rfl⟩, ?_⟩)) rfl) ?_
        exact Le.cut 14 10 rfl (by repeat' (first | exact trivial | refine ⟨⟨_, rfl, rfl⟩, ?_⟩)) (by repeat' (first | exact trivial | refine ⟨⟨_, rfl, rfl⟩, ?_⟩)) rfl

def impl_within_p (n : Int) (low : Int) (high : Int) : Option Bool :=
  some (decide (n ≥ low) && decide (n ≤ high))
theorem impl_within_ok (n : Int) (low : Int) (high : Int) (r : Bool) (hH : impl_within_p n low high = some r) : SpecR Tryz.prog 45 [.v (.int .i64 n), .v (.int .i64 low), .v (.int .i64 high)] (.v (.bool r)) := by
  refine fn_ok T Tryz.func45 rfl (by decide) rfl ?_
  refine AW.seq ?_
  refine AW.region ?_
  refine AO.pure T rfl rfl rfl ?_
  refine AO.nil ?_
  refine AW.seq ?_
  refine AW.region ?_
  refine AO.pure T rfl rfl rfl ?_
  refine AO.pure T rfl rfl rfl ?_
  refine AO.pure T rfl rfl rfl ?_
  refine AO.pure T rfl rfl rfl ?_
  refine AO.pureG T [] rfl trivial rfl rfl ?_
  refine AO.pureG T [] rfl trivial rfl rfl ?_
  refine AO.pureG T [11, 12] rfl ⟨fun h => h, fun h => h, trivial⟩ rfl rfl ?_
  refine AO.val rfl rfl (pick_and rfl rfl rfl rfl) ?_
  refine AO.pure T rfl rfl rfl ?_
  refine AO.nil ?_
  refine AW.ret ?_
  cases someE hH
  exact ⟨trivial, _, [], rfl, .c (.c .v), by decide⟩

def impl_isGroupSize_p (size : Int) : Option Bool :=
  (impl_within_p size 1 8).bind fun x1 =>
  some x1
theorem impl_isGroupSize_ok (size : Int) (r : Bool) (hH : impl_isGroupSize_p size = some r) : SpecR Tryz.prog 74 [.v (.int .i64 size)] (.v (.bool r)) := by
  refine fn_ok T Tryz.func74 rfl (by decide) rfl ?_
  refine AW.seq ?_
  refine AW.region ?_
  refine AO.pure T rfl rfl rfl ?_
  refine AO.nil ?_
  refine AW.seq ?_
  obtain ⟨x1, hx2, hH⟩ := bindE hH
  refine AW.region ?_
  refine AO.pure T rfl rfl rfl ?_
  refine AO.val rfl rfl (callV_ok rfl rfl rfl rfl (impl_within_ok _ _ _ _ (hx2)) rfl) ?_
  refine AO.pure T rfl rfl rfl ?_
  refine AO.nil ?_
  refine AW.ret ?_
  cases someE hH
  exact ⟨trivial, _, [], rfl, .c (.c .v), by decide⟩

def impl_allWithin_l1 (low : Int) (high : Int) : List Int → Nat → Option Bool
  | [], k1 =>
    some true
  | y2 :: ys3, k1 =>
    (impl_within_p y2 low high).bind fun x12 =>
    cond (!x12)
      (some false)
      (impl_allWithin_l1 low high ys3 (k1 + 1))
def impl_allWithin_p (l : List Int) (low : Int) (high : Int) : Option Bool :=
  impl_allWithin_l1 low high l 0
theorem impl_allWithin_ok (l : List Int) (low : Int) (high : Int) (r : Bool) (hH : impl_allWithin_p l low high = some r) : SpecR Tryz.prog 137 [.s (List.map encInt l), .v (.int .i64 low), .v (.int .i64 high)] (.v (.bool r)) := by
  refine fn_ok T Tryz.func137 rfl (by decide) rfl ?_
  refine AW.seq ?_
  refine AW.region ?_
  refine AO.pure T rfl rfl rfl ?_
  refine AO.nil ?_
  refine AW.seq ?_
  refine AW.seq ?_
  refine AW.region ?_
  refine AO.pure T rfl rfl rfl ?_
  refine AO.val rfl rfl (len_map_ok T rfl rfl rfl) ?_
  refine AO.pure T rfl rfl rfl ?_
  refine AO.nil ?_
  refine AW.block ?_
  refine AW.loopS (fun s : Nat => (⟨[(1, .v (.int .i64 low)), (2, .v (.int .i64 high)), (9, .s (List.map encInt l)), (10, .v (.int .i64 (l.length : Int))), (11, .v (.int .i64 (s : Int)))], [], 21, []⟩ : St)) (fun s => s ≤ l.length ∧ impl_allWithin_l1 low high (l.drop s) s = some r) (fun s => l.length - s) 0 ⟨Nat.zero_le _, hH⟩ ?_ ?_
  · exact Le.cut 0 0 rfl (by repeat' (first | exact trivial | refine ⟨⟨_, rfl, rfl⟩, ?_⟩)) (by repeat' (first | exact trivial | refine ⟨⟨_, rfl, rfl⟩, ?_⟩)) rfl
  · rintro k1 ⟨hk, hH⟩
    replace hH : impl_allWithin_l1 low high (l.drop k1) k1 = some r := hH
    show AW _ _ _ (⟨[(1, .v (.int .i64 low)), (2, .v (.int .i64 high)), (9, .s (List.map encInt l)), (10, .v (.int .i64 (l.length : Int))), (11, .v (.int .i64 (k1 : Int)))], [], 21, []⟩ : St)
    refine AW.boundM (t := 9) (l := l) rfl (fun hb5 => ?_)
    cases hd4 : l.drop k1 with
    | nil =>
      rw [hd4] at hH
      rw [impl_allWithin_l1] at hH
      have hlt6 := drop_ge hd4
      refine AW.seq ?_
      refine AW.region ?_
      refine AO.pure T rfl rfl rfl ?_
      refine AO.nil ?_
      refine AW.seq ?_
      refine AW.condF' (b := decide ((k1 : Int) < (l.length : Int))) rfl (rngF hlt6) ?_
      refine AW.exit ?_
      refine AW.seq ?_
      refine AW.region ?_
      refine AO.pure T rfl rfl rfl ?_
      refine AO.nil ?_
      refine AW.ret ?_
      cases someE hH
      exact ⟨trivial, _, [], rfl, .c (.c .v), by decide⟩
    | cons y2 ys3 =>
      rw [hd4] at hH
      rw [impl_allWithin_l1] at hH
      have hlt6 := drop_lt hd4
      refine AW.seq ?_
      refine AW.region ?_
      refine AO.pure T rfl rfl rfl ?_
      refine AO.nil ?_
      refine AW.seq ?_
      refine AW.condT' (b := decide ((k1 : Int) < (l.length : Int))) rfl (rngT hlt6) ?_
      refine AW.skip ?_
      refine AW.seq ?_
      refine AW.block ?_
      refine AW.seq ?_
      refine AW.region ?_
      refine AO.val rfl rfl (ix_map_ok T rfl rfl rfl rfl rfl (getI_drop hd4) rfl) ?_
      refine AO.pure T rfl rfl rfl ?_
      refine AO.pure T rfl rfl rfl ?_
      refine AO.nil ?_
      refine AW.seq ?_
      obtain ⟨x12, hx13, hH⟩ := bindE hH
      refine AW.region ?_
      refine AO.pure T rfl rfl rfl ?_
      refine AO.pure T rfl rfl rfl ?_
      refine AO.pure T rfl rfl rfl ?_
      refine AO.val rfl rfl (callV_ok rfl rfl rfl rfl (impl_within_ok _ _ _ _ (hx13)) rfl) ?_
      refine AO.pure T rfl rfl rfl ?_
      refine AO.nil ?_
      refine AW.cond (b := (!x12)) rfl (fun hc => ?_) (fun hc => ?_)
      · replace hH := condT hc hH
        refine AW.seq ?_
        refine AW.region ?_
        refine AO.pure T rfl rfl rfl ?_
        refine AO.nil ?_
        refine AW.ret ?_
        cases someE hH
        exact ⟨trivial, _, [], rfl, .c (.c .v), by decide⟩
      · replace hH := condF hc hH
        refine AW.skip ?_
        refine AW.region ?_
        refine AO.val rfl rfl (ar_ok rfl rfl rfl rfl (inI_succ hlt6 hb5)) ?_
        refine AO.pure T rfl rfl rfl ?_
        refine AO.nil ?_
        refine ⟨k1 + 1, ⟨Nat.succ_le_of_lt hlt6, (by rw [drop_succ_of hd4]; exact hH)⟩, (by have := hlt6; dsimp only; omega), ?_⟩
        exact Le.cut 0 0 rfl (by repeat' (first | exact trivial | refine ⟨⟨_, rfl, rfl⟩, ?_⟩)) (by repeat' (first | exact trivial | refine ⟨⟨_, rfl, rfl⟩, ?_⟩)) rfl

def impl_areKeys_p (keys : List Int) (most : Int) : Option Bool :=
  (opt (decide ((keys.length : Int) ≤ most)) default (impl_allWithin_p keys 0 1000000000)).bind fun x1 =>
  some (decide ((keys.length : Int) ≤ most) && x1)
theorem impl_areKeys_ok (keys : List Int) (most : Int) (r : Bool) (hH : impl_areKeys_p keys most = some r) : SpecR Tryz.prog 113 [.s (List.map encInt keys), .v (.int .i64 most)] (.v (.bool r)) := by
  refine fn_ok T Tryz.func113 rfl (by decide) rfl ?_
  refine AW.seq ?_
  refine AW.region ?_
  refine AO.pure T rfl rfl rfl ?_
  refine AO.nil ?_
  refine AW.seq ?_
  obtain ⟨x1, hx2, hH⟩ := bindE hH
  refine AW.region ?_
  refine AO.pure T rfl rfl rfl ?_
  refine AO.val rfl rfl (len_map_ok T rfl rfl rfl) ?_
  refine AO.pure T rfl rfl rfl ?_
  refine AO.pure T rfl rfl rfl ?_
  refine AO.pure T rfl rfl rfl ?_
  refine AO.pureG T [] rfl trivial rfl rfl ?_
  refine AO.guard [10] rfl ⟨fun h => h, trivial⟩ (fun hg => callV_ok rfl rfl rfl rfl (impl_allWithin_ok _ _ _ _ (optT hx2 hg)) rfl) rfl ?_
  refine AO.val rfl rfl (pick_and rfl rfl rfl rfl) ?_
  refine AO.pure T rfl rfl rfl ?_
  refine AO.nil ?_
  refine AW.ret ?_
  cases someE hH
  exact ⟨trivial, _, [], rfl, .c (.c .v), by decide⟩

def impl_isKey_p (key : Int) : Option Bool :=
  (impl_areKeys_p [key] 1).bind fun x1 =>
  some x1
theorem impl_isKey_ok (key : Int) (r : Bool) (hH : impl_isKey_p key = some r) : SpecR Tryz.prog 75 [.v (.int .i64 key)] (.v (.bool r)) := by
  refine fn_ok T Tryz.func75 rfl (by decide) rfl ?_
  refine AW.seq ?_
  refine AW.region ?_
  refine AO.pure T rfl rfl rfl ?_
  refine AO.nil ?_
  refine AW.seq ?_
  obtain ⟨x1, hx2, hH⟩ := bindE hH
  refine AW.region ?_
  refine AO.pure T rfl rfl rfl ?_
  refine AO.step rfl (mk_map_ok T rfl 1 rfl rfl rfl rfl rfl (f := encInt) (l := [key]) rfl rfl (fun _ => rfl) rfl rfl rfl rfl rfl) ?_
  refine AO.val rfl rfl (callLV_ok rfl rfl rfl (es := [.s (List.map encInt [key]), .v (.int .i64 1)]) ⟨(.rowR rfl (.map fun y => .vs rfl)), .free rfl, trivial⟩ (impl_areKeys_ok _ _ _ (hx2)) (zfree_v _) rfl) ?_
  refine AO.pure T rfl rfl rfl ?_
  refine AO.nil ?_
  refine AW.ret ?_
  cases someE hH
  exact ⟨trivial, _, [], rfl, .c (.c .v), by decide⟩

def impl_isSkater_p (skater : Int) : Option Bool :=
  (impl_within_p skater 1 999).bind fun x1 =>
  some x1
theorem impl_isSkater_ok (skater : Int) (r : Bool) (hH : impl_isSkater_p skater = some r) : SpecR Tryz.prog 58 [.v (.int .i64 skater)] (.v (.bool r)) := by
  refine fn_ok T Tryz.func58 rfl (by decide) rfl ?_
  refine AW.seq ?_
  refine AW.region ?_
  refine AO.pure T rfl rfl rfl ?_
  refine AO.nil ?_
  refine AW.seq ?_
  obtain ⟨x1, hx2, hH⟩ := bindE hH
  refine AW.region ?_
  refine AO.pure T rfl rfl rfl ?_
  refine AO.val rfl rfl (callV_ok rfl rfl rfl rfl (impl_within_ok _ _ _ _ (hx2)) rfl) ?_
  refine AO.pure T rfl rfl rfl ?_
  refine AO.nil ?_
  refine AW.ret ?_
  cases someE hH
  exact ⟨trivial, _, [], rfl, .c (.c .v), by decide⟩

def slices_Index_int_l1 (v : Int) : List Int → Nat → Option Int
  | [], k1 =>
    some (-1)
  | y2 :: ys3, k1 =>
    cond (v == y2)
      (some (k1 : Int))
      (slices_Index_int_l1 v ys3 (k1 + 1))
def slices_Index_int_p (sA : List Int) (v : Int) : Option Int :=
  slices_Index_int_l1 v sA 0
theorem slices_Index_int_ok (sA : List Int) (v : Int) (r : Int) (hH : slices_Index_int_p sA v = some r) : SpecR Tryz.prog 89 [.s (List.map encInt sA), .v (.int .i64 v)] (.v (.int .i64 r)) := by
  refine fn_ok T Tryz.func89 rfl (by decide) rfl ?_
  refine AW.seq ?_
  refine AW.region ?_
  refine AO.pure T rfl rfl rfl ?_
  refine AO.nil ?_
  refine AW.seq ?_
  refine AW.seq ?_
  refine AW.region ?_
  refine AO.pure T rfl rfl rfl ?_
  refine AO.val rfl rfl (len_map_ok T rfl rfl rfl) ?_
  refine AO.pure T rfl rfl rfl ?_
  refine AO.nil ?_
  refine AW.block ?_
  refine AW.loopS (fun s : Nat => (⟨[(0, .s (List.map encInt sA)), (1, .v (.int .i64 v)), (7, .v (.int .i64 (sA.length : Int))), (8, .v (.int .i64 (s : Int)))], [], 19, []⟩ : St)) (fun s => s ≤ sA.length ∧ slices_Index_int_l1 v (sA.drop s) s = some r) (fun s => sA.length - s) 0 ⟨Nat.zero_le _, hH⟩ ?_ ?_
  · exact Le.cut 0 0 rfl (by repeat' (first | exact trivial | refine ⟨⟨_, rfl, rfl⟩, ?_⟩)) (by repeat' (first | exact trivial | refine ⟨⟨_, rfl, rfl⟩, ?_⟩)) rfl
  · rintro k1 ⟨hk, hH⟩
    replace hH : slices_Index_int_l1 v (sA.drop k1) k1 = some r := hH
    show AW _ _ _ (⟨[(0, .s (List.map encInt sA)), (1, .v (.int .i64 v)), (7, .v (.int .i64 (sA.length : Int))), (8, .v (.int .i64 (k1 : Int)))], [], 19, []⟩ : St)
    refine AW.boundM (t := 0) (l := sA) rfl (fun hb5 => ?_)
    cases hd4 : sA.drop k1 with
    | nil =>
      rw [hd4] at hH
      rw [slices_Index_int_l1] at hH
      have hlt6 := drop_ge hd4
      refine AW.seq ?_
      refine AW.region ?_
      refine AO.pure T rfl rfl rfl ?_
      refine AO.nil ?_
      refine AW.seq ?_
      refine AW.condF' (b := decide ((k1 : Int) < (sA.length : Int))) rfl (rngF hlt6) ?_
      refine AW.exit ?_
      refine AW.seq ?_
      refine AW.region ?_
      refine AO.pure T rfl rfl rfl ?_
      refine AO.nil ?_
      refine AW.ret ?_
      cases someE hH
      exact ⟨trivial, _, [], rfl, .c (.c .v), by decide⟩
    | cons y2 ys3 =>
      rw [hd4] at hH
      rw [slices_Index_int_l1] at hH
      have hlt6 := drop_lt hd4
      refine AW.seq ?_
      refine AW.region ?_
      refine AO.pure T rfl rfl rfl ?_
      refine AO.nil ?_
      refine AW.seq ?_
      refine AW.condT' (b := decide ((k1 : Int) < (sA.length : Int))) rfl (rngT hlt6) ?_
      refine AW.skip ?_
      refine AW.seq ?_
      refine AW.block ?_
      refine AW.seq ?_
      refine AW.region ?_
      refine AO.pure T rfl rfl rfl ?_
      refine AO.pure T rfl rfl rfl ?_
      refine AO.nil ?_
      refine AW.seq ?_
      refine AW.region ?_
      refine AO.pure T rfl rfl rfl ?_
      refine AO.pure T rfl rfl rfl ?_
      refine AO.pure T rfl rfl rfl ?_
      refine AO.val rfl rfl (ix_map_ok T rfl rfl rfl rfl rfl (getI_drop hd4) rfl) ?_
      refine AO.pure T rfl rfl rfl ?_
      refine AO.pure T rfl rfl rfl ?_
      refine AO.nil ?_
      refine AW.cond (b := (v == y2)) rfl (fun hc => ?_) (fun hc => ?_)
      · replace hH := condT hc hH
        refine AW.seq ?_
        refine AW.region ?_
        refine AO.pure T rfl rfl rfl ?_
        refine AO.pure T rfl rfl rfl ?_
        refine AO.nil ?_
        refine AW.ret ?_
        cases someE hH
        exact ⟨trivial, _, [], rfl, .c (.c .v), by decide⟩
      · replace hH := condF hc hH
        refine AW.skip ?_
        refine AW.region ?_
        refine AO.val rfl rfl (ar_ok rfl rfl rfl rfl (inI_succ hlt6 hb5)) ?_
        refine AO.pure T rfl rfl rfl ?_
        refine AO.nil ?_
        refine ⟨k1 + 1, ⟨Nat.succ_le_of_lt hlt6, (by rw [drop_succ_of hd4]; exact hH)⟩, (by have := hlt6; dsimp only; omega), ?_⟩
        exact Le.cut 0 0 rfl (by repeat' (first | exact trivial | refine ⟨⟨_, rfl, rfl⟩, ?_⟩)) (by repeat' (first | exact trivial | refine ⟨⟨_, rfl, rfl⟩, ?_⟩)) rfl

def slices_Contains_int_p (sA : List Int) (v : Int) : Option Bool :=
  (slices_Index_int_p sA v).bind fun x1 =>
  some (decide (x1 ≥ 0))
theorem slices_Contains_int_ok (sA : List Int) (v : Int) (r : Bool) (hH : slices_Contains_int_p sA v = some r) : SpecR Tryz.prog 63 [.s (List.map encInt sA), .v (.int .i64 v)] (.v (.bool r)) := by
  refine fn_ok T Tryz.func63 rfl (by decide) rfl ?_
  refine AW.seq ?_
  refine AW.region ?_
  refine AO.pure T rfl rfl rfl ?_
  refine AO.nil ?_
  refine AW.seq ?_
  obtain ⟨x1, hx2, hH⟩ := bindE hH
  refine AW.region ?_
  refine AO.pure T rfl rfl rfl ?_
  refine AO.pure T rfl rfl rfl ?_
  refine AO.val rfl rfl (callV_ok rfl rfl rfl rfl (slices_Index_int_ok _ _ _ (hx2)) rfl) ?_
  refine AO.pure T rfl rfl rfl ?_
  refine AO.pure T rfl rfl rfl ?_
  refine AO.nil ?_
  refine AW.ret ?_
  cases someE hH
  exact ⟨trivial, _, [], rfl, .c (.c .v), by decide⟩

end Go.Proofs.YtioegmjleofmeaaGreat

/- The walk, part 1: what each function reached by the law FnExactMostStill computes. No condition. -/
import Derived.Test.YtfgpeaiepfdemaaAm5
import Derived.Test.YtfgpeaiepfdemaaShelf
import Derived.Test.YtfgpeaiepfdemaaProg
set_option maxRecDepth 4000
set_option linter.unusedVariables false
set_option linter.unusedSimpArgs false
set_option linter.unusedSectionVars false

namespace Go.Proofs.Ytfgpeaiepfdemaa
open Go.AM
def teL : List (Option TI) := [
  none,
  none,
  some ⟨.int .i64, 1, 8, some (.int .i64 0)⟩,
  some ⟨.int .i64, 1, 8, some (.int .i64 0)⟩,
  some ⟨.bool, 1, 1, some (.bool false)⟩,
  some ⟨.int .u8, 1, 1, some (.int .u8 0)⟩,
  some ⟨.int .u8, 1, 1, some (.int .u8 0)⟩,
  some ⟨.struct [(0, 2), (1, 3), (2, 4), (3, 6)], 4, 24, some (.agg #[.int .i64 0, .int .i64 0, .bool false, .int .u8 0])⟩,
  some ⟨.struct [(0, 2), (1, 3), (2, 4), (3, 6)], 4, 24, some (.agg #[.int .i64 0, .int .i64 0, .bool false, .int .u8 0])⟩,
  some ⟨.str, 1, 16, some (.string ⟨#[]⟩)⟩,
  some ⟨.str, 1, 16, some (.string ⟨#[]⟩)⟩,
  some ⟨.str, 1, 16, some (.string ⟨#[]⟩)⟩,
  some ⟨.int .u64, 1, 8, some (.int .u64 0)⟩,
  some ⟨.struct [(0, 9), (1, 12)], 2, 24, some (.agg #[.string ⟨#[]⟩, .int .u64 0])⟩,
  some ⟨.struct [(0, 9), (1, 12)], 2, 24, some (.agg #[.string ⟨#[]⟩, .int .u64 0])⟩,
  some ⟨.ptr 160, 1, 8, some (.pointer none)⟩,
  some ⟨.ptr 163, 1, 8, some (.pointer none)⟩,
  some ⟨.ptr 171, 1, 8, some (.pointer none)⟩,
  some ⟨.struct [(0, 17)], 1, 8, some (.agg #[.pointer none])⟩,
  some ⟨.struct [(0, 17)], 1, 8, some (.agg #[.pointer none])⟩,
  none,
  some ⟨.int .i32, 1, 4, some (.int .i32 0)⟩,
  some ⟨.slice 112, 1, 24, some (.slice none 0 0)⟩,
  some ⟨.struct [(0, 3), (1, 22)], 2, 32, some (.agg #[.int .i64 0, .slice none 0 0])⟩,
  some ⟨.struct [(0, 3), (1, 22)], 2, 32, some (.agg #[.int .i64 0, .slice none 0 0])⟩,
  none,
  none,
  some ⟨.slice 71, 1, 24, some (.slice none 0 0)⟩,
  some ⟨.struct [(0, 3), (1, 27)], 2, 32, some (.agg #[.int .i64 0, .slice none 0 0])⟩,
  some ⟨.struct [(0, 3), (1, 27)], 2, 32, some (.agg #[.int .i64 0, .slice none 0 0])⟩,
  none,
  none,
  none,
  none,
  none,
  none,
  some ⟨.slice 58, 1, 24, some (.slice none 0 0)⟩,
  none,
  none,
  none,
  none,
  none,
  some ⟨.slice 3, 1, 24, some (.slice none 0 0)⟩,
  none,
  none,
  none,
  none,
  some ⟨.slice 56, 1, 24, some (.slice none 0 0)⟩,
  none,
  none,
  none,
  none,
  none,
  none,
  none,
  some ⟨.struct [(0, 3), (1, 3), (2, 3)], 3, 24, some (.agg #[.int .i64 0, .int .i64 0, .int .i64 0])⟩,
  some ⟨.struct [(0, 3), (1, 3), (2, 3)], 3, 24, some (.agg #[.int .i64 0, .int .i64 0, .int .i64 0])⟩,
  none,
  some ⟨.struct [(0, 3), (1, 3), (2, 3)], 3, 24, some (.agg #[.int .i64 0, .int .i64 0, .int .i64 0])⟩,
  none,
  none,
  none,
  none,
  none,
  some ⟨.slice 5, 1, 24, some (.slice none 0 0)⟩,
  none,
  none,
  none,
  none,
  none,
  some ⟨.struct [(0, 3), (1, 42), (2, 42)], 3, 56, some (.agg #[.int .i64 0, .slice none 0 0, .slice none 0 0])⟩,
  some ⟨.struct [(0, 3), (1, 42), (2, 42)], 3, 56, some (.agg #[.int .i64 0, .slice none 0 0, .slice none 0 0])⟩,
  none,
  none,
  none,
  none,
  none,
  none,
  none,
  none,
  none,
  none,
  none,
  none,
  none,
  none,
  none,
  none,
  none,
  none,
  none,
  none,
  none,
  none,
  none,
  none,
  none,
  none,
  none,
  none,
  none,
  none,
  none,
  none,
  some ⟨.ptr 107, 1, 8, some (.pointer none)⟩,
  some ⟨.int .u64, 1, 8, some (.int .u64 0)⟩,
  some ⟨.struct [(0, 64), (1, 3), (2, 105)], 3, 40, some (.agg #[.slice none 0 0, .int .i64 0, .int .u64 0])⟩,
  some ⟨.struct [(0, 64), (1, 3), (2, 105)], 3, 40, some (.agg #[.slice none 0 0, .int .i64 0, .int .u64 0])⟩,
  none,
  none,
  none,
  none,
  some ⟨.struct [(0, 3), (1, 42), (2, 42)], 3, 56, some (.agg #[.int .i64 0, .slice none 0 0, .slice none 0 0])⟩,
  none,
  none,
  none,
  none,
  none,
  none,
  none,
  some ⟨.ptr 71, 1, 8, some (.pointer none)⟩,
  none,
  none,
  some ⟨.int .u64, 1, 8, some (.int .u64 0)⟩,
  none,
  none,
  none,
  some ⟨.ptr 58, 1, 8, some (.pointer none)⟩,
  none,
  none,
  none,
  some ⟨.int .i64, 1, 8, some (.int .i64 0)⟩,
  none,
  none,
  none,
  none,
  none,
  none,
  none,
  some ⟨.int .u32, 1, 4, some (.int .u32 0)⟩,
  none,
  none,
  none,
  none,
  none,
  none,
  some ⟨.int .u64, 1, 8, some (.int .u64 0)⟩,
  none,
  none,
  none,
  some ⟨.ptr 3, 1, 8, some (.pointer none)⟩,
  none,
  none,
  none,
  some ⟨.ptr 146, 1, 8, some (.pointer none)⟩,
  none,
  none,
  none,
  none,
  some ⟨.struct [(0, 17), (1, 17), (2, 17), (3, 9)], 4, 40, some (.agg #[.pointer none, .pointer none, .pointer none, .string ⟨#[]⟩])⟩,
  some ⟨.struct [(0, 17), (1, 17), (2, 17), (3, 9)], 4, 40, some (.agg #[.pointer none, .pointer none, .pointer none, .string ⟨#[]⟩])⟩,
  some ⟨.array 0 16, 0, 0, some (.agg #[])⟩,
  some ⟨.struct [(0, 161)], 0, 0, some (.agg #[])⟩,
  some ⟨.struct [(0, 161)], 0, 0, some (.agg #[])⟩,
  some ⟨.int .u8, 1, 1, some (.int .u8 0)⟩,
  some ⟨.int .u8, 1, 1, some (.int .u8 0)⟩,
  none,
  some ⟨.ptr 5, 1, 8, some (.pointer none)⟩,
  some ⟨.int .i32, 1, 4, some (.int .i32 0)⟩,
  some ⟨.int .i32, 1, 4, some (.int .i32 0)⟩,
  some ⟨.struct [(0, 12), (1, 12), (2, 139), (3, 164), (4, 5), (5, 5), (6, 165), (7, 166), (8, 167), (9, 168), (10, 169)], 11, 48, some (.agg #[.int .u64 0, .int .u64 0, .int .u32 0, .int .u8 0, .int .u8 0, .int .u8 0, .int .u8 0, .nilFunc, .pointer none, .int .i32 0, .int .i32 0])⟩,
  some ⟨.struct [(0, 12), (1, 12), (2, 139), (3, 164), (4, 5), (5, 5), (6, 165), (7, 166), (8, 167), (9, 168), (10, 169)], 11, 48, some (.agg #[.int .u64 0, .int .u64 0, .int .u32 0, .int .u8 0, .int .u8 0, .int .u8 0, .int .u8 0, .nilFunc, .pointer none, .int .i32 0, .int .i32 0])⟩,
  none]
def te : TE := teOf teL
theorem T : TEok Try.prog te := TEok_of (by kernel_rfl)
theorem mix : Try.prog.follows .mixedOrders = true := by kernel_rfl

def encInt (x : Int) : List D := [.v (.int .i64 x)]
def encBool (x : Bool) : List D := [.v (.bool x)]
def encStr (x : ByteArray) : List D := [.v (.string x)]
def encInt_u8 (x : Int) : List D := [.v (.int .u8 x)]
def encInt_u64 (x : Int) : List D := [.v (.int .u64 x)]
def encInt_i32 (x : Int) : List D := [.v (.int .i32 x)]
def encLInt (x : List Int) : List D := [.s (x.map encInt)]
def encLIntO (x : List Int) : List D := [.w 1 (x.map encInt)]
theorem frzLInt (x : List Int) : FrzL (encLIntO x) (encLInt x) := .cons (.map fun y => .vs rfl) .nil
structure Line where
  skater : Int
  events : List Int
  points : List Int
  deriving Inhabited, DecidableEq
def encLine (x : Line) : List D := [.v (.int .i64 x.skater), .s (x.events.map encInt), .s (x.points.map encInt)]
def encLineO (x : Line) : List D := [.v (.int .i64 x.skater), .w 1 (x.events.map encInt), .w 1 (x.points.map encInt)]
theorem frzLine (x : Line) : FrzL (encLineO x) (encLine x) := .cons (.vs rfl) (.cons (.map fun y => .vs rfl) (.cons (.map fun y => .vs rfl) (.nil)))
structure Season where
  best : Int
  lines : List Line
  deriving Inhabited, DecidableEq
def encSeason (x : Season) : List D := [.v (.int .i64 x.best), .s (x.lines.map encLine)]
def encSeasonO (x : Season) : List D := [.v (.int .i64 x.best), .w 3 (x.lines.map encLineO)]
theorem frzSeason (x : Season) : FrzL (encSeasonO x) (encSeason x) := .cons (.vs rfl) (.cons (.map fun y => frzLine y) (.nil))
structure Entry where
  event : Int
  skater : Int
  points : Int
  deriving Inhabited, DecidableEq
def encEntry (x : Entry) : List D := [.v (.int .i64 x.event), .v (.int .i64 x.skater), .v (.int .i64 x.points)]

def laws_szIntS_p (a : List Int) (left : Int) : Option Int :=
  cond (decide ((w64 (left - (a.length : Int))) < 0))
    (some (-1))
    (some (w64 (left - (a.length : Int))))
theorem laws_szIntS_ok (a : List Int) (left : Int) (r : Int) (hH : laws_szIntS_p a left = some r) : SpecR Try.prog 117 [.s (List.map encInt a), .v (.int .i64 left)] (.v (.int .i64 r)) := by
  refine fn_ok T Try.func117 rfl (by decide) rfl ?_
  refine AW.seq ?_
  refine AW.region ?_
  refine AO.pure T rfl rfl rfl ?_
  refine AO.nil ?_
  refine AW.seq ?_
  refine AW.region ?_
  refine AO.pure T rfl rfl rfl ?_
  refine AO.pure T rfl rfl rfl ?_
  refine AO.val rfl rfl (len_map_ok T rfl rfl rfl) ?_
  refine AO.val rfl rfl (arw_ok rfl rfl rfl rfl) ?_
  refine AO.pure T rfl rfl rfl ?_
  refine AO.nil ?_
  refine AW.seq ?_
  refine AW.seq ?_
  refine AW.region ?_
  refine AO.pure T rfl rfl rfl ?_
  refine AO.pure T rfl rfl rfl ?_
  refine AO.nil ?_
  refine AW.cond (b := decide ((w64 (left - (a.length : Int))) < 0)) rfl (fun hc => ?_) (fun hc => ?_)
  · replace hH := condT hc hH
    refine AW.seq ?_
    refine AW.region ?_
    refine AO.pure T rfl rfl rfl ?_
    refine AO.nil ?_
    refine AW.ret ?_
    cases someE hH
    exact ⟨trivial, _, [], rfl, .c (.c .v), by decide⟩
  · replace hH := condF hc hH
    refine AW.skip ?_
    refine AW.seq ?_
    refine AW.region ?_
    refine AO.pure T rfl rfl rfl ?_
    refine AO.pure T rfl rfl rfl ?_
    refine AO.nil ?_
    refine AW.ret ?_
    cases someE hH
    exact ⟨trivial, _, [], rfl, .c (.c .v), by decide⟩

def laws_szLine_p (a : Line) (left : Int) : Option Int :=
  (laws_szIntS_p a.events left).bind fun x1 =>
  cond (decide (x1 < 0))
    (some (-1))
    ((laws_szIntS_p a.points x1).bind fun x3 =>
    cond (decide (x3 < 0))
      (some (-1))
      (some x3))
theorem laws_szLine_ok (a : Line) (left : Int) (r : Int) (hH : laws_szLine_p a left = some r) : SpecR Try.prog 103 [.g (encLine a), .v (.int .i64 left)] (.v (.int .i64 r)) := by
  refine fn_ok T Try.func103 rfl (by decide) rfl ?_
  refine AW.seq ?_
  refine AW.region ?_
  refine AO.step rfl (box_ok T rfl 1 rfl rfl rfl rfl) ?_
  refine AO.pure T rfl rfl rfl ?_
  refine AO.nil ?_
  refine AW.seq ?_
  obtain ⟨x1, hx2, hH⟩ := bindE hH
  refine AW.region ?_
  refine AO.pure T rfl rfl rfl ?_
  refine AO.pure T rfl rfl rfl ?_
  refine AO.pure T rfl rfl rfl ?_
  refine AO.val rfl rfl (callV_ok rfl rfl rfl rfl (laws_szIntS_ok _ _ _ (hx2)) rfl) ?_
  refine AO.pure T rfl rfl rfl ?_
  refine AO.nil ?_
  refine AW.seq ?_
  refine AW.seq ?_
  refine AW.region ?_
  refine AO.pure T rfl rfl rfl ?_
  refine AO.pure T rfl rfl rfl ?_
  refine AO.nil ?_
  refine AW.cond (b := decide (x1 < 0)) rfl (fun hc => ?_) (fun hc => ?_)
  · replace hH := condT hc hH
    refine AW.seq ?_
    refine AW.region ?_
    refine AO.pure T rfl rfl rfl ?_
    refine AO.nil ?_
    refine AW.ret ?_
    cases someE hH
    exact ⟨trivial, _, [], rfl, .c (.c .v), by decide⟩
  · replace hH := condF hc hH
    refine AW.skip ?_
    refine AW.seq ?_
    obtain ⟨x3, hx4, hH⟩ := bindE hH
    refine AW.region ?_
    refine AO.pure T rfl rfl rfl ?_
    refine AO.pure T rfl rfl rfl ?_
    refine AO.pure T rfl rfl rfl ?_
    refine AO.val rfl rfl (callV_ok rfl rfl rfl rfl (laws_szIntS_ok _ _ _ (hx4)) rfl) ?_
    refine AO.pure T rfl rfl rfl ?_
    refine AO.nil ?_
    refine AW.seq ?_
    refine AW.seq ?_
    refine AW.region ?_
    refine AO.pure T rfl rfl rfl ?_
    refine AO.pure T rfl rfl rfl ?_
    refine AO.nil ?_
    refine AW.cond (b := decide (x3 < 0)) rfl (fun hc => ?_) (fun hc => ?_)
    · replace hH := condT hc hH
      refine AW.seq ?_
      refine AW.region ?_
      refine AO.pure T rfl rfl rfl ?_
      refine AO.nil ?_
      refine AW.ret ?_
      cases someE hH
      exact ⟨trivial, _, [], rfl, .c (.c .v), by decide⟩
    · replace hH := condF hc hH
      refine AW.skip ?_
      refine AW.seq ?_
      refine AW.region ?_
      refine AO.pure T rfl rfl rfl ?_
      refine AO.pure T rfl rfl rfl ?_
      refine AO.nil ?_
      refine AW.ret ?_
      cases someE hH
      exact ⟨trivial, _, [], rfl, .c (.c .v), by decide⟩

def laws_szLineS_l1 : List Line → Nat → Int → Option Int
  | [], k1, v12 =>
    some v12
  | y2 :: ys3, k1, v12 =>
    (laws_szLine_p y2 v12).bind fun x14 =>
    cond (decide (x14 < 0))
      (some (-1))
      (laws_szLineS_l1 ys3 (k1 + 1) x14)
def laws_szLineS_p (a : List Line) (left : Int) : Option Int :=
  cond (decide ((w64 (left - (a.length : Int))) < 0))
    (some (-1))
    (laws_szLineS_l1 a 0 (w64 (left - (a.length : Int))))
theorem laws_szLineS_ok (a : List Line) (left : Int) (r : Int) (hH : laws_szLineS_p a left = some r) : SpecR Try.prog 59 [.s (List.map encLine a), .v (.int .i64 left)] (.v (.int .i64 r)) := by
  refine fn_ok T Try.func59 rfl (by decide) rfl ?_
  refine AW.seq ?_
  refine AW.region ?_
  refine AO.pure T rfl rfl rfl ?_
  refine AO.nil ?_
  refine AW.seq ?_
  refine AW.region ?_
  refine AO.pure T rfl rfl rfl ?_
  refine AO.pure T rfl rfl rfl ?_
  refine AO.val rfl rfl (len_map_ok T rfl rfl rfl) ?_
  refine AO.val rfl rfl (arw_ok rfl rfl rfl rfl) ?_
  refine AO.pure T rfl rfl rfl ?_
  refine AO.nil ?_
  refine AW.seq ?_
  refine AW.seq ?_
  refine AW.region ?_
  refine AO.pure T rfl rfl rfl ?_
  refine AO.pure T rfl rfl rfl ?_
  refine AO.nil ?_
  refine AW.cond (b := decide ((w64 (left - (a.length : Int))) < 0)) rfl (fun hc => ?_) (fun hc => ?_)
  · replace hH := condT hc hH
    refine AW.seq ?_
    refine AW.region ?_
    refine AO.pure T rfl rfl rfl ?_
    refine AO.nil ?_
    refine AW.ret ?_
    cases someE hH
    exact ⟨trivial, _, [], rfl, .c (.c .v), by decide⟩
  · replace hH := condF hc hH
    refine AW.skip ?_
    refine AW.seq ?_
    refine AW.seq ?_
    refine AW.region ?_
    refine AO.pure T rfl rfl rfl ?_
    refine AO.nil ?_
    refine AW.block ?_
    refine AW.loopS (fun s : Nat × Int => (⟨[(0, .s (List.map encLine a)), (1, .v (.int .i64 s.2)), (5, .v (.int .i64 (s.1 : Int)))], [], 27, []⟩ : St)) (fun s => s.1 ≤ a.length ∧ laws_szLineS_l1 (a.drop s.1) s.1 s.2 = some r) (fun s => a.length - s.1) (0, w64 (left - (a.length : Int))) ⟨Nat.zero_le _, hH⟩ ?_ ?_
    · exact Le.cut 0 0 rfl (by repeat' (first | exact trivial | refine ⟨⟨_, rfl, rfl⟩, ?_⟩)) (by repeat' (first | exact trivial | refine ⟨⟨_, rfl, rfl⟩, ?_⟩)) rfl
    · rintro ⟨k1, v12⟩ ⟨hk, hH⟩
      replace hH : laws_szLineS_l1 (a.drop k1) k1 v12 = some r := hH
      show AW _ _ _ (⟨[(0, .s (List.map encLine a)), (1, .v (.int .i64 v12)), (5, .v (.int .i64 (k1 : Int)))], [], 27, []⟩ : St)
      refine AW.boundM (t := 0) (l := a) rfl (fun hb5 => ?_)
      cases hd4 : a.drop k1 with
      | nil =>
        rw [hd4] at hH
        rw [laws_szLineS_l1] at hH
        have hlt6 := drop_ge hd4
        refine AW.seq ?_
        refine AW.seq ?_
        refine AW.region ?_
        refine AO.pure T rfl rfl rfl ?_
        refine AO.pure T rfl rfl rfl ?_
        refine AO.val rfl rfl (len_map_ok T rfl rfl rfl) ?_
        refine AO.pure T rfl rfl rfl ?_
        refine AO.nil ?_
        refine AW.condF' (b := decide ((k1 : Int) < (a.length : Int))) rfl (rngF hlt6) ?_
        refine AW.exit ?_
        refine AW.seq ?_
        refine AW.region ?_
        refine AO.pure T rfl rfl rfl ?_
        refine AO.pure T rfl rfl rfl ?_
        refine AO.nil ?_
        refine AW.ret ?_
        cases someE hH
        exact ⟨trivial, _, [], rfl, .c (.c .v), by decide⟩
      | cons y2 ys3 =>
        rw [hd4] at hH
        rw [laws_szLineS_l1] at hH
        have hlt6 := drop_lt hd4
        refine AW.seq ?_
        refine AW.seq ?_
        refine AW.region ?_
        refine AO.pure T rfl rfl rfl ?_
        refine AO.pure T rfl rfl rfl ?_
        refine AO.val rfl rfl (len_map_ok T rfl rfl rfl) ?_
        refine AO.pure T rfl rfl rfl ?_
        refine AO.nil ?_
        refine AW.condT' (b := decide ((k1 : Int) < (a.length : Int))) rfl (rngT hlt6) ?_
        refine AW.skip ?_
        refine AW.seq ?_
        refine AW.block ?_
        refine AW.seq ?_
        obtain ⟨x14, hx15, hH⟩ := bindE hH
        refine AW.region ?_
        refine AO.pure T rfl rfl rfl ?_
        refine AO.pure T rfl rfl rfl ?_
        refine AO.val rfl rfl (ix_map_ok T rfl rfl rfl rfl rfl (getI_drop hd4) rfl) ?_
        refine AO.pure T rfl rfl rfl ?_
        refine AO.pure T rfl rfl rfl ?_
        refine AO.val rfl rfl (callV_ok rfl rfl rfl rfl (laws_szLine_ok _ _ _ (hx15)) rfl) ?_
        refine AO.pure T rfl rfl rfl ?_
        refine AO.nil ?_
        refine AW.seq ?_
        refine AW.region ?_
        refine AO.pure T rfl rfl rfl ?_
        refine AO.pure T rfl rfl rfl ?_
        refine AO.nil ?_
        refine AW.cond (b := decide (x14 < 0)) rfl (fun hc => ?_) (fun hc => ?_)
        · replace hH := condT hc hH
          refine AW.seq ?_
          refine AW.region ?_
          refine AO.pure T rfl rfl rfl ?_
          refine AO.nil ?_
          refine AW.ret ?_
          cases someE hH
          exact ⟨trivial, _, [], rfl, .c (.c .v), by decide⟩
        · replace hH := condF hc hH
          refine AW.skip ?_
          refine AW.region ?_
          refine AO.pure T rfl rfl rfl ?_
          refine AO.val rfl rfl (ar_ok rfl rfl rfl rfl (inI_succ hlt6 hb5)) ?_
          refine AO.pure T rfl rfl rfl ?_
          refine AO.nil ?_
          refine ⟨(k1 + 1, x14), ⟨Nat.succ_le_of_lt hlt6, (by rw [drop_succ_of hd4]; exact hH)⟩, (by have := hlt6; dsimp only; omega), ?_⟩
          exact Le.cut 0 0 rfl (by repeat' (first | exact trivial | refine ⟨⟨_, rfl, rfl⟩, ?_⟩)) (by repeat' (first | exact trivial | refine ⟨⟨_, rfl, rfl⟩, ?_⟩)) rfl

def laws_szSeason_p (a : Season) (left : Int) : Option Int :=
  (laws_szLineS_p a.lines left).bind fun x1 =>
  cond (decide (x1 < 0))
    (some (-1))
    (some x1)
theorem laws_szSeason_ok (a : Season) (left : Int) (r : Int) (hH : laws_szSeason_p a left = some r) : SpecR Try.prog 14 [.g (encSeason a), .v (.int .i64 left)] (.v (.int .i64 r)) := by
  refine fn_ok T Try.func14 rfl (by decide) rfl ?_
  refine AW.seq ?_
  refine AW.region ?_
  refine AO.step rfl (box_ok T rfl 1 rfl rfl rfl rfl) ?_
  refine AO.pure T rfl rfl rfl ?_
  refine AO.nil ?_
  refine AW.seq ?_
  obtain ⟨x1, hx2, hH⟩ := bindE hH
  refine AW.region ?_
  refine AO.pure T rfl rfl rfl ?_
  refine AO.pure T rfl rfl rfl ?_
  refine AO.pure T rfl rfl rfl ?_
  refine AO.val rfl rfl (callV_ok rfl rfl rfl rfl (laws_szLineS_ok _ _ _ (hx2)) rfl) ?_
  refine AO.pure T rfl rfl rfl ?_
  refine AO.nil ?_
  refine AW.seq ?_
  refine AW.seq ?_
  refine AW.region ?_
  refine AO.pure T rfl rfl rfl ?_
  refine AO.pure T rfl rfl rfl ?_
  refine AO.nil ?_
  refine AW.cond (b := decide (x1 < 0)) rfl (fun hc => ?_) (fun hc => ?_)
  · replace hH := condT hc hH
    refine AW.seq ?_
    refine AW.region ?_
    refine AO.pure T rfl rfl rfl ?_
    refine AO.nil ?_
    refine AW.ret ?_
    cases someE hH
    exact ⟨trivial, _, [], rfl, .c (.c .v), by decide⟩
  · replace hH := condF hc hH
    refine AW.skip ?_
    refine AW.seq ?_
    refine AW.region ?_
    refine AO.pure T rfl rfl rfl ?_
    refine AO.pure T rfl rfl rfl ?_
    refine AO.nil ?_
    refine AW.ret ?_
    cases someE hH
    exact ⟨trivial, _, [], rfl, .c (.c .v), by decide⟩

def laws_toIntS_l1 : List Int → Nat → List Int → Option ((List Int))
  | [], k3, v14 =>
    some v14
  | y4 :: ys5, k3, v14 =>
    (getI v14 (k3 : Int)).bind fun x16 =>
    laws_toIntS_l1 ys5 (k3 + 1) (v14.set ((k3 : Int).toNat) y4)
def laws_toIntS_p (a : List Int) : Option (List Int) :=
  (need (decide (0 ≤ (a.length : Int)) && fitsB 8 (a.length : Int).toNat)).bind fun u1 =>
  laws_toIntS_l1 a 0 (List.replicate (a.length : Int).toNat 0)
theorem laws_toIntS_ok (a : List Int) (r : (List Int)) (hH : laws_toIntS_p a = some r) : SpecR Try.prog 118 [.s (List.map encInt a)] (.w 1 (r.map encInt)) := by
  refine fn_ok T Try.func118 rfl (by decide) rfl ?_
  refine AW.seq ?_
  refine AW.region ?_
  refine AO.pure T rfl rfl rfl ?_
  refine AO.nil ?_
  refine AW.seq ?_
  obtain ⟨u1, hx2, hH⟩ := bindE hH
  refine AW.region ?_
  refine AO.pure T rfl rfl rfl ?_
  refine AO.val rfl rfl (len_map_ok T rfl rfl rfl) ?_
  refine AO.step rfl (make_map_ok T rfl 1 rfl rfl rfl rfl rfl (f := encInt) (zo := 0) (by repeat constructor) (by decide) rfl rfl (Bool.and_eq_true_iff.1 (needT (hx2))).1 (Bool.and_eq_true_iff.1 (needT (hx2))).2 rfl rfl) ?_
  refine AO.pure T rfl rfl rfl ?_
  refine AO.nil ?_
  refine AW.seq ?_
  refine AW.seq ?_
  refine AW.region ?_
  refine AO.pure T rfl rfl rfl ?_
  refine AO.nil ?_
  refine AW.block ?_
  refine AW.loopS (fun s : Nat × (List Int) => (⟨[(0, .s (List.map encInt a)), (3, .R 1), (4, .v (.int .i64 (s.1 : Int)))], [(1, .row 1 (List.map encInt s.2))], 22, []⟩ : St)) (fun s => s.1 ≤ a.length ∧ laws_toIntS_l1 (a.drop s.1) s.1 s.2 = some r) (fun s => a.length - s.1) (0, (List.replicate (a.length : Int).toNat 0)) ⟨Nat.zero_le _, hH⟩ ?_ ?_
  · exact Le.cut 0 0 rfl (by repeat' (first | exact trivial | refine ⟨⟨_, rfl, rfl⟩, ?_⟩)) (by repeat' (first | exact trivial | refine ⟨⟨_, rfl, rfl⟩, ?_⟩)) rfl
  · rintro ⟨k3, v14⟩ ⟨hk, hH⟩
    replace hH : laws_toIntS_l1 (a.drop k3) k3 v14 = some r := hH
    show AW _ _ _ (⟨[(0, .s (List.map encInt a)), (3, .R 1), (4, .v (.int .i64 (k3 : Int)))], [(1, .row 1 (List.map encInt v14))], 22, []⟩ : St)
    refine AW.boundM (t := 0) (l := a) rfl (fun hb7 => ?_)
    cases hd6 : a.drop k3 with
    | nil =>
      rw [hd6] at hH
      rw [laws_toIntS_l1] at hH
      have hlt8 := drop_ge hd6
      refine AW.seq ?_
      refine AW.seq ?_
      refine AW.region ?_
      refine AO.pure T rfl rfl rfl ?_
      refine AO.pure T rfl rfl rfl ?_
      refine AO.val rfl rfl (len_map_ok T rfl rfl rfl) ?_
      refine AO.pure T rfl rfl rfl ?_
      refine AO.nil ?_
      refine AW.condF' (b := decide ((k3 : Int) < (a.length : Int))) rfl (rngF hlt8) ?_
      refine AW.exit ?_
      refine AW.seq ?_
      refine AW.region ?_
      refine AO.pure T rfl rfl rfl ?_
      refine AO.pure T rfl rfl rfl ?_
      refine AO.nil ?_
      refine AW.ret ?_
      cases someE hH
      exact ⟨trivial, _, [1], rfl, .c (.c (.rowR rfl)), by decide⟩
    | cons y4 ys5 =>
      rw [hd6] at hH
      rw [laws_toIntS_l1] at hH
      have hlt8 := drop_lt hd6
      refine AW.seq ?_
      refine AW.seq ?_
      refine AW.region ?_
      refine AO.pure T rfl rfl rfl ?_
      refine AO.pure T rfl rfl rfl ?_
      refine AO.val rfl rfl (len_map_ok T rfl rfl rfl) ?_
      refine AO.pure T rfl rfl rfl ?_
      refine AO.nil ?_
      refine AW.condT' (b := decide ((k3 : Int) < (a.length : Int))) rfl (rngT hlt8) ?_
      refine AW.skip ?_
      refine AW.seq ?_
      refine AW.block ?_
      obtain ⟨x16, hx17, hH⟩ := bindE hH
      refine AW.region ?_
      refine AO.pure T rfl rfl rfl ?_
      refine AO.pure T rfl rfl rfl ?_
      refine AO.pure T rfl rfl rfl ?_
      refine AO.pure T rfl rfl rfl ?_
      refine AO.val rfl rfl (ix_map_ok T rfl rfl rfl rfl rfl (getI_drop hd6) rfl) ?_
      refine AO.pure T rfl rfl rfl ?_
      refine AO.val rfl rfl (ix_row_ok T rfl rfl rfl rfl rfl rfl (hx17)) ?_
      refine AO.step rfl (store_row_ok T rfl rfl rfl rfl rfl (getI_get (hx17)) rfl rfl rfl rfl (u' := y4) rfl rfl) ?_
      refine AO.nil ?_
      refine AW.region ?_
      refine AO.pure T rfl rfl rfl ?_
      refine AO.val rfl rfl (ar_ok rfl rfl rfl rfl (inI_succ hlt8 hb7)) ?_
      refine AO.pure T rfl rfl rfl ?_
      refine AO.nil ?_
      refine ⟨(k3 + 1, (v14.set ((k3 : Int).toNat) y4)), ⟨Nat.succ_le_of_lt hlt8, (by rw [drop_succ_of hd6]; exact hH)⟩, (by have := hlt8; dsimp only; omega), ?_⟩
      exact Le.cut 0 0 rfl (by repeat' (first | exact trivial | refine ⟨⟨_, rfl, rfl⟩, ?_⟩)) (by repeat' (first | exact trivial | refine ⟨⟨_, rfl, rfl⟩, ?_⟩)) rfl

def laws_toLine_p (a : Line) : Option Line :=
  (laws_toIntS_p a.events).bind fun x1 =>
  (laws_toIntS_p a.points).bind fun x3 =>
  some (Line.mk a.skater x1 x3)
theorem laws_toLine_ok (a : Line) (r : Line) (hH : laws_toLine_p a = some r) : SpecR Try.prog 105 [.g (encLine a)] (.g (encLineO r)) := by
  refine fn_ok T Try.func105 rfl (by decide) rfl ?_
  refine AW.seq ?_
  refine AW.region ?_
  refine AO.step rfl (box_ok T rfl 1 rfl rfl rfl rfl) ?_
  refine AO.step rfl (alloc_ok T rfl 2 rfl rfl rfl rfl rfl) ?_
  refine AO.nil ?_
  refine AW.seq ?_
  refine AW.region ?_
  refine AO.step rfl (alloc_ok T rfl 3 rfl rfl rfl rfl rfl) ?_
  refine AO.nil ?_
  refine AW.seq ?_
  refine AW.region ?_
  refine AO.pure T rfl rfl rfl ?_
  refine AO.pure T rfl rfl rfl ?_
  refine AO.pure T rfl rfl rfl ?_
  refine AO.step rfl (store_ok T rfl rfl rfl rfl rfl rfl rfl rfl rfl) ?_
  refine AO.nil ?_
  refine AW.seq ?_
  obtain ⟨x1, hx2, hH⟩ := bindE hH
  refine AW.region ?_
  refine AO.pure T rfl rfl rfl ?_
  refine AO.pure T rfl rfl rfl ?_
  refine AO.step rfl (call_ok rfl 4 rfl rfl rfl (laws_toIntS_ok _ _ (hx2)) rfl rfl rfl) ?_
  refine AO.pure T rfl rfl rfl ?_
  refine AO.step rfl (store_ok T rfl rfl rfl rfl rfl rfl rfl rfl rfl) ?_
  refine AO.nil ?_
  refine AW.seq ?_
  obtain ⟨x3, hx4, hH⟩ := bindE hH
  refine AW.region ?_
  refine AO.pure T rfl rfl rfl ?_
  refine AO.pure T rfl rfl rfl ?_
  refine AO.step rfl (call_ok rfl 5 rfl rfl rfl (laws_toIntS_ok _ _ (hx4)) rfl rfl rfl) ?_
  refine AO.pure T rfl rfl rfl ?_
  refine AO.step rfl (store_ok T rfl rfl rfl rfl rfl rfl rfl rfl rfl) ?_
  refine AO.nil ?_
  refine AW.seq ?_
  refine AW.region ?_
  refine AO.pure T rfl rfl rfl ?_
  refine AO.step rfl (store_ok T rfl rfl rfl rfl rfl rfl rfl rfl rfl) ?_
  refine AO.nil ?_
  refine AW.ret ?_
  cases someE hH
  exact ⟨trivial, _, [4, 5], rfl, .c (.g (expLC_cons .v (expLC_cons (.rowR rfl) (expLC_cons (.rowR rfl) (expLC_nil))))), by decide⟩

def laws_toLineS_l1 : List Line → Nat → List Line → Option ((List Line))
  | [], k3, v18 =>
    some v18
  | y4 :: ys5, k3, v18 =>
    (laws_toLine_p y4).bind fun x20 =>
    (getI v18 (k3 : Int)).bind fun x22 =>
    laws_toLineS_l1 ys5 (k3 + 1) (v18.set ((k3 : Int).toNat) x20)
def laws_toLineS_p (a : List Line) : Option (List Line) :=
  (need (decide (0 ≤ (a.length : Int)) && fitsB 56 (a.length : Int).toNat)).bind fun u1 =>
  laws_toLineS_l1 a 0 (List.replicate (a.length : Int).toNat (Line.mk 0 [] []))
theorem laws_toLineS_ok (a : List Line) (r : (List Line)) (hH : laws_toLineS_p a = some r) : SpecR Try.prog 61 [.s (List.map encLine a)] (.w 3 (r.map encLineO)) := by
  refine fn_ok T Try.func61 rfl (by decide) rfl ?_
  refine AW.seq ?_
  refine AW.region ?_
  refine AO.pure T rfl rfl rfl ?_
  refine AO.nil ?_
  refine AW.seq ?_
  obtain ⟨u1, hx2, hH⟩ := bindE hH
  refine AW.region ?_
  refine AO.pure T rfl rfl rfl ?_
  refine AO.val rfl rfl (len_map_ok T rfl rfl rfl) ?_
  refine AO.step rfl (make_map_ok T rfl 1 rfl rfl rfl rfl rfl (f := encLineO) (zo := (Line.mk 0 [] [])) (by repeat constructor) (by decide) rfl rfl (Bool.and_eq_true_iff.1 (needT (hx2))).1 (Bool.and_eq_true_iff.1 (needT (hx2))).2 rfl rfl) ?_
  refine AO.pure T rfl rfl rfl ?_
  refine AO.nil ?_
  refine AW.seq ?_
  refine AW.seq ?_
  refine AW.region ?_
  refine AO.pure T rfl rfl rfl ?_
  refine AO.nil ?_
  refine AW.block ?_
  refine AW.loopS (fun s : Nat × (List Line) => (⟨[(0, .s (List.map encLine a)), (3, .R 1), (4, .v (.int .i64 (s.1 : Int)))], [(1, .row 3 (List.map encLineO s.2))], 23, []⟩ : St)) (fun s => s.1 ≤ a.length ∧ laws_toLineS_l1 (a.drop s.1) s.1 s.2 = some r) (fun s => a.length - s.1) (0, (List.replicate (a.length : Int).toNat (Line.mk 0 [] []))) ⟨Nat.zero_le _, hH⟩ ?_ ?_
  · exact Le.cut 0 0 rfl (by repeat' (first | exact trivial | refine ⟨⟨_, rfl, rfl⟩, ?_⟩)) (by repeat' (first | exact trivial | refine ⟨⟨_, rfl, rfl⟩, ?_⟩)) rfl
  · rintro ⟨k3, v18⟩ ⟨hk, hH⟩
    replace hH : laws_toLineS_l1 (a.drop k3) k3 v18 = some r := hH
    show AW _ _ _ (⟨[(0, .s (List.map encLine a)), (3, .R 1), (4, .v (.int .i64 (k3 : Int)))], [(1, .row 3 (List.map encLineO v18))], 23, []⟩ : St)
    refine AW.boundM (t := 0) (l := a) rfl (fun hb7 => ?_)
    cases hd6 : a.drop k3 with
    | nil =>
      rw [hd6] at hH
      rw [laws_toLineS_l1] at hH
      have hlt8 := drop_ge hd6
      refine AW.seq ?_
      refine AW.seq ?_
      refine AW.region ?_
      refine AO.pure T rfl rfl rfl ?_
      refine AO.pure T rfl rfl rfl ?_
      refine AO.val rfl rfl (len_map_ok T rfl rfl rfl) ?_
      refine AO.pure T rfl rfl rfl ?_
      refine AO.nil ?_
      refine AW.condF' (b := decide ((k3 : Int) < (a.length : Int))) rfl (rngF hlt8) ?_
      refine AW.exit ?_
      refine AW.seq ?_
      refine AW.region ?_
      refine AO.pure T rfl rfl rfl ?_
      refine AO.pure T rfl rfl rfl ?_
      refine AO.nil ?_
      refine AW.ret ?_
      cases someE hH
      exact ⟨trivial, _, [1], rfl, .c (.c (.rowR rfl)), by decide⟩
    | cons y4 ys5 =>
      rw [hd6] at hH
      rw [laws_toLineS_l1] at hH
      have hlt8 := drop_lt hd6
      refine AW.seq ?_
      refine AW.seq ?_
      refine AW.region ?_
      refine AO.pure T rfl rfl rfl ?_
      refine AO.pure T rfl rfl rfl ?_
      refine AO.val rfl rfl (len_map_ok T rfl rfl rfl) ?_
      refine AO.pure T rfl rfl rfl ?_
      refine AO.nil ?_
      refine AW.condT' (b := decide ((k3 : Int) < (a.length : Int))) rfl (rngT hlt8) ?_
      refine AW.skip ?_
      refine AW.seq ?_
      refine AW.block ?_
      obtain ⟨x20, hx21, hH⟩ := bindE hH
      obtain ⟨x22, hx23, hH⟩ := bindE hH
      refine AW.region ?_
      refine AO.pure T rfl rfl rfl ?_
      refine AO.pure T rfl rfl rfl ?_
      refine AO.pure T rfl rfl rfl ?_
      refine AO.pure T rfl rfl rfl ?_
      refine AO.val rfl rfl (ix_map_ok T rfl rfl rfl rfl rfl (getI_drop hd6) rfl) ?_
      refine AO.pure T rfl rfl rfl ?_
      refine AO.step rfl (call_ok rfl 6 rfl rfl rfl (laws_toLine_ok _ _ (hx21)) rfl rfl rfl) ?_
      refine AO.val rfl rfl (ix_row_ok T rfl rfl rfl rfl rfl rfl (hx23)) ?_
      refine AO.step rfl (store_rowO_ok T (ids := [6, 7]) rfl rfl rfl rfl rfl (getI_get (hx23)) rfl (expLC_cons .v (expLC_cons (.rowR rfl) (expLC_cons (.rowR rfl) (expLC_nil)))) (by decide) rfl rfl (u' := x20) rfl rfl) ?_
      refine AO.nil ?_
      refine AW.region ?_
      refine AO.pure T rfl rfl rfl ?_
      refine AO.val rfl rfl (ar_ok rfl rfl rfl rfl (inI_succ hlt8 hb7)) ?_
      refine AO.pure T rfl rfl rfl ?_
      refine AO.nil ?_
      refine ⟨(k3 + 1, (v18.set ((k3 : Int).toNat) x20)), ⟨Nat.succ_le_of_lt hlt8, (by rw [drop_succ_of hd6]; exact hH)⟩, (by have := hlt8; dsimp only; omega), ?_⟩
      exact Le.cut 0 0 rfl (by repeat' (first | exact trivial | refine ⟨⟨_, rfl, rfl⟩, ?_⟩)) (by repeat' (first | exact trivial | refine ⟨⟨_, rfl, rfl⟩, ?_⟩)) rfl

def laws_toSeason_p (a : Season) : Option Season :=
  (laws_toLineS_p a.lines).bind fun x1 =>
  some (Season.mk a.best x1)
theorem laws_toSeason_ok (a : Season) (r : Season) (hH : laws_toSeason_p a = some r) : SpecR Try.prog 16 [.g (encSeason a)] (.g (encSeasonO r)) := by
  refine fn_ok T Try.func16 rfl (by decide) rfl ?_
  refine AW.seq ?_
  refine AW.region ?_
  refine AO.step rfl (box_ok T rfl 1 rfl rfl rfl rfl) ?_
  refine AO.step rfl (alloc_ok T rfl 2 rfl rfl rfl rfl rfl) ?_
  refine AO.nil ?_
  refine AW.seq ?_
  refine AW.region ?_
  refine AO.step rfl (alloc_ok T rfl 3 rfl rfl rfl rfl rfl) ?_
  refine AO.nil ?_
  refine AW.seq ?_
  refine AW.region ?_
  refine AO.pure T rfl rfl rfl ?_
  refine AO.pure T rfl rfl rfl ?_
  refine AO.pure T rfl rfl rfl ?_
  refine AO.step rfl (store_ok T rfl rfl rfl rfl rfl rfl rfl rfl rfl) ?_
  refine AO.nil ?_
  refine AW.seq ?_
  obtain ⟨x1, hx2, hH⟩ := bindE hH
  refine AW.region ?_
  refine AO.pure T rfl rfl rfl ?_
  refine AO.pure T rfl rfl rfl ?_
  refine AO.step rfl (call_ok rfl 4 rfl rfl rfl (laws_toLineS_ok _ _ (hx2)) rfl rfl rfl) ?_
  refine AO.pure T rfl rfl rfl ?_
  refine AO.step rfl (store_ok T rfl rfl rfl rfl rfl rfl rfl rfl rfl) ?_
  refine AO.nil ?_
  refine AW.seq ?_
  refine AW.region ?_
  refine AO.pure T rfl rfl rfl ?_
  refine AO.step rfl (store_ok T rfl rfl rfl rfl rfl rfl rfl rfl rfl) ?_
  refine AO.nil ?_
  refine AW.ret ?_
  cases someE hH
  exact ⟨trivial, _, [4], rfl, .c (.g (expLC_cons .v (expLC_cons (.rowR rfl) (expLC_nil)))), by decide⟩

def spec_l1In_p (n : Int) (lo : Int) (hi : Int) : Option Bool :=
  some (decide (n ≥ lo) && decide (n ≤ hi))
theorem spec_l1In_ok (n : Int) (lo : Int) (hi : Int) (r : Bool) (hH : spec_l1In_p n lo hi = some r) : SpecR Try.prog 77 [.v (.int .i64 n), .v (.int .i64 lo), .v (.int .i64 hi)] (.v (.bool r)) := by
  refine fn_ok T Try.func77 rfl (by decide) rfl ?_
  refine AW.seq ?_
  refine AW.region ?_
  refine AO.pure T rfl rfl rfl ?_
  refine AO.nil ?_
  refine AW.seq ?_
  refine AW.region ?_
  refine AO.pure T rfl rfl rfl ?_
  refine AO.pure T rfl rfl rfl ?_
  refine AO.pure T rfl rfl rfl ?_
  refine AO.pure T rfl rfl rfl ?_
  refine AO.pureG T [] rfl trivial rfl rfl ?_
  refine AO.pureG T [] rfl trivial rfl rfl ?_
  refine AO.pureG T [11, 12] rfl ⟨fun h => h, fun h => h, trivial⟩ rfl rfl ?_
  refine AO.val rfl rfl (pick_and rfl rfl rfl rfl) ?_
  refine AO.pure T rfl rfl rfl ?_
  refine AO.nil ?_
  refine AW.ret ?_
  cases someE hH
  exact ⟨trivial, _, [], rfl, .c (.c .v), by decide⟩

def spec_seEntry_p (e : Entry) : Option Bool :=
  (spec_l1In_p e.event 1 99).bind fun x1 =>
  (opt x1 default (spec_l1In_p e.skater 1 999)).bind fun x3 =>
  (opt (x1 && x3) default (spec_l1In_p e.points 0 100000)).bind fun x5 =>
  some ((x1 && x3) && x5)
theorem spec_seEntry_ok (e : Entry) (r : Bool) (hH : spec_seEntry_p e = some r) : SpecR Try.prog 88 [.g (encEntry e)] (.v (.bool r)) := by
  refine fn_ok T Try.func88 rfl (by decide) rfl ?_
  refine AW.seq ?_
  refine AW.region ?_
  refine AO.step rfl (box_ok T rfl 1 rfl rfl rfl rfl) ?_
  refine AO.pure T rfl rfl rfl ?_
  refine AO.nil ?_
  refine AW.seq ?_
  obtain ⟨x1, hx2, hH⟩ := bindE hH
  obtain ⟨x3, hx4, hH⟩ := bindE hH
  obtain ⟨x5, hx6, hH⟩ := bindE hH
  refine AW.region ?_
  refine AO.pure T rfl rfl rfl ?_
  refine AO.pure T rfl rfl rfl ?_
  refine AO.val rfl rfl (callV_ok rfl rfl rfl rfl (spec_l1In_ok _ _ _ _ (hx2)) rfl) ?_
  refine AO.pure T rfl rfl rfl ?_
  refine AO.pureG T [] rfl trivial rfl rfl ?_
  refine AO.pureG T [7] rfl ⟨fun h => h, trivial⟩ rfl rfl ?_
  refine AO.guard [8] rfl ⟨fun h => h, trivial⟩ (fun hg => callV_ok rfl rfl rfl rfl (spec_l1In_ok _ _ _ _ (optT hx4 hg)) rfl) rfl ?_
  refine AO.val rfl rfl (pick_and rfl rfl rfl rfl) ?_
  refine AO.pure T rfl rfl rfl ?_
  refine AO.pureG T [] rfl trivial rfl rfl ?_
  refine AO.pureG T [12] rfl ⟨fun h => h, trivial⟩ rfl rfl ?_
  refine AO.guard [13] rfl ⟨fun h => h, trivial⟩ (fun hg => callV_ok rfl rfl rfl rfl (spec_l1In_ok _ _ _ _ (optT hx6 hg)) rfl) rfl ?_
  refine AO.val rfl rfl (pick_and rfl rfl rfl rfl) ?_
  refine AO.pure T rfl rfl rfl ?_
  refine AO.nil ?_
  refine AW.ret ?_
  cases someE hH
  exact ⟨trivial, _, [], rfl, .c (.c .v), by decide⟩

def spec_l1Has_l1 (n : Int) : List Int → Nat → Option Bool
  | [], k1 =>
    some false
  | y2 :: ys3, k1 =>
    cond (y2 == n)
      (some true)
      (spec_l1Has_l1 n ys3 (k1 + 1))
def spec_l1Has_p (l : List Int) (n : Int) : Option Bool :=
  spec_l1Has_l1 n l 0
theorem spec_l1Has_ok (l : List Int) (n : Int) (r : Bool) (hH : spec_l1Has_p l n = some r) : SpecR Try.prog 89 [.s (List.map encInt l), .v (.int .i64 n)] (.v (.bool r)) := by
  refine fn_ok T Try.func89 rfl (by decide) rfl ?_
  refine AW.seq ?_
  refine AW.region ?_
  refine AO.pure T rfl rfl rfl ?_
  refine AO.nil ?_
  refine AW.seq ?_
  refine AW.seq ?_
  refine AW.region ?_
  refine AO.pure T rfl rfl rfl ?_
  refine AO.val rfl rfl (len_map_ok T rfl rfl rfl) ?_
  refine AO.pure T rfl rfl rfl ?_
  refine AO.nil ?_
  refine AW.block ?_
  refine AW.loopS (fun s : Nat => (⟨[(1, .v (.int .i64 n)), (7, .s (List.map encInt l)), (8, .v (.int .i64 (l.length : Int))), (9, .v (.int .i64 (s : Int)))], [], 17, []⟩ : St)) (fun s => s ≤ l.length ∧ spec_l1Has_l1 n (l.drop s) s = some r) (fun s => l.length - s) 0 ⟨Nat.zero_le _, hH⟩ ?_ ?_
  · exact Le.cut 0 0 rfl (by repeat' (first | exact trivial | refine ⟨⟨_, rfl, rfl⟩, ?_⟩)) (by repeat' (first | exact trivial | refine ⟨⟨_, rfl, rfl⟩, ?_⟩)) rfl
  · rintro k1 ⟨hk, hH⟩
    replace hH : spec_l1Has_l1 n (l.drop k1) k1 = some r := hH
    show AW _ _ _ (⟨[(1, .v (.int .i64 n)), (7, .s (List.map encInt l)), (8, .v (.int .i64 (l.length : Int))), (9, .v (.int .i64 (k1 : Int)))], [], 17, []⟩ : St)
    refine AW.boundM (t := 7) (l := l) rfl (fun hb5 => ?_)
    cases hd4 : l.drop k1 with
    | nil =>
      rw [hd4] at hH
      rw [spec_l1Has_l1] at hH
      have hlt6 := drop_ge hd4
      refine AW.seq ?_
      refine AW.region ?_
      refine AO.pure T rfl rfl rfl ?_
      refine AO.nil ?_
      refine AW.seq ?_
      refine AW.condF' (b := decide ((k1 : Int) < (l.length : Int))) rfl (rngF hlt6) ?_
      refine AW.exit ?_
      refine AW.seq ?_
      refine AW.region ?_
      refine AO.pure T rfl rfl rfl ?_
      refine AO.nil ?_
      refine AW.ret ?_
      cases someE hH
      exact ⟨trivial, _, [], rfl, .c (.c .v), by decide⟩
    | cons y2 ys3 =>
      rw [hd4] at hH
      rw [spec_l1Has_l1] at hH
      have hlt6 := drop_lt hd4
      refine AW.seq ?_
      refine AW.region ?_
      refine AO.pure T rfl rfl rfl ?_
      refine AO.nil ?_
      refine AW.seq ?_
      refine AW.condT' (b := decide ((k1 : Int) < (l.length : Int))) rfl (rngT hlt6) ?_
      refine AW.skip ?_
      refine AW.seq ?_
      refine AW.block ?_
      refine AW.seq ?_
      refine AW.region ?_
      refine AO.val rfl rfl (ix_map_ok T rfl rfl rfl rfl rfl (getI_drop hd4) rfl) ?_
      refine AO.pure T rfl rfl rfl ?_
      refine AO.pure T rfl rfl rfl ?_
      refine AO.nil ?_
      refine AW.seq ?_
      refine AW.region ?_
      refine AO.pure T rfl rfl rfl ?_
      refine AO.pure T rfl rfl rfl ?_
      refine AO.pure T rfl rfl rfl ?_
      refine AO.nil ?_
      refine AW.cond (b := (y2 == n)) rfl (fun hc => ?_) (fun hc => ?_)
      · replace hH := condT hc hH
        refine AW.seq ?_
        refine AW.region ?_
        refine AO.pure T rfl rfl rfl ?_
        refine AO.nil ?_
        refine AW.ret ?_
        cases someE hH
        exact ⟨trivial, _, [], rfl, .c (.c .v), by decide⟩
      · replace hH := condF hc hH
        refine AW.skip ?_
        refine AW.region ?_
        refine AO.val rfl rfl (ar_ok rfl rfl rfl rfl (inI_succ hlt6 hb5)) ?_
        refine AO.pure T rfl rfl rfl ?_
        refine AO.nil ?_
        refine ⟨k1 + 1, ⟨Nat.succ_le_of_lt hlt6, (by rw [drop_succ_of hd4]; exact hH)⟩, (by have := hlt6; dsimp only; omega), ?_⟩
        exact Le.cut 0 0 rfl (by repeat' (first | exact trivial | refine ⟨⟨_, rfl, rfl⟩, ?_⟩)) (by repeat' (first | exact trivial | refine ⟨⟨_, rfl, rfl⟩, ?_⟩)) rfl

def spec_seLine_l1 (x : Line) : List Int → Nat → Option Bool
  | [], k1 =>
    some (decide ((x.events.length : Int) > 0))
  | y2 :: ys3, k1 =>
    (opt (!((x.points.length : Int) != (x.events.length : Int))) default (getI x.points (k1 : Int))).bind fun x36 =>
    (opt (!((x.points.length : Int) != (x.events.length : Int))) default (spec_seEntry_p (Entry.mk y2 x.skater x36))).bind fun x38 =>
    cond (((x.points.length : Int) != (x.events.length : Int)) || (!x38))
      (some false)
      ((opt (decide ((k1 : Int) > 0)) default (getI x.points (w64 ((k1 : Int) - 1)))).bind fun x40 =>
      (opt (decide ((k1 : Int) > 0)) default (getI x.points (k1 : Int))).bind fun x42 =>
      (opt ((decide ((k1 : Int) > 0) && (!(decide (x40 < x42)))) && (x40 == x42)) default (getI x.events (w64 ((k1 : Int) - 1)))).bind fun x44 =>
      cond (decide ((k1 : Int) > 0) && (decide (x40 < x42) || ((x40 == x42) && decide (x44 ≥ y2))))
        (some false)
        ((sliceHi x.events (k1 : Int)).bind fun x46 =>
        (spec_l1Has_p x46 y2).bind fun x48 =>
        cond x48
          (some false)
          (spec_seLine_l1 x ys3 (k1 + 1))))
def spec_seLine_p (x : Line) : Option Bool :=
  spec_seLine_l1 x x.events 0
theorem spec_seLine_ok (x : Line) (r : Bool) (hH : spec_seLine_p x = some r) : SpecR Try.prog 104 [.g (encLine x)] (.v (.bool r)) := by
  refine fn_ok T Try.func104 rfl (by decide) rfl ?_
  refine AW.seq ?_
  refine AW.region ?_
  refine AO.step rfl (box_ok T rfl 1 rfl rfl rfl rfl) ?_
  refine AO.pure T rfl rfl rfl ?_
  refine AO.nil ?_
  refine AW.seq ?_
  refine AW.seq ?_
  refine AW.region ?_
  refine AO.pure T rfl rfl rfl ?_
  refine AO.pure T rfl rfl rfl ?_
  refine AO.val rfl rfl (len_map_ok T rfl rfl rfl) ?_
  refine AO.pure T rfl rfl rfl ?_
  refine AO.nil ?_
  refine AW.block ?_
  refine AW.loopS (fun s : Nat => (⟨[(1, .p 1 0), (6, .v (.int .i64 (x.events.length : Int))), (7, .v (.int .i64 (s : Int)))], [(1, .box [.v (.int .i64 x.skater), .s (List.map encInt x.events), .s (List.map encInt x.points)])], 93, []⟩ : St)) (fun s => s ≤ x.events.length ∧ spec_seLine_l1 x (x.events.drop s) s = some r) (fun s => x.events.length - s) 0 ⟨Nat.zero_le _, hH⟩ ?_ ?_
  · exact Le.cut 0 0 rfl (by repeat' (first | exact trivial | refine ⟨⟨_, rfl, rfl⟩, ?_⟩)) (by repeat' (first | exact trivial | refine ⟨⟨_, rfl, rfl⟩, ?_⟩)) rfl
  · rintro k1 ⟨hk, hH⟩
    replace hH : spec_seLine_l1 x (x.events.drop k1) k1 = some r := hH
    show AW _ _ _ (⟨[(1, .p 1 0), (6, .v (.int .i64 (x.events.length : Int))), (7, .v (.int .i64 (k1 : Int)))], [(1, .box [.v (.int .i64 x.skater), .s (List.map encInt x.events), .s (List.map encInt x.points)])], 93, []⟩ : St)
    refine AW.boundBox (id := 1) (j := 1) (l := x.events) rfl rfl (fun hb5 => ?_)
    cases hd4 : x.events.drop k1 with
    | nil =>
      rw [hd4] at hH
      rw [spec_seLine_l1] at hH
      have hlt6 := drop_ge hd4
      refine AW.seq ?_
      refine AW.region ?_
      refine AO.pure T rfl rfl rfl ?_
      refine AO.nil ?_
      refine AW.seq ?_
      refine AW.condF' (b := decide ((k1 : Int) < (x.events.length : Int))) rfl (rngF hlt6) ?_
      refine AW.exit ?_
      refine AW.seq ?_
      refine AW.region ?_
      refine AO.pure T rfl rfl rfl ?_
      refine AO.pure T rfl rfl rfl ?_
      refine AO.val rfl rfl (len_map_ok T rfl rfl rfl) ?_
      refine AO.pure T rfl rfl rfl ?_
      refine AO.pure T rfl rfl rfl ?_
      refine AO.nil ?_
      refine AW.ret ?_
      cases someE hH
      exact ⟨trivial, _, [], rfl, .c (.c .v), by decide⟩
    | cons y2 ys3 =>
      rw [hd4] at hH
      rw [spec_seLine_l1] at hH
      have hlt6 := drop_lt hd4
      refine AW.seq ?_
      refine AW.region ?_
      refine AO.pure T rfl rfl rfl ?_
      refine AO.nil ?_
      refine AW.seq ?_
      refine AW.condT' (b := decide ((k1 : Int) < (x.events.length : Int))) rfl (rngT hlt6) ?_
      refine AW.skip ?_
      refine AW.seq ?_
      refine AW.block ?_
      refine AW.seq ?_
      refine AW.region ?_
      refine AO.pure T rfl rfl rfl ?_
      refine AO.pure T rfl rfl rfl ?_
      refine AO.nil ?_
      refine AW.seq ?_
      refine AW.seq ?_
      obtain ⟨x36, hx37, hH⟩ := bindE hH
      obtain ⟨x38, hx39, hH⟩ := bindE hH
      refine AW.drawn 20 2 [] mix (by kernel_rfl) rfl ?_
      refine AD.pure T rfl rfl rfl ?_
      refine AD.pure T rfl rfl rfl ?_
      refine AD.val rfl rfl (len_map_ok T rfl rfl rfl) ?_
      refine AD.pure T rfl rfl rfl ?_
      refine AD.pure T rfl rfl rfl ?_
      refine AD.val rfl rfl (len_map_ok T rfl rfl rfl) ?_
      refine AD.pure T rfl rfl rfl ?_
      refine AD.pure T rfl rfl rfl ?_
      refine AD.pureG T [] rfl trivial rfl rfl ?_
      refine AD.pureG T [18] rfl ⟨fun h => h, trivial⟩ rfl rfl ?_
      refine AD.pureG T [] rfl trivial rfl rfl ?_
      refine AD.guard [19, 20] rfl ⟨fun h => h, fun h => h, trivial⟩ (fun hg => ix_map_ok T rfl rfl rfl rfl rfl (getI_drop hd4) rfl) rfl ?_
      refine AD.pureG T [21] rfl ⟨fun h => h, trivial⟩ rfl rfl ?_
      refine AD.pureG T [] rfl trivial rfl rfl ?_
      refine AD.pureG T [23] rfl ⟨fun h => h, trivial⟩ rfl rfl ?_
      refine AD.pureG T [] rfl trivial rfl rfl ?_
      refine AD.pureG T [25] rfl ⟨fun h => h, trivial⟩ rfl rfl ?_
      refine AD.pureG T [] rfl trivial rfl rfl ?_
      refine AD.guard [26, 27] rfl ⟨fun h => h, fun h => h, trivial⟩ (fun hg => ix_map_ok T rfl rfl rfl rfl rfl (optT hx37 hg) rfl) rfl ?_
      refine AD.pureG T [28] rfl ⟨fun h => h, trivial⟩ rfl rfl ?_
      refine AD.nil ?_
      refine AO.pureG T [22, 24, 29] rfl ⟨fun h => h, fun h => h, fun h => h, trivial⟩ rfl rfl ?_
      refine AO.guard [30] rfl ⟨fun h => h, trivial⟩ (fun hg => callV_ok rfl rfl rfl rfl (spec_seEntry_ok _ _ (optT hx39 hg)) rfl) rfl ?_
      refine AO.pureG T [31] rfl ⟨fun h => h, trivial⟩ rfl rfl ?_
      refine AO.val rfl rfl (pick_or rfl rfl rfl rfl) ?_
      refine AO.nil ?_
      refine AW.le (Le.cut 0 0 (σ' := (⟨[(1, .p 1 0), (3, .v (.int .i64 (k1 : Int))), (6, .v (.int .i64 (x.events.length : Int))), (7, .v (.int .i64 (k1 : Int))), (33, .v (.bool (((x.points.length : Int) != (x.events.length : Int)) || (!x38))))], [(1, .box [.v (.int .i64 x.skater), .s (List.map encInt x.events), .s (List.map encInt x.points)])], 93, []⟩ : St)) rfl (by repeat' (first | exact trivial | refine ⟨⟨_, rfl, rfl⟩, ?_⟩)) (by repeat' (first | exact trivial | refine ⟨⟨_, rfl, rfl⟩, ?_⟩)) rfl) ?_
      refine AW.cond (b := (((x.points.length : Int) != (x.events.length : Int)) || (!x38))) rfl (fun hc => ?_) (fun hc => ?_)
      · replace hH := condT hc hH
        refine AW.seq ?_
        refine AW.region ?_
        refine AO.pure T rfl rfl rfl ?_
        refine AO.nil ?_
        refine AW.ret ?_
        cases someE hH
        exact ⟨trivial, _, [], rfl, .c (.c .v), by decide⟩
      · replace hH := condF hc hH
        refine AW.skip ?_
        refine AW.seq ?_
        refine AW.seq ?_
        obtain ⟨x40, hx41, hH⟩ := bindE hH
        obtain ⟨x42, hx43, hH⟩ := bindE hH
        obtain ⟨x44, hx45, hH⟩ := bindE hH
        refine AW.drawn 40 2 [] mix (by kernel_rfl) rfl ?_
        refine AD.pure T rfl rfl rfl ?_
        refine AD.pure T rfl rfl rfl ?_
        refine AD.pure T rfl rfl rfl ?_
        refine AD.pureG T [] rfl trivial rfl rfl ?_
        refine AD.pureG T [37] rfl ⟨fun h => h, trivial⟩ rfl rfl ?_
        refine AD.pureG T [] rfl trivial rfl rfl ?_
        refine AD.guard [39] rfl ⟨fun h => h, trivial⟩ (fun hg => arw_ok rfl rfl rfl rfl) rfl ?_
        refine AD.guard [38, 40] rfl ⟨fun h => h, fun h => h, trivial⟩ (fun hg => ix_map_ok T rfl rfl rfl rfl rfl (optT hx41 hg) rfl) rfl ?_
        refine AD.pureG T [41] rfl ⟨fun h => h, trivial⟩ rfl rfl ?_
        refine AD.pureG T [] rfl trivial rfl rfl ?_
        refine AD.pureG T [43] rfl ⟨fun h => h, trivial⟩ rfl rfl ?_
        refine AD.pureG T [] rfl trivial rfl rfl ?_
        refine AD.guard [44, 45] rfl ⟨fun h => h, fun h => h, trivial⟩ (fun hg => ix_map_ok T rfl rfl rfl rfl rfl (optT hx43 hg) rfl) rfl ?_
        refine AD.pureG T [46] rfl ⟨fun h => h, trivial⟩ rfl rfl ?_
        refine AD.pureG T [42, 47] rfl ⟨fun h => h, fun h => h, trivial⟩ rfl rfl ?_
        refine AD.pureG T [48] rfl ⟨fun h => h, trivial⟩ rfl rfl ?_
        refine AD.pureG T [] rfl trivial rfl rfl ?_
        refine AD.pureG T [50] rfl ⟨fun h => h, trivial⟩ rfl rfl ?_
        refine AD.pureG T [] rfl trivial rfl rfl ?_
        refine AD.guard [52] rfl ⟨fun h => h, trivial⟩ (fun hg => arw_ok rfl rfl rfl rfl) rfl ?_
        refine AD.guard [51, 53] rfl ⟨fun h => h, fun h => h, trivial⟩ (fun hg => ix_map_ok T rfl rfl rfl rfl rfl (optT hx41 ((fun h => (fun h => h) (Bool.and_eq_true_iff.1 h).1) hg)) rfl) rfl ?_
        refine AD.pureG T [54] rfl ⟨fun h => h, trivial⟩ rfl rfl ?_
        refine AD.pureG T [] rfl trivial rfl rfl ?_
        refine AD.pureG T [56] rfl ⟨fun h => h, trivial⟩ rfl rfl ?_
        refine AD.pureG T [] rfl trivial rfl rfl ?_
        refine AD.guard [57, 58] rfl ⟨fun h => h, fun h => h, trivial⟩ (fun hg => ix_map_ok T rfl rfl rfl rfl rfl (optT hx43 ((fun h => (fun h => h) (Bool.and_eq_true_iff.1 h).1) hg)) rfl) rfl ?_
        refine AD.pureG T [59] rfl ⟨fun h => h, trivial⟩ rfl rfl ?_
        refine AD.pureG T [55, 60] rfl ⟨fun h => h, fun h => h, trivial⟩ rfl rfl ?_
        refine AD.pureG T [61] rfl ⟨fun h => h, trivial⟩ rfl rfl ?_
        refine AD.pureG T [] rfl trivial rfl rfl ?_
        refine AD.pureG T [63] rfl ⟨fun h => h, trivial⟩ rfl rfl ?_
        refine AD.pureG T [] rfl trivial rfl rfl ?_
        refine AD.guard [65] rfl ⟨fun h => h, trivial⟩ (fun hg => arw_ok rfl rfl rfl rfl) rfl ?_
        refine AD.guard [64, 66] rfl ⟨fun h => h, fun h => h, trivial⟩ (fun hg => ix_map_ok T rfl rfl rfl rfl rfl (optT hx45 hg) rfl) rfl ?_
        refine AD.pureG T [67] rfl ⟨fun h => h, trivial⟩ rfl rfl ?_
        refine AD.pureG T [] rfl trivial rfl rfl ?_
        refine AD.pureG T [69] rfl ⟨fun h => h, trivial⟩ rfl rfl ?_
        refine AD.pureG T [] rfl trivial rfl rfl ?_
        refine AD.guard [70, 71] rfl ⟨fun h => h, fun h => h, trivial⟩ (fun hg => ix_map_ok T rfl rfl rfl rfl rfl (getI_drop hd4) rfl) rfl ?_
        refine AD.pureG T [72] rfl ⟨fun h => h, trivial⟩ rfl rfl ?_
        refine AD.nil ?_
        refine AO.pureG T [68, 73] rfl ⟨fun h => h, fun h => h, trivial⟩ rfl rfl ?_
        refine AO.guard [62] rfl ⟨fun h => h, trivial⟩ (fun hg => pick_and rfl rfl rfl (by rw [hg]; exact Bool.true_and _)) rfl ?_
        refine AO.guard [49] rfl ⟨fun h => h, trivial⟩ (fun hg => pick_or rfl rfl rfl (by rw [hg]; exact Bool.true_and _)) rfl ?_
        refine AO.val rfl rfl (pick_and rfl rfl rfl rfl) ?_
        refine AO.nil ?_
        refine AW.le (Le.cut 0 0 (σ' := (⟨[(1, .p 1 0), (3, .v (.int .i64 (k1 : Int))), (6, .v (.int .i64 (x.events.length : Int))), (7, .v (.int .i64 (k1 : Int))), (77, .v (.bool (decide ((k1 : Int) > 0) && (decide (x40 < x42) || ((x40 == x42) && decide (x44 ≥ y2))))))], [(1, .box [.v (.int .i64 x.skater), .s (List.map encInt x.events), .s (List.map encInt x.points)])], 93, []⟩ : St)) rfl (by repeat' (first | exact trivial | refine ⟨⟨_, rfl, rfl⟩, ?_⟩)) (by repeat' (first | exact trivial | refine ⟨⟨_, rfl, rfl⟩, ?_⟩)) rfl) ?_
        refine AW.cond (b := (decide ((k1 : Int) > 0) && (decide (x40 < x42) || ((x40 == x42) && decide (x44 ≥ y2))))) rfl (fun hc => ?_) (fun hc => ?_)
        · replace hH := condT hc hH
          refine AW.seq ?_
          refine AW.region ?_
          refine AO.pure T rfl rfl rfl ?_
          refine AO.nil ?_
          refine AW.ret ?_
          cases someE hH
          exact ⟨trivial, _, [], rfl, .c (.c .v), by decide⟩
        · replace hH := condF hc hH
          refine AW.skip ?_
          refine AW.seq ?_
          obtain ⟨x46, hx47, hH⟩ := bindE hH
          obtain ⟨x48, hx49, hH⟩ := bindE hH
          refine AW.drawn 9 2 [] mix (by kernel_rfl) rfl ?_
          refine AD.pure T rfl rfl rfl ?_
          refine AD.pure T rfl rfl rfl ?_
          refine AD.pure T rfl rfl rfl ?_
          refine AD.val rfl rfl (slice_hi_map_ok T rfl rfl rfl rfl rfl (hx47) (fun _ => rfl)) ?_
          refine AD.pure T rfl rfl rfl ?_
          refine AD.pure T rfl rfl rfl ?_
          refine AD.pure T rfl rfl rfl ?_
          refine AD.val rfl rfl (ix_map_ok T rfl rfl rfl rfl rfl (getI_drop hd4) rfl) ?_
          refine AD.pure T rfl rfl rfl ?_
          refine AD.nil ?_
          refine AO.val rfl rfl (callV_ok rfl rfl rfl rfl (spec_l1Has_ok _ _ _ (hx49)) rfl) ?_
          refine AO.nil ?_
          refine AW.cond (b := x48) rfl (fun hc => ?_) (fun hc => ?_)
          · replace hH := condT hc hH
            refine AW.seq ?_
            refine AW.region ?_
            refine AO.pure T rfl rfl rfl ?_
            refine AO.nil ?_
            refine AW.ret ?_
            cases someE hH
            exact ⟨trivial, _, [], rfl, .c (.c .v), by decide⟩
          · replace hH := condF hc hH
            refine AW.skip ?_
            refine AW.region ?_
            refine AO.val rfl rfl (ar_ok rfl rfl rfl rfl (inI_succ hlt6 hb5)) ?_
            refine AO.pure T rfl rfl rfl ?_
            refine AO.nil ?_
            refine ⟨k1 + 1, ⟨Nat.succ_le_of_lt hlt6, (by rw [drop_succ_of hd4]; exact hH)⟩, (by have := hlt6; dsimp only; omega), ?_⟩
            exact Le.cut 0 0 rfl (by repeat' (first | exact trivial | refine ⟨⟨_, rfl, rfl⟩, ?_⟩)) (by repeat' (first | exact trivial | refine ⟨⟨_, rfl, rfl⟩, ?_⟩)) rfl

def spec_seGood_l1 (sA : Season) : List Line → Nat → Int → Option Bool
  | [], k1, v16 =>
    (spec_l1In_p sA.best 1 9).bind fun x18 =>
    some (x18 && decide (v16 ≤ 80))
  | y2 :: ys3, k1, v16 =>
    (spec_seLine_p y2).bind fun x20 =>
    (opt ((!(!x20)) && decide ((k1 : Int) > 0)) default (getI sA.lines (w64 ((k1 : Int) - 1)))).bind fun x22 =>
    cond ((!x20) || (decide ((k1 : Int) > 0) && decide (x22.skater ≥ y2.skater)))
      (some false)
      (spec_seGood_l1 sA ys3 (k1 + 1) (w64 (v16 + (y2.events.length : Int))))
def spec_seGood_p (sA : Season) : Option Bool :=
  spec_seGood_l1 sA sA.lines 0 0
theorem spec_seGood_ok (sA : Season) (r : Bool) (hH : spec_seGood_p sA = some r) : SpecR Try.prog 60 [.g (encSeason sA)] (.v (.bool r)) := by
  refine fn_ok T Try.func60 rfl (by decide) rfl ?_
  refine AW.seq ?_
  refine AW.region ?_
  refine AO.step rfl (box_ok T rfl 1 rfl rfl rfl rfl) ?_
  refine AO.pure T rfl rfl rfl ?_
  refine AO.nil ?_
  refine AW.seq ?_
  refine AW.region ?_
  refine AO.pure T rfl rfl rfl ?_
  refine AO.nil ?_
  refine AW.seq ?_
  refine AW.seq ?_
  refine AW.region ?_
  refine AO.pure T rfl rfl rfl ?_
  refine AO.pure T rfl rfl rfl ?_
  refine AO.val rfl rfl (len_map_ok T rfl rfl rfl) ?_
  refine AO.pure T rfl rfl rfl ?_
  refine AO.nil ?_
  refine AW.block ?_
  refine AW.loopS (fun s : Nat × Int => (⟨[(1, .p 1 0), (3, .v (.int .i64 s.2)), (7, .s (List.map encLine sA.lines)), (8, .v (.int .i64 (sA.lines.length : Int))), (9, .v (.int .i64 (s.1 : Int)))], [(1, .box [.v (.int .i64 sA.best), .s (List.map encLine sA.lines)])], 46, []⟩ : St)) (fun s => s.1 ≤ sA.lines.length ∧ spec_seGood_l1 sA (sA.lines.drop s.1) s.1 s.2 = some r) (fun s => sA.lines.length - s.1) (0, 0) ⟨Nat.zero_le _, hH⟩ ?_ ?_
  · exact Le.cut 0 0 rfl (by repeat' (first | exact trivial | refine ⟨⟨_, rfl, rfl⟩, ?_⟩)) (by repeat' (first | exact trivial | refine ⟨⟨_, rfl, rfl⟩, ?_⟩)) rfl
  · rintro ⟨k1, v16⟩ ⟨hk, hH⟩
    replace hH : spec_seGood_l1 sA (sA.lines.drop k1) k1 v16 = some r := hH
    show AW _ _ _ (⟨[(1, .p 1 0), (3, .v (.int .i64 v16)), (7, .s (List.map encLine sA.lines)), (8, .v (.int .i64 (sA.lines.length : Int))), (9, .v (.int .i64 (k1 : Int)))], [(1, .box [.v (.int .i64 sA.best), .s (List.map encLine sA.lines)])], 46, []⟩ : St)
    refine AW.boundM (t := 7) (l := sA.lines) rfl (fun hb5 => ?_)
    cases hd4 : sA.lines.drop k1 with
    | nil =>
      rw [hd4] at hH
      rw [spec_seGood_l1] at hH
      have hlt6 := drop_ge hd4
      refine AW.seq ?_
      refine AW.region ?_
      refine AO.pure T rfl rfl rfl ?_
      refine AO.nil ?_
      refine AW.seq ?_
      refine AW.condF' (b := decide ((k1 : Int) < (sA.lines.length : Int))) rfl (rngF hlt6) ?_
      refine AW.exit ?_
      refine AW.seq ?_
      obtain ⟨x18, hx19, hH⟩ := bindE hH
      refine AW.region ?_
      refine AO.pure T rfl rfl rfl ?_
      refine AO.pure T rfl rfl rfl ?_
      refine AO.val rfl rfl (callV_ok rfl rfl rfl rfl (spec_l1In_ok _ _ _ _ (hx19)) rfl) ?_
      refine AO.pure T rfl rfl rfl ?_
      refine AO.pureG T [] rfl trivial rfl rfl ?_
      refine AO.pureG T [43] rfl ⟨fun h => h, trivial⟩ rfl rfl ?_
      refine AO.val rfl rfl (pick_and rfl rfl rfl rfl) ?_
      refine AO.pure T rfl rfl rfl ?_
      refine AO.nil ?_
      refine AW.ret ?_
      cases someE hH
      exact ⟨trivial, _, [], rfl, .c (.c .v), by decide⟩
    | cons y2 ys3 =>
      rw [hd4] at hH
      rw [spec_seGood_l1] at hH
      have hlt6 := drop_lt hd4
      refine AW.seq ?_
      refine AW.region ?_
      refine AO.pure T rfl rfl rfl ?_
      refine AO.nil ?_
      refine AW.seq ?_
      refine AW.condT' (b := decide ((k1 : Int) < (sA.lines.length : Int))) rfl (rngT hlt6) ?_
      refine AW.skip ?_
      refine AW.seq ?_
      refine AW.block ?_
      refine AW.seq ?_
      refine AW.region ?_
      refine AO.pure T rfl rfl rfl ?_
      refine AO.val rfl rfl (ix_map_ok T rfl rfl rfl rfl rfl (getI_drop hd4) rfl) ?_
      refine AO.pure T rfl rfl rfl ?_
      refine AO.step rfl (alloc_ok T rfl 4 rfl rfl rfl rfl rfl) ?_
      refine AO.pure T rfl rfl rfl ?_
      refine AO.step rfl (store_ok T rfl rfl rfl rfl rfl rfl rfl rfl rfl) ?_
      refine AO.nil ?_
      refine AW.seq ?_
      refine AW.seq ?_
      obtain ⟨x20, hx21, hH⟩ := bindE hH
      obtain ⟨x22, hx23, hH⟩ := bindE hH
      refine AW.drawn 16 5 [] mix (by kernel_rfl) rfl ?_
      refine AD.pure T rfl rfl rfl ?_
      refine AD.val rfl rfl (callV_ok rfl rfl rfl rfl (spec_seLine_ok _ _ (hx21)) rfl) ?_
      refine AD.pure T rfl rfl rfl ?_
      refine AD.pure T rfl rfl rfl ?_
      refine AD.pureG T [] rfl trivial rfl rfl ?_
      refine AD.pureG T [18] rfl ⟨fun h => h, trivial⟩ rfl rfl ?_
      refine AD.pureG T [19] rfl ⟨fun h => h, trivial⟩ rfl rfl ?_
      refine AD.pureG T [] rfl trivial rfl rfl ?_
      refine AD.pureG T [21] rfl ⟨fun h => h, trivial⟩ rfl rfl ?_
      refine AD.pureG T [] rfl trivial rfl rfl ?_
      refine AD.guard [23] rfl ⟨fun h => h, trivial⟩ (fun hg => arw_ok rfl rfl rfl rfl) rfl ?_
      refine AD.guard [22, 24] rfl ⟨fun h => h, fun h => h, trivial⟩ (fun hg => ix_map_ok T rfl rfl rfl rfl rfl (optT hx23 hg) rfl) rfl ?_
      refine AD.pureG T [25] rfl ⟨fun h => h, trivial⟩ rfl rfl ?_
      refine AD.pureG T [26] rfl ⟨fun h => h, trivial⟩ rfl rfl ?_
      refine AD.pureG T [] rfl trivial rfl rfl ?_
      refine AD.pureG T [28] rfl ⟨fun h => h, trivial⟩ rfl rfl ?_
      refine AD.nil ?_
      refine AO.pureG T [27, 29] rfl ⟨fun h => h, fun h => h, trivial⟩ rfl rfl ?_
      refine AO.guard [20] rfl ⟨fun h => h, trivial⟩ (fun hg => pick_and rfl rfl rfl (by rw [hg]; exact Bool.true_and _)) rfl ?_
      refine AO.val rfl rfl (pick_or rfl rfl rfl rfl) ?_
      refine AO.nil ?_
      refine AW.le (Le.cut 0 0 (σ' := (⟨[(1, .p 1 0), (3, .v (.int .i64 v16)), (5, .p 4 0), (7, .s (List.map encLine sA.lines)), (8, .v (.int .i64 (sA.lines.length : Int))), (9, .v (.int .i64 (k1 : Int))), (32, .v (.bool ((!x20) || (decide ((k1 : Int) > 0) && decide (x22.skater ≥ y2.skater)))))], [(1, .box [.v (.int .i64 sA.best), .s (List.map encLine sA.lines)]), (4, .box [.v (.int .i64 y2.skater), .s (List.map encInt y2.events), .s (List.map encInt y2.points)])], 46, []⟩ : St)) rfl (by repeat' (first | exact trivial | refine ⟨⟨_, rfl, rfl⟩, ?_⟩)) (by repeat' (first | exact trivial | refine ⟨⟨_, rfl, rfl⟩, ?_⟩)) rfl) ?_
      refine AW.cond (b := ((!x20) || (decide ((k1 : Int) > 0) && decide (x22.skater ≥ y2.skater)))) rfl (fun hc => ?_) (fun hc => ?_)
      · replace hH := condT hc hH
        refine AW.seq ?_
        refine AW.region ?_
        refine AO.pure T rfl rfl rfl ?_
        refine AO.nil ?_
        refine AW.ret ?_
        cases someE hH
        exact ⟨trivial, _, [], rfl, .c (.c .v), by decide⟩
      · replace hH := condF hc hH
        refine AW.skip ?_
        refine AW.region ?_
        refine AO.pure T rfl rfl rfl ?_
        refine AO.pure T rfl rfl rfl ?_
        refine AO.pure T rfl rfl rfl ?_
        refine AO.val rfl rfl (len_map_ok T rfl rfl rfl) ?_
        refine AO.val rfl rfl (arw_ok rfl rfl rfl rfl) ?_
        refine AO.pure T rfl rfl rfl ?_
        refine AO.nil ?_
        refine AW.region ?_
        refine AO.val rfl rfl (ar_ok rfl rfl rfl rfl (inI_succ hlt6 hb5)) ?_
        refine AO.pure T rfl rfl rfl ?_
        refine AO.nil ?_
        refine ⟨(k1 + 1, w64 (v16 + (y2.events.length : Int))), ⟨Nat.succ_le_of_lt hlt6, (by rw [drop_succ_of hd4]; exact hH)⟩, (by have := hlt6; dsimp only; omega), ?_⟩
        exact Le.cut 0 0 rfl (by repeat' (first | exact trivial | refine ⟨⟨_, rfl, rfl⟩, ?_⟩)) (by repeat' (first | exact trivial | refine ⟨⟨_, rfl, rfl⟩, ?_⟩)) rfl

def spec_seIndex_l1 (sA : Season) (skater : Int) : Nat → Int → Option Int
  | 0, _ => none
  | k13 + 1, v19 =>
    (opt (decide (v19 < (sA.lines.length : Int))) default (getI sA.lines v19)).bind fun x21 =>
    cond (decide (v19 < (sA.lines.length : Int)) && decide (x21.skater < skater))
      (spec_seIndex_l1 sA skater k13 (w64 (v19 + 1)))
      (some v19)
def spec_seIndex_p (fuel : Nat) (sA : Season) (skater : Int) : Option Int :=
  (spec_seIndex_l1 sA skater fuel 0).bind fun v10 =>
  some v10
theorem spec_seIndex_ok (fuel : Nat) (sA : Season) (skater : Int) (r : Int) (hH : spec_seIndex_p fuel sA skater = some r) : SpecR Try.prog 107 [.g (encSeason sA), .v (.int .i64 skater)] (.v (.int .i64 r)) := by
  refine fn_ok T Try.func107 rfl (by decide) rfl ?_
  refine AW.seq ?_
  refine AW.region ?_
  refine AO.step rfl (box_ok T rfl 1 rfl rfl rfl rfl) ?_
  refine AO.pure T rfl rfl rfl ?_
  refine AO.nil ?_
  refine AW.seq ?_
  refine AW.region ?_
  refine AO.pure T rfl rfl rfl ?_
  refine AO.nil ?_
  obtain ⟨o11, hH, hK12⟩ := bindE hH
  refine AW.seqJ (fun s : Int => (⟨[(5, .v (.int .i64 s))], [], 24, []⟩ : St)) (fun s => s = o11) ?_ ?_
  · refine AW.block ?_
    refine AW.loopS (fun s : Nat × Int => (⟨[(1, .v (.int .i64 skater)), (2, .p 1 0), (5, .v (.int .i64 s.2))], [(1, .box [.v (.int .i64 sA.best), .s (List.map encLine sA.lines)])], 24, []⟩ : St)) (fun s => spec_seIndex_l1 sA skater s.1 s.2 = some o11) (fun s => s.1) (fuel, 0) hH ?_ ?_
    · exact Le.cut 0 0 rfl (by repeat' (first | exact trivial | refine ⟨⟨_, rfl, rfl⟩, ?_⟩)) (by repeat' (first | exact trivial | refine ⟨⟨_, rfl, rfl⟩, ?_⟩)) rfl
    · rintro ⟨k13, v19⟩ hH
      replace hH : spec_seIndex_l1 sA skater k13 v19 = some o11 := hH
      show AW _ _ _ (⟨[(1, .v (.int .i64 skater)), (2, .p 1 0), (5, .v (.int .i64 v19))], [(1, .box [.v (.int .i64 sA.best), .s (List.map encLine sA.lines)])], 24, []⟩ : St)
      cases k13 with
      | zero => cases (show none = some _ from hH)
      | succ k13 =>
        rw [spec_seIndex_l1] at hH
        refine AW.seq ?_
        refine AW.seq ?_
        obtain ⟨x21, hx22, hH⟩ := bindE hH
        refine AW.region ?_
        refine AO.pure T rfl rfl rfl ?_
        refine AO.pure T rfl rfl rfl ?_
        refine AO.pure T rfl rfl rfl ?_
        refine AO.val rfl rfl (len_map_ok T rfl rfl rfl) ?_
        refine AO.pure T rfl rfl rfl ?_
        refine AO.pure T rfl rfl rfl ?_
        refine AO.pureG T [] rfl trivial rfl rfl ?_
        refine AO.pureG T [12] rfl ⟨fun h => h, trivial⟩ rfl rfl ?_
        refine AO.pureG T [] rfl trivial rfl rfl ?_
        refine AO.guard [13, 14] rfl ⟨fun h => h, fun h => h, trivial⟩ (fun hg => ix_map_ok T rfl rfl rfl rfl rfl (optT hx22 hg) rfl) rfl ?_
        refine AO.pureG T [15] rfl ⟨fun h => h, trivial⟩ rfl rfl ?_
        refine AO.pureG T [16] rfl ⟨fun h => h, trivial⟩ rfl rfl ?_
        refine AO.pureG T [] rfl trivial rfl rfl ?_
        refine AO.pureG T [17, 18] rfl ⟨fun h => h, fun h => h, trivial⟩ rfl rfl ?_
        refine AO.val rfl rfl (pick_and rfl rfl rfl rfl) ?_
        refine AO.nil ?_
        refine AW.cond (b := (decide (v19 < (sA.lines.length : Int)) && decide (x21.skater < skater))) rfl (fun hc => ?_) (fun hc => ?_)
        · replace hH := condT hc hH
          refine AW.skip ?_
          refine AW.block ?_
          refine AW.region ?_
          refine AO.pure T rfl rfl rfl ?_
          refine AO.val rfl rfl (arw_ok rfl rfl rfl rfl) ?_
          refine AO.pure T rfl rfl rfl ?_
          refine AO.nil ?_
          refine ⟨(k13, w64 (v19 + 1)), hH, Nat.lt_succ_self _, ?_⟩
          exact Le.cut 0 0 rfl (by repeat' (first | exact trivial | refine ⟨⟨_, rfl, rfl⟩, ?_⟩)) (by repeat' (first | exact trivial | refine ⟨⟨_, rfl, rfl⟩, ?_⟩)) rfl
        · replace hH := condF hc hH
          refine AW.exit ?_
          refine ⟨_, someE hH, ?_⟩
          exact Le.cut 0 0 rfl (by repeat' (first | exact trivial | refine ⟨⟨_, rfl, rfl⟩, ?_⟩)) (by repeat' (first | exact trivial | refine ⟨⟨_, rfl, rfl⟩, ?_⟩)) rfl
  · rintro v10 hs
    subst hs
    replace hH := hK12
    try dsimp only [flow, flowE] at hH
    show AW _ _ _ (⟨[(5, .v (.int .i64 v10))], [], 24, []⟩ : St)
    refine AW.seq ?_
    refine AW.region ?_
    refine AO.pure T rfl rfl rfl ?_
    refine AO.pure T rfl rfl rfl ?_
    refine AO.nil ?_
    refine AW.ret ?_
    cases someE hH
    exact ⟨trivial, _, [], rfl, .c (.c .v), by decide⟩

def spec_seHas_p (fuel : Nat) (sA : Season) (skater : Int) : Option Int :=
  (spec_seIndex_p fuel sA skater).bind fun x1 =>
  (opt (!(x1 == (sA.lines.length : Int))) default (getI sA.lines x1)).bind fun x3 =>
  cond ((x1 == (sA.lines.length : Int)) || (x3.skater != skater))
    (some (-1))
    (some x1)
theorem spec_seHas_ok (fuel : Nat) (sA : Season) (skater : Int) (r : Int) (hH : spec_seHas_p fuel sA skater = some r) : SpecR Try.prog 67 [.g (encSeason sA), .v (.int .i64 skater)] (.v (.int .i64 r)) := by
  refine fn_ok T Try.func67 rfl (by decide) rfl ?_
  refine AW.seq ?_
  refine AW.region ?_
  refine AO.step rfl (box_ok T rfl 1 rfl rfl rfl rfl) ?_
  refine AO.pure T rfl rfl rfl ?_
  refine AO.nil ?_
  refine AW.seq ?_
  obtain ⟨x1, hx2, hH⟩ := bindE hH
  refine AW.region ?_
  refine AO.pure T rfl rfl rfl ?_
  refine AO.pure T rfl rfl rfl ?_
  refine AO.val rfl rfl (callV_ok rfl rfl rfl rfl (spec_seIndex_ok fuel _ _ _ (hx2)) rfl) ?_
  refine AO.pure T rfl rfl rfl ?_
  refine AO.nil ?_
  refine AW.seq ?_
  refine AW.seq ?_
  obtain ⟨x3, hx4, hH⟩ := bindE hH
  refine AW.region ?_
  refine AO.pure T rfl rfl rfl ?_
  refine AO.pure T rfl rfl rfl ?_
  refine AO.pure T rfl rfl rfl ?_
  refine AO.val rfl rfl (len_map_ok T rfl rfl rfl) ?_
  refine AO.pure T rfl rfl rfl ?_
  refine AO.pure T rfl rfl rfl ?_
  refine AO.pureG T [] rfl trivial rfl rfl ?_
  refine AO.pureG T [15] rfl ⟨fun h => h, trivial⟩ rfl rfl ?_
  refine AO.pureG T [] rfl trivial rfl rfl ?_
  refine AO.guard [16, 17] rfl ⟨fun h => h, fun h => h, trivial⟩ (fun hg => ix_map_ok T rfl rfl rfl rfl rfl (optT hx4 hg) rfl) rfl ?_
  refine AO.pureG T [18] rfl ⟨fun h => h, trivial⟩ rfl rfl ?_
  refine AO.pureG T [19] rfl ⟨fun h => h, trivial⟩ rfl rfl ?_
  refine AO.pureG T [] rfl trivial rfl rfl ?_
  refine AO.pureG T [20, 21] rfl ⟨fun h => h, fun h => h, trivial⟩ rfl rfl ?_
  refine AO.val rfl rfl (pick_or rfl rfl rfl rfl) ?_
  refine AO.nil ?_
  refine AW.cond (b := ((x1 == (sA.lines.length : Int)) || (x3.skater != skater))) rfl (fun hc => ?_) (fun hc => ?_)
  · replace hH := condT hc hH
    refine AW.seq ?_
    refine AW.region ?_
    refine AO.pure T rfl rfl rfl ?_
    refine AO.nil ?_
    refine AW.ret ?_
    cases someE hH
    exact ⟨trivial, _, [], rfl, .c (.c .v), by decide⟩
  · replace hH := condF hc hH
    refine AW.skip ?_
    refine AW.seq ?_
    refine AW.region ?_
    refine AO.pure T rfl rfl rfl ?_
    refine AO.pure T rfl rfl rfl ?_
    refine AO.nil ?_
    refine AW.ret ?_
    cases someE hH
    exact ⟨trivial, _, [], rfl, .c (.c .v), by decide⟩

def spec_l1Own_p (l : List Int) : Option (List Int) :=
  (need (fitsB 8 l.length)).bind fun u1 =>
  some l
theorem spec_l1Own_ok (l : List Int) (r : (List Int)) (hH : spec_l1Own_p l = some r) : SpecR Try.prog 82 [.s (List.map encInt l)] (.w 1 (r.map encInt)) := by
  refine fn_ok T Try.func82 rfl (by decide) rfl ?_
  refine AW.seq ?_
  refine AW.region ?_
  refine AO.pure T rfl rfl rfl ?_
  refine AO.nil ?_
  refine AW.seq ?_
  obtain ⟨u1, hx2, hH⟩ := bindE hH
  refine AW.region ?_
  refine AO.step rfl (mk0_ok T rfl rfl rfl rfl) ?_
  refine AO.pure T rfl rfl rfl ?_
  refine AO.step rfl (app_ws_map T rfl 1 rfl rfl rfl rfl rfl (by decide) (by decide) rfl rfl (fun _ => rfl) (needT (hx2)) rfl rfl) ?_
  refine AO.pure T rfl rfl rfl ?_
  refine AO.nil ?_
  refine AW.ret ?_
  cases someE hH
  exact ⟨trivial, _, [1], rfl, .c (.c (.rowR rfl)), by decide⟩

def spec_seInsert_p (l : List Int) (k : Int) (n : Int) : Option (List Int) :=
  (sliceHi l k).bind fun x1 =>
  (spec_l1Own_p x1).bind fun x3 =>
  (need (fitsB 8 (x3.length + ([n]).length))).bind fun u5 =>
  (sliceLo l k).bind fun x7 =>
  (need (fitsB 8 (((x3 ++ [n])).length + x7.length))).bind fun u9 =>
  some ((x3 ++ [n]) ++ x7)
theorem spec_seInsert_ok (l : List Int) (k : Int) (n : Int) (r : (List Int)) (hH : spec_seInsert_p l k n = some r) : SpecR Try.prog 83 [.s (List.map encInt l), .v (.int .i64 k), .v (.int .i64 n)] (.w 1 (r.map encInt)) := by
  refine fn_ok T Try.func83 rfl (by decide) rfl ?_
  refine AW.seq ?_
  refine AW.region ?_
  refine AO.pure T rfl rfl rfl ?_
  refine AO.nil ?_
  refine AW.seq ?_
  obtain ⟨x1, hx2, hH⟩ := bindE hH
  obtain ⟨x3, hx4, hH⟩ := bindE hH
  obtain ⟨u5, hx6, hH⟩ := bindE hH
  obtain ⟨x7, hx8, hH⟩ := bindE hH
  obtain ⟨u9, hx10, hH⟩ := bindE hH
  refine AW.drawn 10 1 [] mix (by kernel_rfl) rfl ?_
  refine AD.pure T rfl rfl rfl ?_
  refine AD.pure T rfl rfl rfl ?_
  refine AD.val rfl rfl (slice_hi_map_ok T rfl rfl rfl rfl rfl (hx2) (fun _ => rfl)) ?_
  refine AD.q (FStep.call rfl rfl rfl rfl rfl (spec_l1Own_ok _ _ (hx4)) rfl rfl) (impT_names _ _) (impT_le _ _) rfl ?_
  refine AD.pure T rfl rfl rfl ?_
  refine AD.q (FStep.mk T (f := encInt) (l := [n]) rfl rfl rfl rfl rfl rfl rfl rfl rfl (fun _ => rfl) rfl rfl rfl rfl) (by simp [namesIn]) (Nat.le_succ _) rfl ?_
  refine AD.k rfl rfl (FStep.app_rv T rfl rfl rfl rfl rfl rfl rfl (by decide) rfl rfl rfl rfl (fun _ => rfl) (needT (hx6)) rfl) rfl rfl rfl ?_
  refine AD.pure T rfl rfl rfl ?_
  refine AD.pure T rfl rfl rfl ?_
  refine AD.val rfl rfl (slice_lo_map_ok T rfl rfl rfl rfl rfl (hx8) (fun _ => rfl)) ?_
  refine AD.nil ?_
  refine AO.step rfl (app_rs_map T rfl 4 rfl rfl rfl rfl rfl (by decide) (by decide) rfl rfl rfl (fun _ => rfl) (needT (hx10)) rfl rfl) ?_
  refine AO.pure T rfl rfl rfl ?_
  refine AO.nil ?_
  refine AW.ret ?_
  cases someE hH
  exact ⟨trivial, _, [4], rfl, .c (.c (.rowR rfl)), by decide⟩

def spec_MostStill_l2 (most : Int) (v272 : List Int) : Nat → Int → Option Int
  | 0, _ => none
  | k312 + 1, v318 =>
    (opt (decide (v318 < (v272.length : Int))) default (getI v272 v318)).bind fun x320 =>
    cond (decide (v318 < (v272.length : Int)) && decide (x320 ≥ most))
      (spec_MostStill_l2 most v272 k312 (w64 (v318 + 1)))
      (some v318)
def spec_MostStill_l1 (most : Int) (fuel : Nat) : Nat → Int → List Int → Option (List Int)
  | 0, _, _ => none
  | k170 + 1, v271, v272 =>
    cond (decide (v271 > 0))
      (((spec_MostStill_l2 most v272 fuel 0).bind fun v309 =>
      (spec_seInsert_p v272 v309 most).bind fun x322 =>
      some x322).bind fun v297 =>
      spec_MostStill_l1 most fuel k170 (w64 (v271 - 1)) v297)
      (some v272)
def spec_MostStill_l3 (sA : Season) : List Int → Nat → Int → Option ((Int × Bool))
  | [], k324, v331 =>
    some (v331, true)
  | y325 :: ys326, k324, v331 =>
    cond (decide ((k324 : Int) < sA.best))
      (spec_MostStill_l3 sA ys326 (k324 + 1) (w64 (v331 + y325)))
      (spec_MostStill_l3 sA ys326 (k324 + 1) v331)
def spec_MostStill_l5 (most : Int) (v542 : List Int) : Nat → Int → Option Int
  | 0, _ => none
  | k582 + 1, v588 =>
    (opt (decide (v588 < (v542.length : Int))) default (getI v542 v588)).bind fun x590 =>
    cond (decide (v588 < (v542.length : Int)) && decide (x590 ≥ most))
      (spec_MostStill_l5 most v542 k582 (w64 (v588 + 1)))
      (some v588)
def spec_MostStill_l4 (most : Int) (fuel : Nat) : Nat → Int → List Int → Option (List Int)
  | 0, _, _ => none
  | k464 + 1, v541, v542 =>
    cond (decide (v541 > 0))
      (((spec_MostStill_l5 most v542 fuel 0).bind fun v579 =>
      (spec_seInsert_p v542 v579 most).bind fun x592 =>
      some x592).bind fun v567 =>
      spec_MostStill_l4 most fuel k464 (w64 (v541 - 1)) v567)
      (some v542)
def spec_MostStill_l6 (sA : Season) : List Int → Nat → Int → Option ((Int × Bool))
  | [], k594, v601 =>
    some (v601, true)
  | y595 :: ys596, k594, v601 =>
    cond (decide ((k594 : Int) < sA.best))
      (spec_MostStill_l6 sA ys596 (k594 + 1) (w64 (v601 + y595)))
      (spec_MostStill_l6 sA ys596 (k594 + 1) v601)
def spec_MostStill_p (fuel : Nat) (sA : Season) (skater : Int) (events : Int) (most : Int) : Option (Int × Bool) :=
  (spec_seGood_p sA).bind fun x1 =>
  (opt (!(!x1)) default (spec_l1In_p skater 1 999)).bind fun x3 =>
  (opt (!((!x1) || (!x3))) default (spec_l1In_p events 0 20)).bind fun x5 =>
  (opt (!(((!x1) || (!x3)) || (!x5))) default (spec_l1In_p most 0 100000)).bind fun x7 =>
  cond ((((!x1) || (!x3)) || (!x5)) || (!x7))
    (some (0, false))
    ((spec_seHas_p fuel sA skater).bind fun x9 =>
    cond (decide (x9 ≥ 0))
      ((getI sA.lines x9).bind fun x11 =>
      (spec_l1Own_p x11.points).bind fun x13 =>
      (spec_MostStill_l1 most fuel fuel events x13).bind fun v167 =>
      spec_MostStill_l3 sA v167 0 0)
      ((spec_MostStill_l4 most fuel fuel events []).bind fun v461 =>
      spec_MostStill_l6 sA v461 0 0))
theorem spec_MostStill_ok (fuel : Nat) (sA : Season) (skater : Int) (events : Int) (most : Int) (r : (Int × Bool)) (hH : spec_MostStill_p fuel sA skater events most = some r) : SpecR Try.prog 37 [.g (encSeason sA), .v (.int .i64 skater), .v (.int .i64 events), .v (.int .i64 most)] (.t [.v (.int .i64 r.1), .v (.bool r.2)]) := by
  refine fn_ok T Try.func37 rfl (by decide) rfl ?_
  refine AW.seq ?_
  refine AW.region ?_
  refine AO.step rfl (box_ok T rfl 1 rfl rfl rfl rfl) ?_
  refine AO.pure T rfl rfl rfl ?_
  refine AO.pure T rfl rfl rfl ?_
  refine AO.nil ?_
  refine AW.seq ?_
  refine AW.seq ?_
  obtain ⟨x1, hx2, hH⟩ := bindE hH
  obtain ⟨x3, hx4, hH⟩ := bindE hH
  obtain ⟨x5, hx6, hH⟩ := bindE hH
  obtain ⟨x7, hx8, hH⟩ := bindE hH
  refine AW.region ?_
  refine AO.pure T rfl rfl rfl ?_
  refine AO.val rfl rfl (callV_ok rfl rfl rfl rfl (spec_seGood_ok _ _ (hx2)) rfl) ?_
  refine AO.pure T rfl rfl rfl ?_
  refine AO.pure T rfl rfl rfl ?_
  refine AO.pureG T [] rfl trivial rfl rfl ?_
  refine AO.guard [20] rfl ⟨fun h => h, trivial⟩ (fun hg => callV_ok rfl rfl rfl rfl (spec_l1In_ok _ _ _ _ (optT hx4 hg)) rfl) rfl ?_
  refine AO.pureG T [21] rfl ⟨fun h => h, trivial⟩ rfl rfl ?_
  refine AO.val rfl rfl (pick_or rfl rfl rfl rfl) ?_
  refine AO.pure T rfl rfl rfl ?_
  refine AO.pureG T [] rfl trivial rfl rfl ?_
  refine AO.guard [25] rfl ⟨fun h => h, trivial⟩ (fun hg => callV_ok rfl rfl rfl rfl (spec_l1In_ok _ _ _ _ (optT hx6 hg)) rfl) rfl ?_
  refine AO.pureG T [26] rfl ⟨fun h => h, trivial⟩ rfl rfl ?_
  refine AO.val rfl rfl (pick_or rfl rfl rfl rfl) ?_
  refine AO.pure T rfl rfl rfl ?_
  refine AO.pureG T [] rfl trivial rfl rfl ?_
  refine AO.guard [30] rfl ⟨fun h => h, trivial⟩ (fun hg => callV_ok rfl rfl rfl rfl (spec_l1In_ok _ _ _ _ (optT hx8 hg)) rfl) rfl ?_
  refine AO.pureG T [31] rfl ⟨fun h => h, trivial⟩ rfl rfl ?_
  refine AO.val rfl rfl (pick_or rfl rfl rfl rfl) ?_
  refine AO.nil ?_
  refine AW.cond (b := ((((!x1) || (!x3)) || (!x5)) || (!x7))) rfl (fun hc => ?_) (fun hc => ?_)
  · replace hH := condT hc hH
    refine AW.seq ?_
    refine AW.region ?_
    refine AO.pure T rfl rfl rfl ?_
    refine AO.pure T rfl rfl rfl ?_
    refine AO.nil ?_
    refine AW.ret ?_
    cases someE hH
    exact ⟨trivial, _, [], rfl, .t (expLG_cons (.c .v) (expLG_cons (.c .v) (expLG_nil))), by decide⟩
  · replace hH := condF hc hH
    refine AW.skip ?_
    refine AW.seq ?_
    refine AW.region ?_
    refine AO.pure T rfl rfl rfl ?_
    refine AO.nil ?_
    refine AW.seq ?_
    refine AW.seq ?_
    obtain ⟨x9, hx10, hH⟩ := bindE hH
    refine AW.region ?_
    refine AO.pure T rfl rfl rfl ?_
    refine AO.pure T rfl rfl rfl ?_
    refine AO.val rfl rfl (callV_ok rfl rfl rfl rfl (spec_seHas_ok fuel _ _ _ (hx10)) rfl) ?_
    refine AO.pure T rfl rfl rfl ?_
    refine AO.nil ?_
    refine AW.le (Le.cut 0 0 (σ' := (⟨[(2, .v (.int .i64 events)), (3, .v (.int .i64 most)), (4, .p 1 0), (10, .w 0 []), (11, .v (.int .i64 x9))], [(1, .box [.v (.int .i64 sA.best), .s (List.map encLine sA.lines)])], 84, []⟩ : St)) rfl (by repeat' (first | exact trivial | refine ⟨⟨_, rfl, rfl⟩, ?_⟩)) (by repeat' (first | exact trivial | refine ⟨⟨_, rfl, rfl⟩, ?_⟩)) rfl) ?_
    refine AW.seq ?_
    refine AW.region ?_
    refine AO.pure T rfl rfl rfl ?_
    refine AO.pure T rfl rfl rfl ?_
    refine AO.nil ?_
    refine AW.cond (b := decide (x9 ≥ 0)) rfl (fun hc => ?_) (fun hc => ?_)
    · replace hH := condT hc hH
      obtain ⟨x11, hx12, hH⟩ := bindE hH
      obtain ⟨x13, hx14, hH⟩ := bindE hH
      refine AW.region ?_
      refine AO.pure T rfl rfl rfl ?_
      refine AO.pure T rfl rfl rfl ?_
      refine AO.pure T rfl rfl rfl ?_
      refine AO.val rfl rfl (ix_map_ok T rfl rfl rfl rfl rfl (hx12) rfl) ?_
      refine AO.pure T rfl rfl rfl ?_
      refine AO.pure T rfl rfl rfl ?_
      refine AO.step rfl (call_ok rfl 2 rfl rfl rfl (spec_l1Own_ok _ _ (hx14)) rfl rfl rfl) ?_
      refine AO.pure T rfl rfl rfl ?_
      refine AO.nil ?_
      obtain ⟨o168, hH, hK169⟩ := bindE hH
      refine AW.seqJ (fun s : List Int => (⟨[(4, .p 1 0), (10, .R 2)], [(1, .box [.v (.int .i64 sA.best), .s (List.map encLine sA.lines)]), (2, .row 1 (List.map encInt s))], 84, []⟩ : St)) (fun s => s = o168) ?_ ?_
      · refine AW.block ?_
        refine AW.loopS (fun s : Nat × Int × (List Int) => (⟨[(2, .v (.int .i64 s.2.1)), (3, .v (.int .i64 most)), (4, .p 1 0), (10, .R 2)], [(1, .box [.v (.int .i64 sA.best), .s (List.map encLine sA.lines)]), (2, .row 1 (List.map encInt s.2.2))], 84, []⟩ : St)) (fun s => spec_MostStill_l1 most fuel s.1 s.2.1 s.2.2 = some o168) (fun s => s.1) (fuel, events, x13) hH ?_ ?_
        · exact Le.cut 0 0 rfl (by repeat' (first | exact trivial | refine ⟨⟨_, rfl, rfl⟩, ?_⟩)) (by repeat' (first | exact trivial | refine ⟨⟨_, rfl, rfl⟩, ?_⟩)) rfl
        · rintro ⟨k170, v271, v272⟩ hH
          replace hH : spec_MostStill_l1 most fuel k170 v271 v272 = some o168 := hH
          show AW _ _ _ (⟨[(2, .v (.int .i64 v271)), (3, .v (.int .i64 most)), (4, .p 1 0), (10, .R 2)], [(1, .box [.v (.int .i64 sA.best), .s (List.map encLine sA.lines)]), (2, .row 1 (List.map encInt v272))], 84, []⟩ : St)
          cases k170 with
          | zero => cases (show none = some _ from hH)
          | succ k170 =>
            rw [spec_MostStill_l1] at hH
            refine AW.seq ?_
            refine AW.seq ?_
            refine AW.region ?_
            refine AO.pure T rfl rfl rfl ?_
            refine AO.pure T rfl rfl rfl ?_
            refine AO.nil ?_
            refine AW.cond (b := decide (v271 > 0)) rfl (fun hc => ?_) (fun hc => ?_)
            · replace hH := condT hc hH
              refine AW.skip ?_
              obtain ⟨o298, hH, hK299⟩ := bindE hH
              refine AW.seqJ (fun s : List Int => (⟨[(2, .v (.int .i64 v271)), (3, .v (.int .i64 most)), (4, .p 1 0), (10, .R 13)], [(1, .box [.v (.int .i64 sA.best), .s (List.map encLine sA.lines)]), (13, .row 1 (List.map encInt s))], 84, []⟩ : St)) (fun s => s = o298) ?_ ?_
              · refine AW.block ?_
                refine AW.seq ?_
                refine AW.region ?_
                refine AO.pure T rfl rfl rfl ?_
                refine AO.nil ?_
                obtain ⟨o310, hH, hK311⟩ := bindE hH
                refine AW.seqJ (fun s : Int => (⟨[(2, .v (.int .i64 v271)), (3, .v (.int .i64 most)), (4, .p 1 0), (10, .R 2), (12, .v (.int .i64 s))], [(1, .box [.v (.int .i64 sA.best), .s (List.map encLine sA.lines)]), (2, .row 1 (List.map encInt v272))], 84, []⟩ : St)) (fun s => s = o310) ?_ ?_
                · refine AW.block ?_
                  refine AW.loopS (fun s : Nat × Int => (⟨[(2, .v (.int .i64 v271)), (3, .v (.int .i64 most)), (4, .p 1 0), (10, .R 2), (12, .v (.int .i64 s.2))], [(1, .box [.v (.int .i64 sA.best), .s (List.map encLine sA.lines)]), (2, .row 1 (List.map encInt v272))], 84, []⟩ : St)) (fun s => spec_MostStill_l2 most v272 s.1 s.2 = some o310) (fun s => s.1) (fuel, 0) hH ?_ ?_
                  · exact Le.cut 0 0 rfl (by repeat' (first | exact trivial | refine ⟨⟨_, rfl, rfl⟩, ?_⟩)) (by repeat' (first | exact trivial | refine ⟨⟨_, rfl, rfl⟩, ?_⟩)) rfl
                  · rintro ⟨k312, v318⟩ hH
                    replace hH : spec_MostStill_l2 most v272 k312 v318 = some o310 := hH
                    show AW _ _ _ (⟨[(2, .v (.int .i64 v271)), (3, .v (.int .i64 most)), (4, .p 1 0), (10, .R 2), (12, .v (.int .i64 v318))], [(1, .box [.v (.int .i64 sA.best), .s (List.map encLine sA.lines)]), (2, .row 1 (List.map encInt v272))], 84, []⟩ : St)
                    cases k312 with
                    | zero => cases (show none = some _ from hH)
                    | succ k312 =>
                      rw [spec_MostStill_l2] at hH
                      refine AW.seq ?_
                      refine AW.seq ?_
                      obtain ⟨x320, hx321, hH⟩ := bindE hH
                      refine AW.region ?_
                      refine AO.pure T rfl rfl rfl ?_
                      refine AO.pure T rfl rfl rfl ?_
                      refine AO.val rfl rfl (len_row_ok T rfl rfl rfl rfl) ?_
                      refine AO.pure T rfl rfl rfl ?_
                      refine AO.pure T rfl rfl rfl ?_
                      refine AO.pureG T [] rfl trivial rfl rfl ?_
                      refine AO.pureG T [] rfl trivial rfl rfl ?_
                      refine AO.guard [55, 56] rfl ⟨fun h => h, fun h => h, trivial⟩ (fun hg => ix_row_ok T rfl rfl rfl rfl rfl rfl (optT hx321 hg)) rfl ?_
                      refine AO.guard [57] rfl ⟨fun h => h, trivial⟩ (fun hg => load_row_ok T rfl rfl rfl rfl (getI_get (optT hx321 hg)) rfl rfl rfl) rfl ?_
                      refine AO.pureG T [] rfl trivial rfl rfl ?_
                      refine AO.pureG T [58, 59] rfl ⟨fun h => h, fun h => h, trivial⟩ rfl rfl ?_
                      refine AO.val rfl rfl (pick_and rfl rfl rfl rfl) ?_
                      refine AO.nil ?_
                      refine AW.cond (b := (decide (v318 < (v272.length : Int)) && decide (x320 ≥ most))) rfl (fun hc => ?_) (fun hc => ?_)
                      · replace hH := condT hc hH
                        refine AW.skip ?_
                        refine AW.block ?_
                        refine AW.region ?_
                        refine AO.pure T rfl rfl rfl ?_
                        refine AO.val rfl rfl (arw_ok rfl rfl rfl rfl) ?_
                        refine AO.pure T rfl rfl rfl ?_
                        refine AO.nil ?_
                        refine ⟨(k312, w64 (v318 + 1)), hH, Nat.lt_succ_self _, ?_⟩
                        exact Le.cut 0 0 rfl (by repeat' (first | exact trivial | refine ⟨⟨_, rfl, rfl⟩, ?_⟩)) (by repeat' (first | exact trivial | refine ⟨⟨_, rfl, rfl⟩, ?_⟩)) rfl
                      · replace hH := condF hc hH
                        refine AW.exit ?_
                        refine ⟨_, someE hH, ?_⟩
                        exact Le.cut 0 0 rfl (by repeat' (first | exact trivial | refine ⟨⟨_, rfl, rfl⟩, ?_⟩)) (by repeat' (first | exact trivial | refine ⟨⟨_, rfl, rfl⟩, ?_⟩)) rfl
                · rintro v309 hs
                  subst hs
                  replace hH := hK311
                  try dsimp only [flow, flowE] at hH
                  show AW _ _ _ (⟨[(2, .v (.int .i64 v271)), (3, .v (.int .i64 most)), (4, .p 1 0), (10, .R 2), (12, .v (.int .i64 v309))], [(1, .box [.v (.int .i64 sA.best), .s (List.map encLine sA.lines)]), (2, .row 1 (List.map encInt v272))], 84, []⟩ : St)
                  obtain ⟨x322, hx323, hH⟩ := bindE hH
                  refine AW.region ?_
                  refine AO.pure T rfl rfl rfl ?_
                  refine AO.pure T rfl rfl rfl ?_
                  refine AO.pure T rfl rfl rfl ?_
                  refine AO.step rfl (callL_ok rfl 14 rfl rfl (es := [.s (List.map encInt v272), .v (.int .i64 v309), .v (.int .i64 most)]) (by exact ⟨(.rowR rfl (.map fun y => .vs rfl)), .free rfl, .free rfl, trivial⟩) (spec_seInsert_ok _ _ _ _ (hx323)) (zfree_map (fun y => (.cons (zfree_v _) .nil))) rfl rfl rfl) ?_
                  refine AO.pure T rfl rfl rfl ?_
                  refine AO.nil ?_
                  refine ⟨_, someE hH, ?_⟩
                  exact Le.cut 14 13 rfl (by repeat' (first | exact trivial | refine ⟨⟨_, rfl, rfl⟩, ?_⟩)) (by repeat' (first | exact trivial | refine ⟨⟨_, rfl, rfl⟩, ?_⟩)) rfl
              · rintro v297 hs
                subst hs
                replace hH := hK299
                try dsimp only [flow, flowE] at hH
                show AW _ _ _ (⟨[(2, .v (.int .i64 v271)), (3, .v (.int .i64 most)), (4, .p 1 0), (10, .R 13)], [(1, .box [.v (.int .i64 sA.best), .s (List.map encLine sA.lines)]), (13, .row 1 (List.map encInt v297))], 84, []⟩ : St)
                refine AW.region ?_
                refine AO.pure T rfl rfl rfl ?_
                refine AO.val rfl rfl (arw_ok rfl rfl rfl rfl) ?_
                refine AO.pure T rfl rfl rfl ?_
                refine AO.nil ?_
                refine ⟨(k170, w64 (v271 - 1), v297), hH, Nat.lt_succ_self _, ?_⟩
                exact Le.cut 13 2 rfl (by repeat' (first | exact trivial | refine ⟨⟨_, rfl, rfl⟩, ?_⟩)) (by repeat' (first | exact trivial | refine ⟨⟨_, rfl, rfl⟩, ?_⟩)) rfl
            · replace hH := condF hc hH
              refine AW.exit ?_
              refine ⟨_, someE hH, ?_⟩
              exact Le.cut 0 0 rfl (by repeat' (first | exact trivial | refine ⟨⟨_, rfl, rfl⟩, ?_⟩)) (by repeat' (first | exact trivial | refine ⟨⟨_, rfl, rfl⟩, ?_⟩)) rfl
      · rintro v167 hs
        subst hs
        replace hH := hK169
        try dsimp only [flow, flowE] at hH
        show AW _ _ _ (⟨[(4, .p 1 0), (10, .R 2)], [(1, .box [.v (.int .i64 sA.best), .s (List.map encLine sA.lines)]), (2, .row 1 (List.map encInt v167))], 84, []⟩ : St)
        refine AW.seq ?_
        refine AW.region ?_
        refine AO.pure T rfl rfl rfl ?_
        refine AO.nil ?_
        refine AW.seq ?_
        refine AW.seq ?_
        refine AW.region ?_
        refine AO.pure T rfl rfl rfl ?_
        refine AO.val rfl rfl (len_row_ok T rfl rfl rfl rfl) ?_
        refine AO.pure T rfl rfl rfl ?_
        refine AO.nil ?_
        refine AW.block ?_
        refine AW.loopS (fun s : Nat × Int => (⟨[(4, .p 1 0), (13, .v (.int .i64 s.2)), (68, .R 2), (69, .v (.int .i64 (v167.length : Int))), (70, .v (.int .i64 (s.1 : Int)))], [(1, .box [.v (.int .i64 sA.best), .s (List.map encLine sA.lines)]), (2, .row 1 (List.map encInt v167))], 84, []⟩ : St)) (fun s => s.1 ≤ v167.length ∧ spec_MostStill_l3 sA (v167.drop s.1) s.1 s.2 = some r) (fun s => v167.length - s.1) (0, 0) ⟨Nat.zero_le _, hH⟩ ?_ ?_
        · exact Le.cut 0 0 rfl (by repeat' (first | exact trivial | refine ⟨⟨_, rfl, rfl⟩, ?_⟩)) (by repeat' (first | exact trivial | refine ⟨⟨_, rfl, rfl⟩, ?_⟩)) rfl
        · rintro ⟨k324, v331⟩ ⟨hk, hH⟩
          replace hH : spec_MostStill_l3 sA (v167.drop k324) k324 v331 = some r := hH
          show AW _ _ _ (⟨[(4, .p 1 0), (13, .v (.int .i64 v331)), (68, .R 2), (69, .v (.int .i64 (v167.length : Int))), (70, .v (.int .i64 (k324 : Int)))], [(1, .box [.v (.int .i64 sA.best), .s (List.map encLine sA.lines)]), (2, .row 1 (List.map encInt v167))], 84, []⟩ : St)
          refine AW.boundR (id := 2) (l := v167) rfl (fun hb328 => ?_)
          cases hd327 : v167.drop k324 with
          | nil =>
            rw [hd327] at hH
            rw [spec_MostStill_l3] at hH
            have hlt329 := drop_ge hd327
            refine AW.seq ?_
            refine AW.region ?_
            refine AO.pure T rfl rfl rfl ?_
            refine AO.nil ?_
            refine AW.seq ?_
            refine AW.condF' (b := decide ((k324 : Int) < (v167.length : Int))) rfl (rngF hlt329) ?_
            refine AW.exit ?_
            refine AW.seq ?_
            refine AW.region ?_
            refine AO.pure T rfl rfl rfl ?_
            refine AO.pure T rfl rfl rfl ?_
            refine AO.pure T rfl rfl rfl ?_
            refine AO.nil ?_
            refine AW.ret ?_
            cases someE hH
            exact ⟨trivial, _, [], rfl, .t (expLG_cons (.c .v) (expLG_cons (.c .v) (expLG_nil))), by decide⟩
          | cons y325 ys326 =>
            rw [hd327] at hH
            rw [spec_MostStill_l3] at hH
            have hlt329 := drop_lt hd327
            refine AW.seq ?_
            refine AW.region ?_
            refine AO.pure T rfl rfl rfl ?_
            refine AO.nil ?_
            refine AW.seq ?_
            refine AW.condT' (b := decide ((k324 : Int) < (v167.length : Int))) rfl (rngT hlt329) ?_
            refine AW.skip ?_
            refine AW.seq ?_
            refine AW.block ?_
            refine AW.seq ?_
            refine AW.region ?_
            refine AO.pure T rfl rfl rfl ?_
            refine AO.val rfl rfl (ix_row_ok T rfl rfl rfl rfl rfl rfl (getI_drop hd327)) ?_
            refine AO.val rfl rfl (load_row_ok T rfl rfl rfl rfl (getI_get (getI_drop hd327)) rfl rfl rfl) ?_
            refine AO.pure T rfl rfl rfl ?_
            refine AO.pure T rfl rfl rfl ?_
            refine AO.nil ?_
            refine AW.seq ?_
            refine AW.region ?_
            refine AO.pure T rfl rfl rfl ?_
            refine AO.pure T rfl rfl rfl ?_
            refine AO.pure T rfl rfl rfl ?_
            refine AO.pure T rfl rfl rfl ?_
            refine AO.nil ?_
            refine AW.cond (b := decide ((k324 : Int) < sA.best)) rfl (fun hc => ?_) (fun hc => ?_)
            · replace hH := condT hc hH
              refine AW.region ?_
              refine AO.pure T rfl rfl rfl ?_
              refine AO.pure T rfl rfl rfl ?_
              refine AO.val rfl rfl (arw_ok rfl rfl rfl rfl) ?_
              refine AO.pure T rfl rfl rfl ?_
              refine AO.nil ?_
              refine AW.region ?_
              refine AO.val rfl rfl (ar_ok rfl rfl rfl rfl (inI_succ hlt329 hb328)) ?_
              refine AO.pure T rfl rfl rfl ?_
              refine AO.nil ?_
              refine ⟨(k324 + 1, w64 (v331 + y325)), ⟨Nat.succ_le_of_lt hlt329, (by rw [drop_succ_of hd327]; exact hH)⟩, (by have := hlt329; dsimp only; omega), ?_⟩
              exact Le.cut 0 0 rfl (by repeat' (first | exact trivial | refine ⟨⟨_, rfl, rfl⟩, ?_⟩)) (by repeat' (first | exact trivial | refine ⟨⟨_, rfl, rfl⟩, ?_⟩)) rfl
            · replace hH := condF hc hH
              refine AW.skip ?_
              refine AW.region ?_
              refine AO.val rfl rfl (ar_ok rfl rfl rfl rfl (inI_succ hlt329 hb328)) ?_
              refine AO.pure T rfl rfl rfl ?_
              refine AO.nil ?_
              refine ⟨(k324 + 1, v331), ⟨Nat.succ_le_of_lt hlt329, (by rw [drop_succ_of hd327]; exact hH)⟩, (by have := hlt329; dsimp only; omega), ?_⟩
              exact Le.cut 0 0 rfl (by repeat' (first | exact trivial | refine ⟨⟨_, rfl, rfl⟩, ?_⟩)) (by repeat' (first | exact trivial | refine ⟨⟨_, rfl, rfl⟩, ?_⟩)) rfl
    · replace hH := condF hc hH
      refine AW.skip ?_
      obtain ⟨o462, hH, hK463⟩ := bindE hH
      refine AW.seqJ (fun s : List Int => (⟨[(4, .p 1 0), (10, .R 17)], [(1, .box [.v (.int .i64 sA.best), .s (List.map encLine sA.lines)]), (17, .row 1 (List.map encInt s))], 84, []⟩ : St)) (fun s => s = o462) ?_ ?_
      · refine AW.block ?_
        refine AW.loopS (fun s : Nat × Int × (List Int) => (⟨[(2, .v (.int .i64 s.2.1)), (3, .v (.int .i64 most)), (4, .p 1 0), (10, .R 23)], [(1, .box [.v (.int .i64 sA.best), .s (List.map encLine sA.lines)]), (23, .row 1 (List.map encInt s.2.2))], 84, []⟩ : St)) (fun s => spec_MostStill_l4 most fuel s.1 s.2.1 s.2.2 = some o462) (fun s => s.1) (fuel, events, []) hH ?_ ?_
        · refine Le.trans (Le.void 10 23 1 rfl rfl) ?_
          exact Le.cut 0 0 rfl (by repeat' (first | exact trivial | refine ⟨⟨_, rfl, rfl⟩, ?_⟩)) (by repeat' (first | exact trivial | refine ⟨⟨_, rfl, rfl⟩, ?_⟩)) rfl
        · rintro ⟨k464, v541, v542⟩ hH
          replace hH : spec_MostStill_l4 most fuel k464 v541 v542 = some o462 := hH
          show AW _ _ _ (⟨[(2, .v (.int .i64 v541)), (3, .v (.int .i64 most)), (4, .p 1 0), (10, .R 23)], [(1, .box [.v (.int .i64 sA.best), .s (List.map encLine sA.lines)]), (23, .row 1 (List.map encInt v542))], 84, []⟩ : St)
          cases k464 with
          | zero => cases (show none = some _ from hH)
          | succ k464 =>
            rw [spec_MostStill_l4] at hH
            refine AW.seq ?_
            refine AW.seq ?_
            refine AW.region ?_
            refine AO.pure T rfl rfl rfl ?_
            refine AO.pure T rfl rfl rfl ?_
            refine AO.nil ?_
            refine AW.cond (b := decide (v541 > 0)) rfl (fun hc => ?_) (fun hc => ?_)
            · replace hH := condT hc hH
              refine AW.skip ?_
              obtain ⟨o568, hH, hK569⟩ := bindE hH
              refine AW.seqJ (fun s : List Int => (⟨[(2, .v (.int .i64 v541)), (3, .v (.int .i64 most)), (4, .p 1 0), (10, .R 25)], [(1, .box [.v (.int .i64 sA.best), .s (List.map encLine sA.lines)]), (25, .row 1 (List.map encInt s))], 84, []⟩ : St)) (fun s => s = o568) ?_ ?_
              · refine AW.block ?_
                refine AW.seq ?_
                refine AW.region ?_
                refine AO.pure T rfl rfl rfl ?_
                refine AO.nil ?_
                obtain ⟨o580, hH, hK581⟩ := bindE hH
                refine AW.seqJ (fun s : Int => (⟨[(2, .v (.int .i64 v541)), (3, .v (.int .i64 most)), (4, .p 1 0), (10, .R 23), (12, .v (.int .i64 s))], [(1, .box [.v (.int .i64 sA.best), .s (List.map encLine sA.lines)]), (23, .row 1 (List.map encInt v542))], 84, []⟩ : St)) (fun s => s = o580) ?_ ?_
                · refine AW.block ?_
                  refine AW.loopS (fun s : Nat × Int => (⟨[(2, .v (.int .i64 v541)), (3, .v (.int .i64 most)), (4, .p 1 0), (10, .R 23), (12, .v (.int .i64 s.2))], [(1, .box [.v (.int .i64 sA.best), .s (List.map encLine sA.lines)]), (23, .row 1 (List.map encInt v542))], 84, []⟩ : St)) (fun s => spec_MostStill_l5 most v542 s.1 s.2 = some o580) (fun s => s.1) (fuel, 0) hH ?_ ?_
                  · exact Le.cut 0 0 rfl (by repeat' (first | exact trivial | refine ⟨⟨_, rfl, rfl⟩, ?_⟩)) (by repeat' (first | exact trivial | refine ⟨⟨_, rfl, rfl⟩, ?_⟩)) rfl
                  · rintro ⟨k582, v588⟩ hH
                    replace hH : spec_MostStill_l5 most v542 k582 v588 = some o580 := hH
                    show AW _ _ _ (⟨[(2, .v (.int .i64 v541)), (3, .v (.int .i64 most)), (4, .p 1 0), (10, .R 23), (12, .v (.int .i64 v588))], [(1, .box [.v (.int .i64 sA.best), .s (List.map encLine sA.lines)]), (23, .row 1 (List.map encInt v542))], 84, []⟩ : St)
                    cases k582 with
                    | zero => cases (show none = some _ from hH)
                    | succ k582 =>
                      rw [spec_MostStill_l5] at hH
                      refine AW.seq ?_
                      refine AW.seq ?_
                      obtain ⟨x590, hx591, hH⟩ := bindE hH
                      refine AW.region ?_
                      refine AO.pure T rfl rfl rfl ?_
                      refine AO.pure T rfl rfl rfl ?_
                      refine AO.val rfl rfl (len_row_ok T rfl rfl rfl rfl) ?_
                      refine AO.pure T rfl rfl rfl ?_
                      refine AO.pure T rfl rfl rfl ?_
                      refine AO.pureG T [] rfl trivial rfl rfl ?_
                      refine AO.pureG T [] rfl trivial rfl rfl ?_
                      refine AO.guard [55, 56] rfl ⟨fun h => h, fun h => h, trivial⟩ (fun hg => ix_row_ok T rfl rfl rfl rfl rfl rfl (optT hx591 hg)) rfl ?_
                      refine AO.guard [57] rfl ⟨fun h => h, trivial⟩ (fun hg => load_row_ok T rfl rfl rfl rfl (getI_get (optT hx591 hg)) rfl rfl rfl) rfl ?_
                      refine AO.pureG T [] rfl trivial rfl rfl ?_
                      refine AO.pureG T [58, 59] rfl ⟨fun h => h, fun h => h, trivial⟩ rfl rfl ?_
                      refine AO.val rfl rfl (pick_and rfl rfl rfl rfl) ?_
                      refine AO.nil ?_
                      refine AW.cond (b := (decide (v588 < (v542.length : Int)) && decide (x590 ≥ most))) rfl (fun hc => ?_) (fun hc => ?_)
                      · replace hH := condT hc hH
                        refine AW.skip ?_
                        refine AW.block ?_
                        refine AW.region ?_
                        refine AO.pure T rfl rfl rfl ?_
                        refine AO.val rfl rfl (arw_ok rfl rfl rfl rfl) ?_
                        refine AO.pure T rfl rfl rfl ?_
                        refine AO.nil ?_
                        refine ⟨(k582, w64 (v588 + 1)), hH, Nat.lt_succ_self _, ?_⟩
                        exact Le.cut 0 0 rfl (by repeat' (first | exact trivial | refine ⟨⟨_, rfl, rfl⟩, ?_⟩)) (by repeat' (first | exact trivial | refine ⟨⟨_, rfl, rfl⟩, ?_⟩)) rfl
                      · replace hH := condF hc hH
                        refine AW.exit ?_
                        refine ⟨_, someE hH, ?_⟩
                        exact Le.cut 0 0 rfl (by repeat' (first | exact trivial | refine ⟨⟨_, rfl, rfl⟩, ?_⟩)) (by repeat' (first | exact trivial | refine ⟨⟨_, rfl, rfl⟩, ?_⟩)) rfl
                · rintro v579 hs
                  subst hs
                  replace hH := hK581
                  try dsimp only [flow, flowE] at hH
                  show AW _ _ _ (⟨[(2, .v (.int .i64 v541)), (3, .v (.int .i64 most)), (4, .p 1 0), (10, .R 23), (12, .v (.int .i64 v579))], [(1, .box [.v (.int .i64 sA.best), .s (List.map encLine sA.lines)]), (23, .row 1 (List.map encInt v542))], 84, []⟩ : St)
                  obtain ⟨x592, hx593, hH⟩ := bindE hH
                  refine AW.region ?_
                  refine AO.pure T rfl rfl rfl ?_
                  refine AO.pure T rfl rfl rfl ?_
                  refine AO.pure T rfl rfl rfl ?_
                  refine AO.step rfl (callL_ok rfl 26 rfl rfl (es := [.s (List.map encInt v542), .v (.int .i64 v579), .v (.int .i64 most)]) (by exact ⟨(.rowR rfl (.map fun y => .vs rfl)), .free rfl, .free rfl, trivial⟩) (spec_seInsert_ok _ _ _ _ (hx593)) (zfree_map (fun y => (.cons (zfree_v _) .nil))) rfl rfl rfl) ?_
                  refine AO.pure T rfl rfl rfl ?_
                  refine AO.nil ?_
                  refine ⟨_, someE hH, ?_⟩
                  exact Le.cut 26 25 rfl (by repeat' (first | exact trivial | refine ⟨⟨_, rfl, rfl⟩, ?_⟩)) (by repeat' (first | exact trivial | refine ⟨⟨_, rfl, rfl⟩, ?_⟩)) rfl
              · rintro v567 hs
                subst hs
                replace hH := hK569
                try dsimp only [flow, flowE] at hH
                show AW _ _ _ (⟨[(2, .v (.int .i64 v541)), (3, .v (.int .i64 most)), (4, .p 1 0), (10, .R 25)], [(1, .box [.v (.int .i64 sA.best), .s (List.map encLine sA.lines)]), (25, .row 1 (List.map encInt v567))], 84, []⟩ : St)
                refine AW.region ?_
                refine AO.pure T rfl rfl rfl ?_
                refine AO.val rfl rfl (arw_ok rfl rfl rfl rfl) ?_
                refine AO.pure T rfl rfl rfl ?_
                refine AO.nil ?_
                refine ⟨(k464, w64 (v541 - 1), v567), hH, Nat.lt_succ_self _, ?_⟩
                exact Le.cut 25 23 rfl (by repeat' (first | exact trivial | refine ⟨⟨_, rfl, rfl⟩, ?_⟩)) (by repeat' (first | exact trivial | refine ⟨⟨_, rfl, rfl⟩, ?_⟩)) rfl
            · replace hH := condF hc hH
              refine AW.exit ?_
              refine ⟨_, someE hH, ?_⟩
              exact Le.cut 23 17 rfl (by repeat' (first | exact trivial | refine ⟨⟨_, rfl, rfl⟩, ?_⟩)) (by repeat' (first | exact trivial | refine ⟨⟨_, rfl, rfl⟩, ?_⟩)) rfl
      · rintro v461 hs
        subst hs
        replace hH := hK463
        try dsimp only [flow, flowE] at hH
        show AW _ _ _ (⟨[(4, .p 1 0), (10, .R 17)], [(1, .box [.v (.int .i64 sA.best), .s (List.map encLine sA.lines)]), (17, .row 1 (List.map encInt v461))], 84, []⟩ : St)
        refine AW.seq ?_
        refine AW.region ?_
        refine AO.pure T rfl rfl rfl ?_
        refine AO.nil ?_
        refine AW.seq ?_
        refine AW.seq ?_
        refine AW.region ?_
        refine AO.pure T rfl rfl rfl ?_
        refine AO.val rfl rfl (len_row_ok T rfl rfl rfl rfl) ?_
        refine AO.pure T rfl rfl rfl ?_
        refine AO.nil ?_
        refine AW.block ?_
        refine AW.loopS (fun s : Nat × Int => (⟨[(4, .p 1 0), (13, .v (.int .i64 s.2)), (68, .R 17), (69, .v (.int .i64 (v461.length : Int))), (70, .v (.int .i64 (s.1 : Int)))], [(1, .box [.v (.int .i64 sA.best), .s (List.map encLine sA.lines)]), (17, .row 1 (List.map encInt v461))], 84, []⟩ : St)) (fun s => s.1 ≤ v461.length ∧ spec_MostStill_l6 sA (v461.drop s.1) s.1 s.2 = some r) (fun s => v461.length - s.1) (0, 0) ⟨Nat.zero_le _, hH⟩ ?_ ?_
        · exact Le.cut 0 0 rfl (by repeat' (first | exact trivial | refine ⟨⟨_, rfl, rfl⟩, ?_⟩)) (by repeat' (first | exact trivial | refine ⟨⟨_, rfl, rfl⟩, ?_⟩)) rfl
        · rintro ⟨k594, v601⟩ ⟨hk, hH⟩
          replace hH : spec_MostStill_l6 sA (v461.drop k594) k594 v601 = some r := hH
          show AW _ _ _ (⟨[(4, .p 1 0), (13, .v (.int .i64 v601)), (68, .R 17), (69, .v (.int .i64 (v461.length : Int))), (70, .v (.int .i64 (k594 : Int)))], [(1, .box [.v (.int .i64 sA.best), .s (List.map encLine sA.lines)]), (17, .row 1 (List.map encInt v461))], 84, []⟩ : St)
          refine AW.boundR (id := 17) (l := v461) rfl (fun hb598 => ?_)
          cases hd597 : v461.drop k594 with
          | nil =>
            rw [hd597] at hH
            rw [spec_MostStill_l6] at hH
            have hlt599 := drop_ge hd597
            refine AW.seq ?_
            refine AW.region ?_
            refine AO.pure T rfl rfl rfl ?_
            refine AO.nil ?_
            refine AW.seq ?_
            refine AW.condF' (b := decide ((k594 : Int) < (v461.length : Int))) rfl (rngF hlt599) ?_
            refine AW.exit ?_
            refine AW.seq ?_
            refine AW.region ?_
            refine AO.pure T rfl rfl rfl ?_
            refine AO.pure T rfl rfl rfl ?_
            refine AO.pure T rfl rfl rfl ?_
            refine AO.nil ?_
            refine AW.ret ?_
            cases someE hH
            exact ⟨trivial, _, [], rfl, .t (expLG_cons (.c .v) (expLG_cons (.c .v) (expLG_nil))), by decide⟩
          | cons y595 ys596 =>
            rw [hd597] at hH
            rw [spec_MostStill_l6] at hH
            have hlt599 := drop_lt hd597
            refine AW.seq ?_
            refine AW.region ?_
            refine AO.pure T rfl rfl rfl ?_
            refine AO.nil ?_
            refine AW.seq ?_
            refine AW.condT' (b := decide ((k594 : Int) < (v461.length : Int))) rfl (rngT hlt599) ?_
            refine AW.skip ?_
            refine AW.seq ?_
            refine AW.block ?_
            refine AW.seq ?_
            refine AW.region ?_
            refine AO.pure T rfl rfl rfl ?_
            refine AO.val rfl rfl (ix_row_ok T rfl rfl rfl rfl rfl rfl (getI_drop hd597)) ?_
            refine AO.val rfl rfl (load_row_ok T rfl rfl rfl rfl (getI_get (getI_drop hd597)) rfl rfl rfl) ?_
            refine AO.pure T rfl rfl rfl ?_
            refine AO.pure T rfl rfl rfl ?_
            refine AO.nil ?_
            refine AW.seq ?_
            refine AW.region ?_
            refine AO.pure T rfl rfl rfl ?_
            refine AO.pure T rfl rfl rfl ?_
            refine AO.pure T rfl rfl rfl ?_
            refine AO.pure T rfl rfl rfl ?_
            refine AO.nil ?_
            refine AW.cond (b := decide ((k594 : Int) < sA.best)) rfl (fun hc => ?_) (fun hc => ?_)
            · replace hH := condT hc hH
              refine AW.region ?_
              refine AO.pure T rfl rfl rfl ?_
              refine AO.pure T rfl rfl rfl ?_
              refine AO.val rfl rfl (arw_ok rfl rfl rfl rfl) ?_
              refine AO.pure T rfl rfl rfl ?_
              refine AO.nil ?_
              refine AW.region ?_
              refine AO.val rfl rfl (ar_ok rfl rfl rfl rfl (inI_succ hlt599 hb598)) ?_
              refine AO.pure T rfl rfl rfl ?_
              refine AO.nil ?_
              refine ⟨(k594 + 1, w64 (v601 + y595)), ⟨Nat.succ_le_of_lt hlt599, (by rw [drop_succ_of hd597]; exact hH)⟩, (by have := hlt599; dsimp only; omega), ?_⟩
              exact Le.cut 0 0 rfl (by repeat' (first | exact trivial | refine ⟨⟨_, rfl, rfl⟩, ?_⟩)) (by repeat' (first | exact trivial | refine ⟨⟨_, rfl, rfl⟩, ?_⟩)) rfl
            · replace hH := condF hc hH
              refine AW.skip ?_
              refine AW.region ?_
              refine AO.val rfl rfl (ar_ok rfl rfl rfl rfl (inI_succ hlt599 hb598)) ?_
              refine AO.pure T rfl rfl rfl ?_
              refine AO.nil ?_
              refine ⟨(k594 + 1, v601), ⟨Nat.succ_le_of_lt hlt599, (by rw [drop_succ_of hd597]; exact hH)⟩, (by have := hlt599; dsimp only; omega), ?_⟩
              exact Le.cut 0 0 rfl (by repeat' (first | exact trivial | refine ⟨⟨_, rfl, rfl⟩, ?_⟩)) (by repeat' (first | exact trivial | refine ⟨⟨_, rfl, rfl⟩, ?_⟩)) rfl

def impl_within_p (n : Int) (low : Int) (high : Int) : Option Bool :=
  some (decide (n ≥ low) && decide (n ≤ high))
theorem impl_within_ok (n : Int) (low : Int) (high : Int) (r : Bool) (hH : impl_within_p n low high = some r) : SpecR Try.prog 85 [.v (.int .i64 n), .v (.int .i64 low), .v (.int .i64 high)] (.v (.bool r)) := by
  refine fn_ok T Try.func85 rfl (by decide) rfl ?_
  refine AW.seq ?_
  refine AW.region ?_
  refine AO.pure T rfl rfl rfl ?_
  refine AO.nil ?_
  refine AW.seq ?_
  refine AW.region ?_
  refine AO.pure T rfl rfl rfl ?_
  refine AO.pure T rfl rfl rfl ?_
  refine AO.pure T rfl rfl rfl ?_
  refine AO.pure T rfl rfl rfl ?_
  refine AO.pureG T [] rfl trivial rfl rfl ?_
  refine AO.pureG T [] rfl trivial rfl rfl ?_
  refine AO.pureG T [11, 12] rfl ⟨fun h => h, fun h => h, trivial⟩ rfl rfl ?_
  refine AO.val rfl rfl (pick_and rfl rfl rfl rfl) ?_
  refine AO.pure T rfl rfl rfl ?_
  refine AO.nil ?_
  refine AW.ret ?_
  cases someE hH
  exact ⟨trivial, _, [], rfl, .c (.c .v), by decide⟩

def impl_isBest_p (best : Int) : Option Bool :=
  (impl_within_p best 1 9).bind fun x1 =>
  some x1
theorem impl_isBest_ok (best : Int) (r : Bool) (hH : impl_isBest_p best = some r) : SpecR Try.prog 62 [.v (.int .i64 best)] (.v (.bool r)) := by
  refine fn_ok T Try.func62 rfl (by decide) rfl ?_
  refine AW.seq ?_
  refine AW.region ?_
  refine AO.pure T rfl rfl rfl ?_
  refine AO.nil ?_
  refine AW.seq ?_
  obtain ⟨x1, hx2, hH⟩ := bindE hH
  refine AW.region ?_
  refine AO.pure T rfl rfl rfl ?_
  refine AO.val rfl rfl (callV_ok rfl rfl rfl rfl (impl_within_ok _ _ _ _ (hx2)) rfl) ?_
  refine AO.pure T rfl rfl rfl ?_
  refine AO.nil ?_
  refine AW.ret ?_
  cases someE hH
  exact ⟨trivial, _, [], rfl, .c (.c .v), by decide⟩

def impl_entriesOf_l2 (y2 : Line) : List Int → Nat → List Entry → Option (List Entry)
  | [], k119, v134 =>
    some v134
  | y120 :: ys121, k119, v134 =>
    (getI y2.points (k119 : Int)).bind fun x136 =>
    (need (fitsB 24 (v134.length + ([(Entry.mk y120 y2.skater x136)]).length))).bind fun u138 =>
    impl_entriesOf_l2 y2 ys121 (k119 + 1) (v134 ++ [(Entry.mk y120 y2.skater x136)])
def impl_entriesOf_l1 : List Line → Nat → List Entry → Option ((List Entry))
  | [], k1, v94 =>
    some v94
  | y2 :: ys3, k1, v94 =>
    (impl_entriesOf_l2 y2 y2.events 0 v94).bind fun v116 =>
    impl_entriesOf_l1 ys3 (k1 + 1) v116
def impl_entriesOf_p (sA : Season) : Option (List Entry) :=
  impl_entriesOf_l1 sA.lines 0 []
theorem impl_entriesOf_ok (sA : Season) (r : (List Entry)) (hH : impl_entriesOf_p sA = some r) : SpecR Try.prog 63 [.g (encSeason sA)] (.w 3 (r.map encEntry)) := by
  refine fn_ok T Try.func63 rfl (by decide) rfl ?_
  refine AW.seq ?_
  refine AW.region ?_
  refine AO.step rfl (box_ok T rfl 1 rfl rfl rfl rfl) ?_
  refine AO.pure T rfl rfl rfl ?_
  refine AO.nil ?_
  refine AW.seq ?_
  refine AW.region ?_
  refine AO.step rfl (mk0_ok T rfl rfl rfl rfl) ?_
  refine AO.pure T rfl rfl rfl ?_
  refine AO.nil ?_
  refine AW.seq ?_
  refine AW.seq ?_
  refine AW.region ?_
  refine AO.pure T rfl rfl rfl ?_
  refine AO.pure T rfl rfl rfl ?_
  refine AO.val rfl rfl (len_map_ok T rfl rfl rfl) ?_
  refine AO.pure T rfl rfl rfl ?_
  refine AO.nil ?_
  refine AW.block ?_
  refine AW.loopS (fun s : Nat × (List Entry) => (⟨[(3, .R 6), (10, .s (List.map encLine sA.lines)), (11, .v (.int .i64 (sA.lines.length : Int))), (12, .v (.int .i64 (s.1 : Int)))], [(6, .row 3 (List.map encEntry s.2))], 39, []⟩ : St)) (fun s => s.1 ≤ sA.lines.length ∧ impl_entriesOf_l1 (sA.lines.drop s.1) s.1 s.2 = some r) (fun s => sA.lines.length - s.1) (0, []) ⟨Nat.zero_le _, hH⟩ ?_ ?_
  · refine Le.trans (Le.void 3 6 3 rfl rfl) ?_
    exact Le.cut 0 0 rfl (by repeat' (first | exact trivial | refine ⟨⟨_, rfl, rfl⟩, ?_⟩)) (by repeat' (first | exact trivial | refine ⟨⟨_, rfl, rfl⟩, ?_⟩)) rfl
  · rintro ⟨k1, v94⟩ ⟨hk, hH⟩
    replace hH : impl_entriesOf_l1 (sA.lines.drop k1) k1 v94 = some r := hH
    show AW _ _ _ (⟨[(3, .R 6), (10, .s (List.map encLine sA.lines)), (11, .v (.int .i64 (sA.lines.length : Int))), (12, .v (.int .i64 (k1 : Int)))], [(6, .row 3 (List.map encEntry v94))], 39, []⟩ : St)
    refine AW.boundM (t := 10) (l := sA.lines) rfl (fun hb5 => ?_)
    cases hd4 : sA.lines.drop k1 with
    | nil =>
      rw [hd4] at hH
      rw [impl_entriesOf_l1] at hH
      have hlt6 := drop_ge hd4
      refine AW.seq ?_
      refine AW.region ?_
      refine AO.pure T rfl rfl rfl ?_
      refine AO.nil ?_
      refine AW.seq ?_
      refine AW.condF' (b := decide ((k1 : Int) < (sA.lines.length : Int))) rfl (rngF hlt6) ?_
      refine AW.exit ?_
      refine AW.seq ?_
      refine AW.region ?_
      refine AO.pure T rfl rfl rfl ?_
      refine AO.pure T rfl rfl rfl ?_
      refine AO.nil ?_
      refine AW.ret ?_
      cases someE hH
      exact ⟨trivial, _, [6], rfl, .c (.c (.rowR rfl)), by decide⟩
    | cons y2 ys3 =>
      rw [hd4] at hH
      rw [impl_entriesOf_l1] at hH
      have hlt6 := drop_lt hd4
      refine AW.seq ?_
      refine AW.region ?_
      refine AO.pure T rfl rfl rfl ?_
      refine AO.nil ?_
      refine AW.seq ?_
      refine AW.condT' (b := decide ((k1 : Int) < (sA.lines.length : Int))) rfl (rngT hlt6) ?_
      refine AW.skip ?_
      obtain ⟨o117, hH, hK118⟩ := bindE hH
      refine AW.seqJ (fun s : List Entry => (⟨[(3, .R 6), (10, .s (List.map encLine sA.lines)), (11, .v (.int .i64 (sA.lines.length : Int))), (12, .v (.int .i64 (k1 : Int)))], [(6, .row 3 (List.map encEntry s))], 39, []⟩ : St)) (fun s => s = o117) ?_ ?_
      · refine AW.block ?_
        refine AW.seq ?_
        refine AW.region ?_
        refine AO.val rfl rfl (ix_map_ok T rfl rfl rfl rfl rfl (getI_drop hd4) rfl) ?_
        refine AO.pure T rfl rfl rfl ?_
        refine AO.step rfl (alloc_ok T rfl 37 rfl rfl rfl rfl rfl) ?_
        refine AO.step rfl (store_ok T rfl rfl rfl rfl rfl rfl rfl rfl rfl) ?_
        refine AO.nil ?_
        refine AW.seq ?_
        refine AW.region ?_
        refine AO.pure T rfl rfl rfl ?_
        refine AO.pure T rfl rfl rfl ?_
        refine AO.val rfl rfl (len_map_ok T rfl rfl rfl) ?_
        refine AO.pure T rfl rfl rfl ?_
        refine AO.nil ?_
        refine AW.block ?_
        refine AW.loopS (fun s : Nat × (List Entry) => (⟨[(3, .R 6), (5, .p 37 0), (10, .s (List.map encLine sA.lines)), (11, .v (.int .i64 (sA.lines.length : Int))), (12, .v (.int .i64 (k1 : Int))), (17, .s (List.map encInt y2.events)), (18, .v (.int .i64 (y2.events.length : Int))), (19, .v (.int .i64 (s.1 : Int)))], [(6, .row 3 (List.map encEntry s.2)), (37, .box [.v (.int .i64 y2.skater), .s (List.map encInt y2.events), .s (List.map encInt y2.points)])], 39, []⟩ : St)) (fun s => s.1 ≤ y2.events.length ∧ impl_entriesOf_l2 y2 (y2.events.drop s.1) s.1 s.2 = some o117) (fun s => y2.events.length - s.1) (0, v94) ⟨Nat.zero_le _, hH⟩ ?_ ?_
        · exact Le.cut 0 0 rfl (by repeat' (first | exact trivial | refine ⟨⟨_, rfl, rfl⟩, ?_⟩)) (by repeat' (first | exact trivial | refine ⟨⟨_, rfl, rfl⟩, ?_⟩)) rfl
        · rintro ⟨k119, v134⟩ ⟨hk, hH⟩
          replace hH : impl_entriesOf_l2 y2 (y2.events.drop k119) k119 v134 = some o117 := hH
          show AW _ _ _ (⟨[(3, .R 6), (5, .p 37 0), (10, .s (List.map encLine sA.lines)), (11, .v (.int .i64 (sA.lines.length : Int))), (12, .v (.int .i64 (k1 : Int))), (17, .s (List.map encInt y2.events)), (18, .v (.int .i64 (y2.events.length : Int))), (19, .v (.int .i64 (k119 : Int)))], [(6, .row 3 (List.map encEntry v134)), (37, .box [.v (.int .i64 y2.skater), .s (List.map encInt y2.events), .s (List.map encInt y2.points)])], 39, []⟩ : St)
          refine AW.boundM (t := 17) (l := y2.events) rfl (fun hb123 => ?_)
          cases hd122 : y2.events.drop k119 with
          | nil =>
            rw [hd122] at hH
            rw [impl_entriesOf_l2] at hH
            have hlt124 := drop_ge hd122
            refine AW.seq ?_
            refine AW.region ?_
            refine AO.pure T rfl rfl rfl ?_
            refine AO.nil ?_
            refine AW.seq ?_
            refine AW.condF' (b := decide ((k119 : Int) < (y2.events.length : Int))) rfl (rngF hlt124) ?_
            refine AW.exit ?_
            refine ⟨_, someE hH, ?_⟩
            exact Le.cut 0 0 rfl (by repeat' (first | exact trivial | refine ⟨⟨_, rfl, rfl⟩, ?_⟩)) (by repeat' (first | exact trivial | refine ⟨⟨_, rfl, rfl⟩, ?_⟩)) rfl
          | cons y120 ys121 =>
            rw [hd122] at hH
            rw [impl_entriesOf_l2] at hH
            have hlt124 := drop_lt hd122
            refine AW.seq ?_
            refine AW.region ?_
            refine AO.pure T rfl rfl rfl ?_
            refine AO.nil ?_
            refine AW.seq ?_
            refine AW.condT' (b := decide ((k119 : Int) < (y2.events.length : Int))) rfl (rngT hlt124) ?_
            refine AW.skip ?_
            refine AW.seq ?_
            refine AW.block ?_
            refine AW.seq ?_
            refine AW.region ?_
            refine AO.pure T rfl rfl rfl ?_
            refine AO.val rfl rfl (ix_map_ok T rfl rfl rfl rfl rfl (getI_drop hd122) rfl) ?_
            refine AO.pure T rfl rfl rfl ?_
            refine AO.pure T rfl rfl rfl ?_
            refine AO.pure T rfl rfl rfl ?_
            refine AO.nil ?_
            obtain ⟨x136, hx137, hH⟩ := bindE hH
            obtain ⟨u138, hx139, hH⟩ := bindE hH
            refine AW.drawn 11 42 [] mix (by kernel_rfl) rfl ?_
            refine AD.pure T rfl rfl rfl ?_
            refine AD.pure T rfl rfl rfl ?_
            refine AD.pure T rfl rfl rfl ?_
            refine AD.pure T rfl rfl rfl ?_
            refine AD.pure T rfl rfl rfl ?_
            refine AD.pure T rfl rfl rfl ?_
            refine AD.pure T rfl rfl rfl ?_
            refine AD.val rfl rfl (ix_map_ok T rfl rfl rfl rfl rfl (hx137) rfl) ?_
            refine AD.pure T rfl rfl rfl ?_
            refine AD.pure T rfl rfl rfl ?_
            refine AD.q (FStep.mk T (f := encEntry) (l := [(Entry.mk y120 y2.skater x136)]) rfl rfl rfl rfl rfl rfl rfl rfl rfl (fun _ => rfl) rfl rfl rfl rfl) (by simp [namesIn]) (Nat.le_succ _) rfl ?_
            refine AD.nil ?_
            refine AO.step rfl (app_rv_map T rfl 43 rfl rfl rfl rfl rfl (by decide) rfl rfl rfl rfl (fun _ => rfl) (needT (hx139)) rfl rfl) ?_
            refine AO.pure T rfl rfl rfl ?_
            refine AO.nil ?_
            refine AW.region ?_
            refine AO.val rfl rfl (ar_ok rfl rfl rfl rfl (inI_succ hlt124 hb123)) ?_
            refine AO.pure T rfl rfl rfl ?_
            refine AO.nil ?_
            refine ⟨(k119 + 1, (v134 ++ [(Entry.mk y120 y2.skater x136)])), ⟨Nat.succ_le_of_lt hlt124, (by rw [drop_succ_of hd122]; exact hH)⟩, (by have := hlt124; dsimp only; omega), ?_⟩
            exact Le.cut 43 6 rfl (by repeat' (first | exact trivial | refine ⟨⟨_, rfl, rfl⟩, ?_⟩)) (by repeat' (first | exact trivial | refine ⟨⟨_, rfl, rfl⟩, ?_⟩)) rfl
      · rintro v116 hs
        subst hs
        replace hH := hK118
        try dsimp only [flow, flowE] at hH
        show AW _ _ _ (⟨[(3, .R 6), (10, .s (List.map encLine sA.lines)), (11, .v (.int .i64 (sA.lines.length : Int))), (12, .v (.int .i64 (k1 : Int)))], [(6, .row 3 (List.map encEntry v116))], 39, []⟩ : St)
        refine AW.region ?_
        refine AO.val rfl rfl (ar_ok rfl rfl rfl rfl (inI_succ hlt6 hb5)) ?_
        refine AO.pure T rfl rfl rfl ?_
        refine AO.nil ?_
        refine ⟨(k1 + 1, v116), ⟨Nat.succ_le_of_lt hlt6, (by rw [drop_succ_of hd4]; exact hH)⟩, (by have := hlt6; dsimp only; omega), ?_⟩
        exact Le.cut 0 0 rfl (by repeat' (first | exact trivial | refine ⟨⟨_, rfl, rfl⟩, ?_⟩)) (by repeat' (first | exact trivial | refine ⟨⟨_, rfl, rfl⟩, ?_⟩)) rfl

def impl_isEvent_p (event : Int) : Option Bool :=
  (impl_within_p event 1 99).bind fun x1 =>
  some x1
theorem impl_isEvent_ok (event : Int) (r : Bool) (hH : impl_isEvent_p event = some r) : SpecR Try.prog 91 [.v (.int .i64 event)] (.v (.bool r)) := by
  refine fn_ok T Try.func91 rfl (by decide) rfl ?_
  refine AW.seq ?_
  refine AW.region ?_
  refine AO.pure T rfl rfl rfl ?_
  refine AO.nil ?_
  refine AW.seq ?_
  obtain ⟨x1, hx2, hH⟩ := bindE hH
  refine AW.region ?_
  refine AO.pure T rfl rfl rfl ?_
  refine AO.val rfl rfl (callV_ok rfl rfl rfl rfl (impl_within_ok _ _ _ _ (hx2)) rfl) ?_
  refine AO.pure T rfl rfl rfl ?_
  refine AO.nil ?_
  refine AW.ret ?_
  cases someE hH
  exact ⟨trivial, _, [], rfl, .c (.c .v), by decide⟩

def impl_isSkater_p (skater : Int) : Option Bool :=
  (impl_within_p skater 1 999).bind fun x1 =>
  some x1
theorem impl_isSkater_ok (skater : Int) (r : Bool) (hH : impl_isSkater_p skater = some r) : SpecR Try.prog 84 [.v (.int .i64 skater)] (.v (.bool r)) := by
  refine fn_ok T Try.func84 rfl (by decide) rfl ?_
  refine AW.seq ?_
  refine AW.region ?_
  refine AO.pure T rfl rfl rfl ?_
  refine AO.nil ?_
  refine AW.seq ?_
  obtain ⟨x1, hx2, hH⟩ := bindE hH
  refine AW.region ?_
  refine AO.pure T rfl rfl rfl ?_
  refine AO.val rfl rfl (callV_ok rfl rfl rfl rfl (impl_within_ok _ _ _ _ (hx2)) rfl) ?_
  refine AO.pure T rfl rfl rfl ?_
  refine AO.nil ?_
  refine AW.ret ?_
  cases someE hH
  exact ⟨trivial, _, [], rfl, .c (.c .v), by decide⟩

def slices_IndexFunc_Entry_l1 (f : Entry → Option Bool) : List Entry → Nat → Option Int
  | [], k1 =>
    some (-1)
  | y2 :: ys3, k1 =>
    (f y2).bind fun x12 =>
    cond x12
      (some (k1 : Int))
      (slices_IndexFunc_Entry_l1 f ys3 (k1 + 1))
def slices_IndexFunc_Entry_p (sA : List Entry) (f : Entry → Option Bool) : Option Int :=
  slices_IndexFunc_Entry_l1 f sA 0
theorem slices_IndexFunc_Entry_ok (sA : List Entry) (f_f : Nat) (f_c : List D) (f_r : f_c.all D.cfree = true) (f : Entry → Option Bool) (f_h : ∀ (a0 : Entry) (q : Bool), f a0 = some q → SpecR Try.prog f_f ([.g (encEntry a0)] ++ f_c) (.v (.bool q))) (r : Int) (hH : slices_IndexFunc_Entry_p sA f = some r) : SpecR Try.prog 115 [.s (List.map encEntry sA), .f f_f f_c] (.v (.int .i64 r)) := by
  refine fn_ok T Try.func115 rfl (by decide) rfl ?_
  refine AW.seq ?_
  refine AW.region ?_
  refine AO.pure T rfl rfl rfl ?_
  refine AO.nil ?_
  refine AW.seq ?_
  refine AW.seq ?_
  refine AW.region ?_
  refine AO.pure T rfl rfl rfl ?_
  refine AO.val rfl rfl (len_map_ok T rfl rfl rfl) ?_
  refine AO.pure T rfl rfl rfl ?_
  refine AO.nil ?_
  refine AW.block ?_
  refine AW.loopS (fun s : Nat => (⟨[(0, .s (List.map encEntry sA)), (1, .f f_f f_c), (7, .v (.int .i64 (sA.length : Int))), (8, .v (.int .i64 (s : Int)))], [], 19, []⟩ : St)) (fun s => s ≤ sA.length ∧ slices_IndexFunc_Entry_l1 f (sA.drop s) s = some r) (fun s => sA.length - s) 0 ⟨Nat.zero_le _, hH⟩ ?_ ?_
  · exact Le.cut 0 0 rfl ⟨⟨_, rfl, rfl⟩, ⟨_, rfl, ren_fF f_r⟩, ⟨_, rfl, rfl⟩, ⟨_, rfl, rfl⟩, trivial⟩ (by repeat' (first | exact trivial | refine ⟨⟨_, rfl, rfl⟩, ?_⟩)) (andT (allC rfl (allC (known_fF f_r) (allC rfl (allC rfl allN)))) rfl)
  · rintro k1 ⟨hk, hH⟩
    replace hH : slices_IndexFunc_Entry_l1 f (sA.drop k1) k1 = some r := hH
    show AW _ _ _ (⟨[(0, .s (List.map encEntry sA)), (1, .f f_f f_c), (7, .v (.int .i64 (sA.length : Int))), (8, .v (.int .i64 (k1 : Int)))], [], 19, []⟩ : St)
    refine AW.boundM (t := 0) (l := sA) rfl (fun hb5 => ?_)
    cases hd4 : sA.drop k1 with
    | nil =>
      rw [hd4] at hH
      rw [slices_IndexFunc_Entry_l1] at hH
      have hlt6 := drop_ge hd4
      refine AW.seq ?_
      refine AW.region ?_
      refine AO.pure T rfl rfl rfl ?_
      refine AO.nil ?_
      refine AW.seq ?_
      refine AW.condF' (b := decide ((k1 : Int) < (sA.length : Int))) rfl (rngF hlt6) ?_
      refine AW.exit ?_
      refine AW.seq ?_
      refine AW.region ?_
      refine AO.pure T rfl rfl rfl ?_
      refine AO.nil ?_
      refine AW.ret ?_
      cases someE hH
      exact ⟨trivial, _, [], rfl, .c (.c .v), by decide⟩
    | cons y2 ys3 =>
      rw [hd4] at hH
      rw [slices_IndexFunc_Entry_l1] at hH
      have hlt6 := drop_lt hd4
      refine AW.seq ?_
      refine AW.region ?_
      refine AO.pure T rfl rfl rfl ?_
      refine AO.nil ?_
      refine AW.seq ?_
      refine AW.condT' (b := decide ((k1 : Int) < (sA.length : Int))) rfl (rngT hlt6) ?_
      refine AW.skip ?_
      refine AW.seq ?_
      refine AW.block ?_
      refine AW.seq ?_
      refine AW.region ?_
      refine AO.pure T rfl rfl rfl ?_
      refine AO.pure T rfl rfl rfl ?_
      refine AO.nil ?_
      refine AW.seq ?_
      obtain ⟨x12, hx13, hH⟩ := bindE hH
      refine AW.region ?_
      refine AO.pure T rfl rfl rfl ?_
      refine AO.pure T rfl rfl rfl ?_
      refine AO.pure T rfl rfl rfl ?_
      refine AO.val rfl rfl (ix_map_ok T rfl rfl rfl rfl rfl (getI_drop hd4) rfl) ?_
      refine AO.pure T rfl rfl rfl ?_
      refine AO.val rfl rfl (callV_ok rfl rfl rfl (andT rfl (free_cfree f_r)) (f_h _ _ (hx13)) rfl) ?_
      refine AO.nil ?_
      refine AW.cond (b := x12) rfl (fun hc => ?_) (fun hc => ?_)
      · replace hH := condT hc hH
        refine AW.seq ?_
        refine AW.region ?_
        refine AO.pure T rfl rfl rfl ?_
        refine AO.pure T rfl rfl rfl ?_
        refine AO.nil ?_
        refine AW.ret ?_
        cases someE hH
        exact ⟨trivial, _, [], rfl, .c (.c .v), by decide⟩
      · replace hH := condF hc hH
        refine AW.skip ?_
        refine AW.region ?_
        refine AO.val rfl rfl (ar_ok rfl rfl rfl rfl (inI_succ hlt6 hb5)) ?_
        refine AO.pure T rfl rfl rfl ?_
        refine AO.nil ?_
        refine ⟨k1 + 1, ⟨Nat.succ_le_of_lt hlt6, (by rw [drop_succ_of hd4]; exact hH)⟩, (by have := hlt6; dsimp only; omega), ?_⟩
        exact Le.cut 0 0 rfl ⟨⟨_, rfl, rfl⟩, ⟨_, rfl, ren_fF f_r⟩, ⟨_, rfl, rfl⟩, ⟨_, rfl, rfl⟩, trivial⟩ (by repeat' (first | exact trivial | refine ⟨⟨_, rfl, rfl⟩, ?_⟩)) (andT (allC rfl (allC (known_fF f_r) (allC rfl (allC rfl allN)))) rfl)

def slices_ContainsFunc_Entry_p (sA : List Entry) (f : Entry → Option Bool) : Option Bool :=
  (slices_IndexFunc_Entry_p sA f).bind fun x1 =>
  some (decide (x1 ≥ 0))
theorem slices_ContainsFunc_Entry_ok (sA : List Entry) (f_f : Nat) (f_c : List D) (f_r : f_c.all D.cfree = true) (f : Entry → Option Bool) (f_h : ∀ (a0 : Entry) (q : Bool), f a0 = some q → SpecR Try.prog f_f ([.g (encEntry a0)] ++ f_c) (.v (.bool q))) (r : Bool) (hH : slices_ContainsFunc_Entry_p sA f = some r) : SpecR Try.prog 95 [.s (List.map encEntry sA), .f f_f f_c] (.v (.bool r)) := by
  refine fn_ok T Try.func95 rfl (by decide) rfl ?_
  refine AW.seq ?_
  refine AW.region ?_
  refine AO.pure T rfl rfl rfl ?_
  refine AO.nil ?_
  refine AW.seq ?_
  obtain ⟨x1, hx2, hH⟩ := bindE hH
  refine AW.region ?_
  refine AO.pure T rfl rfl rfl ?_
  refine AO.pure T rfl rfl rfl ?_
  refine AO.val rfl rfl (callV_ok rfl rfl rfl (andT (allC rfl (allC f_r allN)) rfl) (slices_IndexFunc_Entry_ok _ f_f f_c f_r f f_h _ (hx2)) rfl) ?_
  refine AO.pure T rfl rfl rfl ?_
  refine AO.pure T rfl rfl rfl ?_
  refine AO.nil ?_
  refine AW.ret ?_
  cases someE hH
  exact ⟨trivial, _, [], rfl, .c (.c .v), by decide⟩

def impl_AreEntries_c1_p (x : Entry) (a : Entry) : Option Bool :=
  some ((x.event == a.event) && (x.skater == a.skater))
theorem impl_AreEntries_c1_ok (x : Entry) (a : Entry) (r : Bool) (hH : impl_AreEntries_c1_p x a = some r) : SpecR Try.prog 102 [.g (encEntry x), .q (encEntry a)] (.v (.bool r)) := by
  refine fn_ok T Try.func102 rfl (by decide) rfl ?_
  refine AW.seq ?_
  refine AW.region ?_
  refine AO.step rfl (box_ok T rfl 1 rfl rfl rfl rfl) ?_
  refine AO.pure T rfl rfl rfl ?_
  refine AO.nil ?_
  refine AW.seq ?_
  refine AW.region ?_
  refine AO.pure T rfl rfl rfl ?_
  refine AO.pure T rfl rfl rfl ?_
  refine AO.pure T rfl rfl rfl ?_
  refine AO.pure T rfl rfl rfl ?_
  refine AO.pure T rfl rfl rfl ?_
  refine AO.pure T rfl rfl rfl ?_
  refine AO.pureG T [] rfl trivial rfl rfl ?_
  refine AO.pureG T [10] rfl ⟨fun h => h, trivial⟩ rfl rfl ?_
  refine AO.pureG T [] rfl trivial rfl rfl ?_
  refine AO.pureG T [12] rfl ⟨fun h => h, trivial⟩ rfl rfl ?_
  refine AO.pureG T [11, 13] rfl ⟨fun h => h, fun h => h, trivial⟩ rfl rfl ?_
  refine AO.val rfl rfl (pick_and rfl rfl rfl rfl) ?_
  refine AO.pure T rfl rfl rfl ?_
  refine AO.nil ?_
  refine AW.ret ?_
  cases someE hH
  exact ⟨trivial, _, [], rfl, .c (.c .v), by decide⟩

def impl_AreEntries_l1 (l : List Entry) : List Entry → Nat → Option Bool
  | [], k1 =>
    some (decide ((l.length : Int) ≤ 80))
  | y2 :: ys3, k1 =>
    (impl_isEvent_p y2.event).bind fun x28 =>
    (opt (!(!x28)) default (impl_isSkater_p y2.skater)).bind fun x30 =>
    (opt (!((!x28) || (!x30))) default (impl_within_p y2.points 0 100000)).bind fun x32 =>
    cond (((!x28) || (!x30)) || (!x32))
      (some false)
      ((sliceHi l (k1 : Int)).bind fun x34 =>
      (slices_ContainsFunc_Entry_p x34 (fun a0 => impl_AreEntries_c1_p a0 y2)).bind fun x36 =>
      cond x36
        (some false)
        (impl_AreEntries_l1 l ys3 (k1 + 1)))
def impl_AreEntries_p (l : List Entry) : Option Bool :=
  impl_AreEntries_l1 l l 0
theorem impl_AreEntries_ok (l : List Entry) (r : Bool) (hH : impl_AreEntries_p l = some r) : SpecR Try.prog 57 [.s (List.map encEntry l)] (.v (.bool r)) := by
  refine fn_ok T Try.func57 rfl (by decide) rfl ?_
  refine AW.seq ?_
  refine AW.region ?_
  refine AO.pure T rfl rfl rfl ?_
  refine AO.nil ?_
  refine AW.seq ?_
  refine AW.seq ?_
  refine AW.region ?_
  refine AO.pure T rfl rfl rfl ?_
  refine AO.val rfl rfl (len_map_ok T rfl rfl rfl) ?_
  refine AO.pure T rfl rfl rfl ?_
  refine AO.nil ?_
  refine AW.block ?_
  refine AW.loopS (fun s : Nat => (⟨[(0, .s (List.map encEntry l)), (5, .s (List.map encEntry l)), (6, .v (.int .i64 (l.length : Int))), (7, .v (.int .i64 (s : Int)))], [], 37, []⟩ : St)) (fun s => s ≤ l.length ∧ impl_AreEntries_l1 l (l.drop s) s = some r) (fun s => l.length - s) 0 ⟨Nat.zero_le _, hH⟩ ?_ ?_
  · exact Le.cut 0 0 rfl (by repeat' (first | exact trivial | refine ⟨⟨_, rfl, rfl⟩, ?_⟩)) (by repeat' (first | exact trivial | refine ⟨⟨_, rfl, rfl⟩, ?_⟩)) rfl
  · rintro k1 ⟨hk, hH⟩
    replace hH : impl_AreEntries_l1 l (l.drop k1) k1 = some r := hH
    show AW _ _ _ (⟨[(0, .s (List.map encEntry l)), (5, .s (List.map encEntry l)), (6, .v (.int .i64 (l.length : Int))), (7, .v (.int .i64 (k1 : Int)))], [], 37, []⟩ : St)
    refine AW.boundM (t := 0) (l := l) rfl (fun hb5 => ?_)
    cases hd4 : l.drop k1 with
    | nil =>
      rw [hd4] at hH
      rw [impl_AreEntries_l1] at hH
      have hlt6 := drop_ge hd4
      refine AW.seq ?_
      refine AW.region ?_
      refine AO.pure T rfl rfl rfl ?_
      refine AO.nil ?_
      refine AW.seq ?_
      refine AW.condF' (b := decide ((k1 : Int) < (l.length : Int))) rfl (rngF hlt6) ?_
      refine AW.exit ?_
      refine AW.seq ?_
      refine AW.region ?_
      refine AO.pure T rfl rfl rfl ?_
      refine AO.val rfl rfl (len_map_ok T rfl rfl rfl) ?_
      refine AO.pure T rfl rfl rfl ?_
      refine AO.pure T rfl rfl rfl ?_
      refine AO.nil ?_
      refine AW.ret ?_
      cases someE hH
      exact ⟨trivial, _, [], rfl, .c (.c .v), by decide⟩
    | cons y2 ys3 =>
      rw [hd4] at hH
      rw [impl_AreEntries_l1] at hH
      have hlt6 := drop_lt hd4
      refine AW.seq ?_
      refine AW.region ?_
      refine AO.pure T rfl rfl rfl ?_
      refine AO.nil ?_
      refine AW.seq ?_
      refine AW.condT' (b := decide ((k1 : Int) < (l.length : Int))) rfl (rngT hlt6) ?_
      refine AW.skip ?_
      refine AW.seq ?_
      refine AW.block ?_
      refine AW.seq ?_
      refine AW.region ?_
      refine AO.pure T rfl rfl rfl ?_
      refine AO.val rfl rfl (ix_map_ok T rfl rfl rfl rfl rfl (getI_drop hd4) rfl) ?_
      refine AO.pure T rfl rfl rfl ?_
      refine AO.step rfl (alloc_ok T rfl 3 rfl rfl rfl rfl rfl) ?_
      refine AO.pure T rfl rfl rfl ?_
      refine AO.step rfl (store_ok T rfl rfl rfl rfl rfl rfl rfl rfl rfl) ?_
      refine AO.nil ?_
      refine AW.seq ?_
      refine AW.seq ?_
      obtain ⟨x28, hx29, hH⟩ := bindE hH
      obtain ⟨x30, hx31, hH⟩ := bindE hH
      obtain ⟨x32, hx33, hH⟩ := bindE hH
      refine AW.region ?_
      refine AO.pure T rfl rfl rfl ?_
      refine AO.pure T rfl rfl rfl ?_
      refine AO.val rfl rfl (callV_ok rfl rfl rfl rfl (impl_isEvent_ok _ _ (hx29)) rfl) ?_
      refine AO.pure T rfl rfl rfl ?_
      refine AO.pure T rfl rfl rfl ?_
      refine AO.pureG T [] rfl trivial rfl rfl ?_
      refine AO.pureG T [17] rfl ⟨fun h => h, trivial⟩ rfl rfl ?_
      refine AO.guard [18] rfl ⟨fun h => h, trivial⟩ (fun hg => callV_ok rfl rfl rfl rfl (impl_isSkater_ok _ _ (optT hx31 hg)) rfl) rfl ?_
      refine AO.pureG T [19] rfl ⟨fun h => h, trivial⟩ rfl rfl ?_
      refine AO.val rfl rfl (pick_or rfl rfl rfl rfl) ?_
      refine AO.pure T rfl rfl rfl ?_
      refine AO.pureG T [] rfl trivial rfl rfl ?_
      refine AO.pureG T [23] rfl ⟨fun h => h, trivial⟩ rfl rfl ?_
      refine AO.guard [24] rfl ⟨fun h => h, trivial⟩ (fun hg => callV_ok rfl rfl rfl rfl (impl_within_ok _ _ _ _ (optT hx33 hg)) rfl) rfl ?_
      refine AO.pureG T [25] rfl ⟨fun h => h, trivial⟩ rfl rfl ?_
      refine AO.val rfl rfl (pick_or rfl rfl rfl rfl) ?_
      refine AO.nil ?_
      refine AW.cond (b := (((!x28) || (!x30)) || (!x32))) rfl (fun hc => ?_) (fun hc => ?_)
      · replace hH := condT hc hH
        refine AW.seq ?_
        refine AW.region ?_
        refine AO.pure T rfl rfl rfl ?_
        refine AO.nil ?_
        refine AW.le (Le.cut 0 0 (σ' := (⟨[(2, .v (.bool false))], [], 37, []⟩ : St)) rfl (by repeat' (first | exact trivial | refine ⟨⟨_, rfl, rfl⟩, ?_⟩)) (by repeat' (first | exact trivial | refine ⟨⟨_, rfl, rfl⟩, ?_⟩)) rfl) ?_
        refine AW.ret ?_
        cases someE hH
        exact ⟨trivial, _, [], rfl, .c (.c .v), by decide⟩
      · replace hH := condF hc hH
        refine AW.skip ?_
        refine AW.seq ?_
        obtain ⟨x34, hx35, hH⟩ := bindE hH
        obtain ⟨x36, hx37, hH⟩ := bindE hH
        refine AW.region ?_
        refine AO.pure T rfl rfl rfl ?_
        refine AO.pure T rfl rfl rfl ?_
        refine AO.val rfl rfl (slice_hi_map_ok T rfl rfl rfl rfl rfl (hx35) (fun _ => rfl)) ?_
        refine AO.pure T rfl rfl rfl ?_
        refine AO.val rfl rfl (callLV_ok rfl rfl rfl (es := [.s (List.map encEntry x34), .f 102 [.q [.v (.int .i64 y2.event), .v (.int .i64 y2.skater), .v (.int .i64 y2.points)]]]) ⟨.free rfl, lend_f (LendL.cons (Lend.boxF rfl rfl) LendL.nil), trivial⟩ (slices_ContainsFunc_Entry_ok _ 102 [.q [.v (.int .i64 y2.event), .v (.int .i64 y2.skater), .v (.int .i64 y2.points)]] rfl (fun a0 => impl_AreEntries_c1_p a0 y2) (fun a0 q h => impl_AreEntries_c1_ok a0 y2 q h) _ (hx37)) (zfree_v _) rfl) ?_
        refine AO.nil ?_
        refine AW.le (Le.cut 0 0 (σ' := (⟨[(0, .s (List.map encEntry l)), (5, .s (List.map encEntry l)), (6, .v (.int .i64 (l.length : Int))), (7, .v (.int .i64 (k1 : Int))), (32, .v (.bool x36))], [], 37, []⟩ : St)) rfl (by repeat' (first | exact trivial | refine ⟨⟨_, rfl, rfl⟩, ?_⟩)) (by repeat' (first | exact trivial | refine ⟨⟨_, rfl, rfl⟩, ?_⟩)) rfl) ?_
        refine AW.cond (b := x36) rfl (fun hc => ?_) (fun hc => ?_)
        · replace hH := condT hc hH
          refine AW.seq ?_
          refine AW.region ?_
          refine AO.pure T rfl rfl rfl ?_
          refine AO.nil ?_
          refine AW.ret ?_
          cases someE hH
          exact ⟨trivial, _, [], rfl, .c (.c .v), by decide⟩
        · replace hH := condF hc hH
          refine AW.skip ?_
          refine AW.region ?_
          refine AO.val rfl rfl (ar_ok rfl rfl rfl rfl (inI_succ hlt6 hb5)) ?_
          refine AO.pure T rfl rfl rfl ?_
          refine AO.nil ?_
          refine ⟨k1 + 1, ⟨Nat.succ_le_of_lt hlt6, (by rw [drop_succ_of hd4]; exact hH)⟩, (by have := hlt6; dsimp only; omega), ?_⟩
          exact Le.cut 0 0 rfl (by repeat' (first | exact trivial | refine ⟨⟨_, rfl, rfl⟩, ?_⟩)) (by repeat' (first | exact trivial | refine ⟨⟨_, rfl, rfl⟩, ?_⟩)) rfl

def slices_IsSortedFunc_Entry_l1 (x : List Entry) (cmp : Entry → Entry → Option Int) : Nat → Int → Option Bool
  | 0, _ => none
  | k1 + 1, v15 =>
    cond (decide (v15 > 0))
      ((getI x v15).bind fun x17 =>
      (getI x (w64 (v15 - 1))).bind fun x19 =>
      (cmp x17 x19).bind fun x21 =>
      cond (decide (x21 < 0))
        (some false)
        (slices_IsSortedFunc_Entry_l1 x cmp k1 (w64 (v15 - 1))))
      (some true)
def slices_IsSortedFunc_Entry_p (fuel : Nat) (x : List Entry) (cmp : Entry → Entry → Option Int) : Option Bool :=
  slices_IsSortedFunc_Entry_l1 x cmp fuel (w64 ((x.length : Int) - 1))
theorem slices_IsSortedFunc_Entry_ok (fuel : Nat) (x : List Entry) (cmp_f : Nat) (cmp_c : List D) (cmp_r : cmp_c.all D.cfree = true) (cmp : Entry → Entry → Option Int) (cmp_h : ∀ (a0 : Entry) (a1 : Entry) (q : Int), cmp a0 a1 = some q → SpecR Try.prog cmp_f ([.g (encEntry a0), .g (encEntry a1)] ++ cmp_c) (.v (.int .i64 q))) (r : Bool) (hH : slices_IsSortedFunc_Entry_p fuel x cmp = some r) : SpecR Try.prog 64 [.s (List.map encEntry x), .f cmp_f cmp_c] (.v (.bool r)) := by
  refine fn_ok T Try.func64 rfl (by decide) rfl ?_
  refine AW.seq ?_
  refine AW.region ?_
  refine AO.pure T rfl rfl rfl ?_
  refine AO.nil ?_
  refine AW.seq ?_
  refine AW.seq ?_
  refine AW.region ?_
  refine AO.pure T rfl rfl rfl ?_
  refine AO.val rfl rfl (len_map_ok T rfl rfl rfl) ?_
  refine AO.val rfl rfl (arw_ok rfl rfl rfl rfl) ?_
  refine AO.pure T rfl rfl rfl ?_
  refine AO.nil ?_
  refine AW.block ?_
  refine AW.loopS (fun s : Nat × Int => (⟨[(0, .s (List.map encEntry x)), (1, .f cmp_f cmp_c), (5, .v (.int .i64 s.2))], [], 25, []⟩ : St)) (fun s => slices_IsSortedFunc_Entry_l1 x cmp s.1 s.2 = some r) (fun s => s.1) (fuel, w64 ((x.length : Int) - 1)) hH ?_ ?_
  · exact Le.cut 0 0 rfl ⟨⟨_, rfl, rfl⟩, ⟨_, rfl, ren_fF cmp_r⟩, ⟨_, rfl, rfl⟩, trivial⟩ (by repeat' (first | exact trivial | refine ⟨⟨_, rfl, rfl⟩, ?_⟩)) (andT (allC rfl (allC (known_fF cmp_r) (allC rfl allN))) rfl)
  · rintro ⟨k1, v15⟩ hH
    replace hH : slices_IsSortedFunc_Entry_l1 x cmp k1 v15 = some r := hH
    show AW _ _ _ (⟨[(0, .s (List.map encEntry x)), (1, .f cmp_f cmp_c), (5, .v (.int .i64 v15))], [], 25, []⟩ : St)
    cases k1 with
    | zero => cases (show none = some _ from hH)
    | succ k1 =>
      rw [slices_IsSortedFunc_Entry_l1] at hH
      refine AW.seq ?_
      refine AW.seq ?_
      refine AW.region ?_
      refine AO.pure T rfl rfl rfl ?_
      refine AO.pure T rfl rfl rfl ?_
      refine AO.nil ?_
      refine AW.cond (b := decide (v15 > 0)) rfl (fun hc => ?_) (fun hc => ?_)
      · replace hH := condT hc hH
        refine AW.skip ?_
        refine AW.seq ?_
        refine AW.block ?_
        refine AW.seq ?_
        obtain ⟨x17, hx18, hH⟩ := bindE hH
        obtain ⟨x19, hx20, hH⟩ := bindE hH
        obtain ⟨x21, hx22, hH⟩ := bindE hH
        refine AW.drawn 10 1 [] mix (by kernel_rfl) rfl ?_
        refine AD.pure T rfl rfl rfl ?_
        refine AD.pure T rfl rfl rfl ?_
        refine AD.pure T rfl rfl rfl ?_
        refine AD.val rfl rfl (ix_map_ok T rfl rfl rfl rfl rfl (hx18) rfl) ?_
        refine AD.pure T rfl rfl rfl ?_
        refine AD.pure T rfl rfl rfl ?_
        refine AD.pure T rfl rfl rfl ?_
        refine AD.val rfl rfl (arw_ok rfl rfl rfl rfl) ?_
        refine AD.val rfl rfl (ix_map_ok T rfl rfl rfl rfl rfl (hx20) rfl) ?_
        refine AD.pure T rfl rfl rfl ?_
        refine AD.nil ?_
        refine AO.val rfl rfl (callV_ok rfl rfl rfl (andT rfl (free_cfree cmp_r)) (cmp_h _ _ _ (hx22)) rfl) ?_
        refine AO.pure T rfl rfl rfl ?_
        refine AO.nil ?_
        refine AW.cond (b := decide (x21 < 0)) rfl (fun hc => ?_) (fun hc => ?_)
        · replace hH := condT hc hH
          refine AW.seq ?_
          refine AW.region ?_
          refine AO.pure T rfl rfl rfl ?_
          refine AO.nil ?_
          refine AW.ret ?_
          cases someE hH
          exact ⟨trivial, _, [], rfl, .c (.c .v), by decide⟩
        · replace hH := condF hc hH
          refine AW.skip ?_
          refine AW.region ?_
          refine AO.pure T rfl rfl rfl ?_
          refine AO.val rfl rfl (arw_ok rfl rfl rfl rfl) ?_
          refine AO.pure T rfl rfl rfl ?_
          refine AO.nil ?_
          refine ⟨(k1, w64 (v15 - 1)), hH, Nat.lt_succ_self _, ?_⟩
          exact Le.cut 0 0 rfl ⟨⟨_, rfl, rfl⟩, ⟨_, rfl, ren_fF cmp_r⟩, ⟨_, rfl, rfl⟩, trivial⟩ (by repeat' (first | exact trivial | refine ⟨⟨_, rfl, rfl⟩, ?_⟩)) (andT (allC rfl (allC (known_fF cmp_r) (allC rfl allN))) rfl)
      · replace hH := condF hc hH
        refine AW.exit ?_
        refine AW.seq ?_
        refine AW.region ?_
        refine AO.pure T rfl rfl rfl ?_
        refine AO.nil ?_
        refine AW.ret ?_
        cases someE hH
        exact ⟨trivial, _, [], rfl, .c (.c .v), by decide⟩

def impl_compareEntries_p (a : Entry) (b : Entry) : Option Int :=
  cond (a.skater != b.skater)
    (some (w64 (a.skater - b.skater)))
    (cond (a.points != b.points)
      (some (w64 (b.points - a.points)))
      (some (w64 (a.event - b.event))))
theorem impl_compareEntries_ok (a : Entry) (b : Entry) (r : Int) (hH : impl_compareEntries_p a b = some r) : SpecR Try.prog 65 [.g (encEntry a), .g (encEntry b)] (.v (.int .i64 r)) := by
  refine fn_ok T Try.func65 rfl (by decide) rfl ?_
  refine AW.seq ?_
  refine AW.region ?_
  refine AO.step rfl (box_ok T rfl 1 rfl rfl rfl rfl) ?_
  refine AO.step rfl (box_ok T rfl 2 rfl rfl rfl rfl) ?_
  refine AO.pure T rfl rfl rfl ?_
  refine AO.nil ?_
  refine AW.seq ?_
  refine AW.block ?_
  refine AW.seq ?_
  refine AW.region ?_
  refine AO.pure T rfl rfl rfl ?_
  refine AO.pure T rfl rfl rfl ?_
  refine AO.pure T rfl rfl rfl ?_
  refine AO.pure T rfl rfl rfl ?_
  refine AO.pure T rfl rfl rfl ?_
  refine AO.pure T rfl rfl rfl ?_
  refine AO.nil ?_
  refine AW.cond (b := (a.skater != b.skater)) rfl (fun hc => ?_) (fun hc => ?_)
  · replace hH := condT hc hH
    refine AW.seq ?_
    refine AW.region ?_
    refine AO.pure T rfl rfl rfl ?_
    refine AO.pure T rfl rfl rfl ?_
    refine AO.pure T rfl rfl rfl ?_
    refine AO.pure T rfl rfl rfl ?_
    refine AO.val rfl rfl (arw_ok rfl rfl rfl rfl) ?_
    refine AO.pure T rfl rfl rfl ?_
    refine AO.nil ?_
    refine AW.ret ?_
    cases someE hH
    exact ⟨trivial, _, [], rfl, .c (.c .v), by decide⟩
  · replace hH := condF hc hH
    refine AW.seq ?_
    refine AW.region ?_
    refine AO.pure T rfl rfl rfl ?_
    refine AO.pure T rfl rfl rfl ?_
    refine AO.pure T rfl rfl rfl ?_
    refine AO.pure T rfl rfl rfl ?_
    refine AO.pure T rfl rfl rfl ?_
    refine AO.pure T rfl rfl rfl ?_
    refine AO.nil ?_
    refine AW.cond (b := (a.points != b.points)) rfl (fun hc => ?_) (fun hc => ?_)
    · replace hH := condT hc hH
      refine AW.seq ?_
      refine AW.region ?_
      refine AO.pure T rfl rfl rfl ?_
      refine AO.pure T rfl rfl rfl ?_
      refine AO.pure T rfl rfl rfl ?_
      refine AO.pure T rfl rfl rfl ?_
      refine AO.val rfl rfl (arw_ok rfl rfl rfl rfl) ?_
      refine AO.pure T rfl rfl rfl ?_
      refine AO.nil ?_
      refine AW.ret ?_
      cases someE hH
      exact ⟨trivial, _, [], rfl, .c (.c .v), by decide⟩
    · replace hH := condF hc hH
      refine AW.skip ?_
      refine AW.seq ?_
      refine AW.region ?_
      refine AO.pure T rfl rfl rfl ?_
      refine AO.pure T rfl rfl rfl ?_
      refine AO.pure T rfl rfl rfl ?_
      refine AO.pure T rfl rfl rfl ?_
      refine AO.val rfl rfl (arw_ok rfl rfl rfl rfl) ?_
      refine AO.pure T rfl rfl rfl ?_
      refine AO.nil ?_
      refine AW.ret ?_
      cases someE hH
      exact ⟨trivial, _, [], rfl, .c (.c .v), by decide⟩

def impl_IsSeason_l1 (sA : Season) (fuel : Nat) : List Line → Nat → Option Bool
  | [], k3 =>
    (impl_entriesOf_p sA).bind fun x14 =>
    (impl_AreEntries_p x14).bind fun x16 =>
    (opt x16 default (slices_IsSortedFunc_Entry_p fuel x14 (fun a0 a1 => impl_compareEntries_p a0 a1 ))).bind fun x18 =>
    some (x16 && x18)
  | y4 :: ys5, k3 =>
    cond ((((y4.events.length : Int) == 0) || decide ((y4.events.length : Int) > 80)) || ((y4.events.length : Int) != (y4.points.length : Int)))
      (some false)
      ((opt (decide ((k3 : Int) > 0)) default (getI sA.lines (w64 ((k3 : Int) - 1)))).bind fun x20 =>
      cond (decide ((k3 : Int) > 0) && decide (x20.skater ≥ y4.skater))
        (some false)
        (impl_IsSeason_l1 sA fuel ys5 (k3 + 1)))
def impl_IsSeason_p (fuel : Nat) (sA : Season) : Option Bool :=
  (impl_isBest_p sA.best).bind fun x1 =>
  cond ((!x1) || decide ((sA.lines.length : Int) > 80))
    (some false)
    (impl_IsSeason_l1 sA fuel sA.lines 0)
theorem impl_IsSeason_ok (fuel : Nat) (sA : Season) (r : Bool) (hH : impl_IsSeason_p fuel sA = some r) : SpecR Try.prog 17 [.g (encSeason sA)] (.v (.bool r)) := by
  refine fn_ok T Try.func17 rfl (by decide) rfl ?_
  refine AW.seq ?_
  refine AW.region ?_
  refine AO.step rfl (box_ok T rfl 1 rfl rfl rfl rfl) ?_
  refine AO.pure T rfl rfl rfl ?_
  refine AO.nil ?_
  refine AW.seq ?_
  refine AW.seq ?_
  obtain ⟨x1, hx2, hH⟩ := bindE hH
  refine AW.region ?_
  refine AO.pure T rfl rfl rfl ?_
  refine AO.pure T rfl rfl rfl ?_
  refine AO.val rfl rfl (callV_ok rfl rfl rfl rfl (impl_isBest_ok _ _ (hx2)) rfl) ?_
  refine AO.pure T rfl rfl rfl ?_
  refine AO.pure T rfl rfl rfl ?_
  refine AO.pureG T [] rfl trivial rfl rfl ?_
  refine AO.pureG T [11] rfl ⟨fun h => h, trivial⟩ rfl rfl ?_
  refine AO.guard [12] rfl ⟨fun h => h, trivial⟩ (fun hg => len_map_ok T rfl rfl rfl) rfl ?_
  refine AO.pureG T [13] rfl ⟨fun h => h, trivial⟩ rfl rfl ?_
  refine AO.val rfl rfl (pick_or rfl rfl rfl rfl) ?_
  refine AO.nil ?_
  refine AW.cond (b := ((!x1) || decide ((sA.lines.length : Int) > 80))) rfl (fun hc => ?_) (fun hc => ?_)
  · replace hH := condT hc hH
    refine AW.seq ?_
    refine AW.region ?_
    refine AO.pure T rfl rfl rfl ?_
    refine AO.nil ?_
    refine AW.ret ?_
    cases someE hH
    exact ⟨trivial, _, [], rfl, .c (.c .v), by decide⟩
  · replace hH := condF hc hH
    refine AW.skip ?_
    refine AW.seq ?_
    refine AW.seq ?_
    refine AW.region ?_
    refine AO.pure T rfl rfl rfl ?_
    refine AO.pure T rfl rfl rfl ?_
    refine AO.val rfl rfl (len_map_ok T rfl rfl rfl) ?_
    refine AO.pure T rfl rfl rfl ?_
    refine AO.nil ?_
    refine AW.block ?_
    refine AW.loopS (fun s : Nat => (⟨[(1, .p 1 0), (17, .s (List.map encLine sA.lines)), (18, .v (.int .i64 (sA.lines.length : Int))), (19, .v (.int .i64 (s : Int)))], [(1, .box [.v (.int .i64 sA.best), .s (List.map encLine sA.lines)])], 66, []⟩ : St)) (fun s => s ≤ sA.lines.length ∧ impl_IsSeason_l1 sA fuel (sA.lines.drop s) s = some r) (fun s => sA.lines.length - s) 0 ⟨Nat.zero_le _, hH⟩ ?_ ?_
    · exact Le.cut 0 0 rfl (by repeat' (first | exact trivial | refine ⟨⟨_, rfl, rfl⟩, ?_⟩)) (by repeat' (first | exact trivial | refine ⟨⟨_, rfl, rfl⟩, ?_⟩)) rfl
    · rintro k3 ⟨hk, hH⟩
      replace hH : impl_IsSeason_l1 sA fuel (sA.lines.drop k3) k3 = some r := hH
      show AW _ _ _ (⟨[(1, .p 1 0), (17, .s (List.map encLine sA.lines)), (18, .v (.int .i64 (sA.lines.length : Int))), (19, .v (.int .i64 (k3 : Int)))], [(1, .box [.v (.int .i64 sA.best), .s (List.map encLine sA.lines)])], 66, []⟩ : St)
      refine AW.boundM (t := 17) (l := sA.lines) rfl (fun hb7 => ?_)
      cases hd6 : sA.lines.drop k3 with
      | nil =>
        rw [hd6] at hH
        rw [impl_IsSeason_l1] at hH
        have hlt8 := drop_ge hd6
        refine AW.seq ?_
        refine AW.region ?_
        refine AO.pure T rfl rfl rfl ?_
        refine AO.nil ?_
        refine AW.seq ?_
        refine AW.condF' (b := decide ((k3 : Int) < (sA.lines.length : Int))) rfl (rngF hlt8) ?_
        refine AW.exit ?_
        refine AW.seq ?_
        obtain ⟨x14, hx15, hH⟩ := bindE hH
        refine AW.region ?_
        refine AO.pure T rfl rfl rfl ?_
        refine AO.step rfl (call_ok rfl 4 rfl rfl rfl (impl_entriesOf_ok _ _ (hx15)) rfl rfl rfl) ?_
        refine AO.pure T rfl rfl rfl ?_
        refine AO.nil ?_
        refine AW.seq ?_
        obtain ⟨x16, hx17, hH⟩ := bindE hH
        obtain ⟨x18, hx19, hH⟩ := bindE hH
        refine AW.region ?_
        refine AO.pure T rfl rfl rfl ?_
        refine AO.val rfl rfl (callLV_ok rfl rfl rfl (es := [.s (List.map encEntry x14)]) ⟨(.rowR rfl (.map fun y => .vs rfl)), trivial⟩ (impl_AreEntries_ok _ _ (hx17)) (zfree_v _) rfl) ?_
        refine AO.pure T rfl rfl rfl ?_
        refine AO.pureG T [] rfl trivial rfl rfl ?_
        refine AO.guard [63] rfl ⟨fun h => h, trivial⟩ (fun hg => callLV_ok rfl rfl rfl (es := [.s (List.map encEntry x14), .f 65 []]) ⟨(.rowR rfl (.map fun y => .vs rfl)), .free rfl, trivial⟩ (slices_IsSortedFunc_Entry_ok fuel _ 65 [] rfl (fun a0 a1 => impl_compareEntries_p a0 a1 ) (fun a0 a1 q h => impl_compareEntries_ok a0 a1  q h) _ (optT hx19 hg)) (zfree_v _) rfl) rfl ?_
        refine AO.val rfl rfl (pick_and rfl rfl rfl rfl) ?_
        refine AO.pure T rfl rfl rfl ?_
        refine AO.nil ?_
        refine AW.ret ?_
        cases someE hH
        exact ⟨trivial, _, [], rfl, .c (.c .v), by decide⟩
      | cons y4 ys5 =>
        rw [hd6] at hH
        rw [impl_IsSeason_l1] at hH
        have hlt8 := drop_lt hd6
        refine AW.seq ?_
        refine AW.region ?_
        refine AO.pure T rfl rfl rfl ?_
        refine AO.nil ?_
        refine AW.seq ?_
        refine AW.condT' (b := decide ((k3 : Int) < (sA.lines.length : Int))) rfl (rngT hlt8) ?_
        refine AW.skip ?_
        refine AW.seq ?_
        refine AW.block ?_
        refine AW.seq ?_
        refine AW.region ?_
        refine AO.pure T rfl rfl rfl ?_
        refine AO.val rfl rfl (ix_map_ok T rfl rfl rfl rfl rfl (getI_drop hd6) rfl) ?_
        refine AO.pure T rfl rfl rfl ?_
        refine AO.step rfl (alloc_ok T rfl 5 rfl rfl rfl rfl rfl) ?_
        refine AO.pure T rfl rfl rfl ?_
        refine AO.step rfl (store_ok T rfl rfl rfl rfl rfl rfl rfl rfl rfl) ?_
        refine AO.nil ?_
        refine AW.seq ?_
        refine AW.seq ?_
        refine AW.region ?_
        refine AO.pure T rfl rfl rfl ?_
        refine AO.pure T rfl rfl rfl ?_
        refine AO.val rfl rfl (len_map_ok T rfl rfl rfl) ?_
        refine AO.pure T rfl rfl rfl ?_
        refine AO.pure T rfl rfl rfl ?_
        refine AO.pureG T [] rfl trivial rfl rfl ?_
        refine AO.pureG T [29] rfl ⟨fun h => h, trivial⟩ rfl rfl ?_
        refine AO.guard [30] rfl ⟨fun h => h, trivial⟩ (fun hg => len_map_ok T rfl rfl rfl) rfl ?_
        refine AO.pureG T [31] rfl ⟨fun h => h, trivial⟩ rfl rfl ?_
        refine AO.val rfl rfl (pick_or rfl rfl rfl rfl) ?_
        refine AO.pure T rfl rfl rfl ?_
        refine AO.pureG T [] rfl trivial rfl rfl ?_
        refine AO.pureG T [35] rfl ⟨fun h => h, trivial⟩ rfl rfl ?_
        refine AO.guard [36] rfl ⟨fun h => h, trivial⟩ (fun hg => len_map_ok T rfl rfl rfl) rfl ?_
        refine AO.pureG T [] rfl trivial rfl rfl ?_
        refine AO.pureG T [38] rfl ⟨fun h => h, trivial⟩ rfl rfl ?_
        refine AO.guard [39] rfl ⟨fun h => h, trivial⟩ (fun hg => len_map_ok T rfl rfl rfl) rfl ?_
        refine AO.pureG T [37, 40] rfl ⟨fun h => h, fun h => h, trivial⟩ rfl rfl ?_
        refine AO.val rfl rfl (pick_or rfl rfl rfl rfl) ?_
        refine AO.nil ?_
        refine AW.le (Le.cut 0 0 (σ' := (⟨[(1, .p 1 0), (3, .v (.int .i64 (k3 : Int))), (4, .p 5 0), (17, .s (List.map encLine sA.lines)), (18, .v (.int .i64 (sA.lines.length : Int))), (19, .v (.int .i64 (k3 : Int))), (42, .v (.bool ((((y4.events.length : Int) == 0) || decide ((y4.events.length : Int) > 80)) || ((y4.events.length : Int) != (y4.points.length : Int)))))], [(1, .box [.v (.int .i64 sA.best), .s (List.map encLine sA.lines)]), (5, .box [.v (.int .i64 y4.skater), .s (List.map encInt y4.events), .s (List.map encInt y4.points)])], 66, []⟩ : St)) rfl (by repeat' (first | exact trivial | refine ⟨⟨_, rfl, rfl⟩, ?_⟩)) (by repeat' (first | exact trivial | refine ⟨⟨_, rfl, rfl⟩, ?_⟩)) rfl) ?_
        refine AW.cond (b := ((((y4.events.length : Int) == 0) || decide ((y4.events.length : Int) > 80)) || ((y4.events.length : Int) != (y4.points.length : Int)))) rfl (fun hc => ?_) (fun hc => ?_)
        · replace hH := condT hc hH
          refine AW.seq ?_
          refine AW.region ?_
          refine AO.pure T rfl rfl rfl ?_
          refine AO.nil ?_
          refine AW.ret ?_
          cases someE hH
          exact ⟨trivial, _, [], rfl, .c (.c .v), by decide⟩
        · replace hH := condF hc hH
          refine AW.skip ?_
          refine AW.seq ?_
          obtain ⟨x20, hx21, hH⟩ := bindE hH
          refine AW.drawn 12 6 [] mix (by kernel_rfl) rfl ?_
          refine AD.pure T rfl rfl rfl ?_
          refine AD.pure T rfl rfl rfl ?_
          refine AD.pure T rfl rfl rfl ?_
          refine AD.pureG T [] rfl trivial rfl rfl ?_
          refine AD.pureG T [46] rfl ⟨fun h => h, trivial⟩ rfl rfl ?_
          refine AD.pureG T [] rfl trivial rfl rfl ?_
          refine AD.guard [48] rfl ⟨fun h => h, trivial⟩ (fun hg => arw_ok rfl rfl rfl rfl) rfl ?_
          refine AD.guard [47, 49] rfl ⟨fun h => h, fun h => h, trivial⟩ (fun hg => ix_map_ok T rfl rfl rfl rfl rfl (optT hx21 hg) rfl) rfl ?_
          refine AD.pureG T [50] rfl ⟨fun h => h, trivial⟩ rfl rfl ?_
          refine AD.pureG T [51] rfl ⟨fun h => h, trivial⟩ rfl rfl ?_
          refine AD.pureG T [] rfl trivial rfl rfl ?_
          refine AD.pureG T [53] rfl ⟨fun h => h, trivial⟩ rfl rfl ?_
          refine AD.nil ?_
          refine AO.pureG T [52, 54] rfl ⟨fun h => h, fun h => h, trivial⟩ rfl rfl ?_
          refine AO.val rfl rfl (pick_and rfl rfl rfl rfl) ?_
          refine AO.nil ?_
          refine AW.cond (b := (decide ((k3 : Int) > 0) && decide (x20.skater ≥ y4.skater))) rfl (fun hc => ?_) (fun hc => ?_)
          · replace hH := condT hc hH
            refine AW.seq ?_
            refine AW.region ?_
            refine AO.pure T rfl rfl rfl ?_
            refine AO.nil ?_
            refine AW.ret ?_
            cases someE hH
            exact ⟨trivial, _, [], rfl, .c (.c .v), by decide⟩
          · replace hH := condF hc hH
            refine AW.skip ?_
            refine AW.region ?_
            refine AO.val rfl rfl (ar_ok rfl rfl rfl rfl (inI_succ hlt8 hb7)) ?_
            refine AO.pure T rfl rfl rfl ?_
            refine AO.nil ?_
            refine ⟨k3 + 1, ⟨Nat.succ_le_of_lt hlt8, (by rw [drop_succ_of hd6]; exact hH)⟩, (by have := hlt8; dsimp only; omega), ?_⟩
            exact Le.cut 0 0 rfl (by repeat' (first | exact trivial | refine ⟨⟨_, rfl, rfl⟩, ?_⟩)) (by repeat' (first | exact trivial | refine ⟨⟨_, rfl, rfl⟩, ?_⟩)) rfl

def impl_lineOf_l1 (skater : Int) : List Line → Nat → Option Line
  | [], k1 =>
    some (Line.mk skater [] [])
  | y2 :: ys3, k1 =>
    cond (y2.skater == skater)
      (some y2)
      (impl_lineOf_l1 skater ys3 (k1 + 1))
def impl_lineOf_p (sA : Season) (skater : Int) : Option Line :=
  impl_lineOf_l1 skater sA.lines 0
theorem impl_lineOf_ok (sA : Season) (skater : Int) (r : Line) (hH : impl_lineOf_p sA skater = some r) : SpecR Try.prog 69 [.g (encSeason sA), .v (.int .i64 skater)] (.g (encLine r)) := by
  refine fn_ok T Try.func69 rfl (by decide) rfl ?_
  refine AW.seq ?_
  refine AW.region ?_
  refine AO.step rfl (box_ok T rfl 1 rfl rfl rfl rfl) ?_
  refine AO.step rfl (alloc_ok T rfl 2 rfl rfl rfl rfl rfl) ?_
  refine AO.nil ?_
  refine AW.seq ?_
  refine AW.seq ?_
  refine AW.region ?_
  refine AO.pure T rfl rfl rfl ?_
  refine AO.pure T rfl rfl rfl ?_
  refine AO.val rfl rfl (len_map_ok T rfl rfl rfl) ?_
  refine AO.pure T rfl rfl rfl ?_
  refine AO.nil ?_
  refine AW.block ?_
  refine AW.loopS (fun s : Nat => (⟨[(1, .v (.int .i64 skater)), (4, .p 2 0), (8, .s (List.map encLine sA.lines)), (9, .v (.int .i64 (sA.lines.length : Int))), (10, .v (.int .i64 (s : Int)))], [(2, .box [.v (.int .i64 0), .w 0 [], .w 0 []])], 22, []⟩ : St)) (fun s => s ≤ sA.lines.length ∧ impl_lineOf_l1 skater (sA.lines.drop s) s = some r) (fun s => sA.lines.length - s) 0 ⟨Nat.zero_le _, hH⟩ ?_ ?_
  · exact Le.cut 0 0 rfl (by repeat' (first | exact trivial | refine ⟨⟨_, rfl, rfl⟩, ?_⟩)) (by repeat' (first | exact trivial | refine ⟨⟨_, rfl, rfl⟩, ?_⟩)) rfl
  · rintro k1 ⟨hk, hH⟩
    replace hH : impl_lineOf_l1 skater (sA.lines.drop k1) k1 = some r := hH
    show AW _ _ _ (⟨[(1, .v (.int .i64 skater)), (4, .p 2 0), (8, .s (List.map encLine sA.lines)), (9, .v (.int .i64 (sA.lines.length : Int))), (10, .v (.int .i64 (k1 : Int)))], [(2, .box [.v (.int .i64 0), .w 0 [], .w 0 []])], 22, []⟩ : St)
    refine AW.boundM (t := 8) (l := sA.lines) rfl (fun hb5 => ?_)
    cases hd4 : sA.lines.drop k1 with
    | nil =>
      rw [hd4] at hH
      rw [impl_lineOf_l1] at hH
      have hlt6 := drop_ge hd4
      refine AW.seq ?_
      refine AW.region ?_
      refine AO.pure T rfl rfl rfl ?_
      refine AO.nil ?_
      refine AW.seq ?_
      refine AW.condF' (b := decide ((k1 : Int) < (sA.lines.length : Int))) rfl (rngF hlt6) ?_
      refine AW.exit ?_
      refine AW.seq ?_
      refine AW.region ?_
      refine AO.pure T rfl rfl rfl ?_
      refine AO.pure T rfl rfl rfl ?_
      refine AO.step rfl (store_ok T rfl rfl rfl rfl rfl rfl rfl rfl rfl) ?_
      refine AO.nil ?_
      refine AW.ret ?_
      cases someE hH
      exact ⟨trivial, _, [], rfl, .c (.g (expLC_cons .v (expLC_cons .nilS (expLC_cons .nilS (expLC_nil))))), by decide⟩
    | cons y2 ys3 =>
      rw [hd4] at hH
      rw [impl_lineOf_l1] at hH
      have hlt6 := drop_lt hd4
      refine AW.seq ?_
      refine AW.region ?_
      refine AO.pure T rfl rfl rfl ?_
      refine AO.nil ?_
      refine AW.seq ?_
      refine AW.condT' (b := decide ((k1 : Int) < (sA.lines.length : Int))) rfl (rngT hlt6) ?_
      refine AW.skip ?_
      refine AW.seq ?_
      refine AW.block ?_
      refine AW.seq ?_
      refine AW.region ?_
      refine AO.val rfl rfl (ix_map_ok T rfl rfl rfl rfl rfl (getI_drop hd4) rfl) ?_
      refine AO.pure T rfl rfl rfl ?_
      refine AO.step rfl (alloc_ok T rfl 5 rfl rfl rfl rfl rfl) ?_
      refine AO.step rfl (store_ok T rfl rfl rfl rfl rfl rfl rfl rfl rfl) ?_
      refine AO.nil ?_
      refine AW.seq ?_
      refine AW.region ?_
      refine AO.pure T rfl rfl rfl ?_
      refine AO.pure T rfl rfl rfl ?_
      refine AO.pure T rfl rfl rfl ?_
      refine AO.pure T rfl rfl rfl ?_
      refine AO.nil ?_
      refine AW.cond (b := (y2.skater == skater)) rfl (fun hc => ?_) (fun hc => ?_)
      · replace hH := condT hc hH
        refine AW.seq ?_
        refine AW.region ?_
        refine AO.pure T rfl rfl rfl ?_
        refine AO.step rfl (store_ok T rfl rfl rfl rfl rfl rfl rfl rfl rfl) ?_
        refine AO.nil ?_
        refine AW.ret ?_
        cases someE hH
        exact ⟨trivial, _, [], rfl, .c (.g (expLC_cons .v (expLC_cons .s (expLC_cons .s (expLC_nil))))), by decide⟩
      · replace hH := condF hc hH
        refine AW.skip ?_
        refine AW.region ?_
        refine AO.val rfl rfl (ar_ok rfl rfl rfl rfl (inI_succ hlt6 hb5)) ?_
        refine AO.pure T rfl rfl rfl ?_
        refine AO.nil ?_
        refine ⟨k1 + 1, ⟨Nat.succ_le_of_lt hlt6, (by rw [drop_succ_of hd4]; exact hH)⟩, (by have := hlt6; dsimp only; omega), ?_⟩
        exact Le.cut 0 0 rfl (by repeat' (first | exact trivial | refine ⟨⟨_, rfl, rfl⟩, ?_⟩)) (by repeat' (first | exact trivial | refine ⟨⟨_, rfl, rfl⟩, ?_⟩)) rfl

def impl_copyInts_p (l : List Int) : Option (List Int) :=
  (need (fitsB 8 l.length)).bind fun u1 =>
  some l
theorem impl_copyInts_ok (l : List Int) (r : (List Int)) (hH : impl_copyInts_p l = some r) : SpecR Try.prog 86 [.s (List.map encInt l)] (.w 1 (r.map encInt)) := by
  refine fn_ok T Try.func86 rfl (by decide) rfl ?_
  refine AW.seq ?_
  refine AW.region ?_
  refine AO.pure T rfl rfl rfl ?_
  refine AO.nil ?_
  refine AW.seq ?_
  obtain ⟨u1, hx2, hH⟩ := bindE hH
  refine AW.region ?_
  refine AO.step rfl (mk0_ok T rfl rfl rfl rfl) ?_
  refine AO.pure T rfl rfl rfl ?_
  refine AO.step rfl (app_ws_map T rfl 1 rfl rfl rfl rfl rfl (by decide) (by decide) rfl rfl (fun _ => rfl) (needT (hx2)) rfl rfl) ?_
  refine AO.pure T rfl rfl rfl ?_
  refine AO.nil ?_
  refine AW.ret ?_
  cases someE hH
  exact ⟨trivial, _, [1], rfl, .c (.c (.rowR rfl)), by decide⟩

def slices_Sort_int_p (x : List Int) : Option (List Int) := (need (Nat.blt x.length 4611686018427387904)).bind fun _ => some (sortI x)
theorem slices_Sort_int_ok (x : List Int) (r : List Int) (hH : slices_Sort_int_p x = some r) : SpecM Try.prog 87 [.w 1 (x.map encInt)] [.w 1 (r.map encInt)] (.t []) := by
  obtain ⟨u, hu, hr⟩ := bindE hH
  cases someE hr
  exact spec_sortI ⟨_, Try.func87, rfl, by decide⟩ Try.slices_Sort_int Try.slices_Sort_int_none x (Nat.le_of_ble_eq_true (needT hu))

def impl_sumInts_l1 : List Int → Nat → Int → Option Int
  | [], k1, v8 =>
    some v8
  | y2 :: ys3, k1, v8 =>
    impl_sumInts_l1 ys3 (k1 + 1) (w64 (v8 + y2))
def impl_sumInts_p (l : List Int) : Option Int :=
  impl_sumInts_l1 l 0 0
theorem impl_sumInts_ok (l : List Int) (r : Int) (hH : impl_sumInts_p l = some r) : SpecR Try.prog 70 [.s (List.map encInt l)] (.v (.int .i64 r)) := by
  refine fn_ok T Try.func70 rfl (by decide) rfl ?_
  refine AW.seq ?_
  refine AW.region ?_
  refine AO.pure T rfl rfl rfl ?_
  refine AO.nil ?_
  refine AW.seq ?_
  refine AW.region ?_
  refine AO.pure T rfl rfl rfl ?_
  refine AO.nil ?_
  refine AW.seq ?_
  refine AW.seq ?_
  refine AW.region ?_
  refine AO.pure T rfl rfl rfl ?_
  refine AO.val rfl rfl (len_map_ok T rfl rfl rfl) ?_
  refine AO.pure T rfl rfl rfl ?_
  refine AO.nil ?_
  refine AW.block ?_
  refine AW.loopS (fun s : Nat × Int => (⟨[(3, .v (.int .i64 s.2)), (6, .s (List.map encInt l)), (7, .v (.int .i64 (l.length : Int))), (8, .v (.int .i64 (s.1 : Int)))], [], 17, []⟩ : St)) (fun s => s.1 ≤ l.length ∧ impl_sumInts_l1 (l.drop s.1) s.1 s.2 = some r) (fun s => l.length - s.1) (0, 0) ⟨Nat.zero_le _, hH⟩ ?_ ?_
  · exact Le.cut 0 0 rfl (by repeat' (first | exact trivial | refine ⟨⟨_, rfl, rfl⟩, ?_⟩)) (by repeat' (first | exact trivial | refine ⟨⟨_, rfl, rfl⟩, ?_⟩)) rfl
  · rintro ⟨k1, v8⟩ ⟨hk, hH⟩
    replace hH : impl_sumInts_l1 (l.drop k1) k1 v8 = some r := hH
    show AW _ _ _ (⟨[(3, .v (.int .i64 v8)), (6, .s (List.map encInt l)), (7, .v (.int .i64 (l.length : Int))), (8, .v (.int .i64 (k1 : Int)))], [], 17, []⟩ : St)
    refine AW.boundM (t := 6) (l := l) rfl (fun hb5 => ?_)
    cases hd4 : l.drop k1 with
    | nil =>
      rw [hd4] at hH
      rw [impl_sumInts_l1] at hH
      have hlt6 := drop_ge hd4
      refine AW.seq ?_
      refine AW.region ?_
      refine AO.pure T rfl rfl rfl ?_
      refine AO.nil ?_
      refine AW.seq ?_
      refine AW.condF' (b := decide ((k1 : Int) < (l.length : Int))) rfl (rngF hlt6) ?_
      refine AW.exit ?_
      refine AW.seq ?_
      refine AW.region ?_
      refine AO.pure T rfl rfl rfl ?_
      refine AO.pure T rfl rfl rfl ?_
      refine AO.nil ?_
      refine AW.ret ?_
      cases someE hH
      exact ⟨trivial, _, [], rfl, .c (.c .v), by decide⟩
    | cons y2 ys3 =>
      rw [hd4] at hH
      rw [impl_sumInts_l1] at hH
      have hlt6 := drop_lt hd4
      refine AW.seq ?_
      refine AW.region ?_
      refine AO.pure T rfl rfl rfl ?_
      refine AO.nil ?_
      refine AW.seq ?_
      refine AW.condT' (b := decide ((k1 : Int) < (l.length : Int))) rfl (rngT hlt6) ?_
      refine AW.skip ?_
      refine AW.seq ?_
      refine AW.block ?_
      refine AW.seq ?_
      refine AW.region ?_
      refine AO.val rfl rfl (ix_map_ok T rfl rfl rfl rfl rfl (getI_drop hd4) rfl) ?_
      refine AO.pure T rfl rfl rfl ?_
      refine AO.pure T rfl rfl rfl ?_
      refine AO.nil ?_
      refine AW.region ?_
      refine AO.pure T rfl rfl rfl ?_
      refine AO.pure T rfl rfl rfl ?_
      refine AO.val rfl rfl (arw_ok rfl rfl rfl rfl) ?_
      refine AO.pure T rfl rfl rfl ?_
      refine AO.nil ?_
      refine AW.region ?_
      refine AO.val rfl rfl (ar_ok rfl rfl rfl rfl (inI_succ hlt6 hb5)) ?_
      refine AO.pure T rfl rfl rfl ?_
      refine AO.nil ?_
      refine ⟨(k1 + 1, w64 (v8 + y2)), ⟨Nat.succ_le_of_lt hlt6, (by rw [drop_succ_of hd4]; exact hH)⟩, (by have := hlt6; dsimp only; omega), ?_⟩
      exact Le.cut 0 0 rfl (by repeat' (first | exact trivial | refine ⟨⟨_, rfl, rfl⟩, ?_⟩)) (by repeat' (first | exact trivial | refine ⟨⟨_, rfl, rfl⟩, ?_⟩)) rfl

def impl_MostStill_l1 (sA : Season) (events : Int) (most : Int) : Nat → List Int → Int → Option ((Int × Bool))
  | 0, _, _ => none
  | k13 + 1, v20, v21 =>
    cond (decide (v21 < events))
      ((need (fitsB 8 (v20.length + ([most]).length))).bind fun u23 =>
      impl_MostStill_l1 sA events most k13 (v20 ++ [most]) (w64 (v21 + 1)))
      ((slices_Sort_int_p v20).bind fun x25 =>
      (sliceLo x25 (max (w64 ((x25.length : Int) - sA.best)) 0)).bind fun x27 =>
      (impl_sumInts_p x27).bind fun x29 =>
      some (x29, true))
def impl_MostStill_p (fuel : Nat) (sA : Season) (skater : Int) (events : Int) (most : Int) : Option (Int × Bool) :=
  (impl_IsSeason_p fuel sA).bind fun x1 =>
  (opt (!(!x1)) default (impl_isSkater_p skater)).bind fun x3 =>
  (opt (!((!x1) || (!x3))) default (impl_within_p events 0 20)).bind fun x5 =>
  (opt (!(((!x1) || (!x3)) || (!x5))) default (impl_within_p most 0 100000)).bind fun x7 =>
  cond ((((!x1) || (!x3)) || (!x5)) || (!x7))
    (some (0, false))
    ((impl_lineOf_p sA skater).bind fun x9 =>
    (impl_copyInts_p x9.points).bind fun x11 =>
    impl_MostStill_l1 sA events most fuel x11 0)
theorem impl_MostStill_ok (fuel : Nat) (sA : Season) (skater : Int) (events : Int) (most : Int) (r : (Int × Bool)) (hH : impl_MostStill_p fuel sA skater events most = some r) : SpecR Try.prog 38 [.g (encSeason sA), .v (.int .i64 skater), .v (.int .i64 events), .v (.int .i64 most)] (.t [.v (.int .i64 r.1), .v (.bool r.2)]) := by
  refine fn_ok T Try.func38 rfl (by decide) rfl ?_
  refine AW.seq ?_
  refine AW.region ?_
  refine AO.step rfl (box_ok T rfl 1 rfl rfl rfl rfl) ?_
  refine AO.pure T rfl rfl rfl ?_
  refine AO.pure T rfl rfl rfl ?_
  refine AO.nil ?_
  refine AW.seq ?_
  refine AW.seq ?_
  obtain ⟨x1, hx2, hH⟩ := bindE hH
  obtain ⟨x3, hx4, hH⟩ := bindE hH
  obtain ⟨x5, hx6, hH⟩ := bindE hH
  obtain ⟨x7, hx8, hH⟩ := bindE hH
  refine AW.region ?_
  refine AO.pure T rfl rfl rfl ?_
  refine AO.val rfl rfl (callV_ok rfl rfl rfl rfl (impl_IsSeason_ok fuel _ _ (hx2)) rfl) ?_
  refine AO.pure T rfl rfl rfl ?_
  refine AO.pure T rfl rfl rfl ?_
  refine AO.pureG T [] rfl trivial rfl rfl ?_
  refine AO.guard [15] rfl ⟨fun h => h, trivial⟩ (fun hg => callV_ok rfl rfl rfl rfl (impl_isSkater_ok _ _ (optT hx4 hg)) rfl) rfl ?_
  refine AO.pureG T [16] rfl ⟨fun h => h, trivial⟩ rfl rfl ?_
  refine AO.val rfl rfl (pick_or rfl rfl rfl rfl) ?_
  refine AO.pure T rfl rfl rfl ?_
  refine AO.pureG T [] rfl trivial rfl rfl ?_
  refine AO.guard [20] rfl ⟨fun h => h, trivial⟩ (fun hg => callV_ok rfl rfl rfl rfl (impl_within_ok _ _ _ _ (optT hx6 hg)) rfl) rfl ?_
  refine AO.pureG T [21] rfl ⟨fun h => h, trivial⟩ rfl rfl ?_
  refine AO.val rfl rfl (pick_or rfl rfl rfl rfl) ?_
  refine AO.pure T rfl rfl rfl ?_
  refine AO.pureG T [] rfl trivial rfl rfl ?_
  refine AO.guard [25] rfl ⟨fun h => h, trivial⟩ (fun hg => callV_ok rfl rfl rfl rfl (impl_within_ok _ _ _ _ (optT hx8 hg)) rfl) rfl ?_
  refine AO.pureG T [26] rfl ⟨fun h => h, trivial⟩ rfl rfl ?_
  refine AO.val rfl rfl (pick_or rfl rfl rfl rfl) ?_
  refine AO.nil ?_
  refine AW.cond (b := ((((!x1) || (!x3)) || (!x5)) || (!x7))) rfl (fun hc => ?_) (fun hc => ?_)
  · replace hH := condT hc hH
    refine AW.seq ?_
    refine AW.region ?_
    refine AO.pure T rfl rfl rfl ?_
    refine AO.pure T rfl rfl rfl ?_
    refine AO.nil ?_
    refine AW.ret ?_
    cases someE hH
    exact ⟨trivial, _, [], rfl, .t (expLG_cons (.c .v) (expLG_cons (.c .v) (expLG_nil))), by decide⟩
  · replace hH := condF hc hH
    refine AW.skip ?_
    refine AW.seq ?_
    obtain ⟨x9, hx10, hH⟩ := bindE hH
    obtain ⟨x11, hx12, hH⟩ := bindE hH
    refine AW.region ?_
    refine AO.pure T rfl rfl rfl ?_
    refine AO.pure T rfl rfl rfl ?_
    refine AO.val rfl rfl (callV_ok rfl rfl rfl rfl (impl_lineOf_ok _ _ _ (hx10)) rfl) ?_
    refine AO.pure T rfl rfl rfl ?_
    refine AO.step rfl (call_ok rfl 2 rfl rfl rfl (impl_copyInts_ok _ _ (hx12)) rfl rfl rfl) ?_
    refine AO.pure T rfl rfl rfl ?_
    refine AO.nil ?_
    refine AW.le (Le.cut 0 0 (σ' := (⟨[(2, .v (.int .i64 events)), (3, .v (.int .i64 most)), (4, .p 1 0), (10, .R 2)], [(1, .box [.v (.int .i64 sA.best), .s (List.map encLine sA.lines)]), (2, .row 1 (List.map encInt x11))], 53, []⟩ : St)) rfl (by repeat' (first | exact trivial | refine ⟨⟨_, rfl, rfl⟩, ?_⟩)) (by repeat' (first | exact trivial | refine ⟨⟨_, rfl, rfl⟩, ?_⟩)) rfl) ?_
    refine AW.seq ?_
    refine AW.seq ?_
    refine AW.region ?_
    refine AO.pure T rfl rfl rfl ?_
    refine AO.pure T rfl rfl rfl ?_
    refine AO.nil ?_
    refine AW.block ?_
    refine AW.loopS (fun s : Nat × (List Int) × Int => (⟨[(3, .v (.int .i64 most)), (4, .p 1 0), (10, .R 2), (34, .v (.int .i64 events)), (35, .v (.int .i64 s.2.2))], [(1, .box [.v (.int .i64 sA.best), .s (List.map encLine sA.lines)]), (2, .row 1 (List.map encInt s.2.1))], 53, []⟩ : St)) (fun s => impl_MostStill_l1 sA events most s.1 s.2.1 s.2.2 = some r) (fun s => s.1) (fuel, x11, 0) hH ?_ ?_
    · exact Le.cut 0 0 rfl (by repeat' (first | exact trivial | refine ⟨⟨_, rfl, rfl⟩, ?_⟩)) (by repeat' (first | exact trivial | refine ⟨⟨_, rfl, rfl⟩, ?_⟩)) rfl
    · rintro ⟨k13, v20, v21⟩ hH
      replace hH : impl_MostStill_l1 sA events most k13 v20 v21 = some r := hH
      show AW _ _ _ (⟨[(3, .v (.int .i64 most)), (4, .p 1 0), (10, .R 2), (34, .v (.int .i64 events)), (35, .v (.int .i64 v21))], [(1, .box [.v (.int .i64 sA.best), .s (List.map encLine sA.lines)]), (2, .row 1 (List.map encInt v20))], 53, []⟩ : St)
      cases k13 with
      | zero => cases (show none = some _ from hH)
      | succ k13 =>
        rw [impl_MostStill_l1] at hH
        refine AW.seq ?_
        refine AW.region ?_
        refine AO.pure T rfl rfl rfl ?_
        refine AO.nil ?_
        refine AW.seq ?_
        refine AW.cond (b := decide (v21 < events)) rfl (fun hc => ?_) (fun hc => ?_)
        · replace hH := condT hc hH
          refine AW.skip ?_
          refine AW.seq ?_
          refine AW.block ?_
          obtain ⟨u23, hx24, hH⟩ := bindE hH
          refine AW.region ?_
          refine AO.pure T rfl rfl rfl ?_
          refine AO.pure T rfl rfl rfl ?_
          refine AO.step rfl (mk_map_ok T rfl 7 rfl rfl rfl rfl rfl (f := encInt) (l := [most]) rfl rfl (fun _ => rfl) rfl rfl rfl rfl rfl) ?_
          refine AO.step rfl (app_rv_map T rfl 8 rfl rfl rfl rfl rfl (by decide) rfl rfl rfl rfl (fun _ => rfl) (needT (hx24)) rfl rfl) ?_
          refine AO.pure T rfl rfl rfl ?_
          refine AO.nil ?_
          refine AW.region ?_
          refine AO.val rfl rfl (arw_ok rfl rfl rfl rfl) ?_
          refine AO.pure T rfl rfl rfl ?_
          refine AO.nil ?_
          refine ⟨(k13, (v20 ++ [most]), w64 (v21 + 1)), hH, Nat.lt_succ_self _, ?_⟩
          exact Le.cut 8 2 rfl (by repeat' (first | exact trivial | refine ⟨⟨_, rfl, rfl⟩, ?_⟩)) (by repeat' (first | exact trivial | refine ⟨⟨_, rfl, rfl⟩, ?_⟩)) rfl
        · replace hH := condF hc hH
          refine AW.exit ?_
          refine AW.seq ?_
          obtain ⟨x25, hx26, hH⟩ := bindE hH
          refine AW.region ?_
          refine AO.pure T rfl rfl rfl ?_
          refine AO.step rfl (callM_ok rfl 9 rfl rfl (es := [.w 1 (v20.map encInt)]) (outs := [.w 1 (x25.map encInt)]) (ids := [2]) (by exact expLG_cons (.c (.rowR rfl)) (expLG_nil)) (by decide) (.inl (by rfl)) (by rfl) (slices_Sort_int_ok _ _ (hx26)) rfl (by rfl) rfl) ?_
          refine AO.nil ?_
          refine AW.seq ?_
          obtain ⟨x27, hx28, hH⟩ := bindE hH
          obtain ⟨x29, hx30, hH⟩ := bindE hH
          refine AW.le (Le.freezeM 2 (g := encInt) rfl (fun y => .vs rfl)) ?_
          refine AW.region ?_
          refine AO.pure T rfl rfl rfl ?_
          refine AO.pure T rfl rfl rfl ?_
          refine AO.val rfl rfl (len_map_ok T rfl rfl rfl) ?_
          refine AO.pure T rfl rfl rfl ?_
          refine AO.pure T rfl rfl rfl ?_
          refine AO.val rfl rfl (arw_ok rfl rfl rfl rfl) ?_
          refine AO.val rfl rfl (max_ok rfl rfl rfl) ?_
          refine AO.val rfl rfl (slice_lo_map_ok T rfl rfl rfl rfl rfl (hx28) (fun _ => rfl)) ?_
          refine AO.val rfl rfl (callV_ok rfl rfl rfl rfl (impl_sumInts_ok _ _ (hx30)) rfl) ?_
          refine AO.pure T rfl rfl rfl ?_
          refine AO.pure T rfl rfl rfl ?_
          refine AO.nil ?_
          refine AW.ret ?_
          cases someE hH
          exact ⟨trivial, _, [], rfl, .t (expLG_cons (.c .v) (expLG_cons (.c .v) (expLG_nil))), by decide⟩

def laws_eqIntS_l1 (b : List Int) : List Int → Nat → Option Bool
  | [], k1 =>
    some true
  | y2 :: ys3, k1 =>
    (getI b (k1 : Int)).bind fun x12 =>
    cond (y2 != x12)
      (some false)
      (laws_eqIntS_l1 b ys3 (k1 + 1))
def laws_eqIntS_p (a : List Int) (b : List Int) : Option Bool :=
  cond ((a.length : Int) != (b.length : Int))
    (some false)
    (laws_eqIntS_l1 b a 0)
theorem laws_eqIntS_ok (a : List Int) (b : List Int) (r : Bool) (hH : laws_eqIntS_p a b = some r) : SpecR Try.prog 29 [.s (List.map encInt a), .s (List.map encInt b)] (.v (.bool r)) := by
  refine fn_ok T Try.func29 rfl (by decide) rfl ?_
  refine AW.seq ?_
  refine AW.region ?_
  refine AO.pure T rfl rfl rfl ?_
  refine AO.nil ?_
  refine AW.seq ?_
  refine AW.seq ?_
  refine AW.region ?_
  refine AO.pure T rfl rfl rfl ?_
  refine AO.val rfl rfl (len_map_ok T rfl rfl rfl) ?_
  refine AO.pure T rfl rfl rfl ?_
  refine AO.val rfl rfl (len_map_ok T rfl rfl rfl) ?_
  refine AO.pure T rfl rfl rfl ?_
  refine AO.nil ?_
  refine AW.cond (b := ((a.length : Int) != (b.length : Int))) rfl (fun hc => ?_) (fun hc => ?_)
  · replace hH := condT hc hH
    refine AW.seq ?_
    refine AW.region ?_
    refine AO.pure T rfl rfl rfl ?_
    refine AO.nil ?_
    refine AW.ret ?_
    cases someE hH
    exact ⟨trivial, _, [], rfl, .c (.c .v), by decide⟩
  · replace hH := condF hc hH
    refine AW.skip ?_
    refine AW.seq ?_
    refine AW.seq ?_
    refine AW.region ?_
    refine AO.pure T rfl rfl rfl ?_
    refine AO.nil ?_
    refine AW.block ?_
    refine AW.loopS (fun s : Nat => (⟨[(0, .s (List.map encInt a)), (1, .s (List.map encInt b)), (5, .v (.int .i64 (s : Int)))], [], 26, []⟩ : St)) (fun s => s ≤ a.length ∧ laws_eqIntS_l1 b (a.drop s) s = some r) (fun s => a.length - s) 0 ⟨Nat.zero_le _, hH⟩ ?_ ?_
    · exact Le.cut 0 0 rfl (by repeat' (first | exact trivial | refine ⟨⟨_, rfl, rfl⟩, ?_⟩)) (by repeat' (first | exact trivial | refine ⟨⟨_, rfl, rfl⟩, ?_⟩)) rfl
    · rintro k1 ⟨hk, hH⟩
      replace hH : laws_eqIntS_l1 b (a.drop k1) k1 = some r := hH
      show AW _ _ _ (⟨[(0, .s (List.map encInt a)), (1, .s (List.map encInt b)), (5, .v (.int .i64 (k1 : Int)))], [], 26, []⟩ : St)
      refine AW.boundM (t := 0) (l := a) rfl (fun hb5 => ?_)
      cases hd4 : a.drop k1 with
      | nil =>
        rw [hd4] at hH
        rw [laws_eqIntS_l1] at hH
        have hlt6 := drop_ge hd4
        refine AW.seq ?_
        refine AW.seq ?_
        refine AW.region ?_
        refine AO.pure T rfl rfl rfl ?_
        refine AO.pure T rfl rfl rfl ?_
        refine AO.val rfl rfl (len_map_ok T rfl rfl rfl) ?_
        refine AO.pure T rfl rfl rfl ?_
        refine AO.nil ?_
        refine AW.condF' (b := decide ((k1 : Int) < (a.length : Int))) rfl (rngF hlt6) ?_
        refine AW.exit ?_
        refine AW.seq ?_
        refine AW.region ?_
        refine AO.pure T rfl rfl rfl ?_
        refine AO.nil ?_
        refine AW.ret ?_
        cases someE hH
        exact ⟨trivial, _, [], rfl, .c (.c .v), by decide⟩
      | cons y2 ys3 =>
        rw [hd4] at hH
        rw [laws_eqIntS_l1] at hH
        have hlt6 := drop_lt hd4
        refine AW.seq ?_
        refine AW.seq ?_
        refine AW.region ?_
        refine AO.pure T rfl rfl rfl ?_
        refine AO.pure T rfl rfl rfl ?_
        refine AO.val rfl rfl (len_map_ok T rfl rfl rfl) ?_
        refine AO.pure T rfl rfl rfl ?_
        refine AO.nil ?_
        refine AW.condT' (b := decide ((k1 : Int) < (a.length : Int))) rfl (rngT hlt6) ?_
        refine AW.skip ?_
        refine AW.seq ?_
        refine AW.block ?_
        refine AW.seq ?_
        obtain ⟨x12, hx13, hH⟩ := bindE hH
        refine AW.drawn 8 1 [] mix (by kernel_rfl) rfl ?_
        refine AD.pure T rfl rfl rfl ?_
        refine AD.pure T rfl rfl rfl ?_
        refine AD.val rfl rfl (ix_map_ok T rfl rfl rfl rfl rfl (getI_drop hd4) rfl) ?_
        refine AD.pure T rfl rfl rfl ?_
        refine AD.pure T rfl rfl rfl ?_
        refine AD.pure T rfl rfl rfl ?_
        refine AD.val rfl rfl (ix_map_ok T rfl rfl rfl rfl rfl (hx13) rfl) ?_
        refine AD.pure T rfl rfl rfl ?_
        refine AD.nil ?_
        refine AO.pure T rfl rfl rfl ?_
        refine AO.nil ?_
        refine AW.cond (b := (y2 != x12)) rfl (fun hc => ?_) (fun hc => ?_)
        · replace hH := condT hc hH
          refine AW.seq ?_
          refine AW.region ?_
          refine AO.pure T rfl rfl rfl ?_
          refine AO.nil ?_
          refine AW.ret ?_
          cases someE hH
          exact ⟨trivial, _, [], rfl, .c (.c .v), by decide⟩
        · replace hH := condF hc hH
          refine AW.skip ?_
          refine AW.region ?_
          refine AO.pure T rfl rfl rfl ?_
          refine AO.val rfl rfl (ar_ok rfl rfl rfl rfl (inI_succ hlt6 hb5)) ?_
          refine AO.pure T rfl rfl rfl ?_
          refine AO.nil ?_
          refine ⟨k1 + 1, ⟨Nat.succ_le_of_lt hlt6, (by rw [drop_succ_of hd4]; exact hH)⟩, (by have := hlt6; dsimp only; omega), ?_⟩
          exact Le.cut 0 0 rfl (by repeat' (first | exact trivial | refine ⟨⟨_, rfl, rfl⟩, ?_⟩)) (by repeat' (first | exact trivial | refine ⟨⟨_, rfl, rfl⟩, ?_⟩)) rfl

def laws_eqLine_p (a : Line) (b : Line) : Option Bool :=
  cond (a.skater != b.skater)
    (some false)
    ((laws_eqIntS_p a.events b.events).bind fun x1 =>
    cond (!x1)
      (some false)
      ((laws_eqIntS_p a.points b.points).bind fun x3 =>
      cond (!x3)
        (some false)
        (some true)))
theorem laws_eqLine_ok (a : Line) (b : Line) (r : Bool) (hH : laws_eqLine_p a b = some r) : SpecR Try.prog 106 [.g (encLine a), .g (encLine b)] (.v (.bool r)) := by
  refine fn_ok T Try.func106 rfl (by decide) rfl ?_
  refine AW.seq ?_
  refine AW.region ?_
  refine AO.step rfl (box_ok T rfl 1 rfl rfl rfl rfl) ?_
  refine AO.step rfl (box_ok T rfl 2 rfl rfl rfl rfl) ?_
  refine AO.pure T rfl rfl rfl ?_
  refine AO.nil ?_
  refine AW.seq ?_
  refine AW.seq ?_
  refine AW.region ?_
  refine AO.pure T rfl rfl rfl ?_
  refine AO.pure T rfl rfl rfl ?_
  refine AO.pure T rfl rfl rfl ?_
  refine AO.pure T rfl rfl rfl ?_
  refine AO.pure T rfl rfl rfl ?_
  refine AO.nil ?_
  refine AW.cond (b := (a.skater != b.skater)) rfl (fun hc => ?_) (fun hc => ?_)
  · replace hH := condT hc hH
    refine AW.seq ?_
    refine AW.region ?_
    refine AO.pure T rfl rfl rfl ?_
    refine AO.nil ?_
    refine AW.ret ?_
    cases someE hH
    exact ⟨trivial, _, [], rfl, .c (.c .v), by decide⟩
  · replace hH := condF hc hH
    refine AW.skip ?_
    refine AW.seq ?_
    refine AW.seq ?_
    obtain ⟨x1, hx2, hH⟩ := bindE hH
    refine AW.region ?_
    refine AO.pure T rfl rfl rfl ?_
    refine AO.pure T rfl rfl rfl ?_
    refine AO.pure T rfl rfl rfl ?_
    refine AO.pure T rfl rfl rfl ?_
    refine AO.val rfl rfl (callV_ok rfl rfl rfl rfl (laws_eqIntS_ok _ _ _ (hx2)) rfl) ?_
    refine AO.pure T rfl rfl rfl ?_
    refine AO.nil ?_
    refine AW.cond (b := (!x1)) rfl (fun hc => ?_) (fun hc => ?_)
    · replace hH := condT hc hH
      refine AW.seq ?_
      refine AW.region ?_
      refine AO.pure T rfl rfl rfl ?_
      refine AO.nil ?_
      refine AW.ret ?_
      cases someE hH
      exact ⟨trivial, _, [], rfl, .c (.c .v), by decide⟩
    · replace hH := condF hc hH
      refine AW.skip ?_
      refine AW.seq ?_
      refine AW.seq ?_
      obtain ⟨x3, hx4, hH⟩ := bindE hH
      refine AW.region ?_
      refine AO.pure T rfl rfl rfl ?_
      refine AO.pure T rfl rfl rfl ?_
      refine AO.pure T rfl rfl rfl ?_
      refine AO.pure T rfl rfl rfl ?_
      refine AO.val rfl rfl (callV_ok rfl rfl rfl rfl (laws_eqIntS_ok _ _ _ (hx4)) rfl) ?_
      refine AO.pure T rfl rfl rfl ?_
      refine AO.nil ?_
      refine AW.cond (b := (!x3)) rfl (fun hc => ?_) (fun hc => ?_)
      · replace hH := condT hc hH
        refine AW.seq ?_
        refine AW.region ?_
        refine AO.pure T rfl rfl rfl ?_
        refine AO.nil ?_
        refine AW.ret ?_
        cases someE hH
        exact ⟨trivial, _, [], rfl, .c (.c .v), by decide⟩
      · replace hH := condF hc hH
        refine AW.skip ?_
        refine AW.seq ?_
        refine AW.region ?_
        refine AO.pure T rfl rfl rfl ?_
        refine AO.nil ?_
        refine AW.ret ?_
        cases someE hH
        exact ⟨trivial, _, [], rfl, .c (.c .v), by decide⟩

def laws_eqLineS_l1 (b : List Line) : List Line → Nat → Option Bool
  | [], k1 =>
    some true
  | y2 :: ys3, k1 =>
    (getI b (k1 : Int)).bind fun x16 =>
    (laws_eqLine_p y2 x16).bind fun x18 =>
    cond (!x18)
      (some false)
      (laws_eqLineS_l1 b ys3 (k1 + 1))
def laws_eqLineS_p (a : List Line) (b : List Line) : Option Bool :=
  cond ((a.length : Int) != (b.length : Int))
    (some false)
    (laws_eqLineS_l1 b a 0)
theorem laws_eqLineS_ok (a : List Line) (b : List Line) (r : Bool) (hH : laws_eqLineS_p a b = some r) : SpecR Try.prog 66 [.s (List.map encLine a), .s (List.map encLine b)] (.v (.bool r)) := by
  refine fn_ok T Try.func66 rfl (by decide) rfl ?_
  refine AW.seq ?_
  refine AW.region ?_
  refine AO.pure T rfl rfl rfl ?_
  refine AO.nil ?_
  refine AW.seq ?_
  refine AW.seq ?_
  refine AW.region ?_
  refine AO.pure T rfl rfl rfl ?_
  refine AO.val rfl rfl (len_map_ok T rfl rfl rfl) ?_
  refine AO.pure T rfl rfl rfl ?_
  refine AO.val rfl rfl (len_map_ok T rfl rfl rfl) ?_
  refine AO.pure T rfl rfl rfl ?_
  refine AO.nil ?_
  refine AW.cond (b := ((a.length : Int) != (b.length : Int))) rfl (fun hc => ?_) (fun hc => ?_)
  · replace hH := condT hc hH
    refine AW.seq ?_
    refine AW.region ?_
    refine AO.pure T rfl rfl rfl ?_
    refine AO.nil ?_
    refine AW.ret ?_
    cases someE hH
    exact ⟨trivial, _, [], rfl, .c (.c .v), by decide⟩
  · replace hH := condF hc hH
    refine AW.skip ?_
    refine AW.seq ?_
    refine AW.seq ?_
    refine AW.region ?_
    refine AO.pure T rfl rfl rfl ?_
    refine AO.nil ?_
    refine AW.block ?_
    refine AW.loopS (fun s : Nat => (⟨[(0, .s (List.map encLine a)), (1, .s (List.map encLine b)), (5, .v (.int .i64 (s : Int)))], [], 27, []⟩ : St)) (fun s => s ≤ a.length ∧ laws_eqLineS_l1 b (a.drop s) s = some r) (fun s => a.length - s) 0 ⟨Nat.zero_le _, hH⟩ ?_ ?_
    · exact Le.cut 0 0 rfl (by repeat' (first | exact trivial | refine ⟨⟨_, rfl, rfl⟩, ?_⟩)) (by repeat' (first | exact trivial | refine ⟨⟨_, rfl, rfl⟩, ?_⟩)) rfl
    · rintro k1 ⟨hk, hH⟩
      replace hH : laws_eqLineS_l1 b (a.drop k1) k1 = some r := hH
      show AW _ _ _ (⟨[(0, .s (List.map encLine a)), (1, .s (List.map encLine b)), (5, .v (.int .i64 (k1 : Int)))], [], 27, []⟩ : St)
      refine AW.boundM (t := 0) (l := a) rfl (fun hb5 => ?_)
      cases hd4 : a.drop k1 with
      | nil =>
        rw [hd4] at hH
        rw [laws_eqLineS_l1] at hH
        have hlt6 := drop_ge hd4
        refine AW.seq ?_
        refine AW.seq ?_
        refine AW.region ?_
        refine AO.pure T rfl rfl rfl ?_
        refine AO.pure T rfl rfl rfl ?_
        refine AO.val rfl rfl (len_map_ok T rfl rfl rfl) ?_
        refine AO.pure T rfl rfl rfl ?_
        refine AO.nil ?_
        refine AW.condF' (b := decide ((k1 : Int) < (a.length : Int))) rfl (rngF hlt6) ?_
        refine AW.exit ?_
        refine AW.seq ?_
        refine AW.region ?_
        refine AO.pure T rfl rfl rfl ?_
        refine AO.nil ?_
        refine AW.ret ?_
        cases someE hH
        exact ⟨trivial, _, [], rfl, .c (.c .v), by decide⟩
      | cons y2 ys3 =>
        rw [hd4] at hH
        rw [laws_eqLineS_l1] at hH
        have hlt6 := drop_lt hd4
        refine AW.seq ?_
        refine AW.seq ?_
        refine AW.region ?_
        refine AO.pure T rfl rfl rfl ?_
        refine AO.pure T rfl rfl rfl ?_
        refine AO.val rfl rfl (len_map_ok T rfl rfl rfl) ?_
        refine AO.pure T rfl rfl rfl ?_
        refine AO.nil ?_
        refine AW.condT' (b := decide ((k1 : Int) < (a.length : Int))) rfl (rngT hlt6) ?_
        refine AW.skip ?_
        refine AW.seq ?_
        refine AW.block ?_
        refine AW.seq ?_
        obtain ⟨x16, hx17, hH⟩ := bindE hH
        obtain ⟨x18, hx19, hH⟩ := bindE hH
        refine AW.drawn 8 1 [] mix (by kernel_rfl) rfl ?_
        refine AD.pure T rfl rfl rfl ?_
        refine AD.pure T rfl rfl rfl ?_
        refine AD.val rfl rfl (ix_map_ok T rfl rfl rfl rfl rfl (getI_drop hd4) rfl) ?_
        refine AD.pure T rfl rfl rfl ?_
        refine AD.pure T rfl rfl rfl ?_
        refine AD.pure T rfl rfl rfl ?_
        refine AD.val rfl rfl (ix_map_ok T rfl rfl rfl rfl rfl (hx17) rfl) ?_
        refine AD.pure T rfl rfl rfl ?_
        refine AD.nil ?_
        refine AO.val rfl rfl (callV_ok rfl rfl rfl rfl (laws_eqLine_ok _ _ _ (hx19)) rfl) ?_
        refine AO.pure T rfl rfl rfl ?_
        refine AO.nil ?_
        refine AW.cond (b := (!x18)) rfl (fun hc => ?_) (fun hc => ?_)
        · replace hH := condT hc hH
          refine AW.seq ?_
          refine AW.region ?_
          refine AO.pure T rfl rfl rfl ?_
          refine AO.nil ?_
          refine AW.ret ?_
          cases someE hH
          exact ⟨trivial, _, [], rfl, .c (.c .v), by decide⟩
        · replace hH := condF hc hH
          refine AW.skip ?_
          refine AW.region ?_
          refine AO.pure T rfl rfl rfl ?_
          refine AO.val rfl rfl (ar_ok rfl rfl rfl rfl (inI_succ hlt6 hb5)) ?_
          refine AO.pure T rfl rfl rfl ?_
          refine AO.nil ?_
          refine ⟨k1 + 1, ⟨Nat.succ_le_of_lt hlt6, (by rw [drop_succ_of hd4]; exact hH)⟩, (by have := hlt6; dsimp only; omega), ?_⟩
          exact Le.cut 0 0 rfl (by repeat' (first | exact trivial | refine ⟨⟨_, rfl, rfl⟩, ?_⟩)) (by repeat' (first | exact trivial | refine ⟨⟨_, rfl, rfl⟩, ?_⟩)) rfl

def laws_eqSeason_p (a : Season) (b : Season) : Option Bool :=
  cond (a.best != b.best)
    (some false)
    ((laws_eqLineS_p a.lines b.lines).bind fun x1 =>
    cond (!x1)
      (some false)
      (some true))
theorem laws_eqSeason_ok (a : Season) (b : Season) (r : Bool) (hH : laws_eqSeason_p a b = some r) : SpecR Try.prog 18 [.g (encSeason a), .g (encSeason b)] (.v (.bool r)) := by
  refine fn_ok T Try.func18 rfl (by decide) rfl ?_
  refine AW.seq ?_
  refine AW.region ?_
  refine AO.step rfl (box_ok T rfl 1 rfl rfl rfl rfl) ?_
  refine AO.step rfl (box_ok T rfl 2 rfl rfl rfl rfl) ?_
  refine AO.pure T rfl rfl rfl ?_
  refine AO.nil ?_
  refine AW.seq ?_
  refine AW.seq ?_
  refine AW.region ?_
  refine AO.pure T rfl rfl rfl ?_
  refine AO.pure T rfl rfl rfl ?_
  refine AO.pure T rfl rfl rfl ?_
  refine AO.pure T rfl rfl rfl ?_
  refine AO.pure T rfl rfl rfl ?_
  refine AO.nil ?_
  refine AW.cond (b := (a.best != b.best)) rfl (fun hc => ?_) (fun hc => ?_)
  · replace hH := condT hc hH
    refine AW.seq ?_
    refine AW.region ?_
    refine AO.pure T rfl rfl rfl ?_
    refine AO.nil ?_
    refine AW.ret ?_
    cases someE hH
    exact ⟨trivial, _, [], rfl, .c (.c .v), by decide⟩
  · replace hH := condF hc hH
    refine AW.skip ?_
    refine AW.seq ?_
    refine AW.seq ?_
    obtain ⟨x1, hx2, hH⟩ := bindE hH
    refine AW.region ?_
    refine AO.pure T rfl rfl rfl ?_
    refine AO.pure T rfl rfl rfl ?_
    refine AO.pure T rfl rfl rfl ?_
    refine AO.pure T rfl rfl rfl ?_
    refine AO.val rfl rfl (callV_ok rfl rfl rfl rfl (laws_eqLineS_ok _ _ _ (hx2)) rfl) ?_
    refine AO.pure T rfl rfl rfl ?_
    refine AO.nil ?_
    refine AW.cond (b := (!x1)) rfl (fun hc => ?_) (fun hc => ?_)
    · replace hH := condT hc hH
      refine AW.seq ?_
      refine AW.region ?_
      refine AO.pure T rfl rfl rfl ?_
      refine AO.nil ?_
      refine AW.ret ?_
      cases someE hH
      exact ⟨trivial, _, [], rfl, .c (.c .v), by decide⟩
    · replace hH := condF hc hH
      refine AW.skip ?_
      refine AW.seq ?_
      refine AW.region ?_
      refine AO.pure T rfl rfl rfl ?_
      refine AO.nil ?_
      refine AW.ret ?_
      cases someE hH
      exact ⟨trivial, _, [], rfl, .c (.c .v), by decide⟩

def laws_FnExactMostStill_p (fuel : Nat) (aS : Season) (aSkater : Int) (aEvents : Int) (aMost : Int) : Option Bool :=
  (laws_szSeason_p aS 1048576).bind fun x1 =>
  cond (decide (x1 < 0))
    (some true)
    ((laws_toSeason_p aS).bind fun x3 =>
    (spec_MostStill_p fuel x3 aSkater aEvents aMost).bind fun x5 =>
    (impl_MostStill_p fuel x3 aSkater aEvents aMost).bind fun x7 =>
    cond ((x7.1 != x5.1) || (!(x7.2 == x5.2)))
      (some false)
      ((laws_eqSeason_p x3 x3).bind fun x9 =>
      cond (!x9)
        (some false)
        (some true)))
theorem laws_FnExactMostStill_ok (fuel : Nat) (aS : Season) (aSkater : Int) (aEvents : Int) (aMost : Int) (r : Bool) (hH : laws_FnExactMostStill_p fuel aS aSkater aEvents aMost = some r) : SpecR Try.prog 8 [.g (encSeason aS), .v (.int .i64 aSkater), .v (.int .i64 aEvents), .v (.int .i64 aMost)] (.v (.bool r)) := by
  refine fn_ok T Try.func8 rfl (by decide) rfl ?_
  refine AW.seq ?_
  refine AW.region ?_
  refine AO.step rfl (box_ok T rfl 1 rfl rfl rfl rfl) ?_
  refine AO.pure T rfl rfl rfl ?_
  refine AO.nil ?_
  refine AW.seq ?_
  refine AW.region ?_
  refine AO.pure T rfl rfl rfl ?_
  refine AO.nil ?_
  refine AW.seq ?_
  obtain ⟨x1, hx2, hH⟩ := bindE hH
  refine AW.region ?_
  refine AO.pure T rfl rfl rfl ?_
  refine AO.pure T rfl rfl rfl ?_
  refine AO.val rfl rfl (callV_ok rfl rfl rfl rfl (laws_szSeason_ok _ _ _ (hx2)) rfl) ?_
  refine AO.pure T rfl rfl rfl ?_
  refine AO.nil ?_
  refine AW.seq ?_
  refine AW.seq ?_
  refine AW.region ?_
  refine AO.pure T rfl rfl rfl ?_
  refine AO.pure T rfl rfl rfl ?_
  refine AO.nil ?_
  refine AW.cond (b := decide (x1 < 0)) rfl (fun hc => ?_) (fun hc => ?_)
  · replace hH := condT hc hH
    refine AW.seq ?_
    refine AW.region ?_
    refine AO.pure T rfl rfl rfl ?_
    refine AO.nil ?_
    refine AW.ret ?_
    cases someE hH
    exact ⟨trivial, _, [], rfl, .c (.c .v), by decide⟩
  · replace hH := condF hc hH
    refine AW.skip ?_
    refine AW.seq ?_
    obtain ⟨x3, hx4, hH⟩ := bindE hH
    obtain ⟨x5, hx6, hH⟩ := bindE hH
    refine AW.region ?_
    refine AO.pure T rfl rfl rfl ?_
    refine AO.step rfl (call_ok rfl 2 rfl rfl rfl (laws_toSeason_ok _ _ (hx4)) rfl rfl rfl) ?_
    refine AO.pure T rfl rfl rfl ?_
    refine AO.pure T rfl rfl rfl ?_
    refine AO.pure T rfl rfl rfl ?_
    refine AO.val rfl rfl (callLV_ok rfl rfl rfl (es := [.g (encSeason x3), .v (.int .i64 aSkater), .v (.int .i64 aEvents), .v (.int .i64 aMost)]) ⟨lend_g (LendL.cons (.free rfl) (LendL.cons ((.rowR rfl (.map fun y => frzLine y))) LendL.nil)), .free rfl, .free rfl, .free rfl, trivial⟩ (spec_MostStill_ok fuel _ _ _ _ _ (hx6)) (zfree_t (zfl (.cons (zfree_v _) (.cons (zfree_v _) .nil)))) rfl) ?_
    refine AO.pure T rfl rfl rfl ?_
    refine AO.pure T rfl rfl rfl ?_
    refine AO.pure T rfl rfl rfl ?_
    refine AO.pure T rfl rfl rfl ?_
    refine AO.pure T rfl rfl rfl ?_
    refine AO.nil ?_
    refine AW.seq ?_
    refine AW.region ?_
    refine AO.pure T rfl rfl rfl ?_
    refine AO.step rfl (call_ok rfl 3 rfl rfl rfl (laws_toSeason_ok _ _ (hx4)) rfl rfl rfl) ?_
    refine AO.step rfl (alloc_ok T rfl 4 rfl rfl rfl rfl rfl) ?_
    refine AO.step rfl (store_ok T rfl rfl rfl rfl rfl rfl rfl rfl rfl) ?_
    refine AO.nil ?_
    refine AW.le (Le.cut 0 0 (σ' := (⟨[(1, .v (.int .i64 aSkater)), (2, .v (.int .i64 aEvents)), (3, .v (.int .i64 aMost)), (4, .p 1 0), (10, .v (.int .i64 x5.1)), (11, .v (.bool x5.2)), (12, .p 4 0)], [(1, .box [.v (.int .i64 aS.best), .s (List.map encLine aS.lines)]), (3, .row 3 (List.map encLineO x3.lines)), (4, .box [.v (.int .i64 x3.best), .R 3])], 52, []⟩ : St)) rfl (by repeat' (first | exact trivial | refine ⟨⟨_, rfl, rfl⟩, ?_⟩)) (by repeat' (first | exact trivial | refine ⟨⟨_, rfl, rfl⟩, ?_⟩)) rfl) ?_
    refine AW.seq ?_
    obtain ⟨x7, hx8, hH⟩ := bindE hH
    refine AW.region ?_
    refine AO.pure T rfl rfl rfl ?_
    refine AO.pure T rfl rfl rfl ?_
    refine AO.pure T rfl rfl rfl ?_
    refine AO.pure T rfl rfl rfl ?_
    refine AO.val rfl rfl (callLV_ok rfl rfl rfl (es := [.g (encSeason x3), .v (.int .i64 aSkater), .v (.int .i64 aEvents), .v (.int .i64 aMost)]) ⟨lend_g (LendL.cons (.free rfl) (LendL.cons ((.rowR rfl (.map fun y => frzLine y))) LendL.nil)), .free rfl, .free rfl, .free rfl, trivial⟩ (impl_MostStill_ok fuel _ _ _ _ _ (hx8)) (zfree_t (zfl (.cons (zfree_v _) (.cons (zfree_v _) .nil)))) rfl) ?_
    refine AO.pure T rfl rfl rfl ?_
    refine AO.pure T rfl rfl rfl ?_
    refine AO.pure T rfl rfl rfl ?_
    refine AO.pure T rfl rfl rfl ?_
    refine AO.pure T rfl rfl rfl ?_
    refine AO.nil ?_
    refine AW.seq ?_
    refine AW.seq ?_
    refine AW.region ?_
    refine AO.pure T rfl rfl rfl ?_
    refine AO.pure T rfl rfl rfl ?_
    refine AO.pure T rfl rfl rfl ?_
    refine AO.pure T rfl rfl rfl ?_
    refine AO.pureG T [] rfl trivial rfl rfl ?_
    refine AO.pureG T [] rfl trivial rfl rfl ?_
    refine AO.pureG T [43, 44] rfl ⟨fun h => h, fun h => h, trivial⟩ rfl rfl ?_
    refine AO.val rfl rfl (pick_or rfl rfl rfl rfl) ?_
    refine AO.nil ?_
    refine AW.cond (b := ((x7.1 != x5.1) || (!(x7.2 == x5.2)))) rfl (fun hc => ?_) (fun hc => ?_)
    · replace hH := condT hc hH
      refine AW.seq ?_
      refine AW.region ?_
      refine AO.pure T rfl rfl rfl ?_
      refine AO.nil ?_
      refine AW.ret ?_
      cases someE hH
      exact ⟨trivial, _, [], rfl, .c (.c .v), by decide⟩
    · replace hH := condF hc hH
      refine AW.skip ?_
      refine AW.seq ?_
      refine AW.seq ?_
      obtain ⟨x9, hx10, hH⟩ := bindE hH
      refine AW.drawn 3 5 [] mix (by kernel_rfl) rfl ?_
      refine AD.pure T rfl rfl rfl ?_
      refine AD.pure T rfl rfl rfl ?_
      refine AD.q (FStep.call rfl rfl rfl rfl rfl (laws_toSeason_ok _ _ (hx4)) rfl rfl) (impT_names _ _) (impT_le _ _) rfl ?_
      refine AD.nil ?_
      refine AO.val rfl rfl (callLV_ok rfl rfl rfl (es := [.g (encSeason x3), .g (encSeason x3)]) ⟨lend_g (LendL.cons (.free rfl) (LendL.cons ((.rowR rfl (.map fun y => frzLine y))) LendL.nil)), lend_g (LendL.cons (.free rfl) (LendL.cons ((.rowR rfl (.map fun y => frzLine y))) LendL.nil)), trivial⟩ (laws_eqSeason_ok _ _ _ (hx10)) (zfree_v _) rfl) ?_
      refine AO.pure T rfl rfl rfl ?_
      refine AO.nil ?_
      refine AW.cond (b := (!x9)) rfl (fun hc => ?_) (fun hc => ?_)
      · replace hH := condT hc hH
        refine AW.seq ?_
        refine AW.region ?_
        refine AO.pure T rfl rfl rfl ?_
        refine AO.nil ?_
        refine AW.le (Le.cut 0 0 (σ' := (⟨[(8, .v (.bool false))], [], 52, []⟩ : St)) rfl (by repeat' (first | exact trivial | refine ⟨⟨_, rfl, rfl⟩, ?_⟩)) (by repeat' (first | exact trivial | refine ⟨⟨_, rfl, rfl⟩, ?_⟩)) rfl) ?_
        refine AW.ret ?_
        cases someE hH
        exact ⟨trivial, _, [], rfl, .c (.c .v), by decide⟩
      · replace hH := condF hc hH
        refine AW.skip ?_
        refine AW.seq ?_
        refine AW.region ?_
        refine AO.pure T rfl rfl rfl ?_
        refine AO.nil ?_
        refine AW.le (Le.cut 0 0 (σ' := (⟨[(8, .v (.bool true))], [], 52, []⟩ : St)) rfl (by repeat' (first | exact trivial | refine ⟨⟨_, rfl, rfl⟩, ?_⟩)) (by repeat' (first | exact trivial | refine ⟨⟨_, rfl, rfl⟩, ?_⟩)) rfl) ?_
        refine AW.ret ?_
        cases someE hH
        exact ⟨trivial, _, [], rfl, .c (.c .v), by decide⟩

def impl_counting_p (line : Line) (best : Int) : Option (List Int) :=
  (sliceHi line.points (min best (line.points.length : Int))).bind fun x1 =>
  some x1
theorem impl_counting_ok (line : Line) (best : Int) (r : (List Int)) (hH : impl_counting_p line best = some r) : SpecR Try.prog 71 [.g (encLine line), .v (.int .i64 best)] (.s (r.map encInt)) := by
  refine fn_ok T Try.func71 rfl (by decide) rfl ?_
  refine AW.seq ?_
  refine AW.region ?_
  refine AO.step rfl (box_ok T rfl 1 rfl rfl rfl rfl) ?_
  refine AO.pure T rfl rfl rfl ?_
  refine AO.nil ?_
  refine AW.seq ?_
  obtain ⟨x1, hx2, hH⟩ := bindE hH
  refine AW.region ?_
  refine AO.pure T rfl rfl rfl ?_
  refine AO.pure T rfl rfl rfl ?_
  refine AO.pure T rfl rfl rfl ?_
  refine AO.pure T rfl rfl rfl ?_
  refine AO.pure T rfl rfl rfl ?_
  refine AO.val rfl rfl (len_map_ok T rfl rfl rfl) ?_
  refine AO.val rfl rfl (min_ok rfl rfl rfl) ?_
  refine AO.val rfl rfl (slice_hi_map_ok T rfl rfl rfl rfl rfl (hx2) (fun _ => rfl)) ?_
  refine AO.pure T rfl rfl rfl ?_
  refine AO.nil ?_
  refine AW.ret ?_
  cases someE hH
  exact ⟨trivial, _, [], rfl, .c (.c .s), by decide⟩

def impl_TotalOf_p (fuel : Nat) (sA : Season) (skater : Int) : Option (Int × Bool) :=
  (impl_IsSeason_p fuel sA).bind fun x1 =>
  (opt (!(!x1)) default (impl_lineOf_p sA skater)).bind fun x3 =>
  cond ((!x1) || ((x3.points.length : Int) == 0))
    (some (0, false))
    ((impl_lineOf_p sA skater).bind fun x5 =>
    (impl_counting_p x5 sA.best).bind fun x7 =>
    (impl_sumInts_p x7).bind fun x9 =>
    some (x9, true))
theorem impl_TotalOf_ok (fuel : Nat) (sA : Season) (skater : Int) (r : (Int × Bool)) (hH : impl_TotalOf_p fuel sA skater = some r) : SpecR Try.prog 20 [.g (encSeason sA), .v (.int .i64 skater)] (.t [.v (.int .i64 r.1), .v (.bool r.2)]) := by
  refine fn_ok T Try.func20 rfl (by decide) rfl ?_
  refine AW.seq ?_
  refine AW.region ?_
  refine AO.step rfl (box_ok T rfl 1 rfl rfl rfl rfl) ?_
  refine AO.pure T rfl rfl rfl ?_
  refine AO.pure T rfl rfl rfl ?_
  refine AO.nil ?_
  refine AW.seq ?_
  refine AW.seq ?_
  obtain ⟨x1, hx2, hH⟩ := bindE hH
  obtain ⟨x3, hx4, hH⟩ := bindE hH
  refine AW.region ?_
  refine AO.pure T rfl rfl rfl ?_
  refine AO.val rfl rfl (callV_ok rfl rfl rfl rfl (impl_IsSeason_ok fuel _ _ (hx2)) rfl) ?_
  refine AO.pure T rfl rfl rfl ?_
  refine AO.pure T rfl rfl rfl ?_
  refine AO.pureG T [] rfl trivial rfl rfl ?_
  refine AO.pureG T [] rfl trivial rfl rfl ?_
  refine AO.guard [10, 11] rfl ⟨fun h => h, fun h => h, trivial⟩ (fun hg => callV_ok rfl rfl rfl rfl (impl_lineOf_ok _ _ _ (optT hx4 hg)) rfl) rfl ?_
  refine AO.pureG T [12] rfl ⟨fun h => h, trivial⟩ rfl rfl ?_
  refine AO.guard [13] rfl ⟨fun h => h, trivial⟩ (fun hg => len_map_ok T rfl rfl rfl) rfl ?_
  refine AO.pureG T [14] rfl ⟨fun h => h, trivial⟩ rfl rfl ?_
  refine AO.val rfl rfl (pick_or rfl rfl rfl rfl) ?_
  refine AO.nil ?_
  refine AW.cond (b := ((!x1) || ((x3.points.length : Int) == 0))) rfl (fun hc => ?_) (fun hc => ?_)
  · replace hH := condT hc hH
    refine AW.seq ?_
    refine AW.region ?_
    refine AO.pure T rfl rfl rfl ?_
    refine AO.pure T rfl rfl rfl ?_
    refine AO.nil ?_
    refine AW.ret ?_
    cases someE hH
    exact ⟨trivial, _, [], rfl, .t (expLG_cons (.c .v) (expLG_cons (.c .v) (expLG_nil))), by decide⟩
  · replace hH := condF hc hH
    refine AW.skip ?_
    refine AW.seq ?_
    obtain ⟨x5, hx6, hH⟩ := bindE hH
    obtain ⟨x7, hx8, hH⟩ := bindE hH
    obtain ⟨x9, hx10, hH⟩ := bindE hH
    refine AW.drawn 5 2 [] mix (by kernel_rfl) rfl ?_
    refine AD.pure T rfl rfl rfl ?_
    refine AD.pure T rfl rfl rfl ?_
    refine AD.val rfl rfl (callV_ok rfl rfl rfl rfl (impl_lineOf_ok _ _ _ (hx6)) rfl) ?_
    refine AD.pure T rfl rfl rfl ?_
    refine AD.pure T rfl rfl rfl ?_
    refine AD.nil ?_
    refine AO.val rfl rfl (callV_ok rfl rfl rfl rfl (impl_counting_ok _ _ _ (hx8)) rfl) ?_
    refine AO.val rfl rfl (callV_ok rfl rfl rfl rfl (impl_sumInts_ok _ _ (hx10)) rfl) ?_
    refine AO.pure T rfl rfl rfl ?_
    refine AO.pure T rfl rfl rfl ?_
    refine AO.nil ?_
    refine AW.ret ?_
    cases someE hH
    exact ⟨trivial, _, [], rfl, .t (expLG_cons (.c .v) (expLG_cons (.c .v) (expLG_nil))), by decide⟩

def spec_IsSeason_p (sA : Season) : Option Bool :=
  (spec_seGood_p sA).bind fun x1 =>
  some x1
theorem spec_IsSeason_ok (sA : Season) (r : Bool) (hH : spec_IsSeason_p sA = some r) : SpecR Try.prog 15 [.g (encSeason sA)] (.v (.bool r)) := by
  refine fn_ok T Try.func15 rfl (by decide) rfl ?_
  refine AW.seq ?_
  refine AW.region ?_
  refine AO.step rfl (box_ok T rfl 1 rfl rfl rfl rfl) ?_
  refine AO.pure T rfl rfl rfl ?_
  refine AO.nil ?_
  refine AW.seq ?_
  obtain ⟨x1, hx2, hH⟩ := bindE hH
  refine AW.region ?_
  refine AO.pure T rfl rfl rfl ?_
  refine AO.val rfl rfl (callV_ok rfl rfl rfl rfl (spec_seGood_ok _ _ (hx2)) rfl) ?_
  refine AO.pure T rfl rfl rfl ?_
  refine AO.nil ?_
  refine AW.ret ?_
  cases someE hH
  exact ⟨trivial, _, [], rfl, .c (.c .v), by decide⟩

end Go.Proofs.Ytfgpeaiepfdemaa

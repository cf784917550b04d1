/- The walk, part 1: what each function reached by the law FnExactFreshSeason computes. No condition. -/
import Derived.Test.YtfgpeaiepfdemaaAm6
import Derived.Test.YtfgpeaiepfdemaaShelf
import Derived.Test.YtfgpeaiepfdemaaProg
set_option maxRecDepth 4000
set_option linter.unusedVariables false
set_option linter.unusedSimpArgs false
set_option linter.unusedSectionVars false

namespace Go.Proofs.Ytfgpeaiepfdemaa
open Go.AM
def teL : List (Option TI) := [
  none,
  none,
  some ⟨.int .i64, 1, 8, some (.int .i64 0)⟩,
  some ⟨.int .i64, 1, 8, some (.int .i64 0)⟩,
  some ⟨.bool, 1, 1, some (.bool false)⟩,
  some ⟨.int .u8, 1, 1, some (.int .u8 0)⟩,
  some ⟨.int .u8, 1, 1, some (.int .u8 0)⟩,
  some ⟨.struct [(0, 2), (1, 3), (2, 4), (3, 6)], 4, 24, some (.agg #[.int .i64 0, .int .i64 0, .bool false, .int .u8 0])⟩,
  some ⟨.struct [(0, 2), (1, 3), (2, 4), (3, 6)], 4, 24, some (.agg #[.int .i64 0, .int .i64 0, .bool false, .int .u8 0])⟩,
  some ⟨.str, 1, 16, some (.string ⟨#[]⟩)⟩,
  some ⟨.str, 1, 16, some (.string ⟨#[]⟩)⟩,
  some ⟨.str, 1, 16, some (.string ⟨#[]⟩)⟩,
  some ⟨.int .u64, 1, 8, some (.int .u64 0)⟩,
  some ⟨.struct [(0, 9), (1, 12)], 2, 24, some (.agg #[.string ⟨#[]⟩, .int .u64 0])⟩,
  some ⟨.struct [(0, 9), (1, 12)], 2, 24, some (.agg #[.string ⟨#[]⟩, .int .u64 0])⟩,
  some ⟨.ptr 160, 1, 8, some (.pointer none)⟩,
  some ⟨.ptr 163, 1, 8, some (.pointer none)⟩,
  some ⟨.ptr 171, 1, 8, some (.pointer none)⟩,
  some ⟨.struct [(0, 17)], 1, 8, some (.agg #[.pointer none])⟩,
  some ⟨.struct [(0, 17)], 1, 8, some (.agg #[.pointer none])⟩,
  none,
  some ⟨.int .i32, 1, 4, some (.int .i32 0)⟩,
  some ⟨.slice 112, 1, 24, some (.slice none 0 0)⟩,
  some ⟨.struct [(0, 3), (1, 22)], 2, 32, some (.agg #[.int .i64 0, .slice none 0 0])⟩,
  some ⟨.struct [(0, 3), (1, 22)], 2, 32, some (.agg #[.int .i64 0, .slice none 0 0])⟩,
  none,
  none,
  some ⟨.slice 71, 1, 24, some (.slice none 0 0)⟩,
  some ⟨.struct [(0, 3), (1, 27)], 2, 32, some (.agg #[.int .i64 0, .slice none 0 0])⟩,
  some ⟨.struct [(0, 3), (1, 27)], 2, 32, some (.agg #[.int .i64 0, .slice none 0 0])⟩,
  none,
  none,
  none,
  none,
  none,
  none,
  some ⟨.slice 58, 1, 24, some (.slice none 0 0)⟩,
  none,
  none,
  none,
  none,
  none,
  some ⟨.slice 3, 1, 24, some (.slice none 0 0)⟩,
  none,
  none,
  none,
  none,
  some ⟨.slice 56, 1, 24, some (.slice none 0 0)⟩,
  none,
  none,
  none,
  none,
  none,
  none,
  none,
  some ⟨.struct [(0, 3), (1, 3), (2, 3)], 3, 24, some (.agg #[.int .i64 0, .int .i64 0, .int .i64 0])⟩,
  some ⟨.struct [(0, 3), (1, 3), (2, 3)], 3, 24, some (.agg #[.int .i64 0, .int .i64 0, .int .i64 0])⟩,
  none,
  some ⟨.struct [(0, 3), (1, 3), (2, 3)], 3, 24, some (.agg #[.int .i64 0, .int .i64 0, .int .i64 0])⟩,
  none,
  none,
  none,
  none,
  none,
  some ⟨.slice 5, 1, 24, some (.slice none 0 0)⟩,
  none,
  none,
  none,
  none,
  none,
  some ⟨.struct [(0, 3), (1, 42), (2, 42)], 3, 56, some (.agg #[.int .i64 0, .slice none 0 0, .slice none 0 0])⟩,
  some ⟨.struct [(0, 3), (1, 42), (2, 42)], 3, 56, some (.agg #[.int .i64 0, .slice none 0 0, .slice none 0 0])⟩,
  none,
  none,
  none,
  none,
  none,
  none,
  none,
  none,
  none,
  none,
  none,
  none,
  none,
  none,
  none,
  none,
  none,
  none,
  none,
  none,
  none,
  none,
  none,
  none,
  none,
  none,
  none,
  none,
  none,
  none,
  none,
  none,
  some ⟨.ptr 107, 1, 8, some (.pointer none)⟩,
  some ⟨.int .u64, 1, 8, some (.int .u64 0)⟩,
  some ⟨.struct [(0, 64), (1, 3), (2, 105)], 3, 40, some (.agg #[.slice none 0 0, .int .i64 0, .int .u64 0])⟩,
  some ⟨.struct [(0, 64), (1, 3), (2, 105)], 3, 40, some (.agg #[.slice none 0 0, .int .i64 0, .int .u64 0])⟩,
  none,
  none,
  none,
  none,
  some ⟨.struct [(0, 3), (1, 42), (2, 42)], 3, 56, some (.agg #[.int .i64 0, .slice none 0 0, .slice none 0 0])⟩,
  none,
  none,
  none,
  none,
  none,
  none,
  none,
  some ⟨.ptr 71, 1, 8, some (.pointer none)⟩,
  none,
  none,
  some ⟨.int .u64, 1, 8, some (.int .u64 0)⟩,
  none,
  none,
  none,
  some ⟨.ptr 58, 1, 8, some (.pointer none)⟩,
  none,
  none,
  none,
  some ⟨.int .i64, 1, 8, some (.int .i64 0)⟩,
  none,
  none,
  none,
  none,
  none,
  none,
  none,
  some ⟨.int .u32, 1, 4, some (.int .u32 0)⟩,
  none,
  none,
  none,
  none,
  none,
  none,
  some ⟨.int .u64, 1, 8, some (.int .u64 0)⟩,
  none,
  none,
  none,
  some ⟨.ptr 3, 1, 8, some (.pointer none)⟩,
  none,
  none,
  none,
  some ⟨.ptr 146, 1, 8, some (.pointer none)⟩,
  none,
  none,
  none,
  none,
  some ⟨.struct [(0, 17), (1, 17), (2, 17), (3, 9)], 4, 40, some (.agg #[.pointer none, .pointer none, .pointer none, .string ⟨#[]⟩])⟩,
  some ⟨.struct [(0, 17), (1, 17), (2, 17), (3, 9)], 4, 40, some (.agg #[.pointer none, .pointer none, .pointer none, .string ⟨#[]⟩])⟩,
  some ⟨.array 0 16, 0, 0, some (.agg #[])⟩,
  some ⟨.struct [(0, 161)], 0, 0, some (.agg #[])⟩,
  some ⟨.struct [(0, 161)], 0, 0, some (.agg #[])⟩,
  some ⟨.int .u8, 1, 1, some (.int .u8 0)⟩,
  some ⟨.int .u8, 1, 1, some (.int .u8 0)⟩,
  none,
  some ⟨.ptr 5, 1, 8, some (.pointer none)⟩,
  some ⟨.int .i32, 1, 4, some (.int .i32 0)⟩,
  some ⟨.int .i32, 1, 4, some (.int .i32 0)⟩,
  some ⟨.struct [(0, 12), (1, 12), (2, 139), (3, 164), (4, 5), (5, 5), (6, 165), (7, 166), (8, 167), (9, 168), (10, 169)], 11, 48, some (.agg #[.int .u64 0, .int .u64 0, .int .u32 0, .int .u8 0, .int .u8 0, .int .u8 0, .int .u8 0, .nilFunc, .pointer none, .int .i32 0, .int .i32 0])⟩,
  some ⟨.struct [(0, 12), (1, 12), (2, 139), (3, 164), (4, 5), (5, 5), (6, 165), (7, 166), (8, 167), (9, 168), (10, 169)], 11, 48, some (.agg #[.int .u64 0, .int .u64 0, .int .u32 0, .int .u8 0, .int .u8 0, .int .u8 0, .int .u8 0, .nilFunc, .pointer none, .int .i32 0, .int .i32 0])⟩,
  none]
def te : TE := teOf teL
theorem T : TEok Try.prog te := TEok_of (by kernel_rfl)
theorem mix : Try.prog.follows .mixedOrders = true := by kernel_rfl

def encInt (x : Int) : List D := [.v (.int .i64 x)]
def encBool (x : Bool) : List D := [.v (.bool x)]
def encStr (x : ByteArray) : List D := [.v (.string x)]
def encInt_u8 (x : Int) : List D := [.v (.int .u8 x)]
def encInt_u64 (x : Int) : List D := [.v (.int .u64 x)]
def encInt_i32 (x : Int) : List D := [.v (.int .i32 x)]
structure Entry where
  event : Int
  skater : Int
  points : Int
  deriving Inhabited, DecidableEq
def encEntry (x : Entry) : List D := [.v (.int .i64 x.event), .v (.int .i64 x.skater), .v (.int .i64 x.points)]
def encLEntry (x : List Entry) : List D := [.s (x.map encEntry)]
def encLEntryO (x : List Entry) : List D := [.w 3 (x.map encEntry)]
theorem frzLEntry (x : List Entry) : FrzL (encLEntryO x) (encLEntry x) := .cons (.map fun y => .vs rfl) .nil
structure Line where
  skater : Int
  events : List Int
  points : List Int
  deriving Inhabited, DecidableEq
def encLine (x : Line) : List D := [.v (.int .i64 x.skater), .s (x.events.map encInt), .s (x.points.map encInt)]
def encLineO (x : Line) : List D := [.v (.int .i64 x.skater), .w 1 (x.events.map encInt), .w 1 (x.points.map encInt)]
theorem frzLine (x : Line) : FrzL (encLineO x) (encLine x) := .cons (.vs rfl) (.cons (.map fun y => .vs rfl) (.cons (.map fun y => .vs rfl) (.nil)))
structure Season where
  best : Int
  lines : List Line
  deriving Inhabited, DecidableEq
def encSeason (x : Season) : List D := [.v (.int .i64 x.best), .s (x.lines.map encLine)]
def encSeasonO (x : Season) : List D := [.v (.int .i64 x.best), .w 3 (x.lines.map encLineO)]
theorem frzSeason (x : Season) : FrzL (encSeasonO x) (encSeason x) := .cons (.vs rfl) (.cons (.map fun y => frzLine y) (.nil))
def encSeasonH (x : Season) : List D := [.v (.int .i64 x.best), .w 3 (x.lines.map encLine)]
theorem frzHSeason (x : Season) : FrzL (encSeasonH x) (encSeason x) := .cons (.vs rfl) (.cons (.map fun y => .vs rfl) (.nil))

def laws_szEntryS_p (a : List Entry) (left : Int) : Option Int :=
  cond (decide ((w64 (left - (a.length : Int))) < 0))
    (some (-1))
    (some (w64 (left - (a.length : Int))))
theorem laws_szEntryS_ok (a : List Entry) (left : Int) (r : Int) (hH : laws_szEntryS_p a left = some r) : SpecR Try.prog 32 [.s (List.map encEntry a), .v (.int .i64 left)] (.v (.int .i64 r)) := by
  refine fn_ok T Try.func32 rfl (by decide) rfl ?_
  refine AW.seq ?_
  refine AW.region ?_
  refine AO.pure T rfl rfl rfl ?_
  refine AO.nil ?_
  refine AW.seq ?_
  refine AW.region ?_
  refine AO.pure T rfl rfl rfl ?_
  refine AO.pure T rfl rfl rfl ?_
  refine AO.val rfl rfl (len_map_ok T rfl rfl rfl) ?_
  refine AO.val rfl rfl (arw_ok rfl rfl rfl rfl) ?_
  refine AO.pure T rfl rfl rfl ?_
  refine AO.nil ?_
  refine AW.seq ?_
  refine AW.seq ?_
  refine AW.region ?_
  refine AO.pure T rfl rfl rfl ?_
  refine AO.pure T rfl rfl rfl ?_
  refine AO.nil ?_
  refine AW.cond (b := decide ((w64 (left - (a.length : Int))) < 0)) rfl (fun hc => ?_) (fun hc => ?_)
  · replace hH := condT hc hH
    refine AW.seq ?_
    refine AW.region ?_
    refine AO.pure T rfl rfl rfl ?_
    refine AO.nil ?_
    refine AW.ret ?_
    cases someE hH
    exact ⟨trivial, _, [], rfl, .c (.c .v), by decide⟩
  · replace hH := condF hc hH
    refine AW.skip ?_
    refine AW.seq ?_
    refine AW.region ?_
    refine AO.pure T rfl rfl rfl ?_
    refine AO.pure T rfl rfl rfl ?_
    refine AO.nil ?_
    refine AW.ret ?_
    cases someE hH
    exact ⟨trivial, _, [], rfl, .c (.c .v), by decide⟩

def laws_toEntry_p (a : Entry) : Option Entry :=
  some a
theorem laws_toEntry_ok (a : Entry) (r : Entry) (hH : laws_toEntry_p a = some r) : SpecR Try.prog 40 [.g (encEntry a)] (.g (encEntry r)) := by
  refine fn_ok T Try.func40 rfl (by decide) rfl ?_
  refine AW.seq ?_
  refine AW.region ?_
  refine AO.step rfl (box_ok T rfl 1 rfl rfl rfl rfl) ?_
  refine AO.step rfl (alloc_ok T rfl 2 rfl rfl rfl rfl rfl) ?_
  refine AO.nil ?_
  refine AW.seq ?_
  refine AW.region ?_
  refine AO.step rfl (alloc_ok T rfl 3 rfl rfl rfl rfl rfl) ?_
  refine AO.nil ?_
  refine AW.seq ?_
  refine AW.region ?_
  refine AO.pure T rfl rfl rfl ?_
  refine AO.pure T rfl rfl rfl ?_
  refine AO.pure T rfl rfl rfl ?_
  refine AO.step rfl (store_ok T rfl rfl rfl rfl rfl rfl rfl rfl rfl) ?_
  refine AO.nil ?_
  refine AW.seq ?_
  refine AW.region ?_
  refine AO.pure T rfl rfl rfl ?_
  refine AO.pure T rfl rfl rfl ?_
  refine AO.pure T rfl rfl rfl ?_
  refine AO.step rfl (store_ok T rfl rfl rfl rfl rfl rfl rfl rfl rfl) ?_
  refine AO.nil ?_
  refine AW.seq ?_
  refine AW.region ?_
  refine AO.pure T rfl rfl rfl ?_
  refine AO.pure T rfl rfl rfl ?_
  refine AO.pure T rfl rfl rfl ?_
  refine AO.step rfl (store_ok T rfl rfl rfl rfl rfl rfl rfl rfl rfl) ?_
  refine AO.nil ?_
  refine AW.seq ?_
  refine AW.region ?_
  refine AO.pure T rfl rfl rfl ?_
  refine AO.step rfl (store_ok T rfl rfl rfl rfl rfl rfl rfl rfl rfl) ?_
  refine AO.nil ?_
  refine AW.ret ?_
  cases someE hH
  exact ⟨trivial, _, [], rfl, .c (.g (expLC_cons .v (expLC_cons .v (expLC_cons .v (expLC_nil))))), by decide⟩

def laws_toEntryS_l1 : List Entry → Nat → List Entry → Option ((List Entry))
  | [], k3, v18 =>
    some v18
  | y4 :: ys5, k3, v18 =>
    (laws_toEntry_p y4).bind fun x20 =>
    (getI v18 (k3 : Int)).bind fun x22 =>
    laws_toEntryS_l1 ys5 (k3 + 1) (v18.set ((k3 : Int).toNat) x20)
def laws_toEntryS_p (a : List Entry) : Option (List Entry) :=
  (need (decide (0 ≤ (a.length : Int)) && fitsB 24 (a.length : Int).toNat)).bind fun u1 =>
  laws_toEntryS_l1 a 0 (List.replicate (a.length : Int).toNat (Entry.mk 0 0 0))
theorem laws_toEntryS_ok (a : List Entry) (r : (List Entry)) (hH : laws_toEntryS_p a = some r) : SpecR Try.prog 34 [.s (List.map encEntry a)] (.w 3 (r.map encEntry)) := by
  refine fn_ok T Try.func34 rfl (by decide) rfl ?_
  refine AW.seq ?_
  refine AW.region ?_
  refine AO.pure T rfl rfl rfl ?_
  refine AO.nil ?_
  refine AW.seq ?_
  obtain ⟨u1, hx2, hH⟩ := bindE hH
  refine AW.region ?_
  refine AO.pure T rfl rfl rfl ?_
  refine AO.val rfl rfl (len_map_ok T rfl rfl rfl) ?_
  refine AO.step rfl (make_map_ok T rfl 1 rfl rfl rfl rfl rfl (f := encEntry) (zo := (Entry.mk 0 0 0)) (by repeat constructor) (by decide) rfl rfl (Bool.and_eq_true_iff.1 (needT (hx2))).1 (Bool.and_eq_true_iff.1 (needT (hx2))).2 rfl rfl) ?_
  refine AO.pure T rfl rfl rfl ?_
  refine AO.nil ?_
  refine AW.seq ?_
  refine AW.seq ?_
  refine AW.region ?_
  refine AO.pure T rfl rfl rfl ?_
  refine AO.nil ?_
  refine AW.block ?_
  refine AW.loopS (fun s : Nat × (List Entry) => (⟨[(0, .s (List.map encEntry a)), (3, .R 1), (4, .v (.int .i64 (s.1 : Int)))], [(1, .row 3 (List.map encEntry s.2))], 23, []⟩ : St)) (fun s => s.1 ≤ a.length ∧ laws_toEntryS_l1 (a.drop s.1) s.1 s.2 = some r) (fun s => a.length - s.1) (0, (List.replicate (a.length : Int).toNat (Entry.mk 0 0 0))) ⟨Nat.zero_le _, hH⟩ ?_ ?_
  · exact Le.cut 0 0 rfl (by repeat' (first | exact trivial | refine ⟨⟨_, rfl, rfl⟩, ?_⟩)) (by repeat' (first | exact trivial | refine ⟨⟨_, rfl, rfl⟩, ?_⟩)) rfl
  · rintro ⟨k3, v18⟩ ⟨hk, hH⟩
    replace hH : laws_toEntryS_l1 (a.drop k3) k3 v18 = some r := hH
    show AW _ _ _ (⟨[(0, .s (List.map encEntry a)), (3, .R 1), (4, .v (.int .i64 (k3 : Int)))], [(1, .row 3 (List.map encEntry v18))], 23, []⟩ : St)
    refine AW.boundM (t := 0) (l := a) rfl (fun hb7 => ?_)
    cases hd6 : a.drop k3 with
    | nil =>
      rw [hd6] at hH
      rw [laws_toEntryS_l1] at hH
      have hlt8 := drop_ge hd6
      refine AW.seq ?_
      refine AW.seq ?_
      refine AW.region ?_
      refine AO.pure T rfl rfl rfl ?_
      refine AO.pure T rfl rfl rfl ?_
      refine AO.val rfl rfl (len_map_ok T rfl rfl rfl) ?_
      refine AO.pure T rfl rfl rfl ?_
      refine AO.nil ?_
      refine AW.condF' (b := decide ((k3 : Int) < (a.length : Int))) rfl (rngF hlt8) ?_
      refine AW.exit ?_
      refine AW.seq ?_
      refine AW.region ?_
      refine AO.pure T rfl rfl rfl ?_
      refine AO.pure T rfl rfl rfl ?_
      refine AO.nil ?_
      refine AW.ret ?_
      cases someE hH
      exact ⟨trivial, _, [1], rfl, .c (.c (.rowR rfl)), by decide⟩
    | cons y4 ys5 =>
      rw [hd6] at hH
      rw [laws_toEntryS_l1] at hH
      have hlt8 := drop_lt hd6
      refine AW.seq ?_
      refine AW.seq ?_
      refine AW.region ?_
      refine AO.pure T rfl rfl rfl ?_
      refine AO.pure T rfl rfl rfl ?_
      refine AO.val rfl rfl (len_map_ok T rfl rfl rfl) ?_
      refine AO.pure T rfl rfl rfl ?_
      refine AO.nil ?_
      refine AW.condT' (b := decide ((k3 : Int) < (a.length : Int))) rfl (rngT hlt8) ?_
      refine AW.skip ?_
      refine AW.seq ?_
      refine AW.block ?_
      obtain ⟨x20, hx21, hH⟩ := bindE hH
      obtain ⟨x22, hx23, hH⟩ := bindE hH
      refine AW.region ?_
      refine AO.pure T rfl rfl rfl ?_
      refine AO.pure T rfl rfl rfl ?_
      refine AO.pure T rfl rfl rfl ?_
      refine AO.pure T rfl rfl rfl ?_
      refine AO.val rfl rfl (ix_map_ok T rfl rfl rfl rfl rfl (getI_drop hd6) rfl) ?_
      refine AO.pure T rfl rfl rfl ?_
      refine AO.val rfl rfl (callV_ok rfl rfl rfl rfl (laws_toEntry_ok _ _ (hx21)) rfl) ?_
      refine AO.val rfl rfl (ix_row_ok T rfl rfl rfl rfl rfl rfl (hx23)) ?_
      refine AO.step rfl (store_row_ok T rfl rfl rfl rfl rfl (getI_get (hx23)) rfl rfl rfl rfl (u' := x20) rfl rfl) ?_
      refine AO.nil ?_
      refine AW.region ?_
      refine AO.pure T rfl rfl rfl ?_
      refine AO.val rfl rfl (ar_ok rfl rfl rfl rfl (inI_succ hlt8 hb7)) ?_
      refine AO.pure T rfl rfl rfl ?_
      refine AO.nil ?_
      refine ⟨(k3 + 1, (v18.set ((k3 : Int).toNat) x20)), ⟨Nat.succ_le_of_lt hlt8, (by rw [drop_succ_of hd6]; exact hH)⟩, (by have := hlt8; dsimp only; omega), ?_⟩
      exact Le.cut 0 0 rfl (by repeat' (first | exact trivial | refine ⟨⟨_, rfl, rfl⟩, ?_⟩)) (by repeat' (first | exact trivial | refine ⟨⟨_, rfl, rfl⟩, ?_⟩)) rfl

def spec_l1In_p (n : Int) (lo : Int) (hi : Int) : Option Bool :=
  some (decide (n ≥ lo) && decide (n ≤ hi))
theorem spec_l1In_ok (n : Int) (lo : Int) (hi : Int) (r : Bool) (hH : spec_l1In_p n lo hi = some r) : SpecR Try.prog 77 [.v (.int .i64 n), .v (.int .i64 lo), .v (.int .i64 hi)] (.v (.bool r)) := by
  refine fn_ok T Try.func77 rfl (by decide) rfl ?_
  refine AW.seq ?_
  refine AW.region ?_
  refine AO.pure T rfl rfl rfl ?_
  refine AO.nil ?_
  refine AW.seq ?_
  refine AW.region ?_
  refine AO.pure T rfl rfl rfl ?_
  refine AO.pure T rfl rfl rfl ?_
  refine AO.pure T rfl rfl rfl ?_
  refine AO.pure T rfl rfl rfl ?_
  refine AO.pureG T [] rfl trivial rfl rfl ?_
  refine AO.pureG T [] rfl trivial rfl rfl ?_
  refine AO.pureG T [11, 12] rfl ⟨fun h => h, fun h => h, trivial⟩ rfl rfl ?_
  refine AO.val rfl rfl (pick_and rfl rfl rfl rfl) ?_
  refine AO.pure T rfl rfl rfl ?_
  refine AO.nil ?_
  refine AW.ret ?_
  cases someE hH
  exact ⟨trivial, _, [], rfl, .c (.c .v), by decide⟩

def spec_seEntry_p (e : Entry) : Option Bool :=
  (spec_l1In_p e.event 1 99).bind fun x1 =>
  (opt x1 default (spec_l1In_p e.skater 1 999)).bind fun x3 =>
  (opt (x1 && x3) default (spec_l1In_p e.points 0 100000)).bind fun x5 =>
  some ((x1 && x3) && x5)
theorem spec_seEntry_ok (e : Entry) (r : Bool) (hH : spec_seEntry_p e = some r) : SpecR Try.prog 88 [.g (encEntry e)] (.v (.bool r)) := by
  refine fn_ok T Try.func88 rfl (by decide) rfl ?_
  refine AW.seq ?_
  refine AW.region ?_
  refine AO.step rfl (box_ok T rfl 1 rfl rfl rfl rfl) ?_
  refine AO.pure T rfl rfl rfl ?_
  refine AO.nil ?_
  refine AW.seq ?_
  obtain ⟨x1, hx2, hH⟩ := bindE hH
  obtain ⟨x3, hx4, hH⟩ := bindE hH
  obtain ⟨x5, hx6, hH⟩ := bindE hH
  refine AW.region ?_
  refine AO.pure T rfl rfl rfl ?_
  refine AO.pure T rfl rfl rfl ?_
  refine AO.val rfl rfl (callV_ok rfl rfl rfl rfl (spec_l1In_ok _ _ _ _ (hx2)) rfl) ?_
  refine AO.pure T rfl rfl rfl ?_
  refine AO.pureG T [] rfl trivial rfl rfl ?_
  refine AO.pureG T [7] rfl ⟨fun h => h, trivial⟩ rfl rfl ?_
  refine AO.guard [8] rfl ⟨fun h => h, trivial⟩ (fun hg => callV_ok rfl rfl rfl rfl (spec_l1In_ok _ _ _ _ (optT hx4 hg)) rfl) rfl ?_
  refine AO.val rfl rfl (pick_and rfl rfl rfl rfl) ?_
  refine AO.pure T rfl rfl rfl ?_
  refine AO.pureG T [] rfl trivial rfl rfl ?_
  refine AO.pureG T [12] rfl ⟨fun h => h, trivial⟩ rfl rfl ?_
  refine AO.guard [13] rfl ⟨fun h => h, trivial⟩ (fun hg => callV_ok rfl rfl rfl rfl (spec_l1In_ok _ _ _ _ (optT hx6 hg)) rfl) rfl ?_
  refine AO.val rfl rfl (pick_and rfl rfl rfl rfl) ?_
  refine AO.pure T rfl rfl rfl ?_
  refine AO.nil ?_
  refine AW.ret ?_
  cases someE hH
  exact ⟨trivial, _, [], rfl, .c (.c .v), by decide⟩

def spec_seEntries_l2 (y2 : Entry) : List Entry → Nat → Option (Except Bool Unit)
  | [], k68 =>
    some (.ok ())
  | y69 :: ys70, k68 =>
    cond ((y69.event == y2.event) && (y69.skater == y2.skater))
      (some (.error false))
      (spec_seEntries_l2 y2 ys70 (k68 + 1))
def spec_seEntries_l1 (l : List Entry) : List Entry → Nat → Option Bool
  | [], k1 =>
    some (decide ((l.length : Int) ≤ 80))
  | y2 :: ys3, k1 =>
    ((spec_seEntry_p y2).bind fun x64 =>
    cond (!x64)
      (some (.error false))
      ((sliceHi l (k1 : Int)).bind fun x66 =>
      spec_seEntries_l2 y2 x66 0)).bind fun o62 => flow o62 fun _ =>
    spec_seEntries_l1 l ys3 (k1 + 1)
def spec_seEntries_p (l : List Entry) : Option Bool :=
  spec_seEntries_l1 l l 0
theorem spec_seEntries_ok (l : List Entry) (r : Bool) (hH : spec_seEntries_p l = some r) : SpecR Try.prog 78 [.s (List.map encEntry l)] (.v (.bool r)) := by
  refine fn_ok T Try.func78 rfl (by decide) rfl ?_
  refine AW.seq ?_
  refine AW.region ?_
  refine AO.pure T rfl rfl rfl ?_
  refine AO.nil ?_
  refine AW.seq ?_
  refine AW.seq ?_
  refine AW.region ?_
  refine AO.pure T rfl rfl rfl ?_
  refine AO.val rfl rfl (len_map_ok T rfl rfl rfl) ?_
  refine AO.pure T rfl rfl rfl ?_
  refine AO.nil ?_
  refine AW.block ?_
  refine AW.loopS (fun s : Nat => (⟨[(0, .s (List.map encEntry l)), (7, .s (List.map encEntry l)), (8, .v (.int .i64 (l.length : Int))), (9, .v (.int .i64 (s : Int)))], [], 42, []⟩ : St)) (fun s => s ≤ l.length ∧ spec_seEntries_l1 l (l.drop s) s = some r) (fun s => l.length - s) 0 ⟨Nat.zero_le _, hH⟩ ?_ ?_
  · exact Le.cut 0 0 rfl (by repeat' (first | exact trivial | refine ⟨⟨_, rfl, rfl⟩, ?_⟩)) (by repeat' (first | exact trivial | refine ⟨⟨_, rfl, rfl⟩, ?_⟩)) rfl
  · rintro k1 ⟨hk, hH⟩
    replace hH : spec_seEntries_l1 l (l.drop k1) k1 = some r := hH
    show AW _ _ _ (⟨[(0, .s (List.map encEntry l)), (7, .s (List.map encEntry l)), (8, .v (.int .i64 (l.length : Int))), (9, .v (.int .i64 (k1 : Int)))], [], 42, []⟩ : St)
    refine AW.boundM (t := 0) (l := l) rfl (fun hb5 => ?_)
    cases hd4 : l.drop k1 with
    | nil =>
      rw [hd4] at hH
      rw [spec_seEntries_l1] at hH
      have hlt6 := drop_ge hd4
      refine AW.seq ?_
      refine AW.region ?_
      refine AO.pure T rfl rfl rfl ?_
      refine AO.nil ?_
      refine AW.seq ?_
      refine AW.condF' (b := decide ((k1 : Int) < (l.length : Int))) rfl (rngF hlt6) ?_
      refine AW.exit ?_
      refine AW.seq ?_
      refine AW.region ?_
      refine AO.pure T rfl rfl rfl ?_
      refine AO.val rfl rfl (len_map_ok T rfl rfl rfl) ?_
      refine AO.pure T rfl rfl rfl ?_
      refine AO.pure T rfl rfl rfl ?_
      refine AO.nil ?_
      refine AW.ret ?_
      cases someE hH
      exact ⟨trivial, _, [], rfl, .c (.c .v), by decide⟩
    | cons y2 ys3 =>
      rw [hd4] at hH
      rw [spec_seEntries_l1] at hH
      have hlt6 := drop_lt hd4
      refine AW.seq ?_
      refine AW.region ?_
      refine AO.pure T rfl rfl rfl ?_
      refine AO.nil ?_
      refine AW.seq ?_
      refine AW.condT' (b := decide ((k1 : Int) < (l.length : Int))) rfl (rngT hlt6) ?_
      refine AW.skip ?_
      obtain ⟨o62, hH, hK63⟩ := bindE hH
      refine AW.seqJ (fun s : Unit => (⟨[(0, .s (List.map encEntry l)), (7, .s (List.map encEntry l)), (8, .v (.int .i64 (l.length : Int))), (9, .v (.int .i64 (k1 : Int)))], [], 42, []⟩ : St)) (fun s => .ok s = o62) ?_ ?_
      · refine AW.block ?_
        refine AW.seq ?_
        refine AW.region ?_
        refine AO.pure T rfl rfl rfl ?_
        refine AO.val rfl rfl (ix_map_ok T rfl rfl rfl rfl rfl (getI_drop hd4) rfl) ?_
        refine AO.pure T rfl rfl rfl ?_
        refine AO.step rfl (alloc_ok T rfl 21 rfl rfl rfl rfl rfl) ?_
        refine AO.pure T rfl rfl rfl ?_
        refine AO.step rfl (store_ok T rfl rfl rfl rfl rfl rfl rfl rfl rfl) ?_
        refine AO.nil ?_
        refine AW.seq ?_
        refine AW.seq ?_
        obtain ⟨x64, hx65, hH⟩ := bindE hH
        refine AW.region ?_
        refine AO.pure T rfl rfl rfl ?_
        refine AO.val rfl rfl (callV_ok rfl rfl rfl rfl (spec_seEntry_ok _ _ (hx65)) rfl) ?_
        refine AO.pure T rfl rfl rfl ?_
        refine AO.nil ?_
        refine AW.cond (b := (!x64)) rfl (fun hc => ?_) (fun hc => ?_)
        · replace hH := condT hc hH
          refine AW.seq ?_
          refine AW.region ?_
          refine AO.pure T rfl rfl rfl ?_
          refine AO.nil ?_
          refine AW.ret ?_
          obtain rfl := someE hH
          replace hH := hK63
          cases someE hH
          exact ⟨trivial, _, [], rfl, .c (.c .v), by decide⟩
        · replace hH := condF hc hH
          refine AW.skip ?_
          refine AW.seq ?_
          obtain ⟨x66, hx67, hH⟩ := bindE hH
          refine AW.region ?_
          refine AO.pure T rfl rfl rfl ?_
          refine AO.pure T rfl rfl rfl ?_
          refine AO.val rfl rfl (slice_hi_map_ok T rfl rfl rfl rfl rfl (hx67) (fun _ => rfl)) ?_
          refine AO.val rfl rfl (len_map_ok T rfl rfl rfl) ?_
          refine AO.pure T rfl rfl rfl ?_
          refine AO.nil ?_
          refine AW.block ?_
          refine AW.loopS (fun s : Nat => (⟨[(0, .s (List.map encEntry l)), (4, .p 21 0), (7, .s (List.map encEntry l)), (8, .v (.int .i64 (l.length : Int))), (9, .v (.int .i64 (k1 : Int))), (19, .s (List.map encEntry x66)), (20, .v (.int .i64 (x66.length : Int))), (21, .v (.int .i64 (s : Int)))], [(21, .box [.v (.int .i64 y2.event), .v (.int .i64 y2.skater), .v (.int .i64 y2.points)])], 42, []⟩ : St)) (fun s => s ≤ x66.length ∧ spec_seEntries_l2 y2 (x66.drop s) s = some o62) (fun s => x66.length - s) 0 ⟨Nat.zero_le _, hH⟩ ?_ ?_
          · exact Le.cut 0 0 rfl (by repeat' (first | exact trivial | refine ⟨⟨_, rfl, rfl⟩, ?_⟩)) (by repeat' (first | exact trivial | refine ⟨⟨_, rfl, rfl⟩, ?_⟩)) rfl
          · rintro k68 ⟨hk, hH⟩
            replace hH : spec_seEntries_l2 y2 (x66.drop k68) k68 = some o62 := hH
            show AW _ _ _ (⟨[(0, .s (List.map encEntry l)), (4, .p 21 0), (7, .s (List.map encEntry l)), (8, .v (.int .i64 (l.length : Int))), (9, .v (.int .i64 (k1 : Int))), (19, .s (List.map encEntry x66)), (20, .v (.int .i64 (x66.length : Int))), (21, .v (.int .i64 (k68 : Int)))], [(21, .box [.v (.int .i64 y2.event), .v (.int .i64 y2.skater), .v (.int .i64 y2.points)])], 42, []⟩ : St)
            refine AW.boundM (t := 19) (l := x66) rfl (fun hb72 => ?_)
            cases hd71 : x66.drop k68 with
            | nil =>
              rw [hd71] at hH
              rw [spec_seEntries_l2] at hH
              have hlt73 := drop_ge hd71
              refine AW.seq ?_
              refine AW.region ?_
              refine AO.pure T rfl rfl rfl ?_
              refine AO.nil ?_
              refine AW.seq ?_
              refine AW.condF' (b := decide ((k68 : Int) < (x66.length : Int))) rfl (rngF hlt73) ?_
              refine AW.exit ?_
              refine ⟨_, someE hH, ?_⟩
              exact Le.cut 0 0 rfl (by repeat' (first | exact trivial | refine ⟨⟨_, rfl, rfl⟩, ?_⟩)) (by repeat' (first | exact trivial | refine ⟨⟨_, rfl, rfl⟩, ?_⟩)) rfl
            | cons y69 ys70 =>
              rw [hd71] at hH
              rw [spec_seEntries_l2] at hH
              have hlt73 := drop_lt hd71
              refine AW.seq ?_
              refine AW.region ?_
              refine AO.pure T rfl rfl rfl ?_
              refine AO.nil ?_
              refine AW.seq ?_
              refine AW.condT' (b := decide ((k68 : Int) < (x66.length : Int))) rfl (rngT hlt73) ?_
              refine AW.skip ?_
              refine AW.seq ?_
              refine AW.block ?_
              refine AW.seq ?_
              refine AW.region ?_
              refine AO.val rfl rfl (ix_map_ok T rfl rfl rfl rfl rfl (getI_drop hd71) rfl) ?_
              refine AO.pure T rfl rfl rfl ?_
              refine AO.step rfl (alloc_ok T rfl 24 rfl rfl rfl rfl rfl) ?_
              refine AO.step rfl (store_ok T rfl rfl rfl rfl rfl rfl rfl rfl rfl) ?_
              refine AO.nil ?_
              refine AW.seq ?_
              refine AW.region ?_
              refine AO.pure T rfl rfl rfl ?_
              refine AO.pure T rfl rfl rfl ?_
              refine AO.pure T rfl rfl rfl ?_
              refine AO.pure T rfl rfl rfl ?_
              refine AO.pure T rfl rfl rfl ?_
              refine AO.pure T rfl rfl rfl ?_
              refine AO.pureG T [] rfl trivial rfl rfl ?_
              refine AO.pureG T [31] rfl ⟨fun h => h, trivial⟩ rfl rfl ?_
              refine AO.pureG T [] rfl trivial rfl rfl ?_
              refine AO.pureG T [33] rfl ⟨fun h => h, trivial⟩ rfl rfl ?_
              refine AO.pureG T [32, 34] rfl ⟨fun h => h, fun h => h, trivial⟩ rfl rfl ?_
              refine AO.val rfl rfl (pick_and rfl rfl rfl rfl) ?_
              refine AO.nil ?_
              refine AW.cond (b := ((y69.event == y2.event) && (y69.skater == y2.skater))) rfl (fun hc => ?_) (fun hc => ?_)
              · replace hH := condT hc hH
                refine AW.seq ?_
                refine AW.region ?_
                refine AO.pure T rfl rfl rfl ?_
                refine AO.nil ?_
                refine AW.ret ?_
                obtain rfl := someE hH
                replace hH := hK63
                cases someE hH
                exact ⟨trivial, _, [], rfl, .c (.c .v), by decide⟩
              · replace hH := condF hc hH
                refine AW.skip ?_
                refine AW.region ?_
                refine AO.val rfl rfl (ar_ok rfl rfl rfl rfl (inI_succ hlt73 hb72)) ?_
                refine AO.pure T rfl rfl rfl ?_
                refine AO.nil ?_
                refine ⟨k68 + 1, ⟨Nat.succ_le_of_lt hlt73, (by rw [drop_succ_of hd71]; exact hH)⟩, (by have := hlt73; dsimp only; omega), ?_⟩
                exact Le.cut 0 0 rfl (by repeat' (first | exact trivial | refine ⟨⟨_, rfl, rfl⟩, ?_⟩)) (by repeat' (first | exact trivial | refine ⟨⟨_, rfl, rfl⟩, ?_⟩)) rfl
      · rintro _ hs
        subst hs
        replace hH := hK63
        try dsimp only [flow, flowE] at hH
        show AW _ _ _ (⟨[(0, .s (List.map encEntry l)), (7, .s (List.map encEntry l)), (8, .v (.int .i64 (l.length : Int))), (9, .v (.int .i64 (k1 : Int)))], [], 42, []⟩ : St)
        refine AW.region ?_
        refine AO.val rfl rfl (ar_ok rfl rfl rfl rfl (inI_succ hlt6 hb5)) ?_
        refine AO.pure T rfl rfl rfl ?_
        refine AO.nil ?_
        refine ⟨k1 + 1, ⟨Nat.succ_le_of_lt hlt6, (by rw [drop_succ_of hd4]; exact hH)⟩, (by have := hlt6; dsimp only; omega), ?_⟩
        exact Le.cut 0 0 rfl (by repeat' (first | exact trivial | refine ⟨⟨_, rfl, rfl⟩, ?_⟩)) (by repeat' (first | exact trivial | refine ⟨⟨_, rfl, rfl⟩, ?_⟩)) rfl

def spec_l1Own_p (l : List Int) : Option (List Int) :=
  (need (fitsB 8 l.length)).bind fun u1 =>
  some l
theorem spec_l1Own_ok (l : List Int) (r : (List Int)) (hH : spec_l1Own_p l = some r) : SpecR Try.prog 82 [.s (List.map encInt l)] (.w 1 (r.map encInt)) := by
  refine fn_ok T Try.func82 rfl (by decide) rfl ?_
  refine AW.seq ?_
  refine AW.region ?_
  refine AO.pure T rfl rfl rfl ?_
  refine AO.nil ?_
  refine AW.seq ?_
  obtain ⟨u1, hx2, hH⟩ := bindE hH
  refine AW.region ?_
  refine AO.step rfl (mk0_ok T rfl rfl rfl rfl) ?_
  refine AO.pure T rfl rfl rfl ?_
  refine AO.step rfl (app_ws_map T rfl 1 rfl rfl rfl rfl rfl (by decide) (by decide) rfl rfl (fun _ => rfl) (needT (hx2)) rfl rfl) ?_
  refine AO.pure T rfl rfl rfl ?_
  refine AO.nil ?_
  refine AW.ret ?_
  cases someE hH
  exact ⟨trivial, _, [1], rfl, .c (.c (.rowR rfl)), by decide⟩

def spec_seOwn_l1 (sA : Season) : List Line → Nat → List Line → Option Season
  | [], k1, v20 =>
    some (Season.mk sA.best v20)
  | y2 :: ys3, k1, v20 =>
    (spec_l1Own_p y2.events).bind fun x22 =>
    (spec_l1Own_p y2.points).bind fun x24 =>
    (need (fitsB 56 (v20.length + ([(Line.mk y2.skater x22 x24)]).length))).bind fun u26 =>
    spec_seOwn_l1 sA ys3 (k1 + 1) (v20 ++ [(Line.mk y2.skater x22 x24)])
def spec_seOwn_p (sA : Season) : Option Season :=
  spec_seOwn_l1 sA sA.lines 0 []
theorem spec_seOwn_ok (sA : Season) (r : Season) (hH : spec_seOwn_p sA = some r) : SpecR Try.prog 110 [.g (encSeason sA)] (.g (encSeasonH r)) := by
  refine fn_ok T Try.func110 rfl (by decide) rfl ?_
  refine AW.seq ?_
  refine AW.region ?_
  refine AO.step rfl (box_ok T rfl 1 rfl rfl rfl rfl) ?_
  refine AO.step rfl (alloc_ok T rfl 2 rfl rfl rfl rfl rfl) ?_
  refine AO.nil ?_
  refine AW.seq ?_
  refine AW.region ?_
  refine AO.pure T rfl rfl rfl ?_
  refine AO.pure T rfl rfl rfl ?_
  refine AO.pure T rfl rfl rfl ?_
  refine AO.step rfl (alloc_ok T rfl 3 rfl rfl rfl rfl rfl) ?_
  refine AO.step rfl (store_ok T rfl rfl rfl rfl rfl rfl rfl rfl rfl) ?_
  refine AO.nil ?_
  refine AW.seq ?_
  refine AW.seq ?_
  refine AW.region ?_
  refine AO.pure T rfl rfl rfl ?_
  refine AO.pure T rfl rfl rfl ?_
  refine AO.val rfl rfl (len_map_ok T rfl rfl rfl) ?_
  refine AO.pure T rfl rfl rfl ?_
  refine AO.nil ?_
  refine AW.block ?_
  refine AW.loopS (fun s : Nat × (List Line) => (⟨[(2, .p 2 0), (3, .p 3 0), (10, .s (List.map encLine sA.lines)), (11, .v (.int .i64 (sA.lines.length : Int))), (12, .v (.int .i64 (s.1 : Int)))], [(2, .box [.v (.int .i64 0), .w 0 []]), (3, .box [.v (.int .i64 sA.best), .R 9]), (9, .row 3 (List.map encLine s.2))], 32, []⟩ : St)) (fun s => s.1 ≤ sA.lines.length ∧ spec_seOwn_l1 sA (sA.lines.drop s.1) s.1 s.2 = some r) (fun s => sA.lines.length - s.1) (0, []) ⟨Nat.zero_le _, hH⟩ ?_ ?_
  · refine Le.trans (Le.voidBox 3 1 9 3 rfl rfl rfl rfl) ?_
    exact Le.cut 0 0 rfl (by repeat' (first | exact trivial | refine ⟨⟨_, rfl, rfl⟩, ?_⟩)) (by repeat' (first | exact trivial | refine ⟨⟨_, rfl, rfl⟩, ?_⟩)) rfl
  · rintro ⟨k1, v20⟩ ⟨hk, hH⟩
    replace hH : spec_seOwn_l1 sA (sA.lines.drop k1) k1 v20 = some r := hH
    show AW _ _ _ (⟨[(2, .p 2 0), (3, .p 3 0), (10, .s (List.map encLine sA.lines)), (11, .v (.int .i64 (sA.lines.length : Int))), (12, .v (.int .i64 (k1 : Int)))], [(2, .box [.v (.int .i64 0), .w 0 []]), (3, .box [.v (.int .i64 sA.best), .R 9]), (9, .row 3 (List.map encLine v20))], 32, []⟩ : St)
    refine AW.boundM (t := 10) (l := sA.lines) rfl (fun hb5 => ?_)
    cases hd4 : sA.lines.drop k1 with
    | nil =>
      rw [hd4] at hH
      rw [spec_seOwn_l1] at hH
      have hlt6 := drop_ge hd4
      refine AW.seq ?_
      refine AW.region ?_
      refine AO.pure T rfl rfl rfl ?_
      refine AO.nil ?_
      refine AW.seq ?_
      refine AW.condF' (b := decide ((k1 : Int) < (sA.lines.length : Int))) rfl (rngF hlt6) ?_
      refine AW.exit ?_
      refine AW.seq ?_
      refine AW.region ?_
      refine AO.pure T rfl rfl rfl ?_
      refine AO.step rfl (store_ok T rfl rfl rfl rfl rfl rfl rfl rfl rfl) ?_
      refine AO.nil ?_
      refine AW.ret ?_
      cases someE hH
      exact ⟨trivial, _, [9], rfl, .c (.g (expLC_cons .v (expLC_cons (.rowR rfl) (expLC_nil)))), by decide⟩
    | cons y2 ys3 =>
      rw [hd4] at hH
      rw [spec_seOwn_l1] at hH
      have hlt6 := drop_lt hd4
      refine AW.seq ?_
      refine AW.region ?_
      refine AO.pure T rfl rfl rfl ?_
      refine AO.nil ?_
      refine AW.seq ?_
      refine AW.condT' (b := decide ((k1 : Int) < (sA.lines.length : Int))) rfl (rngT hlt6) ?_
      refine AW.skip ?_
      refine AW.seq ?_
      refine AW.block ?_
      refine AW.seq ?_
      refine AW.region ?_
      refine AO.val rfl rfl (ix_map_ok T rfl rfl rfl rfl rfl (getI_drop hd4) rfl) ?_
      refine AO.pure T rfl rfl rfl ?_
      refine AO.step rfl (alloc_ok T rfl 10 rfl rfl rfl rfl rfl) ?_
      refine AO.step rfl (store_ok T rfl rfl rfl rfl rfl rfl rfl rfl rfl) ?_
      refine AO.nil ?_
      obtain ⟨x22, hx23, hH⟩ := bindE hH
      obtain ⟨x24, hx25, hH⟩ := bindE hH
      obtain ⟨u26, hx27, hH⟩ := bindE hH
      refine AW.drawn 12 11 [] mix (by kernel_rfl) rfl ?_
      refine AD.pure T rfl rfl rfl ?_
      refine AD.pure T rfl rfl rfl ?_
      refine AD.pure T rfl rfl rfl ?_
      refine AD.pure T rfl rfl rfl ?_
      refine AD.pure T rfl rfl rfl ?_
      refine AD.pure T rfl rfl rfl ?_
      refine AD.val rfl rfl (callF_ok rfl rfl rfl rfl (spec_l1Own_ok _ _ (hx23)) (.c (.c (.map fun y => .vs rfl)))) ?_
      refine AD.pure T rfl rfl rfl ?_
      refine AD.pure T rfl rfl rfl ?_
      refine AD.val rfl rfl (callF_ok rfl rfl rfl rfl (spec_l1Own_ok _ _ (hx25)) (.c (.c (.map fun y => .vs rfl)))) ?_
      refine AD.pure T rfl rfl rfl ?_
      refine AD.q (FStep.mk T (f := encLine) (l := [(Line.mk y2.skater x22 x24)]) rfl rfl rfl rfl rfl rfl rfl rfl rfl (fun _ => rfl) rfl rfl rfl rfl) (by simp [namesIn]) (Nat.le_succ _) rfl ?_
      refine AD.nil ?_
      refine AO.step rfl (app_rv_map T rfl 12 rfl rfl rfl rfl rfl (by decide) rfl rfl rfl rfl (fun _ => rfl) (needT (hx27)) rfl rfl) ?_
      refine AO.pure T rfl rfl rfl ?_
      refine AO.step rfl (store_ok T rfl rfl rfl rfl rfl rfl rfl rfl rfl) ?_
      refine AO.nil ?_
      refine AW.region ?_
      refine AO.val rfl rfl (ar_ok rfl rfl rfl rfl (inI_succ hlt6 hb5)) ?_
      refine AO.pure T rfl rfl rfl ?_
      refine AO.nil ?_
      refine ⟨(k1 + 1, (v20 ++ [(Line.mk y2.skater x22 x24)])), ⟨Nat.succ_le_of_lt hlt6, (by rw [drop_succ_of hd4]; exact hH)⟩, (by have := hlt6; dsimp only; omega), ?_⟩
      exact Le.cut 12 9 rfl (by repeat' (first | exact trivial | refine ⟨⟨_, rfl, rfl⟩, ?_⟩)) (by repeat' (first | exact trivial | refine ⟨⟨_, rfl, rfl⟩, ?_⟩)) rfl

def spec_seIndex_l1 (sA : Season) (skater : Int) : Nat → Int → Option Int
  | 0, _ => none
  | k13 + 1, v19 =>
    (opt (decide (v19 < (sA.lines.length : Int))) default (getI sA.lines v19)).bind fun x21 =>
    cond (decide (v19 < (sA.lines.length : Int)) && decide (x21.skater < skater))
      (spec_seIndex_l1 sA skater k13 (w64 (v19 + 1)))
      (some v19)
def spec_seIndex_p (fuel : Nat) (sA : Season) (skater : Int) : Option Int :=
  (spec_seIndex_l1 sA skater fuel 0).bind fun v10 =>
  some v10
theorem spec_seIndex_ok (fuel : Nat) (sA : Season) (skater : Int) (r : Int) (hH : spec_seIndex_p fuel sA skater = some r) : SpecR Try.prog 107 [.g (encSeason sA), .v (.int .i64 skater)] (.v (.int .i64 r)) := by
  refine fn_ok T Try.func107 rfl (by decide) rfl ?_
  refine AW.seq ?_
  refine AW.region ?_
  refine AO.step rfl (box_ok T rfl 1 rfl rfl rfl rfl) ?_
  refine AO.pure T rfl rfl rfl ?_
  refine AO.nil ?_
  refine AW.seq ?_
  refine AW.region ?_
  refine AO.pure T rfl rfl rfl ?_
  refine AO.nil ?_
  obtain ⟨o11, hH, hK12⟩ := bindE hH
  refine AW.seqJ (fun s : Int => (⟨[(5, .v (.int .i64 s))], [], 24, []⟩ : St)) (fun s => s = o11) ?_ ?_
  · refine AW.block ?_
    refine AW.loopS (fun s : Nat × Int => (⟨[(1, .v (.int .i64 skater)), (2, .p 1 0), (5, .v (.int .i64 s.2))], [(1, .box [.v (.int .i64 sA.best), .s (List.map encLine sA.lines)])], 24, []⟩ : St)) (fun s => spec_seIndex_l1 sA skater s.1 s.2 = some o11) (fun s => s.1) (fuel, 0) hH ?_ ?_
    · exact Le.cut 0 0 rfl (by repeat' (first | exact trivial | refine ⟨⟨_, rfl, rfl⟩, ?_⟩)) (by repeat' (first | exact trivial | refine ⟨⟨_, rfl, rfl⟩, ?_⟩)) rfl
    · rintro ⟨k13, v19⟩ hH
      replace hH : spec_seIndex_l1 sA skater k13 v19 = some o11 := hH
      show AW _ _ _ (⟨[(1, .v (.int .i64 skater)), (2, .p 1 0), (5, .v (.int .i64 v19))], [(1, .box [.v (.int .i64 sA.best), .s (List.map encLine sA.lines)])], 24, []⟩ : St)
      cases k13 with
      | zero => cases (show none = some _ from hH)
      | succ k13 =>
        rw [spec_seIndex_l1] at hH
        refine AW.seq ?_
        refine AW.seq ?_
        obtain ⟨x21, hx22, hH⟩ := bindE hH
        refine AW.region ?_
        refine AO.pure T rfl rfl rfl ?_
        refine AO.pure T rfl rfl rfl ?_
        refine AO.pure T rfl rfl rfl ?_
        refine AO.val rfl rfl (len_map_ok T rfl rfl rfl) ?_
        refine AO.pure T rfl rfl rfl ?_
        refine AO.pure T rfl rfl rfl ?_
        refine AO.pureG T [] rfl trivial rfl rfl ?_
        refine AO.pureG T [12] rfl ⟨fun h => h, trivial⟩ rfl rfl ?_
        refine AO.pureG T [] rfl trivial rfl rfl ?_
        refine AO.guard [13, 14] rfl ⟨fun h => h, fun h => h, trivial⟩ (fun hg => ix_map_ok T rfl rfl rfl rfl rfl (optT hx22 hg) rfl) rfl ?_
        refine AO.pureG T [15] rfl ⟨fun h => h, trivial⟩ rfl rfl ?_
        refine AO.pureG T [16] rfl ⟨fun h => h, trivial⟩ rfl rfl ?_
        refine AO.pureG T [] rfl trivial rfl rfl ?_
        refine AO.pureG T [17, 18] rfl ⟨fun h => h, fun h => h, trivial⟩ rfl rfl ?_
        refine AO.val rfl rfl (pick_and rfl rfl rfl rfl) ?_
        refine AO.nil ?_
        refine AW.cond (b := (decide (v19 < (sA.lines.length : Int)) && decide (x21.skater < skater))) rfl (fun hc => ?_) (fun hc => ?_)
        · replace hH := condT hc hH
          refine AW.skip ?_
          refine AW.block ?_
          refine AW.region ?_
          refine AO.pure T rfl rfl rfl ?_
          refine AO.val rfl rfl (arw_ok rfl rfl rfl rfl) ?_
          refine AO.pure T rfl rfl rfl ?_
          refine AO.nil ?_
          refine ⟨(k13, w64 (v19 + 1)), hH, Nat.lt_succ_self _, ?_⟩
          exact Le.cut 0 0 rfl (by repeat' (first | exact trivial | refine ⟨⟨_, rfl, rfl⟩, ?_⟩)) (by repeat' (first | exact trivial | refine ⟨⟨_, rfl, rfl⟩, ?_⟩)) rfl
        · replace hH := condF hc hH
          refine AW.exit ?_
          refine ⟨_, someE hH, ?_⟩
          exact Le.cut 0 0 rfl (by repeat' (first | exact trivial | refine ⟨⟨_, rfl, rfl⟩, ?_⟩)) (by repeat' (first | exact trivial | refine ⟨⟨_, rfl, rfl⟩, ?_⟩)) rfl
  · rintro v10 hs
    subst hs
    replace hH := hK12
    try dsimp only [flow, flowE] at hH
    show AW _ _ _ (⟨[(5, .v (.int .i64 v10))], [], 24, []⟩ : St)
    refine AW.seq ?_
    refine AW.region ?_
    refine AO.pure T rfl rfl rfl ?_
    refine AO.pure T rfl rfl rfl ?_
    refine AO.nil ?_
    refine AW.ret ?_
    cases someE hH
    exact ⟨trivial, _, [], rfl, .c (.c .v), by decide⟩

def spec_seHas_p (fuel : Nat) (sA : Season) (skater : Int) : Option Int :=
  (spec_seIndex_p fuel sA skater).bind fun x1 =>
  (opt (!(x1 == (sA.lines.length : Int))) default (getI sA.lines x1)).bind fun x3 =>
  cond ((x1 == (sA.lines.length : Int)) || (x3.skater != skater))
    (some (-1))
    (some x1)
theorem spec_seHas_ok (fuel : Nat) (sA : Season) (skater : Int) (r : Int) (hH : spec_seHas_p fuel sA skater = some r) : SpecR Try.prog 67 [.g (encSeason sA), .v (.int .i64 skater)] (.v (.int .i64 r)) := by
  refine fn_ok T Try.func67 rfl (by decide) rfl ?_
  refine AW.seq ?_
  refine AW.region ?_
  refine AO.step rfl (box_ok T rfl 1 rfl rfl rfl rfl) ?_
  refine AO.pure T rfl rfl rfl ?_
  refine AO.nil ?_
  refine AW.seq ?_
  obtain ⟨x1, hx2, hH⟩ := bindE hH
  refine AW.region ?_
  refine AO.pure T rfl rfl rfl ?_
  refine AO.pure T rfl rfl rfl ?_
  refine AO.val rfl rfl (callV_ok rfl rfl rfl rfl (spec_seIndex_ok fuel _ _ _ (hx2)) rfl) ?_
  refine AO.pure T rfl rfl rfl ?_
  refine AO.nil ?_
  refine AW.seq ?_
  refine AW.seq ?_
  obtain ⟨x3, hx4, hH⟩ := bindE hH
  refine AW.region ?_
  refine AO.pure T rfl rfl rfl ?_
  refine AO.pure T rfl rfl rfl ?_
  refine AO.pure T rfl rfl rfl ?_
  refine AO.val rfl rfl (len_map_ok T rfl rfl rfl) ?_
  refine AO.pure T rfl rfl rfl ?_
  refine AO.pure T rfl rfl rfl ?_
  refine AO.pureG T [] rfl trivial rfl rfl ?_
  refine AO.pureG T [15] rfl ⟨fun h => h, trivial⟩ rfl rfl ?_
  refine AO.pureG T [] rfl trivial rfl rfl ?_
  refine AO.guard [16, 17] rfl ⟨fun h => h, fun h => h, trivial⟩ (fun hg => ix_map_ok T rfl rfl rfl rfl rfl (optT hx4 hg) rfl) rfl ?_
  refine AO.pureG T [18] rfl ⟨fun h => h, trivial⟩ rfl rfl ?_
  refine AO.pureG T [19] rfl ⟨fun h => h, trivial⟩ rfl rfl ?_
  refine AO.pureG T [] rfl trivial rfl rfl ?_
  refine AO.pureG T [20, 21] rfl ⟨fun h => h, fun h => h, trivial⟩ rfl rfl ?_
  refine AO.val rfl rfl (pick_or rfl rfl rfl rfl) ?_
  refine AO.nil ?_
  refine AW.cond (b := ((x1 == (sA.lines.length : Int)) || (x3.skater != skater))) rfl (fun hc => ?_) (fun hc => ?_)
  · replace hH := condT hc hH
    refine AW.seq ?_
    refine AW.region ?_
    refine AO.pure T rfl rfl rfl ?_
    refine AO.nil ?_
    refine AW.ret ?_
    cases someE hH
    exact ⟨trivial, _, [], rfl, .c (.c .v), by decide⟩
  · replace hH := condF hc hH
    refine AW.skip ?_
    refine AW.seq ?_
    refine AW.region ?_
    refine AO.pure T rfl rfl rfl ?_
    refine AO.pure T rfl rfl rfl ?_
    refine AO.nil ?_
    refine AW.ret ?_
    cases someE hH
    exact ⟨trivial, _, [], rfl, .c (.c .v), by decide⟩

def spec_seInsert_p (l : List Int) (k : Int) (n : Int) : Option (List Int) :=
  (sliceHi l k).bind fun x1 =>
  (spec_l1Own_p x1).bind fun x3 =>
  (need (fitsB 8 (x3.length + ([n]).length))).bind fun u5 =>
  (sliceLo l k).bind fun x7 =>
  (need (fitsB 8 (((x3 ++ [n])).length + x7.length))).bind fun u9 =>
  some ((x3 ++ [n]) ++ x7)
theorem spec_seInsert_ok (l : List Int) (k : Int) (n : Int) (r : (List Int)) (hH : spec_seInsert_p l k n = some r) : SpecR Try.prog 83 [.s (List.map encInt l), .v (.int .i64 k), .v (.int .i64 n)] (.w 1 (r.map encInt)) := by
  refine fn_ok T Try.func83 rfl (by decide) rfl ?_
  refine AW.seq ?_
  refine AW.region ?_
  refine AO.pure T rfl rfl rfl ?_
  refine AO.nil ?_
  refine AW.seq ?_
  obtain ⟨x1, hx2, hH⟩ := bindE hH
  obtain ⟨x3, hx4, hH⟩ := bindE hH
  obtain ⟨u5, hx6, hH⟩ := bindE hH
  obtain ⟨x7, hx8, hH⟩ := bindE hH
  obtain ⟨u9, hx10, hH⟩ := bindE hH
  refine AW.drawn 10 1 [] mix (by kernel_rfl) rfl ?_
  refine AD.pure T rfl rfl rfl ?_
  refine AD.pure T rfl rfl rfl ?_
  refine AD.val rfl rfl (slice_hi_map_ok T rfl rfl rfl rfl rfl (hx2) (fun _ => rfl)) ?_
  refine AD.q (FStep.call rfl rfl rfl rfl rfl (spec_l1Own_ok _ _ (hx4)) rfl rfl) (impT_names _ _) (impT_le _ _) rfl ?_
  refine AD.pure T rfl rfl rfl ?_
  refine AD.q (FStep.mk T (f := encInt) (l := [n]) rfl rfl rfl rfl rfl rfl rfl rfl rfl (fun _ => rfl) rfl rfl rfl rfl) (by simp [namesIn]) (Nat.le_succ _) rfl ?_
  refine AD.k rfl rfl (FStep.app_rv T rfl rfl rfl rfl rfl rfl rfl (by decide) rfl rfl rfl rfl (fun _ => rfl) (needT (hx6)) rfl) rfl rfl rfl ?_
  refine AD.pure T rfl rfl rfl ?_
  refine AD.pure T rfl rfl rfl ?_
  refine AD.val rfl rfl (slice_lo_map_ok T rfl rfl rfl rfl rfl (hx8) (fun _ => rfl)) ?_
  refine AD.nil ?_
  refine AO.step rfl (app_rs_map T rfl 4 rfl rfl rfl rfl rfl (by decide) (by decide) rfl rfl rfl (fun _ => rfl) (needT (hx10)) rfl rfl) ?_
  refine AO.pure T rfl rfl rfl ?_
  refine AO.nil ?_
  refine AW.ret ?_
  cases someE hH
  exact ⟨trivial, _, [4], rfl, .c (.c (.rowR rfl)), by decide⟩

def spec_seAdd_l1 (e : Entry) (x17 : Line) : Nat → Int → Option Int
  | 0, _ => none
  | k37 + 1, v47 =>
    (opt (decide (v47 < (x17.points.length : Int))) default (getI x17.points v47)).bind fun x49 =>
    (opt ((decide (v47 < (x17.points.length : Int)) && (!(decide (x49 > e.points)))) && (x49 == e.points)) default (getI x17.events v47)).bind fun x51 =>
    cond (decide (v47 < (x17.points.length : Int)) && (decide (x49 > e.points) || ((x49 == e.points) && decide (x51 < e.event))))
      (spec_seAdd_l1 e x17 k37 (w64 (v47 + 1)))
      (some v47)
def spec_seAdd_p (fuel : Nat) (sA : Season) (e : Entry) : Option Season :=
  (spec_seOwn_p sA).bind fun x1 =>
  (spec_seIndex_p fuel sA e.skater).bind fun x3 =>
  (spec_seHas_p fuel sA e.skater).bind fun x5 =>
  cond (decide (x5 < 0))
    ((sliceHi x1.lines x3).bind fun x7 =>
    (need (fitsB 56 x7.length)).bind fun u9 =>
    (need (fitsB 56 (x7.length + ([(Line.mk e.skater [e.event] [e.points])]).length))).bind fun u11 =>
    (sliceLo x1.lines x3).bind fun x13 =>
    (need (fitsB 56 (((x7 ++ [(Line.mk e.skater [e.event] [e.points])])).length + x13.length))).bind fun u15 =>
    some (Season.mk x1.best ((x7 ++ [(Line.mk e.skater [e.event] [e.points])]) ++ x13)))
    ((getI x1.lines x3).bind fun x17 =>
    (spec_seAdd_l1 e x17 fuel 0).bind fun v34 =>
    (spec_seInsert_p x17.events v34 e.event).bind fun x53 =>
    (spec_seInsert_p x17.points v34 e.points).bind fun x55 =>
    (getI (x1.lines.set x3.toNat (Line.mk x17.skater x53 x17.points)) x3).bind fun x57 =>
    some (Season.mk x1.best ((x1.lines.set x3.toNat (Line.mk x17.skater x53 x17.points)).set x3.toNat (Line.mk x57.skater x57.events x55))))
theorem spec_seAdd_ok (fuel : Nat) (sA : Season) (e : Entry) (r : Season) (hH : spec_seAdd_p fuel sA e = some r) : SpecR Try.prog 79 [.g (encSeason sA), .g (encEntry e)] (.g (encSeasonH r)) := by
  refine fn_ok T Try.func79 rfl (by decide) rfl ?_
  refine AW.seq ?_
  refine AW.region ?_
  refine AO.step rfl (box_ok T rfl 1 rfl rfl rfl rfl) ?_
  refine AO.step rfl (box_ok T rfl 2 rfl rfl rfl rfl) ?_
  refine AO.step rfl (alloc_ok T rfl 3 rfl rfl rfl rfl rfl) ?_
  refine AO.nil ?_
  refine AW.seq ?_
  obtain ⟨x1, hx2, hH⟩ := bindE hH
  refine AW.region ?_
  refine AO.pure T rfl rfl rfl ?_
  refine AO.step rfl (call_ok rfl 4 rfl rfl rfl (spec_seOwn_ok _ _ (hx2)) rfl rfl rfl) ?_
  refine AO.step rfl (alloc_ok T rfl 5 rfl rfl rfl rfl rfl) ?_
  refine AO.step rfl (store_ok T rfl rfl rfl rfl rfl rfl rfl rfl rfl) ?_
  refine AO.nil ?_
  refine AW.seq ?_
  obtain ⟨x3, hx4, hH⟩ := bindE hH
  refine AW.region ?_
  refine AO.pure T rfl rfl rfl ?_
  refine AO.pure T rfl rfl rfl ?_
  refine AO.pure T rfl rfl rfl ?_
  refine AO.val rfl rfl (callV_ok rfl rfl rfl rfl (spec_seIndex_ok fuel _ _ _ (hx4)) rfl) ?_
  refine AO.pure T rfl rfl rfl ?_
  refine AO.nil ?_
  refine AW.seq ?_
  refine AW.seq ?_
  obtain ⟨x5, hx6, hH⟩ := bindE hH
  refine AW.region ?_
  refine AO.pure T rfl rfl rfl ?_
  refine AO.pure T rfl rfl rfl ?_
  refine AO.pure T rfl rfl rfl ?_
  refine AO.val rfl rfl (callV_ok rfl rfl rfl rfl (spec_seHas_ok fuel _ _ _ (hx6)) rfl) ?_
  refine AO.pure T rfl rfl rfl ?_
  refine AO.nil ?_
  refine AW.cond (b := decide (x5 < 0)) rfl (fun hc => ?_) (fun hc => ?_)
  · replace hH := condT hc hH
    refine AW.seq ?_
    refine AW.region ?_
    refine AO.pure T rfl rfl rfl ?_
    refine AO.pure T rfl rfl rfl ?_
    refine AO.pure T rfl rfl rfl ?_
    refine AO.pure T rfl rfl rfl ?_
    refine AO.step rfl (mk_map_ok T rfl 6 rfl rfl rfl rfl rfl (f := encInt) (l := [e.event]) rfl rfl (fun _ => rfl) rfl rfl rfl rfl rfl) ?_
    refine AO.pure T rfl rfl rfl ?_
    refine AO.pure T rfl rfl rfl ?_
    refine AO.step rfl (mk_map_ok T rfl 7 rfl rfl rfl rfl rfl (f := encInt) (l := [e.points]) rfl rfl (fun _ => rfl) rfl rfl rfl rfl rfl) ?_
    refine AO.pure T rfl rfl rfl ?_
    refine AO.step rfl (alloc_ok T rfl 8 rfl rfl rfl rfl rfl) ?_
    refine AO.step rfl (store_ok T rfl rfl rfl rfl rfl rfl rfl rfl rfl) ?_
    refine AO.nil ?_
    refine AW.le (Le.cut 0 0 (σ' := (⟨[(4, .p 3 0), (5, .p 5 0), (6, .v (.int .i64 x3)), (7, .p 8 0)], [(3, .box [.v (.int .i64 0), .w 0 []]), (4, .row 3 (List.map encLine x1.lines)), (5, .box [.v (.int .i64 x1.best), .R 4]), (6, .row 1 (List.map encInt [e.event])), (7, .row 1 (List.map encInt [e.points])), (8, .box [.v (.int .i64 e.skater), .R 6, .R 7])], 111, []⟩ : St)) rfl (by repeat' (first | exact trivial | refine ⟨⟨_, rfl, rfl⟩, ?_⟩)) (by repeat' (first | exact trivial | refine ⟨⟨_, rfl, rfl⟩, ?_⟩)) rfl) ?_
    refine AW.seq ?_
    obtain ⟨x7, hx8, hH⟩ := bindE hH
    obtain ⟨u9, hx10, hH⟩ := bindE hH
    obtain ⟨u11, hx12, hH⟩ := bindE hH
    obtain ⟨x13, hx14, hH⟩ := bindE hH
    obtain ⟨u15, hx16, hH⟩ := bindE hH
    refine AW.le (Le.freezeM 4 (g := encLine) rfl (fun y => .vs rfl)) ?_
    refine AW.le (Le.freezeM 6 (g := encInt) rfl (fun y => .vs rfl)) ?_
    refine AW.le (Le.freezeM 7 (g := encInt) rfl (fun y => .vs rfl)) ?_
    refine AW.drawn 13 9 [] mix (by kernel_rfl) rfl ?_
    refine AD.v (FStep.mk0 T rfl rfl rfl rfl rfl) ?_
    refine AD.pure T rfl rfl rfl ?_
    refine AD.pure T rfl rfl rfl ?_
    refine AD.pure T rfl rfl rfl ?_
    refine AD.val rfl rfl (slice_hi_map_ok T rfl rfl rfl rfl rfl (hx8) (fun _ => rfl)) ?_
    refine AD.q (FStep.app_ws T rfl rfl rfl rfl rfl rfl rfl (by decide) (by decide) rfl rfl (fun _ => rfl) (needT (hx10)) rfl) (by simp [namesIn]) (Nat.le_succ _) rfl ?_
    refine AD.pure T rfl rfl rfl ?_
    refine AD.q (FStep.mk T (f := encLine) (l := [(Line.mk e.skater [e.event] [e.points])]) rfl rfl rfl rfl rfl rfl rfl rfl rfl (fun _ => rfl) rfl rfl rfl rfl) (by simp [namesIn]) (Nat.le_succ _) rfl ?_
    refine AD.k rfl rfl (FStep.app_rv T rfl rfl rfl rfl rfl rfl rfl (by decide) rfl rfl rfl rfl (fun _ => rfl) (needT (hx12)) rfl) rfl rfl rfl ?_
    refine AD.pure T rfl rfl rfl ?_
    refine AD.pure T rfl rfl rfl ?_
    refine AD.pure T rfl rfl rfl ?_
    refine AD.val rfl rfl (slice_lo_map_ok T rfl rfl rfl rfl rfl (hx14) (fun _ => rfl)) ?_
    refine AD.nil ?_
    refine AO.step rfl (app_rs_map T rfl 12 rfl rfl rfl rfl rfl (by decide) (by decide) rfl rfl rfl (fun _ => rfl) (needT (hx16)) rfl rfl) ?_
    refine AO.pure T rfl rfl rfl ?_
    refine AO.step rfl (store_ok T rfl rfl rfl rfl rfl rfl rfl rfl rfl) ?_
    refine AO.nil ?_
    refine AW.seq ?_
    refine AW.region ?_
    refine AO.pure T rfl rfl rfl ?_
    refine AO.step rfl (store_ok T rfl rfl rfl rfl rfl rfl rfl rfl rfl) ?_
    refine AO.nil ?_
    refine AW.ret ?_
    cases someE hH
    exact ⟨trivial, _, [12], rfl, .c (.g (expLC_cons .v (expLC_cons (.rowR rfl) (expLC_nil)))), by decide⟩
  · replace hH := condF hc hH
    refine AW.skip ?_
    refine AW.seq ?_
    obtain ⟨x17, hx18, hH⟩ := bindE hH
    refine AW.region ?_
    refine AO.pure T rfl rfl rfl ?_
    refine AO.pure T rfl rfl rfl ?_
    refine AO.pure T rfl rfl rfl ?_
    refine AO.val rfl rfl (ix_row_ok T rfl rfl rfl rfl rfl rfl (hx18)) ?_
    refine AO.val rfl rfl (load_row_ok T rfl rfl rfl rfl (getI_get (hx18)) rfl rfl rfl) ?_
    refine AO.step rfl (alloc_ok T rfl 13 rfl rfl rfl rfl rfl) ?_
    refine AO.step rfl (store_ok T rfl rfl rfl rfl rfl rfl rfl rfl rfl) ?_
    refine AO.nil ?_
    refine AW.le (Le.cut 0 0 (σ' := (⟨[(3, .p 2 0), (4, .p 3 0), (5, .p 5 0), (6, .v (.int .i64 x3)), (8, .p 13 0)], [(2, .box [.v (.int .i64 e.event), .v (.int .i64 e.skater), .v (.int .i64 e.points)]), (3, .box [.v (.int .i64 0), .w 0 []]), (4, .row 3 (List.map encLine x1.lines)), (5, .box [.v (.int .i64 x1.best), .R 4]), (13, .box [.v (.int .i64 x17.skater), .s (List.map encInt x17.events), .s (List.map encInt x17.points)])], 111, []⟩ : St)) rfl (by repeat' (first | exact trivial | refine ⟨⟨_, rfl, rfl⟩, ?_⟩)) (by repeat' (first | exact trivial | refine ⟨⟨_, rfl, rfl⟩, ?_⟩)) rfl) ?_
    refine AW.seq ?_
    refine AW.region ?_
    refine AO.pure T rfl rfl rfl ?_
    refine AO.nil ?_
    obtain ⟨o35, hH, hK36⟩ := bindE hH
    refine AW.seqJ (fun s : Int => (⟨[(3, .p 2 0), (4, .p 3 0), (5, .p 5 0), (6, .v (.int .i64 x3)), (8, .p 13 0), (9, .v (.int .i64 s))], [(2, .box [.v (.int .i64 e.event), .v (.int .i64 e.skater), .v (.int .i64 e.points)]), (3, .box [.v (.int .i64 0), .w 0 []]), (4, .row 3 (List.map encLine x1.lines)), (5, .box [.v (.int .i64 x1.best), .R 4]), (13, .box [.v (.int .i64 x17.skater), .s (List.map encInt x17.events), .s (List.map encInt x17.points)])], 111, []⟩ : St)) (fun s => s = o35) ?_ ?_
    · refine AW.block ?_
      refine AW.loopS (fun s : Nat × Int => (⟨[(3, .p 2 0), (4, .p 3 0), (5, .p 5 0), (6, .v (.int .i64 x3)), (8, .p 13 0), (9, .v (.int .i64 s.2))], [(2, .box [.v (.int .i64 e.event), .v (.int .i64 e.skater), .v (.int .i64 e.points)]), (3, .box [.v (.int .i64 0), .w 0 []]), (4, .row 3 (List.map encLine x1.lines)), (5, .box [.v (.int .i64 x1.best), .R 4]), (13, .box [.v (.int .i64 x17.skater), .s (List.map encInt x17.events), .s (List.map encInt x17.points)])], 111, []⟩ : St)) (fun s => spec_seAdd_l1 e x17 s.1 s.2 = some o35) (fun s => s.1) (fuel, 0) hH ?_ ?_
      · exact Le.cut 0 0 rfl (by repeat' (first | exact trivial | refine ⟨⟨_, rfl, rfl⟩, ?_⟩)) (by repeat' (first | exact trivial | refine ⟨⟨_, rfl, rfl⟩, ?_⟩)) rfl
      · rintro ⟨k37, v47⟩ hH
        replace hH : spec_seAdd_l1 e x17 k37 v47 = some o35 := hH
        show AW _ _ _ (⟨[(3, .p 2 0), (4, .p 3 0), (5, .p 5 0), (6, .v (.int .i64 x3)), (8, .p 13 0), (9, .v (.int .i64 v47))], [(2, .box [.v (.int .i64 e.event), .v (.int .i64 e.skater), .v (.int .i64 e.points)]), (3, .box [.v (.int .i64 0), .w 0 []]), (4, .row 3 (List.map encLine x1.lines)), (5, .box [.v (.int .i64 x1.best), .R 4]), (13, .box [.v (.int .i64 x17.skater), .s (List.map encInt x17.events), .s (List.map encInt x17.points)])], 111, []⟩ : St)
        cases k37 with
        | zero => cases (show none = some _ from hH)
        | succ k37 =>
          rw [spec_seAdd_l1] at hH
          refine AW.seq ?_
          refine AW.seq ?_
          obtain ⟨x49, hx50, hH⟩ := bindE hH
          obtain ⟨x51, hx52, hH⟩ := bindE hH
          refine AW.drawn 31 14 [] mix (by kernel_rfl) rfl ?_
          refine AD.pure T rfl rfl rfl ?_
          refine AD.pure T rfl rfl rfl ?_
          refine AD.pure T rfl rfl rfl ?_
          refine AD.val rfl rfl (len_map_ok T rfl rfl rfl) ?_
          refine AD.pure T rfl rfl rfl ?_
          refine AD.pure T rfl rfl rfl ?_
          refine AD.pureG T [] rfl trivial rfl rfl ?_
          refine AD.pureG T [57] rfl ⟨fun h => h, trivial⟩ rfl rfl ?_
          refine AD.pureG T [] rfl trivial rfl rfl ?_
          refine AD.guard [58, 59] rfl ⟨fun h => h, fun h => h, trivial⟩ (fun hg => ix_map_ok T rfl rfl rfl rfl rfl (optT hx50 hg) rfl) rfl ?_
          refine AD.pureG T [60] rfl ⟨fun h => h, trivial⟩ rfl rfl ?_
          refine AD.pureG T [] rfl trivial rfl rfl ?_
          refine AD.pureG T [62] rfl ⟨fun h => h, trivial⟩ rfl rfl ?_
          refine AD.pureG T [61, 63] rfl ⟨fun h => h, fun h => h, trivial⟩ rfl rfl ?_
          refine AD.pureG T [64] rfl ⟨fun h => h, trivial⟩ rfl rfl ?_
          refine AD.pureG T [] rfl trivial rfl rfl ?_
          refine AD.pureG T [66] rfl ⟨fun h => h, trivial⟩ rfl rfl ?_
          refine AD.pureG T [] rfl trivial rfl rfl ?_
          refine AD.guard [67, 68] rfl ⟨fun h => h, fun h => h, trivial⟩ (fun hg => ix_map_ok T rfl rfl rfl rfl rfl (optT hx50 ((fun h => (fun h => h) (Bool.and_eq_true_iff.1 h).1) hg)) rfl) rfl ?_
          refine AD.pureG T [69] rfl ⟨fun h => h, trivial⟩ rfl rfl ?_
          refine AD.pureG T [] rfl trivial rfl rfl ?_
          refine AD.pureG T [71] rfl ⟨fun h => h, trivial⟩ rfl rfl ?_
          refine AD.pureG T [70, 72] rfl ⟨fun h => h, fun h => h, trivial⟩ rfl rfl ?_
          refine AD.pureG T [73] rfl ⟨fun h => h, trivial⟩ rfl rfl ?_
          refine AD.pureG T [] rfl trivial rfl rfl ?_
          refine AD.pureG T [75] rfl ⟨fun h => h, trivial⟩ rfl rfl ?_
          refine AD.pureG T [] rfl trivial rfl rfl ?_
          refine AD.guard [76, 77] rfl ⟨fun h => h, fun h => h, trivial⟩ (fun hg => ix_map_ok T rfl rfl rfl rfl rfl (optT hx52 hg) rfl) rfl ?_
          refine AD.pureG T [78] rfl ⟨fun h => h, trivial⟩ rfl rfl ?_
          refine AD.pureG T [] rfl trivial rfl rfl ?_
          refine AD.pureG T [80] rfl ⟨fun h => h, trivial⟩ rfl rfl ?_
          refine AD.nil ?_
          refine AO.pureG T [79, 81] rfl ⟨fun h => h, fun h => h, trivial⟩ rfl rfl ?_
          refine AO.guard [74] rfl ⟨fun h => h, trivial⟩ (fun hg => pick_and rfl rfl rfl (by rw [hg]; exact Bool.true_and _)) rfl ?_
          refine AO.guard [65] rfl ⟨fun h => h, trivial⟩ (fun hg => pick_or rfl rfl rfl (by rw [hg]; exact Bool.true_and _)) rfl ?_
          refine AO.val rfl rfl (pick_and rfl rfl rfl rfl) ?_
          refine AO.nil ?_
          refine AW.le (Le.cut 0 0 (σ' := (⟨[(3, .p 2 0), (4, .p 3 0), (5, .p 5 0), (6, .v (.int .i64 x3)), (8, .p 13 0), (9, .v (.int .i64 v47)), (85, .v (.bool (decide (v47 < (x17.points.length : Int)) && (decide (x49 > e.points) || ((x49 == e.points) && decide (x51 < e.event))))))], [(2, .box [.v (.int .i64 e.event), .v (.int .i64 e.skater), .v (.int .i64 e.points)]), (3, .box [.v (.int .i64 0), .w 0 []]), (4, .row 3 (List.map encLine x1.lines)), (5, .box [.v (.int .i64 x1.best), .R 4]), (13, .box [.v (.int .i64 x17.skater), .s (List.map encInt x17.events), .s (List.map encInt x17.points)])], 111, []⟩ : St)) rfl (by repeat' (first | exact trivial | refine ⟨⟨_, rfl, rfl⟩, ?_⟩)) (by repeat' (first | exact trivial | refine ⟨⟨_, rfl, rfl⟩, ?_⟩)) rfl) ?_
          refine AW.cond (b := (decide (v47 < (x17.points.length : Int)) && (decide (x49 > e.points) || ((x49 == e.points) && decide (x51 < e.event))))) rfl (fun hc => ?_) (fun hc => ?_)
          · replace hH := condT hc hH
            refine AW.skip ?_
            refine AW.block ?_
            refine AW.region ?_
            refine AO.pure T rfl rfl rfl ?_
            refine AO.val rfl rfl (arw_ok rfl rfl rfl rfl) ?_
            refine AO.pure T rfl rfl rfl ?_
            refine AO.nil ?_
            refine ⟨(k37, w64 (v47 + 1)), hH, Nat.lt_succ_self _, ?_⟩
            exact Le.cut 0 0 rfl (by repeat' (first | exact trivial | refine ⟨⟨_, rfl, rfl⟩, ?_⟩)) (by repeat' (first | exact trivial | refine ⟨⟨_, rfl, rfl⟩, ?_⟩)) rfl
          · replace hH := condF hc hH
            refine AW.exit ?_
            refine ⟨_, someE hH, ?_⟩
            exact Le.cut 0 0 rfl (by repeat' (first | exact trivial | refine ⟨⟨_, rfl, rfl⟩, ?_⟩)) (by repeat' (first | exact trivial | refine ⟨⟨_, rfl, rfl⟩, ?_⟩)) rfl
    · rintro v34 hs
      subst hs
      replace hH := hK36
      try dsimp only [flow, flowE] at hH
      show AW _ _ _ (⟨[(3, .p 2 0), (4, .p 3 0), (5, .p 5 0), (6, .v (.int .i64 x3)), (8, .p 13 0), (9, .v (.int .i64 v34))], [(2, .box [.v (.int .i64 e.event), .v (.int .i64 e.skater), .v (.int .i64 e.points)]), (3, .box [.v (.int .i64 0), .w 0 []]), (4, .row 3 (List.map encLine x1.lines)), (5, .box [.v (.int .i64 x1.best), .R 4]), (13, .box [.v (.int .i64 x17.skater), .s (List.map encInt x17.events), .s (List.map encInt x17.points)])], 111, []⟩ : St)
      refine AW.seq ?_
      obtain ⟨x53, hx54, hH⟩ := bindE hH
      refine AW.drawn 9 14 [] mix (by kernel_rfl) rfl ?_
      refine AD.pure T rfl rfl rfl ?_
      refine AD.pure T rfl rfl rfl ?_
      refine AD.pure T rfl rfl rfl ?_
      refine AD.pure T rfl rfl rfl ?_
      refine AD.pure T rfl rfl rfl ?_
      refine AD.pure T rfl rfl rfl ?_
      refine AD.pure T rfl rfl rfl ?_
      refine AD.pure T rfl rfl rfl ?_
      refine AD.val rfl rfl (callF_ok rfl rfl rfl rfl (spec_seInsert_ok _ _ _ _ (hx54)) (.c (.c (.map fun y => .vs rfl)))) ?_
      refine AD.nil ?_
      refine AO.val rfl rfl (ix_row_ok T rfl rfl rfl rfl rfl rfl (hx18)) ?_
      refine AO.pure T rfl rfl rfl ?_
      refine AO.step rfl (store_row_ok T rfl rfl rfl rfl rfl (getI_get (hx18)) rfl rfl rfl rfl (u' := (Line.mk x17.skater x53 x17.points)) rfl rfl) ?_
      refine AO.nil ?_
      refine AW.seq ?_
      obtain ⟨x55, hx56, hH⟩ := bindE hH
      obtain ⟨x57, hx58, hH⟩ := bindE hH
      refine AW.drawn 9 14 [] mix (by kernel_rfl) rfl ?_
      refine AD.pure T rfl rfl rfl ?_
      refine AD.pure T rfl rfl rfl ?_
      refine AD.pure T rfl rfl rfl ?_
      refine AD.pure T rfl rfl rfl ?_
      refine AD.pure T rfl rfl rfl ?_
      refine AD.pure T rfl rfl rfl ?_
      refine AD.pure T rfl rfl rfl ?_
      refine AD.pure T rfl rfl rfl ?_
      refine AD.val rfl rfl (callF_ok rfl rfl rfl rfl (spec_seInsert_ok _ _ _ _ (hx56)) (.c (.c (.map fun y => .vs rfl)))) ?_
      refine AD.nil ?_
      refine AO.val rfl rfl (ix_row_ok T rfl rfl rfl rfl rfl rfl (hx58)) ?_
      refine AO.pure T rfl rfl rfl ?_
      refine AO.step rfl (store_row_ok T rfl rfl rfl rfl rfl (getI_get (hx58)) rfl rfl rfl rfl (u' := (Line.mk x57.skater x57.events x55)) rfl rfl) ?_
      refine AO.nil ?_
      refine AW.le (Le.cut 0 0 (σ' := (⟨[(4, .p 3 0), (5, .p 5 0)], [(3, .box [.v (.int .i64 0), .w 0 []]), (4, .row 3 (List.map encLine ((x1.lines.set x3.toNat (Line.mk x17.skater x53 x17.points)).set x3.toNat (Line.mk x57.skater x57.events x55)))), (5, .box [.v (.int .i64 x1.best), .R 4])], 111, []⟩ : St)) rfl (by repeat' (first | exact trivial | refine ⟨⟨_, rfl, rfl⟩, ?_⟩)) (by repeat' (first | exact trivial | refine ⟨⟨_, rfl, rfl⟩, ?_⟩)) rfl) ?_
      refine AW.seq ?_
      refine AW.region ?_
      refine AO.pure T rfl rfl rfl ?_
      refine AO.step rfl (store_ok T rfl rfl rfl rfl rfl rfl rfl rfl rfl) ?_
      refine AO.nil ?_
      refine AW.ret ?_
      cases someE hH
      exact ⟨trivial, _, [4], rfl, .c (.g (expLC_cons .v (expLC_cons (.rowR rfl) (expLC_nil)))), by decide⟩

def spec_FreshSeason_l1 (fuel : Nat) : List Entry → Nat → Int → List Line → Option ((Season × Bool))
  | [], k5, v17, v18 =>
    some ((Season.mk v17 v18), true)
  | y6 :: ys7, k5, v17, v18 =>
    (spec_seAdd_p fuel (Season.mk v17 v18) y6).bind fun x20 =>
    spec_FreshSeason_l1 fuel ys7 (k5 + 1) x20.best x20.lines
def spec_FreshSeason_p (fuel : Nat) (best : Int) (l : List Entry) : Option (Season × Bool) :=
  (spec_l1In_p best 1 9).bind fun x1 =>
  (opt (!(!x1)) default (spec_seEntries_p l)).bind fun x3 =>
  cond ((!x1) || (!x3))
    (some ((Season.mk 0 []), false))
    (spec_FreshSeason_l1 fuel l 0 best [])
theorem spec_FreshSeason_ok (fuel : Nat) (best : Int) (l : List Entry) (r : (Season × Bool)) (hH : spec_FreshSeason_p fuel best l = some r) : SpecR Try.prog 33 [.v (.int .i64 best), .s (List.map encEntry l)] (.t [.g (encSeasonH r.1), .v (.bool r.2)]) := by
  refine fn_ok T Try.func33 rfl (by decide) rfl ?_
  refine AW.seq ?_
  refine AW.region ?_
  refine AO.step rfl (alloc_ok T rfl 1 rfl rfl rfl rfl rfl) ?_
  refine AO.pure T rfl rfl rfl ?_
  refine AO.nil ?_
  refine AW.seq ?_
  refine AW.seq ?_
  obtain ⟨x1, hx2, hH⟩ := bindE hH
  obtain ⟨x3, hx4, hH⟩ := bindE hH
  refine AW.region ?_
  refine AO.pure T rfl rfl rfl ?_
  refine AO.val rfl rfl (callV_ok rfl rfl rfl rfl (spec_l1In_ok _ _ _ _ (hx2)) rfl) ?_
  refine AO.pure T rfl rfl rfl ?_
  refine AO.pure T rfl rfl rfl ?_
  refine AO.pureG T [] rfl trivial rfl rfl ?_
  refine AO.guard [13] rfl ⟨fun h => h, trivial⟩ (fun hg => callV_ok rfl rfl rfl rfl (spec_seEntries_ok _ _ (optT hx4 hg)) rfl) rfl ?_
  refine AO.pureG T [14] rfl ⟨fun h => h, trivial⟩ rfl rfl ?_
  refine AO.val rfl rfl (pick_or rfl rfl rfl rfl) ?_
  refine AO.nil ?_
  refine AW.cond (b := ((!x1) || (!x3))) rfl (fun hc => ?_) (fun hc => ?_)
  · replace hH := condT hc hH
    refine AW.seq ?_
    refine AW.region ?_
    refine AO.pure T rfl rfl rfl ?_
    refine AO.step rfl (store_ok T rfl rfl rfl rfl rfl rfl rfl rfl rfl) ?_
    refine AO.pure T rfl rfl rfl ?_
    refine AO.nil ?_
    refine AW.ret ?_
    cases someE hH
    exact ⟨trivial, _, [], rfl, .t (expLG_cons (.g (expLC_cons .v (expLC_cons .nil (expLC_nil)))) (expLG_cons (.c .v) (expLG_nil))), by decide⟩
  · replace hH := condF hc hH
    refine AW.skip ?_
    refine AW.seq ?_
    refine AW.region ?_
    refine AO.pure T rfl rfl rfl ?_
    refine AO.pure T rfl rfl rfl ?_
    refine AO.step rfl (alloc_ok T rfl 2 rfl rfl rfl rfl rfl) ?_
    refine AO.step rfl (store_ok T rfl rfl rfl rfl rfl rfl rfl rfl rfl) ?_
    refine AO.nil ?_
    refine AW.seq ?_
    refine AW.seq ?_
    refine AW.region ?_
    refine AO.pure T rfl rfl rfl ?_
    refine AO.val rfl rfl (len_map_ok T rfl rfl rfl) ?_
    refine AO.pure T rfl rfl rfl ?_
    refine AO.nil ?_
    refine AW.block ?_
    refine AW.loopS (fun s : Nat × Int × (List Line) => (⟨[(4, .p 1 0), (6, .p 2 0), (20, .s (List.map encEntry l)), (21, .v (.int .i64 (l.length : Int))), (22, .v (.int .i64 (s.1 : Int)))], [(1, .box [.v (.int .i64 0), .w 0 []]), (2, .box [.v (.int .i64 s.2.1), .R 6]), (6, .row 3 (List.map encLine s.2.2))], 31, []⟩ : St)) (fun s => s.1 ≤ l.length ∧ spec_FreshSeason_l1 fuel (l.drop s.1) s.1 s.2.1 s.2.2 = some r) (fun s => l.length - s.1) (0, best, []) ⟨Nat.zero_le _, hH⟩ ?_ ?_
    · refine Le.trans (Le.voidBox 2 1 6 3 rfl rfl rfl rfl) ?_
      exact Le.cut 0 0 rfl (by repeat' (first | exact trivial | refine ⟨⟨_, rfl, rfl⟩, ?_⟩)) (by repeat' (first | exact trivial | refine ⟨⟨_, rfl, rfl⟩, ?_⟩)) rfl
    · rintro ⟨k5, v17, v18⟩ ⟨hk, hH⟩
      replace hH : spec_FreshSeason_l1 fuel (l.drop k5) k5 v17 v18 = some r := hH
      show AW _ _ _ (⟨[(4, .p 1 0), (6, .p 2 0), (20, .s (List.map encEntry l)), (21, .v (.int .i64 (l.length : Int))), (22, .v (.int .i64 (k5 : Int)))], [(1, .box [.v (.int .i64 0), .w 0 []]), (2, .box [.v (.int .i64 v17), .R 6]), (6, .row 3 (List.map encLine v18))], 31, []⟩ : St)
      refine AW.boundM (t := 20) (l := l) rfl (fun hb9 => ?_)
      cases hd8 : l.drop k5 with
      | nil =>
        rw [hd8] at hH
        rw [spec_FreshSeason_l1] at hH
        have hlt10 := drop_ge hd8
        refine AW.seq ?_
        refine AW.region ?_
        refine AO.pure T rfl rfl rfl ?_
        refine AO.nil ?_
        refine AW.seq ?_
        refine AW.condF' (b := decide ((k5 : Int) < (l.length : Int))) rfl (rngF hlt10) ?_
        refine AW.exit ?_
        refine AW.seq ?_
        refine AW.region ?_
        refine AO.pure T rfl rfl rfl ?_
        refine AO.step rfl (store_ok T rfl rfl rfl rfl rfl rfl rfl rfl rfl) ?_
        refine AO.pure T rfl rfl rfl ?_
        refine AO.nil ?_
        refine AW.ret ?_
        cases someE hH
        exact ⟨trivial, _, [6], rfl, .t (expLG_cons (.g (expLC_cons .v (expLC_cons (.rowR rfl) (expLC_nil)))) (expLG_cons (.c .v) (expLG_nil))), by decide⟩
      | cons y6 ys7 =>
        rw [hd8] at hH
        rw [spec_FreshSeason_l1] at hH
        have hlt10 := drop_lt hd8
        refine AW.seq ?_
        refine AW.region ?_
        refine AO.pure T rfl rfl rfl ?_
        refine AO.nil ?_
        refine AW.seq ?_
        refine AW.condT' (b := decide ((k5 : Int) < (l.length : Int))) rfl (rngT hlt10) ?_
        refine AW.skip ?_
        refine AW.seq ?_
        refine AW.block ?_
        refine AW.seq ?_
        refine AW.region ?_
        refine AO.val rfl rfl (ix_map_ok T rfl rfl rfl rfl rfl (getI_drop hd8) rfl) ?_
        refine AO.pure T rfl rfl rfl ?_
        refine AO.step rfl (alloc_ok T rfl 7 rfl rfl rfl rfl rfl) ?_
        refine AO.step rfl (store_ok T rfl rfl rfl rfl rfl rfl rfl rfl rfl) ?_
        refine AO.nil ?_
        obtain ⟨x20, hx21, hH⟩ := bindE hH
        refine AW.le (Le.freezeM 6 (g := encLine) rfl (fun y => .vs rfl)) ?_
        refine AW.region ?_
        refine AO.pure T rfl rfl rfl ?_
        refine AO.pure T rfl rfl rfl ?_
        refine AO.step rfl (call_ok rfl 8 rfl rfl rfl (spec_seAdd_ok fuel _ _ _ (hx21)) rfl rfl rfl) ?_
        refine AO.step rfl (store_ok T rfl rfl rfl rfl rfl rfl rfl rfl rfl) ?_
        refine AO.nil ?_
        refine AW.region ?_
        refine AO.val rfl rfl (ar_ok rfl rfl rfl rfl (inI_succ hlt10 hb9)) ?_
        refine AO.pure T rfl rfl rfl ?_
        refine AO.nil ?_
        refine ⟨(k5 + 1, x20.best, x20.lines), ⟨Nat.succ_le_of_lt hlt10, (by rw [drop_succ_of hd8]; exact hH)⟩, (by have := hlt10; dsimp only; omega), ?_⟩
        exact Le.cut 8 6 rfl (by repeat' (first | exact trivial | refine ⟨⟨_, rfl, rfl⟩, ?_⟩)) (by repeat' (first | exact trivial | refine ⟨⟨_, rfl, rfl⟩, ?_⟩)) rfl

def impl_within_p (n : Int) (low : Int) (high : Int) : Option Bool :=
  some (decide (n ≥ low) && decide (n ≤ high))
theorem impl_within_ok (n : Int) (low : Int) (high : Int) (r : Bool) (hH : impl_within_p n low high = some r) : SpecR Try.prog 85 [.v (.int .i64 n), .v (.int .i64 low), .v (.int .i64 high)] (.v (.bool r)) := by
  refine fn_ok T Try.func85 rfl (by decide) rfl ?_
  refine AW.seq ?_
  refine AW.region ?_
  refine AO.pure T rfl rfl rfl ?_
  refine AO.nil ?_
  refine AW.seq ?_
  refine AW.region ?_
  refine AO.pure T rfl rfl rfl ?_
  refine AO.pure T rfl rfl rfl ?_
  refine AO.pure T rfl rfl rfl ?_
  refine AO.pure T rfl rfl rfl ?_
  refine AO.pureG T [] rfl trivial rfl rfl ?_
  refine AO.pureG T [] rfl trivial rfl rfl ?_
  refine AO.pureG T [11, 12] rfl ⟨fun h => h, fun h => h, trivial⟩ rfl rfl ?_
  refine AO.val rfl rfl (pick_and rfl rfl rfl rfl) ?_
  refine AO.pure T rfl rfl rfl ?_
  refine AO.nil ?_
  refine AW.ret ?_
  cases someE hH
  exact ⟨trivial, _, [], rfl, .c (.c .v), by decide⟩

def impl_isBest_p (best : Int) : Option Bool :=
  (impl_within_p best 1 9).bind fun x1 =>
  some x1
theorem impl_isBest_ok (best : Int) (r : Bool) (hH : impl_isBest_p best = some r) : SpecR Try.prog 62 [.v (.int .i64 best)] (.v (.bool r)) := by
  refine fn_ok T Try.func62 rfl (by decide) rfl ?_
  refine AW.seq ?_
  refine AW.region ?_
  refine AO.pure T rfl rfl rfl ?_
  refine AO.nil ?_
  refine AW.seq ?_
  obtain ⟨x1, hx2, hH⟩ := bindE hH
  refine AW.region ?_
  refine AO.pure T rfl rfl rfl ?_
  refine AO.val rfl rfl (callV_ok rfl rfl rfl rfl (impl_within_ok _ _ _ _ (hx2)) rfl) ?_
  refine AO.pure T rfl rfl rfl ?_
  refine AO.nil ?_
  refine AW.ret ?_
  cases someE hH
  exact ⟨trivial, _, [], rfl, .c (.c .v), by decide⟩

def impl_isEvent_p (event : Int) : Option Bool :=
  (impl_within_p event 1 99).bind fun x1 =>
  some x1
theorem impl_isEvent_ok (event : Int) (r : Bool) (hH : impl_isEvent_p event = some r) : SpecR Try.prog 91 [.v (.int .i64 event)] (.v (.bool r)) := by
  refine fn_ok T Try.func91 rfl (by decide) rfl ?_
  refine AW.seq ?_
  refine AW.region ?_
  refine AO.pure T rfl rfl rfl ?_
  refine AO.nil ?_
  refine AW.seq ?_
  obtain ⟨x1, hx2, hH⟩ := bindE hH
  refine AW.region ?_
  refine AO.pure T rfl rfl rfl ?_
  refine AO.val rfl rfl (callV_ok rfl rfl rfl rfl (impl_within_ok _ _ _ _ (hx2)) rfl) ?_
  refine AO.pure T rfl rfl rfl ?_
  refine AO.nil ?_
  refine AW.ret ?_
  cases someE hH
  exact ⟨trivial, _, [], rfl, .c (.c .v), by decide⟩

def impl_isSkater_p (skater : Int) : Option Bool :=
  (impl_within_p skater 1 999).bind fun x1 =>
  some x1
theorem impl_isSkater_ok (skater : Int) (r : Bool) (hH : impl_isSkater_p skater = some r) : SpecR Try.prog 84 [.v (.int .i64 skater)] (.v (.bool r)) := by
  refine fn_ok T Try.func84 rfl (by decide) rfl ?_
  refine AW.seq ?_
  refine AW.region ?_
  refine AO.pure T rfl rfl rfl ?_
  refine AO.nil ?_
  refine AW.seq ?_
  obtain ⟨x1, hx2, hH⟩ := bindE hH
  refine AW.region ?_
  refine AO.pure T rfl rfl rfl ?_
  refine AO.val rfl rfl (callV_ok rfl rfl rfl rfl (impl_within_ok _ _ _ _ (hx2)) rfl) ?_
  refine AO.pure T rfl rfl rfl ?_
  refine AO.nil ?_
  refine AW.ret ?_
  cases someE hH
  exact ⟨trivial, _, [], rfl, .c (.c .v), by decide⟩

def slices_IndexFunc_Entry_l1 (f : Entry → Option Bool) : List Entry → Nat → Option Int
  | [], k1 =>
    some (-1)
  | y2 :: ys3, k1 =>
    (f y2).bind fun x12 =>
    cond x12
      (some (k1 : Int))
      (slices_IndexFunc_Entry_l1 f ys3 (k1 + 1))
def slices_IndexFunc_Entry_p (sA : List Entry) (f : Entry → Option Bool) : Option Int :=
  slices_IndexFunc_Entry_l1 f sA 0
theorem slices_IndexFunc_Entry_ok (sA : List Entry) (f_f : Nat) (f_c : List D) (f_k : f_c.all D.capOk = true) (f : Entry → Option Bool) (f_h : ∀ (a0 : Entry) (q : Bool), f a0 = some q → SpecR Try.prog f_f ([.g (encEntry a0)] ++ f_c) (.v (.bool q))) (r : Int) (hH : slices_IndexFunc_Entry_p sA f = some r) : SpecR Try.prog 115 [.s (List.map encEntry sA), .f f_f f_c] (.v (.int .i64 r)) := by
  have f_r := cap_cfree f_k
  refine fn_ok T Try.func115 rfl (by decide) rfl ?_
  refine AW.seq ?_
  refine AW.region ?_
  refine AO.pure T rfl rfl rfl ?_
  refine AO.nil ?_
  refine AW.seq ?_
  refine AW.seq ?_
  refine AW.region ?_
  refine AO.pure T rfl rfl rfl ?_
  refine AO.val rfl rfl (len_map_ok T rfl rfl rfl) ?_
  refine AO.pure T rfl rfl rfl ?_
  refine AO.nil ?_
  refine AW.block ?_
  refine AW.loopS (fun s : Nat => (⟨[(0, .s (List.map encEntry sA)), (1, .f f_f f_c), (7, .v (.int .i64 (sA.length : Int))), (8, .v (.int .i64 (s : Int)))], [], 19, []⟩ : St)) (fun s => s ≤ sA.length ∧ slices_IndexFunc_Entry_l1 f (sA.drop s) s = some r) (fun s => sA.length - s) 0 ⟨Nat.zero_le _, hH⟩ ?_ ?_
  · exact Le.cut 0 0 rfl ⟨⟨_, rfl, rfl⟩, ⟨_, rfl, ren_fF f_r⟩, ⟨_, rfl, rfl⟩, ⟨_, rfl, rfl⟩, trivial⟩ (by repeat' (first | exact trivial | refine ⟨⟨_, rfl, rfl⟩, ?_⟩)) (andT (allC rfl (allC (known_fF f_r) (allC rfl (allC rfl allN)))) rfl)
  · rintro k1 ⟨hk, hH⟩
    replace hH : slices_IndexFunc_Entry_l1 f (sA.drop k1) k1 = some r := hH
    show AW _ _ _ (⟨[(0, .s (List.map encEntry sA)), (1, .f f_f f_c), (7, .v (.int .i64 (sA.length : Int))), (8, .v (.int .i64 (k1 : Int)))], [], 19, []⟩ : St)
    refine AW.boundM (t := 0) (l := sA) rfl (fun hb5 => ?_)
    cases hd4 : sA.drop k1 with
    | nil =>
      rw [hd4] at hH
      rw [slices_IndexFunc_Entry_l1] at hH
      have hlt6 := drop_ge hd4
      refine AW.seq ?_
      refine AW.region ?_
      refine AO.pure T rfl rfl rfl ?_
      refine AO.nil ?_
      refine AW.seq ?_
      refine AW.condF' (b := decide ((k1 : Int) < (sA.length : Int))) rfl (rngF hlt6) ?_
      refine AW.exit ?_
      refine AW.seq ?_
      refine AW.region ?_
      refine AO.pure T rfl rfl rfl ?_
      refine AO.nil ?_
      refine AW.ret ?_
      cases someE hH
      exact ⟨trivial, _, [], rfl, .c (.c .v), by decide⟩
    | cons y2 ys3 =>
      rw [hd4] at hH
      rw [slices_IndexFunc_Entry_l1] at hH
      have hlt6 := drop_lt hd4
      refine AW.seq ?_
      refine AW.region ?_
      refine AO.pure T rfl rfl rfl ?_
      refine AO.nil ?_
      refine AW.seq ?_
      refine AW.condT' (b := decide ((k1 : Int) < (sA.length : Int))) rfl (rngT hlt6) ?_
      refine AW.skip ?_
      refine AW.seq ?_
      refine AW.block ?_
      refine AW.seq ?_
      refine AW.region ?_
      refine AO.pure T rfl rfl rfl ?_
      refine AO.pure T rfl rfl rfl ?_
      refine AO.nil ?_
      refine AW.seq ?_
      obtain ⟨x12, hx13, hH⟩ := bindE hH
      refine AW.region ?_
      refine AO.pure T rfl rfl rfl ?_
      refine AO.pure T rfl rfl rfl ?_
      refine AO.pure T rfl rfl rfl ?_
      refine AO.val rfl rfl (ix_map_ok T rfl rfl rfl rfl rfl (getI_drop hd4) rfl) ?_
      refine AO.pure T rfl rfl rfl ?_
      refine AO.val rfl rfl (callV_ok rfl rfl rfl (andT rfl (free_cfree f_r)) (f_h _ _ (hx13)) rfl) ?_
      refine AO.nil ?_
      refine AW.cond (b := x12) rfl (fun hc => ?_) (fun hc => ?_)
      · replace hH := condT hc hH
        refine AW.seq ?_
        refine AW.region ?_
        refine AO.pure T rfl rfl rfl ?_
        refine AO.pure T rfl rfl rfl ?_
        refine AO.nil ?_
        refine AW.ret ?_
        cases someE hH
        exact ⟨trivial, _, [], rfl, .c (.c .v), by decide⟩
      · replace hH := condF hc hH
        refine AW.skip ?_
        refine AW.region ?_
        refine AO.val rfl rfl (ar_ok rfl rfl rfl rfl (inI_succ hlt6 hb5)) ?_
        refine AO.pure T rfl rfl rfl ?_
        refine AO.nil ?_
        refine ⟨k1 + 1, ⟨Nat.succ_le_of_lt hlt6, (by rw [drop_succ_of hd4]; exact hH)⟩, (by have := hlt6; dsimp only; omega), ?_⟩
        exact Le.cut 0 0 rfl ⟨⟨_, rfl, rfl⟩, ⟨_, rfl, ren_fF f_r⟩, ⟨_, rfl, rfl⟩, ⟨_, rfl, rfl⟩, trivial⟩ (by repeat' (first | exact trivial | refine ⟨⟨_, rfl, rfl⟩, ?_⟩)) (andT (allC rfl (allC (known_fF f_r) (allC rfl (allC rfl allN)))) rfl)

def slices_ContainsFunc_Entry_p (sA : List Entry) (f : Entry → Option Bool) : Option Bool :=
  (slices_IndexFunc_Entry_p sA f).bind fun x1 =>
  some (decide (x1 ≥ 0))
theorem slices_ContainsFunc_Entry_ok (sA : List Entry) (f_f : Nat) (f_c : List D) (f_k : f_c.all D.capOk = true) (f : Entry → Option Bool) (f_h : ∀ (a0 : Entry) (q : Bool), f a0 = some q → SpecR Try.prog f_f ([.g (encEntry a0)] ++ f_c) (.v (.bool q))) (r : Bool) (hH : slices_ContainsFunc_Entry_p sA f = some r) : SpecR Try.prog 95 [.s (List.map encEntry sA), .f f_f f_c] (.v (.bool r)) := by
  have f_r := cap_cfree f_k
  refine fn_ok T Try.func95 rfl (by decide) rfl ?_
  refine AW.seq ?_
  refine AW.region ?_
  refine AO.pure T rfl rfl rfl ?_
  refine AO.nil ?_
  refine AW.seq ?_
  obtain ⟨x1, hx2, hH⟩ := bindE hH
  refine AW.region ?_
  refine AO.pure T rfl rfl rfl ?_
  refine AO.pure T rfl rfl rfl ?_
  refine AO.val rfl rfl (callV_ok rfl rfl rfl (andT (allC rfl (allC f_r allN)) rfl) (slices_IndexFunc_Entry_ok _ f_f f_c f_k f f_h _ (hx2)) rfl) ?_
  refine AO.pure T rfl rfl rfl ?_
  refine AO.pure T rfl rfl rfl ?_
  refine AO.nil ?_
  refine AW.ret ?_
  cases someE hH
  exact ⟨trivial, _, [], rfl, .c (.c .v), by decide⟩

def impl_AreEntries_c1_p (x : Entry) (a : Entry) : Option Bool :=
  some ((x.event == a.event) && (x.skater == a.skater))
theorem impl_AreEntries_c1_ok (x : Entry) (a : Entry) (r : Bool) (hH : impl_AreEntries_c1_p x a = some r) : SpecR Try.prog 102 [.g (encEntry x), .q (encEntry a)] (.v (.bool r)) := by
  refine fn_ok T Try.func102 rfl (by decide) rfl ?_
  refine AW.seq ?_
  refine AW.region ?_
  refine AO.step rfl (box_ok T rfl 1 rfl rfl rfl rfl) ?_
  refine AO.pure T rfl rfl rfl ?_
  refine AO.nil ?_
  refine AW.seq ?_
  refine AW.region ?_
  refine AO.pure T rfl rfl rfl ?_
  refine AO.pure T rfl rfl rfl ?_
  refine AO.pure T rfl rfl rfl ?_
  refine AO.pure T rfl rfl rfl ?_
  refine AO.pure T rfl rfl rfl ?_
  refine AO.pure T rfl rfl rfl ?_
  refine AO.pureG T [] rfl trivial rfl rfl ?_
  refine AO.pureG T [10] rfl ⟨fun h => h, trivial⟩ rfl rfl ?_
  refine AO.pureG T [] rfl trivial rfl rfl ?_
  refine AO.pureG T [12] rfl ⟨fun h => h, trivial⟩ rfl rfl ?_
  refine AO.pureG T [11, 13] rfl ⟨fun h => h, fun h => h, trivial⟩ rfl rfl ?_
  refine AO.val rfl rfl (pick_and rfl rfl rfl rfl) ?_
  refine AO.pure T rfl rfl rfl ?_
  refine AO.nil ?_
  refine AW.ret ?_
  cases someE hH
  exact ⟨trivial, _, [], rfl, .c (.c .v), by decide⟩

def impl_AreEntries_l1 (l : List Entry) : List Entry → Nat → Option Bool
  | [], k1 =>
    some (decide ((l.length : Int) ≤ 80))
  | y2 :: ys3, k1 =>
    (impl_isEvent_p y2.event).bind fun x28 =>
    (opt (!(!x28)) default (impl_isSkater_p y2.skater)).bind fun x30 =>
    (opt (!((!x28) || (!x30))) default (impl_within_p y2.points 0 100000)).bind fun x32 =>
    cond (((!x28) || (!x30)) || (!x32))
      (some false)
      ((sliceHi l (k1 : Int)).bind fun x34 =>
      (slices_ContainsFunc_Entry_p x34 (fun a0 => impl_AreEntries_c1_p a0 y2)).bind fun x36 =>
      cond x36
        (some false)
        (impl_AreEntries_l1 l ys3 (k1 + 1)))
def impl_AreEntries_p (l : List Entry) : Option Bool :=
  impl_AreEntries_l1 l l 0
theorem impl_AreEntries_ok (l : List Entry) (r : Bool) (hH : impl_AreEntries_p l = some r) : SpecR Try.prog 57 [.s (List.map encEntry l)] (.v (.bool r)) := by
  refine fn_ok T Try.func57 rfl (by decide) rfl ?_
  refine AW.seq ?_
  refine AW.region ?_
  refine AO.pure T rfl rfl rfl ?_
  refine AO.nil ?_
  refine AW.seq ?_
  refine AW.seq ?_
  refine AW.region ?_
  refine AO.pure T rfl rfl rfl ?_
  refine AO.val rfl rfl (len_map_ok T rfl rfl rfl) ?_
  refine AO.pure T rfl rfl rfl ?_
  refine AO.nil ?_
  refine AW.block ?_
  refine AW.loopS (fun s : Nat => (⟨[(0, .s (List.map encEntry l)), (5, .s (List.map encEntry l)), (6, .v (.int .i64 (l.length : Int))), (7, .v (.int .i64 (s : Int)))], [], 37, []⟩ : St)) (fun s => s ≤ l.length ∧ impl_AreEntries_l1 l (l.drop s) s = some r) (fun s => l.length - s) 0 ⟨Nat.zero_le _, hH⟩ ?_ ?_
  · exact Le.cut 0 0 rfl (by repeat' (first | exact trivial | refine ⟨⟨_, rfl, rfl⟩, ?_⟩)) (by repeat' (first | exact trivial | refine ⟨⟨_, rfl, rfl⟩, ?_⟩)) rfl
  · rintro k1 ⟨hk, hH⟩
    replace hH : impl_AreEntries_l1 l (l.drop k1) k1 = some r := hH
    show AW _ _ _ (⟨[(0, .s (List.map encEntry l)), (5, .s (List.map encEntry l)), (6, .v (.int .i64 (l.length : Int))), (7, .v (.int .i64 (k1 : Int)))], [], 37, []⟩ : St)
    refine AW.boundM (t := 0) (l := l) rfl (fun hb5 => ?_)
    cases hd4 : l.drop k1 with
    | nil =>
      rw [hd4] at hH
      rw [impl_AreEntries_l1] at hH
      have hlt6 := drop_ge hd4
      refine AW.seq ?_
      refine AW.region ?_
      refine AO.pure T rfl rfl rfl ?_
      refine AO.nil ?_
      refine AW.seq ?_
      refine AW.condF' (b := decide ((k1 : Int) < (l.length : Int))) rfl (rngF hlt6) ?_
      refine AW.exit ?_
      refine AW.seq ?_
      refine AW.region ?_
      refine AO.pure T rfl rfl rfl ?_
      refine AO.val rfl rfl (len_map_ok T rfl rfl rfl) ?_
      refine AO.pure T rfl rfl rfl ?_
      refine AO.pure T rfl rfl rfl ?_
      refine AO.nil ?_
      refine AW.ret ?_
      cases someE hH
      exact ⟨trivial, _, [], rfl, .c (.c .v), by decide⟩
    | cons y2 ys3 =>
      rw [hd4] at hH
      rw [impl_AreEntries_l1] at hH
      have hlt6 := drop_lt hd4
      refine AW.seq ?_
      refine AW.region ?_
      refine AO.pure T rfl rfl rfl ?_
      refine AO.nil ?_
      refine AW.seq ?_
      refine AW.condT' (b := decide ((k1 : Int) < (l.length : Int))) rfl (rngT hlt6) ?_
      refine AW.skip ?_
      refine AW.seq ?_
      refine AW.block ?_
      refine AW.seq ?_
      refine AW.region ?_
      refine AO.pure T rfl rfl rfl ?_
      refine AO.val rfl rfl (ix_map_ok T rfl rfl rfl rfl rfl (getI_drop hd4) rfl) ?_
      refine AO.pure T rfl rfl rfl ?_
      refine AO.step rfl (alloc_ok T rfl 3 rfl rfl rfl rfl rfl) ?_
      refine AO.pure T rfl rfl rfl ?_
      refine AO.step rfl (store_ok T rfl rfl rfl rfl rfl rfl rfl rfl rfl) ?_
      refine AO.nil ?_
      refine AW.seq ?_
      refine AW.seq ?_
      obtain ⟨x28, hx29, hH⟩ := bindE hH
      obtain ⟨x30, hx31, hH⟩ := bindE hH
      obtain ⟨x32, hx33, hH⟩ := bindE hH
      refine AW.region ?_
      refine AO.pure T rfl rfl rfl ?_
      refine AO.pure T rfl rfl rfl ?_
      refine AO.val rfl rfl (callV_ok rfl rfl rfl rfl (impl_isEvent_ok _ _ (hx29)) rfl) ?_
      refine AO.pure T rfl rfl rfl ?_
      refine AO.pure T rfl rfl rfl ?_
      refine AO.pureG T [] rfl trivial rfl rfl ?_
      refine AO.pureG T [17] rfl ⟨fun h => h, trivial⟩ rfl rfl ?_
      refine AO.guard [18] rfl ⟨fun h => h, trivial⟩ (fun hg => callV_ok rfl rfl rfl rfl (impl_isSkater_ok _ _ (optT hx31 hg)) rfl) rfl ?_
      refine AO.pureG T [19] rfl ⟨fun h => h, trivial⟩ rfl rfl ?_
      refine AO.val rfl rfl (pick_or rfl rfl rfl rfl) ?_
      refine AO.pure T rfl rfl rfl ?_
      refine AO.pureG T [] rfl trivial rfl rfl ?_
      refine AO.pureG T [23] rfl ⟨fun h => h, trivial⟩ rfl rfl ?_
      refine AO.guard [24] rfl ⟨fun h => h, trivial⟩ (fun hg => callV_ok rfl rfl rfl rfl (impl_within_ok _ _ _ _ (optT hx33 hg)) rfl) rfl ?_
      refine AO.pureG T [25] rfl ⟨fun h => h, trivial⟩ rfl rfl ?_
      refine AO.val rfl rfl (pick_or rfl rfl rfl rfl) ?_
      refine AO.nil ?_
      refine AW.cond (b := (((!x28) || (!x30)) || (!x32))) rfl (fun hc => ?_) (fun hc => ?_)
      · replace hH := condT hc hH
        refine AW.seq ?_
        refine AW.region ?_
        refine AO.pure T rfl rfl rfl ?_
        refine AO.nil ?_
        refine AW.le (Le.cut 0 0 (σ' := (⟨[(2, .v (.bool false))], [], 37, []⟩ : St)) rfl (by repeat' (first | exact trivial | refine ⟨⟨_, rfl, rfl⟩, ?_⟩)) (by repeat' (first | exact trivial | refine ⟨⟨_, rfl, rfl⟩, ?_⟩)) rfl) ?_
        refine AW.ret ?_
        cases someE hH
        exact ⟨trivial, _, [], rfl, .c (.c .v), by decide⟩
      · replace hH := condF hc hH
        refine AW.skip ?_
        refine AW.seq ?_
        obtain ⟨x34, hx35, hH⟩ := bindE hH
        obtain ⟨x36, hx37, hH⟩ := bindE hH
        refine AW.region ?_
        refine AO.pure T rfl rfl rfl ?_
        refine AO.pure T rfl rfl rfl ?_
        refine AO.val rfl rfl (slice_hi_map_ok T rfl rfl rfl rfl rfl (hx35) (fun _ => rfl)) ?_
        refine AO.pure T rfl rfl rfl ?_
        refine AO.val rfl rfl (callLV_ok rfl rfl rfl (es := [.s (List.map encEntry x34), .f 102 [.q [.v (.int .i64 y2.event), .v (.int .i64 y2.skater), .v (.int .i64 y2.points)]]]) ⟨.free rfl, lend_f (LendL.cons (Lend.boxF rfl rfl) LendL.nil), trivial⟩ (slices_ContainsFunc_Entry_ok _ 102 [.q [.v (.int .i64 y2.event), .v (.int .i64 y2.skater), .v (.int .i64 y2.points)]] rfl (fun a0 => impl_AreEntries_c1_p a0 y2) (fun a0 q h => impl_AreEntries_c1_ok a0 y2 q h) _ (hx37)) (zfree_v _) rfl) ?_
        refine AO.nil ?_
        refine AW.le (Le.cut 0 0 (σ' := (⟨[(0, .s (List.map encEntry l)), (5, .s (List.map encEntry l)), (6, .v (.int .i64 (l.length : Int))), (7, .v (.int .i64 (k1 : Int))), (32, .v (.bool x36))], [], 37, []⟩ : St)) rfl (by repeat' (first | exact trivial | refine ⟨⟨_, rfl, rfl⟩, ?_⟩)) (by repeat' (first | exact trivial | refine ⟨⟨_, rfl, rfl⟩, ?_⟩)) rfl) ?_
        refine AW.cond (b := x36) rfl (fun hc => ?_) (fun hc => ?_)
        · replace hH := condT hc hH
          refine AW.seq ?_
          refine AW.region ?_
          refine AO.pure T rfl rfl rfl ?_
          refine AO.nil ?_
          refine AW.ret ?_
          cases someE hH
          exact ⟨trivial, _, [], rfl, .c (.c .v), by decide⟩
        · replace hH := condF hc hH
          refine AW.skip ?_
          refine AW.region ?_
          refine AO.val rfl rfl (ar_ok rfl rfl rfl rfl (inI_succ hlt6 hb5)) ?_
          refine AO.pure T rfl rfl rfl ?_
          refine AO.nil ?_
          refine ⟨k1 + 1, ⟨Nat.succ_le_of_lt hlt6, (by rw [drop_succ_of hd4]; exact hH)⟩, (by have := hlt6; dsimp only; omega), ?_⟩
          exact Le.cut 0 0 rfl (by repeat' (first | exact trivial | refine ⟨⟨_, rfl, rfl⟩, ?_⟩)) (by repeat' (first | exact trivial | refine ⟨⟨_, rfl, rfl⟩, ?_⟩)) rfl

def slices_SortFunc_Entry_p (x : List Entry) (cmp : Entry → Entry → Option Int) : Option (List Entry) := sortF cmp x
theorem slices_SortFunc_Entry_ok (x : List Entry) (cmp_f : Nat) (cmp_c : List D) (cmp_k : cmp_c.all D.capOk = true) (cmp : Entry → Entry → Option Int) (cmp_h : ∀ (a0 a1 : Entry) (q : Int), cmp a0 a1 = some q → SpecR Try.prog cmp_f ([.g (encEntry a0), .g (encEntry a1)] ++ cmp_c) (.v (.int .i64 q))) (r : List Entry) (hH : slices_SortFunc_Entry_p x cmp = some r) : SpecM Try.prog 111 [.w 3 (x.map encEntry), .f cmp_f cmp_c] [.w 3 (r.map encEntry), .u] (.t []) :=
  spec_sortF ⟨_, Try.func111, rfl, by decide⟩ (fun enc hk h1 cf hO cb blk off cap d w eg => AnyQ.slices_SortFunc Try.sortF111 3 Try.isAgg58 Try.sizeOf58 enc hk h1 cf hO cmp_f cb blk off cap d w eg) (fun p cap cb w => AnyF.slices_SortFunc_none Try.sortF111 p cap _ w) encEntry (fun _ => rfl) (fun _ => rfl) cmp_c (cap_sc cmp_k) cmp x r cmp_h hH

def impl_compareEntries_p (a : Entry) (b : Entry) : Option Int :=
  cond (a.skater != b.skater)
    (some (w64 (a.skater - b.skater)))
    (cond (a.points != b.points)
      (some (w64 (b.points - a.points)))
      (some (w64 (a.event - b.event))))
theorem impl_compareEntries_ok (a : Entry) (b : Entry) (r : Int) (hH : impl_compareEntries_p a b = some r) : SpecR Try.prog 65 [.g (encEntry a), .g (encEntry b)] (.v (.int .i64 r)) := by
  refine fn_ok T Try.func65 rfl (by decide) rfl ?_
  refine AW.seq ?_
  refine AW.region ?_
  refine AO.step rfl (box_ok T rfl 1 rfl rfl rfl rfl) ?_
  refine AO.step rfl (box_ok T rfl 2 rfl rfl rfl rfl) ?_
  refine AO.pure T rfl rfl rfl ?_
  refine AO.nil ?_
  refine AW.seq ?_
  refine AW.block ?_
  refine AW.seq ?_
  refine AW.region ?_
  refine AO.pure T rfl rfl rfl ?_
  refine AO.pure T rfl rfl rfl ?_
  refine AO.pure T rfl rfl rfl ?_
  refine AO.pure T rfl rfl rfl ?_
  refine AO.pure T rfl rfl rfl ?_
  refine AO.pure T rfl rfl rfl ?_
  refine AO.nil ?_
  refine AW.cond (b := (a.skater != b.skater)) rfl (fun hc => ?_) (fun hc => ?_)
  · replace hH := condT hc hH
    refine AW.seq ?_
    refine AW.region ?_
    refine AO.pure T rfl rfl rfl ?_
    refine AO.pure T rfl rfl rfl ?_
    refine AO.pure T rfl rfl rfl ?_
    refine AO.pure T rfl rfl rfl ?_
    refine AO.val rfl rfl (arw_ok rfl rfl rfl rfl) ?_
    refine AO.pure T rfl rfl rfl ?_
    refine AO.nil ?_
    refine AW.ret ?_
    cases someE hH
    exact ⟨trivial, _, [], rfl, .c (.c .v), by decide⟩
  · replace hH := condF hc hH
    refine AW.seq ?_
    refine AW.region ?_
    refine AO.pure T rfl rfl rfl ?_
    refine AO.pure T rfl rfl rfl ?_
    refine AO.pure T rfl rfl rfl ?_
    refine AO.pure T rfl rfl rfl ?_
    refine AO.pure T rfl rfl rfl ?_
    refine AO.pure T rfl rfl rfl ?_
    refine AO.nil ?_
    refine AW.cond (b := (a.points != b.points)) rfl (fun hc => ?_) (fun hc => ?_)
    · replace hH := condT hc hH
      refine AW.seq ?_
      refine AW.region ?_
      refine AO.pure T rfl rfl rfl ?_
      refine AO.pure T rfl rfl rfl ?_
      refine AO.pure T rfl rfl rfl ?_
      refine AO.pure T rfl rfl rfl ?_
      refine AO.val rfl rfl (arw_ok rfl rfl rfl rfl) ?_
      refine AO.pure T rfl rfl rfl ?_
      refine AO.nil ?_
      refine AW.ret ?_
      cases someE hH
      exact ⟨trivial, _, [], rfl, .c (.c .v), by decide⟩
    · replace hH := condF hc hH
      refine AW.skip ?_
      refine AW.seq ?_
      refine AW.region ?_
      refine AO.pure T rfl rfl rfl ?_
      refine AO.pure T rfl rfl rfl ?_
      refine AO.pure T rfl rfl rfl ?_
      refine AO.pure T rfl rfl rfl ?_
      refine AO.val rfl rfl (arw_ok rfl rfl rfl rfl) ?_
      refine AO.pure T rfl rfl rfl ?_
      refine AO.nil ?_
      refine AW.ret ?_
      cases someE hH
      exact ⟨trivial, _, [], rfl, .c (.c .v), by decide⟩

def impl_freshSeason_l1 (best : Int) : List Entry → Nat → List Line → Option Season
  | [], k5, v42 =>
    some (Season.mk best v42)
  | y6 :: ys7, k5, v42 =>
    (opt (!(decide ((w64 ((v42.length : Int) - 1)) < 0))) default (getI v42 (w64 ((v42.length : Int) - 1)))).bind fun x44 =>
    cond (decide ((w64 ((v42.length : Int) - 1)) < 0) || (x44.skater != y6.skater))
      ((need (fitsB 56 (v42.length + ([(Line.mk y6.skater [] [])]).length))).bind fun u46 =>
      (getI (v42 ++ [(Line.mk y6.skater [] [])]) (w64 ((w64 ((v42.length : Int) - 1)) + 1))).bind fun x48 =>
      (need (fitsB 8 (x48.events.length + ([y6.event]).length))).bind fun u50 =>
      (getI ((v42 ++ [(Line.mk y6.skater [] [])]).set ((w64 ((w64 ((v42.length : Int) - 1)) + 1)).toNat) (Line.mk x48.skater (x48.events ++ [y6.event]) x48.points)) (w64 ((w64 ((v42.length : Int) - 1)) + 1))).bind fun x52 =>
      (need (fitsB 8 (x52.points.length + ([y6.points]).length))).bind fun u54 =>
      impl_freshSeason_l1 best ys7 (k5 + 1) (((v42 ++ [(Line.mk y6.skater [] [])]).set ((w64 ((w64 ((v42.length : Int) - 1)) + 1)).toNat) (Line.mk x48.skater (x48.events ++ [y6.event]) x48.points)).set ((w64 ((w64 ((v42.length : Int) - 1)) + 1)).toNat) (Line.mk x52.skater x52.events (x52.points ++ [y6.points]))))
      ((getI v42 (w64 ((v42.length : Int) - 1))).bind fun x56 =>
      (need (fitsB 8 (x56.events.length + ([y6.event]).length))).bind fun u58 =>
      (getI (v42.set ((w64 ((v42.length : Int) - 1)).toNat) (Line.mk x56.skater (x56.events ++ [y6.event]) x56.points)) (w64 ((v42.length : Int) - 1))).bind fun x60 =>
      (need (fitsB 8 (x60.points.length + ([y6.points]).length))).bind fun u62 =>
      impl_freshSeason_l1 best ys7 (k5 + 1) ((v42.set ((w64 ((v42.length : Int) - 1)).toNat) (Line.mk x56.skater (x56.events ++ [y6.event]) x56.points)).set ((w64 ((v42.length : Int) - 1)).toNat) (Line.mk x60.skater x60.events (x60.points ++ [y6.points]))))
def impl_freshSeason_p (best : Int) (l : List Entry) : Option Season :=
  (need (fitsB 24 l.length)).bind fun u1 =>
  (slices_SortFunc_Entry_p l (fun a0 a1 => impl_compareEntries_p a0 a1)).bind fun x3 =>
  impl_freshSeason_l1 best x3 0 []
theorem impl_freshSeason_ok (best : Int) (l : List Entry) (r : Season) (hH : impl_freshSeason_p best l = some r) : SpecR Try.prog 80 [.v (.int .i64 best), .s (List.map encEntry l)] (.g (encSeasonO r)) := by
  refine fn_ok T Try.func80 rfl (by decide) rfl ?_
  refine AW.seq ?_
  refine AW.region ?_
  refine AO.step rfl (alloc_ok T rfl 1 rfl rfl rfl rfl rfl) ?_
  refine AO.nil ?_
  refine AW.seq ?_
  refine AW.region ?_
  refine AO.pure T rfl rfl rfl ?_
  refine AO.step rfl (mk0_ok T rfl rfl rfl rfl) ?_
  refine AO.pure T rfl rfl rfl ?_
  refine AO.step rfl (alloc_ok T rfl 2 rfl rfl rfl rfl rfl) ?_
  refine AO.step rfl (store_ok T rfl rfl rfl rfl rfl rfl rfl rfl rfl) ?_
  refine AO.nil ?_
  refine AW.seq ?_
  obtain ⟨u1, hx2, hH⟩ := bindE hH
  refine AW.region ?_
  refine AO.step rfl (mk0_ok T rfl rfl rfl rfl) ?_
  refine AO.pure T rfl rfl rfl ?_
  refine AO.step rfl (app_ws_map T rfl 3 rfl rfl rfl rfl rfl (by decide) (by decide) rfl rfl (fun _ => rfl) (needT (hx2)) rfl rfl) ?_
  refine AO.pure T rfl rfl rfl ?_
  refine AO.nil ?_
  refine AW.seq ?_
  obtain ⟨x3, hx4, hH⟩ := bindE hH
  refine AW.region ?_
  refine AO.pure T rfl rfl rfl ?_
  refine AO.step rfl (callM_ok rfl 4 rfl rfl (es := [.w 3 (l.map encEntry), .f 65 []]) (outs := [.w 3 (x3.map encEntry), .u]) (ids := [3]) (by exact expLG_cons (.c (.rowR rfl)) (expLG_cons (.c (.f rfl)) (expLG_nil))) (by decide) (.inl (by rfl)) (by rfl) (slices_SortFunc_Entry_ok _ 65 [] rfl (fun a0 a1 => impl_compareEntries_p a0 a1) (fun a0 a1 q h => impl_compareEntries_ok a0 a1  q h) _ (hx4)) rfl (by rfl) rfl) ?_
  refine AO.nil ?_
  refine AW.seq ?_
  refine AW.seq ?_
  refine AW.region ?_
  refine AO.pure T rfl rfl rfl ?_
  refine AO.val rfl rfl (len_row_ok T rfl rfl rfl rfl) ?_
  refine AO.pure T rfl rfl rfl ?_
  refine AO.nil ?_
  refine AW.block ?_
  refine AW.loopS (fun s : Nat × (List Line) => (⟨[(4, .p 1 0), (5, .p 2 0), (19, .R 3), (20, .v (.int .i64 (x3.length : Int))), (21, .v (.int .i64 (s.1 : Int)))], [(1, .box [.v (.int .i64 0), .w 0 []]), (2, .box [.v (.int .i64 best), .R 15]), (3, .row 3 (List.map encEntry x3)), (15, .row 3 (List.map encLineO s.2))], 80, []⟩ : St)) (fun s => s.1 ≤ x3.length ∧ impl_freshSeason_l1 best (x3.drop s.1) s.1 s.2 = some r) (fun s => x3.length - s.1) (0, []) ⟨Nat.zero_le _, hH⟩ ?_ ?_
  · refine Le.trans (Le.voidBox 2 1 15 3 rfl rfl rfl rfl) ?_
    exact Le.cut 0 0 rfl (by repeat' (first | exact trivial | refine ⟨⟨_, rfl, rfl⟩, ?_⟩)) (by repeat' (first | exact trivial | refine ⟨⟨_, rfl, rfl⟩, ?_⟩)) rfl
  · rintro ⟨k5, v42⟩ ⟨hk, hH⟩
    replace hH : impl_freshSeason_l1 best (x3.drop k5) k5 v42 = some r := hH
    show AW _ _ _ (⟨[(4, .p 1 0), (5, .p 2 0), (19, .R 3), (20, .v (.int .i64 (x3.length : Int))), (21, .v (.int .i64 (k5 : Int)))], [(1, .box [.v (.int .i64 0), .w 0 []]), (2, .box [.v (.int .i64 best), .R 15]), (3, .row 3 (List.map encEntry x3)), (15, .row 3 (List.map encLineO v42))], 80, []⟩ : St)
    refine AW.boundR (id := 3) (l := x3) rfl (fun hb9 => ?_)
    cases hd8 : x3.drop k5 with
    | nil =>
      rw [hd8] at hH
      rw [impl_freshSeason_l1] at hH
      have hlt10 := drop_ge hd8
      refine AW.seq ?_
      refine AW.region ?_
      refine AO.pure T rfl rfl rfl ?_
      refine AO.nil ?_
      refine AW.seq ?_
      refine AW.condF' (b := decide ((k5 : Int) < (x3.length : Int))) rfl (rngF hlt10) ?_
      refine AW.exit ?_
      refine AW.seq ?_
      refine AW.region ?_
      refine AO.pure T rfl rfl rfl ?_
      refine AO.step rfl (store_ok T rfl rfl rfl rfl rfl rfl rfl rfl rfl) ?_
      refine AO.nil ?_
      refine AW.ret ?_
      cases someE hH
      exact ⟨trivial, _, [15], rfl, .c (.g (expLC_cons .v (expLC_cons (.rowR rfl) (expLC_nil)))), by decide⟩
    | cons y6 ys7 =>
      rw [hd8] at hH
      rw [impl_freshSeason_l1] at hH
      have hlt10 := drop_lt hd8
      refine AW.seq ?_
      refine AW.region ?_
      refine AO.pure T rfl rfl rfl ?_
      refine AO.nil ?_
      refine AW.seq ?_
      refine AW.condT' (b := decide ((k5 : Int) < (x3.length : Int))) rfl (rngT hlt10) ?_
      refine AW.skip ?_
      refine AW.seq ?_
      refine AW.block ?_
      refine AW.seq ?_
      refine AW.region ?_
      refine AO.val rfl rfl (ix_row_ok T rfl rfl rfl rfl rfl rfl (getI_drop hd8)) ?_
      refine AO.val rfl rfl (load_row_ok T rfl rfl rfl rfl (getI_get (getI_drop hd8)) rfl rfl rfl) ?_
      refine AO.step rfl (alloc_ok T rfl 28 rfl rfl rfl rfl rfl) ?_
      refine AO.step rfl (store_ok T rfl rfl rfl rfl rfl rfl rfl rfl rfl) ?_
      refine AO.nil ?_
      refine AW.seq ?_
      refine AW.region ?_
      refine AO.pure T rfl rfl rfl ?_
      refine AO.pure T rfl rfl rfl ?_
      refine AO.val rfl rfl (len_row_ok T rfl rfl rfl rfl) ?_
      refine AO.val rfl rfl (arw_ok rfl rfl rfl rfl) ?_
      refine AO.pure T rfl rfl rfl ?_
      refine AO.nil ?_
      refine AW.seq ?_
      refine AW.seq ?_
      obtain ⟨x44, hx45, hH⟩ := bindE hH
      refine AW.drawn 11 29 [] mix (by kernel_rfl) rfl ?_
      refine AD.pure T rfl rfl rfl ?_
      refine AD.pure T rfl rfl rfl ?_
      refine AD.pure T rfl rfl rfl ?_
      refine AD.pureG T [] rfl trivial rfl rfl ?_
      refine AD.pureG T [32] rfl ⟨fun h => h, trivial⟩ rfl rfl ?_
      refine AD.pureG T [] rfl trivial rfl rfl ?_
      refine AD.guard [33, 34] rfl ⟨fun h => h, fun h => h, trivial⟩ (fun hg => ix_row_ok T rfl rfl rfl rfl rfl rfl (optT hx45 hg)) rfl ?_
      refine AD.pureG T [35] rfl ⟨fun h => h, trivial⟩ rfl rfl ?_
      refine AD.guard [36] rfl ⟨fun h => h, trivial⟩ (fun hg => load_row_ok T rfl rfl rfl rfl (getI_get (optT hx45 hg)) rfl rfl rfl) rfl ?_
      refine AD.pureG T [] rfl trivial rfl rfl ?_
      refine AD.pureG T [38] rfl ⟨fun h => h, trivial⟩ rfl rfl ?_
      refine AD.nil ?_
      refine AO.pureG T [37, 39] rfl ⟨fun h => h, fun h => h, trivial⟩ rfl rfl ?_
      refine AO.val rfl rfl (pick_or rfl rfl rfl rfl) ?_
      refine AO.nil ?_
      refine AW.cond (b := (decide ((w64 ((v42.length : Int) - 1)) < 0) || (x44.skater != y6.skater))) rfl (fun hc => ?_) (fun hc => ?_)
      · replace hH := condT hc hH
        refine AW.seq ?_
        obtain ⟨u46, hx47, hH⟩ := bindE hH
        refine AW.region ?_
        refine AO.pure T rfl rfl rfl ?_
        refine AO.pure T rfl rfl rfl ?_
        refine AO.pure T rfl rfl rfl ?_
        refine AO.pure T rfl rfl rfl ?_
        refine AO.pure T rfl rfl rfl ?_
        refine AO.step rfl (mk_o_ok T rfl 29 rfl rfl rfl rfl rfl rfl (f := encLineO) (l := [(Line.mk y6.skater [] [])]) (ids := []) rfl rfl (fun _ => rfl) (by exact expLC_cons .v (expLC_cons .nil (expLC_cons .nil (expLC_nil)))) (by decide) rfl rfl rfl rfl rfl) ?_
        refine AO.step rfl (app_rr_map T rfl 30 rfl rfl rfl rfl rfl (by decide) rfl rfl rfl rfl rfl (needT (hx47)) rfl rfl) ?_
        refine AO.pure T rfl rfl rfl ?_
        refine AO.step rfl (store_ok T rfl rfl rfl rfl rfl rfl rfl rfl rfl) ?_
        refine AO.nil ?_
        refine AW.le (Le.cut 0 0 (σ' := (⟨[(4, .p 1 0), (5, .p 2 0), (8, .p 28 0), (9, .v (.int .i64 (w64 ((v42.length : Int) - 1)))), (19, .R 3), (20, .v (.int .i64 (x3.length : Int))), (21, .v (.int .i64 (k5 : Int)))], [(1, .box [.v (.int .i64 0), .w 0 []]), (2, .box [.v (.int .i64 best), .R 30]), (3, .row 3 (List.map encEntry x3)), (28, .box [.v (.int .i64 y6.event), .v (.int .i64 y6.skater), .v (.int .i64 y6.points)]), (30, .row 3 (List.map encLineO (v42 ++ [(Line.mk y6.skater [] [])])))], 80, []⟩ : St)) rfl (by repeat' (first | exact trivial | refine ⟨⟨_, rfl, rfl⟩, ?_⟩)) (by repeat' (first | exact trivial | refine ⟨⟨_, rfl, rfl⟩, ?_⟩)) rfl) ?_
        refine AW.region ?_
        refine AO.pure T rfl rfl rfl ?_
        refine AO.val rfl rfl (arw_ok rfl rfl rfl rfl) ?_
        refine AO.pure T rfl rfl rfl ?_
        refine AO.nil ?_
        refine AW.seq ?_
        obtain ⟨x48, hx49, hH⟩ := bindE hH
        refine AW.region ?_
        refine AO.pure T rfl rfl rfl ?_
        refine AO.pure T rfl rfl rfl ?_
        refine AO.pure T rfl rfl rfl ?_
        refine AO.val rfl rfl (ix_row_ok T rfl rfl rfl rfl rfl rfl (hx49)) ?_
        refine AO.pure T rfl rfl rfl ?_
        refine AO.nil ?_
        refine AW.seq ?_
        obtain ⟨u50, hx51, hH⟩ := bindE hH
        refine AW.le (Le.openM 30 ((w64 ((w64 ((v42.length : Int) - 1)) + 1)).toNat) 1 31 rfl (getI_get (hx49)) rfl rfl) ?_
        refine AW.drawn 9 32 [31] mix (by kernel_rfl) rfl ?_
        refine AD.pure T rfl rfl rfl ?_
        refine AD.pure T rfl rfl rfl ?_
        refine AD.pure T rfl rfl rfl ?_
        refine AD.pure T rfl rfl rfl ?_
        refine AD.val rfl rfl (load_lent_ok T rfl rfl rfl rfl rfl) ?_
        refine AD.pure T rfl rfl rfl ?_
        refine AD.pure T rfl rfl rfl ?_
        refine AD.q (FStep.mk T (f := encInt) (l := [y6.event]) rfl rfl rfl rfl rfl rfl rfl rfl rfl (fun _ => rfl) rfl rfl rfl rfl) (by simp [namesIn]) (Nat.le_succ _) rfl ?_
        refine AD.k rfl rfl (FStep.app_rv T rfl rfl rfl rfl rfl rfl rfl (by decide) rfl rfl rfl rfl (fun _ => rfl) (needT (hx51)) rfl) rfl rfl rfl ?_
        refine AD.nil ?_
        refine AO.pure T rfl rfl rfl ?_
        refine AO.pure T rfl rfl rfl ?_
        refine AO.step rfl (store_lent_ok T (ids := [33]) rfl rfl rfl rfl rfl rfl (getI_get (hx49)) rfl (.rowR rfl) (by decide) rfl (u' := (Line.mk x48.skater (x48.events ++ [y6.event]) x48.points)) rfl rfl) ?_
        refine AO.nil ?_
        obtain ⟨x52, hx53, hH⟩ := bindE hH
        obtain ⟨u54, hx55, hH⟩ := bindE hH
        refine AW.le (Le.openM 30 ((w64 ((w64 ((v42.length : Int) - 1)) + 1)).toNat) 2 34 rfl (getI_get (hx53)) rfl rfl) ?_
        refine AW.drawn 9 35 [34] mix (by kernel_rfl) rfl ?_
        refine AD.pure T rfl rfl rfl ?_
        refine AD.pure T rfl rfl rfl ?_
        refine AD.pure T rfl rfl rfl ?_
        refine AD.pure T rfl rfl rfl ?_
        refine AD.val rfl rfl (load_lent_ok T rfl rfl rfl rfl rfl) ?_
        refine AD.pure T rfl rfl rfl ?_
        refine AD.pure T rfl rfl rfl ?_
        refine AD.q (FStep.mk T (f := encInt) (l := [y6.points]) rfl rfl rfl rfl rfl rfl rfl rfl rfl (fun _ => rfl) rfl rfl rfl rfl) (by simp [namesIn]) (Nat.le_succ _) rfl ?_
        refine AD.k rfl rfl (FStep.app_rv T rfl rfl rfl rfl rfl rfl rfl (by decide) rfl rfl rfl rfl (fun _ => rfl) (needT (hx55)) rfl) rfl rfl rfl ?_
        refine AD.nil ?_
        refine AO.pure T rfl rfl rfl ?_
        refine AO.pure T rfl rfl rfl ?_
        refine AO.step rfl (store_lent_ok T (ids := [36]) rfl rfl rfl rfl rfl rfl (getI_get (hx53)) rfl (.rowR rfl) (by decide) rfl (u' := (Line.mk x52.skater x52.events (x52.points ++ [y6.points]))) rfl rfl) ?_
        refine AO.nil ?_
        refine AW.le (Le.cut 0 0 (σ' := (⟨[(4, .p 1 0), (5, .p 2 0), (19, .R 3), (20, .v (.int .i64 (x3.length : Int))), (21, .v (.int .i64 (k5 : Int)))], [(1, .box [.v (.int .i64 0), .w 0 []]), (2, .box [.v (.int .i64 best), .R 30]), (3, .row 3 (List.map encEntry x3)), (30, .row 3 (List.map encLineO (((v42 ++ [(Line.mk y6.skater [] [])]).set ((w64 ((w64 ((v42.length : Int) - 1)) + 1)).toNat) (Line.mk x48.skater (x48.events ++ [y6.event]) x48.points)).set ((w64 ((w64 ((v42.length : Int) - 1)) + 1)).toNat) (Line.mk x52.skater x52.events (x52.points ++ [y6.points])))))], 80, []⟩ : St)) rfl (by repeat' (first | exact trivial | refine ⟨⟨_, rfl, rfl⟩, ?_⟩)) (by repeat' (first | exact trivial | refine ⟨⟨_, rfl, rfl⟩, ?_⟩)) rfl) ?_
        refine AW.region ?_
        refine AO.val rfl rfl (ar_ok rfl rfl rfl rfl (inI_succ hlt10 hb9)) ?_
        refine AO.pure T rfl rfl rfl ?_
        refine AO.nil ?_
        refine ⟨(k5 + 1, (((v42 ++ [(Line.mk y6.skater [] [])]).set ((w64 ((w64 ((v42.length : Int) - 1)) + 1)).toNat) (Line.mk x48.skater (x48.events ++ [y6.event]) x48.points)).set ((w64 ((w64 ((v42.length : Int) - 1)) + 1)).toNat) (Line.mk x52.skater x52.events (x52.points ++ [y6.points])))), ⟨Nat.succ_le_of_lt hlt10, (by rw [drop_succ_of hd8]; exact hH)⟩, (by have := hlt10; dsimp only; omega), ?_⟩
        exact Le.cut 30 15 rfl (by repeat' (first | exact trivial | refine ⟨⟨_, rfl, rfl⟩, ?_⟩)) (by repeat' (first | exact trivial | refine ⟨⟨_, rfl, rfl⟩, ?_⟩)) rfl
      · replace hH := condF hc hH
        refine AW.skip ?_
        refine AW.seq ?_
        obtain ⟨x56, hx57, hH⟩ := bindE hH
        refine AW.region ?_
        refine AO.pure T rfl rfl rfl ?_
        refine AO.pure T rfl rfl rfl ?_
        refine AO.pure T rfl rfl rfl ?_
        refine AO.val rfl rfl (ix_row_ok T rfl rfl rfl rfl rfl rfl (hx57)) ?_
        refine AO.pure T rfl rfl rfl ?_
        refine AO.nil ?_
        refine AW.le (Le.cut 0 0 (σ' := (⟨[(4, .p 1 0), (5, .p 2 0), (8, .p 28 0), (10, .e 15 ((w64 ((v42.length : Int) - 1)).toNat) 0), (19, .R 3), (20, .v (.int .i64 (x3.length : Int))), (21, .v (.int .i64 (k5 : Int)))], [(1, .box [.v (.int .i64 0), .w 0 []]), (2, .box [.v (.int .i64 best), .R 15]), (3, .row 3 (List.map encEntry x3)), (15, .row 3 (List.map encLineO v42)), (28, .box [.v (.int .i64 y6.event), .v (.int .i64 y6.skater), .v (.int .i64 y6.points)])], 80, []⟩ : St)) rfl (by repeat' (first | exact trivial | refine ⟨⟨_, rfl, rfl⟩, ?_⟩)) (by repeat' (first | exact trivial | refine ⟨⟨_, rfl, rfl⟩, ?_⟩)) rfl) ?_
        refine AW.seq ?_
        obtain ⟨u58, hx59, hH⟩ := bindE hH
        refine AW.le (Le.openM 15 ((w64 ((v42.length : Int) - 1)).toNat) 1 37 rfl (getI_get (hx57)) rfl rfl) ?_
        refine AW.drawn 9 38 [37] mix (by kernel_rfl) rfl ?_
        refine AD.pure T rfl rfl rfl ?_
        refine AD.pure T rfl rfl rfl ?_
        refine AD.pure T rfl rfl rfl ?_
        refine AD.pure T rfl rfl rfl ?_
        refine AD.val rfl rfl (load_lent_ok T rfl rfl rfl rfl rfl) ?_
        refine AD.pure T rfl rfl rfl ?_
        refine AD.pure T rfl rfl rfl ?_
        refine AD.q (FStep.mk T (f := encInt) (l := [y6.event]) rfl rfl rfl rfl rfl rfl rfl rfl rfl (fun _ => rfl) rfl rfl rfl rfl) (by simp [namesIn]) (Nat.le_succ _) rfl ?_
        refine AD.k rfl rfl (FStep.app_rv T rfl rfl rfl rfl rfl rfl rfl (by decide) rfl rfl rfl rfl (fun _ => rfl) (needT (hx59)) rfl) rfl rfl rfl ?_
        refine AD.nil ?_
        refine AO.pure T rfl rfl rfl ?_
        refine AO.pure T rfl rfl rfl ?_
        refine AO.step rfl (store_lent_ok T (ids := [39]) rfl rfl rfl rfl rfl rfl (getI_get (hx57)) rfl (.rowR rfl) (by decide) rfl (u' := (Line.mk x56.skater (x56.events ++ [y6.event]) x56.points)) rfl rfl) ?_
        refine AO.nil ?_
        obtain ⟨x60, hx61, hH⟩ := bindE hH
        obtain ⟨u62, hx63, hH⟩ := bindE hH
        refine AW.le (Le.openM 15 ((w64 ((v42.length : Int) - 1)).toNat) 2 40 rfl (getI_get (hx61)) rfl rfl) ?_
        refine AW.drawn 9 41 [40] mix (by kernel_rfl) rfl ?_
        refine AD.pure T rfl rfl rfl ?_
        refine AD.pure T rfl rfl rfl ?_
        refine AD.pure T rfl rfl rfl ?_
        refine AD.pure T rfl rfl rfl ?_
        refine AD.val rfl rfl (load_lent_ok T rfl rfl rfl rfl rfl) ?_
        refine AD.pure T rfl rfl rfl ?_
        refine AD.pure T rfl rfl rfl ?_
        refine AD.q (FStep.mk T (f := encInt) (l := [y6.points]) rfl rfl rfl rfl rfl rfl rfl rfl rfl (fun _ => rfl) rfl rfl rfl rfl) (by simp [namesIn]) (Nat.le_succ _) rfl ?_
        refine AD.k rfl rfl (FStep.app_rv T rfl rfl rfl rfl rfl rfl rfl (by decide) rfl rfl rfl rfl (fun _ => rfl) (needT (hx63)) rfl) rfl rfl rfl ?_
        refine AD.nil ?_
        refine AO.pure T rfl rfl rfl ?_
        refine AO.pure T rfl rfl rfl ?_
        refine AO.step rfl (store_lent_ok T (ids := [42]) rfl rfl rfl rfl rfl rfl (getI_get (hx61)) rfl (.rowR rfl) (by decide) rfl (u' := (Line.mk x60.skater x60.events (x60.points ++ [y6.points]))) rfl rfl) ?_
        refine AO.nil ?_
        refine AW.le (Le.cut 0 0 (σ' := (⟨[(4, .p 1 0), (5, .p 2 0), (19, .R 3), (20, .v (.int .i64 (x3.length : Int))), (21, .v (.int .i64 (k5 : Int)))], [(1, .box [.v (.int .i64 0), .w 0 []]), (2, .box [.v (.int .i64 best), .R 15]), (3, .row 3 (List.map encEntry x3)), (15, .row 3 (List.map encLineO ((v42.set ((w64 ((v42.length : Int) - 1)).toNat) (Line.mk x56.skater (x56.events ++ [y6.event]) x56.points)).set ((w64 ((v42.length : Int) - 1)).toNat) (Line.mk x60.skater x60.events (x60.points ++ [y6.points])))))], 80, []⟩ : St)) rfl (by repeat' (first | exact trivial | refine ⟨⟨_, rfl, rfl⟩, ?_⟩)) (by repeat' (first | exact trivial | refine ⟨⟨_, rfl, rfl⟩, ?_⟩)) rfl) ?_
        refine AW.region ?_
        refine AO.val rfl rfl (ar_ok rfl rfl rfl rfl (inI_succ hlt10 hb9)) ?_
        refine AO.pure T rfl rfl rfl ?_
        refine AO.nil ?_
        refine ⟨(k5 + 1, ((v42.set ((w64 ((v42.length : Int) - 1)).toNat) (Line.mk x56.skater (x56.events ++ [y6.event]) x56.points)).set ((w64 ((v42.length : Int) - 1)).toNat) (Line.mk x60.skater x60.events (x60.points ++ [y6.points])))), ⟨Nat.succ_le_of_lt hlt10, (by rw [drop_succ_of hd8]; exact hH)⟩, (by have := hlt10; dsimp only; omega), ?_⟩
        exact Le.cut 0 0 rfl (by repeat' (first | exact trivial | refine ⟨⟨_, rfl, rfl⟩, ?_⟩)) (by repeat' (first | exact trivial | refine ⟨⟨_, rfl, rfl⟩, ?_⟩)) rfl

def impl_FreshSeason_p (best : Int) (l : List Entry) : Option (Season × Bool) :=
  (impl_isBest_p best).bind fun x1 =>
  (opt (!(!x1)) default (impl_AreEntries_p l)).bind fun x3 =>
  cond ((!x1) || (!x3))
    (some ((Season.mk 0 []), false))
    ((impl_freshSeason_p best l).bind fun x5 =>
    some (x5, true))
theorem impl_FreshSeason_ok (best : Int) (l : List Entry) (r : (Season × Bool)) (hH : impl_FreshSeason_p best l = some r) : SpecR Try.prog 35 [.v (.int .i64 best), .s (List.map encEntry l)] (.t [.g (encSeasonO r.1), .v (.bool r.2)]) := by
  refine fn_ok T Try.func35 rfl (by decide) rfl ?_
  refine AW.seq ?_
  refine AW.region ?_
  refine AO.step rfl (alloc_ok T rfl 1 rfl rfl rfl rfl rfl) ?_
  refine AO.pure T rfl rfl rfl ?_
  refine AO.nil ?_
  refine AW.seq ?_
  refine AW.seq ?_
  obtain ⟨x1, hx2, hH⟩ := bindE hH
  obtain ⟨x3, hx4, hH⟩ := bindE hH
  refine AW.region ?_
  refine AO.pure T rfl rfl rfl ?_
  refine AO.val rfl rfl (callV_ok rfl rfl rfl rfl (impl_isBest_ok _ _ (hx2)) rfl) ?_
  refine AO.pure T rfl rfl rfl ?_
  refine AO.pure T rfl rfl rfl ?_
  refine AO.pureG T [] rfl trivial rfl rfl ?_
  refine AO.guard [10] rfl ⟨fun h => h, trivial⟩ (fun hg => callV_ok rfl rfl rfl rfl (impl_AreEntries_ok _ _ (optT hx4 hg)) rfl) rfl ?_
  refine AO.pureG T [11] rfl ⟨fun h => h, trivial⟩ rfl rfl ?_
  refine AO.val rfl rfl (pick_or rfl rfl rfl rfl) ?_
  refine AO.nil ?_
  refine AW.cond (b := ((!x1) || (!x3))) rfl (fun hc => ?_) (fun hc => ?_)
  · replace hH := condT hc hH
    refine AW.seq ?_
    refine AW.region ?_
    refine AO.pure T rfl rfl rfl ?_
    refine AO.step rfl (store_ok T rfl rfl rfl rfl rfl rfl rfl rfl rfl) ?_
    refine AO.pure T rfl rfl rfl ?_
    refine AO.nil ?_
    refine AW.ret ?_
    cases someE hH
    exact ⟨trivial, _, [], rfl, .t (expLG_cons (.g (expLC_cons .v (expLC_cons .nil (expLC_nil)))) (expLG_cons (.c .v) (expLG_nil))), by decide⟩
  · replace hH := condF hc hH
    refine AW.skip ?_
    refine AW.seq ?_
    obtain ⟨x5, hx6, hH⟩ := bindE hH
    refine AW.region ?_
    refine AO.pure T rfl rfl rfl ?_
    refine AO.pure T rfl rfl rfl ?_
    refine AO.step rfl (call_ok rfl 2 rfl rfl rfl (impl_freshSeason_ok _ _ _ (hx6)) rfl rfl rfl) ?_
    refine AO.step rfl (store_ok T rfl rfl rfl rfl rfl rfl rfl rfl rfl) ?_
    refine AO.pure T rfl rfl rfl ?_
    refine AO.nil ?_
    refine AW.ret ?_
    cases someE hH
    exact ⟨trivial, _, [2], rfl, .t (expLG_cons (.g (expLC_cons .v (expLC_cons (.rowR rfl) (expLC_nil)))) (expLG_cons (.c .v) (expLG_nil))), by decide⟩

def laws_eqIntS_l1 (b : List Int) : List Int → Nat → Option Bool
  | [], k1 =>
    some true
  | y2 :: ys3, k1 =>
    (getI b (k1 : Int)).bind fun x12 =>
    cond (y2 != x12)
      (some false)
      (laws_eqIntS_l1 b ys3 (k1 + 1))
def laws_eqIntS_p (a : List Int) (b : List Int) : Option Bool :=
  cond ((a.length : Int) != (b.length : Int))
    (some false)
    (laws_eqIntS_l1 b a 0)
theorem laws_eqIntS_ok (a : List Int) (b : List Int) (r : Bool) (hH : laws_eqIntS_p a b = some r) : SpecR Try.prog 29 [.s (List.map encInt a), .s (List.map encInt b)] (.v (.bool r)) := by
  refine fn_ok T Try.func29 rfl (by decide) rfl ?_
  refine AW.seq ?_
  refine AW.region ?_
  refine AO.pure T rfl rfl rfl ?_
  refine AO.nil ?_
  refine AW.seq ?_
  refine AW.seq ?_
  refine AW.region ?_
  refine AO.pure T rfl rfl rfl ?_
  refine AO.val rfl rfl (len_map_ok T rfl rfl rfl) ?_
  refine AO.pure T rfl rfl rfl ?_
  refine AO.val rfl rfl (len_map_ok T rfl rfl rfl) ?_
  refine AO.pure T rfl rfl rfl ?_
  refine AO.nil ?_
  refine AW.cond (b := ((a.length : Int) != (b.length : Int))) rfl (fun hc => ?_) (fun hc => ?_)
  · replace hH := condT hc hH
    refine AW.seq ?_
    refine AW.region ?_
    refine AO.pure T rfl rfl rfl ?_
    refine AO.nil ?_
    refine AW.ret ?_
    cases someE hH
    exact ⟨trivial, _, [], rfl, .c (.c .v), by decide⟩
  · replace hH := condF hc hH
    refine AW.skip ?_
    refine AW.seq ?_
    refine AW.seq ?_
    refine AW.region ?_
    refine AO.pure T rfl rfl rfl ?_
    refine AO.nil ?_
    refine AW.block ?_
    refine AW.loopS (fun s : Nat => (⟨[(0, .s (List.map encInt a)), (1, .s (List.map encInt b)), (5, .v (.int .i64 (s : Int)))], [], 26, []⟩ : St)) (fun s => s ≤ a.length ∧ laws_eqIntS_l1 b (a.drop s) s = some r) (fun s => a.length - s) 0 ⟨Nat.zero_le _, hH⟩ ?_ ?_
    · exact Le.cut 0 0 rfl (by repeat' (first | exact trivial | refine ⟨⟨_, rfl, rfl⟩, ?_⟩)) (by repeat' (first | exact trivial | refine ⟨⟨_, rfl, rfl⟩, ?_⟩)) rfl
    · rintro k1 ⟨hk, hH⟩
      replace hH : laws_eqIntS_l1 b (a.drop k1) k1 = some r := hH
      show AW _ _ _ (⟨[(0, .s (List.map encInt a)), (1, .s (List.map encInt b)), (5, .v (.int .i64 (k1 : Int)))], [], 26, []⟩ : St)
      refine AW.boundM (t := 0) (l := a) rfl (fun hb5 => ?_)
      cases hd4 : a.drop k1 with
      | nil =>
        rw [hd4] at hH
        rw [laws_eqIntS_l1] at hH
        have hlt6 := drop_ge hd4
        refine AW.seq ?_
        refine AW.seq ?_
        refine AW.region ?_
        refine AO.pure T rfl rfl rfl ?_
        refine AO.pure T rfl rfl rfl ?_
        refine AO.val rfl rfl (len_map_ok T rfl rfl rfl) ?_
        refine AO.pure T rfl rfl rfl ?_
        refine AO.nil ?_
        refine AW.condF' (b := decide ((k1 : Int) < (a.length : Int))) rfl (rngF hlt6) ?_
        refine AW.exit ?_
        refine AW.seq ?_
        refine AW.region ?_
        refine AO.pure T rfl rfl rfl ?_
        refine AO.nil ?_
        refine AW.ret ?_
        cases someE hH
        exact ⟨trivial, _, [], rfl, .c (.c .v), by decide⟩
      | cons y2 ys3 =>
        rw [hd4] at hH
        rw [laws_eqIntS_l1] at hH
        have hlt6 := drop_lt hd4
        refine AW.seq ?_
        refine AW.seq ?_
        refine AW.region ?_
        refine AO.pure T rfl rfl rfl ?_
        refine AO.pure T rfl rfl rfl ?_
        refine AO.val rfl rfl (len_map_ok T rfl rfl rfl) ?_
        refine AO.pure T rfl rfl rfl ?_
        refine AO.nil ?_
        refine AW.condT' (b := decide ((k1 : Int) < (a.length : Int))) rfl (rngT hlt6) ?_
        refine AW.skip ?_
        refine AW.seq ?_
        refine AW.block ?_
        refine AW.seq ?_
        obtain ⟨x12, hx13, hH⟩ := bindE hH
        refine AW.drawn 8 1 [] mix (by kernel_rfl) rfl ?_
        refine AD.pure T rfl rfl rfl ?_
        refine AD.pure T rfl rfl rfl ?_
        refine AD.val rfl rfl (ix_map_ok T rfl rfl rfl rfl rfl (getI_drop hd4) rfl) ?_
        refine AD.pure T rfl rfl rfl ?_
        refine AD.pure T rfl rfl rfl ?_
        refine AD.pure T rfl rfl rfl ?_
        refine AD.val rfl rfl (ix_map_ok T rfl rfl rfl rfl rfl (hx13) rfl) ?_
        refine AD.pure T rfl rfl rfl ?_
        refine AD.nil ?_
        refine AO.pure T rfl rfl rfl ?_
        refine AO.nil ?_
        refine AW.cond (b := (y2 != x12)) rfl (fun hc => ?_) (fun hc => ?_)
        · replace hH := condT hc hH
          refine AW.seq ?_
          refine AW.region ?_
          refine AO.pure T rfl rfl rfl ?_
          refine AO.nil ?_
          refine AW.ret ?_
          cases someE hH
          exact ⟨trivial, _, [], rfl, .c (.c .v), by decide⟩
        · replace hH := condF hc hH
          refine AW.skip ?_
          refine AW.region ?_
          refine AO.pure T rfl rfl rfl ?_
          refine AO.val rfl rfl (ar_ok rfl rfl rfl rfl (inI_succ hlt6 hb5)) ?_
          refine AO.pure T rfl rfl rfl ?_
          refine AO.nil ?_
          refine ⟨k1 + 1, ⟨Nat.succ_le_of_lt hlt6, (by rw [drop_succ_of hd4]; exact hH)⟩, (by have := hlt6; dsimp only; omega), ?_⟩
          exact Le.cut 0 0 rfl (by repeat' (first | exact trivial | refine ⟨⟨_, rfl, rfl⟩, ?_⟩)) (by repeat' (first | exact trivial | refine ⟨⟨_, rfl, rfl⟩, ?_⟩)) rfl

def laws_eqLine_p (a : Line) (b : Line) : Option Bool :=
  cond (a.skater != b.skater)
    (some false)
    ((laws_eqIntS_p a.events b.events).bind fun x1 =>
    cond (!x1)
      (some false)
      ((laws_eqIntS_p a.points b.points).bind fun x3 =>
      cond (!x3)
        (some false)
        (some true)))
theorem laws_eqLine_ok (a : Line) (b : Line) (r : Bool) (hH : laws_eqLine_p a b = some r) : SpecR Try.prog 106 [.g (encLine a), .g (encLine b)] (.v (.bool r)) := by
  refine fn_ok T Try.func106 rfl (by decide) rfl ?_
  refine AW.seq ?_
  refine AW.region ?_
  refine AO.step rfl (box_ok T rfl 1 rfl rfl rfl rfl) ?_
  refine AO.step rfl (box_ok T rfl 2 rfl rfl rfl rfl) ?_
  refine AO.pure T rfl rfl rfl ?_
  refine AO.nil ?_
  refine AW.seq ?_
  refine AW.seq ?_
  refine AW.region ?_
  refine AO.pure T rfl rfl rfl ?_
  refine AO.pure T rfl rfl rfl ?_
  refine AO.pure T rfl rfl rfl ?_
  refine AO.pure T rfl rfl rfl ?_
  refine AO.pure T rfl rfl rfl ?_
  refine AO.nil ?_
  refine AW.cond (b := (a.skater != b.skater)) rfl (fun hc => ?_) (fun hc => ?_)
  · replace hH := condT hc hH
    refine AW.seq ?_
    refine AW.region ?_
    refine AO.pure T rfl rfl rfl ?_
    refine AO.nil ?_
    refine AW.ret ?_
    cases someE hH
    exact ⟨trivial, _, [], rfl, .c (.c .v), by decide⟩
  · replace hH := condF hc hH
    refine AW.skip ?_
    refine AW.seq ?_
    refine AW.seq ?_
    obtain ⟨x1, hx2, hH⟩ := bindE hH
    refine AW.region ?_
    refine AO.pure T rfl rfl rfl ?_
    refine AO.pure T rfl rfl rfl ?_
    refine AO.pure T rfl rfl rfl ?_
    refine AO.pure T rfl rfl rfl ?_
    refine AO.val rfl rfl (callV_ok rfl rfl rfl rfl (laws_eqIntS_ok _ _ _ (hx2)) rfl) ?_
    refine AO.pure T rfl rfl rfl ?_
    refine AO.nil ?_
    refine AW.cond (b := (!x1)) rfl (fun hc => ?_) (fun hc => ?_)
    · replace hH := condT hc hH
      refine AW.seq ?_
      refine AW.region ?_
      refine AO.pure T rfl rfl rfl ?_
      refine AO.nil ?_
      refine AW.ret ?_
      cases someE hH
      exact ⟨trivial, _, [], rfl, .c (.c .v), by decide⟩
    · replace hH := condF hc hH
      refine AW.skip ?_
      refine AW.seq ?_
      refine AW.seq ?_
      obtain ⟨x3, hx4, hH⟩ := bindE hH
      refine AW.region ?_
      refine AO.pure T rfl rfl rfl ?_
      refine AO.pure T rfl rfl rfl ?_
      refine AO.pure T rfl rfl rfl ?_
      refine AO.pure T rfl rfl rfl ?_
      refine AO.val rfl rfl (callV_ok rfl rfl rfl rfl (laws_eqIntS_ok _ _ _ (hx4)) rfl) ?_
      refine AO.pure T rfl rfl rfl ?_
      refine AO.nil ?_
      refine AW.cond (b := (!x3)) rfl (fun hc => ?_) (fun hc => ?_)
      · replace hH := condT hc hH
        refine AW.seq ?_
        refine AW.region ?_
        refine AO.pure T rfl rfl rfl ?_
        refine AO.nil ?_
        refine AW.ret ?_
        cases someE hH
        exact ⟨trivial, _, [], rfl, .c (.c .v), by decide⟩
      · replace hH := condF hc hH
        refine AW.skip ?_
        refine AW.seq ?_
        refine AW.region ?_
        refine AO.pure T rfl rfl rfl ?_
        refine AO.nil ?_
        refine AW.ret ?_
        cases someE hH
        exact ⟨trivial, _, [], rfl, .c (.c .v), by decide⟩

def laws_eqLineS_l1 (b : List Line) : List Line → Nat → Option Bool
  | [], k1 =>
    some true
  | y2 :: ys3, k1 =>
    (getI b (k1 : Int)).bind fun x16 =>
    (laws_eqLine_p y2 x16).bind fun x18 =>
    cond (!x18)
      (some false)
      (laws_eqLineS_l1 b ys3 (k1 + 1))
def laws_eqLineS_p (a : List Line) (b : List Line) : Option Bool :=
  cond ((a.length : Int) != (b.length : Int))
    (some false)
    (laws_eqLineS_l1 b a 0)
theorem laws_eqLineS_ok (a : List Line) (b : List Line) (r : Bool) (hH : laws_eqLineS_p a b = some r) : SpecR Try.prog 66 [.s (List.map encLine a), .s (List.map encLine b)] (.v (.bool r)) := by
  refine fn_ok T Try.func66 rfl (by decide) rfl ?_
  refine AW.seq ?_
  refine AW.region ?_
  refine AO.pure T rfl rfl rfl ?_
  refine AO.nil ?_
  refine AW.seq ?_
  refine AW.seq ?_
  refine AW.region ?_
  refine AO.pure T rfl rfl rfl ?_
  refine AO.val rfl rfl (len_map_ok T rfl rfl rfl) ?_
  refine AO.pure T rfl rfl rfl ?_
  refine AO.val rfl rfl (len_map_ok T rfl rfl rfl) ?_
  refine AO.pure T rfl rfl rfl ?_
  refine AO.nil ?_
  refine AW.cond (b := ((a.length : Int) != (b.length : Int))) rfl (fun hc => ?_) (fun hc => ?_)
  · replace hH := condT hc hH
    refine AW.seq ?_
    refine AW.region ?_
    refine AO.pure T rfl rfl rfl ?_
    refine AO.nil ?_
    refine AW.ret ?_
    cases someE hH
    exact ⟨trivial, _, [], rfl, .c (.c .v), by decide⟩
  · replace hH := condF hc hH
    refine AW.skip ?_
    refine AW.seq ?_
    refine AW.seq ?_
    refine AW.region ?_
    refine AO.pure T rfl rfl rfl ?_
    refine AO.nil ?_
    refine AW.block ?_
    refine AW.loopS (fun s : Nat => (⟨[(0, .s (List.map encLine a)), (1, .s (List.map encLine b)), (5, .v (.int .i64 (s : Int)))], [], 27, []⟩ : St)) (fun s => s ≤ a.length ∧ laws_eqLineS_l1 b (a.drop s) s = some r) (fun s => a.length - s) 0 ⟨Nat.zero_le _, hH⟩ ?_ ?_
    · exact Le.cut 0 0 rfl (by repeat' (first | exact trivial | refine ⟨⟨_, rfl, rfl⟩, ?_⟩)) (by repeat' (first | exact trivial | refine ⟨⟨_, rfl, rfl⟩, ?_⟩)) rfl
    · rintro k1 ⟨hk, hH⟩
      replace hH : laws_eqLineS_l1 b (a.drop k1) k1 = some r := hH
      show AW _ _ _ (⟨[(0, .s (List.map encLine a)), (1, .s (List.map encLine b)), (5, .v (.int .i64 (k1 : Int)))], [], 27, []⟩ : St)
      refine AW.boundM (t := 0) (l := a) rfl (fun hb5 => ?_)
      cases hd4 : a.drop k1 with
      | nil =>
        rw [hd4] at hH
        rw [laws_eqLineS_l1] at hH
        have hlt6 := drop_ge hd4
        refine AW.seq ?_
        refine AW.seq ?_
        refine AW.region ?_
        refine AO.pure T rfl rfl rfl ?_
        refine AO.pure T rfl rfl rfl ?_
        refine AO.val rfl rfl (len_map_ok T rfl rfl rfl) ?_
        refine AO.pure T rfl rfl rfl ?_
        refine AO.nil ?_
        refine AW.condF' (b := decide ((k1 : Int) < (a.length : Int))) rfl (rngF hlt6) ?_
        refine AW.exit ?_
        refine AW.seq ?_
        refine AW.region ?_
        refine AO.pure T rfl rfl rfl ?_
        refine AO.nil ?_
        refine AW.ret ?_
        cases someE hH
        exact ⟨trivial, _, [], rfl, .c (.c .v), by decide⟩
      | cons y2 ys3 =>
        rw [hd4] at hH
        rw [laws_eqLineS_l1] at hH
        have hlt6 := drop_lt hd4
        refine AW.seq ?_
        refine AW.seq ?_
        refine AW.region ?_
        refine AO.pure T rfl rfl rfl ?_
        refine AO.pure T rfl rfl rfl ?_
        refine AO.val rfl rfl (len_map_ok T rfl rfl rfl) ?_
        refine AO.pure T rfl rfl rfl ?_
        refine AO.nil ?_
        refine AW.condT' (b := decide ((k1 : Int) < (a.length : Int))) rfl (rngT hlt6) ?_
        refine AW.skip ?_
        refine AW.seq ?_
        refine AW.block ?_
        refine AW.seq ?_
        obtain ⟨x16, hx17, hH⟩ := bindE hH
        obtain ⟨x18, hx19, hH⟩ := bindE hH
        refine AW.drawn 8 1 [] mix (by kernel_rfl) rfl ?_
        refine AD.pure T rfl rfl rfl ?_
        refine AD.pure T rfl rfl rfl ?_
        refine AD.val rfl rfl (ix_map_ok T rfl rfl rfl rfl rfl (getI_drop hd4) rfl) ?_
        refine AD.pure T rfl rfl rfl ?_
        refine AD.pure T rfl rfl rfl ?_
        refine AD.pure T rfl rfl rfl ?_
        refine AD.val rfl rfl (ix_map_ok T rfl rfl rfl rfl rfl (hx17) rfl) ?_
        refine AD.pure T rfl rfl rfl ?_
        refine AD.nil ?_
        refine AO.val rfl rfl (callV_ok rfl rfl rfl rfl (laws_eqLine_ok _ _ _ (hx19)) rfl) ?_
        refine AO.pure T rfl rfl rfl ?_
        refine AO.nil ?_
        refine AW.cond (b := (!x18)) rfl (fun hc => ?_) (fun hc => ?_)
        · replace hH := condT hc hH
          refine AW.seq ?_
          refine AW.region ?_
          refine AO.pure T rfl rfl rfl ?_
          refine AO.nil ?_
          refine AW.ret ?_
          cases someE hH
          exact ⟨trivial, _, [], rfl, .c (.c .v), by decide⟩
        · replace hH := condF hc hH
          refine AW.skip ?_
          refine AW.region ?_
          refine AO.pure T rfl rfl rfl ?_
          refine AO.val rfl rfl (ar_ok rfl rfl rfl rfl (inI_succ hlt6 hb5)) ?_
          refine AO.pure T rfl rfl rfl ?_
          refine AO.nil ?_
          refine ⟨k1 + 1, ⟨Nat.succ_le_of_lt hlt6, (by rw [drop_succ_of hd4]; exact hH)⟩, (by have := hlt6; dsimp only; omega), ?_⟩
          exact Le.cut 0 0 rfl (by repeat' (first | exact trivial | refine ⟨⟨_, rfl, rfl⟩, ?_⟩)) (by repeat' (first | exact trivial | refine ⟨⟨_, rfl, rfl⟩, ?_⟩)) rfl

def laws_eqSeason_p (a : Season) (b : Season) : Option Bool :=
  cond (a.best != b.best)
    (some false)
    ((laws_eqLineS_p a.lines b.lines).bind fun x1 =>
    cond (!x1)
      (some false)
      (some true))
theorem laws_eqSeason_ok (a : Season) (b : Season) (r : Bool) (hH : laws_eqSeason_p a b = some r) : SpecR Try.prog 18 [.g (encSeason a), .g (encSeason b)] (.v (.bool r)) := by
  refine fn_ok T Try.func18 rfl (by decide) rfl ?_
  refine AW.seq ?_
  refine AW.region ?_
  refine AO.step rfl (box_ok T rfl 1 rfl rfl rfl rfl) ?_
  refine AO.step rfl (box_ok T rfl 2 rfl rfl rfl rfl) ?_
  refine AO.pure T rfl rfl rfl ?_
  refine AO.nil ?_
  refine AW.seq ?_
  refine AW.seq ?_
  refine AW.region ?_
  refine AO.pure T rfl rfl rfl ?_
  refine AO.pure T rfl rfl rfl ?_
  refine AO.pure T rfl rfl rfl ?_
  refine AO.pure T rfl rfl rfl ?_
  refine AO.pure T rfl rfl rfl ?_
  refine AO.nil ?_
  refine AW.cond (b := (a.best != b.best)) rfl (fun hc => ?_) (fun hc => ?_)
  · replace hH := condT hc hH
    refine AW.seq ?_
    refine AW.region ?_
    refine AO.pure T rfl rfl rfl ?_
    refine AO.nil ?_
    refine AW.ret ?_
    cases someE hH
    exact ⟨trivial, _, [], rfl, .c (.c .v), by decide⟩
  · replace hH := condF hc hH
    refine AW.skip ?_
    refine AW.seq ?_
    refine AW.seq ?_
    obtain ⟨x1, hx2, hH⟩ := bindE hH
    refine AW.region ?_
    refine AO.pure T rfl rfl rfl ?_
    refine AO.pure T rfl rfl rfl ?_
    refine AO.pure T rfl rfl rfl ?_
    refine AO.pure T rfl rfl rfl ?_
    refine AO.val rfl rfl (callV_ok rfl rfl rfl rfl (laws_eqLineS_ok _ _ _ (hx2)) rfl) ?_
    refine AO.pure T rfl rfl rfl ?_
    refine AO.nil ?_
    refine AW.cond (b := (!x1)) rfl (fun hc => ?_) (fun hc => ?_)
    · replace hH := condT hc hH
      refine AW.seq ?_
      refine AW.region ?_
      refine AO.pure T rfl rfl rfl ?_
      refine AO.nil ?_
      refine AW.ret ?_
      cases someE hH
      exact ⟨trivial, _, [], rfl, .c (.c .v), by decide⟩
    · replace hH := condF hc hH
      refine AW.skip ?_
      refine AW.seq ?_
      refine AW.region ?_
      refine AO.pure T rfl rfl rfl ?_
      refine AO.nil ?_
      refine AW.ret ?_
      cases someE hH
      exact ⟨trivial, _, [], rfl, .c (.c .v), by decide⟩

def laws_eqEntry_p (a : Entry) (b : Entry) : Option Bool :=
  cond (a.event != b.event)
    (some false)
    (cond (a.skater != b.skater)
      (some false)
      (cond (a.points != b.points)
        (some false)
        (some true)))
theorem laws_eqEntry_ok (a : Entry) (b : Entry) (r : Bool) (hH : laws_eqEntry_p a b = some r) : SpecR Try.prog 73 [.g (encEntry a), .g (encEntry b)] (.v (.bool r)) := by
  refine fn_ok T Try.func73 rfl (by decide) rfl ?_
  refine AW.seq ?_
  refine AW.region ?_
  refine AO.step rfl (box_ok T rfl 1 rfl rfl rfl rfl) ?_
  refine AO.step rfl (box_ok T rfl 2 rfl rfl rfl rfl) ?_
  refine AO.pure T rfl rfl rfl ?_
  refine AO.nil ?_
  refine AW.seq ?_
  refine AW.seq ?_
  refine AW.region ?_
  refine AO.pure T rfl rfl rfl ?_
  refine AO.pure T rfl rfl rfl ?_
  refine AO.pure T rfl rfl rfl ?_
  refine AO.pure T rfl rfl rfl ?_
  refine AO.pure T rfl rfl rfl ?_
  refine AO.nil ?_
  refine AW.cond (b := (a.event != b.event)) rfl (fun hc => ?_) (fun hc => ?_)
  · replace hH := condT hc hH
    refine AW.seq ?_
    refine AW.region ?_
    refine AO.pure T rfl rfl rfl ?_
    refine AO.nil ?_
    refine AW.ret ?_
    cases someE hH
    exact ⟨trivial, _, [], rfl, .c (.c .v), by decide⟩
  · replace hH := condF hc hH
    refine AW.skip ?_
    refine AW.seq ?_
    refine AW.seq ?_
    refine AW.region ?_
    refine AO.pure T rfl rfl rfl ?_
    refine AO.pure T rfl rfl rfl ?_
    refine AO.pure T rfl rfl rfl ?_
    refine AO.pure T rfl rfl rfl ?_
    refine AO.pure T rfl rfl rfl ?_
    refine AO.nil ?_
    refine AW.cond (b := (a.skater != b.skater)) rfl (fun hc => ?_) (fun hc => ?_)
    · replace hH := condT hc hH
      refine AW.seq ?_
      refine AW.region ?_
      refine AO.pure T rfl rfl rfl ?_
      refine AO.nil ?_
      refine AW.ret ?_
      cases someE hH
      exact ⟨trivial, _, [], rfl, .c (.c .v), by decide⟩
    · replace hH := condF hc hH
      refine AW.skip ?_
      refine AW.seq ?_
      refine AW.seq ?_
      refine AW.region ?_
      refine AO.pure T rfl rfl rfl ?_
      refine AO.pure T rfl rfl rfl ?_
      refine AO.pure T rfl rfl rfl ?_
      refine AO.pure T rfl rfl rfl ?_
      refine AO.pure T rfl rfl rfl ?_
      refine AO.nil ?_
      refine AW.cond (b := (a.points != b.points)) rfl (fun hc => ?_) (fun hc => ?_)
      · replace hH := condT hc hH
        refine AW.seq ?_
        refine AW.region ?_
        refine AO.pure T rfl rfl rfl ?_
        refine AO.nil ?_
        refine AW.ret ?_
        cases someE hH
        exact ⟨trivial, _, [], rfl, .c (.c .v), by decide⟩
      · replace hH := condF hc hH
        refine AW.skip ?_
        refine AW.seq ?_
        refine AW.region ?_
        refine AO.pure T rfl rfl rfl ?_
        refine AO.nil ?_
        refine AW.ret ?_
        cases someE hH
        exact ⟨trivial, _, [], rfl, .c (.c .v), by decide⟩

def laws_eqEntryS_l1 (b : List Entry) : List Entry → Nat → Option Bool
  | [], k1 =>
    some true
  | y2 :: ys3, k1 =>
    (getI b (k1 : Int)).bind fun x16 =>
    (laws_eqEntry_p y2 x16).bind fun x18 =>
    cond (!x18)
      (some false)
      (laws_eqEntryS_l1 b ys3 (k1 + 1))
def laws_eqEntryS_p (a : List Entry) (b : List Entry) : Option Bool :=
  cond ((a.length : Int) != (b.length : Int))
    (some false)
    (laws_eqEntryS_l1 b a 0)
theorem laws_eqEntryS_ok (a : List Entry) (b : List Entry) (r : Bool) (hH : laws_eqEntryS_p a b = some r) : SpecR Try.prog 23 [.s (List.map encEntry a), .s (List.map encEntry b)] (.v (.bool r)) := by
  refine fn_ok T Try.func23 rfl (by decide) rfl ?_
  refine AW.seq ?_
  refine AW.region ?_
  refine AO.pure T rfl rfl rfl ?_
  refine AO.nil ?_
  refine AW.seq ?_
  refine AW.seq ?_
  refine AW.region ?_
  refine AO.pure T rfl rfl rfl ?_
  refine AO.val rfl rfl (len_map_ok T rfl rfl rfl) ?_
  refine AO.pure T rfl rfl rfl ?_
  refine AO.val rfl rfl (len_map_ok T rfl rfl rfl) ?_
  refine AO.pure T rfl rfl rfl ?_
  refine AO.nil ?_
  refine AW.cond (b := ((a.length : Int) != (b.length : Int))) rfl (fun hc => ?_) (fun hc => ?_)
  · replace hH := condT hc hH
    refine AW.seq ?_
    refine AW.region ?_
    refine AO.pure T rfl rfl rfl ?_
    refine AO.nil ?_
    refine AW.ret ?_
    cases someE hH
    exact ⟨trivial, _, [], rfl, .c (.c .v), by decide⟩
  · replace hH := condF hc hH
    refine AW.skip ?_
    refine AW.seq ?_
    refine AW.seq ?_
    refine AW.region ?_
    refine AO.pure T rfl rfl rfl ?_
    refine AO.nil ?_
    refine AW.block ?_
    refine AW.loopS (fun s : Nat => (⟨[(0, .s (List.map encEntry a)), (1, .s (List.map encEntry b)), (5, .v (.int .i64 (s : Int)))], [], 27, []⟩ : St)) (fun s => s ≤ a.length ∧ laws_eqEntryS_l1 b (a.drop s) s = some r) (fun s => a.length - s) 0 ⟨Nat.zero_le _, hH⟩ ?_ ?_
    · exact Le.cut 0 0 rfl (by repeat' (first | exact trivial | refine ⟨⟨_, rfl, rfl⟩, ?_⟩)) (by repeat' (first | exact trivial | refine ⟨⟨_, rfl, rfl⟩, ?_⟩)) rfl
    · rintro k1 ⟨hk, hH⟩
      replace hH : laws_eqEntryS_l1 b (a.drop k1) k1 = some r := hH
      show AW _ _ _ (⟨[(0, .s (List.map encEntry a)), (1, .s (List.map encEntry b)), (5, .v (.int .i64 (k1 : Int)))], [], 27, []⟩ : St)
      refine AW.boundM (t := 0) (l := a) rfl (fun hb5 => ?_)
      cases hd4 : a.drop k1 with
      | nil =>
        rw [hd4] at hH
        rw [laws_eqEntryS_l1] at hH
        have hlt6 := drop_ge hd4
        refine AW.seq ?_
        refine AW.seq ?_
        refine AW.region ?_
        refine AO.pure T rfl rfl rfl ?_
        refine AO.pure T rfl rfl rfl ?_
        refine AO.val rfl rfl (len_map_ok T rfl rfl rfl) ?_
        refine AO.pure T rfl rfl rfl ?_
        refine AO.nil ?_
        refine AW.condF' (b := decide ((k1 : Int) < (a.length : Int))) rfl (rngF hlt6) ?_
        refine AW.exit ?_
        refine AW.seq ?_
        refine AW.region ?_
        refine AO.pure T rfl rfl rfl ?_
        refine AO.nil ?_
        refine AW.ret ?_
        cases someE hH
        exact ⟨trivial, _, [], rfl, .c (.c .v), by decide⟩
      | cons y2 ys3 =>
        rw [hd4] at hH
        rw [laws_eqEntryS_l1] at hH
        have hlt6 := drop_lt hd4
        refine AW.seq ?_
        refine AW.seq ?_
        refine AW.region ?_
        refine AO.pure T rfl rfl rfl ?_
        refine AO.pure T rfl rfl rfl ?_
        refine AO.val rfl rfl (len_map_ok T rfl rfl rfl) ?_
        refine AO.pure T rfl rfl rfl ?_
        refine AO.nil ?_
        refine AW.condT' (b := decide ((k1 : Int) < (a.length : Int))) rfl (rngT hlt6) ?_
        refine AW.skip ?_
        refine AW.seq ?_
        refine AW.block ?_
        refine AW.seq ?_
        obtain ⟨x16, hx17, hH⟩ := bindE hH
        obtain ⟨x18, hx19, hH⟩ := bindE hH
        refine AW.drawn 8 1 [] mix (by kernel_rfl) rfl ?_
        refine AD.pure T rfl rfl rfl ?_
        refine AD.pure T rfl rfl rfl ?_
        refine AD.val rfl rfl (ix_map_ok T rfl rfl rfl rfl rfl (getI_drop hd4) rfl) ?_
        refine AD.pure T rfl rfl rfl ?_
        refine AD.pure T rfl rfl rfl ?_
        refine AD.pure T rfl rfl rfl ?_
        refine AD.val rfl rfl (ix_map_ok T rfl rfl rfl rfl rfl (hx17) rfl) ?_
        refine AD.pure T rfl rfl rfl ?_
        refine AD.nil ?_
        refine AO.val rfl rfl (callV_ok rfl rfl rfl rfl (laws_eqEntry_ok _ _ _ (hx19)) rfl) ?_
        refine AO.pure T rfl rfl rfl ?_
        refine AO.nil ?_
        refine AW.cond (b := (!x18)) rfl (fun hc => ?_) (fun hc => ?_)
        · replace hH := condT hc hH
          refine AW.seq ?_
          refine AW.region ?_
          refine AO.pure T rfl rfl rfl ?_
          refine AO.nil ?_
          refine AW.ret ?_
          cases someE hH
          exact ⟨trivial, _, [], rfl, .c (.c .v), by decide⟩
        · replace hH := condF hc hH
          refine AW.skip ?_
          refine AW.region ?_
          refine AO.pure T rfl rfl rfl ?_
          refine AO.val rfl rfl (ar_ok rfl rfl rfl rfl (inI_succ hlt6 hb5)) ?_
          refine AO.pure T rfl rfl rfl ?_
          refine AO.nil ?_
          refine ⟨k1 + 1, ⟨Nat.succ_le_of_lt hlt6, (by rw [drop_succ_of hd4]; exact hH)⟩, (by have := hlt6; dsimp only; omega), ?_⟩
          exact Le.cut 0 0 rfl (by repeat' (first | exact trivial | refine ⟨⟨_, rfl, rfl⟩, ?_⟩)) (by repeat' (first | exact trivial | refine ⟨⟨_, rfl, rfl⟩, ?_⟩)) rfl

def laws_markEntryS_l1 : Nat → List Entry → Int → Int → Option (((List Entry) × Int))
  | 0, _, _, _ => none
  | k1 + 1, v17, v18, v19 =>
    cond (decide (v19 < (v17.length : Int)))
      ((getI v17 v19).bind fun x21 =>
      (getI (v17.set v19.toNat (Entry.mk v18 x21.skater x21.points)) v19).bind fun x23 =>
      (getI ((v17.set v19.toNat (Entry.mk v18 x21.skater x21.points)).set v19.toNat (Entry.mk x23.event (w64 (v18 + 1)) x23.points)) v19).bind fun x25 =>
      laws_markEntryS_l1 k1 (((v17.set v19.toNat (Entry.mk v18 x21.skater x21.points)).set v19.toNat (Entry.mk x23.event (w64 (v18 + 1)) x23.points)).set v19.toNat (Entry.mk x25.event x25.skater (w64 ((w64 (v18 + 1)) + 1)))) (w64 ((w64 ((w64 (v18 + 1)) + 1)) + 1)) (w64 (v19 + 1)))
      (some (v17, v18))
def laws_markEntryS_p (fuel : Nat) (a : List Entry) (k : Int) : Option ((List Entry) × Int) :=
  laws_markEntryS_l1 fuel a k 0
theorem laws_markEntryS_ok (fuel : Nat) (a : List Entry) (k : Int) (r : ((List Entry) × Int)) (hH : laws_markEntryS_p fuel a k = some r) : SpecM Try.prog 25 [.w 3 (a.map encEntry), .v (.int .i64 k)] [.w 3 (r.1.map encEntry), .u] (.v (.int .i64 r.2)) := by
  refine fn_okM T Try.func25 rfl (by decide) rfl rfl ?_
  intro L
  show AW _ _ _ (⟨[(0, .R 1), (1, .v (.int .i64 k))], [(1, .row 3 (List.map encEntry a))], 34, [(1, L 1)]⟩ : St)
  refine AW.seq ?_
  refine AW.region ?_
  refine AO.pure T rfl rfl rfl ?_
  refine AO.nil ?_
  refine AW.seq ?_
  refine AW.seq ?_
  refine AW.region ?_
  refine AO.pure T rfl rfl rfl ?_
  refine AO.nil ?_
  refine AW.block ?_
  refine AW.loopS (fun s : Nat × (List Entry) × Int × Int => (⟨[(0, .R 1), (1, .v (.int .i64 s.2.2.1)), (5, .v (.int .i64 s.2.2.2))], [(1, .row 3 (List.map encEntry s.2.1))], 34, [(1, L 1)]⟩ : St)) (fun s => laws_markEntryS_l1 s.1 s.2.1 s.2.2.1 s.2.2.2 = some r) (fun s => s.1) (fuel, a, k, 0) hH ?_ ?_
  · exact Le.cut 0 0 rfl (by repeat' (first | exact trivial | refine ⟨⟨_, rfl, rfl⟩, ?_⟩)) (by repeat' (first | exact trivial | refine ⟨⟨_, rfl, rfl⟩, ?_⟩)) rfl ⟨⟨rfl, rfl⟩, trivial⟩
  · rintro ⟨k1, v17, v18, v19⟩ hH
    replace hH : laws_markEntryS_l1 k1 v17 v18 v19 = some r := hH
    show AW _ _ _ (⟨[(0, .R 1), (1, .v (.int .i64 v18)), (5, .v (.int .i64 v19))], [(1, .row 3 (List.map encEntry v17))], 34, [(1, L 1)]⟩ : St)
    cases k1 with
    | zero => cases (show none = some _ from hH)
    | succ k1 =>
      rw [laws_markEntryS_l1] at hH
      refine AW.seq ?_
      refine AW.seq ?_
      refine AW.region ?_
      refine AO.pure T rfl rfl rfl ?_
      refine AO.pure T rfl rfl rfl ?_
      refine AO.val rfl rfl (len_row_ok T rfl rfl rfl rfl) ?_
      refine AO.pure T rfl rfl rfl ?_
      refine AO.nil ?_
      refine AW.cond (b := decide (v19 < (v17.length : Int))) rfl (fun hc => ?_) (fun hc => ?_)
      · replace hH := condT hc hH
        refine AW.skip ?_
        refine AW.seq ?_
        refine AW.block ?_
        refine AW.seq ?_
        obtain ⟨x21, hx22, hH⟩ := bindE hH
        refine AW.region ?_
        refine AO.pure T rfl rfl rfl ?_
        refine AO.pure T rfl rfl rfl ?_
        refine AO.pure T rfl rfl rfl ?_
        refine AO.val rfl rfl (ix_row_ok T rfl rfl rfl rfl rfl rfl (hx22)) ?_
        refine AO.pure T rfl rfl rfl ?_
        refine AO.step rfl (store_row_ok T rfl rfl rfl rfl rfl (getI_get (hx22)) rfl rfl rfl rfl (u' := (Entry.mk v18 x21.skater x21.points)) rfl rfl) ?_
        refine AO.nil ?_
        refine AW.seq ?_
        refine AW.region ?_
        refine AO.pure T rfl rfl rfl ?_
        refine AO.val rfl rfl (arw_ok rfl rfl rfl rfl) ?_
        refine AO.pure T rfl rfl rfl ?_
        refine AO.nil ?_
        refine AW.seq ?_
        obtain ⟨x23, hx24, hH⟩ := bindE hH
        refine AW.region ?_
        refine AO.pure T rfl rfl rfl ?_
        refine AO.pure T rfl rfl rfl ?_
        refine AO.pure T rfl rfl rfl ?_
        refine AO.val rfl rfl (ix_row_ok T rfl rfl rfl rfl rfl rfl (hx24)) ?_
        refine AO.pure T rfl rfl rfl ?_
        refine AO.step rfl (store_row_ok T rfl rfl rfl rfl rfl (getI_get (hx24)) rfl rfl rfl rfl (u' := (Entry.mk x23.event (w64 (v18 + 1)) x23.points)) rfl rfl) ?_
        refine AO.nil ?_
        refine AW.seq ?_
        refine AW.region ?_
        refine AO.pure T rfl rfl rfl ?_
        refine AO.val rfl rfl (arw_ok rfl rfl rfl rfl) ?_
        refine AO.pure T rfl rfl rfl ?_
        refine AO.nil ?_
        refine AW.seq ?_
        obtain ⟨x25, hx26, hH⟩ := bindE hH
        refine AW.region ?_
        refine AO.pure T rfl rfl rfl ?_
        refine AO.pure T rfl rfl rfl ?_
        refine AO.pure T rfl rfl rfl ?_
        refine AO.val rfl rfl (ix_row_ok T rfl rfl rfl rfl rfl rfl (hx26)) ?_
        refine AO.pure T rfl rfl rfl ?_
        refine AO.step rfl (store_row_ok T rfl rfl rfl rfl rfl (getI_get (hx26)) rfl rfl rfl rfl (u' := (Entry.mk x25.event x25.skater (w64 ((w64 (v18 + 1)) + 1)))) rfl rfl) ?_
        refine AO.nil ?_
        refine AW.le (Le.cut 0 0 (σ' := (⟨[(0, .R 1), (1, .v (.int .i64 (w64 ((w64 (v18 + 1)) + 1)))), (5, .v (.int .i64 v19))], [(1, .row 3 (List.map encEntry (((v17.set v19.toNat (Entry.mk v18 x21.skater x21.points)).set v19.toNat (Entry.mk x23.event (w64 (v18 + 1)) x23.points)).set v19.toNat (Entry.mk x25.event x25.skater (w64 ((w64 (v18 + 1)) + 1))))))], 34, [(1, L 1)]⟩ : St)) rfl (by repeat' (first | exact trivial | refine ⟨⟨_, rfl, rfl⟩, ?_⟩)) (by repeat' (first | exact trivial | refine ⟨⟨_, rfl, rfl⟩, ?_⟩)) rfl ⟨⟨rfl, rfl⟩, trivial⟩) ?_
        refine AW.region ?_
        refine AO.pure T rfl rfl rfl ?_
        refine AO.val rfl rfl (arw_ok rfl rfl rfl rfl) ?_
        refine AO.pure T rfl rfl rfl ?_
        refine AO.nil ?_
        refine AW.region ?_
        refine AO.pure T rfl rfl rfl ?_
        refine AO.val rfl rfl (arw_ok rfl rfl rfl rfl) ?_
        refine AO.pure T rfl rfl rfl ?_
        refine AO.nil ?_
        refine ⟨(k1, (((v17.set v19.toNat (Entry.mk v18 x21.skater x21.points)).set v19.toNat (Entry.mk x23.event (w64 (v18 + 1)) x23.points)).set v19.toNat (Entry.mk x25.event x25.skater (w64 ((w64 (v18 + 1)) + 1)))), w64 ((w64 ((w64 (v18 + 1)) + 1)) + 1), w64 (v19 + 1)), hH, Nat.lt_succ_self _, ?_⟩
        exact Le.cut 0 0 rfl (by repeat' (first | exact trivial | refine ⟨⟨_, rfl, rfl⟩, ?_⟩)) (by repeat' (first | exact trivial | refine ⟨⟨_, rfl, rfl⟩, ?_⟩)) rfl ⟨⟨rfl, rfl⟩, trivial⟩
      · replace hH := condF hc hH
        refine AW.exit ?_
        refine AW.seq ?_
        refine AW.region ?_
        refine AO.pure T rfl rfl rfl ?_
        refine AO.pure T rfl rfl rfl ?_
        refine AO.nil ?_
        refine AW.ret ?_
        cases someE hH
        exact ⟨trivial, rfl, _, [], [1], rfl, expLG_cons (.c (.rowR rfl)) (expLG_cons (.c .u) (expLG_nil)), .c (.c .v), by decide⟩

def laws_markIntS_l1 : Nat → List Int → Int → Int → Option (((List Int) × Int))
  | 0, _, _, _ => none
  | k1 + 1, v9, v10, v11 =>
    cond (decide (v11 < (v9.length : Int)))
      ((getI v9 v11).bind fun x13 =>
      laws_markIntS_l1 k1 (v9.set v11.toNat v10) (w64 (v10 + 1)) (w64 (v11 + 1)))
      (some (v9, v10))
def laws_markIntS_p (fuel : Nat) (a : List Int) (k : Int) : Option ((List Int) × Int) :=
  laws_markIntS_l1 fuel a k 0
theorem laws_markIntS_ok (fuel : Nat) (a : List Int) (k : Int) (r : ((List Int) × Int)) (hH : laws_markIntS_p fuel a k = some r) : SpecM Try.prog 30 [.w 1 (a.map encInt), .v (.int .i64 k)] [.w 1 (r.1.map encInt), .u] (.v (.int .i64 r.2)) := by
  refine fn_okM T Try.func30 rfl (by decide) rfl rfl ?_
  intro L
  show AW _ _ _ (⟨[(0, .R 1), (1, .v (.int .i64 k))], [(1, .row 1 (List.map encInt a))], 19, [(1, L 1)]⟩ : St)
  refine AW.seq ?_
  refine AW.region ?_
  refine AO.pure T rfl rfl rfl ?_
  refine AO.nil ?_
  refine AW.seq ?_
  refine AW.seq ?_
  refine AW.region ?_
  refine AO.pure T rfl rfl rfl ?_
  refine AO.nil ?_
  refine AW.block ?_
  refine AW.loopS (fun s : Nat × (List Int) × Int × Int => (⟨[(0, .R 1), (1, .v (.int .i64 s.2.2.1)), (5, .v (.int .i64 s.2.2.2))], [(1, .row 1 (List.map encInt s.2.1))], 19, [(1, L 1)]⟩ : St)) (fun s => laws_markIntS_l1 s.1 s.2.1 s.2.2.1 s.2.2.2 = some r) (fun s => s.1) (fuel, a, k, 0) hH ?_ ?_
  · exact Le.cut 0 0 rfl (by repeat' (first | exact trivial | refine ⟨⟨_, rfl, rfl⟩, ?_⟩)) (by repeat' (first | exact trivial | refine ⟨⟨_, rfl, rfl⟩, ?_⟩)) rfl ⟨⟨rfl, rfl⟩, trivial⟩
  · rintro ⟨k1, v9, v10, v11⟩ hH
    replace hH : laws_markIntS_l1 k1 v9 v10 v11 = some r := hH
    show AW _ _ _ (⟨[(0, .R 1), (1, .v (.int .i64 v10)), (5, .v (.int .i64 v11))], [(1, .row 1 (List.map encInt v9))], 19, [(1, L 1)]⟩ : St)
    cases k1 with
    | zero => cases (show none = some _ from hH)
    | succ k1 =>
      rw [laws_markIntS_l1] at hH
      refine AW.seq ?_
      refine AW.seq ?_
      refine AW.region ?_
      refine AO.pure T rfl rfl rfl ?_
      refine AO.pure T rfl rfl rfl ?_
      refine AO.val rfl rfl (len_row_ok T rfl rfl rfl rfl) ?_
      refine AO.pure T rfl rfl rfl ?_
      refine AO.nil ?_
      refine AW.cond (b := decide (v11 < (v9.length : Int))) rfl (fun hc => ?_) (fun hc => ?_)
      · replace hH := condT hc hH
        refine AW.skip ?_
        refine AW.seq ?_
        refine AW.block ?_
        refine AW.seq ?_
        obtain ⟨x13, hx14, hH⟩ := bindE hH
        refine AW.region ?_
        refine AO.pure T rfl rfl rfl ?_
        refine AO.pure T rfl rfl rfl ?_
        refine AO.pure T rfl rfl rfl ?_
        refine AO.val rfl rfl (ix_row_ok T rfl rfl rfl rfl rfl rfl (hx14)) ?_
        refine AO.step rfl (store_row_ok T rfl rfl rfl rfl rfl (getI_get (hx14)) rfl rfl rfl rfl (u' := v10) rfl rfl) ?_
        refine AO.nil ?_
        refine AW.region ?_
        refine AO.pure T rfl rfl rfl ?_
        refine AO.val rfl rfl (arw_ok rfl rfl rfl rfl) ?_
        refine AO.pure T rfl rfl rfl ?_
        refine AO.nil ?_
        refine AW.region ?_
        refine AO.pure T rfl rfl rfl ?_
        refine AO.val rfl rfl (arw_ok rfl rfl rfl rfl) ?_
        refine AO.pure T rfl rfl rfl ?_
        refine AO.nil ?_
        refine ⟨(k1, (v9.set v11.toNat v10), w64 (v10 + 1), w64 (v11 + 1)), hH, Nat.lt_succ_self _, ?_⟩
        exact Le.cut 0 0 rfl (by repeat' (first | exact trivial | refine ⟨⟨_, rfl, rfl⟩, ?_⟩)) (by repeat' (first | exact trivial | refine ⟨⟨_, rfl, rfl⟩, ?_⟩)) rfl ⟨⟨rfl, rfl⟩, trivial⟩
      · replace hH := condF hc hH
        refine AW.exit ?_
        refine AW.seq ?_
        refine AW.region ?_
        refine AO.pure T rfl rfl rfl ?_
        refine AO.pure T rfl rfl rfl ?_
        refine AO.nil ?_
        refine AW.ret ?_
        cases someE hH
        exact ⟨trivial, rfl, _, [], [1], rfl, expLG_cons (.c (.rowR rfl)) (expLG_cons (.c .u) (expLG_nil)), .c (.c .v), by decide⟩

def laws_markLineS_l1 (fuel : Nat) : Nat → List Line → Int → Int → Option (((List Line) × Int))
  | 0, _, _, _ => none
  | k1 + 1, v25, v26, v27 =>
    cond (decide (v27 < (v25.length : Int)))
      ((getI v25 v27).bind fun x29 =>
      (getI (v25.set v27.toNat (Line.mk v26 x29.events x29.points)) v27).bind fun x31 =>
      (laws_markIntS_p fuel x31.events (w64 (v26 + 1))).bind fun x33 =>
      (getI ((v25.set v27.toNat (Line.mk v26 x29.events x29.points)).set v27.toNat (Line.mk x31.skater x33.1 x31.points)) v27).bind fun x35 =>
      (laws_markIntS_p fuel x35.points x33.2).bind fun x37 =>
      laws_markLineS_l1 fuel k1 (((v25.set v27.toNat (Line.mk v26 x29.events x29.points)).set v27.toNat (Line.mk x31.skater x33.1 x31.points)).set v27.toNat (Line.mk x35.skater x35.events x37.1)) x37.2 (w64 (v27 + 1)))
      (some (v25, v26))
def laws_markLineS_p (fuel : Nat) (a : List Line) (k : Int) : Option ((List Line) × Int) :=
  laws_markLineS_l1 fuel fuel a k 0
theorem laws_markLineS_ok (fuel : Nat) (a : List Line) (k : Int) (r : ((List Line) × Int)) (hH : laws_markLineS_p fuel a k = some r) : SpecM Try.prog 74 [.w 3 (a.map encLineO), .v (.int .i64 k)] [.w 3 (r.1.map encLineO), .u] (.v (.int .i64 r.2)) := by
  refine fn_okM T Try.func74 rfl (by decide) rfl rfl ?_
  intro L
  show AW _ _ _ (⟨[(0, .R 1), (1, .v (.int .i64 k))], [(1, .row 3 (List.map encLineO a))], 34, [(1, L 1)]⟩ : St)
  refine AW.seq ?_
  refine AW.region ?_
  refine AO.pure T rfl rfl rfl ?_
  refine AO.nil ?_
  refine AW.seq ?_
  refine AW.seq ?_
  refine AW.region ?_
  refine AO.pure T rfl rfl rfl ?_
  refine AO.nil ?_
  refine AW.block ?_
  refine AW.loopS (fun s : Nat × (List Line) × Int × Int => (⟨[(0, .R 1), (1, .v (.int .i64 s.2.2.1)), (5, .v (.int .i64 s.2.2.2))], [(1, .row 3 (List.map encLineO s.2.1))], 34, [(1, L 1)]⟩ : St)) (fun s => laws_markLineS_l1 fuel s.1 s.2.1 s.2.2.1 s.2.2.2 = some r) (fun s => s.1) (fuel, a, k, 0) hH ?_ ?_
  · exact Le.cut 0 0 rfl (by repeat' (first | exact trivial | refine ⟨⟨_, rfl, rfl⟩, ?_⟩)) (by repeat' (first | exact trivial | refine ⟨⟨_, rfl, rfl⟩, ?_⟩)) rfl ⟨⟨rfl, rfl⟩, trivial⟩
  · rintro ⟨k1, v25, v26, v27⟩ hH
    replace hH : laws_markLineS_l1 fuel k1 v25 v26 v27 = some r := hH
    show AW _ _ _ (⟨[(0, .R 1), (1, .v (.int .i64 v26)), (5, .v (.int .i64 v27))], [(1, .row 3 (List.map encLineO v25))], 34, [(1, L 1)]⟩ : St)
    cases k1 with
    | zero => cases (show none = some _ from hH)
    | succ k1 =>
      rw [laws_markLineS_l1] at hH
      refine AW.seq ?_
      refine AW.seq ?_
      refine AW.region ?_
      refine AO.pure T rfl rfl rfl ?_
      refine AO.pure T rfl rfl rfl ?_
      refine AO.val rfl rfl (len_row_ok T rfl rfl rfl rfl) ?_
      refine AO.pure T rfl rfl rfl ?_
      refine AO.nil ?_
      refine AW.cond (b := decide (v27 < (v25.length : Int))) rfl (fun hc => ?_) (fun hc => ?_)
      · replace hH := condT hc hH
        refine AW.skip ?_
        refine AW.seq ?_
        refine AW.block ?_
        refine AW.seq ?_
        obtain ⟨x29, hx30, hH⟩ := bindE hH
        refine AW.region ?_
        refine AO.pure T rfl rfl rfl ?_
        refine AO.pure T rfl rfl rfl ?_
        refine AO.pure T rfl rfl rfl ?_
        refine AO.val rfl rfl (ix_row_ok T rfl rfl rfl rfl rfl rfl (hx30)) ?_
        refine AO.pure T rfl rfl rfl ?_
        refine AO.step rfl (store_row_ok T rfl rfl rfl rfl rfl (getI_get (hx30)) rfl rfl rfl rfl (u' := (Line.mk v26 x29.events x29.points)) rfl rfl) ?_
        refine AO.nil ?_
        refine AW.seq ?_
        refine AW.region ?_
        refine AO.pure T rfl rfl rfl ?_
        refine AO.val rfl rfl (arw_ok rfl rfl rfl rfl) ?_
        refine AO.pure T rfl rfl rfl ?_
        refine AO.nil ?_
        refine AW.seq ?_
        obtain ⟨x31, hx32, hH⟩ := bindE hH
        obtain ⟨x33, hx34, hH⟩ := bindE hH
        refine AW.le (Le.openM 1 v27.toNat 1 6 rfl (getI_get (hx32)) rfl rfl) ?_
        refine AW.region ?_
        refine AO.pure T rfl rfl rfl ?_
        refine AO.pure T rfl rfl rfl ?_
        refine AO.val rfl rfl (ix_lent_ok T rfl rfl rfl rfl rfl rfl (hx32)) ?_
        refine AO.pure T rfl rfl rfl ?_
        refine AO.val rfl rfl (load_lent_ok T rfl rfl rfl rfl rfl) ?_
        refine AO.pure T rfl rfl rfl ?_
        refine AO.step rfl (callM_ok rfl 7 rfl rfl (es := [.w 1 (x31.events.map encInt), .v (.int .i64 (w64 (v26 + 1)))]) (outs := [.w 1 (x33.1.map encInt), .u]) (ids := [6]) (by exact expLG_cons (.c (.rowR rfl)) (expLG_cons (.c .v) (expLG_nil))) (by decide) (.inl (by rfl)) (by rfl) (laws_markIntS_ok fuel _ _ _ (hx34)) rfl (by rfl) rfl) ?_
        refine AO.pure T rfl rfl rfl ?_
        refine AO.le (Le.closeM 1 v27.toNat 1 6 rfl rfl (getI_get (hx32)) rfl (u' := (Line.mk x31.skater x33.1 x31.points)) rfl) ?_
        refine AO.nil ?_
        obtain ⟨x35, hx36, hH⟩ := bindE hH
        obtain ⟨x37, hx38, hH⟩ := bindE hH
        refine AW.le (Le.openM 1 v27.toNat 2 7 rfl (getI_get (hx36)) rfl rfl) ?_
        refine AW.region ?_
        refine AO.pure T rfl rfl rfl ?_
        refine AO.pure T rfl rfl rfl ?_
        refine AO.val rfl rfl (ix_lent_ok T rfl rfl rfl rfl rfl rfl (hx36)) ?_
        refine AO.pure T rfl rfl rfl ?_
        refine AO.val rfl rfl (load_lent_ok T rfl rfl rfl rfl rfl) ?_
        refine AO.pure T rfl rfl rfl ?_
        refine AO.step rfl (callM_ok rfl 8 rfl rfl (es := [.w 1 (x35.points.map encInt), .v (.int .i64 x33.2)]) (outs := [.w 1 (x37.1.map encInt), .u]) (ids := [7]) (by exact expLG_cons (.c (.rowR rfl)) (expLG_cons (.c .v) (expLG_nil))) (by decide) (.inl (by rfl)) (by rfl) (laws_markIntS_ok fuel _ _ _ (hx38)) rfl (by rfl) rfl) ?_
        refine AO.pure T rfl rfl rfl ?_
        refine AO.le (Le.closeM 1 v27.toNat 2 7 rfl rfl (getI_get (hx36)) rfl (u' := (Line.mk x35.skater x35.events x37.1)) rfl) ?_
        refine AO.nil ?_
        refine AW.le (Le.cut 0 0 (σ' := (⟨[(0, .R 1), (1, .v (.int .i64 x37.2)), (5, .v (.int .i64 v27))], [(1, .row 3 (List.map encLineO (((v25.set v27.toNat (Line.mk v26 x29.events x29.points)).set v27.toNat (Line.mk x31.skater x33.1 x31.points)).set v27.toNat (Line.mk x35.skater x35.events x37.1))))], 34, [(1, L 1)]⟩ : St)) rfl (by repeat' (first | exact trivial | refine ⟨⟨_, rfl, rfl⟩, ?_⟩)) (by repeat' (first | exact trivial | refine ⟨⟨_, rfl, rfl⟩, ?_⟩)) rfl ⟨⟨rfl, rfl⟩, trivial⟩) ?_
        refine AW.region ?_
        refine AO.pure T rfl rfl rfl ?_
        refine AO.val rfl rfl (arw_ok rfl rfl rfl rfl) ?_
        refine AO.pure T rfl rfl rfl ?_
        refine AO.nil ?_
        refine ⟨(k1, (((v25.set v27.toNat (Line.mk v26 x29.events x29.points)).set v27.toNat (Line.mk x31.skater x33.1 x31.points)).set v27.toNat (Line.mk x35.skater x35.events x37.1)), x37.2, w64 (v27 + 1)), hH, Nat.lt_succ_self _, ?_⟩
        exact Le.cut 0 0 rfl (by repeat' (first | exact trivial | refine ⟨⟨_, rfl, rfl⟩, ?_⟩)) (by repeat' (first | exact trivial | refine ⟨⟨_, rfl, rfl⟩, ?_⟩)) rfl ⟨⟨rfl, rfl⟩, trivial⟩
      · replace hH := condF hc hH
        refine AW.exit ?_
        refine AW.seq ?_
        refine AW.region ?_
        refine AO.pure T rfl rfl rfl ?_
        refine AO.pure T rfl rfl rfl ?_
        refine AO.nil ?_
        refine AW.ret ?_
        cases someE hH
        exact ⟨trivial, rfl, _, [], [1], rfl, expLG_cons (.c (.rowR rfl)) (expLG_cons (.c .u) (expLG_nil)), .c (.c .v), by decide⟩

def laws_markSeason_p (fuel : Nat) (a : Season) (k : Int) : Option (Season × Int) :=
  (laws_markLineS_p fuel a.lines k).bind fun x1 =>
  some ((Season.mk a.best x1.1), x1.2)
theorem laws_markSeason_ok (fuel : Nat) (a : Season) (k : Int) (r : (Season × Int)) (hH : laws_markSeason_p fuel a k = some r) : SpecM Try.prog 24 [.g (encSeasonO a), .v (.int .i64 k)] [.g [.u, .w 3 (r.1.lines.map encLineO)], .u] (.v (.int .i64 r.2)) := by
  refine fn_okM T Try.func24 rfl (by decide) rfl rfl ?_
  intro L
  show AW _ _ _ (⟨[(0, .g [.v (.int .i64 a.best), .R 1]), (1, .v (.int .i64 k))], [(1, .row 3 (List.map encLineO a.lines))], 10, [(1, L 1)]⟩ : St)
  refine AW.seq ?_
  refine AW.region ?_
  refine AO.step rfl (box_ok T rfl 2 rfl rfl rfl rfl) ?_
  refine AO.pure T rfl rfl rfl ?_
  refine AO.nil ?_
  refine AW.seq ?_
  obtain ⟨x1, hx2, hH⟩ := bindE hH
  refine AW.region ?_
  refine AO.pure T rfl rfl rfl ?_
  refine AO.pure T rfl rfl rfl ?_
  refine AO.pure T rfl rfl rfl ?_
  refine AO.step rfl (callM_ok rfl 3 rfl rfl (es := [.w 3 (a.lines.map encLineO), .v (.int .i64 k)]) (outs := [.w 3 (x1.1.map encLineO), .u]) (ids := [1]) (by exact expLG_cons (.c (.rowR rfl)) (expLG_cons (.c .v) (expLG_nil))) (by decide) (.inl (by rfl)) (by rfl) (laws_markLineS_ok fuel _ _ _ (hx2)) rfl (by rfl) rfl) ?_
  refine AO.pure T rfl rfl rfl ?_
  refine AO.nil ?_
  refine AW.seq ?_
  refine AW.region ?_
  refine AO.pure T rfl rfl rfl ?_
  refine AO.pure T rfl rfl rfl ?_
  refine AO.nil ?_
  refine AW.ret ?_
  cases someE hH
  exact ⟨trivial, rfl, _, [], [1], rfl, expLG_cons (.g (expLC_cons .u (expLC_cons (.rowR rfl) (expLC_nil)))) (expLG_cons (.c .u) (expLG_nil)), .c (.c .v), by decide⟩

def laws_heldIntS_l1 : List Int → Nat → Int → Option Int
  | [], k1, v8 =>
    some v8
  | y2 :: ys3, k1, v8 =>
    cond (y2 != v8)
      (some (-1))
      (laws_heldIntS_l1 ys3 (k1 + 1) (w64 (v8 + 1)))
def laws_heldIntS_p (a : List Int) (k : Int) : Option Int :=
  laws_heldIntS_l1 a 0 k
theorem laws_heldIntS_ok (a : List Int) (k : Int) (r : Int) (hH : laws_heldIntS_p a k = some r) : SpecR Try.prog 31 [.s (List.map encInt a), .v (.int .i64 k)] (.v (.int .i64 r)) := by
  refine fn_ok T Try.func31 rfl (by decide) rfl ?_
  refine AW.seq ?_
  refine AW.region ?_
  refine AO.pure T rfl rfl rfl ?_
  refine AO.nil ?_
  refine AW.seq ?_
  refine AW.seq ?_
  refine AW.region ?_
  refine AO.pure T rfl rfl rfl ?_
  refine AO.nil ?_
  refine AW.block ?_
  refine AW.loopS (fun s : Nat × Int => (⟨[(0, .s (List.map encInt a)), (1, .v (.int .i64 s.2)), (5, .v (.int .i64 (s.1 : Int)))], [], 21, []⟩ : St)) (fun s => s.1 ≤ a.length ∧ laws_heldIntS_l1 (a.drop s.1) s.1 s.2 = some r) (fun s => a.length - s.1) (0, k) ⟨Nat.zero_le _, hH⟩ ?_ ?_
  · exact Le.cut 0 0 rfl (by repeat' (first | exact trivial | refine ⟨⟨_, rfl, rfl⟩, ?_⟩)) (by repeat' (first | exact trivial | refine ⟨⟨_, rfl, rfl⟩, ?_⟩)) rfl
  · rintro ⟨k1, v8⟩ ⟨hk, hH⟩
    replace hH : laws_heldIntS_l1 (a.drop k1) k1 v8 = some r := hH
    show AW _ _ _ (⟨[(0, .s (List.map encInt a)), (1, .v (.int .i64 v8)), (5, .v (.int .i64 (k1 : Int)))], [], 21, []⟩ : St)
    refine AW.boundM (t := 0) (l := a) rfl (fun hb5 => ?_)
    cases hd4 : a.drop k1 with
    | nil =>
      rw [hd4] at hH
      rw [laws_heldIntS_l1] at hH
      have hlt6 := drop_ge hd4
      refine AW.seq ?_
      refine AW.seq ?_
      refine AW.region ?_
      refine AO.pure T rfl rfl rfl ?_
      refine AO.pure T rfl rfl rfl ?_
      refine AO.val rfl rfl (len_map_ok T rfl rfl rfl) ?_
      refine AO.pure T rfl rfl rfl ?_
      refine AO.nil ?_
      refine AW.condF' (b := decide ((k1 : Int) < (a.length : Int))) rfl (rngF hlt6) ?_
      refine AW.exit ?_
      refine AW.seq ?_
      refine AW.region ?_
      refine AO.pure T rfl rfl rfl ?_
      refine AO.pure T rfl rfl rfl ?_
      refine AO.nil ?_
      refine AW.ret ?_
      cases someE hH
      exact ⟨trivial, _, [], rfl, .c (.c .v), by decide⟩
    | cons y2 ys3 =>
      rw [hd4] at hH
      rw [laws_heldIntS_l1] at hH
      have hlt6 := drop_lt hd4
      refine AW.seq ?_
      refine AW.seq ?_
      refine AW.region ?_
      refine AO.pure T rfl rfl rfl ?_
      refine AO.pure T rfl rfl rfl ?_
      refine AO.val rfl rfl (len_map_ok T rfl rfl rfl) ?_
      refine AO.pure T rfl rfl rfl ?_
      refine AO.nil ?_
      refine AW.condT' (b := decide ((k1 : Int) < (a.length : Int))) rfl (rngT hlt6) ?_
      refine AW.skip ?_
      refine AW.seq ?_
      refine AW.block ?_
      refine AW.seq ?_
      refine AW.seq ?_
      refine AW.region ?_
      refine AO.pure T rfl rfl rfl ?_
      refine AO.pure T rfl rfl rfl ?_
      refine AO.val rfl rfl (ix_map_ok T rfl rfl rfl rfl rfl (getI_drop hd4) rfl) ?_
      refine AO.pure T rfl rfl rfl ?_
      refine AO.pure T rfl rfl rfl ?_
      refine AO.pure T rfl rfl rfl ?_
      refine AO.nil ?_
      refine AW.cond (b := (y2 != v8)) rfl (fun hc => ?_) (fun hc => ?_)
      · replace hH := condT hc hH
        refine AW.seq ?_
        refine AW.region ?_
        refine AO.pure T rfl rfl rfl ?_
        refine AO.nil ?_
        refine AW.ret ?_
        cases someE hH
        exact ⟨trivial, _, [], rfl, .c (.c .v), by decide⟩
      · replace hH := condF hc hH
        refine AW.skip ?_
        refine AW.region ?_
        refine AO.pure T rfl rfl rfl ?_
        refine AO.val rfl rfl (arw_ok rfl rfl rfl rfl) ?_
        refine AO.pure T rfl rfl rfl ?_
        refine AO.nil ?_
        refine AW.region ?_
        refine AO.pure T rfl rfl rfl ?_
        refine AO.val rfl rfl (ar_ok rfl rfl rfl rfl (inI_succ hlt6 hb5)) ?_
        refine AO.pure T rfl rfl rfl ?_
        refine AO.nil ?_
        refine ⟨(k1 + 1, w64 (v8 + 1)), ⟨Nat.succ_le_of_lt hlt6, (by rw [drop_succ_of hd4]; exact hH)⟩, (by have := hlt6; dsimp only; omega), ?_⟩
        exact Le.cut 0 0 rfl (by repeat' (first | exact trivial | refine ⟨⟨_, rfl, rfl⟩, ?_⟩)) (by repeat' (first | exact trivial | refine ⟨⟨_, rfl, rfl⟩, ?_⟩)) rfl

def laws_heldLineS_l1 : List Line → Nat → Int → Option Int
  | [], k1, v16 =>
    some v16
  | y2 :: ys3, k1, v16 =>
    cond (y2.skater != v16)
      (some (-1))
      ((laws_heldIntS_p y2.events (w64 (v16 + 1))).bind fun x18 =>
      cond (decide (x18 < 0))
        (some (-1))
        ((laws_heldIntS_p y2.points x18).bind fun x20 =>
        cond (decide (x20 < 0))
          (some (-1))
          (laws_heldLineS_l1 ys3 (k1 + 1) x20)))
def laws_heldLineS_p (a : List Line) (k : Int) : Option Int :=
  laws_heldLineS_l1 a 0 k
theorem laws_heldLineS_ok (a : List Line) (k : Int) (r : Int) (hH : laws_heldLineS_p a k = some r) : SpecR Try.prog 81 [.s (List.map encLine a), .v (.int .i64 k)] (.v (.int .i64 r)) := by
  refine fn_ok T Try.func81 rfl (by decide) rfl ?_
  refine AW.seq ?_
  refine AW.region ?_
  refine AO.pure T rfl rfl rfl ?_
  refine AO.nil ?_
  refine AW.seq ?_
  refine AW.seq ?_
  refine AW.region ?_
  refine AO.pure T rfl rfl rfl ?_
  refine AO.nil ?_
  refine AW.block ?_
  refine AW.loopS (fun s : Nat × Int => (⟨[(0, .s (List.map encLine a)), (1, .v (.int .i64 s.2)), (5, .v (.int .i64 (s.1 : Int)))], [], 40, []⟩ : St)) (fun s => s.1 ≤ a.length ∧ laws_heldLineS_l1 (a.drop s.1) s.1 s.2 = some r) (fun s => a.length - s.1) (0, k) ⟨Nat.zero_le _, hH⟩ ?_ ?_
  · exact Le.cut 0 0 rfl (by repeat' (first | exact trivial | refine ⟨⟨_, rfl, rfl⟩, ?_⟩)) (by repeat' (first | exact trivial | refine ⟨⟨_, rfl, rfl⟩, ?_⟩)) rfl
  · rintro ⟨k1, v16⟩ ⟨hk, hH⟩
    replace hH : laws_heldLineS_l1 (a.drop k1) k1 v16 = some r := hH
    show AW _ _ _ (⟨[(0, .s (List.map encLine a)), (1, .v (.int .i64 v16)), (5, .v (.int .i64 (k1 : Int)))], [], 40, []⟩ : St)
    refine AW.boundM (t := 0) (l := a) rfl (fun hb5 => ?_)
    cases hd4 : a.drop k1 with
    | nil =>
      rw [hd4] at hH
      rw [laws_heldLineS_l1] at hH
      have hlt6 := drop_ge hd4
      refine AW.seq ?_
      refine AW.seq ?_
      refine AW.region ?_
      refine AO.pure T rfl rfl rfl ?_
      refine AO.pure T rfl rfl rfl ?_
      refine AO.val rfl rfl (len_map_ok T rfl rfl rfl) ?_
      refine AO.pure T rfl rfl rfl ?_
      refine AO.nil ?_
      refine AW.condF' (b := decide ((k1 : Int) < (a.length : Int))) rfl (rngF hlt6) ?_
      refine AW.exit ?_
      refine AW.seq ?_
      refine AW.region ?_
      refine AO.pure T rfl rfl rfl ?_
      refine AO.pure T rfl rfl rfl ?_
      refine AO.nil ?_
      refine AW.ret ?_
      cases someE hH
      exact ⟨trivial, _, [], rfl, .c (.c .v), by decide⟩
    | cons y2 ys3 =>
      rw [hd4] at hH
      rw [laws_heldLineS_l1] at hH
      have hlt6 := drop_lt hd4
      refine AW.seq ?_
      refine AW.seq ?_
      refine AW.region ?_
      refine AO.pure T rfl rfl rfl ?_
      refine AO.pure T rfl rfl rfl ?_
      refine AO.val rfl rfl (len_map_ok T rfl rfl rfl) ?_
      refine AO.pure T rfl rfl rfl ?_
      refine AO.nil ?_
      refine AW.condT' (b := decide ((k1 : Int) < (a.length : Int))) rfl (rngT hlt6) ?_
      refine AW.skip ?_
      refine AW.seq ?_
      refine AW.block ?_
      refine AW.seq ?_
      refine AW.seq ?_
      refine AW.region ?_
      refine AO.pure T rfl rfl rfl ?_
      refine AO.pure T rfl rfl rfl ?_
      refine AO.val rfl rfl (ix_map_ok T rfl rfl rfl rfl rfl (getI_drop hd4) rfl) ?_
      refine AO.pure T rfl rfl rfl ?_
      refine AO.pure T rfl rfl rfl ?_
      refine AO.pure T rfl rfl rfl ?_
      refine AO.pure T rfl rfl rfl ?_
      refine AO.nil ?_
      refine AW.cond (b := (y2.skater != v16)) rfl (fun hc => ?_) (fun hc => ?_)
      · replace hH := condT hc hH
        refine AW.seq ?_
        refine AW.region ?_
        refine AO.pure T rfl rfl rfl ?_
        refine AO.nil ?_
        refine AW.ret ?_
        cases someE hH
        exact ⟨trivial, _, [], rfl, .c (.c .v), by decide⟩
      · replace hH := condF hc hH
        refine AW.skip ?_
        refine AW.seq ?_
        refine AW.region ?_
        refine AO.pure T rfl rfl rfl ?_
        refine AO.val rfl rfl (arw_ok rfl rfl rfl rfl) ?_
        refine AO.pure T rfl rfl rfl ?_
        refine AO.nil ?_
        refine AW.seq ?_
        obtain ⟨x18, hx19, hH⟩ := bindE hH
        refine AW.region ?_
        refine AO.pure T rfl rfl rfl ?_
        refine AO.pure T rfl rfl rfl ?_
        refine AO.val rfl rfl (ix_map_ok T rfl rfl rfl rfl rfl (getI_drop hd4) rfl) ?_
        refine AO.pure T rfl rfl rfl ?_
        refine AO.pure T rfl rfl rfl ?_
        refine AO.pure T rfl rfl rfl ?_
        refine AO.val rfl rfl (callV_ok rfl rfl rfl rfl (laws_heldIntS_ok _ _ _ (hx19)) rfl) ?_
        refine AO.pure T rfl rfl rfl ?_
        refine AO.nil ?_
        refine AW.seq ?_
        refine AW.seq ?_
        refine AW.region ?_
        refine AO.pure T rfl rfl rfl ?_
        refine AO.pure T rfl rfl rfl ?_
        refine AO.nil ?_
        refine AW.le (Le.cut 0 0 (σ' := (⟨[(0, .s (List.map encLine a)), (1, .v (.int .i64 x18)), (5, .v (.int .i64 (k1 : Int))), (29, .v (.bool (decide (x18 < 0))))], [], 40, []⟩ : St)) rfl (by repeat' (first | exact trivial | refine ⟨⟨_, rfl, rfl⟩, ?_⟩)) (by repeat' (first | exact trivial | refine ⟨⟨_, rfl, rfl⟩, ?_⟩)) rfl) ?_
        refine AW.cond (b := decide (x18 < 0)) rfl (fun hc => ?_) (fun hc => ?_)
        · replace hH := condT hc hH
          refine AW.seq ?_
          refine AW.region ?_
          refine AO.pure T rfl rfl rfl ?_
          refine AO.nil ?_
          refine AW.ret ?_
          cases someE hH
          exact ⟨trivial, _, [], rfl, .c (.c .v), by decide⟩
        · replace hH := condF hc hH
          refine AW.skip ?_
          refine AW.seq ?_
          obtain ⟨x20, hx21, hH⟩ := bindE hH
          refine AW.region ?_
          refine AO.pure T rfl rfl rfl ?_
          refine AO.pure T rfl rfl rfl ?_
          refine AO.val rfl rfl (ix_map_ok T rfl rfl rfl rfl rfl (getI_drop hd4) rfl) ?_
          refine AO.pure T rfl rfl rfl ?_
          refine AO.pure T rfl rfl rfl ?_
          refine AO.pure T rfl rfl rfl ?_
          refine AO.val rfl rfl (callV_ok rfl rfl rfl rfl (laws_heldIntS_ok _ _ _ (hx21)) rfl) ?_
          refine AO.pure T rfl rfl rfl ?_
          refine AO.nil ?_
          refine AW.seq ?_
          refine AW.region ?_
          refine AO.pure T rfl rfl rfl ?_
          refine AO.pure T rfl rfl rfl ?_
          refine AO.nil ?_
          refine AW.cond (b := decide (x20 < 0)) rfl (fun hc => ?_) (fun hc => ?_)
          · replace hH := condT hc hH
            refine AW.seq ?_
            refine AW.region ?_
            refine AO.pure T rfl rfl rfl ?_
            refine AO.nil ?_
            refine AW.ret ?_
            cases someE hH
            exact ⟨trivial, _, [], rfl, .c (.c .v), by decide⟩
          · replace hH := condF hc hH
            refine AW.skip ?_
            refine AW.region ?_
            refine AO.pure T rfl rfl rfl ?_
            refine AO.val rfl rfl (ar_ok rfl rfl rfl rfl (inI_succ hlt6 hb5)) ?_
            refine AO.pure T rfl rfl rfl ?_
            refine AO.nil ?_
            refine ⟨(k1 + 1, x20), ⟨Nat.succ_le_of_lt hlt6, (by rw [drop_succ_of hd4]; exact hH)⟩, (by have := hlt6; dsimp only; omega), ?_⟩
            exact Le.cut 0 0 rfl (by repeat' (first | exact trivial | refine ⟨⟨_, rfl, rfl⟩, ?_⟩)) (by repeat' (first | exact trivial | refine ⟨⟨_, rfl, rfl⟩, ?_⟩)) rfl

def laws_heldSeason_p (a : Season) (k : Int) : Option Int :=
  (laws_heldLineS_p a.lines k).bind fun x1 =>
  cond (decide (x1 < 0))
    (some (-1))
    (some x1)
theorem laws_heldSeason_ok (a : Season) (k : Int) (r : Int) (hH : laws_heldSeason_p a k = some r) : SpecR Try.prog 36 [.g (encSeason a), .v (.int .i64 k)] (.v (.int .i64 r)) := by
  refine fn_ok T Try.func36 rfl (by decide) rfl ?_
  refine AW.seq ?_
  refine AW.region ?_
  refine AO.step rfl (box_ok T rfl 1 rfl rfl rfl rfl) ?_
  refine AO.pure T rfl rfl rfl ?_
  refine AO.nil ?_
  refine AW.seq ?_
  obtain ⟨x1, hx2, hH⟩ := bindE hH
  refine AW.region ?_
  refine AO.pure T rfl rfl rfl ?_
  refine AO.pure T rfl rfl rfl ?_
  refine AO.pure T rfl rfl rfl ?_
  refine AO.val rfl rfl (callV_ok rfl rfl rfl rfl (laws_heldLineS_ok _ _ _ (hx2)) rfl) ?_
  refine AO.pure T rfl rfl rfl ?_
  refine AO.nil ?_
  refine AW.seq ?_
  refine AW.seq ?_
  refine AW.region ?_
  refine AO.pure T rfl rfl rfl ?_
  refine AO.pure T rfl rfl rfl ?_
  refine AO.nil ?_
  refine AW.cond (b := decide (x1 < 0)) rfl (fun hc => ?_) (fun hc => ?_)
  · replace hH := condT hc hH
    refine AW.seq ?_
    refine AW.region ?_
    refine AO.pure T rfl rfl rfl ?_
    refine AO.nil ?_
    refine AW.ret ?_
    cases someE hH
    exact ⟨trivial, _, [], rfl, .c (.c .v), by decide⟩
  · replace hH := condF hc hH
    refine AW.skip ?_
    refine AW.seq ?_
    refine AW.region ?_
    refine AO.pure T rfl rfl rfl ?_
    refine AO.pure T rfl rfl rfl ?_
    refine AO.nil ?_
    refine AW.ret ?_
    cases someE hH
    exact ⟨trivial, _, [], rfl, .c (.c .v), by decide⟩

def laws_FnExactFreshSeason_p (fuel : Nat) (aBest : Int) (aL : List Entry) : Option Bool :=
  (laws_szEntryS_p aL 1048576).bind fun x1 =>
  cond (decide (x1 < 0))
    (some true)
    ((laws_toEntryS_p aL).bind fun x3 =>
    (spec_FreshSeason_p fuel aBest x3).bind fun x5 =>
    (impl_FreshSeason_p aBest x3).bind fun x7 =>
    (laws_eqSeason_p (Season.mk x7.1.best x7.1.lines) (Season.mk x5.1.best x5.1.lines)).bind fun x9 =>
    cond ((!x9) || (!(x7.2 == x5.2)))
      (some false)
      ((laws_eqEntryS_p x3 x3).bind fun x11 =>
      cond (!x11)
        (some false)
        ((laws_markEntryS_p fuel x3 1).bind fun x13 =>
        cond ((decide (x13.2 < 0) || (!x9)) || (!(x7.2 == x5.2)))
          (some false)
          ((laws_markSeason_p fuel (Season.mk x7.1.best x7.1.lines) 1).bind fun x15 =>
          (laws_heldSeason_p (Season.mk x7.1.best x15.1.lines) 1).bind fun x17 =>
          cond (decide (x17 < 0))
            (some false)
            (cond (x17 != x15.2)
              (some false)
              (cond ((!x9) || (!(x7.2 == x5.2)))
                (some false)
                (cond (decide (x17 < 0))
                  (some false)
                  (cond (x17 != x15.2)
                    (some false)
                    (some true)))))))))
theorem laws_FnExactFreshSeason_ok (fuel : Nat) (aBest : Int) (aL : List Entry) (r : Bool) (hH : laws_FnExactFreshSeason_p fuel aBest aL = some r) : SpecR Try.prog 7 [.v (.int .i64 aBest), .s (List.map encEntry aL)] (.v (.bool r)) := by
  refine fn_ok T Try.func7 rfl (by decide) rfl ?_
  refine AW.seq ?_
  refine AW.region ?_
  refine AO.pure T rfl rfl rfl ?_
  refine AO.nil ?_
  refine AW.seq ?_
  refine AW.region ?_
  refine AO.pure T rfl rfl rfl ?_
  refine AO.nil ?_
  refine AW.seq ?_
  obtain ⟨x1, hx2, hH⟩ := bindE hH
  refine AW.region ?_
  refine AO.pure T rfl rfl rfl ?_
  refine AO.pure T rfl rfl rfl ?_
  refine AO.val rfl rfl (callV_ok rfl rfl rfl rfl (laws_szEntryS_ok _ _ _ (hx2)) rfl) ?_
  refine AO.pure T rfl rfl rfl ?_
  refine AO.nil ?_
  refine AW.seq ?_
  refine AW.seq ?_
  refine AW.region ?_
  refine AO.pure T rfl rfl rfl ?_
  refine AO.pure T rfl rfl rfl ?_
  refine AO.nil ?_
  refine AW.cond (b := decide (x1 < 0)) rfl (fun hc => ?_) (fun hc => ?_)
  · replace hH := condT hc hH
    refine AW.seq ?_
    refine AW.region ?_
    refine AO.pure T rfl rfl rfl ?_
    refine AO.nil ?_
    refine AW.ret ?_
    cases someE hH
    exact ⟨trivial, _, [], rfl, .c (.c .v), by decide⟩
  · replace hH := condF hc hH
    refine AW.skip ?_
    refine AW.seq ?_
    obtain ⟨x3, hx4, hH⟩ := bindE hH
    obtain ⟨x5, hx6, hH⟩ := bindE hH
    refine AW.region ?_
    refine AO.pure T rfl rfl rfl ?_
    refine AO.pure T rfl rfl rfl ?_
    refine AO.val rfl rfl (callF_ok rfl rfl rfl rfl (laws_toEntryS_ok _ _ (hx4)) (.c (.c (.map fun y => .vs rfl)))) ?_
    refine AO.step rfl (call_ok rfl 1 rfl rfl rfl (spec_FreshSeason_ok fuel _ _ _ (hx6)) rfl rfl rfl) ?_
    refine AO.pure T rfl rfl rfl ?_
    refine AO.pure T rfl rfl rfl ?_
    refine AO.pure T rfl rfl rfl ?_
    refine AO.step rfl (alloc_ok T rfl 2 rfl rfl rfl rfl rfl) ?_
    refine AO.step rfl (store_ok T rfl rfl rfl rfl rfl rfl rfl rfl rfl) ?_
    refine AO.pure T rfl rfl rfl ?_
    refine AO.nil ?_
    refine AW.seq ?_
    refine AW.region ?_
    refine AO.pure T rfl rfl rfl ?_
    refine AO.step rfl (call_ok rfl 3 rfl rfl rfl (laws_toEntryS_ok _ _ (hx4)) rfl rfl rfl) ?_
    refine AO.pure T rfl rfl rfl ?_
    refine AO.nil ?_
    refine AW.seq ?_
    obtain ⟨x7, hx8, hH⟩ := bindE hH
    refine AW.region ?_
    refine AO.pure T rfl rfl rfl ?_
    refine AO.pure T rfl rfl rfl ?_
    refine AO.step rfl (callL_ok rfl 4 rfl rfl (es := [.v (.int .i64 aBest), .s (List.map encEntry x3)]) (by exact ⟨.free rfl, (.rowR rfl (.map fun y => .vs rfl)), trivial⟩) (impl_FreshSeason_ok _ _ _ (hx8)) (zfree_t (zfl (.cons (zfree_g (zfl (.cons (zfree_v _) (.cons (zfree_map (fun y => (.cons (zfree_v _) (.cons (zfree_map (fun y => (.cons (zfree_v _) .nil))) (.cons (zfree_map (fun y => (.cons (zfree_v _) .nil))) .nil))))) .nil)))) (.cons (zfree_v _) .nil)))) rfl rfl rfl) ?_
    refine AO.pure T rfl rfl rfl ?_
    refine AO.pure T rfl rfl rfl ?_
    refine AO.pure T rfl rfl rfl ?_
    refine AO.step rfl (alloc_ok T rfl 5 rfl rfl rfl rfl rfl) ?_
    refine AO.step rfl (store_ok T rfl rfl rfl rfl rfl rfl rfl rfl rfl) ?_
    refine AO.pure T rfl rfl rfl ?_
    refine AO.nil ?_
    refine AW.le (Le.cut 0 0 (σ' := (⟨[(0, .v (.int .i64 aBest)), (1, .s (List.map encEntry aL)), (6, .p 2 0), (7, .v (.bool x5.2)), (8, .R 3), (9, .p 5 0), (10, .v (.bool x7.2))], [(1, .row 3 (List.map encLine x5.1.lines)), (2, .box [.v (.int .i64 x5.1.best), .R 1]), (3, .row 3 (List.map encEntry x3)), (4, .row 3 (List.map encLineO x7.1.lines)), (5, .box [.v (.int .i64 x7.1.best), .R 4])], 101, []⟩ : St)) rfl (by repeat' (first | exact trivial | refine ⟨⟨_, rfl, rfl⟩, ?_⟩)) (by repeat' (first | exact trivial | refine ⟨⟨_, rfl, rfl⟩, ?_⟩)) rfl) ?_
    refine AW.seq ?_
    refine AW.seq ?_
    obtain ⟨x9, hx10, hH⟩ := bindE hH
    refine AW.region ?_
    refine AO.pure T rfl rfl rfl ?_
    refine AO.pure T rfl rfl rfl ?_
    refine AO.val rfl rfl (callLV_ok rfl rfl rfl (es := [.g (encSeason (Season.mk x7.1.best x7.1.lines)), .g (encSeason (Season.mk x5.1.best x5.1.lines))]) ⟨lend_g (LendL.cons (.free rfl) (LendL.cons ((.rowR rfl (.map fun y => frzLine y))) LendL.nil)), lend_g (LendL.cons (.free rfl) (LendL.cons ((.rowR rfl (.map fun y => .vs rfl))) LendL.nil)), trivial⟩ (laws_eqSeason_ok _ _ _ (hx10)) (zfree_v _) rfl) ?_
    refine AO.pure T rfl rfl rfl ?_
    refine AO.pure T rfl rfl rfl ?_
    refine AO.pureG T [] rfl trivial rfl rfl ?_
    refine AO.pureG T [] rfl trivial rfl rfl ?_
    refine AO.pureG T [41, 42] rfl ⟨fun h => h, fun h => h, trivial⟩ rfl rfl ?_
    refine AO.val rfl rfl (pick_or rfl rfl rfl rfl) ?_
    refine AO.nil ?_
    refine AW.cond (b := ((!x9) || (!(x7.2 == x5.2)))) rfl (fun hc => ?_) (fun hc => ?_)
    · replace hH := condT hc hH
      refine AW.seq ?_
      refine AW.region ?_
      refine AO.pure T rfl rfl rfl ?_
      refine AO.nil ?_
      refine AW.ret ?_
      cases someE hH
      exact ⟨trivial, _, [], rfl, .c (.c .v), by decide⟩
    · replace hH := condF hc hH
      refine AW.skip ?_
      refine AW.seq ?_
      refine AW.seq ?_
      obtain ⟨x11, hx12, hH⟩ := bindE hH
      refine AW.region ?_
      refine AO.pure T rfl rfl rfl ?_
      refine AO.pure T rfl rfl rfl ?_
      refine AO.step rfl (call_ok rfl 6 rfl rfl rfl (laws_toEntryS_ok _ _ (hx4)) rfl rfl rfl) ?_
      refine AO.val rfl rfl (callLV_ok rfl rfl rfl (es := [.s (List.map encEntry x3), .s (List.map encEntry x3)]) ⟨(.rowR rfl (.map fun y => .vs rfl)), (.rowR rfl (.map fun y => .vs rfl)), trivial⟩ (laws_eqEntryS_ok _ _ _ (hx12)) (zfree_v _) rfl) ?_
      refine AO.pure T rfl rfl rfl ?_
      refine AO.nil ?_
      refine AW.cond (b := (!x11)) rfl (fun hc => ?_) (fun hc => ?_)
      · replace hH := condT hc hH
        refine AW.seq ?_
        refine AW.region ?_
        refine AO.pure T rfl rfl rfl ?_
        refine AO.nil ?_
        refine AW.ret ?_
        cases someE hH
        exact ⟨trivial, _, [], rfl, .c (.c .v), by decide⟩
      · replace hH := condF hc hH
        refine AW.skip ?_
        refine AW.seq ?_
        refine AW.region ?_
        refine AO.pure T rfl rfl rfl ?_
        refine AO.nil ?_
        refine AW.seq ?_
        obtain ⟨x13, hx14, hH⟩ := bindE hH
        refine AW.region ?_
        refine AO.pure T rfl rfl rfl ?_
        refine AO.pure T rfl rfl rfl ?_
        refine AO.step rfl (callM_ok rfl 7 rfl rfl (es := [.w 3 (x3.map encEntry), .v (.int .i64 1)]) (outs := [.w 3 (x13.1.map encEntry), .u]) (ids := [3]) (by exact expLG_cons (.c (.rowR rfl)) (expLG_cons (.c .v) (expLG_nil))) (by decide) (.inl (by rfl)) (by rfl) (laws_markEntryS_ok fuel _ _ _ (hx14)) rfl (by rfl) rfl) ?_
        refine AO.pure T rfl rfl rfl ?_
        refine AO.nil ?_
        refine AW.seq ?_
        refine AW.seq ?_
        refine AW.region ?_
        refine AO.pure T rfl rfl rfl ?_
        refine AO.pure T rfl rfl rfl ?_
        refine AO.pure T rfl rfl rfl ?_
        refine AO.pureG T [] rfl trivial rfl rfl ?_
        refine AO.pureG T [] rfl trivial rfl rfl ?_
        refine AO.guard [56, 57] rfl ⟨fun h => h, fun h => h, trivial⟩ (fun hg => callLV_ok rfl rfl rfl (es := [.g (encSeason (Season.mk x7.1.best x7.1.lines)), .g (encSeason (Season.mk x5.1.best x5.1.lines))]) ⟨lend_g (LendL.cons (.free rfl) (LendL.cons ((.rowR rfl (.map fun y => frzLine y))) LendL.nil)), lend_g (LendL.cons (.free rfl) (LendL.cons ((.rowR rfl (.map fun y => .vs rfl))) LendL.nil)), trivial⟩ (laws_eqSeason_ok _ _ _ (hx10)) (zfree_v _) rfl) rfl ?_
        refine AO.pureG T [58] rfl ⟨fun h => h, trivial⟩ rfl rfl ?_
        refine AO.val rfl rfl (pick_or rfl rfl rfl rfl) ?_
        refine AO.pure T rfl rfl rfl ?_
        refine AO.pureG T [] rfl trivial rfl rfl ?_
        refine AO.pureG T [] rfl trivial rfl rfl ?_
        refine AO.pureG T [62, 63] rfl ⟨fun h => h, fun h => h, trivial⟩ rfl rfl ?_
        refine AO.val rfl rfl (pick_or rfl rfl rfl rfl) ?_
        refine AO.nil ?_
        refine AW.le (Le.cut 0 0 (σ' := (⟨[(0, .v (.int .i64 aBest)), (1, .s (List.map encEntry aL)), (6, .p 2 0), (7, .v (.bool x5.2)), (9, .p 5 0), (65, .v (.bool ((decide (x13.2 < 0) || (!x9)) || (!(x7.2 == x5.2)))))], [(1, .row 3 (List.map encLine x5.1.lines)), (2, .box [.v (.int .i64 x5.1.best), .R 1]), (4, .row 3 (List.map encLineO x7.1.lines)), (5, .box [.v (.int .i64 x7.1.best), .R 4])], 101, []⟩ : St)) rfl (by repeat' (first | exact trivial | refine ⟨⟨_, rfl, rfl⟩, ?_⟩)) (by repeat' (first | exact trivial | refine ⟨⟨_, rfl, rfl⟩, ?_⟩)) rfl) ?_
        refine AW.cond (b := ((decide (x13.2 < 0) || (!x9)) || (!(x7.2 == x5.2)))) rfl (fun hc => ?_) (fun hc => ?_)
        · replace hH := condT hc hH
          refine AW.seq ?_
          refine AW.region ?_
          refine AO.pure T rfl rfl rfl ?_
          refine AO.nil ?_
          refine AW.ret ?_
          cases someE hH
          exact ⟨trivial, _, [], rfl, .c (.c .v), by decide⟩
        · replace hH := condF hc hH
          refine AW.skip ?_
          refine AW.seq ?_
          refine AW.region ?_
          refine AO.pure T rfl rfl rfl ?_
          refine AO.nil ?_
          refine AW.seq ?_
          obtain ⟨x15, hx16, hH⟩ := bindE hH
          refine AW.region ?_
          refine AO.pure T rfl rfl rfl ?_
          refine AO.pure T rfl rfl rfl ?_
          refine AO.step rfl (callM_ok rfl 7 rfl rfl (es := [.g (encSeasonO (Season.mk x7.1.best x7.1.lines)), .v (.int .i64 1)]) (outs := [.g [.u, .w 3 (x15.1.lines.map encLineO)], .u]) (ids := [4]) (by exact expLG_cons (.g (expLC_cons .v (expLC_cons (.rowR rfl) (expLC_nil)))) (expLG_cons (.c .v) (expLG_nil))) (by decide) (.inl (by rfl)) (by rfl) (laws_markSeason_ok fuel _ _ _ (hx16)) rfl (by rfl) rfl) ?_
          refine AO.pure T rfl rfl rfl ?_
          refine AO.nil ?_
          refine AW.seq ?_
          refine AW.region ?_
          refine AO.pure T rfl rfl rfl ?_
          refine AO.nil ?_
          refine AW.seq ?_
          obtain ⟨x17, hx18, hH⟩ := bindE hH
          refine AW.region ?_
          refine AO.pure T rfl rfl rfl ?_
          refine AO.pure T rfl rfl rfl ?_
          refine AO.val rfl rfl (callLV_ok rfl rfl rfl (es := [.g (encSeason (Season.mk x7.1.best x15.1.lines)), .v (.int .i64 1)]) ⟨lend_g (LendL.cons (.free rfl) (LendL.cons ((.rowR rfl (.map fun y => frzLine y))) LendL.nil)), .free rfl, trivial⟩ (laws_heldSeason_ok _ _ _ (hx18)) (zfree_v _) rfl) ?_
          refine AO.pure T rfl rfl rfl ?_
          refine AO.nil ?_
          refine AW.seq ?_
          refine AW.seq ?_
          refine AW.region ?_
          refine AO.pure T rfl rfl rfl ?_
          refine AO.pure T rfl rfl rfl ?_
          refine AO.nil ?_
          refine AW.cond (b := decide (x17 < 0)) rfl (fun hc => ?_) (fun hc => ?_)
          · replace hH := condT hc hH
            refine AW.seq ?_
            refine AW.region ?_
            refine AO.pure T rfl rfl rfl ?_
            refine AO.nil ?_
            refine AW.ret ?_
            cases someE hH
            exact ⟨trivial, _, [], rfl, .c (.c .v), by decide⟩
          · replace hH := condF hc hH
            refine AW.skip ?_
            refine AW.seq ?_
            refine AW.seq ?_
            refine AW.region ?_
            refine AO.pure T rfl rfl rfl ?_
            refine AO.pure T rfl rfl rfl ?_
            refine AO.pure T rfl rfl rfl ?_
            refine AO.nil ?_
            refine AW.cond (b := (x17 != x15.2)) rfl (fun hc => ?_) (fun hc => ?_)
            · replace hH := condT hc hH
              refine AW.seq ?_
              refine AW.region ?_
              refine AO.pure T rfl rfl rfl ?_
              refine AO.nil ?_
              refine AW.ret ?_
              cases someE hH
              exact ⟨trivial, _, [], rfl, .c (.c .v), by decide⟩
            · replace hH := condF hc hH
              refine AW.skip ?_
              refine AW.seq ?_
              refine AW.region ?_
              refine AO.pure T rfl rfl rfl ?_
              refine AO.pure T rfl rfl rfl ?_
              refine AO.step rfl (call_ok rfl 7 rfl rfl rfl (laws_toEntryS_ok _ _ (hx4)) rfl rfl rfl) ?_
              refine AO.step rfl (callL_ok rfl 8 rfl rfl (es := [.v (.int .i64 aBest), .s (List.map encEntry x3)]) (by exact ⟨.free rfl, (.rowR rfl (.map fun y => .vs rfl)), trivial⟩) (impl_FreshSeason_ok _ _ _ (hx8)) (zfree_t (zfl (.cons (zfree_g (zfl (.cons (zfree_v _) (.cons (zfree_map (fun y => (.cons (zfree_v _) (.cons (zfree_map (fun y => (.cons (zfree_v _) .nil))) (.cons (zfree_map (fun y => (.cons (zfree_v _) .nil))) .nil))))) .nil)))) (.cons (zfree_v _) .nil)))) rfl rfl rfl) ?_
              refine AO.pure T rfl rfl rfl ?_
              refine AO.pure T rfl rfl rfl ?_
              refine AO.pure T rfl rfl rfl ?_
              refine AO.step rfl (alloc_ok T rfl 9 rfl rfl rfl rfl rfl) ?_
              refine AO.step rfl (store_ok T rfl rfl rfl rfl rfl rfl rfl rfl rfl) ?_
              refine AO.pure T rfl rfl rfl ?_
              refine AO.nil ?_
              refine AW.le (Le.cut 0 0 (σ' := (⟨[(6, .p 2 0), (7, .v (.bool x5.2)), (9, .p 5 0), (12, .v (.int .i64 x15.2)), (14, .p 9 0), (15, .v (.bool x7.2))], [(1, .row 3 (List.map encLine x5.1.lines)), (2, .box [.v (.int .i64 x5.1.best), .R 1]), (4, .row 3 (List.map encLineO x15.1.lines)), (5, .box [.v (.int .i64 x7.1.best), .R 4]), (8, .row 3 (List.map encLineO x7.1.lines)), (9, .box [.v (.int .i64 x7.1.best), .R 8])], 101, []⟩ : St)) rfl (by repeat' (first | exact trivial | refine ⟨⟨_, rfl, rfl⟩, ?_⟩)) (by repeat' (first | exact trivial | refine ⟨⟨_, rfl, rfl⟩, ?_⟩)) rfl) ?_
              refine AW.seq ?_
              refine AW.seq ?_
              refine AW.region ?_
              refine AO.pure T rfl rfl rfl ?_
              refine AO.pure T rfl rfl rfl ?_
              refine AO.val rfl rfl (callLV_ok rfl rfl rfl (es := [.g (encSeason (Season.mk x7.1.best x7.1.lines)), .g (encSeason (Season.mk x5.1.best x5.1.lines))]) ⟨lend_g (LendL.cons (.free rfl) (LendL.cons ((.rowR rfl (.map fun y => frzLine y))) LendL.nil)), lend_g (LendL.cons (.free rfl) (LendL.cons ((.rowR rfl (.map fun y => .vs rfl))) LendL.nil)), trivial⟩ (laws_eqSeason_ok _ _ _ (hx10)) (zfree_v _) rfl) ?_
              refine AO.pure T rfl rfl rfl ?_
              refine AO.pure T rfl rfl rfl ?_
              refine AO.pureG T [] rfl trivial rfl rfl ?_
              refine AO.pureG T [] rfl trivial rfl rfl ?_
              refine AO.pureG T [89, 90] rfl ⟨fun h => h, fun h => h, trivial⟩ rfl rfl ?_
              refine AO.val rfl rfl (pick_or rfl rfl rfl rfl) ?_
              refine AO.nil ?_
              refine AW.cond (b := ((!x9) || (!(x7.2 == x5.2)))) rfl (fun hc => ?_) (fun hc => ?_)
              · replace hH := condT hc hH
                refine AW.seq ?_
                refine AW.region ?_
                refine AO.pure T rfl rfl rfl ?_
                refine AO.nil ?_
                refine AW.ret ?_
                cases someE hH
                exact ⟨trivial, _, [], rfl, .c (.c .v), by decide⟩
              · replace hH := condF hc hH
                refine AW.skip ?_
                refine AW.seq ?_
                refine AW.region ?_
                refine AO.pure T rfl rfl rfl ?_
                refine AO.nil ?_
                refine AW.seq ?_
                refine AW.region ?_
                refine AO.pure T rfl rfl rfl ?_
                refine AO.pure T rfl rfl rfl ?_
                refine AO.val rfl rfl (callLV_ok rfl rfl rfl (es := [.g (encSeason (Season.mk x7.1.best x15.1.lines)), .v (.int .i64 1)]) ⟨lend_g (LendL.cons (.free rfl) (LendL.cons ((.rowR rfl (.map fun y => frzLine y))) LendL.nil)), .free rfl, trivial⟩ (laws_heldSeason_ok _ _ _ (hx18)) (zfree_v _) rfl) ?_
                refine AO.pure T rfl rfl rfl ?_
                refine AO.nil ?_
                refine AW.seq ?_
                refine AW.seq ?_
                refine AW.region ?_
                refine AO.pure T rfl rfl rfl ?_
                refine AO.pure T rfl rfl rfl ?_
                refine AO.nil ?_
                refine AW.cond (b := decide (x17 < 0)) rfl (fun hc => ?_) (fun hc => ?_)
                · replace hH := condT hc hH
                  refine AW.seq ?_
                  refine AW.region ?_
                  refine AO.pure T rfl rfl rfl ?_
                  refine AO.nil ?_
                  refine AW.ret ?_
                  cases someE hH
                  exact ⟨trivial, _, [], rfl, .c (.c .v), by decide⟩
                · replace hH := condF hc hH
                  refine AW.skip ?_
                  refine AW.seq ?_
                  refine AW.seq ?_
                  refine AW.region ?_
                  refine AO.pure T rfl rfl rfl ?_
                  refine AO.pure T rfl rfl rfl ?_
                  refine AO.pure T rfl rfl rfl ?_
                  refine AO.nil ?_
                  refine AW.cond (b := (x17 != x15.2)) rfl (fun hc => ?_) (fun hc => ?_)
                  · replace hH := condT hc hH
                    refine AW.seq ?_
                    refine AW.region ?_
                    refine AO.pure T rfl rfl rfl ?_
                    refine AO.nil ?_
                    refine AW.ret ?_
                    cases someE hH
                    exact ⟨trivial, _, [], rfl, .c (.c .v), by decide⟩
                  · replace hH := condF hc hH
                    refine AW.skip ?_
                    refine AW.seq ?_
                    refine AW.region ?_
                    refine AO.pure T rfl rfl rfl ?_
                    refine AO.nil ?_
                    refine AW.ret ?_
                    cases someE hH
                    exact ⟨trivial, _, [], rfl, .c (.c .v), by decide⟩

end Go.Proofs.Ytfgpeaiepfdemaa

/- The walk, part 1: what each function reached by the law FnExactNewEvent computes. No condition. -/
import Derived.Test.YtegfbpakicohhaaAm6
import Derived.Test.YtegfbpakicohhaaProg
set_option maxRecDepth 4000
set_option maxHeartbeats 1000000
set_option linter.unusedVariables false
set_option linter.unusedSimpArgs false
set_option linter.unusedSectionVars false

namespace Go.Proofs.Ytegfbpakicohhaa
open Go.AM
def teL : List (Option TI) := [
  none,
  none,
  some ⟨.int .i64, 1, 8, some (.int .i64 0)⟩,
  some ⟨.int .i64, 1, 8, some (.int .i64 0)⟩,
  some ⟨.bool, 1, 1, some (.bool false)⟩,
  some ⟨.int .u8, 1, 1, some (.int .u8 0)⟩,
  some ⟨.int .u8, 1, 1, some (.int .u8 0)⟩,
  some ⟨.struct [(0, 2), (1, 3), (2, 4), (3, 6)], 4, 24, some (.agg #[.int .i64 0, .int .i64 0, .bool false, .int .u8 0])⟩,
  some ⟨.struct [(0, 2), (1, 3), (2, 4), (3, 6)], 4, 24, some (.agg #[.int .i64 0, .int .i64 0, .bool false, .int .u8 0])⟩,
  some ⟨.str, 1, 16, some (.string ⟨#[]⟩)⟩,
  some ⟨.str, 1, 16, some (.string ⟨#[]⟩)⟩,
  some ⟨.str, 1, 16, some (.string ⟨#[]⟩)⟩,
  some ⟨.int .u64, 1, 8, some (.int .u64 0)⟩,
  some ⟨.struct [(0, 9), (1, 12)], 2, 24, some (.agg #[.string ⟨#[]⟩, .int .u64 0])⟩,
  some ⟨.struct [(0, 9), (1, 12)], 2, 24, some (.agg #[.string ⟨#[]⟩, .int .u64 0])⟩,
  some ⟨.ptr 60, 1, 8, some (.pointer none)⟩,
  some ⟨.ptr 63, 1, 8, some (.pointer none)⟩,
  some ⟨.ptr 73, 1, 8, some (.pointer none)⟩,
  some ⟨.struct [(0, 17)], 1, 8, some (.agg #[.pointer none])⟩,
  some ⟨.struct [(0, 17)], 1, 8, some (.agg #[.pointer none])⟩,
  none,
  some ⟨.int .i32, 1, 4, some (.int .i32 0)⟩,
  some ⟨.slice 47, 1, 24, some (.slice none 0 0)⟩,
  some ⟨.slice 3, 1, 24, some (.slice none 0 0)⟩,
  some ⟨.slice 41, 1, 24, some (.slice none 0 0)⟩,
  some ⟨.struct [(0, 3), (1, 3), (2, 3), (3, 22), (4, 23), (5, 3), (6, 23), (7, 24)], 8, 128, some (.agg #[.int .i64 0, .int .i64 0, .int .i64 0, .slice none 0 0, .slice none 0 0, .int .i64 0, .slice none 0 0, .slice none 0 0])⟩,
  some ⟨.struct [(0, 3), (1, 3), (2, 3), (3, 22), (4, 23), (5, 3), (6, 23), (7, 24)], 8, 128, some (.agg #[.int .i64 0, .int .i64 0, .int .i64 0, .slice none 0 0, .slice none 0 0, .int .i64 0, .slice none 0 0, .slice none 0 0])⟩,
  none,
  none,
  none,
  none,
  none,
  none,
  none,
  none,
  none,
  none,
  none,
  none,
  none,
  some ⟨.struct [(0, 3), (1, 23)], 2, 32, some (.agg #[.int .i64 0, .slice none 0 0])⟩,
  some ⟨.struct [(0, 3), (1, 23)], 2, 32, some (.agg #[.int .i64 0, .slice none 0 0])⟩,
  none,
  none,
  none,
  none,
  some ⟨.struct [(0, 3), (1, 3)], 2, 16, some (.agg #[.int .i64 0, .int .i64 0])⟩,
  some ⟨.struct [(0, 3), (1, 3)], 2, 16, some (.agg #[.int .i64 0, .int .i64 0])⟩,
  none,
  none,
  none,
  none,
  none,
  none,
  none,
  none,
  none,
  none,
  none,
  some ⟨.struct [(0, 17), (1, 17), (2, 17), (3, 9)], 4, 40, some (.agg #[.pointer none, .pointer none, .pointer none, .string ⟨#[]⟩])⟩,
  some ⟨.struct [(0, 17), (1, 17), (2, 17), (3, 9)], 4, 40, some (.agg #[.pointer none, .pointer none, .pointer none, .string ⟨#[]⟩])⟩,
  some ⟨.array 0 16, 0, 0, some (.agg #[])⟩,
  some ⟨.struct [(0, 61)], 0, 0, some (.agg #[])⟩,
  some ⟨.struct [(0, 61)], 0, 0, some (.agg #[])⟩,
  none,
  some ⟨.int .u32, 1, 4, some (.int .u32 0)⟩,
  some ⟨.int .u8, 1, 1, some (.int .u8 0)⟩,
  some ⟨.int .u8, 1, 1, some (.int .u8 0)⟩,
  none,
  some ⟨.ptr 5, 1, 8, some (.pointer none)⟩,
  some ⟨.int .i32, 1, 4, some (.int .i32 0)⟩,
  some ⟨.int .i32, 1, 4, some (.int .i32 0)⟩,
  some ⟨.struct [(0, 12), (1, 12), (2, 65), (3, 66), (4, 5), (5, 5), (6, 67), (7, 68), (8, 69), (9, 70), (10, 71)], 11, 48, some (.agg #[.int .u64 0, .int .u64 0, .int .u32 0, .int .u8 0, .int .u8 0, .int .u8 0, .int .u8 0, .nilFunc, .pointer none, .int .i32 0, .int .i32 0])⟩,
  some ⟨.struct [(0, 12), (1, 12), (2, 65), (3, 66), (4, 5), (5, 5), (6, 67), (7, 68), (8, 69), (9, 70), (10, 71)], 11, 48, some (.agg #[.int .u64 0, .int .u64 0, .int .u32 0, .int .u8 0, .int .u8 0, .int .u8 0, .int .u8 0, .nilFunc, .pointer none, .int .i32 0, .int .i32 0])⟩,
  none]
def te : TE := teOf teL
theorem T : TEok Try.prog te := TEok_of (by kernel_rfl)
theorem mix : Try.prog.follows .mixedOrders = true := by kernel_rfl

def encInt (x : Int) : List D := [.v (.int .i64 x)]
def encBool (x : Bool) : List D := [.v (.bool x)]
def encStr (x : ByteArray) : List D := [.v (.string x)]
def encInt_u8 (x : Int) : List D := [.v (.int .u8 x)]
def encInt_u64 (x : Int) : List D := [.v (.int .u64 x)]
def encInt_i32 (x : Int) : List D := [.v (.int .i32 x)]
structure Entrant where
  skater : Int
  rank : Int
  deriving Inhabited, DecidableEq
def encEntrant (x : Entrant) : List D := [.v (.int .i64 x.skater), .v (.int .i64 x.rank)]
structure Result where
  skater : Int
  scores : List Int
  deriving Inhabited, DecidableEq
def encResult (x : Result) : List D := [.v (.int .i64 x.skater), .s (x.scores.map encInt)]
def encResultO (x : Result) : List D := [.v (.int .i64 x.skater), .w 1 (x.scores.map encInt)]
theorem frzResult (x : Result) : FrzL (encResultO x) (encResult x) := .cons (.vs rfl) (.cons (.map fun y => .vs rfl) (.nil))
structure Event where
  segments : Int
  size : Int
  key : Int
  entrants : List Entrant
  gone : List Int
  segment : Int
  order : List Int
  results : List Result
  deriving Inhabited, DecidableEq
def encEvent (x : Event) : List D := [.v (.int .i64 x.segments), .v (.int .i64 x.size), .v (.int .i64 x.key), .s (x.entrants.map encEntrant), .s (x.gone.map encInt), .v (.int .i64 x.segment), .s (x.order.map encInt), .s (x.results.map encResult)]
def encEventO (x : Event) : List D := [.v (.int .i64 x.segments), .v (.int .i64 x.size), .v (.int .i64 x.key), .w 2 (x.entrants.map encEntrant), .w 1 (x.gone.map encInt), .v (.int .i64 x.segment), .w 1 (x.order.map encInt), .w 2 (x.results.map encResultO)]
theorem frzEvent (x : Event) : FrzL (encEventO x) (encEvent x) := .cons (.vs rfl) (.cons (.vs rfl) (.cons (.vs rfl) (.cons (.map fun y => .vs rfl) (.cons (.map fun y => .vs rfl) (.cons (.vs rfl) (.cons (.map fun y => .vs rfl) (.cons (.map fun y => frzResult y) (.nil))))))))
def encEventH (x : Event) : List D := [.v (.int .i64 x.segments), .v (.int .i64 x.size), .v (.int .i64 x.key), .w 2 (x.entrants.map encEntrant), .w 1 (x.gone.map encInt), .v (.int .i64 x.segment), .w 1 (x.order.map encInt), .w 2 (x.results.map encResult)]
theorem frzHEvent (x : Event) : FrzL (encEventH x) (encEvent x) := .cons (.vs rfl) (.cons (.vs rfl) (.cons (.vs rfl) (.cons (.map fun y => .vs rfl) (.cons (.map fun y => .vs rfl) (.cons (.vs rfl) (.cons (.map fun y => .vs rfl) (.cons (.map fun y => .vs rfl) (.nil))))))))

def spec_l1In_p (n : Int) (lo : Int) (hi : Int) : Option Bool :=
  some (decide (n ≥ lo) && decide (n ≤ hi))
theorem spec_l1In_ok (n : Int) (lo : Int) (hi : Int) (r : Bool) (hH : spec_l1In_p n lo hi = some r) : SpecR Try.prog 28 [.v (.int .i64 n), .v (.int .i64 lo), .v (.int .i64 hi)] (.v (.bool r)) := by
  refine fn_ok T Try.func28 rfl (by decide) rfl ?_
  refine AW.seq ?_
  refine AW.region ?_
  refine AO.pure T rfl rfl rfl ?_
  refine AO.nil ?_
  refine AW.seq ?_
  refine AW.region ?_
  refine AO.pure T rfl rfl rfl ?_
  refine AO.pure T rfl rfl rfl ?_
  refine AO.pure T rfl rfl rfl ?_
  refine AO.pure T rfl rfl rfl ?_
  refine AO.pureG T [] rfl trivial rfl rfl ?_
  refine AO.pureG T [] rfl trivial rfl rfl ?_
  refine AO.pureG T [11, 12] rfl ⟨fun h => h, fun h => h, trivial⟩ rfl rfl ?_
  refine AO.val rfl rfl (pick_and rfl rfl rfl rfl) ?_
  refine AO.pure T rfl rfl rfl ?_
  refine AO.nil ?_
  refine AW.ret ?_
  cases someE hH
  exact ⟨trivial, _, [], rfl, .c (.c .v), by decide⟩

def spec_soSize_p (size : Int) : Option Bool :=
  (spec_l1In_p size 1 8).bind fun x1 =>
  some x1
theorem spec_soSize_ok (size : Int) (r : Bool) (hH : spec_soSize_p size = some r) : SpecR Try.prog 29 [.v (.int .i64 size)] (.v (.bool r)) := by
  refine fn_ok T Try.func29 rfl (by decide) rfl ?_
  refine AW.seq ?_
  refine AW.region ?_
  refine AO.pure T rfl rfl rfl ?_
  refine AO.nil ?_
  refine AW.seq ?_
  obtain ⟨x1, hx2, hH⟩ := bindE hH
  refine AW.region ?_
  refine AO.pure T rfl rfl rfl ?_
  refine AO.val rfl rfl (callV_ok rfl rfl rfl rfl (spec_l1In_ok _ _ _ _ (hx2)) rfl) ?_
  refine AO.pure T rfl rfl rfl ?_
  refine AO.nil ?_
  refine AW.ret ?_
  cases someE hH
  exact ⟨trivial, _, [], rfl, .c (.c .v), by decide⟩

def spec_l1Has_l1 (n : Int) : List Int → Nat → Option Bool
  | [], k1 =>
    some false
  | y2 :: ys3, k1 =>
    cond (y2 == n)
      (some true)
      (spec_l1Has_l1 n ys3 (k1 + 1))
def spec_l1Has_p (l : List Int) (n : Int) : Option Bool :=
  spec_l1Has_l1 n l 0
theorem spec_l1Has_ok (l : List Int) (n : Int) (r : Bool) (hH : spec_l1Has_p l n = some r) : SpecR Try.prog 35 [.s (List.map encInt l), .v (.int .i64 n)] (.v (.bool r)) := by
  refine fn_ok T Try.func35 rfl (by decide) rfl ?_
  refine AW.seq ?_
  refine AW.region ?_
  refine AO.pure T rfl rfl rfl ?_
  refine AO.nil ?_
  refine AW.seq ?_
  refine AW.seq ?_
  refine AW.region ?_
  refine AO.pure T rfl rfl rfl ?_
  refine AO.val rfl rfl (len_map_ok T rfl rfl rfl) ?_
  refine AO.pure T rfl rfl rfl ?_
  refine AO.nil ?_
  refine AW.block ?_
  refine AW.loopS (fun s : Nat => (⟨[(1, .v (.int .i64 n)), (7, .s (List.map encInt l)), (8, .v (.int .i64 (l.length : Int))), (9, .v (.int .i64 (s : Int)))], [], 17, []⟩ : St)) (fun s => s ≤ l.length ∧ spec_l1Has_l1 n (l.drop s) s = some r) (fun s => l.length - s) 0 ⟨Nat.zero_le _, hH⟩ ?_ ?_
  · exact Le.cut 0 0 rfl (by repeat' (first | exact trivial | refine ⟨⟨_, rfl, rfl⟩, ?_⟩)) (by repeat' (first | exact trivial | refine ⟨⟨_, rfl, rfl⟩, ?_⟩)) rfl
  · rintro k1 ⟨hk, hH⟩
    replace hH : spec_l1Has_l1 n (l.drop k1) k1 = some r := hH
    show AW _ _ _ (⟨[(1, .v (.int .i64 n)), (7, .s (List.map encInt l)), (8, .v (.int .i64 (l.length : Int))), (9, .v (.int .i64 (k1 : Int)))], [], 17, []⟩ : St)
    refine AW.boundM (t := 7) (l := l) rfl (fun hb5 => ?_)
    cases hd4 : l.drop k1 with
    | nil =>
      rw [hd4] at hH
      rw [spec_l1Has_l1] at hH
      have hlt6 := drop_ge hd4
      refine AW.seq ?_
      refine AW.region ?_
      refine AO.pure T rfl rfl rfl ?_
      refine AO.nil ?_
      refine AW.seq ?_
      refine AW.condF' (b := decide ((k1 : Int) < (l.length : Int))) rfl (rngF hlt6) ?_
      refine AW.exit ?_
      refine AW.seq ?_
      refine AW.region ?_
      refine AO.pure T rfl rfl rfl ?_
      refine AO.nil ?_
      refine AW.ret ?_
      cases someE hH
      exact ⟨trivial, _, [], rfl, .c (.c .v), by decide⟩
    | cons y2 ys3 =>
      rw [hd4] at hH
      rw [spec_l1Has_l1] at hH
      have hlt6 := drop_lt hd4
      refine AW.seq ?_
      refine AW.region ?_
      refine AO.pure T rfl rfl rfl ?_
      refine AO.nil ?_
      refine AW.seq ?_
      refine AW.condT' (b := decide ((k1 : Int) < (l.length : Int))) rfl (rngT hlt6) ?_
      refine AW.skip ?_
      refine AW.seq ?_
      refine AW.block ?_
      refine AW.seq ?_
      refine AW.region ?_
      refine AO.val rfl rfl (ix_map_ok T rfl rfl rfl rfl rfl (getI_drop hd4) rfl) ?_
      refine AO.pure T rfl rfl rfl ?_
      refine AO.pure T rfl rfl rfl ?_
      refine AO.nil ?_
      refine AW.seq ?_
      refine AW.region ?_
      refine AO.pure T rfl rfl rfl ?_
      refine AO.pure T rfl rfl rfl ?_
      refine AO.pure T rfl rfl rfl ?_
      refine AO.nil ?_
      refine AW.cond (b := (y2 == n)) rfl (fun hc => ?_) (fun hc => ?_)
      · replace hH := condT hc hH
        refine AW.seq ?_
        refine AW.region ?_
        refine AO.pure T rfl rfl rfl ?_
        refine AO.nil ?_
        refine AW.ret ?_
        cases someE hH
        exact ⟨trivial, _, [], rfl, .c (.c .v), by decide⟩
      · replace hH := condF hc hH
        refine AW.skip ?_
        refine AW.region ?_
        refine AO.val rfl rfl (ar_ok rfl rfl rfl rfl (inI_succ hlt6 hb5)) ?_
        refine AO.pure T rfl rfl rfl ?_
        refine AO.nil ?_
        refine ⟨k1 + 1, ⟨Nat.succ_le_of_lt hlt6, (by rw [drop_succ_of hd4]; exact hH)⟩, (by have := hlt6; dsimp only; omega), ?_⟩
        exact Le.cut 0 0 rfl (by repeat' (first | exact trivial | refine ⟨⟨_, rfl, rfl⟩, ?_⟩)) (by repeat' (first | exact trivial | refine ⟨⟨_, rfl, rfl⟩, ?_⟩)) rfl

def spec_soEntrants_l1 (l : List Entrant) : List Entrant → Nat → List Int → List Int → Option Bool
  | [], k1, v33, v34 =>
    some (decide ((l.length : Int) ≤ 40))
  | y2 :: ys3, k1, v33, v34 =>
    (spec_l1In_p y2.skater 1 999).bind fun x36 =>
    (opt (!(!x36)) default (spec_l1In_p y2.rank 0 999)).bind fun x38 =>
    (opt (!((!x36) || (!x38))) default (spec_l1Has_p v33 y2.skater)).bind fun x40 =>
    (opt ((!(((!x36) || (!x38)) || x40)) && decide (y2.rank > 0)) default (spec_l1Has_p v34 y2.rank)).bind fun x42 =>
    cond ((((!x36) || (!x38)) || x40) || (decide (y2.rank > 0) && x42))
      (some false)
      ((need (fitsB 8 (v33.length + ([y2.skater]).length))).bind fun u44 =>
      (need (fitsB 8 (v34.length + ([y2.rank]).length))).bind fun u46 =>
      spec_soEntrants_l1 l ys3 (k1 + 1) (v33 ++ [y2.skater]) (v34 ++ [y2.rank]))
def spec_soEntrants_p (l : List Entrant) : Option Bool :=
  spec_soEntrants_l1 l l 0 [] []
theorem spec_soEntrants_ok (l : List Entrant) (r : Bool) (hH : spec_soEntrants_p l = some r) : SpecR Try.prog 30 [.s (List.map encEntrant l)] (.v (.bool r)) := by
  refine fn_ok T Try.func30 rfl (by decide) rfl ?_
  refine AW.seq ?_
  refine AW.region ?_
  refine AO.pure T rfl rfl rfl ?_
  refine AO.nil ?_
  refine AW.seq ?_
  refine AW.region ?_
  refine AO.pure T rfl rfl rfl ?_
  refine AO.pure T rfl rfl rfl ?_
  refine AO.nil ?_
  refine AW.seq ?_
  refine AW.seq ?_
  refine AW.region ?_
  refine AO.pure T rfl rfl rfl ?_
  refine AO.val rfl rfl (len_map_ok T rfl rfl rfl) ?_
  refine AO.pure T rfl rfl rfl ?_
  refine AO.nil ?_
  refine AW.block ?_
  refine AW.loopS (fun s : Nat × (List Int) × (List Int) => (⟨[(0, .s (List.map encEntrant l)), (3, .R 8), (4, .R 10), (7, .s (List.map encEntrant l)), (8, .v (.int .i64 (l.length : Int))), (9, .v (.int .i64 (s.1 : Int)))], [(8, .row 1 (List.map encInt s.2.1)), (10, .row 1 (List.map encInt s.2.2))], 54, []⟩ : St)) (fun s => s.1 ≤ l.length ∧ spec_soEntrants_l1 l (l.drop s.1) s.1 s.2.1 s.2.2 = some r) (fun s => l.length - s.1) (0, [], []) ⟨Nat.zero_le _, hH⟩ ?_ ?_
  · refine Le.trans (Le.void 3 8 1 rfl rfl) ?_
    refine Le.trans (Le.void 4 10 1 rfl rfl) ?_
    exact Le.cut 0 0 rfl (by repeat' (first | exact trivial | refine ⟨⟨_, rfl, rfl⟩, ?_⟩)) (by repeat' (first | exact trivial | refine ⟨⟨_, rfl, rfl⟩, ?_⟩)) rfl
  · rintro ⟨k1, v33, v34⟩ ⟨hk, hH⟩
    replace hH : spec_soEntrants_l1 l (l.drop k1) k1 v33 v34 = some r := hH
    show AW _ _ _ (⟨[(0, .s (List.map encEntrant l)), (3, .R 8), (4, .R 10), (7, .s (List.map encEntrant l)), (8, .v (.int .i64 (l.length : Int))), (9, .v (.int .i64 (k1 : Int)))], [(8, .row 1 (List.map encInt v33)), (10, .row 1 (List.map encInt v34))], 54, []⟩ : St)
    refine AW.boundM (t := 0) (l := l) rfl (fun hb5 => ?_)
    cases hd4 : l.drop k1 with
    | nil =>
      rw [hd4] at hH
      rw [spec_soEntrants_l1] at hH
      have hlt6 := drop_ge hd4
      refine AW.seq ?_
      refine AW.region ?_
      refine AO.pure T rfl rfl rfl ?_
      refine AO.nil ?_
      refine AW.seq ?_
      refine AW.condF' (b := decide ((k1 : Int) < (l.length : Int))) rfl (rngF hlt6) ?_
      refine AW.exit ?_
      refine AW.seq ?_
      refine AW.region ?_
      refine AO.pure T rfl rfl rfl ?_
      refine AO.val rfl rfl (len_map_ok T rfl rfl rfl) ?_
      refine AO.pure T rfl rfl rfl ?_
      refine AO.pure T rfl rfl rfl ?_
      refine AO.nil ?_
      refine AW.ret ?_
      cases someE hH
      exact ⟨trivial, _, [], rfl, .c (.c .v), by decide⟩
    | cons y2 ys3 =>
      rw [hd4] at hH
      rw [spec_soEntrants_l1] at hH
      have hlt6 := drop_lt hd4
      refine AW.seq ?_
      refine AW.region ?_
      refine AO.pure T rfl rfl rfl ?_
      refine AO.nil ?_
      refine AW.seq ?_
      refine AW.condT' (b := decide ((k1 : Int) < (l.length : Int))) rfl (rngT hlt6) ?_
      refine AW.skip ?_
      refine AW.seq ?_
      refine AW.block ?_
      refine AW.seq ?_
      refine AW.region ?_
      refine AO.val rfl rfl (ix_map_ok T rfl rfl rfl rfl rfl (getI_drop hd4) rfl) ?_
      refine AO.pure T (d := .g [.v (.int .i64 y2.skater), .v (.int .i64 y2.rank)]) rfl rfl rfl ?_
      refine AO.step rfl (alloc_ok T rfl 11 rfl rfl rfl rfl rfl) ?_
      refine AO.step rfl (store_okE T rfl rfl rfl rfl rfl rfl rfl rfl rfl (ds' := [.v (.int .i64 y2.skater), .v (.int .i64 y2.rank)]) rfl) ?_
      refine AO.nil ?_
      refine AW.seq ?_
      refine AW.seq ?_
      obtain ⟨x36, hx37, hH⟩ := bindE hH
      obtain ⟨x38, hx39, hH⟩ := bindE hH
      obtain ⟨x40, hx41, hH⟩ := bindE hH
      obtain ⟨x42, hx43, hH⟩ := bindE hH
      refine AW.region ?_
      refine AO.pure T rfl rfl rfl ?_
      refine AO.pure T rfl rfl rfl ?_
      refine AO.val rfl rfl (callV_ok rfl rfl rfl rfl (spec_l1In_ok _ _ _ _ (hx37)) rfl) ?_
      refine AO.pure T rfl rfl rfl ?_
      refine AO.pure T rfl rfl rfl ?_
      refine AO.pureG T [] rfl trivial rfl rfl ?_
      refine AO.pureG T [18] rfl ⟨fun h => h, trivial⟩ rfl rfl ?_
      refine AO.guard [19] rfl ⟨fun h => h, trivial⟩ (fun hg => callV_ok rfl rfl rfl rfl (spec_l1In_ok _ _ _ _ (optT hx39 hg)) rfl) rfl ?_
      refine AO.pureG T [20] rfl ⟨fun h => h, trivial⟩ rfl rfl ?_
      refine AO.val rfl rfl (pick_or rfl rfl rfl rfl) ?_
      refine AO.pure T rfl rfl rfl ?_
      refine AO.pureG T [] rfl trivial rfl rfl ?_
      refine AO.pureG T [] rfl trivial rfl rfl ?_
      refine AO.pureG T [25] rfl ⟨fun h => h, trivial⟩ rfl rfl ?_
      refine AO.guard [24, 26] rfl ⟨fun h => h, fun h => h, trivial⟩ (fun hg => callLV_ok rfl rfl rfl (es := [.s (List.map encInt v33), .v (.int .i64 y2.skater)]) ⟨(.rowR rfl (.map fun y => .vs rfl)), .free rfl, trivial⟩ (spec_l1Has_ok _ _ _ (optT hx41 hg)) (zfree_v _) rfl) rfl ?_
      refine AO.val rfl rfl (pick_or rfl rfl rfl rfl) ?_
      refine AO.pure T rfl rfl rfl ?_
      refine AO.pureG T [] rfl trivial rfl rfl ?_
      refine AO.pureG T [30] rfl ⟨fun h => h, trivial⟩ rfl rfl ?_
      refine AO.pureG T [31] rfl ⟨fun h => h, trivial⟩ rfl rfl ?_
      refine AO.pureG T [32] rfl ⟨fun h => h, trivial⟩ rfl rfl ?_
      refine AO.pureG T [] rfl trivial rfl rfl ?_
      refine AO.pureG T [] rfl trivial rfl rfl ?_
      refine AO.pureG T [35] rfl ⟨fun h => h, trivial⟩ rfl rfl ?_
      refine AO.guard [34, 36] rfl ⟨fun h => h, fun h => h, trivial⟩ (fun hg => callLV_ok rfl rfl rfl (es := [.s (List.map encInt v34), .v (.int .i64 y2.rank)]) ⟨(.rowR rfl (.map fun y => .vs rfl)), .free rfl, trivial⟩ (spec_l1Has_ok _ _ _ (optT hx43 hg)) (zfree_v _) rfl) rfl ?_
      refine AO.guard [33] rfl ⟨fun h => h, trivial⟩ (fun hg => pick_and rfl rfl rfl (by rw [hg]; exact Bool.true_and _)) rfl ?_
      refine AO.val rfl rfl (pick_or rfl rfl rfl rfl) ?_
      refine AO.nil ?_
      refine AW.le (Le.cut 0 0 (σ' := (⟨[(0, .s (List.map encEntrant l)), (3, .R 8), (4, .R 10), (6, .p 11 0), (7, .s (List.map encEntrant l)), (8, .v (.int .i64 (l.length : Int))), (9, .v (.int .i64 (k1 : Int))), (39, .v (.bool ((((!x36) || (!x38)) || x40) || (decide (y2.rank > 0) && x42))))], [(8, .row 1 (List.map encInt v33)), (10, .row 1 (List.map encInt v34)), (11, .box [.v (.int .i64 y2.skater), .v (.int .i64 y2.rank)])], 54, []⟩ : St)) rfl (by repeat' (first | exact trivial | refine ⟨⟨_, rfl, rfl⟩, ?_⟩)) (by repeat' (first | exact trivial | refine ⟨⟨_, rfl, rfl⟩, ?_⟩)) rfl) ?_
      refine AW.cond (b := ((((!x36) || (!x38)) || x40) || (decide (y2.rank > 0) && x42))) rfl (fun hc => ?_) (fun hc => ?_)
      · replace hH := condT hc hH
        refine AW.seq ?_
        refine AW.region ?_
        refine AO.pure T rfl rfl rfl ?_
        refine AO.nil ?_
        refine AW.ret ?_
        cases someE hH
        exact ⟨trivial, _, [], rfl, .c (.c .v), by decide⟩
      · replace hH := condF hc hH
        refine AW.skip ?_
        refine AW.seq ?_
        obtain ⟨u44, hx45, hH⟩ := bindE hH
        refine AW.region ?_
        refine AO.pure T rfl rfl rfl ?_
        refine AO.pure T rfl rfl rfl ?_
        refine AO.pure T rfl rfl rfl ?_
        refine AO.step rfl (mk_map_ok T rfl 12 rfl rfl rfl rfl rfl (f := encInt) (l := [y2.skater]) rfl rfl (fun _ => rfl) rfl rfl rfl rfl rfl) ?_
        refine AO.step rfl (app_rv_map T rfl 13 rfl rfl rfl rfl rfl (by decide) rfl rfl rfl rfl (fun _ => rfl) (needT (hx45)) rfl rfl) ?_
        refine AO.pure T rfl rfl rfl ?_
        refine AO.nil ?_
        obtain ⟨u46, hx47, hH⟩ := bindE hH
        refine AW.region ?_
        refine AO.pure T rfl rfl rfl ?_
        refine AO.pure T rfl rfl rfl ?_
        refine AO.pure T rfl rfl rfl ?_
        refine AO.step rfl (mk_map_ok T rfl 14 rfl rfl rfl rfl rfl (f := encInt) (l := [y2.rank]) rfl rfl (fun _ => rfl) rfl rfl rfl rfl rfl) ?_
        refine AO.step rfl (app_rv_map T rfl 15 rfl rfl rfl rfl rfl (by decide) rfl rfl rfl rfl (fun _ => rfl) (needT (hx47)) rfl rfl) ?_
        refine AO.pure T rfl rfl rfl ?_
        refine AO.nil ?_
        refine AW.region ?_
        refine AO.val rfl rfl (ar_ok rfl rfl rfl rfl (inI_succ hlt6 hb5)) ?_
        refine AO.pure T rfl rfl rfl ?_
        refine AO.nil ?_
        refine ⟨(k1 + 1, (v33 ++ [y2.skater]), (v34 ++ [y2.rank])), ⟨Nat.succ_le_of_lt hlt6, (by rw [drop_succ_of hd4]; exact hH)⟩, (by have := hlt6; dsimp only; omega), ?_⟩
        refine Le.trans (Le.cut 13 8 (σ' := (⟨[(0, .s (List.map encEntrant l)), (3, .R 8), (4, .R 15), (7, .s (List.map encEntrant l)), (8, .v (.int .i64 (l.length : Int))), (9, .v (.int .i64 (k1 + 1 : Nat)))], [(8, .row 1 (List.map encInt (v33 ++ [y2.skater]))), (15, .row 1 (List.map encInt (v34 ++ [y2.rank])))], 54, []⟩ : St)) rfl (by repeat' (first | exact trivial | refine ⟨⟨_, rfl, rfl⟩, ?_⟩)) (by repeat' (first | exact trivial | refine ⟨⟨_, rfl, rfl⟩, ?_⟩)) rfl) ?_
        exact Le.cut 15 10 rfl (by repeat' (first | exact trivial | refine ⟨⟨_, rfl, rfl⟩, ?_⟩)) (by repeat' (first | exact trivial | refine ⟨⟨_, rfl, rfl⟩, ?_⟩)) rfl

def spec_l1Rising_l1 (l : List Int) (lo : Int) (hi : Int) : List Int → Nat → Option Bool
  | [], k1 =>
    some true
  | y2 :: ys3, k1 =>
    (spec_l1In_p y2 lo hi).bind fun x16 =>
    (opt ((!(!x16)) && decide ((k1 : Int) > 0)) default (getI l (w64 ((k1 : Int) - 1)))).bind fun x18 =>
    cond ((!x16) || (decide ((k1 : Int) > 0) && decide (x18 ≥ y2)))
      (some false)
      (spec_l1Rising_l1 l lo hi ys3 (k1 + 1))
def spec_l1Rising_p (l : List Int) (lo : Int) (hi : Int) : Option Bool :=
  spec_l1Rising_l1 l lo hi l 0
theorem spec_l1Rising_ok (l : List Int) (lo : Int) (hi : Int) (r : Bool) (hH : spec_l1Rising_p l lo hi = some r) : SpecR Try.prog 31 [.s (List.map encInt l), .v (.int .i64 lo), .v (.int .i64 hi)] (.v (.bool r)) := by
  refine fn_ok T Try.func31 rfl (by decide) rfl ?_
  refine AW.seq ?_
  refine AW.region ?_
  refine AO.pure T rfl rfl rfl ?_
  refine AO.nil ?_
  refine AW.seq ?_
  refine AW.seq ?_
  refine AW.region ?_
  refine AO.pure T rfl rfl rfl ?_
  refine AO.val rfl rfl (len_map_ok T rfl rfl rfl) ?_
  refine AO.pure T rfl rfl rfl ?_
  refine AO.nil ?_
  refine AW.block ?_
  refine AW.loopS (fun s : Nat => (⟨[(0, .s (List.map encInt l)), (1, .v (.int .i64 lo)), (2, .v (.int .i64 hi)), (9, .s (List.map encInt l)), (10, .v (.int .i64 (l.length : Int))), (11, .v (.int .i64 (s : Int)))], [], 35, []⟩ : St)) (fun s => s ≤ l.length ∧ spec_l1Rising_l1 l lo hi (l.drop s) s = some r) (fun s => l.length - s) 0 ⟨Nat.zero_le _, hH⟩ ?_ ?_
  · exact Le.cut 0 0 rfl (by repeat' (first | exact trivial | refine ⟨⟨_, rfl, rfl⟩, ?_⟩)) (by repeat' (first | exact trivial | refine ⟨⟨_, rfl, rfl⟩, ?_⟩)) rfl
  · rintro k1 ⟨hk, hH⟩
    replace hH : spec_l1Rising_l1 l lo hi (l.drop k1) k1 = some r := hH
    show AW _ _ _ (⟨[(0, .s (List.map encInt l)), (1, .v (.int .i64 lo)), (2, .v (.int .i64 hi)), (9, .s (List.map encInt l)), (10, .v (.int .i64 (l.length : Int))), (11, .v (.int .i64 (k1 : Int)))], [], 35, []⟩ : St)
    refine AW.boundM (t := 0) (l := l) rfl (fun hb5 => ?_)
    cases hd4 : l.drop k1 with
    | nil =>
      rw [hd4] at hH
      rw [spec_l1Rising_l1] at hH
      have hlt6 := drop_ge hd4
      refine AW.seq ?_
      refine AW.region ?_
      refine AO.pure T rfl rfl rfl ?_
      refine AO.nil ?_
      refine AW.seq ?_
      refine AW.condF' (b := decide ((k1 : Int) < (l.length : Int))) rfl (rngF hlt6) ?_
      refine AW.exit ?_
      refine AW.seq ?_
      refine AW.region ?_
      refine AO.pure T rfl rfl rfl ?_
      refine AO.nil ?_
      refine AW.ret ?_
      cases someE hH
      exact ⟨trivial, _, [], rfl, .c (.c .v), by decide⟩
    | cons y2 ys3 =>
      rw [hd4] at hH
      rw [spec_l1Rising_l1] at hH
      have hlt6 := drop_lt hd4
      refine AW.seq ?_
      refine AW.region ?_
      refine AO.pure T rfl rfl rfl ?_
      refine AO.nil ?_
      refine AW.seq ?_
      refine AW.condT' (b := decide ((k1 : Int) < (l.length : Int))) rfl (rngT hlt6) ?_
      refine AW.skip ?_
      refine AW.seq ?_
      refine AW.block ?_
      refine AW.seq ?_
      refine AW.region ?_
      refine AO.pure T rfl rfl rfl ?_
      refine AO.val rfl rfl (ix_map_ok T rfl rfl rfl rfl rfl (getI_drop hd4) rfl) ?_
      refine AO.pure T rfl rfl rfl ?_
      refine AO.pure T rfl rfl rfl ?_
      refine AO.pure T rfl rfl rfl ?_
      refine AO.nil ?_
      refine AW.seq ?_
      obtain ⟨x16, hx17, hH⟩ := bindE hH
      obtain ⟨x18, hx19, hH⟩ := bindE hH
      refine AW.region ?_
      refine AO.pure T rfl rfl rfl ?_
      refine AO.pure T rfl rfl rfl ?_
      refine AO.pure T rfl rfl rfl ?_
      refine AO.val rfl rfl (callV_ok rfl rfl rfl rfl (spec_l1In_ok _ _ _ _ (hx17)) rfl) ?_
      refine AO.pure T rfl rfl rfl ?_
      refine AO.pure T rfl rfl rfl ?_
      refine AO.pureG T [] rfl trivial rfl rfl ?_
      refine AO.pureG T [22] rfl ⟨fun h => h, trivial⟩ rfl rfl ?_
      refine AO.pureG T [23] rfl ⟨fun h => h, trivial⟩ rfl rfl ?_
      refine AO.pureG T [] rfl trivial rfl rfl ?_
      refine AO.pureG T [] rfl trivial rfl rfl ?_
      refine AO.guard [26] rfl ⟨fun h => h, trivial⟩ (fun hg => arw_ok rfl rfl rfl rfl) rfl ?_
      refine AO.guard [25, 27] rfl ⟨fun h => h, fun h => h, trivial⟩ (fun hg => ix_map_ok T rfl rfl rfl rfl rfl (optT hx19 hg) rfl) rfl ?_
      refine AO.pureG T [28] rfl ⟨fun h => h, trivial⟩ rfl rfl ?_
      refine AO.pureG T [] rfl trivial rfl rfl ?_
      refine AO.pureG T [29, 30] rfl ⟨fun h => h, fun h => h, trivial⟩ rfl rfl ?_
      refine AO.guard [24] rfl ⟨fun h => h, trivial⟩ (fun hg => pick_and rfl rfl rfl (by rw [hg]; exact Bool.true_and _)) rfl ?_
      refine AO.val rfl rfl (pick_or rfl rfl rfl rfl) ?_
      refine AO.nil ?_
      refine AW.le (Le.cut 0 0 (σ' := (⟨[(0, .s (List.map encInt l)), (1, .v (.int .i64 lo)), (2, .v (.int .i64 hi)), (9, .s (List.map encInt l)), (10, .v (.int .i64 (l.length : Int))), (11, .v (.int .i64 (k1 : Int))), (33, .v (.bool ((!x16) || (decide ((k1 : Int) > 0) && decide (x18 ≥ y2)))))], [], 35, []⟩ : St)) rfl (by repeat' (first | exact trivial | refine ⟨⟨_, rfl, rfl⟩, ?_⟩)) (by repeat' (first | exact trivial | refine ⟨⟨_, rfl, rfl⟩, ?_⟩)) rfl) ?_
      refine AW.cond (b := ((!x16) || (decide ((k1 : Int) > 0) && decide (x18 ≥ y2)))) rfl (fun hc => ?_) (fun hc => ?_)
      · replace hH := condT hc hH
        refine AW.seq ?_
        refine AW.region ?_
        refine AO.pure T rfl rfl rfl ?_
        refine AO.nil ?_
        refine AW.ret ?_
        cases someE hH
        exact ⟨trivial, _, [], rfl, .c (.c .v), by decide⟩
      · replace hH := condF hc hH
        refine AW.skip ?_
        refine AW.region ?_
        refine AO.val rfl rfl (ar_ok rfl rfl rfl rfl (inI_succ hlt6 hb5)) ?_
        refine AO.pure T rfl rfl rfl ?_
        refine AO.nil ?_
        refine ⟨k1 + 1, ⟨Nat.succ_le_of_lt hlt6, (by rw [drop_succ_of hd4]; exact hH)⟩, (by have := hlt6; dsimp only; omega), ?_⟩
        exact Le.cut 0 0 rfl (by repeat' (first | exact trivial | refine ⟨⟨_, rfl, rfl⟩, ?_⟩)) (by repeat' (first | exact trivial | refine ⟨⟨_, rfl, rfl⟩, ?_⟩)) rfl

def spec_soOrder_l1 (order : List Int) : List Int → Nat → Option Bool
  | [], k1 =>
    some (decide ((order.length : Int) ≤ 40))
  | y2 :: ys3, k1 =>
    (spec_l1In_p y2 1 999).bind fun x20 =>
    (opt (!(!x20)) default (sliceHi order (k1 : Int))).bind fun x22 =>
    (opt (!(!x20)) default (spec_l1Has_p x22 y2)).bind fun x24 =>
    cond ((!x20) || x24)
      (some false)
      (spec_soOrder_l1 order ys3 (k1 + 1))
def spec_soOrder_p (order : List Int) : Option Bool :=
  spec_soOrder_l1 order order 0
theorem spec_soOrder_ok (order : List Int) (r : Bool) (hH : spec_soOrder_p order = some r) : SpecR Try.prog 32 [.s (List.map encInt order)] (.v (.bool r)) := by
  refine fn_ok T Try.func32 rfl (by decide) rfl ?_
  refine AW.seq ?_
  refine AW.region ?_
  refine AO.pure T rfl rfl rfl ?_
  refine AO.nil ?_
  refine AW.seq ?_
  refine AW.seq ?_
  refine AW.region ?_
  refine AO.pure T rfl rfl rfl ?_
  refine AO.val rfl rfl (len_map_ok T rfl rfl rfl) ?_
  refine AO.pure T rfl rfl rfl ?_
  refine AO.nil ?_
  refine AW.block ?_
  refine AW.loopS (fun s : Nat => (⟨[(0, .s (List.map encInt order)), (5, .s (List.map encInt order)), (6, .v (.int .i64 (order.length : Int))), (7, .v (.int .i64 (s : Int)))], [], 26, []⟩ : St)) (fun s => s ≤ order.length ∧ spec_soOrder_l1 order (order.drop s) s = some r) (fun s => order.length - s) 0 ⟨Nat.zero_le _, hH⟩ ?_ ?_
  · exact Le.cut 0 0 rfl (by repeat' (first | exact trivial | refine ⟨⟨_, rfl, rfl⟩, ?_⟩)) (by repeat' (first | exact trivial | refine ⟨⟨_, rfl, rfl⟩, ?_⟩)) rfl
  · rintro k1 ⟨hk, hH⟩
    replace hH : spec_soOrder_l1 order (order.drop k1) k1 = some r := hH
    show AW _ _ _ (⟨[(0, .s (List.map encInt order)), (5, .s (List.map encInt order)), (6, .v (.int .i64 (order.length : Int))), (7, .v (.int .i64 (k1 : Int)))], [], 26, []⟩ : St)
    refine AW.boundM (t := 0) (l := order) rfl (fun hb5 => ?_)
    cases hd4 : order.drop k1 with
    | nil =>
      rw [hd4] at hH
      rw [spec_soOrder_l1] at hH
      have hlt6 := drop_ge hd4
      refine AW.seq ?_
      refine AW.region ?_
      refine AO.pure T rfl rfl rfl ?_
      refine AO.nil ?_
      refine AW.seq ?_
      refine AW.condF' (b := decide ((k1 : Int) < (order.length : Int))) rfl (rngF hlt6) ?_
      refine AW.exit ?_
      refine AW.seq ?_
      refine AW.region ?_
      refine AO.pure T rfl rfl rfl ?_
      refine AO.val rfl rfl (len_map_ok T rfl rfl rfl) ?_
      refine AO.pure T rfl rfl rfl ?_
      refine AO.pure T rfl rfl rfl ?_
      refine AO.nil ?_
      refine AW.ret ?_
      cases someE hH
      exact ⟨trivial, _, [], rfl, .c (.c .v), by decide⟩
    | cons y2 ys3 =>
      rw [hd4] at hH
      rw [spec_soOrder_l1] at hH
      have hlt6 := drop_lt hd4
      refine AW.seq ?_
      refine AW.region ?_
      refine AO.pure T rfl rfl rfl ?_
      refine AO.nil ?_
      refine AW.seq ?_
      refine AW.condT' (b := decide ((k1 : Int) < (order.length : Int))) rfl (rngT hlt6) ?_
      refine AW.skip ?_
      refine AW.seq ?_
      refine AW.block ?_
      refine AW.seq ?_
      refine AW.region ?_
      refine AO.pure T rfl rfl rfl ?_
      refine AO.val rfl rfl (ix_map_ok T rfl rfl rfl rfl rfl (getI_drop hd4) rfl) ?_
      refine AO.pure T rfl rfl rfl ?_
      refine AO.pure T rfl rfl rfl ?_
      refine AO.pure T rfl rfl rfl ?_
      refine AO.nil ?_
      refine AW.seq ?_
      obtain ⟨x20, hx21, hH⟩ := bindE hH
      obtain ⟨x22, hx23, hH⟩ := bindE hH
      obtain ⟨x24, hx25, hH⟩ := bindE hH
      refine AW.region ?_
      refine AO.pure T rfl rfl rfl ?_
      refine AO.val rfl rfl (callV_ok rfl rfl rfl rfl (spec_l1In_ok _ _ _ _ (hx21)) rfl) ?_
      refine AO.pure T rfl rfl rfl ?_
      refine AO.pure T rfl rfl rfl ?_
      refine AO.pureG T [] rfl trivial rfl rfl ?_
      refine AO.pureG T [] rfl trivial rfl rfl ?_
      refine AO.guard [16, 17] rfl ⟨fun h => h, fun h => h, trivial⟩ (fun hg => slice_hi_map_ok T rfl rfl rfl rfl rfl (optT hx23 hg) (fun _ => rfl)) rfl ?_
      refine AO.pureG T [] rfl trivial rfl rfl ?_
      refine AO.guard [18, 19] rfl ⟨fun h => h, fun h => h, trivial⟩ (fun hg => callV_ok rfl rfl rfl rfl (spec_l1Has_ok _ _ _ (optT hx25 hg)) rfl) rfl ?_
      refine AO.val rfl rfl (pick_or rfl rfl rfl rfl) ?_
      refine AO.nil ?_
      refine AW.cond (b := ((!x20) || x24)) rfl (fun hc => ?_) (fun hc => ?_)
      · replace hH := condT hc hH
        refine AW.seq ?_
        refine AW.region ?_
        refine AO.pure T rfl rfl rfl ?_
        refine AO.nil ?_
        refine AW.ret ?_
        cases someE hH
        exact ⟨trivial, _, [], rfl, .c (.c .v), by decide⟩
      · replace hH := condF hc hH
        refine AW.skip ?_
        refine AW.region ?_
        refine AO.val rfl rfl (ar_ok rfl rfl rfl rfl (inI_succ hlt6 hb5)) ?_
        refine AO.pure T rfl rfl rfl ?_
        refine AO.nil ?_
        refine ⟨k1 + 1, ⟨Nat.succ_le_of_lt hlt6, (by rw [drop_succ_of hd4]; exact hH)⟩, (by have := hlt6; dsimp only; omega), ?_⟩
        exact Le.cut 0 0 rfl (by repeat' (first | exact trivial | refine ⟨⟨_, rfl, rfl⟩, ?_⟩)) (by repeat' (first | exact trivial | refine ⟨⟨_, rfl, rfl⟩, ?_⟩)) rfl

def spec_rkResult_l1 (rA : Result) : List Int → Nat → Bool → Option Bool
  | [], k1, v12 =>
    (spec_l1In_p rA.skater 1 999).bind fun x14 =>
    (opt x14 default (spec_l1In_p (rA.scores.length : Int) 1 3)).bind fun x16 =>
    some (x14 && x16)
  | y2 :: ys3, k1, v12 =>
    (spec_l1In_p y2 (-1) 100000).bind fun x18 =>
    cond ((!x18) || (v12 && decide (y2 ≥ 0)))
      (some false)
      (spec_rkResult_l1 rA ys3 (k1 + 1) (decide (y2 < 0)))
def spec_rkResult_p (rA : Result) : Option Bool :=
  spec_rkResult_l1 rA rA.scores 0 false
theorem spec_rkResult_ok (rA : Result) (r : Bool) (hH : spec_rkResult_p rA = some r) : SpecR Try.prog 38 [.g (encResult rA)] (.v (.bool r)) := by
  refine fn_ok T Try.func38 rfl (by decide) rfl ?_
  refine AW.seq ?_
  refine AW.region ?_
  refine AO.step rfl (box_ok T rfl 1 rfl rfl rfl rfl) ?_
  refine AO.pure T rfl rfl rfl ?_
  refine AO.nil ?_
  refine AW.seq ?_
  refine AW.region ?_
  refine AO.pure T rfl rfl rfl ?_
  refine AO.nil ?_
  refine AW.seq ?_
  refine AW.seq ?_
  refine AW.region ?_
  refine AO.pure T rfl rfl rfl ?_
  refine AO.pure T rfl rfl rfl ?_
  refine AO.val rfl rfl (len_map_ok T rfl rfl rfl) ?_
  refine AO.pure T rfl rfl rfl ?_
  refine AO.nil ?_
  refine AW.block ?_
  refine AW.loopS (fun s : Nat × Bool => (⟨[(1, .p 1 0), (3, .v (.bool s.2)), (7, .s (List.map encInt rA.scores)), (8, .v (.int .i64 (rA.scores.length : Int))), (9, .v (.int .i64 (s.1 : Int)))], [(1, .box [.v (.int .i64 rA.skater), .s (List.map encInt rA.scores)])], 35, []⟩ : St)) (fun s => s.1 ≤ rA.scores.length ∧ spec_rkResult_l1 rA (rA.scores.drop s.1) s.1 s.2 = some r) (fun s => rA.scores.length - s.1) (0, false) ⟨Nat.zero_le _, hH⟩ ?_ ?_
  · exact Le.cut 0 0 rfl (by repeat' (first | exact trivial | refine ⟨⟨_, rfl, rfl⟩, ?_⟩)) (by repeat' (first | exact trivial | refine ⟨⟨_, rfl, rfl⟩, ?_⟩)) rfl
  · rintro ⟨k1, v12⟩ ⟨hk, hH⟩
    replace hH : spec_rkResult_l1 rA (rA.scores.drop k1) k1 v12 = some r := hH
    show AW _ _ _ (⟨[(1, .p 1 0), (3, .v (.bool v12)), (7, .s (List.map encInt rA.scores)), (8, .v (.int .i64 (rA.scores.length : Int))), (9, .v (.int .i64 (k1 : Int)))], [(1, .box [.v (.int .i64 rA.skater), .s (List.map encInt rA.scores)])], 35, []⟩ : St)
    refine AW.boundM (t := 7) (l := rA.scores) rfl (fun hb5 => ?_)
    cases hd4 : rA.scores.drop k1 with
    | nil =>
      rw [hd4] at hH
      rw [spec_rkResult_l1] at hH
      have hlt6 := drop_ge hd4
      refine AW.seq ?_
      refine AW.region ?_
      refine AO.pure T rfl rfl rfl ?_
      refine AO.nil ?_
      refine AW.seq ?_
      refine AW.condF' (b := decide ((k1 : Int) < (rA.scores.length : Int))) rfl (rngF hlt6) ?_
      refine AW.exit ?_
      refine AW.seq ?_
      obtain ⟨x14, hx15, hH⟩ := bindE hH
      obtain ⟨x16, hx17, hH⟩ := bindE hH
      refine AW.region ?_
      refine AO.pure T rfl rfl rfl ?_
      refine AO.pure T rfl rfl rfl ?_
      refine AO.val rfl rfl (callV_ok rfl rfl rfl rfl (spec_l1In_ok _ _ _ _ (hx15)) rfl) ?_
      refine AO.pure T rfl rfl rfl ?_
      refine AO.pureG T [] rfl trivial rfl rfl ?_
      refine AO.pureG T [30] rfl ⟨fun h => h, trivial⟩ rfl rfl ?_
      refine AO.guard [31] rfl ⟨fun h => h, trivial⟩ (fun hg => len_map_ok T rfl rfl rfl) rfl ?_
      refine AO.guard [32] rfl ⟨fun h => h, trivial⟩ (fun hg => callV_ok rfl rfl rfl rfl (spec_l1In_ok _ _ _ _ (optT hx17 hg)) rfl) rfl ?_
      refine AO.val rfl rfl (pick_and rfl rfl rfl rfl) ?_
      refine AO.pure T rfl rfl rfl ?_
      refine AO.nil ?_
      refine AW.ret ?_
      cases someE hH
      exact ⟨trivial, _, [], rfl, .c (.c .v), by decide⟩
    | cons y2 ys3 =>
      rw [hd4] at hH
      rw [spec_rkResult_l1] at hH
      have hlt6 := drop_lt hd4
      refine AW.seq ?_
      refine AW.region ?_
      refine AO.pure T rfl rfl rfl ?_
      refine AO.nil ?_
      refine AW.seq ?_
      refine AW.condT' (b := decide ((k1 : Int) < (rA.scores.length : Int))) rfl (rngT hlt6) ?_
      refine AW.skip ?_
      refine AW.seq ?_
      refine AW.block ?_
      refine AW.seq ?_
      refine AW.region ?_
      refine AO.val rfl rfl (ix_map_ok T rfl rfl rfl rfl rfl (getI_drop hd4) rfl) ?_
      refine AO.pure T rfl rfl rfl ?_
      refine AO.pure T rfl rfl rfl ?_
      refine AO.nil ?_
      refine AW.seq ?_
      refine AW.seq ?_
      obtain ⟨x18, hx19, hH⟩ := bindE hH
      refine AW.region ?_
      refine AO.pure T rfl rfl rfl ?_
      refine AO.val rfl rfl (callV_ok rfl rfl rfl rfl (spec_l1In_ok _ _ _ _ (hx19)) rfl) ?_
      refine AO.pure T rfl rfl rfl ?_
      refine AO.pure T rfl rfl rfl ?_
      refine AO.pureG T [] rfl trivial rfl rfl ?_
      refine AO.pureG T [17] rfl ⟨fun h => h, trivial⟩ rfl rfl ?_
      refine AO.pureG T [] rfl trivial rfl rfl ?_
      refine AO.pureG T [19] rfl ⟨fun h => h, trivial⟩ rfl rfl ?_
      refine AO.guard [18] rfl ⟨fun h => h, trivial⟩ (fun hg => pick_and rfl rfl rfl (by rw [hg]; exact Bool.true_and _)) rfl ?_
      refine AO.val rfl rfl (pick_or rfl rfl rfl rfl) ?_
      refine AO.nil ?_
      refine AW.cond (b := ((!x18) || (v12 && decide (y2 ≥ 0)))) rfl (fun hc => ?_) (fun hc => ?_)
      · replace hH := condT hc hH
        refine AW.seq ?_
        refine AW.region ?_
        refine AO.pure T rfl rfl rfl ?_
        refine AO.nil ?_
        refine AW.ret ?_
        cases someE hH
        exact ⟨trivial, _, [], rfl, .c (.c .v), by decide⟩
      · replace hH := condF hc hH
        refine AW.skip ?_
        refine AW.region ?_
        refine AO.pure T rfl rfl rfl ?_
        refine AO.pure T rfl rfl rfl ?_
        refine AO.pure T rfl rfl rfl ?_
        refine AO.nil ?_
        refine AW.region ?_
        refine AO.val rfl rfl (ar_ok rfl rfl rfl rfl (inI_succ hlt6 hb5)) ?_
        refine AO.pure T rfl rfl rfl ?_
        refine AO.nil ?_
        refine ⟨(k1 + 1, decide (y2 < 0)), ⟨Nat.succ_le_of_lt hlt6, (by rw [drop_succ_of hd4]; exact hH)⟩, (by have := hlt6; dsimp only; omega), ?_⟩
        exact Le.cut 0 0 rfl (by repeat' (first | exact trivial | refine ⟨⟨_, rfl, rfl⟩, ?_⟩)) (by repeat' (first | exact trivial | refine ⟨⟨_, rfl, rfl⟩, ?_⟩)) rfl

def spec_rkGood_l1 (l : List Result) : List Result → Nat → List Int → Option Bool
  | [], k1, v24 =>
    some (decide ((l.length : Int) ≤ 40))
  | y2 :: ys3, k1, v24 =>
    (spec_rkResult_p y2).bind fun x26 =>
    (opt (!(!x26)) default (spec_l1Has_p v24 y2.skater)).bind fun x28 =>
    (opt (!((!x26) || x28)) default (getI l 0)).bind fun x30 =>
    cond (((!x26) || x28) || ((y2.scores.length : Int) != (x30.scores.length : Int)))
      (some false)
      ((need (fitsB 8 (v24.length + ([y2.skater]).length))).bind fun u32 =>
      spec_rkGood_l1 l ys3 (k1 + 1) (v24 ++ [y2.skater]))
def spec_rkGood_p (l : List Result) : Option Bool :=
  spec_rkGood_l1 l l 0 []
theorem spec_rkGood_ok (l : List Result) (r : Bool) (hH : spec_rkGood_p l = some r) : SpecR Try.prog 33 [.s (List.map encResult l)] (.v (.bool r)) := by
  refine fn_ok T Try.func33 rfl (by decide) rfl ?_
  refine AW.seq ?_
  refine AW.region ?_
  refine AO.pure T rfl rfl rfl ?_
  refine AO.nil ?_
  refine AW.seq ?_
  refine AW.region ?_
  refine AO.pure T rfl rfl rfl ?_
  refine AO.nil ?_
  refine AW.seq ?_
  refine AW.seq ?_
  refine AW.region ?_
  refine AO.pure T rfl rfl rfl ?_
  refine AO.val rfl rfl (len_map_ok T rfl rfl rfl) ?_
  refine AO.pure T rfl rfl rfl ?_
  refine AO.nil ?_
  refine AW.block ?_
  refine AW.loopS (fun s : Nat × (List Int) => (⟨[(0, .s (List.map encResult l)), (3, .R 6), (6, .s (List.map encResult l)), (7, .v (.int .i64 (l.length : Int))), (8, .v (.int .i64 (s.1 : Int)))], [(6, .row 1 (List.map encInt s.2))], 41, []⟩ : St)) (fun s => s.1 ≤ l.length ∧ spec_rkGood_l1 l (l.drop s.1) s.1 s.2 = some r) (fun s => l.length - s.1) (0, []) ⟨Nat.zero_le _, hH⟩ ?_ ?_
  · refine Le.trans (Le.void 3 6 1 rfl rfl) ?_
    exact Le.cut 0 0 rfl (by repeat' (first | exact trivial | refine ⟨⟨_, rfl, rfl⟩, ?_⟩)) (by repeat' (first | exact trivial | refine ⟨⟨_, rfl, rfl⟩, ?_⟩)) rfl
  · rintro ⟨k1, v24⟩ ⟨hk, hH⟩
    replace hH : spec_rkGood_l1 l (l.drop k1) k1 v24 = some r := hH
    show AW _ _ _ (⟨[(0, .s (List.map encResult l)), (3, .R 6), (6, .s (List.map encResult l)), (7, .v (.int .i64 (l.length : Int))), (8, .v (.int .i64 (k1 : Int)))], [(6, .row 1 (List.map encInt v24))], 41, []⟩ : St)
    refine AW.boundM (t := 0) (l := l) rfl (fun hb5 => ?_)
    cases hd4 : l.drop k1 with
    | nil =>
      rw [hd4] at hH
      rw [spec_rkGood_l1] at hH
      have hlt6 := drop_ge hd4
      refine AW.seq ?_
      refine AW.region ?_
      refine AO.pure T rfl rfl rfl ?_
      refine AO.nil ?_
      refine AW.seq ?_
      refine AW.condF' (b := decide ((k1 : Int) < (l.length : Int))) rfl (rngF hlt6) ?_
      refine AW.exit ?_
      refine AW.seq ?_
      refine AW.region ?_
      refine AO.pure T rfl rfl rfl ?_
      refine AO.val rfl rfl (len_map_ok T rfl rfl rfl) ?_
      refine AO.pure T rfl rfl rfl ?_
      refine AO.pure T rfl rfl rfl ?_
      refine AO.nil ?_
      refine AW.ret ?_
      cases someE hH
      exact ⟨trivial, _, [], rfl, .c (.c .v), by decide⟩
    | cons y2 ys3 =>
      rw [hd4] at hH
      rw [spec_rkGood_l1] at hH
      have hlt6 := drop_lt hd4
      refine AW.seq ?_
      refine AW.region ?_
      refine AO.pure T rfl rfl rfl ?_
      refine AO.nil ?_
      refine AW.seq ?_
      refine AW.condT' (b := decide ((k1 : Int) < (l.length : Int))) rfl (rngT hlt6) ?_
      refine AW.skip ?_
      refine AW.seq ?_
      refine AW.block ?_
      refine AW.seq ?_
      refine AW.region ?_
      refine AO.val rfl rfl (ix_map_ok T rfl rfl rfl rfl rfl (getI_drop hd4) rfl) ?_
      refine AO.pure T (d := .g [.v (.int .i64 y2.skater), .s (List.map encInt y2.scores)]) rfl rfl rfl ?_
      refine AO.step rfl (alloc_ok T rfl 7 rfl rfl rfl rfl rfl) ?_
      refine AO.step rfl (store_okE T rfl rfl rfl rfl rfl rfl rfl rfl rfl (ds' := [.v (.int .i64 y2.skater), .s (List.map encInt y2.scores)]) rfl) ?_
      refine AO.nil ?_
      refine AW.seq ?_
      refine AW.seq ?_
      obtain ⟨x26, hx27, hH⟩ := bindE hH
      obtain ⟨x28, hx29, hH⟩ := bindE hH
      obtain ⟨x30, hx31, hH⟩ := bindE hH
      refine AW.drawn 18 8 [] mix (by kernel_rfl) rfl ?_
      refine AD.pure T (d := .g [.v (.int .i64 y2.skater), .s (List.map encInt y2.scores)]) rfl rfl rfl ?_
      refine AD.val rfl rfl (callV_ok rfl rfl rfl rfl (spec_rkResult_ok _ _ (hx27)) rfl) ?_
      refine AD.pure T rfl rfl rfl ?_
      refine AD.pure T rfl rfl rfl ?_
      refine AD.pureG T [] rfl trivial rfl rfl ?_
      refine AD.pureG T [] rfl trivial rfl rfl ?_
      refine AD.pureG T [17] rfl ⟨fun h => h, trivial⟩ rfl rfl ?_
      refine AD.guard [16, 18] rfl ⟨fun h => h, fun h => h, trivial⟩ (fun hg => callLV_ok rfl rfl rfl (es := [.s (List.map encInt v24), .v (.int .i64 y2.skater)]) ⟨(.rowR rfl (.map fun y => .vs rfl)), .free rfl, trivial⟩ (spec_l1Has_ok _ _ _ (optT hx29 hg)) (zfree_v _) rfl) rfl ?_
      refine AD.val rfl rfl (pick_or rfl rfl rfl rfl) ?_
      refine AD.pure T rfl rfl rfl ?_
      refine AD.pureG T [] rfl trivial rfl rfl ?_
      refine AD.pureG T [22] rfl ⟨fun h => h, trivial⟩ rfl rfl ?_
      refine AD.guard [23] rfl ⟨fun h => h, trivial⟩ (fun hg => len_map_ok T rfl rfl rfl) rfl ?_
      refine AD.pureG T [] rfl trivial rfl rfl ?_
      refine AD.guard [25] rfl ⟨fun h => h, trivial⟩ (fun hg => ix_map_ok T rfl rfl rfl rfl rfl (optT hx31 hg) rfl) rfl ?_
      refine AD.pureG T [26] rfl ⟨fun h => h, trivial⟩ rfl rfl ?_
      refine AD.pureG T [27] rfl ⟨fun h => h, trivial⟩ rfl rfl ?_
      refine AD.guard [28] rfl ⟨fun h => h, trivial⟩ (fun hg => len_map_ok T rfl rfl rfl) rfl ?_
      refine AD.nil ?_
      refine AO.pureG T [24, 29] rfl ⟨fun h => h, fun h => h, trivial⟩ rfl rfl ?_
      refine AO.val rfl rfl (pick_or rfl rfl rfl rfl) ?_
      refine AO.nil ?_
      refine AW.le (Le.cut 0 0 (σ' := (⟨[(0, .s (List.map encResult l)), (3, .R 6), (5, .p 7 0), (6, .s (List.map encResult l)), (7, .v (.int .i64 (l.length : Int))), (8, .v (.int .i64 (k1 : Int))), (31, .v (.bool (((!x26) || x28) || ((y2.scores.length : Int) != (x30.scores.length : Int)))))], [(6, .row 1 (List.map encInt v24)), (7, .box [.v (.int .i64 y2.skater), .s (List.map encInt y2.scores)])], 41, []⟩ : St)) rfl (by repeat' (first | exact trivial | refine ⟨⟨_, rfl, rfl⟩, ?_⟩)) (by repeat' (first | exact trivial | refine ⟨⟨_, rfl, rfl⟩, ?_⟩)) rfl) ?_
      refine AW.cond (b := (((!x26) || x28) || ((y2.scores.length : Int) != (x30.scores.length : Int)))) rfl (fun hc => ?_) (fun hc => ?_)
      · replace hH := condT hc hH
        refine AW.seq ?_
        refine AW.region ?_
        refine AO.pure T rfl rfl rfl ?_
        refine AO.nil ?_
        refine AW.ret ?_
        cases someE hH
        exact ⟨trivial, _, [], rfl, .c (.c .v), by decide⟩
      · replace hH := condF hc hH
        refine AW.skip ?_
        obtain ⟨u32, hx33, hH⟩ := bindE hH
        refine AW.region ?_
        refine AO.pure T rfl rfl rfl ?_
        refine AO.pure T rfl rfl rfl ?_
        refine AO.pure T rfl rfl rfl ?_
        refine AO.step rfl (mk_map_ok T rfl 8 rfl rfl rfl rfl rfl (f := encInt) (l := [y2.skater]) rfl rfl (fun _ => rfl) rfl rfl rfl rfl rfl) ?_
        refine AO.step rfl (app_rv_map T rfl 9 rfl rfl rfl rfl rfl (by decide) rfl rfl rfl rfl (fun _ => rfl) (needT (hx33)) rfl rfl) ?_
        refine AO.pure T rfl rfl rfl ?_
        refine AO.nil ?_
        refine AW.region ?_
        refine AO.val rfl rfl (ar_ok rfl rfl rfl rfl (inI_succ hlt6 hb5)) ?_
        refine AO.pure T rfl rfl rfl ?_
        refine AO.nil ?_
        refine ⟨(k1 + 1, (v24 ++ [y2.skater])), ⟨Nat.succ_le_of_lt hlt6, (by rw [drop_succ_of hd4]; exact hH)⟩, (by have := hlt6; dsimp only; omega), ?_⟩
        exact Le.cut 9 6 rfl (by repeat' (first | exact trivial | refine ⟨⟨_, rfl, rfl⟩, ?_⟩)) (by repeat' (first | exact trivial | refine ⟨⟨_, rfl, rfl⟩, ?_⟩)) rfl

def spec_l1Own_p (l : List Int) : Option (List Int) :=
  (need (fitsB 8 l.length)).bind fun u1 =>
  some l
theorem spec_l1Own_ok (l : List Int) (r : (List Int)) (hH : spec_l1Own_p l = some r) : SpecR Try.prog 34 [.s (List.map encInt l)] (.w 1 (r.map encInt)) := by
  refine fn_ok T Try.func34 rfl (by decide) rfl ?_
  refine AW.seq ?_
  refine AW.region ?_
  refine AO.pure T rfl rfl rfl ?_
  refine AO.nil ?_
  refine AW.seq ?_
  obtain ⟨u1, hx2, hH⟩ := bindE hH
  refine AW.region ?_
  refine AO.step rfl (mk0_ok T rfl rfl rfl rfl) ?_
  refine AO.pure T rfl rfl rfl ?_
  refine AO.step rfl (app_ws_map T rfl 1 rfl rfl rfl rfl rfl (by decide) (by decide) rfl rfl (fun _ => rfl) (needT (hx2)) rfl rfl) ?_
  refine AO.pure T rfl rfl rfl ?_
  refine AO.nil ?_
  refine AW.ret ?_
  cases someE hH
  exact ⟨trivial, _, [1], rfl, .c (.c (.rowR rfl)), by decide⟩

def spec_evHead_l2 (e : Event) (v32 : List Int) (x34 : (List Int)) : Nat → Int → Option Bool
  | 0, _ => none
  | k38 + 1, v48 =>
    cond (decide (v48 < (((x34 ++ e.order)).length : Int)))
      ((getI (x34 ++ e.order) v48).bind fun x50 =>
      (spec_l1Has_p v32 x50).bind fun x52 =>
      cond (!x52)
        (some false)
        (spec_evHead_l2 e v32 x34 k38 (w64 (v48 + 1))))
      (some true)
def spec_evHead_l1 (e : Event) (fuel : Nat) : List Entrant → Nat → List Int → Option Bool
  | [], k17, v32 =>
    (spec_l1Own_p e.gone).bind fun x34 =>
    (need (fitsB 8 (x34.length + e.order.length))).bind fun u36 =>
    spec_evHead_l2 e v32 x34 fuel 0
  | y18 :: ys19, k17, v32 =>
    (getI e.results (k17 : Int)).bind fun x54 =>
    cond ((x54.skater != y18.skater) || ((x54.scores.length : Int) != e.segments))
      (some false)
      ((need (fitsB 8 (v32.length + ([y18.skater]).length))).bind fun u56 =>
      spec_evHead_l1 e fuel ys19 (k17 + 1) (v32 ++ [y18.skater]))
def spec_evHead_p (fuel : Nat) (e : Event) : Option Bool :=
  (spec_l1In_p e.segments 1 3).bind fun x1 =>
  (opt (!(!x1)) default (spec_soSize_p e.size)).bind fun x3 =>
  (opt (!((!x1) || (!x3))) default (spec_l1In_p e.key 0 1000000000)).bind fun x5 =>
  (opt (!(((!x1) || (!x3)) || (!x5))) default (spec_soEntrants_p e.entrants)).bind fun x7 =>
  (opt (!((((!x1) || (!x3)) || (!x5)) || (!x7))) default (spec_l1Rising_p e.gone 1 999)).bind fun x9 =>
  (opt (!(((((!x1) || (!x3)) || (!x5)) || (!x7)) || (!x9))) default (spec_l1In_p e.segment 0 e.segments)).bind fun x11 =>
  (opt (!((((((!x1) || (!x3)) || (!x5)) || (!x7)) || (!x9)) || (!x11))) default (spec_soOrder_p e.order)).bind fun x13 =>
  (opt (!(((((((!x1) || (!x3)) || (!x5)) || (!x7)) || (!x9)) || (!x11)) || (!x13))) default (spec_rkGood_p e.results)).bind fun x15 =>
  cond (((((((((!x1) || (!x3)) || (!x5)) || (!x7)) || (!x9)) || (!x11)) || (!x13)) || (!x15)) || ((e.results.length : Int) != (e.entrants.length : Int)))
    (some false)
    (spec_evHead_l1 e fuel e.entrants 0 [])
theorem spec_evHead_ok (fuel : Nat) (e : Event) (r : Bool) (hH : spec_evHead_p fuel e = some r) : SpecR Try.prog 22 [.g (encEvent e)] (.v (.bool r)) := by
  refine fn_ok T Try.func22 rfl (by decide) rfl ?_
  refine AW.seq ?_
  refine AW.region ?_
  refine AO.step rfl (box_ok T rfl 1 rfl rfl rfl rfl) ?_
  refine AO.pure T rfl rfl rfl ?_
  refine AO.nil ?_
  refine AW.seq ?_
  refine AW.seq ?_
  obtain ⟨x1, hx2, hH⟩ := bindE hH
  obtain ⟨x3, hx4, hH⟩ := bindE hH
  obtain ⟨x5, hx6, hH⟩ := bindE hH
  obtain ⟨x7, hx8, hH⟩ := bindE hH
  obtain ⟨x9, hx10, hH⟩ := bindE hH
  obtain ⟨x11, hx12, hH⟩ := bindE hH
  obtain ⟨x13, hx14, hH⟩ := bindE hH
  obtain ⟨x15, hx16, hH⟩ := bindE hH
  refine AW.region ?_
  refine AO.pure T rfl rfl rfl ?_
  refine AO.pure T rfl rfl rfl ?_
  refine AO.val rfl rfl (callV_ok rfl rfl rfl rfl (spec_l1In_ok _ _ _ _ (hx2)) rfl) ?_
  refine AO.pure T rfl rfl rfl ?_
  refine AO.pure T rfl rfl rfl ?_
  refine AO.pureG T [] rfl trivial rfl rfl ?_
  refine AO.pureG T [13] rfl ⟨fun h => h, trivial⟩ rfl rfl ?_
  refine AO.guard [14] rfl ⟨fun h => h, trivial⟩ (fun hg => callV_ok rfl rfl rfl rfl (spec_soSize_ok _ _ (optT hx4 hg)) rfl) rfl ?_
  refine AO.pureG T [15] rfl ⟨fun h => h, trivial⟩ rfl rfl ?_
  refine AO.val rfl rfl (pick_or rfl rfl rfl rfl) ?_
  refine AO.pure T rfl rfl rfl ?_
  refine AO.pureG T [] rfl trivial rfl rfl ?_
  refine AO.pureG T [19] rfl ⟨fun h => h, trivial⟩ rfl rfl ?_
  refine AO.guard [20] rfl ⟨fun h => h, trivial⟩ (fun hg => callV_ok rfl rfl rfl rfl (spec_l1In_ok _ _ _ _ (optT hx6 hg)) rfl) rfl ?_
  refine AO.pureG T [21] rfl ⟨fun h => h, trivial⟩ rfl rfl ?_
  refine AO.val rfl rfl (pick_or rfl rfl rfl rfl) ?_
  refine AO.pure T rfl rfl rfl ?_
  refine AO.pureG T [] rfl trivial rfl rfl ?_
  refine AO.pureG T [25] rfl ⟨fun h => h, trivial⟩ rfl rfl ?_
  refine AO.guard [26] rfl ⟨fun h => h, trivial⟩ (fun hg => callV_ok rfl rfl rfl rfl (spec_soEntrants_ok _ _ (optT hx8 hg)) rfl) rfl ?_
  refine AO.pureG T [27] rfl ⟨fun h => h, trivial⟩ rfl rfl ?_
  refine AO.val rfl rfl (pick_or rfl rfl rfl rfl) ?_
  refine AO.pure T rfl rfl rfl ?_
  refine AO.pureG T [] rfl trivial rfl rfl ?_
  refine AO.pureG T [31] rfl ⟨fun h => h, trivial⟩ rfl rfl ?_
  refine AO.guard [32] rfl ⟨fun h => h, trivial⟩ (fun hg => callV_ok rfl rfl rfl rfl (spec_l1Rising_ok _ _ _ _ (optT hx10 hg)) rfl) rfl ?_
  refine AO.pureG T [33] rfl ⟨fun h => h, trivial⟩ rfl rfl ?_
  refine AO.val rfl rfl (pick_or rfl rfl rfl rfl) ?_
  refine AO.pure T rfl rfl rfl ?_
  refine AO.pureG T [] rfl trivial rfl rfl ?_
  refine AO.pureG T [37] rfl ⟨fun h => h, trivial⟩ rfl rfl ?_
  refine AO.pureG T [] rfl trivial rfl rfl ?_
  refine AO.pureG T [39] rfl ⟨fun h => h, trivial⟩ rfl rfl ?_
  refine AO.guard [38, 40] rfl ⟨fun h => h, fun h => h, trivial⟩ (fun hg => callV_ok rfl rfl rfl rfl (spec_l1In_ok _ _ _ _ (optT hx12 hg)) rfl) rfl ?_
  refine AO.pureG T [41] rfl ⟨fun h => h, trivial⟩ rfl rfl ?_
  refine AO.val rfl rfl (pick_or rfl rfl rfl rfl) ?_
  refine AO.pure T rfl rfl rfl ?_
  refine AO.pureG T [] rfl trivial rfl rfl ?_
  refine AO.pureG T [45] rfl ⟨fun h => h, trivial⟩ rfl rfl ?_
  refine AO.guard [46] rfl ⟨fun h => h, trivial⟩ (fun hg => callV_ok rfl rfl rfl rfl (spec_soOrder_ok _ _ (optT hx14 hg)) rfl) rfl ?_
  refine AO.pureG T [47] rfl ⟨fun h => h, trivial⟩ rfl rfl ?_
  refine AO.val rfl rfl (pick_or rfl rfl rfl rfl) ?_
  refine AO.pure T rfl rfl rfl ?_
  refine AO.pureG T [] rfl trivial rfl rfl ?_
  refine AO.pureG T [51] rfl ⟨fun h => h, trivial⟩ rfl rfl ?_
  refine AO.guard [52] rfl ⟨fun h => h, trivial⟩ (fun hg => callV_ok rfl rfl rfl rfl (spec_rkGood_ok _ _ (optT hx16 hg)) rfl) rfl ?_
  refine AO.pureG T [53] rfl ⟨fun h => h, trivial⟩ rfl rfl ?_
  refine AO.val rfl rfl (pick_or rfl rfl rfl rfl) ?_
  refine AO.pure T rfl rfl rfl ?_
  refine AO.pureG T [] rfl trivial rfl rfl ?_
  refine AO.pureG T [57] rfl ⟨fun h => h, trivial⟩ rfl rfl ?_
  refine AO.guard [58] rfl ⟨fun h => h, trivial⟩ (fun hg => len_map_ok T rfl rfl rfl) rfl ?_
  refine AO.pureG T [] rfl trivial rfl rfl ?_
  refine AO.pureG T [60] rfl ⟨fun h => h, trivial⟩ rfl rfl ?_
  refine AO.guard [61] rfl ⟨fun h => h, trivial⟩ (fun hg => len_map_ok T rfl rfl rfl) rfl ?_
  refine AO.pureG T [59, 62] rfl ⟨fun h => h, fun h => h, trivial⟩ rfl rfl ?_
  refine AO.val rfl rfl (pick_or rfl rfl rfl rfl) ?_
  refine AO.nil ?_
  refine AW.le (Le.cut 0 0 (σ' := (⟨[(1, .p 1 0), (64, .v (.bool (((((((((!x1) || (!x3)) || (!x5)) || (!x7)) || (!x9)) || (!x11)) || (!x13)) || (!x15)) || ((e.results.length : Int) != (e.entrants.length : Int)))))], [(1, .box [.v (.int .i64 e.segments), .v (.int .i64 e.size), .v (.int .i64 e.key), .s (List.map encEntrant e.entrants), .s (List.map encInt e.gone), .v (.int .i64 e.segment), .s (List.map encInt e.order), .s (List.map encResult e.results)])], 116, []⟩ : St)) rfl (by repeat' (first | exact trivial | refine ⟨⟨_, rfl, rfl⟩, ?_⟩)) (by repeat' (first | exact trivial | refine ⟨⟨_, rfl, rfl⟩, ?_⟩)) rfl) ?_
  refine AW.cond (b := (((((((((!x1) || (!x3)) || (!x5)) || (!x7)) || (!x9)) || (!x11)) || (!x13)) || (!x15)) || ((e.results.length : Int) != (e.entrants.length : Int)))) rfl (fun hc => ?_) (fun hc => ?_)
  · replace hH := condT hc hH
    refine AW.seq ?_
    refine AW.region ?_
    refine AO.pure T rfl rfl rfl ?_
    refine AO.nil ?_
    refine AW.ret ?_
    cases someE hH
    exact ⟨trivial, _, [], rfl, .c (.c .v), by decide⟩
  · replace hH := condF hc hH
    refine AW.skip ?_
    refine AW.seq ?_
    refine AW.region ?_
    refine AO.pure T rfl rfl rfl ?_
    refine AO.nil ?_
    refine AW.seq ?_
    refine AW.seq ?_
    refine AW.region ?_
    refine AO.pure T rfl rfl rfl ?_
    refine AO.pure T rfl rfl rfl ?_
    refine AO.val rfl rfl (len_map_ok T rfl rfl rfl) ?_
    refine AO.pure T rfl rfl rfl ?_
    refine AO.nil ?_
    refine AW.block ?_
    refine AW.loopS (fun s : Nat × (List Int) => (⟨[(1, .p 1 0), (3, .R 7), (66, .s (List.map encEntrant e.entrants)), (67, .v (.int .i64 (e.entrants.length : Int))), (68, .v (.int .i64 (s.1 : Int)))], [(1, .box [.v (.int .i64 e.segments), .v (.int .i64 e.size), .v (.int .i64 e.key), .s (List.map encEntrant e.entrants), .s (List.map encInt e.gone), .v (.int .i64 e.segment), .s (List.map encInt e.order), .s (List.map encResult e.results)]), (7, .row 1 (List.map encInt s.2))], 116, []⟩ : St)) (fun s => s.1 ≤ e.entrants.length ∧ spec_evHead_l1 e fuel (e.entrants.drop s.1) s.1 s.2 = some r) (fun s => e.entrants.length - s.1) (0, []) ⟨Nat.zero_le _, hH⟩ ?_ ?_
    · refine Le.trans (Le.void 3 7 1 rfl rfl) ?_
      exact Le.cut 0 0 rfl (by repeat' (first | exact trivial | refine ⟨⟨_, rfl, rfl⟩, ?_⟩)) (by repeat' (first | exact trivial | refine ⟨⟨_, rfl, rfl⟩, ?_⟩)) rfl
    · rintro ⟨k17, v32⟩ ⟨hk, hH⟩
      replace hH : spec_evHead_l1 e fuel (e.entrants.drop k17) k17 v32 = some r := hH
      show AW _ _ _ (⟨[(1, .p 1 0), (3, .R 7), (66, .s (List.map encEntrant e.entrants)), (67, .v (.int .i64 (e.entrants.length : Int))), (68, .v (.int .i64 (k17 : Int)))], [(1, .box [.v (.int .i64 e.segments), .v (.int .i64 e.size), .v (.int .i64 e.key), .s (List.map encEntrant e.entrants), .s (List.map encInt e.gone), .v (.int .i64 e.segment), .s (List.map encInt e.order), .s (List.map encResult e.results)]), (7, .row 1 (List.map encInt v32))], 116, []⟩ : St)
      refine AW.boundM (t := 66) (l := e.entrants) rfl (fun hb21 => ?_)
      cases hd20 : e.entrants.drop k17 with
      | nil =>
        rw [hd20] at hH
        rw [spec_evHead_l1] at hH
        have hlt22 := drop_ge hd20
        refine AW.seq ?_
        refine AW.region ?_
        refine AO.pure T rfl rfl rfl ?_
        refine AO.nil ?_
        refine AW.seq ?_
        refine AW.condF' (b := decide ((k17 : Int) < (e.entrants.length : Int))) rfl (rngF hlt22) ?_
        refine AW.exit ?_
        refine AW.seq ?_
        refine AW.seq ?_
        obtain ⟨x34, hx35, hH⟩ := bindE hH
        obtain ⟨u36, hx37, hH⟩ := bindE hH
        refine AW.drawn 8 8 [] mix (by kernel_rfl) rfl ?_
        refine AD.pure T rfl rfl rfl ?_
        refine AD.pure T rfl rfl rfl ?_
        refine AD.q (FStep.call rfl rfl rfl rfl rfl (spec_l1Own_ok _ _ (hx35)) rfl rfl) (impT_names _ _) (impT_le _ _) rfl ?_
        refine AD.pure T rfl rfl rfl ?_
        refine AD.pure T rfl rfl rfl ?_
        refine AD.k rfl rfl (FStep.app_rs T rfl rfl rfl rfl rfl rfl rfl (by decide) (by decide) rfl rfl rfl (fun _ => rfl) (needT (hx37)) rfl) rfl rfl rfl ?_
        refine AD.vald rfl rfl rfl (len_row_ok T rfl rfl rfl rfl) ?_
        refine AD.pure T rfl rfl rfl ?_
        refine AD.nil ?_
        refine AO.nil ?_
        refine AW.block ?_
        refine AW.loopS (fun s : Nat × Int => (⟨[(3, .R 7), (105, .R 9), (106, .v (.int .i64 (((x34 ++ e.order)).length : Int))), (107, .v (.int .i64 s.2))], [(7, .row 1 (List.map encInt v32)), (9, .row 1 (List.map encInt (x34 ++ e.order)))], 116, []⟩ : St)) (fun s => spec_evHead_l2 e v32 x34 s.1 s.2 = some r) (fun s => s.1) (fuel, 0) hH ?_ ?_
        · exact Le.cut 0 0 rfl (by repeat' (first | exact trivial | refine ⟨⟨_, rfl, rfl⟩, ?_⟩)) (by repeat' (first | exact trivial | refine ⟨⟨_, rfl, rfl⟩, ?_⟩)) rfl
        · rintro ⟨k38, v48⟩ hH
          replace hH : spec_evHead_l2 e v32 x34 k38 v48 = some r := hH
          show AW _ _ _ (⟨[(3, .R 7), (105, .R 9), (106, .v (.int .i64 (((x34 ++ e.order)).length : Int))), (107, .v (.int .i64 v48))], [(7, .row 1 (List.map encInt v32)), (9, .row 1 (List.map encInt (x34 ++ e.order)))], 116, []⟩ : St)
          cases k38 with
          | zero => cases (show none = some _ from hH)
          | succ k38 =>
            rw [spec_evHead_l2] at hH
            refine AW.seq ?_
            refine AW.region ?_
            refine AO.pure T rfl rfl rfl ?_
            refine AO.nil ?_
            refine AW.seq ?_
            refine AW.cond (b := decide (v48 < (((x34 ++ e.order)).length : Int))) rfl (fun hc => ?_) (fun hc => ?_)
            · replace hH := condT hc hH
              refine AW.skip ?_
              refine AW.seq ?_
              refine AW.block ?_
              refine AW.seq ?_
              obtain ⟨x50, hx51, hH⟩ := bindE hH
              refine AW.region ?_
              refine AO.val rfl rfl (ix_row_ok T rfl rfl rfl rfl rfl rfl (hx51)) ?_
              refine AO.val rfl rfl (load_row_ok T rfl rfl rfl rfl (getI_get (hx51)) rfl rfl rfl) ?_
              refine AO.pure T rfl rfl rfl ?_
              refine AO.nil ?_
              refine AW.seq ?_
              obtain ⟨x52, hx53, hH⟩ := bindE hH
              refine AW.region ?_
              refine AO.pure T rfl rfl rfl ?_
              refine AO.pure T rfl rfl rfl ?_
              refine AO.val rfl rfl (callLV_ok rfl rfl rfl (es := [.s (List.map encInt v32), .v (.int .i64 x50)]) ⟨(.rowR rfl (.map fun y => .vs rfl)), .free rfl, trivial⟩ (spec_l1Has_ok _ _ _ (hx53)) (zfree_v _) rfl) ?_
              refine AO.pure T rfl rfl rfl ?_
              refine AO.nil ?_
              refine AW.cond (b := (!x52)) rfl (fun hc => ?_) (fun hc => ?_)
              · replace hH := condT hc hH
                refine AW.seq ?_
                refine AW.region ?_
                refine AO.pure T rfl rfl rfl ?_
                refine AO.nil ?_
                refine AW.ret ?_
                cases someE hH
                exact ⟨trivial, _, [], rfl, .c (.c .v), by decide⟩
              · replace hH := condF hc hH
                refine AW.skip ?_
                refine AW.region ?_
                refine AO.val rfl rfl (arw_ok rfl rfl rfl rfl) ?_
                refine AO.pure T rfl rfl rfl ?_
                refine AO.nil ?_
                refine ⟨(k38, w64 (v48 + 1)), hH, Nat.lt_succ_self _, ?_⟩
                exact Le.cut 0 0 rfl (by repeat' (first | exact trivial | refine ⟨⟨_, rfl, rfl⟩, ?_⟩)) (by repeat' (first | exact trivial | refine ⟨⟨_, rfl, rfl⟩, ?_⟩)) rfl
            · replace hH := condF hc hH
              refine AW.exit ?_
              refine AW.seq ?_
              refine AW.region ?_
              refine AO.pure T rfl rfl rfl ?_
              refine AO.nil ?_
              refine AW.ret ?_
              cases someE hH
              exact ⟨trivial, _, [], rfl, .c (.c .v), by decide⟩
      | cons y18 ys19 =>
        rw [hd20] at hH
        rw [spec_evHead_l1] at hH
        have hlt22 := drop_lt hd20
        refine AW.seq ?_
        refine AW.region ?_
        refine AO.pure T rfl rfl rfl ?_
        refine AO.nil ?_
        refine AW.seq ?_
        refine AW.condT' (b := decide ((k17 : Int) < (e.entrants.length : Int))) rfl (rngT hlt22) ?_
        refine AW.skip ?_
        refine AW.seq ?_
        refine AW.block ?_
        refine AW.seq ?_
        refine AW.region ?_
        refine AO.pure T rfl rfl rfl ?_
        refine AO.val rfl rfl (ix_map_ok T rfl rfl rfl rfl rfl (getI_drop hd20) rfl) ?_
        refine AO.pure T (d := .g [.v (.int .i64 y18.skater), .v (.int .i64 y18.rank)]) rfl rfl rfl ?_
        refine AO.step rfl (alloc_ok T rfl 10 rfl rfl rfl rfl rfl) ?_
        refine AO.pure T rfl rfl rfl ?_
        refine AO.step rfl (store_okE T rfl rfl rfl rfl rfl rfl rfl rfl rfl (ds' := [.v (.int .i64 y18.skater), .v (.int .i64 y18.rank)]) rfl) ?_
        refine AO.nil ?_
        refine AW.seq ?_
        refine AW.seq ?_
        obtain ⟨x54, hx55, hH⟩ := bindE hH
        refine AW.drawn 19 11 [] mix (by kernel_rfl) rfl ?_
        refine AD.pure T rfl rfl rfl ?_
        refine AD.pure T rfl rfl rfl ?_
        refine AD.pure T rfl rfl rfl ?_
        refine AD.val rfl rfl (ix_map_ok T rfl rfl rfl rfl rfl (hx55) rfl) ?_
        refine AD.pure T rfl rfl rfl ?_
        refine AD.pure T rfl rfl rfl ?_
        refine AD.pure T rfl rfl rfl ?_
        refine AD.pure T rfl rfl rfl ?_
        refine AD.pure T rfl rfl rfl ?_
        refine AD.pure T rfl rfl rfl ?_
        refine AD.pureG T [] rfl trivial rfl rfl ?_
        refine AD.pureG T [83] rfl ⟨fun h => h, trivial⟩ rfl rfl ?_
        refine AD.pureG T [] rfl trivial rfl rfl ?_
        refine AD.guard [84, 85] rfl ⟨fun h => h, fun h => h, trivial⟩ (fun hg => ix_map_ok T rfl rfl rfl rfl rfl (hx55) rfl) rfl ?_
        refine AD.pureG T [86] rfl ⟨fun h => h, trivial⟩ rfl rfl ?_
        refine AD.pureG T [87] rfl ⟨fun h => h, trivial⟩ rfl rfl ?_
        refine AD.guard [88] rfl ⟨fun h => h, trivial⟩ (fun hg => len_map_ok T rfl rfl rfl) rfl ?_
        refine AD.pureG T [] rfl trivial rfl rfl ?_
        refine AD.pureG T [90] rfl ⟨fun h => h, trivial⟩ rfl rfl ?_
        refine AD.nil ?_
        refine AO.pureG T [89, 91] rfl ⟨fun h => h, fun h => h, trivial⟩ rfl rfl ?_
        refine AO.val rfl rfl (pick_or rfl rfl rfl rfl) ?_
        refine AO.nil ?_
        refine AW.le (Le.cut 0 0 (σ' := (⟨[(1, .p 1 0), (3, .R 7), (5, .p 10 0), (66, .s (List.map encEntrant e.entrants)), (67, .v (.int .i64 (e.entrants.length : Int))), (68, .v (.int .i64 (k17 : Int))), (93, .v (.bool ((x54.skater != y18.skater) || ((x54.scores.length : Int) != e.segments))))], [(1, .box [.v (.int .i64 e.segments), .v (.int .i64 e.size), .v (.int .i64 e.key), .s (List.map encEntrant e.entrants), .s (List.map encInt e.gone), .v (.int .i64 e.segment), .s (List.map encInt e.order), .s (List.map encResult e.results)]), (7, .row 1 (List.map encInt v32)), (10, .box [.v (.int .i64 y18.skater), .v (.int .i64 y18.rank)])], 116, []⟩ : St)) rfl (by repeat' (first | exact trivial | refine ⟨⟨_, rfl, rfl⟩, ?_⟩)) (by repeat' (first | exact trivial | refine ⟨⟨_, rfl, rfl⟩, ?_⟩)) rfl) ?_
        refine AW.cond (b := ((x54.skater != y18.skater) || ((x54.scores.length : Int) != e.segments))) rfl (fun hc => ?_) (fun hc => ?_)
        · replace hH := condT hc hH
          refine AW.seq ?_
          refine AW.region ?_
          refine AO.pure T rfl rfl rfl ?_
          refine AO.nil ?_
          refine AW.ret ?_
          cases someE hH
          exact ⟨trivial, _, [], rfl, .c (.c .v), by decide⟩
        · replace hH := condF hc hH
          refine AW.skip ?_
          obtain ⟨u56, hx57, hH⟩ := bindE hH
          refine AW.region ?_
          refine AO.pure T rfl rfl rfl ?_
          refine AO.pure T rfl rfl rfl ?_
          refine AO.pure T rfl rfl rfl ?_
          refine AO.step rfl (mk_map_ok T rfl 11 rfl rfl rfl rfl rfl (f := encInt) (l := [y18.skater]) rfl rfl (fun _ => rfl) rfl rfl rfl rfl rfl) ?_
          refine AO.step rfl (app_rv_map T rfl 12 rfl rfl rfl rfl rfl (by decide) rfl rfl rfl rfl (fun _ => rfl) (needT (hx57)) rfl rfl) ?_
          refine AO.pure T rfl rfl rfl ?_
          refine AO.nil ?_
          refine AW.region ?_
          refine AO.val rfl rfl (ar_ok rfl rfl rfl rfl (inI_succ hlt22 hb21)) ?_
          refine AO.pure T rfl rfl rfl ?_
          refine AO.nil ?_
          refine ⟨(k17 + 1, (v32 ++ [y18.skater])), ⟨Nat.succ_le_of_lt hlt22, (by rw [drop_succ_of hd20]; exact hH)⟩, (by have := hlt22; dsimp only; omega), ?_⟩
          exact Le.cut 12 7 rfl (by repeat' (first | exact trivial | refine ⟨⟨_, rfl, rfl⟩, ?_⟩)) (by repeat' (first | exact trivial | refine ⟨⟨_, rfl, rfl⟩, ?_⟩)) rfl

def spec_rkTotal_l1 : List Int → Nat → Int → Int → Option ((Int × Int))
  | [], k1, v9, v10 =>
    some (v9, v10)
  | y2 :: ys3, k1, v9, v10 =>
    cond (decide (y2 ≥ 0))
      (spec_rkTotal_l1 ys3 (k1 + 1) (w64 (v9 + y2)) (w64 (v10 + 1)))
      (spec_rkTotal_l1 ys3 (k1 + 1) v9 v10)
def spec_rkTotal_p (rA : Result) : Option (Int × Int) :=
  spec_rkTotal_l1 rA.scores 0 0 0
theorem spec_rkTotal_ok (rA : Result) (r : (Int × Int)) (hH : spec_rkTotal_p rA = some r) : SpecR Try.prog 39 [.g (encResult rA)] (.t [.v (.int .i64 r.1), .v (.int .i64 r.2)]) := by
  refine fn_ok T Try.func39 rfl (by decide) rfl ?_
  refine AW.seq ?_
  refine AW.region ?_
  refine AO.step rfl (box_ok T rfl 1 rfl rfl rfl rfl) ?_
  refine AO.pure T rfl rfl rfl ?_
  refine AO.pure T rfl rfl rfl ?_
  refine AO.nil ?_
  refine AW.seq ?_
  refine AW.region ?_
  refine AO.pure T rfl rfl rfl ?_
  refine AO.pure T rfl rfl rfl ?_
  refine AO.nil ?_
  refine AW.seq ?_
  refine AW.seq ?_
  refine AW.region ?_
  refine AO.pure T rfl rfl rfl ?_
  refine AO.pure T rfl rfl rfl ?_
  refine AO.val rfl rfl (len_map_ok T rfl rfl rfl) ?_
  refine AO.pure T rfl rfl rfl ?_
  refine AO.nil ?_
  refine AW.block ?_
  refine AW.loopS (fun s : Nat × Int × Int => (⟨[(4, .v (.int .i64 s.2.1)), (5, .v (.int .i64 s.2.2)), (9, .s (List.map encInt rA.scores)), (10, .v (.int .i64 (rA.scores.length : Int))), (11, .v (.int .i64 (s.1 : Int)))], [], 25, []⟩ : St)) (fun s => s.1 ≤ rA.scores.length ∧ spec_rkTotal_l1 (rA.scores.drop s.1) s.1 s.2.1 s.2.2 = some r) (fun s => rA.scores.length - s.1) (0, 0, 0) ⟨Nat.zero_le _, hH⟩ ?_ ?_
  · exact Le.cut 0 0 rfl (by repeat' (first | exact trivial | refine ⟨⟨_, rfl, rfl⟩, ?_⟩)) (by repeat' (first | exact trivial | refine ⟨⟨_, rfl, rfl⟩, ?_⟩)) rfl
  · rintro ⟨k1, v9, v10⟩ ⟨hk, hH⟩
    replace hH : spec_rkTotal_l1 (rA.scores.drop k1) k1 v9 v10 = some r := hH
    show AW _ _ _ (⟨[(4, .v (.int .i64 v9)), (5, .v (.int .i64 v10)), (9, .s (List.map encInt rA.scores)), (10, .v (.int .i64 (rA.scores.length : Int))), (11, .v (.int .i64 (k1 : Int)))], [], 25, []⟩ : St)
    refine AW.boundM (t := 9) (l := rA.scores) rfl (fun hb5 => ?_)
    cases hd4 : rA.scores.drop k1 with
    | nil =>
      rw [hd4] at hH
      rw [spec_rkTotal_l1] at hH
      have hlt6 := drop_ge hd4
      refine AW.seq ?_
      refine AW.region ?_
      refine AO.pure T rfl rfl rfl ?_
      refine AO.nil ?_
      refine AW.seq ?_
      refine AW.condF' (b := decide ((k1 : Int) < (rA.scores.length : Int))) rfl (rngF hlt6) ?_
      refine AW.exit ?_
      refine AW.seq ?_
      refine AW.region ?_
      refine AO.pure T rfl rfl rfl ?_
      refine AO.pure T rfl rfl rfl ?_
      refine AO.pure T rfl rfl rfl ?_
      refine AO.pure T rfl rfl rfl ?_
      refine AO.nil ?_
      refine AW.ret ?_
      cases someE hH
      exact ⟨trivial, _, [], rfl, .t (expLG_cons (.c .v) (expLG_cons (.c .v) (expLG_nil))), by decide⟩
    | cons y2 ys3 =>
      rw [hd4] at hH
      rw [spec_rkTotal_l1] at hH
      have hlt6 := drop_lt hd4
      refine AW.seq ?_
      refine AW.region ?_
      refine AO.pure T rfl rfl rfl ?_
      refine AO.nil ?_
      refine AW.seq ?_
      refine AW.condT' (b := decide ((k1 : Int) < (rA.scores.length : Int))) rfl (rngT hlt6) ?_
      refine AW.skip ?_
      refine AW.seq ?_
      refine AW.block ?_
      refine AW.seq ?_
      refine AW.region ?_
      refine AO.val rfl rfl (ix_map_ok T rfl rfl rfl rfl rfl (getI_drop hd4) rfl) ?_
      refine AO.pure T rfl rfl rfl ?_
      refine AO.pure T rfl rfl rfl ?_
      refine AO.nil ?_
      refine AW.seq ?_
      refine AW.region ?_
      refine AO.pure T rfl rfl rfl ?_
      refine AO.pure T rfl rfl rfl ?_
      refine AO.nil ?_
      refine AW.cond (b := decide (y2 ≥ 0)) rfl (fun hc => ?_) (fun hc => ?_)
      · replace hH := condT hc hH
        refine AW.seq ?_
        refine AW.region ?_
        refine AO.pure T rfl rfl rfl ?_
        refine AO.pure T rfl rfl rfl ?_
        refine AO.val rfl rfl (arw_ok rfl rfl rfl rfl) ?_
        refine AO.pure T rfl rfl rfl ?_
        refine AO.nil ?_
        refine AW.region ?_
        refine AO.pure T rfl rfl rfl ?_
        refine AO.val rfl rfl (arw_ok rfl rfl rfl rfl) ?_
        refine AO.pure T rfl rfl rfl ?_
        refine AO.nil ?_
        refine AW.region ?_
        refine AO.val rfl rfl (ar_ok rfl rfl rfl rfl (inI_succ hlt6 hb5)) ?_
        refine AO.pure T rfl rfl rfl ?_
        refine AO.nil ?_
        refine ⟨(k1 + 1, w64 (v9 + y2), w64 (v10 + 1)), ⟨Nat.succ_le_of_lt hlt6, (by rw [drop_succ_of hd4]; exact hH)⟩, (by have := hlt6; dsimp only; omega), ?_⟩
        exact Le.cut 0 0 rfl (by repeat' (first | exact trivial | refine ⟨⟨_, rfl, rfl⟩, ?_⟩)) (by repeat' (first | exact trivial | refine ⟨⟨_, rfl, rfl⟩, ?_⟩)) rfl
      · replace hH := condF hc hH
        refine AW.skip ?_
        refine AW.region ?_
        refine AO.val rfl rfl (ar_ok rfl rfl rfl rfl (inI_succ hlt6 hb5)) ?_
        refine AO.pure T rfl rfl rfl ?_
        refine AO.nil ?_
        refine ⟨(k1 + 1, v9, v10), ⟨Nat.succ_le_of_lt hlt6, (by rw [drop_succ_of hd4]; exact hH)⟩, (by have := hlt6; dsimp only; omega), ?_⟩
        exact Le.cut 0 0 rfl (by repeat' (first | exact trivial | refine ⟨⟨_, rfl, rfl⟩, ?_⟩)) (by repeat' (first | exact trivial | refine ⟨⟨_, rfl, rfl⟩, ?_⟩)) rfl

def spec_evScores_p (rA : Result) : Option Int :=
  (spec_rkTotal_p rA).bind fun x1 =>
  some x1.2
theorem spec_evScores_ok (rA : Result) (r : Int) (hH : spec_evScores_p rA = some r) : SpecR Try.prog 36 [.g (encResult rA)] (.v (.int .i64 r)) := by
  refine fn_ok T Try.func36 rfl (by decide) rfl ?_
  refine AW.seq ?_
  refine AW.region ?_
  refine AO.step rfl (box_ok T rfl 1 rfl rfl rfl rfl) ?_
  refine AO.pure T rfl rfl rfl ?_
  refine AO.nil ?_
  refine AW.seq ?_
  obtain ⟨x1, hx2, hH⟩ := bindE hH
  refine AW.region ?_
  refine AO.pure T (d := .g [.v (.int .i64 rA.skater), .s (List.map encInt rA.scores)]) rfl rfl rfl ?_
  refine AO.val rfl rfl (callV_ok rfl rfl rfl rfl (spec_rkTotal_ok _ _ (hx2)) rfl) ?_
  refine AO.pure T rfl rfl rfl ?_
  refine AO.pure T rfl rfl rfl ?_
  refine AO.pure T rfl rfl rfl ?_
  refine AO.pure T rfl rfl rfl ?_
  refine AO.pure T rfl rfl rfl ?_
  refine AO.nil ?_
  refine AW.seq ?_
  refine AW.region ?_
  refine AO.pure T rfl rfl rfl ?_
  refine AO.pure T rfl rfl rfl ?_
  refine AO.nil ?_
  refine AW.ret ?_
  cases someE hH
  exact ⟨trivial, _, [], rfl, .c (.c .v), by decide⟩

def spec_evResult_p (e : Event) (rA : Result) : Option Bool :=
  (spec_evScores_p rA).bind fun x1 =>
  (opt (decide (x1 > e.segment)) default (spec_l1Has_p e.order rA.skater)).bind fun x3 =>
  cond (decide (x1 > e.segment) && (!x3))
    (some false)
    ((spec_l1Has_p e.gone rA.skater).bind fun x5 =>
    cond x5
      ((opt (decide (x1 ≤ (w64 (e.segment + 1))) && (!(decide (x1 > e.segment)))) default (spec_l1Has_p e.order rA.skater)).bind fun x7 =>
      some (decide (x1 ≤ (w64 (e.segment + 1))) && (decide (x1 > e.segment) || (!x7))))
      ((spec_l1In_p x1 e.segment (w64 (e.segment + 1))).bind fun x9 =>
      (opt (x9 && (!((e.order.length : Int) == 0))) default (spec_l1Has_p e.order rA.skater)).bind fun x11 =>
      some (x9 && (((e.order.length : Int) == 0) || x11))))
theorem spec_evResult_ok (e : Event) (rA : Result) (r : Bool) (hH : spec_evResult_p e rA = some r) : SpecR Try.prog 23 [.g (encEvent e), .g (encResult rA)] (.v (.bool r)) := by
  refine fn_ok T Try.func23 rfl (by decide) rfl ?_
  refine AW.seq ?_
  refine AW.region ?_
  refine AO.step rfl (box_ok T rfl 1 rfl rfl rfl rfl) ?_
  refine AO.step rfl (box_ok T rfl 2 rfl rfl rfl rfl) ?_
  refine AO.pure T rfl rfl rfl ?_
  refine AO.nil ?_
  refine AW.seq ?_
  obtain ⟨x1, hx2, hH⟩ := bindE hH
  refine AW.region ?_
  refine AO.pure T (d := .g [.v (.int .i64 rA.skater), .s (List.map encInt rA.scores)]) rfl rfl rfl ?_
  refine AO.val rfl rfl (callV_ok rfl rfl rfl rfl (spec_evScores_ok _ _ (hx2)) rfl) ?_
  refine AO.pure T rfl rfl rfl ?_
  refine AO.nil ?_
  refine AW.seq ?_
  refine AW.seq ?_
  obtain ⟨x3, hx4, hH⟩ := bindE hH
  refine AW.region ?_
  refine AO.pure T rfl rfl rfl ?_
  refine AO.pure T rfl rfl rfl ?_
  refine AO.pure T rfl rfl rfl ?_
  refine AO.pure T rfl rfl rfl ?_
  refine AO.pure T rfl rfl rfl ?_
  refine AO.pureG T [] rfl trivial rfl rfl ?_
  refine AO.pureG T [13] rfl ⟨fun h => h, trivial⟩ rfl rfl ?_
  refine AO.pureG T [] rfl trivial rfl rfl ?_
  refine AO.pureG T [15] rfl ⟨fun h => h, trivial⟩ rfl rfl ?_
  refine AO.guard [14, 16] rfl ⟨fun h => h, fun h => h, trivial⟩ (fun hg => callV_ok rfl rfl rfl rfl (spec_l1Has_ok _ _ _ (optT hx4 hg)) rfl) rfl ?_
  refine AO.pureG T [17] rfl ⟨fun h => h, trivial⟩ rfl rfl ?_
  refine AO.val rfl rfl (pick_and rfl rfl rfl rfl) ?_
  refine AO.nil ?_
  refine AW.cond (b := (decide (x1 > e.segment) && (!x3))) rfl (fun hc => ?_) (fun hc => ?_)
  · replace hH := condT hc hH
    refine AW.seq ?_
    refine AW.region ?_
    refine AO.pure T rfl rfl rfl ?_
    refine AO.nil ?_
    refine AW.ret ?_
    cases someE hH
    exact ⟨trivial, _, [], rfl, .c (.c .v), by decide⟩
  · replace hH := condF hc hH
    refine AW.skip ?_
    refine AW.seq ?_
    refine AW.seq ?_
    obtain ⟨x5, hx6, hH⟩ := bindE hH
    refine AW.region ?_
    refine AO.pure T rfl rfl rfl ?_
    refine AO.pure T rfl rfl rfl ?_
    refine AO.pure T rfl rfl rfl ?_
    refine AO.pure T rfl rfl rfl ?_
    refine AO.val rfl rfl (callV_ok rfl rfl rfl rfl (spec_l1Has_ok _ _ _ (hx6)) rfl) ?_
    refine AO.nil ?_
    refine AW.cond (b := x5) rfl (fun hc => ?_) (fun hc => ?_)
    · replace hH := condT hc hH
      refine AW.seq ?_
      obtain ⟨x7, hx8, hH⟩ := bindE hH
      refine AW.region ?_
      refine AO.pure T rfl rfl rfl ?_
      refine AO.pure T rfl rfl rfl ?_
      refine AO.pure T rfl rfl rfl ?_
      refine AO.val rfl rfl (arw_ok rfl rfl rfl rfl) ?_
      refine AO.pure T rfl rfl rfl ?_
      refine AO.pure T rfl rfl rfl ?_
      refine AO.pureG T [] rfl trivial rfl rfl ?_
      refine AO.pureG T [] rfl trivial rfl rfl ?_
      refine AO.pureG T [32] rfl ⟨fun h => h, trivial⟩ rfl rfl ?_
      refine AO.pureG T [31, 33] rfl ⟨fun h => h, fun h => h, trivial⟩ rfl rfl ?_
      refine AO.pureG T [34] rfl ⟨fun h => h, trivial⟩ rfl rfl ?_
      refine AO.pureG T [] rfl trivial rfl rfl ?_
      refine AO.pureG T [36] rfl ⟨fun h => h, trivial⟩ rfl rfl ?_
      refine AO.pureG T [] rfl trivial rfl rfl ?_
      refine AO.pureG T [38] rfl ⟨fun h => h, trivial⟩ rfl rfl ?_
      refine AO.guard [37, 39] rfl ⟨fun h => h, fun h => h, trivial⟩ (fun hg => callV_ok rfl rfl rfl rfl (spec_l1Has_ok _ _ _ (optT hx8 hg)) rfl) rfl ?_
      refine AO.pureG T [40] rfl ⟨fun h => h, trivial⟩ rfl rfl ?_
      refine AO.guard [35] rfl ⟨fun h => h, trivial⟩ (fun hg => pick_or rfl rfl rfl (by rw [hg]; exact Bool.true_and _)) rfl ?_
      refine AO.val rfl rfl (pick_and rfl rfl rfl rfl) ?_
      refine AO.pure T rfl rfl rfl ?_
      refine AO.nil ?_
      refine AW.le (Le.cut 0 0 (σ' := (⟨[(4, .v (.bool (decide (x1 ≤ (w64 (e.segment + 1))) && (decide (x1 > e.segment) || (!x7)))))], [], 64, []⟩ : St)) rfl (by repeat' (first | exact trivial | refine ⟨⟨_, rfl, rfl⟩, ?_⟩)) (by repeat' (first | exact trivial | refine ⟨⟨_, rfl, rfl⟩, ?_⟩)) rfl) ?_
      refine AW.ret ?_
      cases someE hH
      exact ⟨trivial, _, [], rfl, .c (.c .v), by decide⟩
    · replace hH := condF hc hH
      refine AW.skip ?_
      refine AW.seq ?_
      obtain ⟨x9, hx10, hH⟩ := bindE hH
      obtain ⟨x11, hx12, hH⟩ := bindE hH
      refine AW.region ?_
      refine AO.pure T rfl rfl rfl ?_
      refine AO.pure T rfl rfl rfl ?_
      refine AO.pure T rfl rfl rfl ?_
      refine AO.pure T rfl rfl rfl ?_
      refine AO.pure T rfl rfl rfl ?_
      refine AO.val rfl rfl (arw_ok rfl rfl rfl rfl) ?_
      refine AO.val rfl rfl (callV_ok rfl rfl rfl rfl (spec_l1In_ok _ _ _ _ (hx10)) rfl) ?_
      refine AO.pure T rfl rfl rfl ?_
      refine AO.pureG T [] rfl trivial rfl rfl ?_
      refine AO.pureG T [52] rfl ⟨fun h => h, trivial⟩ rfl rfl ?_
      refine AO.guard [53] rfl ⟨fun h => h, trivial⟩ (fun hg => len_map_ok T rfl rfl rfl) rfl ?_
      refine AO.pureG T [54] rfl ⟨fun h => h, trivial⟩ rfl rfl ?_
      refine AO.pureG T [55] rfl ⟨fun h => h, trivial⟩ rfl rfl ?_
      refine AO.pureG T [] rfl trivial rfl rfl ?_
      refine AO.pureG T [57] rfl ⟨fun h => h, trivial⟩ rfl rfl ?_
      refine AO.pureG T [] rfl trivial rfl rfl ?_
      refine AO.pureG T [59] rfl ⟨fun h => h, trivial⟩ rfl rfl ?_
      refine AO.guard [58, 60] rfl ⟨fun h => h, fun h => h, trivial⟩ (fun hg => callV_ok rfl rfl rfl rfl (spec_l1Has_ok _ _ _ (optT hx12 hg)) rfl) rfl ?_
      refine AO.guard [56] rfl ⟨fun h => h, trivial⟩ (fun hg => pick_or rfl rfl rfl (by rw [hg]; exact Bool.true_and _)) rfl ?_
      refine AO.val rfl rfl (pick_and rfl rfl rfl rfl) ?_
      refine AO.pure T rfl rfl rfl ?_
      refine AO.nil ?_
      refine AW.le (Le.cut 0 0 (σ' := (⟨[(4, .v (.bool (x9 && (((e.order.length : Int) == 0) || x11))))], [], 64, []⟩ : St)) rfl (by repeat' (first | exact trivial | refine ⟨⟨_, rfl, rfl⟩, ?_⟩)) (by repeat' (first | exact trivial | refine ⟨⟨_, rfl, rfl⟩, ?_⟩)) rfl) ?_
      refine AW.ret ?_
      cases someE hH
      exact ⟨trivial, _, [], rfl, .c (.c .v), by decide⟩

def spec_evHas_l1 (e : Event) (skater : Int) : List Result → Nat → Option Bool
  | [], k1 =>
    some false
  | y2 :: ys3, k1 =>
    cond (y2.skater == skater)
      ((spec_evScores_p y2).bind fun x12 =>
      some (decide (x12 > e.segment)))
      (spec_evHas_l1 e skater ys3 (k1 + 1))
def spec_evHas_p (e : Event) (skater : Int) : Option Bool :=
  spec_evHas_l1 e skater e.results 0
theorem spec_evHas_ok (e : Event) (skater : Int) (r : Bool) (hH : spec_evHas_p e skater = some r) : SpecR Try.prog 24 [.g (encEvent e), .v (.int .i64 skater)] (.v (.bool r)) := by
  refine fn_ok T Try.func24 rfl (by decide) rfl ?_
  refine AW.seq ?_
  refine AW.region ?_
  refine AO.step rfl (box_ok T rfl 1 rfl rfl rfl rfl) ?_
  refine AO.pure T rfl rfl rfl ?_
  refine AO.nil ?_
  refine AW.seq ?_
  refine AW.seq ?_
  refine AW.region ?_
  refine AO.pure T rfl rfl rfl ?_
  refine AO.pure T rfl rfl rfl ?_
  refine AO.val rfl rfl (len_map_ok T rfl rfl rfl) ?_
  refine AO.pure T rfl rfl rfl ?_
  refine AO.nil ?_
  refine AW.block ?_
  refine AW.loopS (fun s : Nat => (⟨[(1, .v (.int .i64 skater)), (2, .p 1 0), (8, .s (List.map encResult e.results)), (9, .v (.int .i64 (e.results.length : Int))), (10, .v (.int .i64 (s : Int)))], [(1, .box [.v (.int .i64 e.segments), .v (.int .i64 e.size), .v (.int .i64 e.key), .s (List.map encEntrant e.entrants), .s (List.map encInt e.gone), .v (.int .i64 e.segment), .s (List.map encInt e.order), .s (List.map encResult e.results)])], 24, []⟩ : St)) (fun s => s ≤ e.results.length ∧ spec_evHas_l1 e skater (e.results.drop s) s = some r) (fun s => e.results.length - s) 0 ⟨Nat.zero_le _, hH⟩ ?_ ?_
  · exact Le.cut 0 0 rfl (by repeat' (first | exact trivial | refine ⟨⟨_, rfl, rfl⟩, ?_⟩)) (by repeat' (first | exact trivial | refine ⟨⟨_, rfl, rfl⟩, ?_⟩)) rfl
  · rintro k1 ⟨hk, hH⟩
    replace hH : spec_evHas_l1 e skater (e.results.drop k1) k1 = some r := hH
    show AW _ _ _ (⟨[(1, .v (.int .i64 skater)), (2, .p 1 0), (8, .s (List.map encResult e.results)), (9, .v (.int .i64 (e.results.length : Int))), (10, .v (.int .i64 (k1 : Int)))], [(1, .box [.v (.int .i64 e.segments), .v (.int .i64 e.size), .v (.int .i64 e.key), .s (List.map encEntrant e.entrants), .s (List.map encInt e.gone), .v (.int .i64 e.segment), .s (List.map encInt e.order), .s (List.map encResult e.results)])], 24, []⟩ : St)
    refine AW.boundM (t := 8) (l := e.results) rfl (fun hb5 => ?_)
    cases hd4 : e.results.drop k1 with
    | nil =>
      rw [hd4] at hH
      rw [spec_evHas_l1] at hH
      have hlt6 := drop_ge hd4
      refine AW.seq ?_
      refine AW.region ?_
      refine AO.pure T rfl rfl rfl ?_
      refine AO.nil ?_
      refine AW.seq ?_
      refine AW.condF' (b := decide ((k1 : Int) < (e.results.length : Int))) rfl (rngF hlt6) ?_
      refine AW.exit ?_
      refine AW.seq ?_
      refine AW.region ?_
      refine AO.pure T rfl rfl rfl ?_
      refine AO.nil ?_
      refine AW.ret ?_
      cases someE hH
      exact ⟨trivial, _, [], rfl, .c (.c .v), by decide⟩
    | cons y2 ys3 =>
      rw [hd4] at hH
      rw [spec_evHas_l1] at hH
      have hlt6 := drop_lt hd4
      refine AW.seq ?_
      refine AW.region ?_
      refine AO.pure T rfl rfl rfl ?_
      refine AO.nil ?_
      refine AW.seq ?_
      refine AW.condT' (b := decide ((k1 : Int) < (e.results.length : Int))) rfl (rngT hlt6) ?_
      refine AW.skip ?_
      refine AW.seq ?_
      refine AW.block ?_
      refine AW.seq ?_
      refine AW.region ?_
      refine AO.val rfl rfl (ix_map_ok T rfl rfl rfl rfl rfl (getI_drop hd4) rfl) ?_
      refine AO.pure T (d := .g [.v (.int .i64 y2.skater), .s (List.map encInt y2.scores)]) rfl rfl rfl ?_
      refine AO.step rfl (alloc_ok T rfl 4 rfl rfl rfl rfl rfl) ?_
      refine AO.step rfl (store_okE T rfl rfl rfl rfl rfl rfl rfl rfl rfl (ds' := [.v (.int .i64 y2.skater), .s (List.map encInt y2.scores)]) rfl) ?_
      refine AO.nil ?_
      refine AW.seq ?_
      refine AW.region ?_
      refine AO.pure T rfl rfl rfl ?_
      refine AO.pure T rfl rfl rfl ?_
      refine AO.pure T rfl rfl rfl ?_
      refine AO.pure T rfl rfl rfl ?_
      refine AO.nil ?_
      refine AW.cond (b := (y2.skater == skater)) rfl (fun hc => ?_) (fun hc => ?_)
      · replace hH := condT hc hH
        refine AW.seq ?_
        obtain ⟨x12, hx13, hH⟩ := bindE hH
        refine AW.drawn 4 5 [] mix (by kernel_rfl) rfl ?_
        refine AD.pure T (d := .g [.v (.int .i64 y2.skater), .s (List.map encInt y2.scores)]) rfl rfl rfl ?_
        refine AD.val rfl rfl (callV_ok rfl rfl rfl rfl (spec_evScores_ok _ _ (hx13)) rfl) ?_
        refine AD.pure T rfl rfl rfl ?_
        refine AD.pure T rfl rfl rfl ?_
        refine AD.nil ?_
        refine AO.pure T rfl rfl rfl ?_
        refine AO.pure T rfl rfl rfl ?_
        refine AO.nil ?_
        refine AW.ret ?_
        cases someE hH
        exact ⟨trivial, _, [], rfl, .c (.c .v), by decide⟩
      · replace hH := condF hc hH
        refine AW.skip ?_
        refine AW.region ?_
        refine AO.val rfl rfl (ar_ok rfl rfl rfl rfl (inI_succ hlt6 hb5)) ?_
        refine AO.pure T rfl rfl rfl ?_
        refine AO.nil ?_
        refine ⟨k1 + 1, ⟨Nat.succ_le_of_lt hlt6, (by rw [drop_succ_of hd4]; exact hH)⟩, (by have := hlt6; dsimp only; omega), ?_⟩
        exact Le.cut 0 0 rfl (by repeat' (first | exact trivial | refine ⟨⟨_, rfl, rfl⟩, ?_⟩)) (by repeat' (first | exact trivial | refine ⟨⟨_, rfl, rfl⟩, ?_⟩)) rfl

def spec_evGood_l2 (e : Event) : Nat → Int → Option Bool
  | 0, _ => none
  | k14 + 1, v32 =>
    cond (decide (v32 < (e.order.length : Int)))
      ((getI e.order v32).bind fun x34 =>
      (spec_evHas_p e x34).bind fun x36 =>
      (opt x36 default (getI e.order (w64 (v32 - 1)))).bind fun x38 =>
      (opt x36 default (spec_evHas_p e x38)).bind fun x40 =>
      cond (x36 && (!x40))
        (some false)
        (spec_evGood_l2 e k14 (w64 (v32 + 1))))
      ((opt (!((e.order.length : Int) == 0)) default (getI e.order (w64 ((e.order.length : Int) - 1)))).bind fun x42 =>
      (opt (!((e.order.length : Int) == 0)) default (spec_evHas_p e x42)).bind fun x44 =>
      some (((e.order.length : Int) == 0) || (!x44)))
def spec_evGood_l1 (e : Event) (fuel : Nat) : List Result → Nat → Option Bool
  | [], k3 =>
    spec_evGood_l2 e fuel 1
  | y4 :: ys5, k3 =>
    (spec_evResult_p e y4).bind fun x46 =>
    cond (!x46)
      (some false)
      (spec_evGood_l1 e fuel ys5 (k3 + 1))
def spec_evGood_p (fuel : Nat) (e : Event) : Option Bool :=
  (spec_evHead_p fuel e).bind fun x1 =>
  cond ((!x1) || ((e.segment == e.segments) && decide ((e.order.length : Int) > 0)))
    (some false)
    (spec_evGood_l1 e fuel e.results 0)
theorem spec_evGood_ok (fuel : Nat) (e : Event) (r : Bool) (hH : spec_evGood_p fuel e = some r) : SpecR Try.prog 9 [.g (encEvent e)] (.v (.bool r)) := by
  refine fn_ok T Try.func9 rfl (by decide) rfl ?_
  refine AW.seq ?_
  refine AW.region ?_
  refine AO.step rfl (box_ok T rfl 1 rfl rfl rfl rfl) ?_
  refine AO.pure T rfl rfl rfl ?_
  refine AO.nil ?_
  refine AW.seq ?_
  refine AW.seq ?_
  obtain ⟨x1, hx2, hH⟩ := bindE hH
  refine AW.region ?_
  refine AO.pure T (d := .g [.v (.int .i64 e.segments), .v (.int .i64 e.size), .v (.int .i64 e.key), .s (List.map encEntrant e.entrants), .s (List.map encInt e.gone), .v (.int .i64 e.segment), .s (List.map encInt e.order), .s (List.map encResult e.results)]) rfl rfl rfl ?_
  refine AO.val rfl rfl (callV_ok rfl rfl rfl rfl (spec_evHead_ok fuel _ _ (hx2)) rfl) ?_
  refine AO.pure T rfl rfl rfl ?_
  refine AO.pure T rfl rfl rfl ?_
  refine AO.pureG T [] rfl trivial rfl rfl ?_
  refine AO.pureG T [10] rfl ⟨fun h => h, trivial⟩ rfl rfl ?_
  refine AO.pureG T [] rfl trivial rfl rfl ?_
  refine AO.pureG T [12] rfl ⟨fun h => h, trivial⟩ rfl rfl ?_
  refine AO.pureG T [11, 13] rfl ⟨fun h => h, fun h => h, trivial⟩ rfl rfl ?_
  refine AO.pureG T [14] rfl ⟨fun h => h, trivial⟩ rfl rfl ?_
  refine AO.pureG T [] rfl trivial rfl rfl ?_
  refine AO.pureG T [16] rfl ⟨fun h => h, trivial⟩ rfl rfl ?_
  refine AO.guard [17] rfl ⟨fun h => h, trivial⟩ (fun hg => len_map_ok T rfl rfl rfl) rfl ?_
  refine AO.pureG T [18] rfl ⟨fun h => h, trivial⟩ rfl rfl ?_
  refine AO.guard [15] rfl ⟨fun h => h, trivial⟩ (fun hg => pick_and rfl rfl rfl (by rw [hg]; exact Bool.true_and _)) rfl ?_
  refine AO.val rfl rfl (pick_or rfl rfl rfl rfl) ?_
  refine AO.nil ?_
  refine AW.cond (b := ((!x1) || ((e.segment == e.segments) && decide ((e.order.length : Int) > 0)))) rfl (fun hc => ?_) (fun hc => ?_)
  · replace hH := condT hc hH
    refine AW.seq ?_
    refine AW.region ?_
    refine AO.pure T rfl rfl rfl ?_
    refine AO.nil ?_
    refine AW.ret ?_
    cases someE hH
    exact ⟨trivial, _, [], rfl, .c (.c .v), by decide⟩
  · replace hH := condF hc hH
    refine AW.skip ?_
    refine AW.seq ?_
    refine AW.seq ?_
    refine AW.region ?_
    refine AO.pure T rfl rfl rfl ?_
    refine AO.pure T rfl rfl rfl ?_
    refine AO.val rfl rfl (len_map_ok T rfl rfl rfl) ?_
    refine AO.pure T rfl rfl rfl ?_
    refine AO.nil ?_
    refine AW.block ?_
    refine AW.loopS (fun s : Nat => (⟨[(1, .p 1 0), (23, .s (List.map encResult e.results)), (24, .v (.int .i64 (e.results.length : Int))), (25, .v (.int .i64 (s : Int)))], [(1, .box [.v (.int .i64 e.segments), .v (.int .i64 e.size), .v (.int .i64 e.key), .s (List.map encEntrant e.entrants), .s (List.map encInt e.gone), .v (.int .i64 e.segment), .s (List.map encInt e.order), .s (List.map encResult e.results)])], 76, []⟩ : St)) (fun s => s ≤ e.results.length ∧ spec_evGood_l1 e fuel (e.results.drop s) s = some r) (fun s => e.results.length - s) 0 ⟨Nat.zero_le _, hH⟩ ?_ ?_
    · exact Le.cut 0 0 rfl (by repeat' (first | exact trivial | refine ⟨⟨_, rfl, rfl⟩, ?_⟩)) (by repeat' (first | exact trivial | refine ⟨⟨_, rfl, rfl⟩, ?_⟩)) rfl
    · rintro k3 ⟨hk, hH⟩
      replace hH : spec_evGood_l1 e fuel (e.results.drop k3) k3 = some r := hH
      show AW _ _ _ (⟨[(1, .p 1 0), (23, .s (List.map encResult e.results)), (24, .v (.int .i64 (e.results.length : Int))), (25, .v (.int .i64 (k3 : Int)))], [(1, .box [.v (.int .i64 e.segments), .v (.int .i64 e.size), .v (.int .i64 e.key), .s (List.map encEntrant e.entrants), .s (List.map encInt e.gone), .v (.int .i64 e.segment), .s (List.map encInt e.order), .s (List.map encResult e.results)])], 76, []⟩ : St)
      refine AW.boundM (t := 23) (l := e.results) rfl (fun hb7 => ?_)
      cases hd6 : e.results.drop k3 with
      | nil =>
        rw [hd6] at hH
        rw [spec_evGood_l1] at hH
        have hlt8 := drop_ge hd6
        refine AW.seq ?_
        refine AW.region ?_
        refine AO.pure T rfl rfl rfl ?_
        refine AO.nil ?_
        refine AW.seq ?_
        refine AW.condF' (b := decide ((k3 : Int) < (e.results.length : Int))) rfl (rngF hlt8) ?_
        refine AW.exit ?_
        refine AW.seq ?_
        refine AW.seq ?_
        refine AW.region ?_
        refine AO.pure T rfl rfl rfl ?_
        refine AO.nil ?_
        refine AW.block ?_
        refine AW.loopS (fun s : Nat × Int => (⟨[(1, .p 1 0), (5, .v (.int .i64 s.2))], [(1, .box [.v (.int .i64 e.segments), .v (.int .i64 e.size), .v (.int .i64 e.key), .s (List.map encEntrant e.entrants), .s (List.map encInt e.gone), .v (.int .i64 e.segment), .s (List.map encInt e.order), .s (List.map encResult e.results)])], 76, []⟩ : St)) (fun s => spec_evGood_l2 e s.1 s.2 = some r) (fun s => s.1) (fuel, 1) hH ?_ ?_
        · exact Le.cut 0 0 rfl (by repeat' (first | exact trivial | refine ⟨⟨_, rfl, rfl⟩, ?_⟩)) (by repeat' (first | exact trivial | refine ⟨⟨_, rfl, rfl⟩, ?_⟩)) rfl
        · rintro ⟨k14, v32⟩ hH
          replace hH : spec_evGood_l2 e k14 v32 = some r := hH
          show AW _ _ _ (⟨[(1, .p 1 0), (5, .v (.int .i64 v32))], [(1, .box [.v (.int .i64 e.segments), .v (.int .i64 e.size), .v (.int .i64 e.key), .s (List.map encEntrant e.entrants), .s (List.map encInt e.gone), .v (.int .i64 e.segment), .s (List.map encInt e.order), .s (List.map encResult e.results)])], 76, []⟩ : St)
          cases k14 with
          | zero => cases (show none = some _ from hH)
          | succ k14 =>
            rw [spec_evGood_l2] at hH
            refine AW.seq ?_
            refine AW.seq ?_
            refine AW.region ?_
            refine AO.pure T rfl rfl rfl ?_
            refine AO.pure T rfl rfl rfl ?_
            refine AO.pure T rfl rfl rfl ?_
            refine AO.val rfl rfl (len_map_ok T rfl rfl rfl) ?_
            refine AO.pure T rfl rfl rfl ?_
            refine AO.nil ?_
            refine AW.cond (b := decide (v32 < (e.order.length : Int))) rfl (fun hc => ?_) (fun hc => ?_)
            · replace hH := condT hc hH
              refine AW.skip ?_
              refine AW.seq ?_
              refine AW.block ?_
              refine AW.seq ?_
              obtain ⟨x34, hx35, hH⟩ := bindE hH
              obtain ⟨x36, hx37, hH⟩ := bindE hH
              obtain ⟨x38, hx39, hH⟩ := bindE hH
              obtain ⟨x40, hx41, hH⟩ := bindE hH
              refine AW.drawn 15 4 [] mix (by kernel_rfl) rfl ?_
              refine AD.pure T (d := .g [.v (.int .i64 e.segments), .v (.int .i64 e.size), .v (.int .i64 e.key), .s (List.map encEntrant e.entrants), .s (List.map encInt e.gone), .v (.int .i64 e.segment), .s (List.map encInt e.order), .s (List.map encResult e.results)]) rfl rfl rfl ?_
              refine AD.pure T rfl rfl rfl ?_
              refine AD.pure T rfl rfl rfl ?_
              refine AD.pure T rfl rfl rfl ?_
              refine AD.val rfl rfl (ix_map_ok T rfl rfl rfl rfl rfl (hx35) rfl) ?_
              refine AD.pure T rfl rfl rfl ?_
              refine AD.val rfl rfl (callV_ok rfl rfl rfl rfl (spec_evHas_ok _ _ _ (hx37)) rfl) ?_
              refine AD.pure T rfl rfl rfl ?_
              refine AD.pureG T (d := .g [.v (.int .i64 e.segments), .v (.int .i64 e.size), .v (.int .i64 e.key), .s (List.map encEntrant e.entrants), .s (List.map encInt e.gone), .v (.int .i64 e.segment), .s (List.map encInt e.order), .s (List.map encResult e.results)]) [] rfl trivial rfl rfl ?_
              refine AD.pureG T [] rfl trivial rfl rfl ?_
              refine AD.pureG T [50] rfl ⟨fun h => h, trivial⟩ rfl rfl ?_
              refine AD.pureG T [] rfl trivial rfl rfl ?_
              refine AD.guard [52] rfl ⟨fun h => h, trivial⟩ (fun hg => arw_ok rfl rfl rfl rfl) rfl ?_
              refine AD.guard [51, 53] rfl ⟨fun h => h, fun h => h, trivial⟩ (fun hg => ix_map_ok T rfl rfl rfl rfl rfl (optT hx39 hg) rfl) rfl ?_
              refine AD.pureG T [54] rfl ⟨fun h => h, trivial⟩ rfl rfl ?_
              refine AD.nil ?_
              refine AO.guard [49, 55] rfl ⟨fun h => h, fun h => h, trivial⟩ (fun hg => callV_ok rfl rfl rfl rfl (spec_evHas_ok _ _ _ (optT hx41 hg)) rfl) rfl ?_
              refine AO.pureG T [56] rfl ⟨fun h => h, trivial⟩ rfl rfl ?_
              refine AO.val rfl rfl (pick_and rfl rfl rfl rfl) ?_
              refine AO.nil ?_
              refine AW.cond (b := (x36 && (!x40))) rfl (fun hc => ?_) (fun hc => ?_)
              · replace hH := condT hc hH
                refine AW.seq ?_
                refine AW.region ?_
                refine AO.pure T rfl rfl rfl ?_
                refine AO.nil ?_
                refine AW.le (Le.cut 0 0 (σ' := (⟨[(2, .v (.bool false))], [], 76, []⟩ : St)) rfl (by repeat' (first | exact trivial | refine ⟨⟨_, rfl, rfl⟩, ?_⟩)) (by repeat' (first | exact trivial | refine ⟨⟨_, rfl, rfl⟩, ?_⟩)) rfl) ?_
                refine AW.ret ?_
                cases someE hH
                exact ⟨trivial, _, [], rfl, .c (.c .v), by decide⟩
              · replace hH := condF hc hH
                refine AW.skip ?_
                refine AW.region ?_
                refine AO.pure T rfl rfl rfl ?_
                refine AO.val rfl rfl (arw_ok rfl rfl rfl rfl) ?_
                refine AO.pure T rfl rfl rfl ?_
                refine AO.nil ?_
                refine ⟨(k14, w64 (v32 + 1)), hH, Nat.lt_succ_self _, ?_⟩
                exact Le.cut 0 0 rfl (by repeat' (first | exact trivial | refine ⟨⟨_, rfl, rfl⟩, ?_⟩)) (by repeat' (first | exact trivial | refine ⟨⟨_, rfl, rfl⟩, ?_⟩)) rfl
            · replace hH := condF hc hH
              refine AW.exit ?_
              refine AW.seq ?_
              obtain ⟨x42, hx43, hH⟩ := bindE hH
              obtain ⟨x44, hx45, hH⟩ := bindE hH
              refine AW.drawn 14 4 [] mix (by kernel_rfl) rfl ?_
              refine AD.pure T rfl rfl rfl ?_
              refine AD.pure T rfl rfl rfl ?_
              refine AD.val rfl rfl (len_map_ok T rfl rfl rfl) ?_
              refine AD.pure T rfl rfl rfl ?_
              refine AD.pure T rfl rfl rfl ?_
              refine AD.pureG T (d := .g [.v (.int .i64 e.segments), .v (.int .i64 e.size), .v (.int .i64 e.key), .s (List.map encEntrant e.entrants), .s (List.map encInt e.gone), .v (.int .i64 e.segment), .s (List.map encInt e.order), .s (List.map encResult e.results)]) [] rfl trivial rfl rfl ?_
              refine AD.pureG T [] rfl trivial rfl rfl ?_
              refine AD.pureG T [65] rfl ⟨fun h => h, trivial⟩ rfl rfl ?_
              refine AD.pureG T [] rfl trivial rfl rfl ?_
              refine AD.pureG T [67] rfl ⟨fun h => h, trivial⟩ rfl rfl ?_
              refine AD.guard [68] rfl ⟨fun h => h, trivial⟩ (fun hg => len_map_ok T rfl rfl rfl) rfl ?_
              refine AD.guard [69] rfl ⟨fun h => h, trivial⟩ (fun hg => arw_ok rfl rfl rfl rfl) rfl ?_
              refine AD.guard [66, 70] rfl ⟨fun h => h, fun h => h, trivial⟩ (fun hg => ix_map_ok T rfl rfl rfl rfl rfl (optT hx43 hg) rfl) rfl ?_
              refine AD.pureG T [71] rfl ⟨fun h => h, trivial⟩ rfl rfl ?_
              refine AD.nil ?_
              refine AO.guard [64, 72] rfl ⟨fun h => h, fun h => h, trivial⟩ (fun hg => callV_ok rfl rfl rfl rfl (spec_evHas_ok _ _ _ (optT hx45 hg)) rfl) rfl ?_
              refine AO.pureG T [73] rfl ⟨fun h => h, trivial⟩ rfl rfl ?_
              refine AO.val rfl rfl (pick_or rfl rfl rfl rfl) ?_
              refine AO.pure T rfl rfl rfl ?_
              refine AO.nil ?_
              refine AW.ret ?_
              cases someE hH
              exact ⟨trivial, _, [], rfl, .c (.c .v), by decide⟩
      | cons y4 ys5 =>
        rw [hd6] at hH
        rw [spec_evGood_l1] at hH
        have hlt8 := drop_lt hd6
        refine AW.seq ?_
        refine AW.region ?_
        refine AO.pure T rfl rfl rfl ?_
        refine AO.nil ?_
        refine AW.seq ?_
        refine AW.condT' (b := decide ((k3 : Int) < (e.results.length : Int))) rfl (rngT hlt8) ?_
        refine AW.skip ?_
        refine AW.seq ?_
        refine AW.block ?_
        refine AW.seq ?_
        refine AW.region ?_
        refine AO.val rfl rfl (ix_map_ok T rfl rfl rfl rfl rfl (getI_drop hd6) rfl) ?_
        refine AO.pure T (d := .g [.v (.int .i64 y4.skater), .s (List.map encInt y4.scores)]) rfl rfl rfl ?_
        refine AO.step rfl (alloc_ok T rfl 4 rfl rfl rfl rfl rfl) ?_
        refine AO.step rfl (store_okE T rfl rfl rfl rfl rfl rfl rfl rfl rfl (ds' := [.v (.int .i64 y4.skater), .s (List.map encInt y4.scores)]) rfl) ?_
        refine AO.nil ?_
        refine AW.seq ?_
        obtain ⟨x46, hx47, hH⟩ := bindE hH
        refine AW.region ?_
        refine AO.pure T (d := .g [.v (.int .i64 e.segments), .v (.int .i64 e.size), .v (.int .i64 e.key), .s (List.map encEntrant e.entrants), .s (List.map encInt e.gone), .v (.int .i64 e.segment), .s (List.map encInt e.order), .s (List.map encResult e.results)]) rfl rfl rfl ?_
        refine AO.pure T (d := .g [.v (.int .i64 y4.skater), .s (List.map encInt y4.scores)]) rfl rfl rfl ?_
        refine AO.val rfl rfl (callV_ok rfl rfl rfl rfl (spec_evResult_ok _ _ _ (hx47)) rfl) ?_
        refine AO.pure T rfl rfl rfl ?_
        refine AO.nil ?_
        refine AW.cond (b := (!x46)) rfl (fun hc => ?_) (fun hc => ?_)
        · replace hH := condT hc hH
          refine AW.seq ?_
          refine AW.region ?_
          refine AO.pure T rfl rfl rfl ?_
          refine AO.nil ?_
          refine AW.ret ?_
          cases someE hH
          exact ⟨trivial, _, [], rfl, .c (.c .v), by decide⟩
        · replace hH := condF hc hH
          refine AW.skip ?_
          refine AW.region ?_
          refine AO.val rfl rfl (ar_ok rfl rfl rfl rfl (inI_succ hlt8 hb7)) ?_
          refine AO.pure T rfl rfl rfl ?_
          refine AO.nil ?_
          refine ⟨k3 + 1, ⟨Nat.succ_le_of_lt hlt8, (by rw [drop_succ_of hd6]; exact hH)⟩, (by have := hlt8; dsimp only; omega), ?_⟩
          exact Le.cut 0 0 rfl (by repeat' (first | exact trivial | refine ⟨⟨_, rfl, rfl⟩, ?_⟩)) (by repeat' (first | exact trivial | refine ⟨⟨_, rfl, rfl⟩, ?_⟩)) rfl

def spec_NewEvent_p (fuel : Nat) (segments : Int) (size : Int) (key : Int) : Option (Event × Bool) :=
  (spec_evGood_p fuel (Event.mk segments size key [] [] 0 [] [])).bind fun x1 =>
  cond (!x1)
    (some ((Event.mk 0 0 0 [] [] 0 [] []), false))
    (some ((Event.mk segments size key [] [] 0 [] []), true))
theorem spec_NewEvent_ok (fuel : Nat) (segments : Int) (size : Int) (key : Int) (r : (Event × Bool)) (hH : spec_NewEvent_p fuel segments size key = some r) : SpecR Try.prog 4 [.v (.int .i64 segments), .v (.int .i64 size), .v (.int .i64 key)] (.t [.g (encEventH r.1), .v (.bool r.2)]) := by
  refine fn_ok T Try.func4 rfl (by decide) rfl ?_
  refine AW.seq ?_
  refine AW.region ?_
  refine AO.step rfl (alloc_ok T rfl 1 rfl rfl rfl rfl rfl) ?_
  refine AO.pure T rfl rfl rfl ?_
  refine AO.nil ?_
  refine AW.seq ?_
  refine AW.region ?_
  refine AO.pure T rfl rfl rfl ?_
  refine AO.pure T rfl rfl rfl ?_
  refine AO.pure T rfl rfl rfl ?_
  refine AO.pure T (d := .g [.v (.int .i64 segments), .v (.int .i64 size), .v (.int .i64 key), .w 0 [], .w 0 [], .v (.int .i64 0), .w 0 [], .w 0 []]) rfl rfl rfl ?_
  refine AO.step rfl (alloc_ok T rfl 2 rfl rfl rfl rfl rfl) ?_
  refine AO.step rfl (store_okE T rfl rfl rfl rfl rfl rfl rfl rfl rfl (ds' := [.v (.int .i64 segments), .v (.int .i64 size), .v (.int .i64 key), .w 0 [], .w 0 [], .v (.int .i64 0), .w 0 [], .w 0 []]) rfl) ?_
  refine AO.nil ?_
  refine AW.seq ?_
  refine AW.seq ?_
  obtain ⟨x1, hx2, hH⟩ := bindE hH
  refine AW.region ?_
  refine AO.pure T (d := .g [.v (.int .i64 segments), .v (.int .i64 size), .v (.int .i64 key), .w 0 [], .w 0 [], .v (.int .i64 0), .w 0 [], .w 0 []]) rfl rfl rfl ?_
  refine AO.val rfl rfl (callXV_ok rfl rfl rfl (es := [.g (encEvent (Event.mk segments size key [] [] 0 [] []))]) (by exact PlainL.cons (.g (.cons (.free rfl) (.cons (.free rfl) (.cons (.free rfl) (.cons .nil (.cons .nil (.cons (.free rfl) (.cons .nil (.cons .nil (.nil)))))))))) (PlainL.nil)) (spec_evGood_ok fuel _ _ (hx2)) rfl) ?_
  refine AO.pure T rfl rfl rfl ?_
  refine AO.nil ?_
  refine AW.cond (b := (!x1)) rfl (fun hc => ?_) (fun hc => ?_)
  · replace hH := condT hc hH
    refine AW.seq ?_
    refine AW.region ?_
    refine AO.pure T (d := .g [.v (.int .i64 0), .v (.int .i64 0), .v (.int .i64 0), .w 0 [], .w 0 [], .v (.int .i64 0), .w 0 [], .w 0 []]) rfl rfl rfl ?_
    refine AO.step rfl (store_okE T rfl rfl rfl rfl rfl rfl rfl rfl rfl (ds' := [.v (.int .i64 0), .v (.int .i64 0), .v (.int .i64 0), .w 0 [], .w 0 [], .v (.int .i64 0), .w 0 [], .w 0 []]) rfl) ?_
    refine AO.pure T rfl rfl rfl ?_
    refine AO.nil ?_
    refine AW.ret ?_
    cases someE hH
    exact ⟨trivial, _, [], rfl, .t (expLG_cons (.g (expLC_cons .v (expLC_cons .v (expLC_cons .v (expLC_cons .nil (expLC_cons .nil (expLC_cons .v (expLC_cons .nil (expLC_cons .nil (expLC_nil)))))))))) (expLG_cons (.c .v) (expLG_nil))), by decide⟩
  · replace hH := condF hc hH
    refine AW.skip ?_
    refine AW.seq ?_
    refine AW.region ?_
    refine AO.pure T (d := .g [.v (.int .i64 segments), .v (.int .i64 size), .v (.int .i64 key), .w 0 [], .w 0 [], .v (.int .i64 0), .w 0 [], .w 0 []]) rfl rfl rfl ?_
    refine AO.step rfl (store_okE T rfl rfl rfl rfl rfl rfl rfl rfl rfl (ds' := [.v (.int .i64 segments), .v (.int .i64 size), .v (.int .i64 key), .w 0 [], .w 0 [], .v (.int .i64 0), .w 0 [], .w 0 []]) rfl) ?_
    refine AO.pure T rfl rfl rfl ?_
    refine AO.nil ?_
    refine AW.ret ?_
    cases someE hH
    exact ⟨trivial, _, [], rfl, .t (expLG_cons (.g (expLC_cons .v (expLC_cons .v (expLC_cons .v (expLC_cons .nil (expLC_cons .nil (expLC_cons .v (expLC_cons .nil (expLC_cons .nil (expLC_nil)))))))))) (expLG_cons (.c .v) (expLG_nil))), by decide⟩

def impl_within_p (n : Int) (low : Int) (high : Int) : Option Bool :=
  some (decide (n ≥ low) && decide (n ≤ high))
theorem impl_within_ok (n : Int) (low : Int) (high : Int) (r : Bool) (hH : impl_within_p n low high = some r) : SpecR Try.prog 10 [.v (.int .i64 n), .v (.int .i64 low), .v (.int .i64 high)] (.v (.bool r)) := by
  refine fn_ok T Try.func10 rfl (by decide) rfl ?_
  refine AW.seq ?_
  refine AW.region ?_
  refine AO.pure T rfl rfl rfl ?_
  refine AO.nil ?_
  refine AW.seq ?_
  refine AW.region ?_
  refine AO.pure T rfl rfl rfl ?_
  refine AO.pure T rfl rfl rfl ?_
  refine AO.pure T rfl rfl rfl ?_
  refine AO.pure T rfl rfl rfl ?_
  refine AO.pureG T [] rfl trivial rfl rfl ?_
  refine AO.pureG T [] rfl trivial rfl rfl ?_
  refine AO.pureG T [11, 12] rfl ⟨fun h => h, fun h => h, trivial⟩ rfl rfl ?_
  refine AO.val rfl rfl (pick_and rfl rfl rfl rfl) ?_
  refine AO.pure T rfl rfl rfl ?_
  refine AO.nil ?_
  refine AW.ret ?_
  cases someE hH
  exact ⟨trivial, _, [], rfl, .c (.c .v), by decide⟩

def impl_isGroupSize_p (size : Int) : Option Bool :=
  (impl_within_p size 1 8).bind fun x1 =>
  some x1
theorem impl_isGroupSize_ok (size : Int) (r : Bool) (hH : impl_isGroupSize_p size = some r) : SpecR Try.prog 11 [.v (.int .i64 size)] (.v (.bool r)) := by
  refine fn_ok T Try.func11 rfl (by decide) rfl ?_
  refine AW.seq ?_
  refine AW.region ?_
  refine AO.pure T rfl rfl rfl ?_
  refine AO.nil ?_
  refine AW.seq ?_
  obtain ⟨x1, hx2, hH⟩ := bindE hH
  refine AW.region ?_
  refine AO.pure T rfl rfl rfl ?_
  refine AO.val rfl rfl (callV_ok rfl rfl rfl rfl (impl_within_ok _ _ _ _ (hx2)) rfl) ?_
  refine AO.pure T rfl rfl rfl ?_
  refine AO.nil ?_
  refine AW.ret ?_
  cases someE hH
  exact ⟨trivial, _, [], rfl, .c (.c .v), by decide⟩

def impl_allWithin_l1 (low : Int) (high : Int) : List Int → Nat → Option Bool
  | [], k1 =>
    some true
  | y2 :: ys3, k1 =>
    (impl_within_p y2 low high).bind fun x12 =>
    cond (!x12)
      (some false)
      (impl_allWithin_l1 low high ys3 (k1 + 1))
def impl_allWithin_p (l : List Int) (low : Int) (high : Int) : Option Bool :=
  impl_allWithin_l1 low high l 0
theorem impl_allWithin_ok (l : List Int) (low : Int) (high : Int) (r : Bool) (hH : impl_allWithin_p l low high = some r) : SpecR Try.prog 37 [.s (List.map encInt l), .v (.int .i64 low), .v (.int .i64 high)] (.v (.bool r)) := by
  refine fn_ok T Try.func37 rfl (by decide) rfl ?_
  refine AW.seq ?_
  refine AW.region ?_
  refine AO.pure T rfl rfl rfl ?_
  refine AO.nil ?_
  refine AW.seq ?_
  refine AW.seq ?_
  refine AW.region ?_
  refine AO.pure T rfl rfl rfl ?_
  refine AO.val rfl rfl (len_map_ok T rfl rfl rfl) ?_
  refine AO.pure T rfl rfl rfl ?_
  refine AO.nil ?_
  refine AW.block ?_
  refine AW.loopS (fun s : Nat => (⟨[(1, .v (.int .i64 low)), (2, .v (.int .i64 high)), (9, .s (List.map encInt l)), (10, .v (.int .i64 (l.length : Int))), (11, .v (.int .i64 (s : Int)))], [], 21, []⟩ : St)) (fun s => s ≤ l.length ∧ impl_allWithin_l1 low high (l.drop s) s = some r) (fun s => l.length - s) 0 ⟨Nat.zero_le _, hH⟩ ?_ ?_
  · exact Le.cut 0 0 rfl (by repeat' (first | exact trivial | refine ⟨⟨_, rfl, rfl⟩, ?_⟩)) (by repeat' (first | exact trivial | refine ⟨⟨_, rfl, rfl⟩, ?_⟩)) rfl
  · rintro k1 ⟨hk, hH⟩
    replace hH : impl_allWithin_l1 low high (l.drop k1) k1 = some r := hH
    show AW _ _ _ (⟨[(1, .v (.int .i64 low)), (2, .v (.int .i64 high)), (9, .s (List.map encInt l)), (10, .v (.int .i64 (l.length : Int))), (11, .v (.int .i64 (k1 : Int)))], [], 21, []⟩ : St)
    refine AW.boundM (t := 9) (l := l) rfl (fun hb5 => ?_)
    cases hd4 : l.drop k1 with
    | nil =>
      rw [hd4] at hH
      rw [impl_allWithin_l1] at hH
      have hlt6 := drop_ge hd4
      refine AW.seq ?_
      refine AW.region ?_
      refine AO.pure T rfl rfl rfl ?_
      refine AO.nil ?_
      refine AW.seq ?_
      refine AW.condF' (b := decide ((k1 : Int) < (l.length : Int))) rfl (rngF hlt6) ?_
      refine AW.exit ?_
      refine AW.seq ?_
      refine AW.region ?_
      refine AO.pure T rfl rfl rfl ?_
      refine AO.nil ?_
      refine AW.ret ?_
      cases someE hH
      exact ⟨trivial, _, [], rfl, .c (.c .v), by decide⟩
    | cons y2 ys3 =>
      rw [hd4] at hH
      rw [impl_allWithin_l1] at hH
      have hlt6 := drop_lt hd4
      refine AW.seq ?_
      refine AW.region ?_
      refine AO.pure T rfl rfl rfl ?_
      refine AO.nil ?_
      refine AW.seq ?_
      refine AW.condT' (b := decide ((k1 : Int) < (l.length : Int))) rfl (rngT hlt6) ?_
      refine AW.skip ?_
      refine AW.seq ?_
      refine AW.block ?_
      refine AW.seq ?_
      refine AW.region ?_
      refine AO.val rfl rfl (ix_map_ok T rfl rfl rfl rfl rfl (getI_drop hd4) rfl) ?_
      refine AO.pure T rfl rfl rfl ?_
      refine AO.pure T rfl rfl rfl ?_
      refine AO.nil ?_
      refine AW.seq ?_
      obtain ⟨x12, hx13, hH⟩ := bindE hH
      refine AW.region ?_
      refine AO.pure T rfl rfl rfl ?_
      refine AO.pure T rfl rfl rfl ?_
      refine AO.pure T rfl rfl rfl ?_
      refine AO.val rfl rfl (callV_ok rfl rfl rfl rfl (impl_within_ok _ _ _ _ (hx13)) rfl) ?_
      refine AO.pure T rfl rfl rfl ?_
      refine AO.nil ?_
      refine AW.cond (b := (!x12)) rfl (fun hc => ?_) (fun hc => ?_)
      · replace hH := condT hc hH
        refine AW.seq ?_
        refine AW.region ?_
        refine AO.pure T rfl rfl rfl ?_
        refine AO.nil ?_
        refine AW.ret ?_
        cases someE hH
        exact ⟨trivial, _, [], rfl, .c (.c .v), by decide⟩
      · replace hH := condF hc hH
        refine AW.skip ?_
        refine AW.region ?_
        refine AO.val rfl rfl (ar_ok rfl rfl rfl rfl (inI_succ hlt6 hb5)) ?_
        refine AO.pure T rfl rfl rfl ?_
        refine AO.nil ?_
        refine ⟨k1 + 1, ⟨Nat.succ_le_of_lt hlt6, (by rw [drop_succ_of hd4]; exact hH)⟩, (by have := hlt6; dsimp only; omega), ?_⟩
        exact Le.cut 0 0 rfl (by repeat' (first | exact trivial | refine ⟨⟨_, rfl, rfl⟩, ?_⟩)) (by repeat' (first | exact trivial | refine ⟨⟨_, rfl, rfl⟩, ?_⟩)) rfl

def impl_areKeys_p (keys : List Int) (most : Int) : Option Bool :=
  (opt (decide ((keys.length : Int) ≤ most)) default (impl_allWithin_p keys 0 1000000000)).bind fun x1 =>
  some (decide ((keys.length : Int) ≤ most) && x1)
theorem impl_areKeys_ok (keys : List Int) (most : Int) (r : Bool) (hH : impl_areKeys_p keys most = some r) : SpecR Try.prog 25 [.s (List.map encInt keys), .v (.int .i64 most)] (.v (.bool r)) := by
  refine fn_ok T Try.func25 rfl (by decide) rfl ?_
  refine AW.seq ?_
  refine AW.region ?_
  refine AO.pure T rfl rfl rfl ?_
  refine AO.nil ?_
  refine AW.seq ?_
  obtain ⟨x1, hx2, hH⟩ := bindE hH
  refine AW.region ?_
  refine AO.pure T rfl rfl rfl ?_
  refine AO.val rfl rfl (len_map_ok T rfl rfl rfl) ?_
  refine AO.pure T rfl rfl rfl ?_
  refine AO.pure T rfl rfl rfl ?_
  refine AO.pure T rfl rfl rfl ?_
  refine AO.pureG T [] rfl trivial rfl rfl ?_
  refine AO.guard [10] rfl ⟨fun h => h, trivial⟩ (fun hg => callV_ok rfl rfl rfl rfl (impl_allWithin_ok _ _ _ _ (optT hx2 hg)) rfl) rfl ?_
  refine AO.val rfl rfl (pick_and rfl rfl rfl rfl) ?_
  refine AO.pure T rfl rfl rfl ?_
  refine AO.nil ?_
  refine AW.ret ?_
  cases someE hH
  exact ⟨trivial, _, [], rfl, .c (.c .v), by decide⟩

def impl_isKey_p (key : Int) : Option Bool :=
  (impl_areKeys_p [key] 1).bind fun x1 =>
  some x1
theorem impl_isKey_ok (key : Int) (r : Bool) (hH : impl_isKey_p key = some r) : SpecR Try.prog 12 [.v (.int .i64 key)] (.v (.bool r)) := by
  refine fn_ok T Try.func12 rfl (by decide) rfl ?_
  refine AW.seq ?_
  refine AW.region ?_
  refine AO.pure T rfl rfl rfl ?_
  refine AO.nil ?_
  refine AW.seq ?_
  obtain ⟨x1, hx2, hH⟩ := bindE hH
  refine AW.region ?_
  refine AO.pure T rfl rfl rfl ?_
  refine AO.step rfl (mk_map_ok T rfl 1 rfl rfl rfl rfl rfl (f := encInt) (l := [key]) rfl rfl (fun _ => rfl) rfl rfl rfl rfl rfl) ?_
  refine AO.val rfl rfl (callLV_ok rfl rfl rfl (es := [.s (List.map encInt [key]), .v (.int .i64 1)]) ⟨(.rowR rfl (.map fun y => .vs rfl)), .free rfl, trivial⟩ (impl_areKeys_ok _ _ _ (hx2)) (zfree_v _) rfl) ?_
  refine AO.pure T rfl rfl rfl ?_
  refine AO.nil ?_
  refine AW.ret ?_
  cases someE hH
  exact ⟨trivial, _, [], rfl, .c (.c .v), by decide⟩

def impl_NewEvent_p (segments : Int) (size : Int) (key : Int) : Option (Event × Bool) :=
  (impl_within_p segments 1 3).bind fun x1 =>
  (opt (!(!x1)) default (impl_isGroupSize_p size)).bind fun x3 =>
  (opt (!((!x1) || (!x3))) default (impl_isKey_p key)).bind fun x5 =>
  cond (((!x1) || (!x3)) || (!x5))
    (some ((Event.mk 0 0 0 [] [] 0 [] []), false))
    (some ((Event.mk segments size key [] [] 0 [] []), true))
theorem impl_NewEvent_ok (segments : Int) (size : Int) (key : Int) (r : (Event × Bool)) (hH : impl_NewEvent_p segments size key = some r) : SpecR Try.prog 5 [.v (.int .i64 segments), .v (.int .i64 size), .v (.int .i64 key)] (.t [.g (encEventO r.1), .v (.bool r.2)]) := by
  refine fn_ok T Try.func5 rfl (by decide) rfl ?_
  refine AW.seq ?_
  refine AW.region ?_
  refine AO.step rfl (alloc_ok T rfl 1 rfl rfl rfl rfl rfl) ?_
  refine AO.pure T rfl rfl rfl ?_
  refine AO.nil ?_
  refine AW.seq ?_
  refine AW.seq ?_
  obtain ⟨x1, hx2, hH⟩ := bindE hH
  obtain ⟨x3, hx4, hH⟩ := bindE hH
  obtain ⟨x5, hx6, hH⟩ := bindE hH
  refine AW.region ?_
  refine AO.pure T rfl rfl rfl ?_
  refine AO.val rfl rfl (callV_ok rfl rfl rfl rfl (impl_within_ok _ _ _ _ (hx2)) rfl) ?_
  refine AO.pure T rfl rfl rfl ?_
  refine AO.pure T rfl rfl rfl ?_
  refine AO.pureG T [] rfl trivial rfl rfl ?_
  refine AO.guard [12] rfl ⟨fun h => h, trivial⟩ (fun hg => callV_ok rfl rfl rfl rfl (impl_isGroupSize_ok _ _ (optT hx4 hg)) rfl) rfl ?_
  refine AO.pureG T [13] rfl ⟨fun h => h, trivial⟩ rfl rfl ?_
  refine AO.val rfl rfl (pick_or rfl rfl rfl rfl) ?_
  refine AO.pure T rfl rfl rfl ?_
  refine AO.pureG T [] rfl trivial rfl rfl ?_
  refine AO.guard [17] rfl ⟨fun h => h, trivial⟩ (fun hg => callV_ok rfl rfl rfl rfl (impl_isKey_ok _ _ (optT hx6 hg)) rfl) rfl ?_
  refine AO.pureG T [18] rfl ⟨fun h => h, trivial⟩ rfl rfl ?_
  refine AO.val rfl rfl (pick_or rfl rfl rfl rfl) ?_
  refine AO.nil ?_
  refine AW.cond (b := (((!x1) || (!x3)) || (!x5))) rfl (fun hc => ?_) (fun hc => ?_)
  · replace hH := condT hc hH
    refine AW.seq ?_
    refine AW.region ?_
    refine AO.pure T (d := .g [.v (.int .i64 0), .v (.int .i64 0), .v (.int .i64 0), .w 0 [], .w 0 [], .v (.int .i64 0), .w 0 [], .w 0 []]) rfl rfl rfl ?_
    refine AO.step rfl (store_okE T rfl rfl rfl rfl rfl rfl rfl rfl rfl (ds' := [.v (.int .i64 0), .v (.int .i64 0), .v (.int .i64 0), .w 0 [], .w 0 [], .v (.int .i64 0), .w 0 [], .w 0 []]) rfl) ?_
    refine AO.pure T rfl rfl rfl ?_
    refine AO.nil ?_
    refine AW.ret ?_
    cases someE hH
    exact ⟨trivial, _, [], rfl, .t (expLG_cons (.g (expLC_cons .v (expLC_cons .v (expLC_cons .v (expLC_cons .nil (expLC_cons .nil (expLC_cons .v (expLC_cons .nil (expLC_cons .nil (expLC_nil)))))))))) (expLG_cons (.c .v) (expLG_nil))), by decide⟩
  · replace hH := condF hc hH
    refine AW.skip ?_
    refine AW.seq ?_
    refine AW.region ?_
    refine AO.pure T rfl rfl rfl ?_
    refine AO.pure T rfl rfl rfl ?_
    refine AO.pure T rfl rfl rfl ?_
    refine AO.step rfl (mk0_ok T rfl rfl rfl rfl) ?_
    refine AO.step rfl (mk0_ok T rfl rfl rfl rfl) ?_
    refine AO.step rfl (mk0_ok T rfl rfl rfl rfl) ?_
    refine AO.step rfl (mk0_ok T rfl rfl rfl rfl) ?_
    refine AO.pure T (d := .g [.v (.int .i64 segments), .v (.int .i64 size), .v (.int .i64 key), .w 2 [], .w 1 [], .v (.int .i64 0), .w 1 [], .w 2 []]) rfl rfl rfl ?_
    refine AO.step rfl (store_okE T rfl rfl rfl rfl rfl rfl rfl rfl rfl (ds' := [.v (.int .i64 segments), .v (.int .i64 size), .v (.int .i64 key), .w 2 [], .w 1 [], .v (.int .i64 0), .w 1 [], .w 2 []]) rfl) ?_
    refine AO.pure T rfl rfl rfl ?_
    refine AO.nil ?_
    refine AW.le (Le.cut 0 0 (σ' := (⟨[(6, .p 1 0), (7, .v (.bool true))], [(1, .box [.v (.int .i64 segments), .v (.int .i64 size), .v (.int .i64 key), .w 2 [], .w 1 [], .v (.int .i64 0), .w 1 [], .w 2 []])], 30, []⟩ : St)) rfl (by repeat' (first | exact trivial | refine ⟨⟨_, rfl, rfl⟩, ?_⟩)) (by repeat' (first | exact trivial | refine ⟨⟨_, rfl, rfl⟩, ?_⟩)) rfl) ?_
    refine AW.ret ?_
    cases someE hH
    exact ⟨trivial, _, [], rfl, .t (expLG_cons (.g (expLC_cons .v (expLC_cons .v (expLC_cons .v (expLC_cons .nil (expLC_cons .nil (expLC_cons .v (expLC_cons .nil (expLC_cons .nil (expLC_nil)))))))))) (expLG_cons (.c .v) (expLG_nil))), by decide⟩

def laws_eqEntrant_p (a : Entrant) (b : Entrant) : Option Bool :=
  cond (a.skater != b.skater)
    (some false)
    (cond (a.rank != b.rank)
      (some false)
      (some true))
theorem laws_eqEntrant_ok (a : Entrant) (b : Entrant) (r : Bool) (hH : laws_eqEntrant_p a b = some r) : SpecR Try.prog 26 [.g (encEntrant a), .g (encEntrant b)] (.v (.bool r)) := by
  refine fn_ok T Try.func26 rfl (by decide) rfl ?_
  refine AW.seq ?_
  refine AW.region ?_
  refine AO.step rfl (box_ok T rfl 1 rfl rfl rfl rfl) ?_
  refine AO.step rfl (box_ok T rfl 2 rfl rfl rfl rfl) ?_
  refine AO.pure T rfl rfl rfl ?_
  refine AO.nil ?_
  refine AW.seq ?_
  refine AW.seq ?_
  refine AW.region ?_
  refine AO.pure T rfl rfl rfl ?_
  refine AO.pure T rfl rfl rfl ?_
  refine AO.pure T rfl rfl rfl ?_
  refine AO.pure T rfl rfl rfl ?_
  refine AO.pure T rfl rfl rfl ?_
  refine AO.nil ?_
  refine AW.cond (b := (a.skater != b.skater)) rfl (fun hc => ?_) (fun hc => ?_)
  · replace hH := condT hc hH
    refine AW.seq ?_
    refine AW.region ?_
    refine AO.pure T rfl rfl rfl ?_
    refine AO.nil ?_
    refine AW.ret ?_
    cases someE hH
    exact ⟨trivial, _, [], rfl, .c (.c .v), by decide⟩
  · replace hH := condF hc hH
    refine AW.skip ?_
    refine AW.seq ?_
    refine AW.seq ?_
    refine AW.region ?_
    refine AO.pure T rfl rfl rfl ?_
    refine AO.pure T rfl rfl rfl ?_
    refine AO.pure T rfl rfl rfl ?_
    refine AO.pure T rfl rfl rfl ?_
    refine AO.pure T rfl rfl rfl ?_
    refine AO.nil ?_
    refine AW.cond (b := (a.rank != b.rank)) rfl (fun hc => ?_) (fun hc => ?_)
    · replace hH := condT hc hH
      refine AW.seq ?_
      refine AW.region ?_
      refine AO.pure T rfl rfl rfl ?_
      refine AO.nil ?_
      refine AW.ret ?_
      cases someE hH
      exact ⟨trivial, _, [], rfl, .c (.c .v), by decide⟩
    · replace hH := condF hc hH
      refine AW.skip ?_
      refine AW.seq ?_
      refine AW.region ?_
      refine AO.pure T rfl rfl rfl ?_
      refine AO.nil ?_
      refine AW.ret ?_
      cases someE hH
      exact ⟨trivial, _, [], rfl, .c (.c .v), by decide⟩

def laws_eqEntrantS_l1 (b : List Entrant) : List Entrant → Nat → Option Bool
  | [], k1 =>
    some true
  | y2 :: ys3, k1 =>
    (getI b (k1 : Int)).bind fun x16 =>
    (laws_eqEntrant_p y2 x16).bind fun x18 =>
    cond (!x18)
      (some false)
      (laws_eqEntrantS_l1 b ys3 (k1 + 1))
def laws_eqEntrantS_p (a : List Entrant) (b : List Entrant) : Option Bool :=
  cond ((a.length : Int) != (b.length : Int))
    (some false)
    (laws_eqEntrantS_l1 b a 0)
theorem laws_eqEntrantS_ok (a : List Entrant) (b : List Entrant) (r : Bool) (hH : laws_eqEntrantS_p a b = some r) : SpecR Try.prog 13 [.s (List.map encEntrant a), .s (List.map encEntrant b)] (.v (.bool r)) := by
  refine fn_ok T Try.func13 rfl (by decide) rfl ?_
  refine AW.seq ?_
  refine AW.region ?_
  refine AO.pure T rfl rfl rfl ?_
  refine AO.nil ?_
  refine AW.seq ?_
  refine AW.seq ?_
  refine AW.region ?_
  refine AO.pure T rfl rfl rfl ?_
  refine AO.val rfl rfl (len_map_ok T rfl rfl rfl) ?_
  refine AO.pure T rfl rfl rfl ?_
  refine AO.val rfl rfl (len_map_ok T rfl rfl rfl) ?_
  refine AO.pure T rfl rfl rfl ?_
  refine AO.nil ?_
  refine AW.cond (b := ((a.length : Int) != (b.length : Int))) rfl (fun hc => ?_) (fun hc => ?_)
  · replace hH := condT hc hH
    refine AW.seq ?_
    refine AW.region ?_
    refine AO.pure T rfl rfl rfl ?_
    refine AO.nil ?_
    refine AW.ret ?_
    cases someE hH
    exact ⟨trivial, _, [], rfl, .c (.c .v), by decide⟩
  · replace hH := condF hc hH
    refine AW.skip ?_
    refine AW.seq ?_
    refine AW.seq ?_
    refine AW.region ?_
    refine AO.pure T rfl rfl rfl ?_
    refine AO.nil ?_
    refine AW.block ?_
    refine AW.loopS (fun s : Nat => (⟨[(0, .s (List.map encEntrant a)), (1, .s (List.map encEntrant b)), (5, .v (.int .i64 (s : Int)))], [], 27, []⟩ : St)) (fun s => s ≤ a.length ∧ laws_eqEntrantS_l1 b (a.drop s) s = some r) (fun s => a.length - s) 0 ⟨Nat.zero_le _, hH⟩ ?_ ?_
    · exact Le.cut 0 0 rfl (by repeat' (first | exact trivial | refine ⟨⟨_, rfl, rfl⟩, ?_⟩)) (by repeat' (first | exact trivial | refine ⟨⟨_, rfl, rfl⟩, ?_⟩)) rfl
    · rintro k1 ⟨hk, hH⟩
      replace hH : laws_eqEntrantS_l1 b (a.drop k1) k1 = some r := hH
      show AW _ _ _ (⟨[(0, .s (List.map encEntrant a)), (1, .s (List.map encEntrant b)), (5, .v (.int .i64 (k1 : Int)))], [], 27, []⟩ : St)
      refine AW.boundM (t := 0) (l := a) rfl (fun hb5 => ?_)
      cases hd4 : a.drop k1 with
      | nil =>
        rw [hd4] at hH
        rw [laws_eqEntrantS_l1] at hH
        have hlt6 := drop_ge hd4
        refine AW.seq ?_
        refine AW.seq ?_
        refine AW.region ?_
        refine AO.pure T rfl rfl rfl ?_
        refine AO.pure T rfl rfl rfl ?_
        refine AO.val rfl rfl (len_map_ok T rfl rfl rfl) ?_
        refine AO.pure T rfl rfl rfl ?_
        refine AO.nil ?_
        refine AW.condF' (b := decide ((k1 : Int) < (a.length : Int))) rfl (rngF hlt6) ?_
        refine AW.exit ?_
        refine AW.seq ?_
        refine AW.region ?_
        refine AO.pure T rfl rfl rfl ?_
        refine AO.nil ?_
        refine AW.ret ?_
        cases someE hH
        exact ⟨trivial, _, [], rfl, .c (.c .v), by decide⟩
      | cons y2 ys3 =>
        rw [hd4] at hH
        rw [laws_eqEntrantS_l1] at hH
        have hlt6 := drop_lt hd4
        refine AW.seq ?_
        refine AW.seq ?_
        refine AW.region ?_
        refine AO.pure T rfl rfl rfl ?_
        refine AO.pure T rfl rfl rfl ?_
        refine AO.val rfl rfl (len_map_ok T rfl rfl rfl) ?_
        refine AO.pure T rfl rfl rfl ?_
        refine AO.nil ?_
        refine AW.condT' (b := decide ((k1 : Int) < (a.length : Int))) rfl (rngT hlt6) ?_
        refine AW.skip ?_
        refine AW.seq ?_
        refine AW.block ?_
        refine AW.seq ?_
        obtain ⟨x16, hx17, hH⟩ := bindE hH
        obtain ⟨x18, hx19, hH⟩ := bindE hH
        refine AW.drawn 8 1 [] mix (by kernel_rfl) rfl ?_
        refine AD.pure T rfl rfl rfl ?_
        refine AD.pure T rfl rfl rfl ?_
        refine AD.val rfl rfl (ix_map_ok T rfl rfl rfl rfl rfl (getI_drop hd4) rfl) ?_
        refine AD.pure T (d := .g [.v (.int .i64 y2.skater), .v (.int .i64 y2.rank)]) rfl rfl rfl ?_
        refine AD.pure T rfl rfl rfl ?_
        refine AD.pure T rfl rfl rfl ?_
        refine AD.val rfl rfl (ix_map_ok T rfl rfl rfl rfl rfl (hx17) rfl) ?_
        refine AD.pure T (d := .g [.v (.int .i64 x16.skater), .v (.int .i64 x16.rank)]) rfl rfl rfl ?_
        refine AD.nil ?_
        refine AO.val rfl rfl (callV_ok rfl rfl rfl rfl (laws_eqEntrant_ok _ _ _ (hx19)) rfl) ?_
        refine AO.pure T rfl rfl rfl ?_
        refine AO.nil ?_
        refine AW.cond (b := (!x18)) rfl (fun hc => ?_) (fun hc => ?_)
        · replace hH := condT hc hH
          refine AW.seq ?_
          refine AW.region ?_
          refine AO.pure T rfl rfl rfl ?_
          refine AO.nil ?_
          refine AW.ret ?_
          cases someE hH
          exact ⟨trivial, _, [], rfl, .c (.c .v), by decide⟩
        · replace hH := condF hc hH
          refine AW.skip ?_
          refine AW.region ?_
          refine AO.pure T rfl rfl rfl ?_
          refine AO.val rfl rfl (ar_ok rfl rfl rfl rfl (inI_succ hlt6 hb5)) ?_
          refine AO.pure T rfl rfl rfl ?_
          refine AO.nil ?_
          refine ⟨k1 + 1, ⟨Nat.succ_le_of_lt hlt6, (by rw [drop_succ_of hd4]; exact hH)⟩, (by have := hlt6; dsimp only; omega), ?_⟩
          exact Le.cut 0 0 rfl (by repeat' (first | exact trivial | refine ⟨⟨_, rfl, rfl⟩, ?_⟩)) (by repeat' (first | exact trivial | refine ⟨⟨_, rfl, rfl⟩, ?_⟩)) rfl

def laws_eqIntS_l1 (b : List Int) : List Int → Nat → Option Bool
  | [], k1 =>
    some true
  | y2 :: ys3, k1 =>
    (getI b (k1 : Int)).bind fun x12 =>
    cond (y2 != x12)
      (some false)
      (laws_eqIntS_l1 b ys3 (k1 + 1))
def laws_eqIntS_p (a : List Int) (b : List Int) : Option Bool :=
  cond ((a.length : Int) != (b.length : Int))
    (some false)
    (laws_eqIntS_l1 b a 0)
theorem laws_eqIntS_ok (a : List Int) (b : List Int) (r : Bool) (hH : laws_eqIntS_p a b = some r) : SpecR Try.prog 14 [.s (List.map encInt a), .s (List.map encInt b)] (.v (.bool r)) := by
  refine fn_ok T Try.func14 rfl (by decide) rfl ?_
  refine AW.seq ?_
  refine AW.region ?_
  refine AO.pure T rfl rfl rfl ?_
  refine AO.nil ?_
  refine AW.seq ?_
  refine AW.seq ?_
  refine AW.region ?_
  refine AO.pure T rfl rfl rfl ?_
  refine AO.val rfl rfl (len_map_ok T rfl rfl rfl) ?_
  refine AO.pure T rfl rfl rfl ?_
  refine AO.val rfl rfl (len_map_ok T rfl rfl rfl) ?_
  refine AO.pure T rfl rfl rfl ?_
  refine AO.nil ?_
  refine AW.cond (b := ((a.length : Int) != (b.length : Int))) rfl (fun hc => ?_) (fun hc => ?_)
  · replace hH := condT hc hH
    refine AW.seq ?_
    refine AW.region ?_
    refine AO.pure T rfl rfl rfl ?_
    refine AO.nil ?_
    refine AW.ret ?_
    cases someE hH
    exact ⟨trivial, _, [], rfl, .c (.c .v), by decide⟩
  · replace hH := condF hc hH
    refine AW.skip ?_
    refine AW.seq ?_
    refine AW.seq ?_
    refine AW.region ?_
    refine AO.pure T rfl rfl rfl ?_
    refine AO.nil ?_
    refine AW.block ?_
    refine AW.loopS (fun s : Nat => (⟨[(0, .s (List.map encInt a)), (1, .s (List.map encInt b)), (5, .v (.int .i64 (s : Int)))], [], 26, []⟩ : St)) (fun s => s ≤ a.length ∧ laws_eqIntS_l1 b (a.drop s) s = some r) (fun s => a.length - s) 0 ⟨Nat.zero_le _, hH⟩ ?_ ?_
    · exact Le.cut 0 0 rfl (by repeat' (first | exact trivial | refine ⟨⟨_, rfl, rfl⟩, ?_⟩)) (by repeat' (first | exact trivial | refine ⟨⟨_, rfl, rfl⟩, ?_⟩)) rfl
    · rintro k1 ⟨hk, hH⟩
      replace hH : laws_eqIntS_l1 b (a.drop k1) k1 = some r := hH
      show AW _ _ _ (⟨[(0, .s (List.map encInt a)), (1, .s (List.map encInt b)), (5, .v (.int .i64 (k1 : Int)))], [], 26, []⟩ : St)
      refine AW.boundM (t := 0) (l := a) rfl (fun hb5 => ?_)
      cases hd4 : a.drop k1 with
      | nil =>
        rw [hd4] at hH
        rw [laws_eqIntS_l1] at hH
        have hlt6 := drop_ge hd4
        refine AW.seq ?_
        refine AW.seq ?_
        refine AW.region ?_
        refine AO.pure T rfl rfl rfl ?_
        refine AO.pure T rfl rfl rfl ?_
        refine AO.val rfl rfl (len_map_ok T rfl rfl rfl) ?_
        refine AO.pure T rfl rfl rfl ?_
        refine AO.nil ?_
        refine AW.condF' (b := decide ((k1 : Int) < (a.length : Int))) rfl (rngF hlt6) ?_
        refine AW.exit ?_
        refine AW.seq ?_
        refine AW.region ?_
        refine AO.pure T rfl rfl rfl ?_
        refine AO.nil ?_
        refine AW.ret ?_
        cases someE hH
        exact ⟨trivial, _, [], rfl, .c (.c .v), by decide⟩
      | cons y2 ys3 =>
        rw [hd4] at hH
        rw [laws_eqIntS_l1] at hH
        have hlt6 := drop_lt hd4
        refine AW.seq ?_
        refine AW.seq ?_
        refine AW.region ?_
        refine AO.pure T rfl rfl rfl ?_
        refine AO.pure T rfl rfl rfl ?_
        refine AO.val rfl rfl (len_map_ok T rfl rfl rfl) ?_
        refine AO.pure T rfl rfl rfl ?_
        refine AO.nil ?_
        refine AW.condT' (b := decide ((k1 : Int) < (a.length : Int))) rfl (rngT hlt6) ?_
        refine AW.skip ?_
        refine AW.seq ?_
        refine AW.block ?_
        refine AW.seq ?_
        obtain ⟨x12, hx13, hH⟩ := bindE hH
        refine AW.drawn 8 1 [] mix (by kernel_rfl) rfl ?_
        refine AD.pure T rfl rfl rfl ?_
        refine AD.pure T rfl rfl rfl ?_
        refine AD.val rfl rfl (ix_map_ok T rfl rfl rfl rfl rfl (getI_drop hd4) rfl) ?_
        refine AD.pure T rfl rfl rfl ?_
        refine AD.pure T rfl rfl rfl ?_
        refine AD.pure T rfl rfl rfl ?_
        refine AD.val rfl rfl (ix_map_ok T rfl rfl rfl rfl rfl (hx13) rfl) ?_
        refine AD.pure T rfl rfl rfl ?_
        refine AD.nil ?_
        refine AO.pure T rfl rfl rfl ?_
        refine AO.nil ?_
        refine AW.cond (b := (y2 != x12)) rfl (fun hc => ?_) (fun hc => ?_)
        · replace hH := condT hc hH
          refine AW.seq ?_
          refine AW.region ?_
          refine AO.pure T rfl rfl rfl ?_
          refine AO.nil ?_
          refine AW.ret ?_
          cases someE hH
          exact ⟨trivial, _, [], rfl, .c (.c .v), by decide⟩
        · replace hH := condF hc hH
          refine AW.skip ?_
          refine AW.region ?_
          refine AO.pure T rfl rfl rfl ?_
          refine AO.val rfl rfl (ar_ok rfl rfl rfl rfl (inI_succ hlt6 hb5)) ?_
          refine AO.pure T rfl rfl rfl ?_
          refine AO.nil ?_
          refine ⟨k1 + 1, ⟨Nat.succ_le_of_lt hlt6, (by rw [drop_succ_of hd4]; exact hH)⟩, (by have := hlt6; dsimp only; omega), ?_⟩
          exact Le.cut 0 0 rfl (by repeat' (first | exact trivial | refine ⟨⟨_, rfl, rfl⟩, ?_⟩)) (by repeat' (first | exact trivial | refine ⟨⟨_, rfl, rfl⟩, ?_⟩)) rfl

def laws_eqResult_p (a : Result) (b : Result) : Option Bool :=
  cond (a.skater != b.skater)
    (some false)
    ((laws_eqIntS_p a.scores b.scores).bind fun x1 =>
    cond (!x1)
      (some false)
      (some true))
theorem laws_eqResult_ok (a : Result) (b : Result) (r : Bool) (hH : laws_eqResult_p a b = some r) : SpecR Try.prog 27 [.g (encResult a), .g (encResult b)] (.v (.bool r)) := by
  refine fn_ok T Try.func27 rfl (by decide) rfl ?_
  refine AW.seq ?_
  refine AW.region ?_
  refine AO.step rfl (box_ok T rfl 1 rfl rfl rfl rfl) ?_
  refine AO.step rfl (box_ok T rfl 2 rfl rfl rfl rfl) ?_
  refine AO.pure T rfl rfl rfl ?_
  refine AO.nil ?_
  refine AW.seq ?_
  refine AW.seq ?_
  refine AW.region ?_
  refine AO.pure T rfl rfl rfl ?_
  refine AO.pure T rfl rfl rfl ?_
  refine AO.pure T rfl rfl rfl ?_
  refine AO.pure T rfl rfl rfl ?_
  refine AO.pure T rfl rfl rfl ?_
  refine AO.nil ?_
  refine AW.cond (b := (a.skater != b.skater)) rfl (fun hc => ?_) (fun hc => ?_)
  · replace hH := condT hc hH
    refine AW.seq ?_
    refine AW.region ?_
    refine AO.pure T rfl rfl rfl ?_
    refine AO.nil ?_
    refine AW.ret ?_
    cases someE hH
    exact ⟨trivial, _, [], rfl, .c (.c .v), by decide⟩
  · replace hH := condF hc hH
    refine AW.skip ?_
    refine AW.seq ?_
    refine AW.seq ?_
    obtain ⟨x1, hx2, hH⟩ := bindE hH
    refine AW.region ?_
    refine AO.pure T rfl rfl rfl ?_
    refine AO.pure T rfl rfl rfl ?_
    refine AO.pure T rfl rfl rfl ?_
    refine AO.pure T rfl rfl rfl ?_
    refine AO.val rfl rfl (callV_ok rfl rfl rfl rfl (laws_eqIntS_ok _ _ _ (hx2)) rfl) ?_
    refine AO.pure T rfl rfl rfl ?_
    refine AO.nil ?_
    refine AW.cond (b := (!x1)) rfl (fun hc => ?_) (fun hc => ?_)
    · replace hH := condT hc hH
      refine AW.seq ?_
      refine AW.region ?_
      refine AO.pure T rfl rfl rfl ?_
      refine AO.nil ?_
      refine AW.ret ?_
      cases someE hH
      exact ⟨trivial, _, [], rfl, .c (.c .v), by decide⟩
    · replace hH := condF hc hH
      refine AW.skip ?_
      refine AW.seq ?_
      refine AW.region ?_
      refine AO.pure T rfl rfl rfl ?_
      refine AO.nil ?_
      refine AW.ret ?_
      cases someE hH
      exact ⟨trivial, _, [], rfl, .c (.c .v), by decide⟩

def laws_eqResultS_l1 (b : List Result) : List Result → Nat → Option Bool
  | [], k1 =>
    some true
  | y2 :: ys3, k1 =>
    (getI b (k1 : Int)).bind fun x16 =>
    (laws_eqResult_p y2 x16).bind fun x18 =>
    cond (!x18)
      (some false)
      (laws_eqResultS_l1 b ys3 (k1 + 1))
def laws_eqResultS_p (a : List Result) (b : List Result) : Option Bool :=
  cond ((a.length : Int) != (b.length : Int))
    (some false)
    (laws_eqResultS_l1 b a 0)
theorem laws_eqResultS_ok (a : List Result) (b : List Result) (r : Bool) (hH : laws_eqResultS_p a b = some r) : SpecR Try.prog 15 [.s (List.map encResult a), .s (List.map encResult b)] (.v (.bool r)) := by
  refine fn_ok T Try.func15 rfl (by decide) rfl ?_
  refine AW.seq ?_
  refine AW.region ?_
  refine AO.pure T rfl rfl rfl ?_
  refine AO.nil ?_
  refine AW.seq ?_
  refine AW.seq ?_
  refine AW.region ?_
  refine AO.pure T rfl rfl rfl ?_
  refine AO.val rfl rfl (len_map_ok T rfl rfl rfl) ?_
  refine AO.pure T rfl rfl rfl ?_
  refine AO.val rfl rfl (len_map_ok T rfl rfl rfl) ?_
  refine AO.pure T rfl rfl rfl ?_
  refine AO.nil ?_
  refine AW.cond (b := ((a.length : Int) != (b.length : Int))) rfl (fun hc => ?_) (fun hc => ?_)
  · replace hH := condT hc hH
    refine AW.seq ?_
    refine AW.region ?_
    refine AO.pure T rfl rfl rfl ?_
    refine AO.nil ?_
    refine AW.ret ?_
    cases someE hH
    exact ⟨trivial, _, [], rfl, .c (.c .v), by decide⟩
  · replace hH := condF hc hH
    refine AW.skip ?_
    refine AW.seq ?_
    refine AW.seq ?_
    refine AW.region ?_
    refine AO.pure T rfl rfl rfl ?_
    refine AO.nil ?_
    refine AW.block ?_
    refine AW.loopS (fun s : Nat => (⟨[(0, .s (List.map encResult a)), (1, .s (List.map encResult b)), (5, .v (.int .i64 (s : Int)))], [], 27, []⟩ : St)) (fun s => s ≤ a.length ∧ laws_eqResultS_l1 b (a.drop s) s = some r) (fun s => a.length - s) 0 ⟨Nat.zero_le _, hH⟩ ?_ ?_
    · exact Le.cut 0 0 rfl (by repeat' (first | exact trivial | refine ⟨⟨_, rfl, rfl⟩, ?_⟩)) (by repeat' (first | exact trivial | refine ⟨⟨_, rfl, rfl⟩, ?_⟩)) rfl
    · rintro k1 ⟨hk, hH⟩
      replace hH : laws_eqResultS_l1 b (a.drop k1) k1 = some r := hH
      show AW _ _ _ (⟨[(0, .s (List.map encResult a)), (1, .s (List.map encResult b)), (5, .v (.int .i64 (k1 : Int)))], [], 27, []⟩ : St)
      refine AW.boundM (t := 0) (l := a) rfl (fun hb5 => ?_)
      cases hd4 : a.drop k1 with
      | nil =>
        rw [hd4] at hH
        rw [laws_eqResultS_l1] at hH
        have hlt6 := drop_ge hd4
        refine AW.seq ?_
        refine AW.seq ?_
        refine AW.region ?_
        refine AO.pure T rfl rfl rfl ?_
        refine AO.pure T rfl rfl rfl ?_
        refine AO.val rfl rfl (len_map_ok T rfl rfl rfl) ?_
        refine AO.pure T rfl rfl rfl ?_
        refine AO.nil ?_
        refine AW.condF' (b := decide ((k1 : Int) < (a.length : Int))) rfl (rngF hlt6) ?_
        refine AW.exit ?_
        refine AW.seq ?_
        refine AW.region ?_
        refine AO.pure T rfl rfl rfl ?_
        refine AO.nil ?_
        refine AW.ret ?_
        cases someE hH
        exact ⟨trivial, _, [], rfl, .c (.c .v), by decide⟩
      | cons y2 ys3 =>
        rw [hd4] at hH
        rw [laws_eqResultS_l1] at hH
        have hlt6 := drop_lt hd4
        refine AW.seq ?_
        refine AW.seq ?_
        refine AW.region ?_
        refine AO.pure T rfl rfl rfl ?_
        refine AO.pure T rfl rfl rfl ?_
        refine AO.val rfl rfl (len_map_ok T rfl rfl rfl) ?_
        refine AO.pure T rfl rfl rfl ?_
        refine AO.nil ?_
        refine AW.condT' (b := decide ((k1 : Int) < (a.length : Int))) rfl (rngT hlt6) ?_
        refine AW.skip ?_
        refine AW.seq ?_
        refine AW.block ?_
        refine AW.seq ?_
        obtain ⟨x16, hx17, hH⟩ := bindE hH
        obtain ⟨x18, hx19, hH⟩ := bindE hH
        refine AW.drawn 8 1 [] mix (by kernel_rfl) rfl ?_
        refine AD.pure T rfl rfl rfl ?_
        refine AD.pure T rfl rfl rfl ?_
        refine AD.val rfl rfl (ix_map_ok T rfl rfl rfl rfl rfl (getI_drop hd4) rfl) ?_
        refine AD.pure T (d := .g [.v (.int .i64 y2.skater), .s (List.map encInt y2.scores)]) rfl rfl rfl ?_
        refine AD.pure T rfl rfl rfl ?_
        refine AD.pure T rfl rfl rfl ?_
        refine AD.val rfl rfl (ix_map_ok T rfl rfl rfl rfl rfl (hx17) rfl) ?_
        refine AD.pure T (d := .g [.v (.int .i64 x16.skater), .s (List.map encInt x16.scores)]) rfl rfl rfl ?_
        refine AD.nil ?_
        refine AO.val rfl rfl (callV_ok rfl rfl rfl rfl (laws_eqResult_ok _ _ _ (hx19)) rfl) ?_
        refine AO.pure T rfl rfl rfl ?_
        refine AO.nil ?_
        refine AW.cond (b := (!x18)) rfl (fun hc => ?_) (fun hc => ?_)
        · replace hH := condT hc hH
          refine AW.seq ?_
          refine AW.region ?_
          refine AO.pure T rfl rfl rfl ?_
          refine AO.nil ?_
          refine AW.ret ?_
          cases someE hH
          exact ⟨trivial, _, [], rfl, .c (.c .v), by decide⟩
        · replace hH := condF hc hH
          refine AW.skip ?_
          refine AW.region ?_
          refine AO.pure T rfl rfl rfl ?_
          refine AO.val rfl rfl (ar_ok rfl rfl rfl rfl (inI_succ hlt6 hb5)) ?_
          refine AO.pure T rfl rfl rfl ?_
          refine AO.nil ?_
          refine ⟨k1 + 1, ⟨Nat.succ_le_of_lt hlt6, (by rw [drop_succ_of hd4]; exact hH)⟩, (by have := hlt6; dsimp only; omega), ?_⟩
          exact Le.cut 0 0 rfl (by repeat' (first | exact trivial | refine ⟨⟨_, rfl, rfl⟩, ?_⟩)) (by repeat' (first | exact trivial | refine ⟨⟨_, rfl, rfl⟩, ?_⟩)) rfl

def laws_eqEvent_p (a : Event) (b : Event) : Option Bool :=
  cond (a.segments != b.segments)
    (some false)
    (cond (a.size != b.size)
      (some false)
      (cond (a.key != b.key)
        (some false)
        ((laws_eqEntrantS_p a.entrants b.entrants).bind fun x1 =>
        cond (!x1)
          (some false)
          ((laws_eqIntS_p a.gone b.gone).bind fun x3 =>
          cond (!x3)
            (some false)
            (cond (a.segment != b.segment)
              (some false)
              ((laws_eqIntS_p a.order b.order).bind fun x5 =>
              cond (!x5)
                (some false)
                ((laws_eqResultS_p a.results b.results).bind fun x7 =>
                cond (!x7)
                  (some false)
                  (some true))))))))
theorem laws_eqEvent_ok (a : Event) (b : Event) (r : Bool) (hH : laws_eqEvent_p a b = some r) : SpecR Try.prog 6 [.g (encEvent a), .g (encEvent b)] (.v (.bool r)) := by
  refine fn_ok T Try.func6 rfl (by decide) rfl ?_
  refine AW.seq ?_
  refine AW.region ?_
  refine AO.step rfl (box_ok T rfl 1 rfl rfl rfl rfl) ?_
  refine AO.step rfl (box_ok T rfl 2 rfl rfl rfl rfl) ?_
  refine AO.pure T rfl rfl rfl ?_
  refine AO.nil ?_
  refine AW.seq ?_
  refine AW.seq ?_
  refine AW.region ?_
  refine AO.pure T rfl rfl rfl ?_
  refine AO.pure T rfl rfl rfl ?_
  refine AO.pure T rfl rfl rfl ?_
  refine AO.pure T rfl rfl rfl ?_
  refine AO.pure T rfl rfl rfl ?_
  refine AO.nil ?_
  refine AW.cond (b := (a.segments != b.segments)) rfl (fun hc => ?_) (fun hc => ?_)
  · replace hH := condT hc hH
    refine AW.seq ?_
    refine AW.region ?_
    refine AO.pure T rfl rfl rfl ?_
    refine AO.nil ?_
    refine AW.ret ?_
    cases someE hH
    exact ⟨trivial, _, [], rfl, .c (.c .v), by decide⟩
  · replace hH := condF hc hH
    refine AW.skip ?_
    refine AW.seq ?_
    refine AW.seq ?_
    refine AW.region ?_
    refine AO.pure T rfl rfl rfl ?_
    refine AO.pure T rfl rfl rfl ?_
    refine AO.pure T rfl rfl rfl ?_
    refine AO.pure T rfl rfl rfl ?_
    refine AO.pure T rfl rfl rfl ?_
    refine AO.nil ?_
    refine AW.cond (b := (a.size != b.size)) rfl (fun hc => ?_) (fun hc => ?_)
    · replace hH := condT hc hH
      refine AW.seq ?_
      refine AW.region ?_
      refine AO.pure T rfl rfl rfl ?_
      refine AO.nil ?_
      refine AW.ret ?_
      cases someE hH
      exact ⟨trivial, _, [], rfl, .c (.c .v), by decide⟩
    · replace hH := condF hc hH
      refine AW.skip ?_
      refine AW.seq ?_
      refine AW.seq ?_
      refine AW.region ?_
      refine AO.pure T rfl rfl rfl ?_
      refine AO.pure T rfl rfl rfl ?_
      refine AO.pure T rfl rfl rfl ?_
      refine AO.pure T rfl rfl rfl ?_
      refine AO.pure T rfl rfl rfl ?_
      refine AO.nil ?_
      refine AW.cond (b := (a.key != b.key)) rfl (fun hc => ?_) (fun hc => ?_)
      · replace hH := condT hc hH
        refine AW.seq ?_
        refine AW.region ?_
        refine AO.pure T rfl rfl rfl ?_
        refine AO.nil ?_
        refine AW.ret ?_
        cases someE hH
        exact ⟨trivial, _, [], rfl, .c (.c .v), by decide⟩
      · replace hH := condF hc hH
        refine AW.skip ?_
        refine AW.seq ?_
        refine AW.seq ?_
        obtain ⟨x1, hx2, hH⟩ := bindE hH
        refine AW.region ?_
        refine AO.pure T rfl rfl rfl ?_
        refine AO.pure T rfl rfl rfl ?_
        refine AO.pure T rfl rfl rfl ?_
        refine AO.pure T rfl rfl rfl ?_
        refine AO.val rfl rfl (callV_ok rfl rfl rfl rfl (laws_eqEntrantS_ok _ _ _ (hx2)) rfl) ?_
        refine AO.pure T rfl rfl rfl ?_
        refine AO.nil ?_
        refine AW.le (Le.cut 0 0 (σ' := (⟨[(2, .p 1 0), (3, .p 2 0), (25, .v (.bool (!x1)))], [(1, .box [.v (.int .i64 a.segments), .v (.int .i64 a.size), .v (.int .i64 a.key), .s (List.map encEntrant a.entrants), .s (List.map encInt a.gone), .v (.int .i64 a.segment), .s (List.map encInt a.order), .s (List.map encResult a.results)]), (2, .box [.v (.int .i64 b.segments), .v (.int .i64 b.size), .v (.int .i64 b.key), .s (List.map encEntrant b.entrants), .s (List.map encInt b.gone), .v (.int .i64 b.segment), .s (List.map encInt b.order), .s (List.map encResult b.results)])], 49, []⟩ : St)) rfl (by repeat' (first | exact trivial | refine ⟨⟨_, rfl, rfl⟩, ?_⟩)) (by repeat' (first | exact trivial | refine ⟨⟨_, rfl, rfl⟩, ?_⟩)) rfl) ?_
        refine AW.cond (b := (!x1)) rfl (fun hc => ?_) (fun hc => ?_)
        · replace hH := condT hc hH
          refine AW.seq ?_
          refine AW.region ?_
          refine AO.pure T rfl rfl rfl ?_
          refine AO.nil ?_
          refine AW.ret ?_
          cases someE hH
          exact ⟨trivial, _, [], rfl, .c (.c .v), by decide⟩
        · replace hH := condF hc hH
          refine AW.skip ?_
          refine AW.seq ?_
          refine AW.seq ?_
          obtain ⟨x3, hx4, hH⟩ := bindE hH
          refine AW.region ?_
          refine AO.pure T rfl rfl rfl ?_
          refine AO.pure T rfl rfl rfl ?_
          refine AO.pure T rfl rfl rfl ?_
          refine AO.pure T rfl rfl rfl ?_
          refine AO.val rfl rfl (callV_ok rfl rfl rfl rfl (laws_eqIntS_ok _ _ _ (hx4)) rfl) ?_
          refine AO.pure T rfl rfl rfl ?_
          refine AO.nil ?_
          refine AW.cond (b := (!x3)) rfl (fun hc => ?_) (fun hc => ?_)
          · replace hH := condT hc hH
            refine AW.seq ?_
            refine AW.region ?_
            refine AO.pure T rfl rfl rfl ?_
            refine AO.nil ?_
            refine AW.ret ?_
            cases someE hH
            exact ⟨trivial, _, [], rfl, .c (.c .v), by decide⟩
          · replace hH := condF hc hH
            refine AW.skip ?_
            refine AW.seq ?_
            refine AW.seq ?_
            refine AW.region ?_
            refine AO.pure T rfl rfl rfl ?_
            refine AO.pure T rfl rfl rfl ?_
            refine AO.pure T rfl rfl rfl ?_
            refine AO.pure T rfl rfl rfl ?_
            refine AO.pure T rfl rfl rfl ?_
            refine AO.nil ?_
            refine AW.cond (b := (a.segment != b.segment)) rfl (fun hc => ?_) (fun hc => ?_)
            · replace hH := condT hc hH
              refine AW.seq ?_
              refine AW.region ?_
              refine AO.pure T rfl rfl rfl ?_
              refine AO.nil ?_
              refine AW.ret ?_
              cases someE hH
              exact ⟨trivial, _, [], rfl, .c (.c .v), by decide⟩
            · replace hH := condF hc hH
              refine AW.skip ?_
              refine AW.seq ?_
              refine AW.seq ?_
              obtain ⟨x5, hx6, hH⟩ := bindE hH
              refine AW.region ?_
              refine AO.pure T rfl rfl rfl ?_
              refine AO.pure T rfl rfl rfl ?_
              refine AO.pure T rfl rfl rfl ?_
              refine AO.pure T rfl rfl rfl ?_
              refine AO.val rfl rfl (callV_ok rfl rfl rfl rfl (laws_eqIntS_ok _ _ _ (hx6)) rfl) ?_
              refine AO.pure T rfl rfl rfl ?_
              refine AO.nil ?_
              refine AW.cond (b := (!x5)) rfl (fun hc => ?_) (fun hc => ?_)
              · replace hH := condT hc hH
                refine AW.seq ?_
                refine AW.region ?_
                refine AO.pure T rfl rfl rfl ?_
                refine AO.nil ?_
                refine AW.ret ?_
                cases someE hH
                exact ⟨trivial, _, [], rfl, .c (.c .v), by decide⟩
              · replace hH := condF hc hH
                refine AW.skip ?_
                refine AW.seq ?_
                refine AW.seq ?_
                obtain ⟨x7, hx8, hH⟩ := bindE hH
                refine AW.region ?_
                refine AO.pure T rfl rfl rfl ?_
                refine AO.pure T rfl rfl rfl ?_
                refine AO.pure T rfl rfl rfl ?_
                refine AO.pure T rfl rfl rfl ?_
                refine AO.val rfl rfl (callV_ok rfl rfl rfl rfl (laws_eqResultS_ok _ _ _ (hx8)) rfl) ?_
                refine AO.pure T rfl rfl rfl ?_
                refine AO.nil ?_
                refine AW.cond (b := (!x7)) rfl (fun hc => ?_) (fun hc => ?_)
                · replace hH := condT hc hH
                  refine AW.seq ?_
                  refine AW.region ?_
                  refine AO.pure T rfl rfl rfl ?_
                  refine AO.nil ?_
                  refine AW.le (Le.cut 0 0 (σ' := (⟨[(4, .v (.bool false))], [], 49, []⟩ : St)) rfl (by repeat' (first | exact trivial | refine ⟨⟨_, rfl, rfl⟩, ?_⟩)) (by repeat' (first | exact trivial | refine ⟨⟨_, rfl, rfl⟩, ?_⟩)) rfl) ?_
                  refine AW.ret ?_
                  cases someE hH
                  exact ⟨trivial, _, [], rfl, .c (.c .v), by decide⟩
                · replace hH := condF hc hH
                  refine AW.skip ?_
                  refine AW.seq ?_
                  refine AW.region ?_
                  refine AO.pure T rfl rfl rfl ?_
                  refine AO.nil ?_
                  refine AW.le (Le.cut 0 0 (σ' := (⟨[(4, .v (.bool true))], [], 49, []⟩ : St)) rfl (by repeat' (first | exact trivial | refine ⟨⟨_, rfl, rfl⟩, ?_⟩)) (by repeat' (first | exact trivial | refine ⟨⟨_, rfl, rfl⟩, ?_⟩)) rfl) ?_
                  refine AW.ret ?_
                  cases someE hH
                  exact ⟨trivial, _, [], rfl, .c (.c .v), by decide⟩

def laws_markEntrantS_l1 : Nat → List Entrant → Int → Int → Option (((List Entrant) × Int))
  | 0, _, _, _ => none
  | k1 + 1, v13, v14, v15 =>
    cond (decide (v15 < (v13.length : Int)))
      ((getI v13 v15).bind fun x17 =>
      (getI (v13.set v15.toNat (Entrant.mk v14 x17.rank)) v15).bind fun x19 =>
      laws_markEntrantS_l1 k1 ((v13.set v15.toNat (Entrant.mk v14 x17.rank)).set v15.toNat (Entrant.mk x19.skater (w64 (v14 + 1)))) (w64 ((w64 (v14 + 1)) + 1)) (w64 (v15 + 1)))
      (some (v13, v14))
def laws_markEntrantS_p (fuel : Nat) (a : List Entrant) (k : Int) : Option ((List Entrant) × Int) :=
  laws_markEntrantS_l1 fuel a k 0
theorem laws_markEntrantS_ok (fuel : Nat) (a : List Entrant) (k : Int) (r : ((List Entrant) × Int)) (hH : laws_markEntrantS_p fuel a k = some r) : SpecM Try.prog 16 [.w 2 (a.map encEntrant), .v (.int .i64 k)] [.w 2 (r.1.map encEntrant), .u] (.v (.int .i64 r.2)) := by
  refine fn_okM T Try.func16 rfl (by decide) rfl rfl ?_
  intro L
  show AW _ _ _ (⟨[(0, .R 1), (1, .v (.int .i64 k))], [(1, .row 2 (List.map encEntrant a))], 27, [(1, L 1)]⟩ : St)
  refine AW.seq ?_
  refine AW.region ?_
  refine AO.pure T rfl rfl rfl ?_
  refine AO.nil ?_
  refine AW.seq ?_
  refine AW.seq ?_
  refine AW.region ?_
  refine AO.pure T rfl rfl rfl ?_
  refine AO.nil ?_
  refine AW.block ?_
  refine AW.loopS (fun s : Nat × (List Entrant) × Int × Int => (⟨[(0, .R 1), (1, .v (.int .i64 s.2.2.1)), (5, .v (.int .i64 s.2.2.2))], [(1, .row 2 (List.map encEntrant s.2.1))], 27, [(1, L 1)]⟩ : St)) (fun s => laws_markEntrantS_l1 s.1 s.2.1 s.2.2.1 s.2.2.2 = some r) (fun s => s.1) (fuel, a, k, 0) hH ?_ ?_
  · exact Le.cut 0 0 rfl (by repeat' (first | exact trivial | refine ⟨⟨_, rfl, rfl⟩, ?_⟩)) (by repeat' (first | exact trivial | refine ⟨⟨_, rfl, rfl⟩, ?_⟩)) rfl ⟨⟨rfl, rfl⟩, trivial⟩
  · rintro ⟨k1, v13, v14, v15⟩ hH
    replace hH : laws_markEntrantS_l1 k1 v13 v14 v15 = some r := hH
    show AW _ _ _ (⟨[(0, .R 1), (1, .v (.int .i64 v14)), (5, .v (.int .i64 v15))], [(1, .row 2 (List.map encEntrant v13))], 27, [(1, L 1)]⟩ : St)
    cases k1 with
    | zero => cases (show none = some _ from hH)
    | succ k1 =>
      rw [laws_markEntrantS_l1] at hH
      refine AW.seq ?_
      refine AW.seq ?_
      refine AW.region ?_
      refine AO.pure T rfl rfl rfl ?_
      refine AO.pure T rfl rfl rfl ?_
      refine AO.val rfl rfl (len_row_ok T rfl rfl rfl rfl) ?_
      refine AO.pure T rfl rfl rfl ?_
      refine AO.nil ?_
      refine AW.cond (b := decide (v15 < (v13.length : Int))) rfl (fun hc => ?_) (fun hc => ?_)
      · replace hH := condT hc hH
        refine AW.skip ?_
        refine AW.seq ?_
        refine AW.block ?_
        refine AW.seq ?_
        obtain ⟨x17, hx18, hH⟩ := bindE hH
        refine AW.region ?_
        refine AO.pure T rfl rfl rfl ?_
        refine AO.pure T rfl rfl rfl ?_
        refine AO.pure T rfl rfl rfl ?_
        refine AO.val rfl rfl (ix_row_ok T rfl rfl rfl rfl rfl rfl (hx18)) ?_
        refine AO.pure T rfl rfl rfl ?_
        refine AO.step rfl (store_row_ok T rfl rfl rfl rfl rfl (getI_get (hx18)) rfl rfl rfl rfl (u' := (Entrant.mk v14 x17.rank)) rfl rfl) ?_
        refine AO.nil ?_
        refine AW.seq ?_
        refine AW.region ?_
        refine AO.pure T rfl rfl rfl ?_
        refine AO.val rfl rfl (arw_ok rfl rfl rfl rfl) ?_
        refine AO.pure T rfl rfl rfl ?_
        refine AO.nil ?_
        refine AW.seq ?_
        obtain ⟨x19, hx20, hH⟩ := bindE hH
        refine AW.region ?_
        refine AO.pure T rfl rfl rfl ?_
        refine AO.pure T rfl rfl rfl ?_
        refine AO.pure T rfl rfl rfl ?_
        refine AO.val rfl rfl (ix_row_ok T rfl rfl rfl rfl rfl rfl (hx20)) ?_
        refine AO.pure T rfl rfl rfl ?_
        refine AO.step rfl (store_row_ok T rfl rfl rfl rfl rfl (getI_get (hx20)) rfl rfl rfl rfl (u' := (Entrant.mk x19.skater (w64 (v14 + 1)))) rfl rfl) ?_
        refine AO.nil ?_
        refine AW.region ?_
        refine AO.pure T rfl rfl rfl ?_
        refine AO.val rfl rfl (arw_ok rfl rfl rfl rfl) ?_
        refine AO.pure T rfl rfl rfl ?_
        refine AO.nil ?_
        refine AW.region ?_
        refine AO.pure T rfl rfl rfl ?_
        refine AO.val rfl rfl (arw_ok rfl rfl rfl rfl) ?_
        refine AO.pure T rfl rfl rfl ?_
        refine AO.nil ?_
        refine ⟨(k1, ((v13.set v15.toNat (Entrant.mk v14 x17.rank)).set v15.toNat (Entrant.mk x19.skater (w64 (v14 + 1)))), w64 ((w64 (v14 + 1)) + 1), w64 (v15 + 1)), hH, Nat.lt_succ_self _, ?_⟩
        exact Le.cut 0 0 rfl (by repeat' (first | exact trivial | refine ⟨⟨_, rfl, rfl⟩, ?_⟩)) (by repeat' (first | exact trivial | refine ⟨⟨_, rfl, rfl⟩, ?_⟩)) rfl ⟨⟨rfl, rfl⟩, trivial⟩
      · replace hH := condF hc hH
        refine AW.exit ?_
        refine AW.seq ?_
        refine AW.region ?_
        refine AO.pure T rfl rfl rfl ?_
        refine AO.pure T rfl rfl rfl ?_
        refine AO.nil ?_
        refine AW.ret ?_
        cases someE hH
        exact ⟨trivial, rfl, _, [], [1], rfl, expLG_cons (.c (.rowR rfl)) (expLG_cons (.c .u) (expLG_nil)), .c (.c .v), by decide⟩

def laws_markIntS_l1 : Nat → List Int → Int → Int → Option (((List Int) × Int))
  | 0, _, _, _ => none
  | k1 + 1, v9, v10, v11 =>
    cond (decide (v11 < (v9.length : Int)))
      ((getI v9 v11).bind fun x13 =>
      laws_markIntS_l1 k1 (v9.set v11.toNat v10) (w64 (v10 + 1)) (w64 (v11 + 1)))
      (some (v9, v10))
def laws_markIntS_p (fuel : Nat) (a : List Int) (k : Int) : Option ((List Int) × Int) :=
  laws_markIntS_l1 fuel a k 0
theorem laws_markIntS_ok (fuel : Nat) (a : List Int) (k : Int) (r : ((List Int) × Int)) (hH : laws_markIntS_p fuel a k = some r) : SpecM Try.prog 17 [.w 1 (a.map encInt), .v (.int .i64 k)] [.w 1 (r.1.map encInt), .u] (.v (.int .i64 r.2)) := by
  refine fn_okM T Try.func17 rfl (by decide) rfl rfl ?_
  intro L
  show AW _ _ _ (⟨[(0, .R 1), (1, .v (.int .i64 k))], [(1, .row 1 (List.map encInt a))], 19, [(1, L 1)]⟩ : St)
  refine AW.seq ?_
  refine AW.region ?_
  refine AO.pure T rfl rfl rfl ?_
  refine AO.nil ?_
  refine AW.seq ?_
  refine AW.seq ?_
  refine AW.region ?_
  refine AO.pure T rfl rfl rfl ?_
  refine AO.nil ?_
  refine AW.block ?_
  refine AW.loopS (fun s : Nat × (List Int) × Int × Int => (⟨[(0, .R 1), (1, .v (.int .i64 s.2.2.1)), (5, .v (.int .i64 s.2.2.2))], [(1, .row 1 (List.map encInt s.2.1))], 19, [(1, L 1)]⟩ : St)) (fun s => laws_markIntS_l1 s.1 s.2.1 s.2.2.1 s.2.2.2 = some r) (fun s => s.1) (fuel, a, k, 0) hH ?_ ?_
  · exact Le.cut 0 0 rfl (by repeat' (first | exact trivial | refine ⟨⟨_, rfl, rfl⟩, ?_⟩)) (by repeat' (first | exact trivial | refine ⟨⟨_, rfl, rfl⟩, ?_⟩)) rfl ⟨⟨rfl, rfl⟩, trivial⟩
  · rintro ⟨k1, v9, v10, v11⟩ hH
    replace hH : laws_markIntS_l1 k1 v9 v10 v11 = some r := hH
    show AW _ _ _ (⟨[(0, .R 1), (1, .v (.int .i64 v10)), (5, .v (.int .i64 v11))], [(1, .row 1 (List.map encInt v9))], 19, [(1, L 1)]⟩ : St)
    cases k1 with
    | zero => cases (show none = some _ from hH)
    | succ k1 =>
      rw [laws_markIntS_l1] at hH
      refine AW.seq ?_
      refine AW.seq ?_
      refine AW.region ?_
      refine AO.pure T rfl rfl rfl ?_
      refine AO.pure T rfl rfl rfl ?_
      refine AO.val rfl rfl (len_row_ok T rfl rfl rfl rfl) ?_
      refine AO.pure T rfl rfl rfl ?_
      refine AO.nil ?_
      refine AW.cond (b := decide (v11 < (v9.length : Int))) rfl (fun hc => ?_) (fun hc => ?_)
      · replace hH := condT hc hH
        refine AW.skip ?_
        refine AW.seq ?_
        refine AW.block ?_
        refine AW.seq ?_
        obtain ⟨x13, hx14, hH⟩ := bindE hH
        refine AW.region ?_
        refine AO.pure T rfl rfl rfl ?_
        refine AO.pure T rfl rfl rfl ?_
        refine AO.pure T rfl rfl rfl ?_
        refine AO.val rfl rfl (ix_row_ok T rfl rfl rfl rfl rfl rfl (hx14)) ?_
        refine AO.step rfl (store_row_ok T rfl rfl rfl rfl rfl (getI_get (hx14)) rfl rfl rfl rfl (u' := v10) rfl rfl) ?_
        refine AO.nil ?_
        refine AW.region ?_
        refine AO.pure T rfl rfl rfl ?_
        refine AO.val rfl rfl (arw_ok rfl rfl rfl rfl) ?_
        refine AO.pure T rfl rfl rfl ?_
        refine AO.nil ?_
        refine AW.region ?_
        refine AO.pure T rfl rfl rfl ?_
        refine AO.val rfl rfl (arw_ok rfl rfl rfl rfl) ?_
        refine AO.pure T rfl rfl rfl ?_
        refine AO.nil ?_
        refine ⟨(k1, (v9.set v11.toNat v10), w64 (v10 + 1), w64 (v11 + 1)), hH, Nat.lt_succ_self _, ?_⟩
        exact Le.cut 0 0 rfl (by repeat' (first | exact trivial | refine ⟨⟨_, rfl, rfl⟩, ?_⟩)) (by repeat' (first | exact trivial | refine ⟨⟨_, rfl, rfl⟩, ?_⟩)) rfl ⟨⟨rfl, rfl⟩, trivial⟩
      · replace hH := condF hc hH
        refine AW.exit ?_
        refine AW.seq ?_
        refine AW.region ?_
        refine AO.pure T rfl rfl rfl ?_
        refine AO.pure T rfl rfl rfl ?_
        refine AO.nil ?_
        refine AW.ret ?_
        cases someE hH
        exact ⟨trivial, rfl, _, [], [1], rfl, expLG_cons (.c (.rowR rfl)) (expLG_cons (.c .u) (expLG_nil)), .c (.c .v), by decide⟩

def laws_markResultS_l1 (fuel : Nat) : Nat → List Result → Int → Int → Option (((List Result) × Int))
  | 0, _, _, _ => none
  | k1 + 1, v17, v18, v19 =>
    cond (decide (v19 < (v17.length : Int)))
      ((getI v17 v19).bind fun x21 =>
      (getI (v17.set v19.toNat (Result.mk v18 x21.scores)) v19).bind fun x23 =>
      (laws_markIntS_p fuel x23.scores (w64 (v18 + 1))).bind fun x25 =>
      laws_markResultS_l1 fuel k1 ((v17.set v19.toNat (Result.mk v18 x21.scores)).set v19.toNat (Result.mk x23.skater x25.1)) x25.2 (w64 (v19 + 1)))
      (some (v17, v18))
def laws_markResultS_p (fuel : Nat) (a : List Result) (k : Int) : Option ((List Result) × Int) :=
  laws_markResultS_l1 fuel fuel a k 0
theorem laws_markResultS_ok (fuel : Nat) (a : List Result) (k : Int) (r : ((List Result) × Int)) (hH : laws_markResultS_p fuel a k = some r) : SpecM Try.prog 18 [.w 2 (a.map encResultO), .v (.int .i64 k)] [.w 2 (r.1.map encResultO), .u] (.v (.int .i64 r.2)) := by
  refine fn_okM T Try.func18 rfl (by decide) rfl rfl ?_
  intro L
  show AW _ _ _ (⟨[(0, .R 1), (1, .v (.int .i64 k))], [(1, .row 2 (List.map encResultO a))], 27, [(1, L 1)]⟩ : St)
  refine AW.seq ?_
  refine AW.region ?_
  refine AO.pure T rfl rfl rfl ?_
  refine AO.nil ?_
  refine AW.seq ?_
  refine AW.seq ?_
  refine AW.region ?_
  refine AO.pure T rfl rfl rfl ?_
  refine AO.nil ?_
  refine AW.block ?_
  refine AW.loopS (fun s : Nat × (List Result) × Int × Int => (⟨[(0, .R 1), (1, .v (.int .i64 s.2.2.1)), (5, .v (.int .i64 s.2.2.2))], [(1, .row 2 (List.map encResultO s.2.1))], 27, [(1, L 1)]⟩ : St)) (fun s => laws_markResultS_l1 fuel s.1 s.2.1 s.2.2.1 s.2.2.2 = some r) (fun s => s.1) (fuel, a, k, 0) hH ?_ ?_
  · exact Le.cut 0 0 rfl (by repeat' (first | exact trivial | refine ⟨⟨_, rfl, rfl⟩, ?_⟩)) (by repeat' (first | exact trivial | refine ⟨⟨_, rfl, rfl⟩, ?_⟩)) rfl ⟨⟨rfl, rfl⟩, trivial⟩
  · rintro ⟨k1, v17, v18, v19⟩ hH
    replace hH : laws_markResultS_l1 fuel k1 v17 v18 v19 = some r := hH
    show AW _ _ _ (⟨[(0, .R 1), (1, .v (.int .i64 v18)), (5, .v (.int .i64 v19))], [(1, .row 2 (List.map encResultO v17))], 27, [(1, L 1)]⟩ : St)
    cases k1 with
    | zero => cases (show none = some _ from hH)
    | succ k1 =>
      rw [laws_markResultS_l1] at hH
      refine AW.seq ?_
      refine AW.seq ?_
      refine AW.region ?_
      refine AO.pure T rfl rfl rfl ?_
      refine AO.pure T rfl rfl rfl ?_
      refine AO.val rfl rfl (len_row_ok T rfl rfl rfl rfl) ?_
      refine AO.pure T rfl rfl rfl ?_
      refine AO.nil ?_
      refine AW.cond (b := decide (v19 < (v17.length : Int))) rfl (fun hc => ?_) (fun hc => ?_)
      · replace hH := condT hc hH
        refine AW.skip ?_
        refine AW.seq ?_
        refine AW.block ?_
        refine AW.seq ?_
        obtain ⟨x21, hx22, hH⟩ := bindE hH
        refine AW.region ?_
        refine AO.pure T rfl rfl rfl ?_
        refine AO.pure T rfl rfl rfl ?_
        refine AO.pure T rfl rfl rfl ?_
        refine AO.val rfl rfl (ix_row_ok T rfl rfl rfl rfl rfl rfl (hx22)) ?_
        refine AO.pure T rfl rfl rfl ?_
        refine AO.step rfl (store_row_ok T rfl rfl rfl rfl rfl (getI_get (hx22)) rfl rfl rfl rfl (u' := (Result.mk v18 x21.scores)) rfl rfl) ?_
        refine AO.nil ?_
        refine AW.seq ?_
        refine AW.region ?_
        refine AO.pure T rfl rfl rfl ?_
        refine AO.val rfl rfl (arw_ok rfl rfl rfl rfl) ?_
        refine AO.pure T rfl rfl rfl ?_
        refine AO.nil ?_
        obtain ⟨x23, hx24, hH⟩ := bindE hH
        obtain ⟨x25, hx26, hH⟩ := bindE hH
        refine AW.le (Le.openM 1 v19.toNat 1 4 rfl (getI_get (hx24)) rfl rfl) ?_
        refine AW.region ?_
        refine AO.pure T rfl rfl rfl ?_
        refine AO.pure T rfl rfl rfl ?_
        refine AO.val rfl rfl (ix_lent_ok T rfl rfl rfl rfl rfl rfl (hx24)) ?_
        refine AO.pure T rfl rfl rfl ?_
        refine AO.val rfl rfl (load_lent_ok T rfl rfl rfl rfl rfl) ?_
        refine AO.pure T rfl rfl rfl ?_
        refine AO.step rfl (callM_ok rfl 5 rfl rfl (es := [.w 1 (x23.scores.map encInt), .v (.int .i64 (w64 (v18 + 1)))]) (outs := [.w 1 (x25.1.map encInt), .u]) (ids := [4]) (by exact expLG_cons (.c (.rowR rfl)) (expLG_cons (.c .v) (expLG_nil))) (by decide) (.inl (by rfl)) (by rfl) (laws_markIntS_ok fuel _ _ _ (hx26)) rfl (by rfl) rfl) ?_
        refine AO.pure T rfl rfl rfl ?_
        refine AO.le (Le.closeM 1 v19.toNat 1 4 rfl rfl (getI_get (hx24)) rfl (u' := (Result.mk x23.skater x25.1)) rfl) ?_
        refine AO.nil ?_
        refine AW.region ?_
        refine AO.pure T rfl rfl rfl ?_
        refine AO.val rfl rfl (arw_ok rfl rfl rfl rfl) ?_
        refine AO.pure T rfl rfl rfl ?_
        refine AO.nil ?_
        refine ⟨(k1, ((v17.set v19.toNat (Result.mk v18 x21.scores)).set v19.toNat (Result.mk x23.skater x25.1)), x25.2, w64 (v19 + 1)), hH, Nat.lt_succ_self _, ?_⟩
        exact Le.cut 0 0 rfl (by repeat' (first | exact trivial | refine ⟨⟨_, rfl, rfl⟩, ?_⟩)) (by repeat' (first | exact trivial | refine ⟨⟨_, rfl, rfl⟩, ?_⟩)) rfl ⟨⟨rfl, rfl⟩, trivial⟩
      · replace hH := condF hc hH
        refine AW.exit ?_
        refine AW.seq ?_
        refine AW.region ?_
        refine AO.pure T rfl rfl rfl ?_
        refine AO.pure T rfl rfl rfl ?_
        refine AO.nil ?_
        refine AW.ret ?_
        cases someE hH
        exact ⟨trivial, rfl, _, [], [1], rfl, expLG_cons (.c (.rowR rfl)) (expLG_cons (.c .u) (expLG_nil)), .c (.c .v), by decide⟩

def laws_markEvent_p (fuel : Nat) (a : Event) (k : Int) : Option (Event × Int) :=
  (laws_markEntrantS_p fuel a.entrants k).bind fun x1 =>
  (laws_markIntS_p fuel a.gone x1.2).bind fun x3 =>
  (laws_markIntS_p fuel a.order x3.2).bind fun x5 =>
  (laws_markResultS_p fuel a.results x5.2).bind fun x7 =>
  some ((Event.mk a.segments a.size a.key x1.1 x3.1 a.segment x5.1 x7.1), x7.2)
theorem laws_markEvent_ok (fuel : Nat) (a : Event) (k : Int) (r : (Event × Int)) (hH : laws_markEvent_p fuel a k = some r) : SpecM Try.prog 7 [.g (encEventO a), .v (.int .i64 k)] [.g [.u, .u, .u, .w 2 (r.1.entrants.map encEntrant), .w 1 (r.1.gone.map encInt), .u, .w 1 (r.1.order.map encInt), .w 2 (r.1.results.map encResultO)], .u] (.v (.int .i64 r.2)) := by
  refine fn_okM T Try.func7 rfl (by decide) rfl rfl ?_
  intro L
  show AW _ _ _ (⟨[(0, .g [.v (.int .i64 a.segments), .v (.int .i64 a.size), .v (.int .i64 a.key), .R 1, .R 2, .v (.int .i64 a.segment), .R 3, .R 4]), (1, .v (.int .i64 k))], [(4, .row 2 (List.map encResultO a.results)), (3, .row 1 (List.map encInt a.order)), (2, .row 1 (List.map encInt a.gone)), (1, .row 2 (List.map encEntrant a.entrants))], 22, [(4, L 4), (3, L 3), (2, L 2), (1, L 1)]⟩ : St)
  refine AW.seq ?_
  refine AW.region ?_
  refine AO.step rfl (box_ok T rfl 5 rfl rfl rfl rfl) ?_
  refine AO.pure T rfl rfl rfl ?_
  refine AO.nil ?_
  refine AW.seq ?_
  obtain ⟨x1, hx2, hH⟩ := bindE hH
  refine AW.region ?_
  refine AO.pure T rfl rfl rfl ?_
  refine AO.pure T rfl rfl rfl ?_
  refine AO.pure T rfl rfl rfl ?_
  refine AO.step rfl (callM_ok rfl 6 rfl rfl (es := [.w 2 (a.entrants.map encEntrant), .v (.int .i64 k)]) (outs := [.w 2 (x1.1.map encEntrant), .u]) (ids := [1]) (by exact expLG_cons (.c (.rowR rfl)) (expLG_cons (.c .v) (expLG_nil))) (by decide) (.inl (by rfl)) (by rfl) (laws_markEntrantS_ok fuel _ _ _ (hx2)) rfl (by rfl) rfl) ?_
  refine AO.pure T rfl rfl rfl ?_
  refine AO.nil ?_
  refine AW.seq ?_
  obtain ⟨x3, hx4, hH⟩ := bindE hH
  refine AW.region ?_
  refine AO.pure T rfl rfl rfl ?_
  refine AO.pure T rfl rfl rfl ?_
  refine AO.pure T rfl rfl rfl ?_
  refine AO.step rfl (callM_ok rfl 6 rfl rfl (es := [.w 1 (a.gone.map encInt), .v (.int .i64 x1.2)]) (outs := [.w 1 (x3.1.map encInt), .u]) (ids := [2]) (by exact expLG_cons (.c (.rowR rfl)) (expLG_cons (.c .v) (expLG_nil))) (by decide) (.inl (by rfl)) (by rfl) (laws_markIntS_ok fuel _ _ _ (hx4)) rfl (by rfl) rfl) ?_
  refine AO.pure T rfl rfl rfl ?_
  refine AO.nil ?_
  refine AW.seq ?_
  obtain ⟨x5, hx6, hH⟩ := bindE hH
  refine AW.region ?_
  refine AO.pure T rfl rfl rfl ?_
  refine AO.pure T rfl rfl rfl ?_
  refine AO.pure T rfl rfl rfl ?_
  refine AO.step rfl (callM_ok rfl 6 rfl rfl (es := [.w 1 (a.order.map encInt), .v (.int .i64 x3.2)]) (outs := [.w 1 (x5.1.map encInt), .u]) (ids := [3]) (by exact expLG_cons (.c (.rowR rfl)) (expLG_cons (.c .v) (expLG_nil))) (by decide) (.inl (by rfl)) (by rfl) (laws_markIntS_ok fuel _ _ _ (hx6)) rfl (by rfl) rfl) ?_
  refine AO.pure T rfl rfl rfl ?_
  refine AO.nil ?_
  refine AW.seq ?_
  obtain ⟨x7, hx8, hH⟩ := bindE hH
  refine AW.region ?_
  refine AO.pure T rfl rfl rfl ?_
  refine AO.pure T rfl rfl rfl ?_
  refine AO.pure T rfl rfl rfl ?_
  refine AO.step rfl (callM_ok rfl 6 rfl rfl (es := [.w 2 (a.results.map encResultO), .v (.int .i64 x5.2)]) (outs := [.w 2 (x7.1.map encResultO), .u]) (ids := [4]) (by exact expLG_cons (.c (.rowR rfl)) (expLG_cons (.c .v) (expLG_nil))) (by decide) (.inl (by rfl)) (by rfl) (laws_markResultS_ok fuel _ _ _ (hx8)) rfl (by rfl) rfl) ?_
  refine AO.pure T rfl rfl rfl ?_
  refine AO.nil ?_
  refine AW.seq ?_
  refine AW.region ?_
  refine AO.pure T rfl rfl rfl ?_
  refine AO.pure T rfl rfl rfl ?_
  refine AO.nil ?_
  refine AW.le (Le.cut 0 0 (σ' := (⟨[(4, .v (.int .i64 x7.2))], [(1, .row 2 (List.map encEntrant x1.1)), (2, .row 1 (List.map encInt x3.1)), (3, .row 1 (List.map encInt x5.1)), (4, .row 2 (List.map encResultO x7.1))], 22, [(4, L 4), (3, L 3), (2, L 2), (1, L 1)]⟩ : St)) rfl (by repeat' (first | exact trivial | refine ⟨⟨_, rfl, rfl⟩, ?_⟩)) (by repeat' (first | exact trivial | refine ⟨⟨_, rfl, rfl⟩, ?_⟩)) rfl ⟨⟨rfl, rfl⟩, ⟨rfl, rfl⟩, ⟨rfl, rfl⟩, ⟨rfl, rfl⟩, trivial⟩) ?_
  refine AW.ret ?_
  cases someE hH
  exact ⟨trivial, rfl, _, [], [1, 2, 3, 4], rfl, expLG_cons (.g (expLC_cons .u (expLC_cons .u (expLC_cons .u (expLC_cons (.rowR rfl) (expLC_cons (.rowR rfl) (expLC_cons .u (expLC_cons (.rowR rfl) (expLC_cons (.rowR rfl) (expLC_nil)))))))))) (expLG_cons (.c .u) (expLG_nil)), .c (.c .v), by decide⟩

def laws_heldEntrantS_l1 : List Entrant → Nat → Int → Option Int
  | [], k1, v8 =>
    some v8
  | y2 :: ys3, k1, v8 =>
    cond (y2.skater != v8)
      (some (-1))
      (cond (y2.rank != (w64 (v8 + 1)))
        (some (-1))
        (laws_heldEntrantS_l1 ys3 (k1 + 1) (w64 ((w64 (v8 + 1)) + 1))))
def laws_heldEntrantS_p (a : List Entrant) (k : Int) : Option Int :=
  laws_heldEntrantS_l1 a 0 k
theorem laws_heldEntrantS_ok (a : List Entrant) (k : Int) (r : Int) (hH : laws_heldEntrantS_p a k = some r) : SpecR Try.prog 19 [.s (List.map encEntrant a), .v (.int .i64 k)] (.v (.int .i64 r)) := by
  refine fn_ok T Try.func19 rfl (by decide) rfl ?_
  refine AW.seq ?_
  refine AW.region ?_
  refine AO.pure T rfl rfl rfl ?_
  refine AO.nil ?_
  refine AW.seq ?_
  refine AW.seq ?_
  refine AW.region ?_
  refine AO.pure T rfl rfl rfl ?_
  refine AO.nil ?_
  refine AW.block ?_
  refine AW.loopS (fun s : Nat × Int => (⟨[(0, .s (List.map encEntrant a)), (1, .v (.int .i64 s.2)), (5, .v (.int .i64 (s.1 : Int)))], [], 31, []⟩ : St)) (fun s => s.1 ≤ a.length ∧ laws_heldEntrantS_l1 (a.drop s.1) s.1 s.2 = some r) (fun s => a.length - s.1) (0, k) ⟨Nat.zero_le _, hH⟩ ?_ ?_
  · exact Le.cut 0 0 rfl (by repeat' (first | exact trivial | refine ⟨⟨_, rfl, rfl⟩, ?_⟩)) (by repeat' (first | exact trivial | refine ⟨⟨_, rfl, rfl⟩, ?_⟩)) rfl
  · rintro ⟨k1, v8⟩ ⟨hk, hH⟩
    replace hH : laws_heldEntrantS_l1 (a.drop k1) k1 v8 = some r := hH
    show AW _ _ _ (⟨[(0, .s (List.map encEntrant a)), (1, .v (.int .i64 v8)), (5, .v (.int .i64 (k1 : Int)))], [], 31, []⟩ : St)
    refine AW.boundM (t := 0) (l := a) rfl (fun hb5 => ?_)
    cases hd4 : a.drop k1 with
    | nil =>
      rw [hd4] at hH
      rw [laws_heldEntrantS_l1] at hH
      have hlt6 := drop_ge hd4
      refine AW.seq ?_
      refine AW.seq ?_
      refine AW.region ?_
      refine AO.pure T rfl rfl rfl ?_
      refine AO.pure T rfl rfl rfl ?_
      refine AO.val rfl rfl (len_map_ok T rfl rfl rfl) ?_
      refine AO.pure T rfl rfl rfl ?_
      refine AO.nil ?_
      refine AW.condF' (b := decide ((k1 : Int) < (a.length : Int))) rfl (rngF hlt6) ?_
      refine AW.exit ?_
      refine AW.seq ?_
      refine AW.region ?_
      refine AO.pure T rfl rfl rfl ?_
      refine AO.pure T rfl rfl rfl ?_
      refine AO.nil ?_
      refine AW.ret ?_
      cases someE hH
      exact ⟨trivial, _, [], rfl, .c (.c .v), by decide⟩
    | cons y2 ys3 =>
      rw [hd4] at hH
      rw [laws_heldEntrantS_l1] at hH
      have hlt6 := drop_lt hd4
      refine AW.seq ?_
      refine AW.seq ?_
      refine AW.region ?_
      refine AO.pure T rfl rfl rfl ?_
      refine AO.pure T rfl rfl rfl ?_
      refine AO.val rfl rfl (len_map_ok T rfl rfl rfl) ?_
      refine AO.pure T rfl rfl rfl ?_
      refine AO.nil ?_
      refine AW.condT' (b := decide ((k1 : Int) < (a.length : Int))) rfl (rngT hlt6) ?_
      refine AW.skip ?_
      refine AW.seq ?_
      refine AW.block ?_
      refine AW.seq ?_
      refine AW.seq ?_
      refine AW.region ?_
      refine AO.pure T rfl rfl rfl ?_
      refine AO.pure T rfl rfl rfl ?_
      refine AO.val rfl rfl (ix_map_ok T rfl rfl rfl rfl rfl (getI_drop hd4) rfl) ?_
      refine AO.pure T rfl rfl rfl ?_
      refine AO.pure T rfl rfl rfl ?_
      refine AO.pure T rfl rfl rfl ?_
      refine AO.pure T rfl rfl rfl ?_
      refine AO.nil ?_
      refine AW.cond (b := (y2.skater != v8)) rfl (fun hc => ?_) (fun hc => ?_)
      · replace hH := condT hc hH
        refine AW.seq ?_
        refine AW.region ?_
        refine AO.pure T rfl rfl rfl ?_
        refine AO.nil ?_
        refine AW.ret ?_
        cases someE hH
        exact ⟨trivial, _, [], rfl, .c (.c .v), by decide⟩
      · replace hH := condF hc hH
        refine AW.skip ?_
        refine AW.seq ?_
        refine AW.region ?_
        refine AO.pure T rfl rfl rfl ?_
        refine AO.val rfl rfl (arw_ok rfl rfl rfl rfl) ?_
        refine AO.pure T rfl rfl rfl ?_
        refine AO.nil ?_
        refine AW.seq ?_
        refine AW.seq ?_
        refine AW.region ?_
        refine AO.pure T rfl rfl rfl ?_
        refine AO.pure T rfl rfl rfl ?_
        refine AO.val rfl rfl (ix_map_ok T rfl rfl rfl rfl rfl (getI_drop hd4) rfl) ?_
        refine AO.pure T rfl rfl rfl ?_
        refine AO.pure T rfl rfl rfl ?_
        refine AO.pure T rfl rfl rfl ?_
        refine AO.pure T rfl rfl rfl ?_
        refine AO.nil ?_
        refine AW.cond (b := (y2.rank != (w64 (v8 + 1)))) rfl (fun hc => ?_) (fun hc => ?_)
        · replace hH := condT hc hH
          refine AW.seq ?_
          refine AW.region ?_
          refine AO.pure T rfl rfl rfl ?_
          refine AO.nil ?_
          refine AW.ret ?_
          cases someE hH
          exact ⟨trivial, _, [], rfl, .c (.c .v), by decide⟩
        · replace hH := condF hc hH
          refine AW.skip ?_
          refine AW.region ?_
          refine AO.pure T rfl rfl rfl ?_
          refine AO.val rfl rfl (arw_ok rfl rfl rfl rfl) ?_
          refine AO.pure T rfl rfl rfl ?_
          refine AO.nil ?_
          refine AW.le (Le.cut 0 0 (σ' := (⟨[(0, .s (List.map encEntrant a)), (1, .v (.int .i64 (w64 ((w64 (v8 + 1)) + 1)))), (5, .v (.int .i64 (k1 : Int)))], [], 31, []⟩ : St)) rfl (by repeat' (first | exact trivial | refine ⟨⟨_, rfl, rfl⟩, ?_⟩)) (by repeat' (first | exact trivial | refine ⟨⟨_, rfl, rfl⟩, ?_⟩)) rfl) ?_
          refine AW.region ?_
          refine AO.pure T rfl rfl rfl ?_
          refine AO.val rfl rfl (ar_ok rfl rfl rfl rfl (inI_succ hlt6 hb5)) ?_
          refine AO.pure T rfl rfl rfl ?_
          refine AO.nil ?_
          refine ⟨(k1 + 1, w64 ((w64 (v8 + 1)) + 1)), ⟨Nat.succ_le_of_lt hlt6, (by rw [drop_succ_of hd4]; exact hH)⟩, (by have := hlt6; dsimp only; omega), ?_⟩
          exact Le.cut 0 0 rfl (by repeat' (first | exact trivial | refine ⟨⟨_, rfl, rfl⟩, ?_⟩)) (by repeat' (first | exact trivial | refine ⟨⟨_, rfl, rfl⟩, ?_⟩)) rfl

def laws_heldIntS_l1 : List Int → Nat → Int → Option Int
  | [], k1, v8 =>
    some v8
  | y2 :: ys3, k1, v8 =>
    cond (y2 != v8)
      (some (-1))
      (laws_heldIntS_l1 ys3 (k1 + 1) (w64 (v8 + 1)))
def laws_heldIntS_p (a : List Int) (k : Int) : Option Int :=
  laws_heldIntS_l1 a 0 k
theorem laws_heldIntS_ok (a : List Int) (k : Int) (r : Int) (hH : laws_heldIntS_p a k = some r) : SpecR Try.prog 20 [.s (List.map encInt a), .v (.int .i64 k)] (.v (.int .i64 r)) := by
  refine fn_ok T Try.func20 rfl (by decide) rfl ?_
  refine AW.seq ?_
  refine AW.region ?_
  refine AO.pure T rfl rfl rfl ?_
  refine AO.nil ?_
  refine AW.seq ?_
  refine AW.seq ?_
  refine AW.region ?_
  refine AO.pure T rfl rfl rfl ?_
  refine AO.nil ?_
  refine AW.block ?_
  refine AW.loopS (fun s : Nat × Int => (⟨[(0, .s (List.map encInt a)), (1, .v (.int .i64 s.2)), (5, .v (.int .i64 (s.1 : Int)))], [], 21, []⟩ : St)) (fun s => s.1 ≤ a.length ∧ laws_heldIntS_l1 (a.drop s.1) s.1 s.2 = some r) (fun s => a.length - s.1) (0, k) ⟨Nat.zero_le _, hH⟩ ?_ ?_
  · exact Le.cut 0 0 rfl (by repeat' (first | exact trivial | refine ⟨⟨_, rfl, rfl⟩, ?_⟩)) (by repeat' (first | exact trivial | refine ⟨⟨_, rfl, rfl⟩, ?_⟩)) rfl
  · rintro ⟨k1, v8⟩ ⟨hk, hH⟩
    replace hH : laws_heldIntS_l1 (a.drop k1) k1 v8 = some r := hH
    show AW _ _ _ (⟨[(0, .s (List.map encInt a)), (1, .v (.int .i64 v8)), (5, .v (.int .i64 (k1 : Int)))], [], 21, []⟩ : St)
    refine AW.boundM (t := 0) (l := a) rfl (fun hb5 => ?_)
    cases hd4 : a.drop k1 with
    | nil =>
      rw [hd4] at hH
      rw [laws_heldIntS_l1] at hH
      have hlt6 := drop_ge hd4
      refine AW.seq ?_
      refine AW.seq ?_
      refine AW.region ?_
      refine AO.pure T rfl rfl rfl ?_
      refine AO.pure T rfl rfl rfl ?_
      refine AO.val rfl rfl (len_map_ok T rfl rfl rfl) ?_
      refine AO.pure T rfl rfl rfl ?_
      refine AO.nil ?_
      refine AW.condF' (b := decide ((k1 : Int) < (a.length : Int))) rfl (rngF hlt6) ?_
      refine AW.exit ?_
      refine AW.seq ?_
      refine AW.region ?_
      refine AO.pure T rfl rfl rfl ?_
      refine AO.pure T rfl rfl rfl ?_
      refine AO.nil ?_
      refine AW.ret ?_
      cases someE hH
      exact ⟨trivial, _, [], rfl, .c (.c .v), by decide⟩
    | cons y2 ys3 =>
      rw [hd4] at hH
      rw [laws_heldIntS_l1] at hH
      have hlt6 := drop_lt hd4
      refine AW.seq ?_
      refine AW.seq ?_
      refine AW.region ?_
      refine AO.pure T rfl rfl rfl ?_
      refine AO.pure T rfl rfl rfl ?_
      refine AO.val rfl rfl (len_map_ok T rfl rfl rfl) ?_
      refine AO.pure T rfl rfl rfl ?_
      refine AO.nil ?_
      refine AW.condT' (b := decide ((k1 : Int) < (a.length : Int))) rfl (rngT hlt6) ?_
      refine AW.skip ?_
      refine AW.seq ?_
      refine AW.block ?_
      refine AW.seq ?_
      refine AW.seq ?_
      refine AW.region ?_
      refine AO.pure T rfl rfl rfl ?_
      refine AO.pure T rfl rfl rfl ?_
      refine AO.val rfl rfl (ix_map_ok T rfl rfl rfl rfl rfl (getI_drop hd4) rfl) ?_
      refine AO.pure T rfl rfl rfl ?_
      refine AO.pure T rfl rfl rfl ?_
      refine AO.pure T rfl rfl rfl ?_
      refine AO.nil ?_
      refine AW.cond (b := (y2 != v8)) rfl (fun hc => ?_) (fun hc => ?_)
      · replace hH := condT hc hH
        refine AW.seq ?_
        refine AW.region ?_
        refine AO.pure T rfl rfl rfl ?_
        refine AO.nil ?_
        refine AW.ret ?_
        cases someE hH
        exact ⟨trivial, _, [], rfl, .c (.c .v), by decide⟩
      · replace hH := condF hc hH
        refine AW.skip ?_
        refine AW.region ?_
        refine AO.pure T rfl rfl rfl ?_
        refine AO.val rfl rfl (arw_ok rfl rfl rfl rfl) ?_
        refine AO.pure T rfl rfl rfl ?_
        refine AO.nil ?_
        refine AW.region ?_
        refine AO.pure T rfl rfl rfl ?_
        refine AO.val rfl rfl (ar_ok rfl rfl rfl rfl (inI_succ hlt6 hb5)) ?_
        refine AO.pure T rfl rfl rfl ?_
        refine AO.nil ?_
        refine ⟨(k1 + 1, w64 (v8 + 1)), ⟨Nat.succ_le_of_lt hlt6, (by rw [drop_succ_of hd4]; exact hH)⟩, (by have := hlt6; dsimp only; omega), ?_⟩
        exact Le.cut 0 0 rfl (by repeat' (first | exact trivial | refine ⟨⟨_, rfl, rfl⟩, ?_⟩)) (by repeat' (first | exact trivial | refine ⟨⟨_, rfl, rfl⟩, ?_⟩)) rfl

def laws_heldResultS_l1 : List Result → Nat → Int → Option Int
  | [], k1, v12 =>
    some v12
  | y2 :: ys3, k1, v12 =>
    cond (y2.skater != v12)
      (some (-1))
      ((laws_heldIntS_p y2.scores (w64 (v12 + 1))).bind fun x14 =>
      cond (decide (x14 < 0))
        (some (-1))
        (laws_heldResultS_l1 ys3 (k1 + 1) x14))
def laws_heldResultS_p (a : List Result) (k : Int) : Option Int :=
  laws_heldResultS_l1 a 0 k
theorem laws_heldResultS_ok (a : List Result) (k : Int) (r : Int) (hH : laws_heldResultS_p a k = some r) : SpecR Try.prog 21 [.s (List.map encResult a), .v (.int .i64 k)] (.v (.int .i64 r)) := by
  refine fn_ok T Try.func21 rfl (by decide) rfl ?_
  refine AW.seq ?_
  refine AW.region ?_
  refine AO.pure T rfl rfl rfl ?_
  refine AO.nil ?_
  refine AW.seq ?_
  refine AW.seq ?_
  refine AW.region ?_
  refine AO.pure T rfl rfl rfl ?_
  refine AO.nil ?_
  refine AW.block ?_
  refine AW.loopS (fun s : Nat × Int => (⟨[(0, .s (List.map encResult a)), (1, .v (.int .i64 s.2)), (5, .v (.int .i64 (s.1 : Int)))], [], 31, []⟩ : St)) (fun s => s.1 ≤ a.length ∧ laws_heldResultS_l1 (a.drop s.1) s.1 s.2 = some r) (fun s => a.length - s.1) (0, k) ⟨Nat.zero_le _, hH⟩ ?_ ?_
  · exact Le.cut 0 0 rfl (by repeat' (first | exact trivial | refine ⟨⟨_, rfl, rfl⟩, ?_⟩)) (by repeat' (first | exact trivial | refine ⟨⟨_, rfl, rfl⟩, ?_⟩)) rfl
  · rintro ⟨k1, v12⟩ ⟨hk, hH⟩
    replace hH : laws_heldResultS_l1 (a.drop k1) k1 v12 = some r := hH
    show AW _ _ _ (⟨[(0, .s (List.map encResult a)), (1, .v (.int .i64 v12)), (5, .v (.int .i64 (k1 : Int)))], [], 31, []⟩ : St)
    refine AW.boundM (t := 0) (l := a) rfl (fun hb5 => ?_)
    cases hd4 : a.drop k1 with
    | nil =>
      rw [hd4] at hH
      rw [laws_heldResultS_l1] at hH
      have hlt6 := drop_ge hd4
      refine AW.seq ?_
      refine AW.seq ?_
      refine AW.region ?_
      refine AO.pure T rfl rfl rfl ?_
      refine AO.pure T rfl rfl rfl ?_
      refine AO.val rfl rfl (len_map_ok T rfl rfl rfl) ?_
      refine AO.pure T rfl rfl rfl ?_
      refine AO.nil ?_
      refine AW.condF' (b := decide ((k1 : Int) < (a.length : Int))) rfl (rngF hlt6) ?_
      refine AW.exit ?_
      refine AW.seq ?_
      refine AW.region ?_
      refine AO.pure T rfl rfl rfl ?_
      refine AO.pure T rfl rfl rfl ?_
      refine AO.nil ?_
      refine AW.ret ?_
      cases someE hH
      exact ⟨trivial, _, [], rfl, .c (.c .v), by decide⟩
    | cons y2 ys3 =>
      rw [hd4] at hH
      rw [laws_heldResultS_l1] at hH
      have hlt6 := drop_lt hd4
      refine AW.seq ?_
      refine AW.seq ?_
      refine AW.region ?_
      refine AO.pure T rfl rfl rfl ?_
      refine AO.pure T rfl rfl rfl ?_
      refine AO.val rfl rfl (len_map_ok T rfl rfl rfl) ?_
      refine AO.pure T rfl rfl rfl ?_
      refine AO.nil ?_
      refine AW.condT' (b := decide ((k1 : Int) < (a.length : Int))) rfl (rngT hlt6) ?_
      refine AW.skip ?_
      refine AW.seq ?_
      refine AW.block ?_
      refine AW.seq ?_
      refine AW.seq ?_
      refine AW.region ?_
      refine AO.pure T rfl rfl rfl ?_
      refine AO.pure T rfl rfl rfl ?_
      refine AO.val rfl rfl (ix_map_ok T rfl rfl rfl rfl rfl (getI_drop hd4) rfl) ?_
      refine AO.pure T rfl rfl rfl ?_
      refine AO.pure T rfl rfl rfl ?_
      refine AO.pure T rfl rfl rfl ?_
      refine AO.pure T rfl rfl rfl ?_
      refine AO.nil ?_
      refine AW.cond (b := (y2.skater != v12)) rfl (fun hc => ?_) (fun hc => ?_)
      · replace hH := condT hc hH
        refine AW.seq ?_
        refine AW.region ?_
        refine AO.pure T rfl rfl rfl ?_
        refine AO.nil ?_
        refine AW.ret ?_
        cases someE hH
        exact ⟨trivial, _, [], rfl, .c (.c .v), by decide⟩
      · replace hH := condF hc hH
        refine AW.skip ?_
        refine AW.seq ?_
        refine AW.region ?_
        refine AO.pure T rfl rfl rfl ?_
        refine AO.val rfl rfl (arw_ok rfl rfl rfl rfl) ?_
        refine AO.pure T rfl rfl rfl ?_
        refine AO.nil ?_
        refine AW.seq ?_
        obtain ⟨x14, hx15, hH⟩ := bindE hH
        refine AW.region ?_
        refine AO.pure T rfl rfl rfl ?_
        refine AO.pure T rfl rfl rfl ?_
        refine AO.val rfl rfl (ix_map_ok T rfl rfl rfl rfl rfl (getI_drop hd4) rfl) ?_
        refine AO.pure T rfl rfl rfl ?_
        refine AO.pure T rfl rfl rfl ?_
        refine AO.pure T rfl rfl rfl ?_
        refine AO.val rfl rfl (callV_ok rfl rfl rfl rfl (laws_heldIntS_ok _ _ _ (hx15)) rfl) ?_
        refine AO.pure T rfl rfl rfl ?_
        refine AO.nil ?_
        refine AW.seq ?_
        refine AW.region ?_
        refine AO.pure T rfl rfl rfl ?_
        refine AO.pure T rfl rfl rfl ?_
        refine AO.nil ?_
        refine AW.le (Le.cut 0 0 (σ' := (⟨[(0, .s (List.map encResult a)), (1, .v (.int .i64 x14)), (5, .v (.int .i64 (k1 : Int))), (29, .v (.bool (decide (x14 < 0))))], [], 31, []⟩ : St)) rfl (by repeat' (first | exact trivial | refine ⟨⟨_, rfl, rfl⟩, ?_⟩)) (by repeat' (first | exact trivial | refine ⟨⟨_, rfl, rfl⟩, ?_⟩)) rfl) ?_
        refine AW.cond (b := decide (x14 < 0)) rfl (fun hc => ?_) (fun hc => ?_)
        · replace hH := condT hc hH
          refine AW.seq ?_
          refine AW.region ?_
          refine AO.pure T rfl rfl rfl ?_
          refine AO.nil ?_
          refine AW.ret ?_
          cases someE hH
          exact ⟨trivial, _, [], rfl, .c (.c .v), by decide⟩
        · replace hH := condF hc hH
          refine AW.skip ?_
          refine AW.region ?_
          refine AO.pure T rfl rfl rfl ?_
          refine AO.val rfl rfl (ar_ok rfl rfl rfl rfl (inI_succ hlt6 hb5)) ?_
          refine AO.pure T rfl rfl rfl ?_
          refine AO.nil ?_
          refine ⟨(k1 + 1, x14), ⟨Nat.succ_le_of_lt hlt6, (by rw [drop_succ_of hd4]; exact hH)⟩, (by have := hlt6; dsimp only; omega), ?_⟩
          exact Le.cut 0 0 rfl (by repeat' (first | exact trivial | refine ⟨⟨_, rfl, rfl⟩, ?_⟩)) (by repeat' (first | exact trivial | refine ⟨⟨_, rfl, rfl⟩, ?_⟩)) rfl

def laws_heldEvent_p (a : Event) (k : Int) : Option Int :=
  (laws_heldEntrantS_p a.entrants k).bind fun x1 =>
  cond (decide (x1 < 0))
    (some (-1))
    ((laws_heldIntS_p a.gone x1).bind fun x3 =>
    cond (decide (x3 < 0))
      (some (-1))
      ((laws_heldIntS_p a.order x3).bind fun x5 =>
      cond (decide (x5 < 0))
        (some (-1))
        ((laws_heldResultS_p a.results x5).bind fun x7 =>
        cond (decide (x7 < 0))
          (some (-1))
          (some x7))))
theorem laws_heldEvent_ok (a : Event) (k : Int) (r : Int) (hH : laws_heldEvent_p a k = some r) : SpecR Try.prog 8 [.g (encEvent a), .v (.int .i64 k)] (.v (.int .i64 r)) := by
  refine fn_ok T Try.func8 rfl (by decide) rfl ?_
  refine AW.seq ?_
  refine AW.region ?_
  refine AO.step rfl (box_ok T rfl 1 rfl rfl rfl rfl) ?_
  refine AO.pure T rfl rfl rfl ?_
  refine AO.nil ?_
  refine AW.seq ?_
  obtain ⟨x1, hx2, hH⟩ := bindE hH
  refine AW.region ?_
  refine AO.pure T rfl rfl rfl ?_
  refine AO.pure T rfl rfl rfl ?_
  refine AO.pure T rfl rfl rfl ?_
  refine AO.val rfl rfl (callV_ok rfl rfl rfl rfl (laws_heldEntrantS_ok _ _ _ (hx2)) rfl) ?_
  refine AO.pure T rfl rfl rfl ?_
  refine AO.nil ?_
  refine AW.seq ?_
  refine AW.seq ?_
  refine AW.region ?_
  refine AO.pure T rfl rfl rfl ?_
  refine AO.pure T rfl rfl rfl ?_
  refine AO.nil ?_
  refine AW.cond (b := decide (x1 < 0)) rfl (fun hc => ?_) (fun hc => ?_)
  · replace hH := condT hc hH
    refine AW.seq ?_
    refine AW.region ?_
    refine AO.pure T rfl rfl rfl ?_
    refine AO.nil ?_
    refine AW.ret ?_
    cases someE hH
    exact ⟨trivial, _, [], rfl, .c (.c .v), by decide⟩
  · replace hH := condF hc hH
    refine AW.skip ?_
    refine AW.seq ?_
    obtain ⟨x3, hx4, hH⟩ := bindE hH
    refine AW.region ?_
    refine AO.pure T rfl rfl rfl ?_
    refine AO.pure T rfl rfl rfl ?_
    refine AO.pure T rfl rfl rfl ?_
    refine AO.val rfl rfl (callV_ok rfl rfl rfl rfl (laws_heldIntS_ok _ _ _ (hx4)) rfl) ?_
    refine AO.pure T rfl rfl rfl ?_
    refine AO.nil ?_
    refine AW.seq ?_
    refine AW.seq ?_
    refine AW.region ?_
    refine AO.pure T rfl rfl rfl ?_
    refine AO.pure T rfl rfl rfl ?_
    refine AO.nil ?_
    refine AW.cond (b := decide (x3 < 0)) rfl (fun hc => ?_) (fun hc => ?_)
    · replace hH := condT hc hH
      refine AW.seq ?_
      refine AW.region ?_
      refine AO.pure T rfl rfl rfl ?_
      refine AO.nil ?_
      refine AW.ret ?_
      cases someE hH
      exact ⟨trivial, _, [], rfl, .c (.c .v), by decide⟩
    · replace hH := condF hc hH
      refine AW.skip ?_
      refine AW.seq ?_
      obtain ⟨x5, hx6, hH⟩ := bindE hH
      refine AW.region ?_
      refine AO.pure T rfl rfl rfl ?_
      refine AO.pure T rfl rfl rfl ?_
      refine AO.pure T rfl rfl rfl ?_
      refine AO.val rfl rfl (callV_ok rfl rfl rfl rfl (laws_heldIntS_ok _ _ _ (hx6)) rfl) ?_
      refine AO.pure T rfl rfl rfl ?_
      refine AO.nil ?_
      refine AW.seq ?_
      refine AW.seq ?_
      refine AW.region ?_
      refine AO.pure T rfl rfl rfl ?_
      refine AO.pure T rfl rfl rfl ?_
      refine AO.nil ?_
      refine AW.cond (b := decide (x5 < 0)) rfl (fun hc => ?_) (fun hc => ?_)
      · replace hH := condT hc hH
        refine AW.seq ?_
        refine AW.region ?_
        refine AO.pure T rfl rfl rfl ?_
        refine AO.nil ?_
        refine AW.le (Le.cut 0 0 (σ' := (⟨[(4, .v (.int .i64 (-1)))], [], 30, []⟩ : St)) rfl (by repeat' (first | exact trivial | refine ⟨⟨_, rfl, rfl⟩, ?_⟩)) (by repeat' (first | exact trivial | refine ⟨⟨_, rfl, rfl⟩, ?_⟩)) rfl) ?_
        refine AW.ret ?_
        cases someE hH
        exact ⟨trivial, _, [], rfl, .c (.c .v), by decide⟩
      · replace hH := condF hc hH
        refine AW.skip ?_
        refine AW.seq ?_
        obtain ⟨x7, hx8, hH⟩ := bindE hH
        refine AW.region ?_
        refine AO.pure T rfl rfl rfl ?_
        refine AO.pure T rfl rfl rfl ?_
        refine AO.pure T rfl rfl rfl ?_
        refine AO.val rfl rfl (callV_ok rfl rfl rfl rfl (laws_heldResultS_ok _ _ _ (hx8)) rfl) ?_
        refine AO.pure T rfl rfl rfl ?_
        refine AO.nil ?_
        refine AW.le (Le.cut 0 0 (σ' := (⟨[(1, .v (.int .i64 x7))], [], 30, []⟩ : St)) rfl (by repeat' (first | exact trivial | refine ⟨⟨_, rfl, rfl⟩, ?_⟩)) (by repeat' (first | exact trivial | refine ⟨⟨_, rfl, rfl⟩, ?_⟩)) rfl) ?_
        refine AW.seq ?_
        refine AW.seq ?_
        refine AW.region ?_
        refine AO.pure T rfl rfl rfl ?_
        refine AO.pure T rfl rfl rfl ?_
        refine AO.nil ?_
        refine AW.cond (b := decide (x7 < 0)) rfl (fun hc => ?_) (fun hc => ?_)
        · replace hH := condT hc hH
          refine AW.seq ?_
          refine AW.region ?_
          refine AO.pure T rfl rfl rfl ?_
          refine AO.nil ?_
          refine AW.ret ?_
          cases someE hH
          exact ⟨trivial, _, [], rfl, .c (.c .v), by decide⟩
        · replace hH := condF hc hH
          refine AW.skip ?_
          refine AW.seq ?_
          refine AW.region ?_
          refine AO.pure T rfl rfl rfl ?_
          refine AO.pure T rfl rfl rfl ?_
          refine AO.nil ?_
          refine AW.ret ?_
          cases someE hH
          exact ⟨trivial, _, [], rfl, .c (.c .v), by decide⟩

end Go.Proofs.Ytegfbpakicohhaa

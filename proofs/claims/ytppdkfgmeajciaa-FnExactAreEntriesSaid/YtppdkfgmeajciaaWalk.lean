/- The walk: what each function reached by laws.FnExactAreEntries computes, for every input. No condition beyond the lengths that Go itself bounds. -/
import Derived.Test.YtppdkfgmeajciaaAm4
import Derived.Test.YtppdkfgmeajciaaProg
set_option linter.unusedVariables false
set_option linter.unusedSimpArgs false
set_option linter.unusedSectionVars false

section
namespace Go.Proofs.Ytppdkfgmeajciaa
open Go.AM
def teL : List (Option TI) := [
  none,
  none,
  some ⟨.int .i64, 1, 8, some (.int .i64 0)⟩,
  some ⟨.int .i64, 1, 8, some (.int .i64 0)⟩,
  some ⟨.bool, 1, 1, some (.bool false)⟩,
  some ⟨.int .u8, 1, 1, some (.int .u8 0)⟩,
  some ⟨.int .u8, 1, 1, some (.int .u8 0)⟩,
  some ⟨.struct [(0, 2), (1, 3), (2, 4), (3, 6)], 4, 24, some (.agg #[.int .i64 0, .int .i64 0, .bool false, .int .u8 0])⟩,
  some ⟨.struct [(0, 2), (1, 3), (2, 4), (3, 6)], 4, 24, some (.agg #[.int .i64 0, .int .i64 0, .bool false, .int .u8 0])⟩,
  some ⟨.str, 1, 16, some (.string ⟨#[]⟩)⟩,
  some ⟨.str, 1, 16, some (.string ⟨#[]⟩)⟩,
  some ⟨.str, 1, 16, some (.string ⟨#[]⟩)⟩,
  some ⟨.int .u64, 1, 8, some (.int .u64 0)⟩,
  some ⟨.struct [(0, 9), (1, 12)], 2, 24, some (.agg #[.string ⟨#[]⟩, .int .u64 0])⟩,
  some ⟨.struct [(0, 9), (1, 12)], 2, 24, some (.agg #[.string ⟨#[]⟩, .int .u64 0])⟩,
  some ⟨.ptr 41, 1, 8, some (.pointer none)⟩,
  some ⟨.ptr 44, 1, 8, some (.pointer none)⟩,
  some ⟨.ptr 54, 1, 8, some (.pointer none)⟩,
  some ⟨.struct [(0, 17)], 1, 8, some (.agg #[.pointer none])⟩,
  some ⟨.struct [(0, 17)], 1, 8, some (.agg #[.pointer none])⟩,
  none,
  some ⟨.int .i32, 1, 4, some (.int .i32 0)⟩,
  some ⟨.slice 32, 1, 24, some (.slice none 0 0)⟩,
  none,
  none,
  some ⟨.slice 30, 1, 24, some (.slice none 0 0)⟩,
  none,
  none,
  none,
  some ⟨.struct [(0, 3), (1, 3), (2, 3)], 3, 24, some (.agg #[.int .i64 0, .int .i64 0, .int .i64 0])⟩,
  some ⟨.struct [(0, 3), (1, 3), (2, 3)], 3, 24, some (.agg #[.int .i64 0, .int .i64 0, .int .i64 0])⟩,
  none,
  some ⟨.struct [(0, 3), (1, 3), (2, 3)], 3, 24, some (.agg #[.int .i64 0, .int .i64 0, .int .i64 0])⟩,
  none,
  none,
  none,
  none,
  none,
  none,
  none,
  some ⟨.struct [(0, 17), (1, 17), (2, 17), (3, 9)], 4, 40, some (.agg #[.pointer none, .pointer none, .pointer none, .string ⟨#[]⟩])⟩,
  some ⟨.struct [(0, 17), (1, 17), (2, 17), (3, 9)], 4, 40, some (.agg #[.pointer none, .pointer none, .pointer none, .string ⟨#[]⟩])⟩,
  some ⟨.array 0 16, 0, 0, some (.agg #[])⟩,
  some ⟨.struct [(0, 42)], 0, 0, some (.agg #[])⟩,
  some ⟨.struct [(0, 42)], 0, 0, some (.agg #[])⟩,
  none,
  some ⟨.int .u32, 1, 4, some (.int .u32 0)⟩,
  some ⟨.int .u8, 1, 1, some (.int .u8 0)⟩,
  some ⟨.int .u8, 1, 1, some (.int .u8 0)⟩,
  none,
  some ⟨.ptr 5, 1, 8, some (.pointer none)⟩,
  some ⟨.int .i32, 1, 4, some (.int .i32 0)⟩,
  some ⟨.int .i32, 1, 4, some (.int .i32 0)⟩,
  some ⟨.struct [(0, 12), (1, 12), (2, 46), (3, 47), (4, 5), (5, 5), (6, 48), (7, 49), (8, 50), (9, 51), (10, 52)], 11, 48, some (.agg #[.int .u64 0, .int .u64 0, .int .u32 0, .int .u8 0, .int .u8 0, .int .u8 0, .int .u8 0, .nilFunc, .pointer none, .int .i32 0, .int .i32 0])⟩,
  some ⟨.struct [(0, 12), (1, 12), (2, 46), (3, 47), (4, 5), (5, 5), (6, 48), (7, 49), (8, 50), (9, 51), (10, 52)], 11, 48, some (.agg #[.int .u64 0, .int .u64 0, .int .u32 0, .int .u8 0, .int .u8 0, .int .u8 0, .int .u8 0, .nilFunc, .pointer none, .int .i32 0, .int .i32 0])⟩,
  none]
def te : TE := teOf teL
theorem T : TEok Try.prog te := TEok_of (by kernel_rfl)
theorem mix : Try.prog.follows .mixedOrders = true := by kernel_rfl
end Go.Proofs.Ytppdkfgmeajciaa
end

section
namespace Go.Proofs.Ytppdkfgmeajciaa
open Go.AM

structure Entry where
  ev : Int
  sk : Int
  pt : Int

def encE (e : Entry) : List D := [.v (.int .i64 e.ev), .v (.int .i64 e.sk), .v (.int .i64 e.pt)]

def inB (n lo hi : Int) : Bool := decide (n ≥ lo) && decide (n ≤ hi)

theorem within_spec (n lo hi : Int) : SpecR Try.prog 13 [.v (.int .i64 n), .v (.int .i64 lo), .v (.int .i64 hi)] (.v (.bool (inB n lo hi))) := by
  refine fn_ok T Try.func13 rfl (by decide) rfl ?_
  repeat (first | refine AO.pure T rfl rfl rfl ?_ | refine AO.pureG T rfl (by repeat' constructor) rfl rfl ?_ | refine AO.val rfl rfl (pick_and rfl rfl rfl rfl) ?_ | refine AO.val rfl rfl (pick_or rfl rfl rfl rfl) ?_ | refine AO.nil ?_ | refine AW.seq (AW.region ?_) | refine AW.seq ?_ | refine AW.region ?_ | refine AW.block ?_ | refine AW.skip ?_ | refine AW.exit ?_ | refine AW.ret ?_)
  exact ⟨trivial, _, _, rfl, .c (.c .v), by decide⟩
theorem l1In_spec (n lo hi : Int) : SpecR Try.prog 19 [.v (.int .i64 n), .v (.int .i64 lo), .v (.int .i64 hi)] (.v (.bool (inB n lo hi))) := by
  refine fn_ok T Try.func19 rfl (by decide) rfl ?_
  repeat (first | refine AO.pure T rfl rfl rfl ?_ | refine AO.pureG T rfl (by repeat' constructor) rfl rfl ?_ | refine AO.val rfl rfl (pick_and rfl rfl rfl rfl) ?_ | refine AO.val rfl rfl (pick_or rfl rfl rfl rfl) ?_ | refine AO.nil ?_ | refine AW.seq (AW.region ?_) | refine AW.seq ?_ | refine AW.region ?_ | refine AW.block ?_ | refine AW.skip ?_ | refine AW.exit ?_ | refine AW.ret ?_)
  exact ⟨trivial, _, _, rfl, .c (.c .v), by decide⟩

theorem isEvent_spec (n : Int) : SpecR Try.prog 11 [.v (.int .i64 n)] (.v (.bool (inB n 1 99))) := by
  refine fn_ok T Try.func11 rfl (by decide) rfl ?_
  repeat (first | refine AO.pure T rfl rfl rfl ?_ | refine AO.pureG T rfl (by repeat' constructor) rfl rfl ?_ | refine AO.val rfl rfl (pick_and rfl rfl rfl rfl) ?_ | refine AO.val rfl rfl (pick_or rfl rfl rfl rfl) ?_ | refine AO.nil ?_ | refine AW.seq (AW.region ?_) | refine AW.seq ?_ | refine AW.region ?_ | refine AW.block ?_ | refine AW.skip ?_ | refine AW.exit ?_ | refine AW.ret ?_)
  refine AO.val rfl rfl (callV_ok rfl rfl rfl rfl (within_spec _ _ _) rfl) ?_
  repeat (first | refine AO.pure T rfl rfl rfl ?_ | refine AO.pureG T rfl (by repeat' constructor) rfl rfl ?_ | refine AO.val rfl rfl (pick_and rfl rfl rfl rfl) ?_ | refine AO.val rfl rfl (pick_or rfl rfl rfl rfl) ?_ | refine AO.nil ?_ | refine AW.seq (AW.region ?_) | refine AW.seq ?_ | refine AW.region ?_ | refine AW.block ?_ | refine AW.skip ?_ | refine AW.exit ?_ | refine AW.ret ?_)
  exact ⟨trivial, _, _, rfl, .c (.c .v), by decide⟩
theorem isSkater_spec (n : Int) : SpecR Try.prog 12 [.v (.int .i64 n)] (.v (.bool (inB n 1 999))) := by
  refine fn_ok T Try.func12 rfl (by decide) rfl ?_
  repeat (first | refine AO.pure T rfl rfl rfl ?_ | refine AO.pureG T rfl (by repeat' constructor) rfl rfl ?_ | refine AO.val rfl rfl (pick_and rfl rfl rfl rfl) ?_ | refine AO.val rfl rfl (pick_or rfl rfl rfl rfl) ?_ | refine AO.nil ?_ | refine AW.seq (AW.region ?_) | refine AW.seq ?_ | refine AW.region ?_ | refine AW.block ?_ | refine AW.skip ?_ | refine AW.exit ?_ | refine AW.ret ?_)
  refine AO.val rfl rfl (callV_ok rfl rfl rfl rfl (within_spec _ _ _) rfl) ?_
  repeat (first | refine AO.pure T rfl rfl rfl ?_ | refine AO.pureG T rfl (by repeat' constructor) rfl rfl ?_ | refine AO.val rfl rfl (pick_and rfl rfl rfl rfl) ?_ | refine AO.val rfl rfl (pick_or rfl rfl rfl rfl) ?_ | refine AO.nil ?_ | refine AW.seq (AW.region ?_) | refine AW.seq ?_ | refine AW.region ?_ | refine AW.block ?_ | refine AW.skip ?_ | refine AW.exit ?_ | refine AW.ret ?_)
  exact ⟨trivial, _, _, rfl, .c (.c .v), by decide⟩

def okE (e : Entry) : Bool := inB e.ev 1 99 && inB e.sk 1 999 && inB e.pt 0 100000

theorem seEntry_spec (e : Entry) : SpecR Try.prog 17 [.g (encE e)] (.v (.bool (okE e))) := by
  refine fn_ok T Try.func17 rfl (by decide) rfl ?_
  repeat (first | refine AO.pure T rfl rfl rfl ?_ | refine AO.pureG T rfl (by repeat' constructor) rfl rfl ?_ | refine AO.val rfl rfl (pick_and rfl rfl rfl rfl) ?_ | refine AO.val rfl rfl (pick_or rfl rfl rfl rfl) ?_ | refine AO.nil ?_ | refine AW.seq (AW.region ?_) | refine AW.seq ?_ | refine AW.region ?_ | refine AW.block ?_ | refine AW.skip ?_ | refine AW.exit ?_ | refine AW.ret ?_)
  refine AO.step rfl (box_ok T rfl 1 rfl rfl rfl rfl) ?_
  repeat (first | refine AO.pure T rfl rfl rfl ?_ | refine AO.pureG T rfl (by repeat' constructor) rfl rfl ?_ | refine AO.val rfl rfl (pick_and rfl rfl rfl rfl) ?_ | refine AO.val rfl rfl (pick_or rfl rfl rfl rfl) ?_ | refine AO.nil ?_ | refine AW.seq (AW.region ?_) | refine AW.seq ?_ | refine AW.region ?_ | refine AW.block ?_ | refine AW.skip ?_ | refine AW.exit ?_ | refine AW.ret ?_)
  refine AO.val rfl rfl (callV_ok rfl rfl rfl rfl (l1In_spec _ _ _) rfl) ?_
  repeat (first | refine AO.pure T rfl rfl rfl ?_ | refine AO.pureG T rfl (by repeat' constructor) rfl rfl ?_ | refine AO.val rfl rfl (pick_and rfl rfl rfl rfl) ?_ | refine AO.val rfl rfl (pick_or rfl rfl rfl rfl) ?_ | refine AO.nil ?_ | refine AW.seq (AW.region ?_) | refine AW.seq ?_ | refine AW.region ?_ | refine AW.block ?_ | refine AW.skip ?_ | refine AW.exit ?_ | refine AW.ret ?_)
  refine AO.guard rfl (by repeat' constructor) (fun _ => callV_ok rfl rfl rfl rfl (l1In_spec _ _ _) rfl) rfl ?_
  repeat (first | refine AO.pure T rfl rfl rfl ?_ | refine AO.pureG T rfl (by repeat' constructor) rfl rfl ?_ | refine AO.val rfl rfl (pick_and rfl rfl rfl rfl) ?_ | refine AO.val rfl rfl (pick_or rfl rfl rfl rfl) ?_ | refine AO.nil ?_ | refine AW.seq (AW.region ?_) | refine AW.seq ?_ | refine AW.region ?_ | refine AW.block ?_ | refine AW.skip ?_ | refine AW.exit ?_ | refine AW.ret ?_)
  refine AO.guard rfl (by repeat' constructor) (fun _ => callV_ok rfl rfl rfl rfl (l1In_spec _ _ _) rfl) rfl ?_
  repeat (first | refine AO.pure T rfl rfl rfl ?_ | refine AO.pureG T rfl (by repeat' constructor) rfl rfl ?_ | refine AO.val rfl rfl (pick_and rfl rfl rfl rfl) ?_ | refine AO.val rfl rfl (pick_or rfl rfl rfl rfl) ?_ | refine AO.nil ?_ | refine AW.seq (AW.region ?_) | refine AW.seq ?_ | refine AW.region ?_ | refine AW.block ?_ | refine AW.skip ?_ | refine AW.exit ?_ | refine AW.ret ?_)
  exact ⟨trivial, _, _, rfl, .c (.c .v), by decide⟩

end Go.Proofs.Ytppdkfgmeajciaa
end

section
namespace Go.Proofs.Ytppdkfgmeajciaa
open Go.AM

def same (f e : Entry) : Bool := f.ev == e.ev && f.sk == e.sk
def seF (b : Bool) : List Entry → List Entry → Bool
  | _, [] => b
  | pre, e :: rest => bif !okE e then false else bif pre.any (same · e) then false else seF b (pre ++ [e]) rest
def seEntries (l : List Entry) : Bool := seF (decide ((l.length : Int) ≤ 80)) [] l

theorem encE_len (l : List Entry) : ∀ x ∈ l.map encE, x.length = 3 := by
  intro x hx; obtain ⟨e, _, rfl⟩ := List.mem_map.1 hx; rfl

theorem map_get {l : List Entry} {k : Nat} {e : Entry} (h : l[k]? = some e) : (l.map encE)[k]? = some (encE e) := by simp [h]

theorem drop_cons {α : Type} {l : List α} {k : Nat} (h : k < l.length) : ∃ e, l[k]? = some e ∧ l.drop k = e :: l.drop (k + 1) ∧ l.take (k + 1) = l.take k ++ [e] :=
  ⟨l[k], by simp [h], List.drop_eq_getElem_cons h, by rw [List.take_succ_eq_append_getElem h]⟩

theorem seEntries_spec (l : List Entry) (hl : l.length ≤ maxN) : SpecR Try.prog 9 [.s (l.map encE)] (.v (.bool (seEntries l))) := by
  refine fn_ok T Try.func9 rfl (by decide) rfl ?_
  repeat (first | refine AO.pure T rfl rfl rfl ?_ | refine AO.pureG T rfl (by repeat' constructor) rfl rfl ?_ | refine AO.val rfl rfl (pick_and rfl rfl rfl rfl) ?_ | refine AO.val rfl rfl (pick_or rfl rfl rfl rfl) ?_ | refine AO.nil ?_ | refine AW.seq (AW.region ?_) | refine AW.seq ?_ | refine AW.region ?_ | refine AW.block ?_ | refine AW.skip ?_ | refine AW.exit ?_ | refine AW.ret ?_)
  generalize hb : decide ((l.length : Int) ≤ 80) = b
  generalize hr : seEntries l = r
  have hr : seF b [] l = r := by rw [← hb]; exact hr
  refine AW.loopS (fun k : Nat => (⟨[(0, .s (l.map encE)), (7, .s (l.map encE)), (8, .v (.int .i64 (l.map encE).length)), (9, .v (.int .i64 k))], [], 42⟩ : St))
    (fun k => k ≤ l.length ∧ seF b (l.take k) (l.drop k) = r) (fun k => l.length - k) 0 ⟨by omega, by simpa using hr⟩ (Le.cut 0 0 rfl (by repeat' (first | exact trivial | refine ⟨⟨_, rfl, rfl⟩, ?_⟩)) (by repeat' (first | exact trivial | refine ⟨⟨_, rfl, rfl⟩, ?_⟩)) rfl) ?_
  rintro k ⟨hk, hH⟩
  repeat (first | refine AO.pure T rfl rfl rfl ?_ | refine AO.pureG T rfl (by repeat' constructor) rfl rfl ?_ | refine AO.val rfl rfl (pick_and rfl rfl rfl rfl) ?_ | refine AO.val rfl rfl (pick_or rfl rfl rfl rfl) ?_ | refine AO.nil ?_ | refine AW.seq (AW.region ?_) | refine AW.seq ?_ | refine AW.region ?_ | refine AW.block ?_ | refine AW.skip ?_ | refine AW.exit ?_ | refine AW.ret ?_)
  refine AW.cond rfl (fun hlt => ?_) (fun hge => ?_)
  · have hlt : k < l.length := by simpa using hlt
    obtain ⟨e, he, hdrop, htake⟩ := drop_cons hlt
    repeat (first | refine AO.pure T rfl rfl rfl ?_ | refine AO.pureG T rfl (by repeat' constructor) rfl rfl ?_ | refine AO.val rfl rfl (pick_and rfl rfl rfl rfl) ?_ | refine AO.val rfl rfl (pick_or rfl rfl rfl rfl) ?_ | refine AO.nil ?_ | refine AW.seq (AW.region ?_) | refine AW.seq ?_ | refine AW.region ?_ | refine AW.block ?_ | refine AW.skip ?_ | refine AW.exit ?_ | refine AW.ret ?_)
    refine AO.val rfl rfl (ix_s_ok T rfl rfl rfl rfl rfl (by omega) (map_get he) rfl) ?_
    repeat (first | refine AO.pure T rfl rfl rfl ?_ | refine AO.pureG T rfl (by repeat' constructor) rfl rfl ?_ | refine AO.val rfl rfl (pick_and rfl rfl rfl rfl) ?_ | refine AO.val rfl rfl (pick_or rfl rfl rfl rfl) ?_ | refine AO.nil ?_ | refine AW.seq (AW.region ?_) | refine AW.seq ?_ | refine AW.region ?_ | refine AW.block ?_ | refine AW.skip ?_ | refine AW.exit ?_ | refine AW.ret ?_)
    refine AO.step rfl (alloc_ok T rfl 1 rfl rfl rfl rfl rfl) ?_
    repeat (first | refine AO.pure T rfl rfl rfl ?_ | refine AO.pureG T rfl (by repeat' constructor) rfl rfl ?_ | refine AO.val rfl rfl (pick_and rfl rfl rfl rfl) ?_ | refine AO.val rfl rfl (pick_or rfl rfl rfl rfl) ?_ | refine AO.nil ?_ | refine AW.seq (AW.region ?_) | refine AW.seq ?_ | refine AW.region ?_ | refine AW.block ?_ | refine AW.skip ?_ | refine AW.exit ?_ | refine AW.ret ?_)
    refine AO.step rfl (store_ok T rfl rfl rfl rfl rfl rfl rfl rfl rfl) ?_
    repeat (first | refine AO.pure T rfl rfl rfl ?_ | refine AO.pureG T rfl (by repeat' constructor) rfl rfl ?_ | refine AO.val rfl rfl (pick_and rfl rfl rfl rfl) ?_ | refine AO.val rfl rfl (pick_or rfl rfl rfl rfl) ?_ | refine AO.nil ?_ | refine AW.seq (AW.region ?_) | refine AW.seq ?_ | refine AW.region ?_ | refine AW.block ?_ | refine AW.skip ?_ | refine AW.exit ?_ | refine AW.ret ?_)
    refine AO.val rfl rfl (callV_ok rfl rfl rfl rfl (seEntry_spec e) rfl) ?_
    repeat (first | refine AO.pure T rfl rfl rfl ?_ | refine AO.pureG T rfl (by repeat' constructor) rfl rfl ?_ | refine AO.val rfl rfl (pick_and rfl rfl rfl rfl) ?_ | refine AO.val rfl rfl (pick_or rfl rfl rfl rfl) ?_ | refine AO.nil ?_ | refine AW.seq (AW.region ?_) | refine AW.seq ?_ | refine AW.region ?_ | refine AW.block ?_ | refine AW.skip ?_ | refine AW.exit ?_ | refine AW.ret ?_)
    rw [hdrop] at hH
    refine AW.cond rfl (fun hc => ?_) (fun hc => ?_)
    · repeat (first | refine AO.pure T rfl rfl rfl ?_ | refine AO.pureG T rfl (by repeat' constructor) rfl rfl ?_ | refine AO.val rfl rfl (pick_and rfl rfl rfl rfl) ?_ | refine AO.val rfl rfl (pick_or rfl rfl rfl rfl) ?_ | refine AO.nil ?_ | refine AW.seq (AW.region ?_) | refine AW.seq ?_ | refine AW.region ?_ | refine AW.block ?_ | refine AW.skip ?_ | refine AW.exit ?_ | refine AW.ret ?_)
      simp only [seF, hc, cond_true] at hH
      subst hH
      exact ⟨trivial, _, _, rfl, .c (.c .v), by decide⟩
    · simp only [seF, hc, cond_false] at hH
      repeat (first | refine AO.pure T rfl rfl rfl ?_ | refine AO.pureG T rfl (by repeat' constructor) rfl rfl ?_ | refine AO.val rfl rfl (pick_and rfl rfl rfl rfl) ?_ | refine AO.val rfl rfl (pick_or rfl rfl rfl rfl) ?_ | refine AO.nil ?_ | refine AW.seq (AW.region ?_) | refine AW.seq ?_ | refine AW.region ?_ | refine AW.block ?_ | refine AW.skip ?_ | refine AW.exit ?_ | refine AW.ret ?_)
      refine AO.val rfl rfl (slice_hi_ok T rfl rfl rfl rfl rfl (by omega) (by simp; omega) (encE_len l)) ?_
      repeat (first | refine AO.pure T rfl rfl rfl ?_ | refine AO.pureG T rfl (by repeat' constructor) rfl rfl ?_ | refine AO.val rfl rfl (pick_and rfl rfl rfl rfl) ?_ | refine AO.val rfl rfl (pick_or rfl rfl rfl rfl) ?_ | refine AO.nil ?_ | refine AW.seq (AW.region ?_) | refine AW.seq ?_ | refine AW.region ?_ | refine AW.block ?_ | refine AW.skip ?_ | refine AW.exit ?_ | refine AW.ret ?_)
      refine AW.loopS (fun j : Nat => (⟨[(0, .s (l.map encE)), (7, .s (l.map encE)), (8, .v (.int .i64 (l.map encE).length)), (9, .v (.int .i64 k)), (4, .p 1 0), (19, .s ((l.map encE).take k)), (20, .v (.int .i64 ((l.map encE).take k).length)), (21, .v (.int .i64 j))], [(1, .box (encE e))], 42⟩ : St))
        (fun j => j ≤ k ∧ (bif ((l.take k).drop j).any (same · e) then false else seF b (l.take k ++ [e]) (l.drop (k + 1))) = r) (fun j => k - j) 0 ⟨by omega, by simpa using hH⟩ (Le.cut 0 0 rfl (by repeat' (first | exact trivial | refine ⟨⟨_, rfl, rfl⟩, ?_⟩)) (by repeat' (first | exact trivial | refine ⟨⟨_, rfl, rfl⟩, ?_⟩)) rfl) ?_
      clear hH
      rintro j ⟨hj, hH⟩
      repeat (first | refine AO.pure T rfl rfl rfl ?_ | refine AO.pureG T rfl (by repeat' constructor) rfl rfl ?_ | refine AO.val rfl rfl (pick_and rfl rfl rfl rfl) ?_ | refine AO.val rfl rfl (pick_or rfl rfl rfl rfl) ?_ | refine AO.nil ?_ | refine AW.seq (AW.region ?_) | refine AW.seq ?_ | refine AW.region ?_ | refine AW.block ?_ | refine AW.skip ?_ | refine AW.exit ?_ | refine AW.ret ?_)
      have hlen : ((l.map encE).take k).length = k := by simp; omega
      refine AW.cond rfl (fun hlt2 => ?_) (fun hge2 => ?_)
      · have hlt2 : j < k := by rw [hlen] at hlt2; simpa using hlt2
        have hjl : j < (l.take k).length := by simp; omega
        obtain ⟨f, hf, hdrop2, _⟩ := drop_cons hjl
        rw [hdrop2] at hH
        have hf' : ((l.map encE).take k)[j]? = some (encE f) := by rw [← List.map_take]; exact map_get hf
        repeat (first | refine AO.pure T rfl rfl rfl ?_ | refine AO.pureG T rfl (by repeat' constructor) rfl rfl ?_ | refine AO.val rfl rfl (pick_and rfl rfl rfl rfl) ?_ | refine AO.val rfl rfl (pick_or rfl rfl rfl rfl) ?_ | refine AO.nil ?_ | refine AW.seq (AW.region ?_) | refine AW.seq ?_ | refine AW.region ?_ | refine AW.block ?_ | refine AW.skip ?_ | refine AW.exit ?_ | refine AW.ret ?_)
        refine AO.val rfl rfl (ix_s_ok T rfl rfl rfl rfl rfl (by omega) hf' rfl) ?_
        repeat (first | refine AO.pure T rfl rfl rfl ?_ | refine AO.pureG T rfl (by repeat' constructor) rfl rfl ?_ | refine AO.val rfl rfl (pick_and rfl rfl rfl rfl) ?_ | refine AO.val rfl rfl (pick_or rfl rfl rfl rfl) ?_ | refine AO.nil ?_ | refine AW.seq (AW.region ?_) | refine AW.seq ?_ | refine AW.region ?_ | refine AW.block ?_ | refine AW.skip ?_ | refine AW.exit ?_ | refine AW.ret ?_)
        refine AO.step rfl (alloc_ok T rfl 2 rfl rfl rfl rfl rfl) ?_
        repeat (first | refine AO.pure T rfl rfl rfl ?_ | refine AO.pureG T rfl (by repeat' constructor) rfl rfl ?_ | refine AO.val rfl rfl (pick_and rfl rfl rfl rfl) ?_ | refine AO.val rfl rfl (pick_or rfl rfl rfl rfl) ?_ | refine AO.nil ?_ | refine AW.seq (AW.region ?_) | refine AW.seq ?_ | refine AW.region ?_ | refine AW.block ?_ | refine AW.skip ?_ | refine AW.exit ?_ | refine AW.ret ?_)
        refine AO.step rfl (store_ok T rfl rfl rfl rfl rfl rfl rfl rfl rfl) ?_
        repeat (first | refine AO.pure T rfl rfl rfl ?_ | refine AO.pureG T rfl (by repeat' constructor) rfl rfl ?_ | refine AO.val rfl rfl (pick_and rfl rfl rfl rfl) ?_ | refine AO.val rfl rfl (pick_or rfl rfl rfl rfl) ?_ | refine AO.nil ?_ | refine AW.seq (AW.region ?_) | refine AW.seq ?_ | refine AW.region ?_ | refine AW.block ?_ | refine AW.skip ?_ | refine AW.exit ?_ | refine AW.ret ?_)
        refine AW.cond rfl (fun hc2 => ?_) (fun hc2 => ?_)
        · repeat (first | refine AO.pure T rfl rfl rfl ?_ | refine AO.pureG T rfl (by repeat' constructor) rfl rfl ?_ | refine AO.val rfl rfl (pick_and rfl rfl rfl rfl) ?_ | refine AO.val rfl rfl (pick_or rfl rfl rfl rfl) ?_ | refine AO.nil ?_ | refine AW.seq (AW.region ?_) | refine AW.seq ?_ | refine AW.region ?_ | refine AW.block ?_ | refine AW.skip ?_ | refine AW.exit ?_ | refine AW.ret ?_)
          have hs : same f e = true := hc2
          simp only [List.any_cons, hs, Bool.true_or, cond_true] at hH
          subst hH
          exact ⟨trivial, _, _, rfl, .c (.c .v), by decide⟩
        · have hs : same f e = false := hc2
          simp only [List.any_cons, hs, Bool.false_or] at hH
          repeat (first | refine AO.pure T rfl rfl rfl ?_ | refine AO.pureG T rfl (by repeat' constructor) rfl rfl ?_ | refine AO.val rfl rfl (pick_and rfl rfl rfl rfl) ?_ | refine AO.val rfl rfl (pick_or rfl rfl rfl rfl) ?_ | refine AO.nil ?_ | refine AW.seq (AW.region ?_) | refine AW.seq ?_ | refine AW.region ?_ | refine AW.block ?_ | refine AW.skip ?_ | refine AW.exit ?_ | refine AW.ret ?_)
          refine AO.val rfl rfl (ar_ok rfl rfl rfl rfl (inI_i64 (by unfold maxN at hl; omega))) ?_
          repeat (first | refine AO.pure T rfl rfl rfl ?_ | refine AO.pureG T rfl (by repeat' constructor) rfl rfl ?_ | refine AO.val rfl rfl (pick_and rfl rfl rfl rfl) ?_ | refine AO.val rfl rfl (pick_or rfl rfl rfl rfl) ?_ | refine AO.nil ?_ | refine AW.seq (AW.region ?_) | refine AW.seq ?_ | refine AW.region ?_ | refine AW.block ?_ | refine AW.skip ?_ | refine AW.exit ?_ | refine AW.ret ?_)
          exact ⟨j + 1, ⟨by omega, hH⟩, by dsimp only; omega, Le.cut 0 0 rfl (by repeat' (first | exact trivial | refine ⟨⟨_, rfl, rfl⟩, ?_⟩)) (by repeat' (first | exact trivial | refine ⟨⟨_, rfl, rfl⟩, ?_⟩)) rfl⟩
      · have hge2 : ¬ j < k := by rw [hlen] at hge2; simpa using hge2
        obtain rfl : j = k := by omega
        rw [List.drop_of_length_le (by simp; omega)] at hH
        simp only [List.any_nil, cond_false] at hH
        repeat (first | refine AO.pure T rfl rfl rfl ?_ | refine AO.pureG T rfl (by repeat' constructor) rfl rfl ?_ | refine AO.val rfl rfl (pick_and rfl rfl rfl rfl) ?_ | refine AO.val rfl rfl (pick_or rfl rfl rfl rfl) ?_ | refine AO.nil ?_ | refine AW.seq (AW.region ?_) | refine AW.seq ?_ | refine AW.region ?_ | refine AW.block ?_ | refine AW.skip ?_ | refine AW.exit ?_ | refine AW.ret ?_)
        refine AO.val rfl rfl (ar_ok rfl rfl rfl rfl (inI_i64 (by unfold maxN at hl; omega))) ?_
        repeat (first | refine AO.pure T rfl rfl rfl ?_ | refine AO.pureG T rfl (by repeat' constructor) rfl rfl ?_ | refine AO.val rfl rfl (pick_and rfl rfl rfl rfl) ?_ | refine AO.val rfl rfl (pick_or rfl rfl rfl rfl) ?_ | refine AO.nil ?_ | refine AW.seq (AW.region ?_) | refine AW.seq ?_ | refine AW.region ?_ | refine AW.block ?_ | refine AW.skip ?_ | refine AW.exit ?_ | refine AW.ret ?_)
        exact ⟨j + 1, ⟨by omega, by rw [htake]; exact hH⟩, by dsimp only; omega, Le.cut 0 0 rfl (by repeat' (first | exact trivial | refine ⟨⟨_, rfl, rfl⟩, ?_⟩)) (by repeat' (first | exact trivial | refine ⟨⟨_, rfl, rfl⟩, ?_⟩)) rfl⟩
  · have hge : ¬ k < l.length := by simpa using hge
    rw [List.drop_of_length_le (by omega)] at hH
    simp only [seF] at hH
    subst hH
    repeat (first | refine AO.pure T rfl rfl rfl ?_ | refine AO.pureG T rfl (by repeat' constructor) rfl rfl ?_ | refine AO.val rfl rfl (pick_and rfl rfl rfl rfl) ?_ | refine AO.val rfl rfl (pick_or rfl rfl rfl rfl) ?_ | refine AO.nil ?_ | refine AW.seq (AW.region ?_) | refine AW.seq ?_ | refine AW.region ?_ | refine AW.block ?_ | refine AW.skip ?_ | refine AW.exit ?_ | refine AW.ret ?_)
    simp only [List.length_map] at *
    subst hb
    exact ⟨trivial, _, _, rfl, .c (.c .v), by decide⟩

end Go.Proofs.Ytppdkfgmeajciaa
end

section
namespace Go.Proofs.Ytppdkfgmeajciaa
open Go.AM

theorem same_spec (x e : Entry) : SpecR Try.prog 15 [.g (encE x), .q (encE e)] (.v (.bool (same x e))) := by
  refine fn_ok T Try.func15 rfl (by decide) rfl ?_
  repeat (first | refine AO.pure T rfl rfl rfl ?_ | refine AO.pureG T rfl (by repeat' constructor) rfl rfl ?_ | refine AO.val rfl rfl (pick_and rfl rfl rfl rfl) ?_ | refine AO.val rfl rfl (pick_or rfl rfl rfl rfl) ?_ | refine AO.nil ?_ | refine AW.seq (AW.region ?_) | refine AW.seq ?_ | refine AW.region ?_ | refine AW.block ?_ | refine AW.skip ?_ | refine AW.exit ?_ | refine AW.ret ?_)
  refine AO.step rfl (box_ok T rfl 1 rfl rfl rfl rfl) ?_
  repeat (first | refine AO.pure T rfl rfl rfl ?_ | refine AO.pureG T rfl (by repeat' constructor) rfl rfl ?_ | refine AO.val rfl rfl (pick_and rfl rfl rfl rfl) ?_ | refine AO.val rfl rfl (pick_or rfl rfl rfl rfl) ?_ | refine AO.nil ?_ | refine AW.seq (AW.region ?_) | refine AW.seq ?_ | refine AW.region ?_ | refine AW.block ?_ | refine AW.skip ?_ | refine AW.exit ?_ | refine AW.ret ?_)
  exact ⟨trivial, _, _, rfl, .c (.c .v), by decide⟩

def idxF (p : Entry → Bool) : Nat → List Entry → Int
  | _, [] => -1
  | k, x :: r => bif p x then k else idxF p (k + 1) r

theorem IndexFunc_spec (l : List Entry) (e : Entry) (hl : l.length ≤ maxN) : SpecR Try.prog 18 [.s (l.map encE), .f 15 [.q (encE e)]] (.v (.int .i64 (idxF (same · e) 0 l))) := by
  refine fn_ok T Try.func18 rfl (by decide) rfl ?_
  repeat (first | refine AO.pure T rfl rfl rfl ?_ | refine AO.pureG T rfl (by repeat' constructor) rfl rfl ?_ | refine AO.val rfl rfl (pick_and rfl rfl rfl rfl) ?_ | refine AO.val rfl rfl (pick_or rfl rfl rfl rfl) ?_ | refine AO.nil ?_ | refine AW.seq (AW.region ?_) | refine AW.seq ?_ | refine AW.region ?_ | refine AW.block ?_ | refine AW.skip ?_ | refine AW.exit ?_ | refine AW.ret ?_)
  generalize hr : idxF (same · e) 0 l = r
  refine AW.loopS (fun k : Nat => (⟨[(0, .s (l.map encE)), (1, .f 15 [.q (encE e)]), (7, .v (.int .i64 (l.map encE).length)), (8, .v (.int .i64 k))], [], 19⟩ : St))
    (fun k => k ≤ l.length ∧ idxF (same · e) k (l.drop k) = r) (fun k => l.length - k) 0 ⟨by omega, by simpa using hr⟩ (Le.cut 0 0 rfl (by repeat' (first | exact trivial | refine ⟨⟨_, rfl, rfl⟩, ?_⟩)) (by repeat' (first | exact trivial | refine ⟨⟨_, rfl, rfl⟩, ?_⟩)) rfl) ?_
  clear hr
  rintro k ⟨hk, hH⟩
  repeat (first | refine AO.pure T rfl rfl rfl ?_ | refine AO.pureG T rfl (by repeat' constructor) rfl rfl ?_ | refine AO.val rfl rfl (pick_and rfl rfl rfl rfl) ?_ | refine AO.val rfl rfl (pick_or rfl rfl rfl rfl) ?_ | refine AO.nil ?_ | refine AW.seq (AW.region ?_) | refine AW.seq ?_ | refine AW.region ?_ | refine AW.block ?_ | refine AW.skip ?_ | refine AW.exit ?_ | refine AW.ret ?_)
  refine AW.cond rfl (fun hlt => ?_) (fun hge => ?_)
  · have hlt : k < l.length := by simpa using hlt
    obtain ⟨x, hx, hdrop, htake⟩ := drop_cons hlt
    rw [hdrop] at hH
    repeat (first | refine AO.pure T rfl rfl rfl ?_ | refine AO.pureG T rfl (by repeat' constructor) rfl rfl ?_ | refine AO.val rfl rfl (pick_and rfl rfl rfl rfl) ?_ | refine AO.val rfl rfl (pick_or rfl rfl rfl rfl) ?_ | refine AO.nil ?_ | refine AW.seq (AW.region ?_) | refine AW.seq ?_ | refine AW.region ?_ | refine AW.block ?_ | refine AW.skip ?_ | refine AW.exit ?_ | refine AW.ret ?_)
    refine AO.val rfl rfl (ix_s_ok T rfl rfl rfl rfl rfl (by omega) (map_get hx) rfl) ?_
    repeat (first | refine AO.pure T rfl rfl rfl ?_ | refine AO.pureG T rfl (by repeat' constructor) rfl rfl ?_ | refine AO.val rfl rfl (pick_and rfl rfl rfl rfl) ?_ | refine AO.val rfl rfl (pick_or rfl rfl rfl rfl) ?_ | refine AO.nil ?_ | refine AW.seq (AW.region ?_) | refine AW.seq ?_ | refine AW.region ?_ | refine AW.block ?_ | refine AW.skip ?_ | refine AW.exit ?_ | refine AW.ret ?_)
    refine AO.val rfl rfl (callV_ok rfl rfl rfl rfl (same_spec x e) rfl) ?_
    repeat (first | refine AO.pure T rfl rfl rfl ?_ | refine AO.pureG T rfl (by repeat' constructor) rfl rfl ?_ | refine AO.val rfl rfl (pick_and rfl rfl rfl rfl) ?_ | refine AO.val rfl rfl (pick_or rfl rfl rfl rfl) ?_ | refine AO.nil ?_ | refine AW.seq (AW.region ?_) | refine AW.seq ?_ | refine AW.region ?_ | refine AW.block ?_ | refine AW.skip ?_ | refine AW.exit ?_ | refine AW.ret ?_)
    refine AW.cond rfl (fun hc => ?_) (fun hc => ?_)
    · simp only [idxF, hc, cond_true] at hH
      subst hH
      repeat (first | refine AO.pure T rfl rfl rfl ?_ | refine AO.pureG T rfl (by repeat' constructor) rfl rfl ?_ | refine AO.val rfl rfl (pick_and rfl rfl rfl rfl) ?_ | refine AO.val rfl rfl (pick_or rfl rfl rfl rfl) ?_ | refine AO.nil ?_ | refine AW.seq (AW.region ?_) | refine AW.seq ?_ | refine AW.region ?_ | refine AW.block ?_ | refine AW.skip ?_ | refine AW.exit ?_ | refine AW.ret ?_)
      exact ⟨trivial, _, _, rfl, .c (.c .v), by decide⟩
    · simp only [idxF, hc, cond_false] at hH
      repeat (first | refine AO.pure T rfl rfl rfl ?_ | refine AO.pureG T rfl (by repeat' constructor) rfl rfl ?_ | refine AO.val rfl rfl (pick_and rfl rfl rfl rfl) ?_ | refine AO.val rfl rfl (pick_or rfl rfl rfl rfl) ?_ | refine AO.nil ?_ | refine AW.seq (AW.region ?_) | refine AW.seq ?_ | refine AW.region ?_ | refine AW.block ?_ | refine AW.skip ?_ | refine AW.exit ?_ | refine AW.ret ?_)
      refine AO.val rfl rfl (ar_ok rfl rfl rfl rfl (inI_i64 (by unfold maxN at hl; omega))) ?_
      repeat (first | refine AO.pure T rfl rfl rfl ?_ | refine AO.pureG T rfl (by repeat' constructor) rfl rfl ?_ | refine AO.val rfl rfl (pick_and rfl rfl rfl rfl) ?_ | refine AO.val rfl rfl (pick_or rfl rfl rfl rfl) ?_ | refine AO.nil ?_ | refine AW.seq (AW.region ?_) | refine AW.seq ?_ | refine AW.region ?_ | refine AW.block ?_ | refine AW.skip ?_ | refine AW.exit ?_ | refine AW.ret ?_)
      exact ⟨k + 1, ⟨by omega, hH⟩, by dsimp only; omega, Le.cut 0 0 rfl (by repeat' (first | exact trivial | refine ⟨⟨_, rfl, rfl⟩, ?_⟩)) (by repeat' (first | exact trivial | refine ⟨⟨_, rfl, rfl⟩, ?_⟩)) rfl⟩
  · have hge : ¬ k < l.length := by simpa using hge
    rw [List.drop_of_length_le (by omega)] at hH
    simp only [idxF] at hH
    subst hH
    repeat (first | refine AO.pure T rfl rfl rfl ?_ | refine AO.pureG T rfl (by repeat' constructor) rfl rfl ?_ | refine AO.val rfl rfl (pick_and rfl rfl rfl rfl) ?_ | refine AO.val rfl rfl (pick_or rfl rfl rfl rfl) ?_ | refine AO.nil ?_ | refine AW.seq (AW.region ?_) | refine AW.seq ?_ | refine AW.region ?_ | refine AW.block ?_ | refine AW.skip ?_ | refine AW.exit ?_ | refine AW.ret ?_)
    exact ⟨trivial, _, _, rfl, .c (.c .v), by decide⟩

theorem ContainsFunc_spec (l : List Entry) (e : Entry) (hl : l.length ≤ maxN) : SpecR Try.prog 14 [.s (l.map encE), .f 15 [.q (encE e)]] (.v (.bool (decide (idxF (same · e) 0 l ≥ 0)))) := by
  refine fn_ok T Try.func14 rfl (by decide) rfl ?_
  repeat (first | refine AO.pure T rfl rfl rfl ?_ | refine AO.pureG T rfl (by repeat' constructor) rfl rfl ?_ | refine AO.val rfl rfl (pick_and rfl rfl rfl rfl) ?_ | refine AO.val rfl rfl (pick_or rfl rfl rfl rfl) ?_ | refine AO.nil ?_ | refine AW.seq (AW.region ?_) | refine AW.seq ?_ | refine AW.region ?_ | refine AW.block ?_ | refine AW.skip ?_ | refine AW.exit ?_ | refine AW.ret ?_)
  refine AO.val rfl rfl (callV_ok rfl rfl rfl rfl (IndexFunc_spec l e hl) rfl) ?_
  repeat (first | refine AO.pure T rfl rfl rfl ?_ | refine AO.pureG T rfl (by repeat' constructor) rfl rfl ?_ | refine AO.val rfl rfl (pick_and rfl rfl rfl rfl) ?_ | refine AO.val rfl rfl (pick_or rfl rfl rfl rfl) ?_ | refine AO.nil ?_ | refine AW.seq (AW.region ?_) | refine AW.seq ?_ | refine AW.region ?_ | refine AW.block ?_ | refine AW.skip ?_ | refine AW.exit ?_ | refine AW.ret ?_)
  exact ⟨trivial, _, _, rfl, .c (.c .v), by decide⟩

theorem idx_any (p : Entry → Bool) (l : List Entry) (k : Nat) : decide (idxF p k l ≥ 0) = l.any p := by
  induction l generalizing k with
  | nil => rfl
  | cons x l ih =>
    have ih := ih (k + 1)
    by_cases h : p x = true
    · have e : idxF p k (x :: l) = k := by simp [idxF, h]
      rw [e]; simp [h]
    · simp only [Bool.not_eq_true] at h
      have e : idxF p k (x :: l) = idxF p (k + 1) l := by simp [idxF, h]
      rw [e, ih]; simp [h]

theorem AreEntries_spec (l : List Entry) (hl : l.length ≤ maxN) : SpecR Try.prog 7 [.s (l.map encE)] (.v (.bool (seEntries l))) := by
  refine fn_ok T Try.func7 rfl (by decide) rfl ?_
  repeat (first | refine AO.pure T rfl rfl rfl ?_ | refine AO.pureG T rfl (by repeat' constructor) rfl rfl ?_ | refine AO.val rfl rfl (pick_and rfl rfl rfl rfl) ?_ | refine AO.val rfl rfl (pick_or rfl rfl rfl rfl) ?_ | refine AO.nil ?_ | refine AW.seq (AW.region ?_) | refine AW.seq ?_ | refine AW.region ?_ | refine AW.block ?_ | refine AW.skip ?_ | refine AW.exit ?_ | refine AW.ret ?_)
  generalize hb : decide ((l.length : Int) ≤ 80) = b
  generalize hr : seEntries l = r
  have hr : seF b [] l = r := by rw [← hb]; exact hr
  refine AW.loopS (fun k : Nat => (⟨[(0, .s (l.map encE)), (5, .s (l.map encE)), (6, .v (.int .i64 (l.map encE).length)), (7, .v (.int .i64 k))], [], 37⟩ : St))
    (fun k => k ≤ l.length ∧ seF b (l.take k) (l.drop k) = r) (fun k => l.length - k) 0 ⟨by omega, by simpa using hr⟩ (Le.cut 0 0 rfl (by repeat' (first | exact trivial | refine ⟨⟨_, rfl, rfl⟩, ?_⟩)) (by repeat' (first | exact trivial | refine ⟨⟨_, rfl, rfl⟩, ?_⟩)) rfl) ?_
  clear hr
  rintro k ⟨hk, hH⟩
  repeat (first | refine AO.pure T rfl rfl rfl ?_ | refine AO.pureG T rfl (by repeat' constructor) rfl rfl ?_ | refine AO.val rfl rfl (pick_and rfl rfl rfl rfl) ?_ | refine AO.val rfl rfl (pick_or rfl rfl rfl rfl) ?_ | refine AO.nil ?_ | refine AW.seq (AW.region ?_) | refine AW.seq ?_ | refine AW.region ?_ | refine AW.block ?_ | refine AW.skip ?_ | refine AW.exit ?_ | refine AW.ret ?_)
  refine AW.cond rfl (fun hlt => ?_) (fun hge => ?_)
  · have hlt : k < l.length := by simpa using hlt
    obtain ⟨e, he, hdrop, htake⟩ := drop_cons hlt
    rw [hdrop] at hH
    repeat (first | refine AO.pure T rfl rfl rfl ?_ | refine AO.pureG T rfl (by repeat' constructor) rfl rfl ?_ | refine AO.val rfl rfl (pick_and rfl rfl rfl rfl) ?_ | refine AO.val rfl rfl (pick_or rfl rfl rfl rfl) ?_ | refine AO.nil ?_ | refine AW.seq (AW.region ?_) | refine AW.seq ?_ | refine AW.region ?_ | refine AW.block ?_ | refine AW.skip ?_ | refine AW.exit ?_ | refine AW.ret ?_)
    refine AO.val rfl rfl (ix_s_ok T rfl rfl rfl rfl rfl (by omega) (map_get he) rfl) ?_
    repeat (first | refine AO.pure T rfl rfl rfl ?_ | refine AO.pureG T rfl (by repeat' constructor) rfl rfl ?_ | refine AO.val rfl rfl (pick_and rfl rfl rfl rfl) ?_ | refine AO.val rfl rfl (pick_or rfl rfl rfl rfl) ?_ | refine AO.nil ?_ | refine AW.seq (AW.region ?_) | refine AW.seq ?_ | refine AW.region ?_ | refine AW.block ?_ | refine AW.skip ?_ | refine AW.exit ?_ | refine AW.ret ?_)
    refine AO.step rfl (alloc_ok T rfl 1 rfl rfl rfl rfl rfl) ?_
    repeat (first | refine AO.pure T rfl rfl rfl ?_ | refine AO.pureG T rfl (by repeat' constructor) rfl rfl ?_ | refine AO.val rfl rfl (pick_and rfl rfl rfl rfl) ?_ | refine AO.val rfl rfl (pick_or rfl rfl rfl rfl) ?_ | refine AO.nil ?_ | refine AW.seq (AW.region ?_) | refine AW.seq ?_ | refine AW.region ?_ | refine AW.block ?_ | refine AW.skip ?_ | refine AW.exit ?_ | refine AW.ret ?_)
    refine AO.step rfl (store_ok T rfl rfl rfl rfl rfl rfl rfl rfl rfl) ?_
    repeat (first | refine AO.pure T rfl rfl rfl ?_ | refine AO.pureG T rfl (by repeat' constructor) rfl rfl ?_ | refine AO.val rfl rfl (pick_and rfl rfl rfl rfl) ?_ | refine AO.val rfl rfl (pick_or rfl rfl rfl rfl) ?_ | refine AO.nil ?_ | refine AW.seq (AW.region ?_) | refine AW.seq ?_ | refine AW.region ?_ | refine AW.block ?_ | refine AW.skip ?_ | refine AW.exit ?_ | refine AW.ret ?_)
    refine AO.val rfl rfl (callV_ok rfl rfl rfl rfl (isEvent_spec _) rfl) ?_
    repeat (first | refine AO.pure T rfl rfl rfl ?_ | refine AO.pureG T rfl (by repeat' constructor) rfl rfl ?_ | refine AO.val rfl rfl (pick_and rfl rfl rfl rfl) ?_ | refine AO.val rfl rfl (pick_or rfl rfl rfl rfl) ?_ | refine AO.nil ?_ | refine AW.seq (AW.region ?_) | refine AW.seq ?_ | refine AW.region ?_ | refine AW.block ?_ | refine AW.skip ?_ | refine AW.exit ?_ | refine AW.ret ?_)
    refine AO.guard rfl (by repeat' constructor) (fun _ => callV_ok rfl rfl rfl rfl (isSkater_spec _) rfl) rfl ?_
    repeat (first | refine AO.pure T rfl rfl rfl ?_ | refine AO.pureG T rfl (by repeat' constructor) rfl rfl ?_ | refine AO.val rfl rfl (pick_and rfl rfl rfl rfl) ?_ | refine AO.val rfl rfl (pick_or rfl rfl rfl rfl) ?_ | refine AO.nil ?_ | refine AW.seq (AW.region ?_) | refine AW.seq ?_ | refine AW.region ?_ | refine AW.block ?_ | refine AW.skip ?_ | refine AW.exit ?_ | refine AW.ret ?_)
    refine AO.guard rfl (by repeat' constructor) (fun _ => callV_ok rfl rfl rfl rfl (within_spec _ _ _) rfl) rfl ?_
    repeat (first | refine AO.pure T rfl rfl rfl ?_ | refine AO.pureG T rfl (by repeat' constructor) rfl rfl ?_ | refine AO.val rfl rfl (pick_and rfl rfl rfl rfl) ?_ | refine AO.val rfl rfl (pick_or rfl rfl rfl rfl) ?_ | refine AO.nil ?_ | refine AW.seq (AW.region ?_) | refine AW.seq ?_ | refine AW.region ?_ | refine AW.block ?_ | refine AW.skip ?_ | refine AW.exit ?_ | refine AW.ret ?_)
    refine AW.cond rfl (fun hc => ?_) (fun hc => ?_)
    · have hc : (!okE e) = true := by simpa [okE, Bool.not_and, Bool.or_assoc] using hc
      simp only [seF, hc, cond_true] at hH
      subst hH
      repeat (first | refine AO.pure T rfl rfl rfl ?_ | refine AO.pureG T rfl (by repeat' constructor) rfl rfl ?_ | refine AO.val rfl rfl (pick_and rfl rfl rfl rfl) ?_ | refine AO.val rfl rfl (pick_or rfl rfl rfl rfl) ?_ | refine AO.nil ?_ | refine AW.seq (AW.region ?_) | refine AW.seq ?_ | refine AW.region ?_ | refine AW.block ?_ | refine AW.skip ?_ | refine AW.exit ?_ | refine AW.ret ?_)
      exact ⟨trivial, _, _, rfl, .c (.c .v), by decide⟩
    · have hc : (!okE e) = false := by simpa [okE, Bool.not_and, Bool.or_assoc, and_assoc] using hc
      simp only [seF, hc, cond_false] at hH
      repeat (first | refine AO.pure T rfl rfl rfl ?_ | refine AO.pureG T rfl (by repeat' constructor) rfl rfl ?_ | refine AO.val rfl rfl (pick_and rfl rfl rfl rfl) ?_ | refine AO.val rfl rfl (pick_or rfl rfl rfl rfl) ?_ | refine AO.nil ?_ | refine AW.seq (AW.region ?_) | refine AW.seq ?_ | refine AW.region ?_ | refine AW.block ?_ | refine AW.skip ?_ | refine AW.exit ?_ | refine AW.ret ?_)
      refine AO.val rfl rfl (slice_hi_ok T rfl rfl rfl rfl rfl (by omega) (by simp; omega) (encE_len l)) ?_
      repeat (first | refine AO.pure T rfl rfl rfl ?_ | refine AO.pureG T rfl (by repeat' constructor) rfl rfl ?_ | refine AO.val rfl rfl (pick_and rfl rfl rfl rfl) ?_ | refine AO.val rfl rfl (pick_or rfl rfl rfl rfl) ?_ | refine AO.nil ?_ | refine AW.seq (AW.region ?_) | refine AW.seq ?_ | refine AW.region ?_ | refine AW.block ?_ | refine AW.skip ?_ | refine AW.exit ?_ | refine AW.ret ?_)
      have hcf := ContainsFunc_spec (l.take k) e (by simp; omega)
      rw [idx_any, List.map_take] at hcf
      refine AO.val rfl rfl (callLV_ok rfl rfl rfl (es := [.s ((l.map encE).take k), .f 15 [.q (encE e)]]) ⟨Lend.free rfl, Lend.f1 (Lend.boxF rfl rfl), trivial⟩ hcf (zfree_v _) rfl) ?_
      repeat (first | refine AO.pure T rfl rfl rfl ?_ | refine AO.pureG T rfl (by repeat' constructor) rfl rfl ?_ | refine AO.val rfl rfl (pick_and rfl rfl rfl rfl) ?_ | refine AO.val rfl rfl (pick_or rfl rfl rfl rfl) ?_ | refine AO.nil ?_ | refine AW.seq (AW.region ?_) | refine AW.seq ?_ | refine AW.region ?_ | refine AW.block ?_ | refine AW.skip ?_ | refine AW.exit ?_ | refine AW.ret ?_)
      refine AW.cond rfl (fun hc2 => ?_) (fun hc2 => ?_)
      · simp only [hc2, cond_true] at hH
        subst hH
        repeat (first | refine AO.pure T rfl rfl rfl ?_ | refine AO.pureG T rfl (by repeat' constructor) rfl rfl ?_ | refine AO.val rfl rfl (pick_and rfl rfl rfl rfl) ?_ | refine AO.val rfl rfl (pick_or rfl rfl rfl rfl) ?_ | refine AO.nil ?_ | refine AW.seq (AW.region ?_) | refine AW.seq ?_ | refine AW.region ?_ | refine AW.block ?_ | refine AW.skip ?_ | refine AW.exit ?_ | refine AW.ret ?_)
        exact ⟨trivial, _, _, rfl, .c (.c .v), by decide⟩
      · simp only [hc2, cond_false] at hH
        repeat (first | refine AO.pure T rfl rfl rfl ?_ | refine AO.pureG T rfl (by repeat' constructor) rfl rfl ?_ | refine AO.val rfl rfl (pick_and rfl rfl rfl rfl) ?_ | refine AO.val rfl rfl (pick_or rfl rfl rfl rfl) ?_ | refine AO.nil ?_ | refine AW.seq (AW.region ?_) | refine AW.seq ?_ | refine AW.region ?_ | refine AW.block ?_ | refine AW.skip ?_ | refine AW.exit ?_ | refine AW.ret ?_)
        refine AO.val rfl rfl (ar_ok rfl rfl rfl rfl (inI_i64 (by unfold maxN at hl; omega))) ?_
        repeat (first | refine AO.pure T rfl rfl rfl ?_ | refine AO.pureG T rfl (by repeat' constructor) rfl rfl ?_ | refine AO.val rfl rfl (pick_and rfl rfl rfl rfl) ?_ | refine AO.val rfl rfl (pick_or rfl rfl rfl rfl) ?_ | refine AO.nil ?_ | refine AW.seq (AW.region ?_) | refine AW.seq ?_ | refine AW.region ?_ | refine AW.block ?_ | refine AW.skip ?_ | refine AW.exit ?_ | refine AW.ret ?_)
        exact ⟨k + 1, ⟨by omega, by rw [htake]; exact hH⟩, by dsimp only; omega, Le.cut 0 0 rfl (by repeat' (first | exact trivial | refine ⟨⟨_, rfl, rfl⟩, ?_⟩)) (by repeat' (first | exact trivial | refine ⟨⟨_, rfl, rfl⟩, ?_⟩)) rfl⟩
  · have hge : ¬ k < l.length := by simpa using hge
    rw [List.drop_of_length_le (by omega)] at hH
    simp only [seF] at hH
    subst hH
    repeat (first | refine AO.pure T rfl rfl rfl ?_ | refine AO.pureG T rfl (by repeat' constructor) rfl rfl ?_ | refine AO.val rfl rfl (pick_and rfl rfl rfl rfl) ?_ | refine AO.val rfl rfl (pick_or rfl rfl rfl rfl) ?_ | refine AO.nil ?_ | refine AW.seq (AW.region ?_) | refine AW.seq ?_ | refine AW.region ?_ | refine AW.block ?_ | refine AW.skip ?_ | refine AW.exit ?_ | refine AW.ret ?_)
    simp only [List.length_map] at *
    subst hb
    exact ⟨trivial, _, _, rfl, .c (.c .v), by decide⟩

theorem sAreEntries_spec (l : List Entry) (hl : l.length ≤ maxN) : SpecR Try.prog 5 [.s (l.map encE)] (.v (.bool (seEntries l))) := by
  refine fn_ok T Try.func5 rfl (by decide) rfl ?_
  repeat (first | refine AO.pure T rfl rfl rfl ?_ | refine AO.pureG T rfl (by repeat' constructor) rfl rfl ?_ | refine AO.val rfl rfl (pick_and rfl rfl rfl rfl) ?_ | refine AO.val rfl rfl (pick_or rfl rfl rfl rfl) ?_ | refine AO.nil ?_ | refine AW.seq (AW.region ?_) | refine AW.seq ?_ | refine AW.region ?_ | refine AW.block ?_ | refine AW.skip ?_ | refine AW.exit ?_ | refine AW.ret ?_)
  refine AO.val rfl rfl (callV_ok rfl rfl rfl rfl (seEntries_spec l hl) rfl) ?_
  repeat (first | refine AO.pure T rfl rfl rfl ?_ | refine AO.pureG T rfl (by repeat' constructor) rfl rfl ?_ | refine AO.val rfl rfl (pick_and rfl rfl rfl rfl) ?_ | refine AO.val rfl rfl (pick_or rfl rfl rfl rfl) ?_ | refine AO.nil ?_ | refine AW.seq (AW.region ?_) | refine AW.seq ?_ | refine AW.region ?_ | refine AW.block ?_ | refine AW.skip ?_ | refine AW.exit ?_ | refine AW.ret ?_)
  exact ⟨trivial, _, _, rfl, .c (.c .v), by decide⟩

end Go.Proofs.Ytppdkfgmeajciaa
end

section
namespace Go.Proofs.Ytppdkfgmeajciaa
open Go.AM

theorem szEntryS_spec (l : List Entry) (left : Int) (hl : l.length ≤ maxN) (h0 : 0 ≤ left) (h1 : left ≤ 1048576) : SpecR Try.prog 4 [.s (l.map encE), .v (.int .i64 left)] (.v (.int .i64 (if left - l.length < 0 then -1 else left - l.length))) := by
  refine fn_ok T Try.func4 rfl (by decide) rfl ?_
  repeat (first | refine AO.pure T rfl rfl rfl ?_ | refine AO.pureG T rfl (by repeat' constructor) rfl rfl ?_ | refine AO.val rfl rfl (pick_and rfl rfl rfl rfl) ?_ | refine AO.val rfl rfl (pick_or rfl rfl rfl rfl) ?_ | refine AO.nil ?_ | refine AW.seq (AW.region ?_) | refine AW.seq ?_ | refine AW.region ?_ | refine AW.block ?_ | refine AW.skip ?_ | refine AW.exit ?_ | refine AW.ret ?_)
  refine AO.val rfl rfl (ar_ok rfl rfl rfl rfl (inI_i64 (by simp; unfold maxN at hl; omega))) ?_
  repeat (first | refine AO.pure T rfl rfl rfl ?_ | refine AO.pureG T rfl (by repeat' constructor) rfl rfl ?_ | refine AO.val rfl rfl (pick_and rfl rfl rfl rfl) ?_ | refine AO.val rfl rfl (pick_or rfl rfl rfl rfl) ?_ | refine AO.nil ?_ | refine AW.seq (AW.region ?_) | refine AW.seq ?_ | refine AW.region ?_ | refine AW.block ?_ | refine AW.skip ?_ | refine AW.exit ?_ | refine AW.ret ?_)
  simp only [List.length_map]
  refine AW.cond rfl (fun hc => ?_) (fun hc => ?_)
  · rw [if_pos (by simpa using hc)]
    repeat (first | refine AO.pure T rfl rfl rfl ?_ | refine AO.pureG T rfl (by repeat' constructor) rfl rfl ?_ | refine AO.val rfl rfl (pick_and rfl rfl rfl rfl) ?_ | refine AO.val rfl rfl (pick_or rfl rfl rfl rfl) ?_ | refine AO.nil ?_ | refine AW.seq (AW.region ?_) | refine AW.seq ?_ | refine AW.region ?_ | refine AW.block ?_ | refine AW.skip ?_ | refine AW.exit ?_ | refine AW.ret ?_)
    exact ⟨trivial, _, _, rfl, .c (.c .v), by decide⟩
  · rw [if_neg (by simpa using hc)]
    repeat (first | refine AO.pure T rfl rfl rfl ?_ | refine AO.pureG T rfl (by repeat' constructor) rfl rfl ?_ | refine AO.val rfl rfl (pick_and rfl rfl rfl rfl) ?_ | refine AO.val rfl rfl (pick_or rfl rfl rfl rfl) ?_ | refine AO.nil ?_ | refine AW.seq (AW.region ?_) | refine AW.seq ?_ | refine AW.region ?_ | refine AW.block ?_ | refine AW.skip ?_ | refine AW.exit ?_ | refine AW.ret ?_)
    exact ⟨trivial, _, _, rfl, .c (.c .v), by decide⟩

theorem toEntry_spec (e : Entry) : SpecR Try.prog 10 [.g (encE e)] (.g (encE e)) := by
  refine fn_ok T Try.func10 rfl (by decide) rfl ?_
  repeat (first | refine AO.pure T rfl rfl rfl ?_ | refine AO.pureG T rfl (by repeat' constructor) rfl rfl ?_ | refine AO.val rfl rfl (pick_and rfl rfl rfl rfl) ?_ | refine AO.val rfl rfl (pick_or rfl rfl rfl rfl) ?_ | refine AO.nil ?_ | refine AW.seq (AW.region ?_) | refine AW.seq ?_ | refine AW.region ?_ | refine AW.block ?_ | refine AW.skip ?_ | refine AW.exit ?_ | refine AW.ret ?_)
  refine AO.step rfl (box_ok T rfl 1 rfl rfl rfl rfl) ?_
  refine AO.step rfl (alloc_ok T rfl 2 rfl rfl rfl rfl rfl) ?_
  repeat (first | refine AO.pure T rfl rfl rfl ?_ | refine AO.pureG T rfl (by repeat' constructor) rfl rfl ?_ | refine AO.val rfl rfl (pick_and rfl rfl rfl rfl) ?_ | refine AO.val rfl rfl (pick_or rfl rfl rfl rfl) ?_ | refine AO.nil ?_ | refine AW.seq (AW.region ?_) | refine AW.seq ?_ | refine AW.region ?_ | refine AW.block ?_ | refine AW.skip ?_ | refine AW.exit ?_ | refine AW.ret ?_)
  refine AO.step rfl (alloc_ok T rfl 3 rfl rfl rfl rfl rfl) ?_
  repeat (first | refine AO.pure T rfl rfl rfl ?_ | refine AO.pureG T rfl (by repeat' constructor) rfl rfl ?_ | refine AO.val rfl rfl (pick_and rfl rfl rfl rfl) ?_ | refine AO.val rfl rfl (pick_or rfl rfl rfl rfl) ?_ | refine AO.nil ?_ | refine AW.seq (AW.region ?_) | refine AW.seq ?_ | refine AW.region ?_ | refine AW.block ?_ | refine AW.skip ?_ | refine AW.exit ?_ | refine AW.ret ?_)
  refine AO.step rfl (store_ok T rfl rfl rfl rfl rfl rfl rfl rfl rfl) ?_
  repeat (first | refine AO.pure T rfl rfl rfl ?_ | refine AO.pureG T rfl (by repeat' constructor) rfl rfl ?_ | refine AO.val rfl rfl (pick_and rfl rfl rfl rfl) ?_ | refine AO.val rfl rfl (pick_or rfl rfl rfl rfl) ?_ | refine AO.nil ?_ | refine AW.seq (AW.region ?_) | refine AW.seq ?_ | refine AW.region ?_ | refine AW.block ?_ | refine AW.skip ?_ | refine AW.exit ?_ | refine AW.ret ?_)
  refine AO.step rfl (store_ok T rfl rfl rfl rfl rfl rfl rfl rfl rfl) ?_
  repeat (first | refine AO.pure T rfl rfl rfl ?_ | refine AO.pureG T rfl (by repeat' constructor) rfl rfl ?_ | refine AO.val rfl rfl (pick_and rfl rfl rfl rfl) ?_ | refine AO.val rfl rfl (pick_or rfl rfl rfl rfl) ?_ | refine AO.nil ?_ | refine AW.seq (AW.region ?_) | refine AW.seq ?_ | refine AW.region ?_ | refine AW.block ?_ | refine AW.skip ?_ | refine AW.exit ?_ | refine AW.ret ?_)
  refine AO.step rfl (store_ok T rfl rfl rfl rfl rfl rfl rfl rfl rfl) ?_
  repeat (first | refine AO.pure T rfl rfl rfl ?_ | refine AO.pureG T rfl (by repeat' constructor) rfl rfl ?_ | refine AO.val rfl rfl (pick_and rfl rfl rfl rfl) ?_ | refine AO.val rfl rfl (pick_or rfl rfl rfl rfl) ?_ | refine AO.nil ?_ | refine AW.seq (AW.region ?_) | refine AW.seq ?_ | refine AW.region ?_ | refine AW.block ?_ | refine AW.skip ?_ | refine AW.exit ?_ | refine AW.ret ?_)
  refine AO.step rfl (store_ok T rfl rfl rfl rfl rfl rfl rfl rfl rfl) ?_
  repeat (first | refine AO.pure T rfl rfl rfl ?_ | refine AO.pureG T rfl (by repeat' constructor) rfl rfl ?_ | refine AO.val rfl rfl (pick_and rfl rfl rfl rfl) ?_ | refine AO.val rfl rfl (pick_or rfl rfl rfl rfl) ?_ | refine AO.nil ?_ | refine AW.seq (AW.region ?_) | refine AW.seq ?_ | refine AW.region ?_ | refine AW.block ?_ | refine AW.skip ?_ | refine AW.exit ?_ | refine AW.ret ?_)
  exact ⟨trivial, _, _, rfl, .c (.g (expLC_cons .v (expLC_cons .v (expLC_cons .v expLC_nil)))), by decide⟩

def zE : Entry := ⟨0, 0, 0⟩
def toX (l : List Entry) (k : Nat) : List Entry := l.take k ++ List.replicate (l.length - k) zE

theorem toX_get (l : List Entry) (k : Nat) (h : k < l.length) : (toX l k)[k]? = some zE := by
  unfold toX
  rw [List.getElem?_append_right (by simp; omega), List.getElem?_replicate, if_pos (by simp; omega)]
theorem toX_set (l : List Entry) (k : Nat) (e : Entry) (h : l[k]? = some e) : (toX l k).set k e = toX l (k + 1) := by
  have hk : k < l.length := (List.getElem?_eq_some_iff.1 h).1
  have he : l[k] = e := (List.getElem?_eq_some_iff.1 h).2
  unfold toX
  rw [List.set_append_right _ _ (by simp; omega), show l.length - k = (l.length - (k + 1)) + 1 by omega, List.replicate_succ]
  rw [show k - (l.take k).length = 0 by simp; omega, List.set_cons_zero, List.take_succ_eq_append_getElem hk, he]
  simp

theorem toEntryS_spec (l : List Entry) (hl : l.length ≤ 1048576) : SpecR Try.prog 6 [.s (l.map encE)] (.w 3 (l.map encE)) := by
  refine fn_ok T Try.func6 rfl (by decide) rfl ?_
  repeat (first | refine AO.pure T rfl rfl rfl ?_ | refine AO.pureG T rfl (by repeat' constructor) rfl rfl ?_ | refine AO.val rfl rfl (pick_and rfl rfl rfl rfl) ?_ | refine AO.val rfl rfl (pick_or rfl rfl rfl rfl) ?_ | refine AO.nil ?_ | refine AW.seq (AW.region ?_) | refine AW.seq ?_ | refine AW.region ?_ | refine AW.block ?_ | refine AW.skip ?_ | refine AW.exit ?_ | refine AW.ret ?_)
  refine AO.step rfl (make_ok T rfl 1 rfl rfl rfl rfl rfl rfl rfl rfl (by omega) (by simp; omega) (by simp; omega) rfl rfl) ?_
  repeat (first | refine AO.pure T rfl rfl rfl ?_ | refine AO.pureG T rfl (by repeat' constructor) rfl rfl ?_ | refine AO.val rfl rfl (pick_and rfl rfl rfl rfl) ?_ | refine AO.val rfl rfl (pick_or rfl rfl rfl rfl) ?_ | refine AO.nil ?_ | refine AW.seq (AW.region ?_) | refine AW.seq ?_ | refine AW.region ?_ | refine AW.block ?_ | refine AW.skip ?_ | refine AW.exit ?_ | refine AW.ret ?_)
  refine AW.loopS (fun k : Nat => (⟨[(0, .s (l.map encE)), (3, .r 1 0 l.length), (4, .v (.int .i64 k))], [(1, .row 3 ((toX l k).map encE))], 23⟩ : St))
    (fun k => k ≤ l.length) (fun k => l.length - k) 0 (by omega) ?_ ?_
  · refine Le.cut 0 0 rfl ⟨⟨_, rfl, rfl⟩, ⟨_, rfl, by simp; rfl⟩, ⟨_, rfl, rfl⟩, trivial⟩ ⟨⟨_, rfl, ?_⟩, trivial⟩ rfl
    simp only [Root.ren, toX, List.take_zero, List.nil_append, List.map_replicate, Nat.sub_zero, List.length_map]; rfl
  intro k hk
  repeat (first | refine AO.pure T rfl rfl rfl ?_ | refine AO.pureG T rfl (by repeat' constructor) rfl rfl ?_ | refine AO.val rfl rfl (pick_and rfl rfl rfl rfl) ?_ | refine AO.val rfl rfl (pick_or rfl rfl rfl rfl) ?_ | refine AO.nil ?_ | refine AW.seq (AW.region ?_) | refine AW.seq ?_ | refine AW.region ?_ | refine AW.block ?_ | refine AW.skip ?_ | refine AW.exit ?_ | refine AW.ret ?_)
  refine AW.cond rfl (fun hlt => ?_) (fun hge => ?_)
  · have hlt : k < l.length := by simpa using hlt
    obtain ⟨e, he, hdrop, htake⟩ := drop_cons hlt
    repeat (first | refine AO.pure T rfl rfl rfl ?_ | refine AO.pureG T rfl (by repeat' constructor) rfl rfl ?_ | refine AO.val rfl rfl (pick_and rfl rfl rfl rfl) ?_ | refine AO.val rfl rfl (pick_or rfl rfl rfl rfl) ?_ | refine AO.nil ?_ | refine AW.seq (AW.region ?_) | refine AW.seq ?_ | refine AW.region ?_ | refine AW.block ?_ | refine AW.skip ?_ | refine AW.exit ?_ | refine AW.ret ?_)
    refine AO.val rfl rfl (ix_s_ok T rfl rfl rfl rfl rfl (by omega) (map_get he) rfl) ?_
    repeat (first | refine AO.pure T rfl rfl rfl ?_ | refine AO.pureG T rfl (by repeat' constructor) rfl rfl ?_ | refine AO.val rfl rfl (pick_and rfl rfl rfl rfl) ?_ | refine AO.val rfl rfl (pick_or rfl rfl rfl rfl) ?_ | refine AO.nil ?_ | refine AW.seq (AW.region ?_) | refine AW.seq ?_ | refine AW.region ?_ | refine AW.block ?_ | refine AW.skip ?_ | refine AW.exit ?_ | refine AW.ret ?_)
    refine AO.val rfl rfl (callV_ok rfl rfl rfl rfl (toEntry_spec e) rfl) ?_
    refine AO.val rfl rfl (ix_r0_ok T rfl rfl rfl rfl rfl rfl (by omega) hlt) ?_
    refine AO.step rfl (store_e_ok T rfl rfl rfl rfl rfl (map_get (toX_get l k hlt)) rfl rfl rfl rfl rfl) ?_
    repeat (first | refine AO.pure T rfl rfl rfl ?_ | refine AO.pureG T rfl (by repeat' constructor) rfl rfl ?_ | refine AO.val rfl rfl (pick_and rfl rfl rfl rfl) ?_ | refine AO.val rfl rfl (pick_or rfl rfl rfl rfl) ?_ | refine AO.nil ?_ | refine AW.seq (AW.region ?_) | refine AW.seq ?_ | refine AW.region ?_ | refine AW.block ?_ | refine AW.skip ?_ | refine AW.exit ?_ | refine AW.ret ?_)
    refine AO.val rfl rfl (ar_ok rfl rfl rfl rfl (inI_i64 (by omega))) ?_
    repeat (first | refine AO.pure T rfl rfl rfl ?_ | refine AO.pureG T rfl (by repeat' constructor) rfl rfl ?_ | refine AO.val rfl rfl (pick_and rfl rfl rfl rfl) ?_ | refine AO.val rfl rfl (pick_or rfl rfl rfl rfl) ?_ | refine AO.nil ?_ | refine AW.seq (AW.region ?_) | refine AW.seq ?_ | refine AW.region ?_ | refine AW.block ?_ | refine AW.skip ?_ | refine AW.exit ?_ | refine AW.ret ?_)
    refine ⟨k + 1, by omega, by dsimp only; omega, Le.cut 0 0 rfl (by repeat' (first | exact trivial | refine ⟨⟨_, rfl, rfl⟩, ?_⟩)) ⟨⟨_, rfl, ?_⟩, trivial⟩ rfl⟩
    rw [← toX_set l k e he, List.map_set]
    rfl
  · have hge : ¬ k < l.length := by simpa using hge
    obtain rfl : k = l.length := by omega
    have hx : toX l l.length = l := by simp [toX]
    rw [hx]
    repeat (first | refine AO.pure T rfl rfl rfl ?_ | refine AO.pureG T rfl (by repeat' constructor) rfl rfl ?_ | refine AO.val rfl rfl (pick_and rfl rfl rfl rfl) ?_ | refine AO.val rfl rfl (pick_or rfl rfl rfl rfl) ?_ | refine AO.nil ?_ | refine AW.seq (AW.region ?_) | refine AW.seq ?_ | refine AW.region ?_ | refine AW.block ?_ | refine AW.skip ?_ | refine AW.exit ?_ | refine AW.ret ?_)
    exact ⟨trivial, _, [1], rfl, .c (.c (.row rfl (by simp))), by decide⟩

def eqE (a b : Entry) : Bool := bif a.ev != b.ev then false else bif a.sk != b.sk then false else bif a.pt != b.pt then false else true

theorem eqEntry_spec (a b : Entry) : SpecR Try.prog 16 [.g (encE a), .g (encE b)] (.v (.bool (eqE a b))) := by
  refine fn_ok T Try.func16 rfl (by decide) rfl ?_
  repeat (first | refine AO.pure T rfl rfl rfl ?_ | refine AO.pureG T rfl (by repeat' constructor) rfl rfl ?_ | refine AO.val rfl rfl (pick_and rfl rfl rfl rfl) ?_ | refine AO.val rfl rfl (pick_or rfl rfl rfl rfl) ?_ | refine AO.nil ?_ | refine AW.seq (AW.region ?_) | refine AW.seq ?_ | refine AW.region ?_ | refine AW.block ?_ | refine AW.skip ?_ | refine AW.exit ?_ | refine AW.ret ?_)
  refine AO.step rfl (box_ok T rfl 1 rfl rfl rfl rfl) ?_
  refine AO.step rfl (box_ok T rfl 2 rfl rfl rfl rfl) ?_
  repeat (first | refine AO.pure T rfl rfl rfl ?_ | refine AO.pureG T rfl (by repeat' constructor) rfl rfl ?_ | refine AO.val rfl rfl (pick_and rfl rfl rfl rfl) ?_ | refine AO.val rfl rfl (pick_or rfl rfl rfl rfl) ?_ | refine AO.nil ?_ | refine AW.seq (AW.region ?_) | refine AW.seq ?_ | refine AW.region ?_ | refine AW.block ?_ | refine AW.skip ?_ | refine AW.exit ?_ | refine AW.ret ?_)
  refine AW.cond rfl (fun hc => ?_) (fun hc => ?_)
  · simp only [eqE, hc, cond_true]
    repeat (first | refine AO.pure T rfl rfl rfl ?_ | refine AO.pureG T rfl (by repeat' constructor) rfl rfl ?_ | refine AO.val rfl rfl (pick_and rfl rfl rfl rfl) ?_ | refine AO.val rfl rfl (pick_or rfl rfl rfl rfl) ?_ | refine AO.nil ?_ | refine AW.seq (AW.region ?_) | refine AW.seq ?_ | refine AW.region ?_ | refine AW.block ?_ | refine AW.skip ?_ | refine AW.exit ?_ | refine AW.ret ?_)
    exact ⟨trivial, _, _, rfl, .c (.c .v), by decide⟩
  · simp only [eqE, hc, cond_false]
    repeat (first | refine AO.pure T rfl rfl rfl ?_ | refine AO.pureG T rfl (by repeat' constructor) rfl rfl ?_ | refine AO.val rfl rfl (pick_and rfl rfl rfl rfl) ?_ | refine AO.val rfl rfl (pick_or rfl rfl rfl rfl) ?_ | refine AO.nil ?_ | refine AW.seq (AW.region ?_) | refine AW.seq ?_ | refine AW.region ?_ | refine AW.block ?_ | refine AW.skip ?_ | refine AW.exit ?_ | refine AW.ret ?_)
    refine AW.cond rfl (fun hc => ?_) (fun hc => ?_)
    · simp only [hc, cond_true]
      repeat (first | refine AO.pure T rfl rfl rfl ?_ | refine AO.pureG T rfl (by repeat' constructor) rfl rfl ?_ | refine AO.val rfl rfl (pick_and rfl rfl rfl rfl) ?_ | refine AO.val rfl rfl (pick_or rfl rfl rfl rfl) ?_ | refine AO.nil ?_ | refine AW.seq (AW.region ?_) | refine AW.seq ?_ | refine AW.region ?_ | refine AW.block ?_ | refine AW.skip ?_ | refine AW.exit ?_ | refine AW.ret ?_)
      exact ⟨trivial, _, _, rfl, .c (.c .v), by decide⟩
    · simp only [hc, cond_false]
      repeat (first | refine AO.pure T rfl rfl rfl ?_ | refine AO.pureG T rfl (by repeat' constructor) rfl rfl ?_ | refine AO.val rfl rfl (pick_and rfl rfl rfl rfl) ?_ | refine AO.val rfl rfl (pick_or rfl rfl rfl rfl) ?_ | refine AO.nil ?_ | refine AW.seq (AW.region ?_) | refine AW.seq ?_ | refine AW.region ?_ | refine AW.block ?_ | refine AW.skip ?_ | refine AW.exit ?_ | refine AW.ret ?_)
      refine AW.cond rfl (fun hc => ?_) (fun hc => ?_)
      · simp only [hc, cond_true]
        repeat (first | refine AO.pure T rfl rfl rfl ?_ | refine AO.pureG T rfl (by repeat' constructor) rfl rfl ?_ | refine AO.val rfl rfl (pick_and rfl rfl rfl rfl) ?_ | refine AO.val rfl rfl (pick_or rfl rfl rfl rfl) ?_ | refine AO.nil ?_ | refine AW.seq (AW.region ?_) | refine AW.seq ?_ | refine AW.region ?_ | refine AW.block ?_ | refine AW.skip ?_ | refine AW.exit ?_ | refine AW.ret ?_)
        exact ⟨trivial, _, _, rfl, .c (.c .v), by decide⟩
      · simp only [hc, cond_false]
        repeat (first | refine AO.pure T rfl rfl rfl ?_ | refine AO.pureG T rfl (by repeat' constructor) rfl rfl ?_ | refine AO.val rfl rfl (pick_and rfl rfl rfl rfl) ?_ | refine AO.val rfl rfl (pick_or rfl rfl rfl rfl) ?_ | refine AO.nil ?_ | refine AW.seq (AW.region ?_) | refine AW.seq ?_ | refine AW.region ?_ | refine AW.block ?_ | refine AW.skip ?_ | refine AW.exit ?_ | refine AW.ret ?_)
        exact ⟨trivial, _, _, rfl, .c (.c .v), by decide⟩

def eqF : List Entry → List Entry → Bool
  | [], _ => true
  | a :: l, b :: m => bif !eqE a b then false else eqF l m
  | _ :: _, [] => false

theorem eqEntryS_spec (a b : List Entry) (hl : a.length ≤ maxN) : SpecR Try.prog 8 [.s (a.map encE), .s (b.map encE)] (.v (.bool (bif ((a.length : Int) != b.length) then false else eqF a b))) := by
  refine fn_ok T Try.func8 rfl (by decide) rfl ?_
  repeat (first | refine AO.pure T rfl rfl rfl ?_ | refine AO.pureG T rfl (by repeat' constructor) rfl rfl ?_ | refine AO.val rfl rfl (pick_and rfl rfl rfl rfl) ?_ | refine AO.val rfl rfl (pick_or rfl rfl rfl rfl) ?_ | refine AO.nil ?_ | refine AW.seq (AW.region ?_) | refine AW.seq ?_ | refine AW.region ?_ | refine AW.block ?_ | refine AW.skip ?_ | refine AW.exit ?_ | refine AW.ret ?_)
  simp only [List.length_map]
  refine AW.cond rfl (fun hc => ?_) (fun hc => ?_)
  · simp only [hc, cond_true]
    repeat (first | refine AO.pure T rfl rfl rfl ?_ | refine AO.pureG T rfl (by repeat' constructor) rfl rfl ?_ | refine AO.val rfl rfl (pick_and rfl rfl rfl rfl) ?_ | refine AO.val rfl rfl (pick_or rfl rfl rfl rfl) ?_ | refine AO.nil ?_ | refine AW.seq (AW.region ?_) | refine AW.seq ?_ | refine AW.region ?_ | refine AW.block ?_ | refine AW.skip ?_ | refine AW.exit ?_ | refine AW.ret ?_)
    exact ⟨trivial, _, _, rfl, .c (.c .v), by decide⟩
  · simp only [hc, cond_false]
    have hab : a.length = b.length := by simp at hc; omega
    clear hc
    repeat (first | refine AO.pure T rfl rfl rfl ?_ | refine AO.pureG T rfl (by repeat' constructor) rfl rfl ?_ | refine AO.val rfl rfl (pick_and rfl rfl rfl rfl) ?_ | refine AO.val rfl rfl (pick_or rfl rfl rfl rfl) ?_ | refine AO.nil ?_ | refine AW.seq (AW.region ?_) | refine AW.seq ?_ | refine AW.region ?_ | refine AW.block ?_ | refine AW.skip ?_ | refine AW.exit ?_ | refine AW.ret ?_)
    generalize hr : eqF a b = r
    refine AW.loopS (fun k : Nat => (⟨[(0, .s (a.map encE)), (1, .s (b.map encE)), (5, .v (.int .i64 k))], [], 27⟩ : St))
      (fun k => k ≤ a.length ∧ eqF (a.drop k) (b.drop k) = r) (fun k => a.length - k) 0 ⟨by omega, by simpa using hr⟩ (Le.cut 0 0 rfl (by repeat' (first | exact trivial | refine ⟨⟨_, rfl, rfl⟩, ?_⟩)) (by repeat' (first | exact trivial | refine ⟨⟨_, rfl, rfl⟩, ?_⟩)) rfl) ?_
    clear hr
    rintro k ⟨hk, hH⟩
    repeat (first | refine AO.pure T rfl rfl rfl ?_ | refine AO.pureG T rfl (by repeat' constructor) rfl rfl ?_ | refine AO.val rfl rfl (pick_and rfl rfl rfl rfl) ?_ | refine AO.val rfl rfl (pick_or rfl rfl rfl rfl) ?_ | refine AO.nil ?_ | refine AW.seq (AW.region ?_) | refine AW.seq ?_ | refine AW.region ?_ | refine AW.block ?_ | refine AW.skip ?_ | refine AW.exit ?_ | refine AW.ret ?_)
    refine AW.cond rfl (fun hlt => ?_) (fun hge => ?_)
    · have hlt : k < a.length := by simpa using hlt
      obtain ⟨x, hx, hdrop, _⟩ := drop_cons hlt
      obtain ⟨y, hy, hdrop2, _⟩ := drop_cons (show k < b.length by omega)
      rw [hdrop, hdrop2] at hH
      repeat (first | refine AO.pure T rfl rfl rfl ?_ | refine AO.pureG T rfl (by repeat' constructor) rfl rfl ?_ | refine AO.val rfl rfl (pick_and rfl rfl rfl rfl) ?_ | refine AO.val rfl rfl (pick_or rfl rfl rfl rfl) ?_ | refine AO.nil ?_ | refine AW.seq (AW.region ?_) | refine AW.seq ?_ | refine AW.region ?_ | refine AW.block ?_ | refine AW.skip ?_ | refine AW.exit ?_ | refine AW.ret ?_)
      refine AW.drawn 10 1 mix (by kernel_rfl) rfl ?_
      repeat (first | refine AD.pure T rfl rfl rfl ?_ | refine AD.val rfl rfl (ix_s_ok T rfl rfl rfl rfl rfl (by omega) (map_get hx) rfl) ?_ | refine AD.val rfl rfl (ix_s_ok T rfl rfl rfl rfl rfl (by omega) (map_get hy) rfl) ?_ | refine AD.val rfl rfl (callV_ok rfl rfl rfl rfl (eqEntry_spec x y) rfl) ?_)
      refine AD.nil ?_
      repeat (first | refine AO.pure T rfl rfl rfl ?_ | refine AO.pureG T rfl (by repeat' constructor) rfl rfl ?_ | refine AO.val rfl rfl (pick_and rfl rfl rfl rfl) ?_ | refine AO.val rfl rfl (pick_or rfl rfl rfl rfl) ?_ | refine AO.nil ?_ | refine AW.seq (AW.region ?_) | refine AW.seq ?_ | refine AW.region ?_ | refine AW.block ?_ | refine AW.skip ?_ | refine AW.exit ?_ | refine AW.ret ?_)
      refine AW.cond rfl (fun hc => ?_) (fun hc => ?_)
      · simp only [eqF, hc, cond_true] at hH
        subst hH
        repeat (first | refine AO.pure T rfl rfl rfl ?_ | refine AO.pureG T rfl (by repeat' constructor) rfl rfl ?_ | refine AO.val rfl rfl (pick_and rfl rfl rfl rfl) ?_ | refine AO.val rfl rfl (pick_or rfl rfl rfl rfl) ?_ | refine AO.nil ?_ | refine AW.seq (AW.region ?_) | refine AW.seq ?_ | refine AW.region ?_ | refine AW.block ?_ | refine AW.skip ?_ | refine AW.exit ?_ | refine AW.ret ?_)
        exact ⟨trivial, _, _, rfl, .c (.c .v), by decide⟩
      · simp only [eqF, hc, cond_false] at hH
        repeat (first | refine AO.pure T rfl rfl rfl ?_ | refine AO.pureG T rfl (by repeat' constructor) rfl rfl ?_ | refine AO.val rfl rfl (pick_and rfl rfl rfl rfl) ?_ | refine AO.val rfl rfl (pick_or rfl rfl rfl rfl) ?_ | refine AO.nil ?_ | refine AW.seq (AW.region ?_) | refine AW.seq ?_ | refine AW.region ?_ | refine AW.block ?_ | refine AW.skip ?_ | refine AW.exit ?_ | refine AW.ret ?_)
        refine AO.val rfl rfl (ar_ok rfl rfl rfl rfl (inI_i64 (by unfold maxN at hl; omega))) ?_
        repeat (first | refine AO.pure T rfl rfl rfl ?_ | refine AO.pureG T rfl (by repeat' constructor) rfl rfl ?_ | refine AO.val rfl rfl (pick_and rfl rfl rfl rfl) ?_ | refine AO.val rfl rfl (pick_or rfl rfl rfl rfl) ?_ | refine AO.nil ?_ | refine AW.seq (AW.region ?_) | refine AW.seq ?_ | refine AW.region ?_ | refine AW.block ?_ | refine AW.skip ?_ | refine AW.exit ?_ | refine AW.ret ?_)
        exact ⟨k + 1, ⟨by omega, hH⟩, by dsimp only; omega, Le.cut 0 0 rfl (by repeat' (first | exact trivial | refine ⟨⟨_, rfl, rfl⟩, ?_⟩)) (by repeat' (first | exact trivial | refine ⟨⟨_, rfl, rfl⟩, ?_⟩)) rfl⟩
    · have hge : ¬ k < a.length := by simpa using hge
      rw [List.drop_of_length_le (by omega)] at hH
      simp only [eqF] at hH
      subst hH
      repeat (first | refine AO.pure T rfl rfl rfl ?_ | refine AO.pureG T rfl (by repeat' constructor) rfl rfl ?_ | refine AO.val rfl rfl (pick_and rfl rfl rfl rfl) ?_ | refine AO.val rfl rfl (pick_or rfl rfl rfl rfl) ?_ | refine AO.nil ?_ | refine AW.seq (AW.region ?_) | refine AW.seq ?_ | refine AW.region ?_ | refine AW.block ?_ | refine AW.skip ?_ | refine AW.exit ?_ | refine AW.ret ?_)
      exact ⟨trivial, _, _, rfl, .c (.c .v), by decide⟩


theorem eqE_refl (a : Entry) : eqE a a = true := by simp [eqE]
theorem eqF_refl (a : List Entry) : eqF a a = true := by
  induction a with
  | nil => rfl
  | cons x a ih => simp [eqF, eqE_refl, ih]
theorem allVS (l : List Entry) : ∀ x ∈ l.map encE, x.all D.isVS = true := by
  intro x hx; obtain ⟨e, _, rfl⟩ := List.mem_map.1 hx; rfl

theorem zfreeE (l : List Entry) : D.zfree (.w 3 (l.map encE)) := zfree_w fun x hx d hd => by
  obtain ⟨e, _, rfl⟩ := List.mem_map.1 hx
  simp only [encE, List.mem_cons, List.mem_singleton, List.not_mem_nil, or_false] at hd
  rcases hd with rfl | rfl | rfl <;> exact zfree_v _

theorem law_spec (l : List Entry) (hl : l.length ≤ maxN) : SpecR Try.prog 3 [.s (l.map encE)] (.v (.bool true)) := by
  refine fn_ok T Try.func3 rfl (by decide) rfl ?_
  repeat (first | refine AO.pure T rfl rfl rfl ?_ | refine AO.pureG T rfl (by repeat' constructor) rfl rfl ?_ | refine AO.val rfl rfl (pick_and rfl rfl rfl rfl) ?_ | refine AO.val rfl rfl (pick_or rfl rfl rfl rfl) ?_ | refine AO.nil ?_ | refine AW.seq (AW.region ?_) | refine AW.seq ?_ | refine AW.region ?_ | refine AW.block ?_ | refine AW.skip ?_ | refine AW.exit ?_ | refine AW.ret ?_)
  refine AO.val rfl rfl (callV_ok rfl rfl rfl rfl (szEntryS_spec l 1048576 hl (by omega) (by omega)) rfl) ?_
  repeat (first | refine AO.pure T rfl rfl rfl ?_ | refine AO.pureG T rfl (by repeat' constructor) rfl rfl ?_ | refine AO.val rfl rfl (pick_and rfl rfl rfl rfl) ?_ | refine AO.val rfl rfl (pick_or rfl rfl rfl rfl) ?_ | refine AO.nil ?_ | refine AW.seq (AW.region ?_) | refine AW.seq ?_ | refine AW.region ?_ | refine AW.block ?_ | refine AW.skip ?_ | refine AW.exit ?_ | refine AW.ret ?_)
  refine AW.cond rfl (fun hc => ?_) (fun hc => ?_)
  · repeat (first | refine AO.pure T rfl rfl rfl ?_ | refine AO.pureG T rfl (by repeat' constructor) rfl rfl ?_ | refine AO.val rfl rfl (pick_and rfl rfl rfl rfl) ?_ | refine AO.val rfl rfl (pick_or rfl rfl rfl rfl) ?_ | refine AO.nil ?_ | refine AW.seq (AW.region ?_) | refine AW.seq ?_ | refine AW.region ?_ | refine AW.block ?_ | refine AW.skip ?_ | refine AW.exit ?_ | refine AW.ret ?_)
    exact ⟨trivial, _, _, rfl, .c (.c .v), by decide⟩
  · have hlen : l.length ≤ 1048576 := by
      have := of_decide_eq_false hc
      split at this <;> omega
    repeat (first | refine AO.pure T rfl rfl rfl ?_ | refine AO.pureG T rfl (by repeat' constructor) rfl rfl ?_ | refine AO.val rfl rfl (pick_and rfl rfl rfl rfl) ?_ | refine AO.val rfl rfl (pick_or rfl rfl rfl rfl) ?_ | refine AO.nil ?_ | refine AW.seq (AW.region ?_) | refine AW.seq ?_ | refine AW.region ?_ | refine AW.block ?_ | refine AW.skip ?_ | refine AW.exit ?_ | refine AW.ret ?_)
    refine AO.step rfl (call_ok rfl 1 rfl rfl rfl (toEntryS_spec l hlen) rfl rfl rfl) ?_
    refine AO.val rfl rfl (callLV_ok rfl rfl rfl (es := [.s (l.map encE)]) ⟨Lend.row rfl rfl (allVS l), trivial⟩ (sAreEntries_spec l hl) (zfree_v _) rfl) ?_
    repeat (first | refine AO.pure T rfl rfl rfl ?_ | refine AO.pureG T rfl (by repeat' constructor) rfl rfl ?_ | refine AO.val rfl rfl (pick_and rfl rfl rfl rfl) ?_ | refine AO.val rfl rfl (pick_or rfl rfl rfl rfl) ?_ | refine AO.nil ?_ | refine AW.seq (AW.region ?_) | refine AW.seq ?_ | refine AW.region ?_ | refine AW.block ?_ | refine AW.skip ?_ | refine AW.exit ?_ | refine AW.ret ?_)
    refine AO.step rfl (call_ok rfl 2 rfl rfl rfl (toEntryS_spec l hlen) rfl rfl rfl) ?_
    repeat (first | refine AO.pure T rfl rfl rfl ?_ | refine AO.pureG T rfl (by repeat' constructor) rfl rfl ?_ | refine AO.val rfl rfl (pick_and rfl rfl rfl rfl) ?_ | refine AO.val rfl rfl (pick_or rfl rfl rfl rfl) ?_ | refine AO.nil ?_ | refine AW.seq (AW.region ?_) | refine AW.seq ?_ | refine AW.region ?_ | refine AW.block ?_ | refine AW.skip ?_ | refine AW.exit ?_ | refine AW.ret ?_)
    refine AO.val rfl rfl (callLV_ok rfl rfl rfl (es := [.s (l.map encE)]) ⟨Lend.row rfl rfl (allVS l), trivial⟩ (AreEntries_spec l hl) (zfree_v _) rfl) ?_
    repeat (first | refine AO.pure T rfl rfl rfl ?_ | refine AO.pureG T rfl (by repeat' constructor) rfl rfl ?_ | refine AO.val rfl rfl (pick_and rfl rfl rfl rfl) ?_ | refine AO.val rfl rfl (pick_or rfl rfl rfl rfl) ?_ | refine AO.nil ?_ | refine AW.seq (AW.region ?_) | refine AW.seq ?_ | refine AW.region ?_ | refine AW.block ?_ | refine AW.skip ?_ | refine AW.exit ?_ | refine AW.ret ?_)
    refine AW.cond rfl (fun hc => ?_) (fun hc => ?_)
    · simp at hc
    · repeat (first | refine AO.pure T rfl rfl rfl ?_ | refine AO.pureG T rfl (by repeat' constructor) rfl rfl ?_ | refine AO.val rfl rfl (pick_and rfl rfl rfl rfl) ?_ | refine AO.val rfl rfl (pick_or rfl rfl rfl rfl) ?_ | refine AO.nil ?_ | refine AW.seq (AW.region ?_) | refine AW.seq ?_ | refine AW.region ?_ | refine AW.block ?_ | refine AW.skip ?_ | refine AW.exit ?_ | refine AW.ret ?_)
      refine AO.step rfl (call_ok rfl 3 rfl rfl rfl (toEntryS_spec l hlen) rfl rfl rfl) ?_
      refine AO.val rfl rfl (callLV_ok rfl rfl rfl (es := [.s (l.map encE), .s (l.map encE)]) ⟨Lend.row rfl rfl (allVS l), Lend.row rfl rfl (allVS l), trivial⟩ (eqEntryS_spec l l hl) (zfree_v _) rfl) ?_
      repeat (first | refine AO.pure T rfl rfl rfl ?_ | refine AO.pureG T rfl (by repeat' constructor) rfl rfl ?_ | refine AO.val rfl rfl (pick_and rfl rfl rfl rfl) ?_ | refine AO.val rfl rfl (pick_or rfl rfl rfl rfl) ?_ | refine AO.nil ?_ | refine AW.seq (AW.region ?_) | refine AW.seq ?_ | refine AW.region ?_ | refine AW.block ?_ | refine AW.skip ?_ | refine AW.exit ?_ | refine AW.ret ?_)
      refine AW.cond rfl (fun hc => ?_) (fun hc => ?_)
      · simp [eqF_refl] at hc
      · repeat (first | refine AO.pure T rfl rfl rfl ?_ | refine AO.pureG T rfl (by repeat' constructor) rfl rfl ?_ | refine AO.val rfl rfl (pick_and rfl rfl rfl rfl) ?_ | refine AO.val rfl rfl (pick_or rfl rfl rfl rfl) ?_ | refine AO.nil ?_ | refine AW.seq (AW.region ?_) | refine AW.seq ?_ | refine AW.region ?_ | refine AW.block ?_ | refine AW.skip ?_ | refine AW.exit ?_ | refine AW.ret ?_)
        exact ⟨trivial, _, _, rfl, .c (.c .v), by decide⟩

end Go.Proofs.Ytppdkfgmeajciaa
end


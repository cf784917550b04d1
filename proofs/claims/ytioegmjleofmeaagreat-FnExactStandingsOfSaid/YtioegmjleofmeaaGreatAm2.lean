/- A part of my own walk library: how the model runs a function, told over abstract values. It states no law of the program; no condition. -/
import Derived.Test.YtioegmjleofmeaaGreatAm1
import Derived.IntWalk
set_option linter.unusedSimpArgs false
set_option linter.unusedVariables false
set_option linter.unusedSectionVars false

section
namespace Go.AM

def arD (op : BinOp) (a b : Int) : Option Int := match op with | .add => some (a + b) | .sub => some (a - b) | .mul => some (a * b) | _ => none

def inI (k : IntKind) (n : Int) : Prop := k.wrap n = n

theorem inI_i64 {n : Int} (h : -9223372036854775808 ≤ n ∧ n ≤ 9223372036854775807) : inI .i64 n := IntWalk.i64_in n h

section
variable {P : Program} {σ : St} {o : Oper}

/-- a sum, a difference, a product that fits -/
theorem ar_ok {op : BinOp} {t u : Nat} {x y : Operand} {k : IntKind} {a b c : Int} (ho : o.op = .binOp op t x y u) (hx : σ.ev x = some (.v (.int k a))) (hy : σ.ev y = some (.v (.int k b)))
    (hc : arD op a b = some c) (hin : inI k c) : OpV P σ o (.v (.int k c)) := by
  refine OpV.of_val fun E a' w Z loc fps R => ?_
  have h1 := R.ev hx; have h2 := R.ev hy
  generalize hax : a'.eval x = vx at h1
  generalize hay : a'.eval y = vy at h2
  cases h1; cases h2
  unfold inI at hin
  refine ⟨_, ?_, .v⟩
  cases op <;> simp only [arD] at hc <;> first
    | (cases hc; done)
    | (cases hc; simp [execOp, ho, hax, hay, eqGuard_at_int, binOp_add, binOp_sub, binOp_mul, Op.intArith, hin])

/-- the same, as it wraps -/
theorem arw_ok {op : BinOp} {t u : Nat} {x y : Operand} {k : IntKind} {a b c : Int} (ho : o.op = .binOp op t x y u) (hx : σ.ev x = some (.v (.int k a))) (hy : σ.ev y = some (.v (.int k b)))
    (hc : arD op a b = some c) : OpV P σ o (.v (.int k (k.wrap c))) := by
  refine OpV.of_val fun E a' w Z loc fps R => ?_
  have h1 := R.ev hx; have h2 := R.ev hy
  generalize hax : a'.eval x = vx at h1
  generalize hay : a'.eval y = vy at h2
  cases h1; cases h2
  refine ⟨_, ?_, .v⟩
  cases op <;> simp only [arD] at hc <;> first
    | (cases hc; done)
    | (cases hc; simp [execOp, ho, hax, hay, eqGuard_at_int, binOp_add, binOp_sub, binOp_mul, Op.intArith])

theorem quo_ok {t u : Nat} {x y : Operand} {k : IntKind} {a b : Int} (ho : o.op = .binOp .quo t x y u) (hx : σ.ev x = some (.v (.int k a))) (hy : σ.ev y = some (.v (.int k b)))
    (hb : b ≠ 0) (hin : inI k (a.tdiv b)) : OpV P σ o (.v (.int k (a.tdiv b))) := by
  refine OpV.of_val fun E a' w Z loc fps R => ?_
  have h1 := R.ev hx; have h2 := R.ev hy
  generalize hax : a'.eval x = vx at h1
  generalize hay : a'.eval y = vy at h2
  cases h1; cases h2
  unfold inI at hin
  exact ⟨_, by simp [execOp, ho, hax, hay, eqGuard_at_int, binOp_quo, binOp_rem, Op.intDiv, hb, hin], .v⟩

theorem rem_ok {t u : Nat} {x y : Operand} {k : IntKind} {a b : Int} (ho : o.op = .binOp .rem t x y u) (hx : σ.ev x = some (.v (.int k a))) (hy : σ.ev y = some (.v (.int k b)))
    (hb : b ≠ 0) : OpV P σ o (.v (.int k (a.tmod b))) := by
  refine OpV.of_val fun E a' w Z loc fps R => ?_
  have h1 := R.ev hx; have h2 := R.ev hy
  generalize hax : a'.eval x = vx at h1
  generalize hay : a'.eval y = vy at h2
  cases h1; cases h2
  exact ⟨_, by simp [execOp, ho, hax, hay, eqGuard_at_int, binOp_quo, binOp_rem, Op.intDiv, hb], .v⟩

theorem neg_ok {t : Nat} {x : Operand} {k : IntKind} {a : Int} (ho : o.op = .unOp .neg t x) (hx : σ.ev x = some (.v (.int k a)))
    (hin : inI k (-a)) : OpV P σ o (.v (.int k (-a))) := by
  refine OpV.of_val fun E a' w Z loc fps R => ?_
  have h1 := R.ev hx
  generalize hax : a'.eval x = vx at h1
  cases h1
  unfold inI at hin
  exact ⟨_, by simp [execOp, ho, hax, Op.unary, Op.intArith, hin], .v⟩

theorem concat_ok {t u : Nat} {x y : Operand} {a b : ByteArray} (ho : o.op = .binOp .add t x y u) (hx : σ.ev x = some (.v (.string a))) (hy : σ.ev y = some (.v (.string b)))
    (hin : a.size + b.size ≤ maxN) : OpV P σ o (.v (.string (a ++ b))) := by
  refine OpV.of_val fun E a' w Z loc fps R => ?_
  have h1 := R.ev hx; have h2 := R.ev hy
  generalize hax : a'.eval x = vx at h1
  generalize hay : a'.eval y = vy at h2
  cases h1; cases h2
  unfold maxN at hin
  have : ¬ (9223372036854775807 : Int) < (a.size : Int) + (b.size : Int) := by omega
  exact ⟨_, by simp [execOp, ho, hax, hay, eqGuard_at_string, binOp, Op.stringOp, this], .v⟩

/-- min and max of two ints -/
theorem max_ok {x y : Operand} {ts : Array TypeId} {k : IntKind} {a b : Int} (ho : o.op = .call { callee := .builtin .max, args := #[x, y], argTypes := ts }) (hx : σ.ev x = some (.v (.int k a))) (hy : σ.ev y = some (.v (.int k b))) : OpV P σ o (.v (.int k (max a b))) := by
  refine OpV.of_val fun E a' w Z loc fps R => ?_
  have h1 := R.ev hx; have h2 := R.ev hy
  generalize hax : a'.eval x = vx at h1
  generalize hay : a'.eval y = vy at h2
  cases h1; cases h2
  refine ⟨_, ?_, .v⟩
  have : (if b > a then b else a) = max a b := by rw [Int.max_def]; split <;> split <;> omega
  simp [execOp, ho, hax, hay, resolve, invoke, builtin, Builtin.max_, Builtin.max2]
  exact this

theorem min_ok {x y : Operand} {ts : Array TypeId} {k : IntKind} {a b : Int} (ho : o.op = .call { callee := .builtin .min, args := #[x, y], argTypes := ts }) (hx : σ.ev x = some (.v (.int k a))) (hy : σ.ev y = some (.v (.int k b))) : OpV P σ o (.v (.int k (min a b))) := by
  refine OpV.of_val fun E a' w Z loc fps R => ?_
  have h1 := R.ev hx; have h2 := R.ev hy
  generalize hax : a'.eval x = vx at h1
  generalize hay : a'.eval y = vy at h2
  cases h1; cases h2
  refine ⟨_, ?_, .v⟩
  have : (if b < a then b else a) = min a b := by rw [Int.min_def]; split <;> split <;> omega
  simp [execOp, ho, hax, hay, resolve, invoke, builtin, Builtin.min_, Builtin.min2]
  exact this

end

section
variable {P : Program} {te : TE} (T : TEok P te) {σ : St} {o : Oper}
include T

/-- an int of one kind into another one, where it fits -/
theorem conv_ok {s t : Nat} {x : Operand} {k k' : IntKind} {a : Int} {s1 b1 z1} {ti : TI} (ho : o.op = .convert s t x) (hs : te s = some ti) (ht : te t = some ⟨.int k', s1, b1, z1⟩) (hx : σ.ev x = some (.v (.int k a)))
    (hin : inI k' a) : OpV P σ o (.v (.int k' a)) := by
  refine OpV.of_val fun E a' w Z loc fps R => ?_
  have h1 := R.ev hx
  generalize hax : a'.eval x = vx at h1
  cases h1
  unfold inI at hin
  obtain ⟨i, d, _, h2, _⟩ := te_parts T hs
  have hu := und_int T ht
  refine ⟨_, ?_, .v⟩
  simp [execOp, ho, hax, convert, run_underlying hu, run_underlying h2, Conv.intToInt, hin]

/-- a byte of a string -/
theorem ix_str_ok {t : Nat} {s b z} {x i : Operand} {k : IntKind} {n : Int} {str : ByteArray} {c : UInt8} (ho : o.op = .index t x i) (ht : te t = some ⟨.str, s, b, z⟩)
    (hx : σ.ev x = some (.v (.string str))) (hi : σ.ev i = some (.v (.int k n))) (hn : 0 ≤ n) (hc : str[n.toNat]? = some c) : OpV P σ o (.v (.int .u8 c.toNat)) := by
  refine OpV.of_val fun E a w Z loc fps R => ?_
  have hu := und_str T ht
  have h1 := R.ev hx; have h2 := R.ev hi
  generalize hax : a.eval x = vx at h1
  generalize hai : a.eval i = vi at h2
  cases h1; cases h2
  exact ⟨_, by simp [execOp, ho, hax, hai, Instr.index, asIntOf, run_underlying hu, hn, hc], .v⟩

end

/-- a bound of a slice expression -/
def bndN (σ : St) (x : Operand) : Option Nat :=
  match σ.ev x with | some (.v (.int _ n)) => bif decide (0 ≤ n) then some n.toNat else none | _ => none

def loN (σ : St) : Option Operand → Option Nat
  | none => some 0
  | some y => bndN σ y
def hiN (σ : St) (n : Nat) : Option Operand → Option Nat
  | none => some n
  | some y => bndN σ y

theorem run_bnd {P : Program} {E σ a w Z loc fps} (R : RelV E σ a w Z loc fps) {x : Operand} {k : IntKind} {n : Int} (hx : σ.ev x = some (.v (.int k n))) (h0 : 0 ≤ n) (y : Nat) (hy : n.toNat ≤ y) (code : BoundsCode) :
    (Instr.sliceBound (a.eval x) y code).run P w = .ok n.toNat w := by
  have h1 := R.ev hx
  generalize a.eval x = vx at h1
  cases h1
  have : n ≤ y := by omega
  simp [Instr.sliceBound, asIntOf, h0, this]

section
variable {P : Program} {te : TE} (T : TEok P te)
include T

/-- the run of x[l:h] over a slice, its bounds known -/
theorem run_slice' {t e : Nat} {s b z} {ti : TI} (ht : te t = some ⟨.slice e, s, b, z⟩) (hte : te e = some ti) {w : World} {A : Option Addr} {len cap l h : Nat} {lo hi : Option Value}
    (hb : (Instr.sliceBounds true len cap lo hi none).run P w = .ok (l, h, cap) w) :
    (Instr.sliceAt t (.slice A len cap) lo hi none).run P w = .ok (.slice (if cap = l then A else A.map (·.add (l * ti.size))) (h - l) (cap - l)) w := by
  have hu := und_slice T ht
  simp only [Instr.sliceAt, Instr.slice, Sem.run_bind, run_underlying hu, Result.andThen_ok, hb, run_sizeOf' T hte, Sem.run_pure]

omit T in
theorem AR.subS {w Z loc xs A len cap} {l h sz' : Nat} (hA : AR w Z loc [] (.s xs) (.slice A len cap)) (hl : l ≤ h) (hh : h ≤ xs.length) (hsz : ∀ x ∈ xs, x.length = sz') :
    AR w Z loc [] (.s ((xs.take h).drop l)) (.slice (if cap = l then A else A.map (·.add (l * sz'))) (h - l) (cap - l)) := by
  by_cases hlt : l = h
  · subst hlt
    have : (xs.take l).drop l = [] := by simp
    rw [this, Nat.sub_self]; exact .s0
  · cases hA with
    | s0 => simp at hh; omega
    | @s _ _ b off sz arr el fz cap g1 g2 g3 g4 g5 g6 =>
      obtain rfl : sz = sz' := by
        cases xs with
        | nil => simp at hh; omega
        | cons x xs => rw [← g3 x (by simp), hsz x (by simp)]
      rw [if_neg (by omega)]
      have hlen : ((xs.take h).drop l).length = h - l := by simp; omega
      have hm := Nat.mul_le_mul_right sz hh
      have hm2 := Nat.mul_le_mul_right sz hl
      have key := AR.s (loc := loc) (xs := (xs.take h).drop l) (b := b) (off := off + l * sz) (sz := sz) (cap := cap - l) g1 g2 (fun x hx => g3 x (List.mem_of_mem_take (List.mem_of_mem_drop hx))) (by omega) (by omega) (by
        have := (g6.take0 (h * sz)).drop0 (l * sz)
        rw [flat_take h g3, flat_drop l (fun x hx => g3 x (List.mem_of_mem_take hx)), List.take_take, Nat.min_eq_left hm] at this
        rw [hlen, Nat.sub_mul, ← List.drop_drop, ← List.drop_take]; exact this)
      rw [hlen] at key
      simpa [Addr.add_lit] using key

variable {σ : St} {o : Oper}

theorem slice_hi_ok {t e : Nat} {s b z} {ti : TI} {x y : Operand} {k : IntKind} {n : Int} {xs : List (List D)} (ho : o.op = .slice t x none (some y) none) (ht : te t = some ⟨.slice e, s, b, z⟩) (hte : te e = some ti)
    (hx : σ.ev x = some (.s xs)) (hy : σ.ev y = some (.v (.int k n))) (hn : 0 ≤ n) (hle : n.toNat ≤ xs.length) (hsz : ∀ x ∈ xs, x.length = ti.size) : OpV P σ o (.s (xs.take n.toNat)) := by
  refine OpV.of_val fun E a w Z loc fps R => ?_
  have h1 := R.ev hx
  generalize hax : a.eval x = vx at h1
  have hA : ∃ A len cap, vx = .slice A len cap ∧ len = xs.length ∧ len ≤ cap := by cases h1 <;> exact ⟨_, _, _, rfl, rfl, by first | assumption | simp⟩
  obtain ⟨A, len, cap, rfl, rfl, hc⟩ := hA
  have hb : (Instr.sliceBounds true xs.length cap none (some (a.eval y)) none).run P w = .ok (0, n.toNat, cap) w := by
    simp only [Instr.sliceBounds, Sem.run_bind, Sem.run_pure, Result.andThen_ok, run_bnd R hy hn cap (by omega)]
  refine ⟨_, ?_, AR.subS h1 (Nat.zero_le _) hle hsz⟩
  simp only [execOp, ho, hax, Option.map_none, Option.map_some, Sem.run_bind, run_slice' T ht hte hb, Result.andThen_ok, Sem.run_pure]

theorem slice_lo_ok {t e : Nat} {s b z} {ti : TI} {x y : Operand} {k : IntKind} {n : Int} {xs : List (List D)} (ho : o.op = .slice t x (some y) none none) (ht : te t = some ⟨.slice e, s, b, z⟩) (hte : te e = some ti)
    (hx : σ.ev x = some (.s xs)) (hy : σ.ev y = some (.v (.int k n))) (hn : 0 ≤ n) (hle : n.toNat ≤ xs.length) (hsz : ∀ x ∈ xs, x.length = ti.size) : OpV P σ o (.s (xs.drop n.toNat)) := by
  refine OpV.of_val fun E a w Z loc fps R => ?_
  have h1 := R.ev hx
  generalize hax : a.eval x = vx at h1
  have hA : ∃ A len cap, vx = .slice A len cap ∧ len = xs.length ∧ len ≤ cap := by cases h1 <;> exact ⟨_, _, _, rfl, rfl, by first | assumption | simp⟩
  obtain ⟨A, len, cap, rfl, rfl, hc⟩ := hA
  have hb : (Instr.sliceBounds true xs.length cap (some (a.eval y)) none none).run P w = .ok (n.toNat, xs.length, cap) w := by
    simp only [Instr.sliceBounds, Sem.run_bind, Sem.run_pure, Result.andThen_ok, run_bnd R hy hn xs.length hle]
  have h3 := AR.subS h1 hle (Nat.le_refl _) hsz
  rw [List.take_length] at h3
  refine ⟨_, ?_, h3⟩
  simp only [execOp, ho, hax, Option.map_none, Option.map_some, Sem.run_bind, run_slice' T ht hte hb, Result.andThen_ok, Sem.run_pure]

theorem slice_lh_ok {t e : Nat} {s b z} {ti : TI} {x y u : Operand} {k k' : IntKind} {n m : Int} {xs : List (List D)} (ho : o.op = .slice t x (some y) (some u) none) (ht : te t = some ⟨.slice e, s, b, z⟩) (hte : te e = some ti)
    (hx : σ.ev x = some (.s xs)) (hy : σ.ev y = some (.v (.int k n))) (hu : σ.ev u = some (.v (.int k' m))) (hn : 0 ≤ n) (hm : 0 ≤ m) (hnm : n.toNat ≤ m.toNat) (hle : m.toNat ≤ xs.length) (hsz : ∀ x ∈ xs, x.length = ti.size) : OpV P σ o (.s ((xs.take m.toNat).drop n.toNat)) := by
  refine OpV.of_val fun E a w Z loc fps R => ?_
  have h1 := R.ev hx
  generalize hax : a.eval x = vx at h1
  have hA : ∃ A len cap, vx = .slice A len cap ∧ len = xs.length ∧ len ≤ cap := by cases h1 <;> exact ⟨_, _, _, rfl, rfl, by first | assumption | simp⟩
  obtain ⟨A, len, cap, rfl, rfl, hc⟩ := hA
  have hb : (Instr.sliceBounds true xs.length cap (some (a.eval y)) (some (a.eval u)) none).run P w = .ok (n.toNat, m.toNat, cap) w := by
    simp only [Instr.sliceBounds, Sem.run_bind, Sem.run_pure, Result.andThen_ok, run_bnd R hy hn m.toNat hnm, run_bnd R hu hm cap (by omega)]
  refine ⟨_, ?_, AR.subS h1 hnm hle hsz⟩
  simp only [execOp, ho, hax, Option.map_none, Option.map_some, Sem.run_bind, run_slice' T ht hte hb, Result.andThen_ok, Sem.run_pure]

omit T in
theorem AR.subR {w Z loc id lo n A len cap} {L : Loc} {l h : Nat} (hA : AR w Z loc [] (.r id lo n) (.slice A len cap)) (hL : loc id = some L) (hl : l ≤ h) (hh : h ≤ n) :
    AR w Z loc [] (.r id (lo + l) (h - l)) (.slice (if cap = l then A else A.map (·.add (l * L.sz))) (h - l) (cap - l)) := by
  cases hA with
  | r g1 g2 g3 g4 g5 =>
    rw [hL] at g1; cases g1
    refine .r hL (by omega) (by omega) (by omega) ?_
    split
    · left; omega
    · right
      rcases g5 with g5 | rfl
      · omega
      · simp [Addr.add_lit, Nat.add_mul, Nat.add_assoc]

theorem slice_r_ok {t e : Nat} {s b z} {ti : TI} {x : Operand} {lo hi : Option Operand} {id p n l h : Nat} {xs : List (List D)} (ho : o.op = .slice t x lo hi none) (ht : te t = some ⟨.slice e, s, b, z⟩) (hte : te e = some ti)
    (hx : σ.evr x = some (.r id p n)) (hg : get σ.h id = some (.row ti.size xs)) (hlo : loN σ lo = some l) (hhi : hiN σ n hi = some h) (hlh : l ≤ h) (hhn : h ≤ n) : OpV P σ o (.r id (p + l) (h - l)) := by
  refine OpV.of_val fun E a w Z loc fps R => ?_
  have h1 := R.evr hx
  generalize hax : a.eval x = vx at h1
  obtain ⟨L, hL, e1, _⟩ := R.roots id _ ⟨hg, by simp⟩
  have hA : ∃ A len cap, vx = .slice A len cap ∧ len = n ∧ len ≤ cap := by cases h1; exact ⟨_, _, _, rfl, rfl, by assumption⟩
  obtain ⟨A, len, cap, rfl, rfl, hc⟩ := hA
  have hbnd : ∀ {y : Operand} {r : Nat}, bndN σ y = some r → ∃ k n, σ.ev y = some (.v (.int k n)) ∧ 0 ≤ n ∧ n.toNat = r := by
    intro y r hy
    unfold bndN at hy
    split at hy
    · rename_i k n hk
      cases hdec : decide (0 ≤ n)
      · simp [hdec] at hy
      · simp only [hdec, cond_true] at hy; cases hy; exact ⟨k, n, hk, of_decide_eq_true hdec, rfl⟩
    · cases hy
  have hb : (Instr.sliceBounds true len cap (lo.map a.eval) (hi.map a.eval) none).run P w = .ok (l, h, cap) w := by
    cases lo with
    | none =>
      cases hlo
      cases hi with
      | none => cases hhi; simp only [Instr.sliceBounds, Sem.run_bind, Sem.run_pure, Result.andThen_ok, Option.map_none]
      | some y => obtain ⟨k, n, h2, h3, rfl⟩ := hbnd hhi; simp only [Instr.sliceBounds, Sem.run_bind, Sem.run_pure, Result.andThen_ok, Option.map_none, Option.map_some, run_bnd R h2 h3 cap (by omega)]
    | some u =>
      obtain ⟨k', m, h4, h5, rfl⟩ := hbnd hlo
      cases hi with
      | none => cases hhi; simp only [Instr.sliceBounds, Sem.run_bind, Sem.run_pure, Result.andThen_ok, Option.map_none, Option.map_some, run_bnd R h4 h5 _ hlh]
      | some y => obtain ⟨k, n, h2, h3, rfl⟩ := hbnd hhi; simp only [Instr.sliceBounds, Sem.run_bind, Sem.run_pure, Result.andThen_ok, Option.map_none, Option.map_some, run_bnd R h2 h3 cap (by omega), run_bnd R h4 h5 n.toNat hlh]
  have h3 := AR.subR h1 hL hlh hhn
  rw [e1] at h3
  refine ⟨_, ?_, h3⟩
  simp only [execOp, ho, hax, Option.map_none, Sem.run_bind, run_slice' T ht hte hb, Result.andThen_ok, Sem.run_pure]

end
end Go.AM
end

section
namespace Go.AM

/-! literals of slices, make -/

def enumFrom : Nat → List (Nat × D) → Bool
  | _, [] => true
  | k, (i, _) :: l => Nat.beq i k && enumFrom (k + 1) l

def cellsAll : List (Nat × D) → Option (List (List D))
  | [] => some []
  | (_, d) :: l => match d.cells?, cellsAll l with | some c, some r => some (c :: r) | _, _ => none

theorem fill_all {w Z loc} {sz : Nat} : ∀ {ps : List (Nat × D)} {ps' : List (Nat × Value)} {xs : List (List D)} {k : Nat} {arr : Array Value} {ds : List D},
    All2 (fun (x : Nat × D) (y : Nat × Value) => x.1 = y.1 ∧ AR w Z loc [] x.2 y.2) ps ps' → enumFrom k ps = true → cellsAll ps = some xs → (∀ x ∈ xs, x.length = sz) → arr.size = (k + ps.length) * sz →
    ARL w Z loc [] ds (arr.toList.take (k * sz)) → ∃ arr', Instr.fill (fun i => some (i * sz, sz)) arr ps' = some arr' ∧ ARL w Z loc [] (ds ++ xs.flatten) arr'.toList := by
  intro ps
  induction ps with
  | nil =>
    intro ps' xs k arr ds hf _ hc _ hsz hds
    cases hf; simp only [cellsAll] at hc; cases hc
    refine ⟨arr, rfl, ?_⟩
    rw [List.take_of_length_le (by simp [hsz])] at hds
    simpa using hds
  | cons p ps ih =>
    intro ps' xs k arr ds hf hen hc hx hsz hds
    cases hf with
    | @cons _ y _ ys hxy hrest =>
      obtain ⟨i, d⟩ := p; obtain ⟨j, v⟩ := y
      obtain ⟨rfl, hd⟩ := hxy
      simp only [enumFrom, Bool.and_eq_true] at hen
      have hik : i = k := Nat.eq_of_beq_eq_true hen.1
      subst hik
      simp only [cellsAll] at hc
      split at hc
      · rename_i c r h1 h2
        cases hc
        have hcs := D.cells_rel h1 hd
        have hl : v.cells.size = sz := by have := hcs.length; rw [hx c (by simp)] at this; simpa using this.symm
        have hsz' : i * sz + sz ≤ arr.size := by
          rw [hsz, Nat.add_mul]; simp only [List.length_cons, Nat.succ_mul]; omega
        simp only [Instr.fill, hl]
        rw [if_neg (by simp; omega)]
        have hfs := foldl_splice v.cells.toList 0 (i * sz) arr (by simp; omega)
        have heq : (v.cells.zipIdx.foldl (fun cs (x : Value × Nat) => cs.setIfInBounds (i * sz + x.2) x.1) arr).toList = splice arr.toList (i * sz) v.cells.toList := by
          rw [← Array.foldl_toList, Array.toList_zipIdx]; simpa using hfs
        have hsize : (v.cells.zipIdx.foldl (fun cs (x : Value × Nat) => cs.setIfInBounds (i * sz + x.2) x.1) arr).size = arr.size := by
          have := congrArg List.length heq
          rw [splice_len _ _ _ (by simp; omega)] at this
          simpa using this
        have hrel : ARL w Z loc [] (ds ++ c) ((v.cells.zipIdx.foldl (fun cs (x : Value × Nat) => cs.setIfInBounds (i * sz + x.2) x.1) arr).toList.take ((i + 1) * sz)) := by
          rw [heq]
          have e : (splice arr.toList (i * sz) v.cells.toList).take ((i + 1) * sz) = arr.toList.take (i * sz) ++ v.cells.toList := by
            unfold splice
            rw [List.take_append, List.take_of_length_le (by simp [Nat.succ_mul]; omega)]
            rw [show (i + 1) * sz - (arr.toList.take (i * sz) ++ v.cells.toList).length = 0 by simp [Nat.succ_mul]; omega]
            simp
          rw [e]
          have := hds.append hcs
          simpa using this
        obtain ⟨arr', h3, h4⟩ := ih hrest hen.2 h2 (fun x hx' => hx x (by simp [hx'])) (by rw [hsize, hsz]; congr 1; simp; omega) hrel
        exact ⟨arr', h3, by simpa using h4⟩
      · cases hc

section
variable {P : Program} {te : TE} (T : TEok P te) {σ : St} {o : Oper}
include T

theorem mk0_ok {t e : Nat} {s b z} {ti : TI} (ho : o.op = .buildSlice t 0 #[]) (ht : te t = some ⟨.slice e, s, b, z⟩) (hte : te e = some ti) (hd : dstOk σ o = true) : OpOk P σ o (σ.put o.dst (.w ti.size [])) := by
  rintro E a w ⟨Z, loc, fps, R⟩
  have hu := und_slice T ht
  have hrun : (execOp a.eval o).run P w = .ok (.value (.slice (some ⟨w.heap.size, 0, none⟩) 0 0)) { w with heap := w.heap.push (.cells #[] e) } := by
    simp [execOp, ho, Instr.buildSlice, run_underlying hu, run_sizeOf' T hte, Instr.fill, newRow]
    congr 2
    apply Array.ext'; simp
  unfold Oper.wp
  rw [hrun]
  exact ⟨Z, loc, fps, (R.ext (alloc_ext w _)).put (dstOk_spec hd) .w0⟩

theorem mk_ok {t e len : Nat} {s b z} {ti : TI} {zv : Value} {parts : Array (Nat × Operand)} {ps : List (Nat × D)} {xs : List (List D)} (ho : o.op = .buildSlice t len parts) (id : Nat) (ht : te t = some ⟨.slice e, s, b, z⟩) (hte : te e = some ti) (hz : ti.zero = some zv)
    (hev : evAll σ parts.toList = some ps) (hen : enumFrom 0 ps = true) (hcs : cellsAll ps = some xs) (hlen : Nat.beq xs.length len = true) (hsz : ∀ x ∈ xs, x.length = ti.size) (hpl : xs.flatten.all D.plain = true) (hsmall : Nat.ble (len * ti.size) 16777216 = true) (hsmall' : Nat.ble len 16777216 = true)
    (hid : get σ.h id = none) (hd : dstOk σ o = true) : OpOk P σ o (St.put { σ with h := (id, .row ti.size xs) :: σ.h } o.dst (.R id)) := by
  rintro E a w ⟨Z, loc, fps, R⟩
  have hu := und_slice T ht
  have hlen := Nat.eq_of_beq_eq_true hlen
  have hsmall := Nat.le_of_ble_eq_true hsmall
  have hps := evAll_rel R.toRelV hev
  have hl2 : ∀ {ps : List (Nat × D)} {xs}, cellsAll ps = some xs → ps.length = xs.length := by
    intro ps
    induction ps with
    | nil => intro xs h; simp only [cellsAll] at h; cases h; rfl
    | cons p ps ih =>
      intro xs h
      simp only [cellsAll] at h
      split at h
      · rename_i h1 h2; cases h; simp [ih h2]
      · cases h
  obtain ⟨zero, hzero⟩ : ∃ zero : Array Value, zero = if len * ti.size = 0 then #[] else zv.cells := ⟨_, rfl⟩
  obtain ⟨arr', h1, h2⟩ := fill_all (sz := ti.size) (k := 0) (arr := (Array.range (len * ti.size)).map (zero[· % zero.size]!)) (ds := []) hps hen hcs hsz (by simp [hl2 hcs, hlen]) (by simpa using ARL.nil)
  have hrun : (execOp a.eval o).run P w = .ok (.value (.slice (some ⟨w.heap.size, 0, none⟩) len len)) { w with heap := w.heap.push (.cells arr' e) } := by
    have h1' : Instr.fill (fun i => some (i * ti.size, ti.size)) ((Array.range (len * ti.size)).map (zero[· % zero.size]!)) (parts.map fun (i, x) => (i, a.eval x)).toList = some arr' := by simpa using h1
    have hns : ¬ len * ti.size > 2 ^ 24 := by omega
    by_cases h0 : len * ti.size = 0
    · rw [if_pos h0] at hzero
      subst hzero
      simp only [execOp, ho, Instr.buildSlice, Sem.run_bind, run_underlying hu, Result.andThen_ok, run_sizeOf' T hte, if_neg hns, Sem.run_pure, if_pos h0, h1', newRow, run_newObj]
    · rw [if_neg h0] at hzero
      subst hzero
      simp only [execOp, ho, Instr.buildSlice, Sem.run_bind, run_underlying hu, Result.andThen_ok, run_sizeOf' T hte, if_neg hns, Sem.run_pure, if_neg h0, run_zeroValue' T hte hz, h1', newRow, run_newObj]
  unfold Oper.wp
  rw [hrun]
  have hfl : xs.flatten.length = arr'.size := by have := h2.length; simpa using this
  have R' := R.newRoot (id := id) hid (ρ := .row ti.size xs) (L := ⟨w.heap.size, 0, ti.size, len, len⟩) (o := .cells arr' e) rfl (by
    refine ⟨rfl, hsz, ⟨Nat.le_of_eq hlen, hlen.symm⟩, ?_, .inr ⟨[], arr', e, rfl, by simp, ?_, ?_⟩⟩
    · show len ≤ maxN
      have := Nat.le_of_ble_eq_true hsmall'
      unfold maxN; omega
    · simp only [Nat.zero_add]; rw [← hfl, flat_len hsz, hlen]; exact Nat.le_refl _
    · simp only [List.drop_zero]
      rw [List.take_of_length_le (by rw [Array.length_toList, ← hfl, flat_len hsz]; exact Nat.le_refl _)]
      have h2' : ARL w Z loc [] xs.flatten arr'.toList := by simpa using h2
      exact (h2'.plain hpl noLoc).mono (fun _ h => h) (fun _ _ h => h) (fun b hb => (alloc_ext w _).same b (hb.elim (R.zlt b) (fun h => by simp at h))))
  refine ⟨_, _, _, R'.put (dstOk_spec hd) (AR.R (L := ⟨w.heap.size, 0, ti.size, len, len⟩) (updL_self _ _ _) (Nat.le_refl _) ?_ (.inr rfl))⟩
  have := Nat.le_of_ble_eq_true hsmall'
  show len ≤ maxN
  unfold maxN; omega


omit T in
theorem madeList (z : Array Value) (n : Nat) : ((Array.range (n * z.size)).map (z[· % z.size]!)).toList = (List.replicate n z.toList).flatten := by
  apply List.ext_getElem?
  intro i
  have hrep : ∀ x ∈ List.replicate n z.toList, x.length = z.size := by intro x hx; rw [List.eq_of_mem_replicate hx]; simp
  have hlen : (List.replicate n z.toList).flatten.length = n * z.size := by rw [flat_len hrep]; simp
  by_cases hi : i < n * z.size
  · have hz : 0 < z.size := by rcases Nat.eq_zero_or_pos z.size with h | h; rw [h] at hi; simp at hi; exact h
    have hq : i / z.size < n := by rw [Nat.div_lt_iff_lt_mul hz]; exact hi
    have hg := flat_get (i := i / z.size) (cs := z.toList) hrep (by simp [hq])
    have h2 : (((List.replicate n z.toList).flatten.drop (i / z.size * z.size)).take z.size)[i % z.size]? = z.toList[i % z.size]? := by rw [hg]
    rw [List.getElem?_take, if_pos (Nat.mod_lt _ hz), List.getElem?_drop, Nat.mul_comm, Nat.div_add_mod] at h2
    rw [h2]
    have hm := Nat.mod_lt i hz
    simp [hi, hm]
  · rw [List.getElem?_eq_none (by simp; omega), List.getElem?_eq_none (by omega)]

theorem make_ok {t e : Nat} {s b z} {ti : TI} {zv : Value} {x y : Operand} {k k' : IntKind} {n : Int} (ho : o.op = .makeSlice t x y) (id : Nat) (ht : te t = some ⟨.slice e, s, b, z⟩) (hte : te e = some ti) (hz : ti.zero = some zv)
    (hone : zv.cells.toList.all (·.oneCell') = true) (hzs : zv.cells.size = ti.size) (hpl : (zv.cells.toList.map constCell).all D.plain = true) (hx : σ.ev x = some (.v (.int k n))) (hy : σ.ev y = some (.v (.int k' n))) (hn : 0 ≤ n) (hb : ti.bytes * n ≤ 2 ^ 48) (hm : n ≤ 9223372036854775807)
    (hid : get σ.h id = none) (hd : dstOk σ o = true) : OpOk P σ o (St.put { σ with h := (id, .row ti.size (List.replicate n.toNat (zv.cells.toList.map constCell))) :: σ.h } o.dst (.R id)) := by
  rintro E a w ⟨Z, loc, fps, R⟩
  have hu := und_slice T ht
  have h1 := R.ev hx; have h2 := R.ev hy
  generalize hax : a.eval x = vx at h1
  generalize hay : a.eval y = vy at h2
  cases h1; cases h2
  obtain ⟨inf, hinf, i1, i2, i3⟩ := run_typeInfo' T hte w
  have hw : IntKind.i64.wrap n = n := IntWalk.i64_in n ⟨by omega, hm⟩
  have hb' : ¬ ((2 : Int) ^ 48 < (ti.bytes : Int) * n) := by omega
  have hrun : (execOp a.eval o).run P w = .ok (.value (.slice (some ⟨w.heap.size, 0, none⟩) n.toNat n.toNat)) { w with heap := w.heap.push (.cells ((Array.range (n.toNat * zv.cells.size)).map (zv.cells[· % zv.cells.size]!)) e) } := by
    have htl : ∀ c : Prop, [Decidable c] → ¬ c → ((decide (n < 0) || decide c) : Bool) = false := by intro c _ hc; simp [hc]; omega
    by_cases h0 : n.toNat * ti.size = 0
    · have hemp : ((Array.range (n.toNat * zv.cells.size)).map (zv.cells[· % zv.cells.size]!)) = #[] := by rw [hzs, h0]; apply Array.ext'; simp
      rw [hemp]
      simp only [execOp, ho, hax, hay, Instr.makeSlice, Sem.run_bind, run_underlying hu, Result.andThen_ok, asInt, asIntOf, Sem.run_pure, hinf, hw, i2, run_askRoom, run_sizeOf' T hte]
      rw [if_neg (by simp; omega)]
      simp only [run_askRoom, Sem.run_bind, run_sizeOf' T hte, Sem.run_pure, Result.andThen_ok, h0, if_true, newRow, run_newObj]
      congr 4
      apply Array.ext'; simp
    · simp only [execOp, ho, hax, hay, Instr.makeSlice, Sem.run_bind, run_underlying hu, Result.andThen_ok, asInt, asIntOf, Sem.run_pure, hinf, hw, i2, run_askRoom, run_sizeOf' T hte]
      rw [if_neg (by simp; omega)]
      simp only [run_askRoom, Sem.run_bind, run_sizeOf' T hte, Sem.run_pure, Result.andThen_ok, h0, if_false, run_zeroValue' T hte hz, newRow, run_newObj, hzs]
  unfold Oper.wp
  rw [hrun]
  have hrep : ∀ x ∈ List.replicate n.toNat (zv.cells.toList.map constCell), x.length = ti.size := by intro x hx; rw [List.eq_of_mem_replicate hx]; simp [hzs]
  have hcells : ∀ n : Nat, ARL w Z noLoc [] (List.replicate n (zv.cells.toList.map constCell)).flatten (List.replicate n zv.cells.toList).flatten := by
    intro n
    induction n with
    | zero => simpa using ARL.nil
    | succ n ih =>
      simp only [List.replicate_succ, List.flatten_cons]
      have := (ARL.constCells (w := w) (Z := Z) (loc := noLoc) zv.cells.toList hone).append ih
      simpa using this
  have R' := R.newRoot (id := id) hid (ρ := .row ti.size (List.replicate n.toNat (zv.cells.toList.map constCell))) (L := ⟨w.heap.size, 0, ti.size, n.toNat, n.toNat⟩) (o := .cells ((Array.range (n.toNat * zv.cells.size)).map (zv.cells[· % zv.cells.size]!)) e) rfl (by
    refine ⟨rfl, hrep, by simp, ?_, .inr ⟨[], _, e, rfl, alloc_new w _, ?_, ?_⟩⟩
    · show n.toNat ≤ maxN
      unfold maxN; omega
    · simp [hzs]
    · simp only [List.drop_zero]
      rw [madeList, List.take_of_length_le (by rw [flat_len (sz := ti.size) (by intro x hx; rw [List.eq_of_mem_replicate hx]; simp [hzs])]; simp)]
      exact (hcells n.toNat).mono (fun _ h => h) (fun _ _ h => h) (fun b hb => (alloc_ext w _).same b (hb.elim (R.zlt b) (fun h => by simp at h))))
  exact ⟨_, _, _, R'.put (dstOk_spec hd) (AR.R (L := ⟨w.heap.size, 0, ti.size, n.toNat, n.toNat⟩) (updL_self _ _ _) (Nat.le_refl _) (by show n.toNat ≤ maxN; unfold maxN; omega) (.inr rfl))⟩

/-- a cell of a zero value -/
inductive ZC : Value → D → Prop
  | eq {v} : ZC v (constCell v)
  | v {v} : ZC v (.v v)
  | w {k} : ZC (.slice none 0 0) (.w k [])
  | s : ZC (.slice none 0 0) (.s [])
inductive ZL : List Value → List D → Prop
  | nil : ZL [] []
  | cons {v d vs ds} : ZC v d → ZL vs ds → ZL (v :: vs) (d :: ds)
omit T in
theorem ZL.rel {w Z loc} : ∀ {vs ds}, ZL vs ds → vs.all (·.oneCell') = true → ARL w Z loc [] ds vs := by
  intro vs
  induction vs with
  | nil => intro ds h _; cases h; exact .nil
  | cons v vs ih =>
    intro ds h ho
    simp only [List.all_cons, Bool.and_eq_true] at ho
    cases h with
    | cons h1 h2 =>
      refine .cons (fp := []) (fp' := []) ho.1 ?_ (ih h2 ho.2)
      cases h1 with
      | eq => exact AR.constCell v
      | v => exact .v
      | w => exact .w0
      | s => exact .s0
omit T in
theorem ZL.len : ∀ {vs ds}, ZL vs ds → ds.length = vs.length := by
  intro vs
  induction vs with
  | nil => intro ds h; cases h; rfl
  | cons v vs ih => intro ds h; cases h with | cons h1 h2 => simp [ih h2]

theorem make_z_ok {t e : Nat} {s b z} {ti : TI} {zv : Value} {x y : Operand} {k k' : IntKind} {n : Int} {zs : List D} (ho : o.op = .makeSlice t x y) (id : Nat) (ht : te t = some ⟨.slice e, s, b, z⟩) (hte : te e = some ti) (hz : ti.zero = some zv)
    (hone : zv.cells.toList.all (·.oneCell') = true) (hzs : zv.cells.size = ti.size) (hzl : ZL zv.cells.toList zs) (hx : σ.ev x = some (.v (.int k n))) (hy : σ.ev y = some (.v (.int k' n))) (hn : 0 ≤ n) (hb : ti.bytes * n ≤ 2 ^ 48) (hm : n ≤ 9223372036854775807)
    (hid : get σ.h id = none) (hd : dstOk σ o = true) : OpOk P σ o (St.put { σ with h := (id, .row ti.size (List.replicate n.toNat zs)) :: σ.h } o.dst (.R id)) := by
  rintro E a w ⟨Z, loc, fps, R⟩
  have hu := und_slice T ht
  have h1 := R.ev hx; have h2 := R.ev hy
  generalize hax : a.eval x = vx at h1
  generalize hay : a.eval y = vy at h2
  cases h1; cases h2
  obtain ⟨inf, hinf, i1, i2, i3⟩ := run_typeInfo' T hte w
  have hw : IntKind.i64.wrap n = n := IntWalk.i64_in n ⟨by omega, hm⟩
  have hb' : ¬ ((2 : Int) ^ 48 < (ti.bytes : Int) * n) := by omega
  have hrun : (execOp a.eval o).run P w = .ok (.value (.slice (some ⟨w.heap.size, 0, none⟩) n.toNat n.toNat)) { w with heap := w.heap.push (.cells ((Array.range (n.toNat * zv.cells.size)).map (zv.cells[· % zv.cells.size]!)) e) } := by
    have htl : ∀ c : Prop, [Decidable c] → ¬ c → ((decide (n < 0) || decide c) : Bool) = false := by intro c _ hc; simp [hc]; omega
    by_cases h0 : n.toNat * ti.size = 0
    · have hemp : ((Array.range (n.toNat * zv.cells.size)).map (zv.cells[· % zv.cells.size]!)) = #[] := by rw [hzs, h0]; apply Array.ext'; simp
      rw [hemp]
      simp only [execOp, ho, hax, hay, Instr.makeSlice, Sem.run_bind, run_underlying hu, Result.andThen_ok, asInt, asIntOf, Sem.run_pure, hinf, hw, i2, run_askRoom, run_sizeOf' T hte]
      rw [if_neg (by simp; omega)]
      simp only [run_askRoom, Sem.run_bind, run_sizeOf' T hte, Sem.run_pure, Result.andThen_ok, h0, if_true, newRow, run_newObj]
      congr 4
      apply Array.ext'; simp
    · simp only [execOp, ho, hax, hay, Instr.makeSlice, Sem.run_bind, run_underlying hu, Result.andThen_ok, asInt, asIntOf, Sem.run_pure, hinf, hw, i2, run_askRoom, run_sizeOf' T hte]
      rw [if_neg (by simp; omega)]
      simp only [run_askRoom, Sem.run_bind, run_sizeOf' T hte, Sem.run_pure, Result.andThen_ok, h0, if_false, run_zeroValue' T hte hz, newRow, run_newObj, hzs]
  unfold Oper.wp
  rw [hrun]
  have hrep : ∀ x ∈ List.replicate n.toNat zs, x.length = ti.size := by intro x hx; rw [List.eq_of_mem_replicate hx, ZL.len hzl]; simp [hzs]
  have hcells : ∀ n : Nat, ARL w Z noLoc [] (List.replicate n zs).flatten (List.replicate n zv.cells.toList).flatten := by
    intro n
    induction n with
    | zero => simpa using ARL.nil
    | succ n ih =>
      simp only [List.replicate_succ, List.flatten_cons]
      have := (hzl.rel (w := w) (Z := Z) (loc := noLoc) hone).append ih
      simpa using this
  have R' := R.newRoot (id := id) hid (ρ := .row ti.size (List.replicate n.toNat zs)) (L := ⟨w.heap.size, 0, ti.size, n.toNat, n.toNat⟩) (o := .cells ((Array.range (n.toNat * zv.cells.size)).map (zv.cells[· % zv.cells.size]!)) e) rfl (by
    refine ⟨rfl, hrep, by simp, ?_, .inr ⟨[], _, e, rfl, alloc_new w _, ?_, ?_⟩⟩
    · show n.toNat ≤ maxN
      unfold maxN; omega
    · simp [hzs]
    · simp only [List.drop_zero]
      rw [madeList, List.take_of_length_le (by rw [flat_len (sz := ti.size) (by intro x hx; rw [List.eq_of_mem_replicate hx]; simp [hzs])]; simp)]
      exact (hcells n.toNat).mono (fun _ h => h) (fun _ _ h => h) (fun b hb => (alloc_ext w _).same b (hb.elim (R.zlt b) (fun h => by simp at h))))
  exact ⟨_, _, _, R'.put (dstOk_spec hd) (AR.R (L := ⟨w.heap.size, 0, ti.size, n.toNat, n.toNat⟩) (updL_self _ _ _) (Nat.le_refl _) (by show n.toNat ≤ maxN; unfold maxN; omega) (.inr rfl))⟩

end
end Go.AM
end

section
namespace Go.AM

/-- the first cells of a slice value read as 'cs' wherever the heap is this one -/
def Firsts (P : Program) (heap : Array Obj) (sz m : Nat) (v : Value) (cs : List Value) : Prop := ∀ w : World, w.heap = heap → (Builtin.firstCells sz m v).run P w = .ok cs.toArray w

theorem firsts_some {P : Program} {w : World} {b off m sz c : Nat} {arr : Array Value} {el fz} (hb : w.heap[b]? = some (.cells arr el fz)) (hle : off + m * sz ≤ arr.size) :
    Firsts P w.heap sz m (.slice (some ⟨b, off, none⟩) m c) ((arr.toList.drop off).take (m * sz)) := by
  intro w' hw
  have hlen : ((arr.toList.drop off).take (m * sz)).length = m * sz := by simp; omega
  have := run_loadCells_list (P := P) w' ⟨b, off, none⟩ ((arr.toList.drop off).take (m * sz)) (fun j v hj => by
    rw [List.getElem?_take] at hj
    split at hj
    · rw [List.getElem?_drop] at hj
      rw [Addr.add_lit]
      simp only [World.cell?, hw, hb]
      simpa using hj
    · cases hj)
  rw [hlen] at this
  simpa [Builtin.firstCells] using this

theorem firsts_zero {P : Program} {heap : Array Obj} {sz c : Nat} {A : Option Addr} : Firsts P heap sz 0 (.slice A 0 c) [] := by
  intro w hw
  cases A with
  | none => simp [Builtin.firstCells]
  | some a => simp [Builtin.firstCells, loadCells, loadCellsFrom]

section
variable {P : Program} {te : TE} (T : TEok P te) {t tx ty e : Nat} {s b z} {ti : TI} {dx : TypeDesc} (ht : te t = some ⟨.slice e, s, b, z⟩) (hte : te e = some ti) (hux : P.underlying tx = some dx) (hdx : ∀ k, dx ≠ .int k)
include T ht hte hux hdx

theorem run_append_fit {w : World} {bk off n m cap c2 : Nat} {A2 : Option Addr} {arr : Array Value} {el} {new : List Value} (hb : w.heap[bk]? = some (.cells arr el (0, 0))) (hroom : n + m ≤ cap) (hsize : off + (n + m) * ti.size ≤ arr.size)
    (hnew : Firsts P w.heap ti.size m (.slice A2 m c2) new) (hlen : new.length = m * ti.size) (hone : ∀ v ∈ new, v.oneCell' = true) :
    (Builtin.append_ #[t, tx] ty #[.slice (some ⟨bk, off, none⟩) n cap, .slice A2 m c2]).run P w = .ok (.slice (some ⟨bk, off, none⟩) (n + m) cap) (w.setRow bk (splice arr.toList (off + n * ti.size) new).toArray) := by
  have hu := und_slice T ht
  have hz : (dx matches .int _) = false := by cases dx <;> first | rfl | exact absurd rfl (hdx _)
  have hst := run_storeCells_at (P := P) bk (off + n * ti.size) el new 0 arr w hb (by rw [hlen]; rw [Nat.add_mul] at hsize; omega) hone
  simp only [Builtin.append_, List.getElem?_toArray, List.getElem?_cons_zero, List.getElem?_cons_succ, Sem.run_bind, run_underlying hu, Result.andThen_ok, run_sizeOf' T hte, run_underlying hux, Sem.run_pure, hz, Bool.false_eq_true, if_false, Builtin.lenOf, hroom, if_true, Bool.not_false, hnew w rfl, Addr.add_lit]
  rw [show splice arr.toList (off + n * ti.size) new = List.take (off + n * ti.size + 0) arr.toList ++ new ++ List.drop (off + n * ti.size + 0 + new.length) arr.toList from rfl, hst]
  rfl

theorem run_append_none {w : World} {A A2 : Option Addr} {n cap c2 : Nat} (hroom : n ≤ cap) :
    (Builtin.append_ #[t, tx] ty #[.slice A n cap, .slice A2 0 c2]).run P w = .ok (.slice A n cap) w := by
  have hu := und_slice T ht
  have hz : (dx matches .int _) = false := by cases dx <;> first | rfl | exact absurd rfl (hdx _)
  have hn := firsts_zero (P := P) (heap := w.heap) (sz := ti.size) (A := A2) (c := c2) w rfl
  simp only [Builtin.append_, List.getElem?_toArray, List.getElem?_cons_zero, List.getElem?_cons_succ, Sem.run_bind, run_underlying hu, Result.andThen_ok, run_sizeOf' T hte, run_underlying hux, Sem.run_pure, hz, Bool.false_eq_true, if_false, Builtin.lenOf, Nat.add_zero, hroom, if_true, Bool.not_false, hn]
  cases A <;> rfl

omit T ht hte hux hdx in
theorem nextcap_le {need old : Nat} (h : old < need) : Builtin.nextslicecap need old ≤ 2 * need := by
  unfold Builtin.nextslicecap
  split
  · omega
  · split
    · omega
    · have : ∀ r c, c ≤ need + (need + 768) / 4 → Builtin.growBy need r c ≤ need + (need + 768) / 4 := by
        intro r
        induction r with
        | zero => intro c hc; simpa [Builtin.growBy] using hc
        | succ r ih =>
          intro c hc
          simp only [Builtin.growBy]
          split
          · exact hc
          · exact ih _ (by omega)
      have := this 4 old (by omega)
      omega

theorem run_append_grow {w : World} {A A2 : Option Addr} {n m cap c2 : Nat} {zv : Value} {old new : List Value} (hz0 : ti.zero = some zv) (hroom : cap < n + m) (hneed : n + m ≤ maxN) (hbytes : 2 * (n + m) * ti.bytes ≤ 2 ^ 48)
    (hold : Firsts P w.heap ti.size n (.slice A n cap) old) (hnew : Firsts P w.heap ti.size m (.slice A2 m c2) new) :
    ∃ newCap, n + m ≤ newCap ∧ newCap ≤ maxN ∧ (Builtin.append_ #[t, tx] ty #[.slice A n cap, .slice A2 m c2]).run P w =
      .ok (.slice (some ⟨w.heap.size, 0, none⟩) (n + m) newCap) { w with drawn := w.drawn + 1, heap := w.heap.push (.cells (old.toArray ++ new.toArray ++ Builtin.zeroCells zv.cells (newCap - (n + m))) e) } := by
  have hu := und_slice T ht
  have hz : (dx matches .int _) = false := by cases dx <;> first | rfl | exact absurd rfl (hdx _)
  obtain ⟨inf, hinf, i1, i2, i3⟩ := run_typeInfo' T hte w
  have hnc := nextcap_le hroom
  have h1 : ¬ (Builtin.nextslicecap (n + m) cap * inf.bytes > 2 ^ 48) := by
    rw [i2]
    have := Nat.mul_le_mul_right ti.bytes hnc
    omega
  have h2 : ¬ (((n + m : Nat) : Int) > IntKind.i64.max ∧ (False ∨ inf.bytes = 0)) := by
    unfold maxN at hneed
    rw [IntKind.max_i64]
    rintro ⟨h, _⟩
    omega
  have h3 : ¬ n + m ≤ cap := by omega
  let t0 := w.tape w.drawn (.appendCap (n + m) cap e)
  refine ⟨n + m + t0 % (2 ^ 63 - (n + m)), by omega, ?_, ?_⟩
  · have : t0 % (2 ^ 63 - (n + m)) < 2 ^ 63 - (n + m) := Nat.mod_lt _ (by unfold maxN at hneed; omega)
    unfold maxN at *; omega
  · obtain ⟨inf', hinf', j1, j2, j3⟩ := run_typeInfo' T hte { w with drawn := w.drawn + 1 }
    simp only [Builtin.append_, List.getElem?_toArray, List.getElem?_cons_zero, List.getElem?_cons_succ, Sem.run_bind, run_underlying hu, Result.andThen_ok, run_sizeOf' T hte, run_underlying hux, Sem.run_pure, hz, Bool.false_eq_true, if_false, Builtin.lenOf, h3]
    simp only [hinf, Result.andThen_ok, h2, if_false, Sem.run_pure, Sem.run_bind, h1, run_choose, Question.forced, Question.cut, Bool.false_eq_true, hinf', run_askRoom, hold { w with drawn := w.drawn + 1 } rfl, Bool.not_false, if_true, hnew { w with drawn := w.drawn + 1 } rfl, run_zeroValue' T hte hz0, newRow, run_newObj]
    rfl

end
end Go.AM
end

section
namespace Go.AM

structure Dest (σ : St) (w : World) (Z : Nat → Prop) (fps : Nat → List Nat) (ks : List Nat) (sz : Nat) (X : List (List D)) (A : Option Addr) (n cap : Nat) (bk off : Nat) (arr : Array Value) (el : TypeId) (fpX : List Nat) : Prop where
  addr : A = some ⟨bk, off, none⟩
  heap : w.heap[bk]? = some (.cells arr el (0, 0))
  room : off + cap * sz ≤ arr.size
  rel : ARL w Z noLoc fpX X.flatten ((arr.toList.drop off).take (n * sz))
  nodup : (bk :: fpX).Nodup
  mem : ∀ b ∈ bk :: fpX, ∃ id ρ, id ∈ ks ∧ σ.live id ρ ∧ b ∈ fps id

theorem flat_sizes {X ys : List (List D)} {sz : Nat} (hX : ∀ x ∈ X, x.length = sz) (hY : ∀ x ∈ ys, x.length = sz) : ∀ x ∈ X ++ ys, x.length = sz := by
  intro x hx; rcases List.mem_append.1 hx with h | h; exact hX x h; exact hY x h

theorem append_core {P : Program} {te : TE} (T : TEok P te) {t tx ty e : Nat} {s b z} {ti : TI} {dx : TypeDesc} {zv : Value} (ht : te t = some ⟨.slice e, s, b, z⟩) (hte : te e = some ti) (hux : P.underlying tx = some dx) (hdx : ∀ k, dx ≠ .int k) (hz0 : ti.zero = some zv) (hzs : zv.cells.size = ti.size)
    {E σ a w Z loc fps} (R : Rel E σ a w Z loc fps) {ks : List Nat} {id' : Nat} (hid' : get σ.h id' = none) {X ys : List (List D)} {A A2 : Option Addr} {n m cap c2 : Nat} {new : List Value} {fpY : List Nat}
    (hX : ∀ x ∈ X, x.length = ti.size) (hXn : X.length = n) (hY : ∀ x ∈ ys, x.length = ti.size) (hYm : ys.length = m) (hn : n ≤ cap) (hcap : cap ≤ maxN) (hneed : n + m ≤ maxN) (hbytes : 2 * (n + m) * ti.bytes ≤ 2 ^ 48)
    (hdest : (cap = 0 ∧ n = 0) ∨ ∃ bk off arr el fpX, Dest σ w Z fps ks ti.size X A n cap bk off arr el fpX ∧ (∀ b ∈ fpY, b ∉ bk :: fpX))
    (hfirst : Firsts P w.heap ti.size m (.slice A2 m c2) new) (hnew : ARL w Z noLoc fpY ys.flatten new) (hYnd : fpY.Nodup) (hYmem : ∀ b ∈ fpY, ∃ id ρ, id ∈ ks ∧ σ.live id ρ ∧ b ∈ fps id) :
    ∃ v w' loc' fps', (Builtin.append_ #[t, tx] ty #[.slice A n cap, .slice A2 m c2]).run P w = .ok v w' ∧
      Rel E { σ with h := (id', .row ti.size (X ++ ys)) :: kill ks σ.h } a w' Z loc' fps' ∧ AR w' Z loc' [] (.R id') v := by
  have hnl : new.length = m * ti.size := by have := hnew.length; rw [flat_len hY, hYm] at this; exact this.symm
  have hfl : ∀ w' : World, (∀ b, Z b ∨ b ∈ fpY → w'.heap[b]? = w.heap[b]?) → ARL w' Z noLoc fpY ys.flatten new := fun w' h => hnew.mono (fun _ h => h) (fun _ _ h => h) h
  have hlenXY : (X ++ ys).length = n + m := by simp [hXn, hYm]
  have hflat : (X ++ ys).flatten = X.flatten ++ ys.flatten := by simp
  have ownY : ∀ b ∈ fpY, b < w.heap.size := fun b hb => by obtain ⟨id, ρ, _, h1, h2⟩ := hYmem b hb; exact (R.owned id ρ b h1 h2).2.1
  by_cases hm : m = 0
  · -- nothing is appended
    subst hm
    have hys : ys = [] := List.eq_nil_of_length_eq_zero hYm
    subst hys
    have hfp : fpY = [] := by cases hnew; rfl
    subst hfp
    rw [List.append_nil]
    rcases hdest with ⟨hc0, hn0⟩ | ⟨bk, off, arr, el, fpX, hD, _⟩
    · subst hc0 hn0
      have hX0 : X = [] := List.eq_nil_of_length_eq_zero hXn
      subst hX0
      refine ⟨_, w, _, _, run_append_none T ht hte hux hdx hn, Rel.setRoot (ks := ks) (L0 := ⟨0, 0, ti.size, 0, 0⟩) (fp0 := []) R (Nat.le_refl _) (fun _ _ _ => rfl) (fun _ _ => rfl) rfl rfl ⟨rfl, Nat.le_refl _⟩ (by simp) (by simp) (.inl (R.fresh id' hid')) (fun _ h => h) (fun _ h => .inl h) ?_, ?_⟩
      · exact ⟨rfl, by simp, by simp, by simp, .inl ⟨rfl, rfl⟩⟩
      · exact AR.R (L := ⟨0, 0, ti.size, 0, 0⟩) (updL_self _ _ _) (Nat.le_refl _) (by simp) (.inl rfl)
    · refine ⟨_, w, _, _, run_append_none T ht hte hux hdx hn, Rel.setRoot (ks := ks) (L0 := ⟨bk, off, ti.size, cap, n⟩) (fp0 := bk :: fpX) R (Nat.le_refl _) (fun _ _ _ => rfl) (fun _ _ => rfl) rfl rfl ⟨rfl, Nat.le_refl _⟩ ?_ hD.nodup (.inl (R.fresh id' hid')) (fun _ h => h) (fun _ h => .inl h) ?_, ?_⟩
      · intro b hb
        obtain ⟨id, ρ, h1, h2, h3⟩ := hD.mem b hb
        exact ⟨(R.owned id ρ b h2 h3).2.1, .inr ⟨id, ρ, .inr h1, h2, h3⟩⟩
      · exact ⟨rfl, hX, ⟨by rw [hXn]; exact hn, hXn.symm⟩, hcap, .inr ⟨fpX, arr, el, rfl, hD.heap, hD.room, by rw [hXn]; exact hD.rel⟩⟩
      · rw [hD.addr]
        exact AR.R (L := ⟨bk, off, ti.size, cap, n⟩) (updL_self _ _ _) hn hcap (.inr rfl)
  · by_cases hfit : n + m ≤ cap
    · -- in place
      rcases hdest with ⟨hc0, hn0⟩ | ⟨bk, off, arr, el, fpX, hD, hdisj⟩
      · omega
      · have hsz : (n + m) * ti.size ≤ cap * ti.size := Nat.mul_le_mul_right _ hfit
        have hroom := hD.room
        have hmul : (n + m) * ti.size = n * ti.size + m * ti.size := Nat.add_mul ..
        have hrun := run_append_fit (off := off) (n := n) (m := m) (cap := cap) T ht hte hux hdx (ty := ty) (A2 := A2) (c2 := c2) hD.heap hfit (by omega) hfirst hnl hnew.one
        obtain ⟨idb, ρb, hb1, hb2, hb3⟩ := hD.mem bk (by simp)
        have hbZ := (R.owned idb ρb bk hb2 hb3)
        have hother : ∀ b, b ≠ bk → (w.setRow bk (splice arr.toList (off + n * ti.size) new).toArray).heap[b]? = w.heap[b]? := fun b h => setRow_heap_other _ _ _ _ h
        have hheap' := setRow_heap w bk arr (splice arr.toList (off + n * ti.size) new).toArray el _ hD.heap
        have hsize' : (w.setRow bk (splice arr.toList (off + n * ti.size) new).toArray).heap.size = w.heap.size := setRow_size _ _ _
        have hshape' := setRow_shape (cs := (splice arr.toList (off + n * ti.size) new).toArray) hD.heap (by rw [List.size_toArray, splice_len _ _ _ (by rw [hnl]; simp; omega)]; simp)
        have hos' : (w.setRow bk (splice arr.toList (off + n * ti.size) new).toArray).os = w.os := rfl
        have hout' : (w.setRow bk (splice arr.toList (off + n * ti.size) new).toArray).output = w.output := rfl
        have htape' : (w.setRow bk (splice arr.toList (off + n * ti.size) new).toArray).tape = w.tape ∧ w.drawn ≤ (w.setRow bk (splice arr.toList (off + n * ti.size) new).toArray).drawn := ⟨rfl, Nat.le_refl _⟩
        rw [hD.addr]
        generalize w.setRow bk (splice arr.toList (off + n * ti.size) new).toArray = w1 at *
        refine ⟨_, w1, _, _, hrun, Rel.setRoot (ks := ks) (L0 := ⟨bk, off, ti.size, cap, n + m⟩) (fp0 := bk :: (fpX ++ fpY)) R (Nat.le_of_eq hsize'.symm) ?_ hshape' hos' hout' htape' ?_ ?_ (.inl (R.fresh id' hid')) (fun _ h => h) (fun _ h => .inl h) ?_, ?_⟩
        · intro b hb hn'
          refine hother b fun e => ?_
          subst e
          exact hn' idb ρb (.inr hb1) hb2 hb3
        · intro b hb
          rw [hsize']
          have : ∃ id ρ, id ∈ ks ∧ σ.live id ρ ∧ b ∈ fps id := by
            rcases List.mem_cons.1 hb with h | h
            · exact hD.mem b (h ▸ List.mem_cons_self ..)
            · rcases List.mem_append.1 h with h | h
              · exact hD.mem b (List.mem_cons_of_mem _ h)
              · exact hYmem b h
          obtain ⟨id, ρ, h1, h2, h3⟩ := this
          exact ⟨(R.owned id ρ b h2 h3).2.1, .inr ⟨id, ρ, .inr h1, h2, h3⟩⟩
        · rw [← List.cons_append]
          exact List.nodup_append.2 ⟨hD.nodup, hYnd, fun x hx y hy e => by subst e; exact hdisj x hy hx⟩
        · refine ⟨rfl, flat_sizes hX hY, ⟨by rw [hlenXY]; exact hfit, hlenXY.symm⟩, hcap, .inr ⟨fpX ++ fpY, _, el, rfl, hheap', ?_, ?_⟩⟩
          · have : (splice arr.toList (off + n * ti.size) new).length = arr.size := by rw [splice_len _ _ _ (by rw [hnl]; simp; omega)]; simp
            simp only [List.size_toArray, this]; exact hroom
          · rw [hlenXY, hflat]
            have hs : ((splice arr.toList (off + n * ti.size) new).drop off).take ((n + m) * ti.size) = (arr.toList.drop off).take (n * ti.size) ++ new := by
              rw [splice_drop_take _ _ _ _ _ (by simp; omega) (by rw [hnl]; omega)]
              unfold splice
              have e3 : List.drop (n * ti.size + new.length) (List.take ((n + m) * ti.size) (List.drop off arr.toList)) = [] := List.drop_of_length_le (by rw [List.length_take, hnl]; omega)
              rw [e3, List.take_take, Nat.min_eq_left (by omega), List.append_nil]
            show ARL _ _ _ _ _ (List.take _ (List.drop _ (splice arr.toList (off + n * ti.size) new).toArray.toList))
            simp only [hs]
            refine ARL.append (hD.rel.mono (fun _ h => h) (fun _ _ h => h) fun b hb => hother b fun e => ?_) (hfl _ fun b hb => hother b fun e => ?_)
            · subst e; exact hb.elim hbZ.1 (List.nodup_cons.1 hD.nodup).1
            · subst e; exact hb.elim hbZ.1 fun h => hdisj b h (List.mem_cons_self ..)
        · exact AR.R (L := ⟨bk, off, ti.size, cap, n + m⟩) (updL_self _ _ _) hfit hcap (.inr rfl)
    · -- a new array
      have hgr : cap < n + m := by omega
      obtain ⟨old, fpX, hold, hrelX, hndX, hmemX, hdisjX⟩ : ∃ old fpX, Firsts P w.heap ti.size n (.slice A n cap) old ∧ ARL w Z noLoc fpX X.flatten old ∧ fpX.Nodup ∧ (∀ b ∈ fpX, ∃ id ρ, id ∈ ks ∧ σ.live id ρ ∧ b ∈ fps id) ∧ (∀ b ∈ fpY, b ∉ fpX) := by
        rcases hdest with ⟨hc0, hn0⟩ | ⟨bk, off, arr, el, fpX, hD, hdisj⟩
        · subst hn0
          have hX0 : X = [] := List.eq_nil_of_length_eq_zero hXn
          subst hX0
          exact ⟨[], [], firsts_zero, by simpa using ARL.nil, by simp, by simp, by simp⟩
        · rw [hD.addr]
          have := Nat.mul_le_mul_right ti.size hn
          exact ⟨_, fpX, firsts_some hD.heap (by have := hD.room; omega), hD.rel, (List.nodup_cons.1 hD.nodup).2, fun b hb => hD.mem b (List.mem_cons_of_mem _ hb), fun b hb h => hdisj b hb (List.mem_cons_of_mem _ h)⟩
      obtain ⟨newCap, hc1, hc2, hrun⟩ := run_append_grow T ht hte hux hdx (ty := ty) (w := w) hz0 hgr hneed hbytes hold hfirst
      have hol : old.length = n * ti.size := by have := hrelX.length; rw [flat_len hX, hXn] at this; exact this.symm
      have hmul : (n + m) * ti.size = n * ti.size + m * ti.size := Nat.add_mul ..
      let obj : Obj := .cells (old.toArray ++ new.toArray ++ Builtin.zeroCells zv.cells (newCap - (n + m))) e
      have hX1 : Ext w { w with drawn := w.drawn + 1, heap := w.heap.push obj } := ⟨by simp, fun b hb => by simp [Array.getElem?_push, Nat.ne_of_lt hb], rfl, rfl, rfl, Nat.le_succ _⟩
      have ownX : ∀ b ∈ fpX, b < w.heap.size := fun b hb => by obtain ⟨id, ρ, _, h1, h2⟩ := hmemX b hb; exact (R.owned id ρ b h1 h2).2.1
      have hother : ∀ b, b < w.heap.size → ({ w with drawn := w.drawn + 1, heap := w.heap.push obj } : World).heap[b]? = w.heap[b]? := hX1.same
      have hheap' : ({ w with drawn := w.drawn + 1, heap := w.heap.push obj } : World).heap[w.heap.size]? = some obj := by simp
      have hsz' : ({ w with drawn := w.drawn + 1, heap := w.heap.push obj } : World).heap.size = w.heap.size + 1 := by simp
      have hgrow := hX1.size
      have hshape' := hX1.shape
      have hos' := hX1.os; have hout' := hX1.output; have htape' := hX1.tape
      have hobj : obj = .cells (old.toArray ++ new.toArray ++ Builtin.zeroCells zv.cells (newCap - (n + m))) e := rfl
      generalize ({ w with drawn := w.drawn + 1, heap := w.heap.push obj } : World) = w1 at *
      refine ⟨_, w1, _, _, hrun, Rel.setRoot (ks := ks) (L0 := ⟨w.heap.size, 0, ti.size, newCap, n + m⟩) (fp0 := w.heap.size :: (fpX ++ fpY)) R hgrow (fun b hb _ => hother b hb) hshape' hos' hout' htape' ?_ ?_ (.inl (R.fresh id' hid')) (fun _ h => h) (fun _ h => .inl h) ?_, ?_⟩
      · intro b hb
        rw [hsz']
        rcases List.mem_cons.1 hb with h | h
        · exact ⟨by omega, .inl (by omega)⟩
        · have : ∃ id ρ, id ∈ ks ∧ σ.live id ρ ∧ b ∈ fps id := by
            rcases List.mem_append.1 h with h | h
            · exact hmemX b h
            · exact hYmem b h
          obtain ⟨id, ρ, h1, h2, h3⟩ := this
          exact ⟨Nat.lt_succ_of_lt (R.owned id ρ b h2 h3).2.1, .inr ⟨id, ρ, .inr h1, h2, h3⟩⟩
      · refine List.nodup_cons.2 ⟨fun h => ?_, List.nodup_append.2 ⟨hndX, hYnd, fun x hx y hy e => by subst e; exact hdisjX x hy hx⟩⟩
        rcases List.mem_append.1 h with h | h
        · have := ownX _ h; omega
        · have := ownY _ h; omega
      · refine ⟨rfl, flat_sizes hX hY, ⟨by rw [hlenXY]; exact hc1, hlenXY.symm⟩, hc2, .inr ⟨fpX ++ fpY, _, e, rfl, hheap'.trans (congrArg some hobj), ?_, ?_⟩⟩
        · have : newCap * ti.size = (n + m) * ti.size + (newCap - (n + m)) * ti.size := by rw [← Nat.add_mul]; congr 1; omega
          simp only [Array.size_append, List.size_toArray, size_zeroCells, hol, hnl, hzs, Nat.zero_add]
          omega
        · rw [hlenXY, hflat]
          simp only [List.drop_zero, Array.toList_append, List.append_assoc]
          have e1 : List.take ((n + m) * ti.size) (old ++ (new ++ (Builtin.zeroCells zv.cells (newCap - (n + m))).toList)) = old ++ new := by
            rw [← List.append_assoc, List.take_append, List.take_of_length_le (by simp [hol, hnl]; omega), show (n + m) * ti.size - (old ++ new).length = 0 by simp [hol, hnl]; omega]
            simp
          rw [e1]
          exact ARL.append (hrelX.mono (fun _ h => h) (fun _ _ h => h) fun b hb => hother b (hb.elim (R.zlt b) (ownX b))) (hfl _ fun b hb => hother b (hb.elim (R.zlt b) (ownY b)))
      · exact AR.R (L := ⟨w.heap.size, 0, ti.size, newCap, n + m⟩) (updL_self _ _ _) hc1 hc2 (.inr rfl)

end Go.AM
end

section
namespace Go.AM

theorem ARL.window {w Z loc fp} {sz base : Nat} {arr : Array Value} {xs : List (List D)} (h : ARL w Z loc fp xs.flatten ((arr.toList.drop base).take (xs.length * sz))) (hsz : ∀ x ∈ xs, x.length = sz) {lo n : Nat} (hle : lo + n ≤ xs.length) :
    ∃ fpX, List.Sublist fpX fp ∧ ARL w Z loc fpX ((xs.drop lo).take n).flatten ((arr.toList.drop (base + lo * sz)).take (n * sz)) := by
  have hl := h.length
  rw [flat_len hsz] at hl
  have e : xs.flatten = (xs.take lo).flatten ++ (((xs.drop lo).take n).flatten ++ (xs.drop (lo + n)).flatten) := by
    conv => lhs; rw [← List.take_append_drop lo xs, ← List.take_append_drop n (xs.drop lo), List.drop_drop]
    simp
  rw [e] at h
  obtain ⟨fp1, fp2, vs1, vs2, rfl, hv, h1, h2⟩ := h.split
  obtain ⟨fp3, fp4, vs3, vs4, rfl, rfl, h3, h4⟩ := h2.split
  have l1 := h1.length; have l3 := h3.length
  rw [flat_len (sz := sz) (fun x hx => hsz x (List.mem_of_mem_take hx)), List.length_take, Nat.min_eq_left (by omega)] at l1
  rw [flat_len (sz := sz) (fun x hx => hsz x (List.mem_of_mem_drop (List.mem_of_mem_take hx))), List.length_take, List.length_drop, Nat.min_eq_left (by omega)] at l3
  refine ⟨fp3, ?_, ?_⟩
  · exact List.Sublist.trans (List.sublist_append_left fp3 fp4) (List.sublist_append_right fp1 _)
  · have hm : (lo + n) * sz ≤ xs.length * sz := Nat.mul_le_mul_right _ hle
    rw [Nat.add_mul] at hm
    have : (arr.toList.drop (base + lo * sz)).take (n * sz) = vs3 := by
      have this : ((List.take (xs.length * sz) (List.drop base arr.toList)).drop (lo * sz)).take (n * sz) = ((vs1 ++ (vs3 ++ vs4)).drop (lo * sz)).take (n * sz) := by rw [hv]
      rw [List.drop_take, List.drop_drop, List.take_take, Nat.min_eq_left (by omega)] at this
      rw [this, List.drop_append, List.drop_of_length_le (by omega), show lo * sz - vs1.length = 0 by omega, List.nil_append, List.drop_zero, List.take_append, List.take_of_length_le (by omega), show n * sz - vs3.length = 0 by omega]
      simp
    rw [this]; exact h3

/-- The source of an append. -/
structure Src (P : Program) (σ : St) (w : World) (Z : Nat → Prop) (fps : Nat → List Nat) (ks : List Nat) (sz : Nat) (ys : List (List D)) (m : Nat) (v : Value) where
  A : Option Addr
  c : Nat
  new : List Value
  fpY : List Nat
  val : v = .slice A m c
  len : ys.length = m
  sizes : ∀ x ∈ ys, x.length = sz
  first : Firsts P w.heap sz m (.slice A m c) new
  rel : ARL w Z noLoc fpY ys.flatten new
  nodup : fpY.Nodup
  mem : ∀ b ∈ fpY, ∃ id ρ, id ∈ ks ∧ σ.live id ρ ∧ b ∈ fps id

def D.imm? : D → Option (List (List D))
  | .s ys => some ys
  | .w _ [] => some []
  | _ => none

theorem Rel.srcS {P : Program} {E σ a w Z loc fps} (R : Rel E σ a w Z loc fps) {d : D} {v : Value} {ys : List (List D)} {sz : Nat} (ks : List Nat) (hpos : 0 < sz) (hd : d.imm? = some ys) (hsz : ∀ x ∈ ys, x.length = sz) (h : AR w Z loc [] d v) :
    ∃ S : Src P σ w Z fps ks sz ys ys.length v, S.fpY = [] := by
  generalize hfp : ([] : List Nat) = fp at h
  cases h with
  | s0 => simp only [D.imm?] at hd; cases hd; exact ⟨⟨_, _, [], [], rfl, rfl, hsz, firsts_zero, by simpa using ARL.nil, by simp, by simp⟩, rfl⟩
  | @s _ xs b off sz' arr el fz cap h1 h2 h3 h4 h5 h6 =>
    have hd : xs = ys := by simpa [D.imm?] using hd
    subst hd
    by_cases hxs : xs = []
    · subst hxs; exact ⟨⟨_, _, [], [], rfl, rfl, hsz, firsts_zero, by simpa using ARL.nil, by simp, by simp⟩, rfl⟩
    · have hss : sz' = sz := by
        cases xs with
        | nil => exact absurd rfl hxs
        | cons x xs => rw [← h3 x (by simp), hsz x (by simp)]
      subst hss
      have hl := h6.length
      rw [flat_len h3, List.length_take, List.length_drop] at hl
      refine ⟨⟨_, _, _, [], rfl, rfl, hsz, firsts_some h2 ?_, h6, by simp, by simp⟩, rfl⟩
      simp only [Array.length_toList] at hl
      have : 0 < xs.length * sz' := Nat.mul_pos (List.length_pos_iff.2 hxs) hpos
      omega
  | w0 => simp only [D.imm?] at hd; cases hd; exact ⟨⟨_, _, [], [], rfl, rfl, hsz, firsts_zero, by simpa using ARL.nil, by simp, by simp⟩, rfl⟩
  | w => cases hfp
  | _ => simp [D.imm?] at hd


theorem Rel.srcR {P : Program} {E σ a w Z loc fps} (R : Rel E σ a w Z loc fps) {id lo m sz : Nat} {v : Value} {xs : List (List D)} {ks : List Nat} (hk : id ∈ ks) (hg : get σ.h id = some (.row sz xs)) (hle : lo + m ≤ xs.length) (h : AR w Z loc [] (.r id lo m) v) :
    ∃ S : Src P σ w Z fps ks sz ((xs.drop lo).take m) m v, ∀ b ∈ S.fpY, b ∈ fps id := by
  obtain ⟨L, hL, e1, e2, e3, e4, h3⟩ := R.roots id _ ⟨hg, by simp⟩
  have hnd := R.nodup id _ ⟨hg, by simp⟩
  have hsz : ∀ x ∈ (xs.drop lo).take m, x.length = sz := fun x hx => e2 x (List.mem_of_mem_drop (List.mem_of_mem_take hx))
  have hlen : ((xs.drop lo).take m).length = m := by simp; omega
  cases h with
  | @r _ _ _ _ L' cap A g1 g2 g3 g4 g5 =>
    rw [hL] at g1; cases g1
    by_cases hm : m = 0
    · subst hm
      rw [List.take_zero]
      exact ⟨⟨A, cap, [], [], rfl, rfl, by simp, firsts_zero, by simpa using ARL.nil, by simp, by simp⟩, by simp⟩
    · rcases h3 with ⟨h3, _⟩ | ⟨fpN, arr, el, e5, h4, h5, h6⟩
      · omega
      · rcases g5 with g5 | rfl
        · omega
        · obtain ⟨fpX, hsub, hrel⟩ := h6.window e2 hle
          rw [e5] at hnd
          have hmem : ∀ b ∈ fpX, b ∈ fps id := fun b hb => by rw [e5]; exact List.mem_cons_of_mem _ (hsub.subset hb)
          have : (lo + m) * sz ≤ L.tot * sz := Nat.mul_le_mul_right _ (by omega)
          rw [Nat.add_mul] at this
          refine ⟨⟨_, cap, _, fpX, rfl, hlen, hsz, ?_, hrel, List.Nodup.sublist hsub (List.nodup_cons.1 hnd).2, fun b hb => ⟨id, _, hk, ⟨hg, by simp⟩, hmem b hb⟩⟩, hmem⟩
          rw [e1]
          exact firsts_some h4 (by omega)

theorem Rel.destR {E σ a w Z loc fps} (R : Rel E σ a w Z loc fps) {id lo n sz : Nat} {v : Value} {xs : List (List D)} {ks : List Nat} (hk : id ∈ ks) (hg : get σ.h id = some (.row sz xs)) (hle : lo + n ≤ xs.length) (h : AR w Z loc [] (.r id lo n) v) :
    ∃ A cap, v = .slice A n cap ∧ n ≤ cap ∧ cap ≤ maxN ∧ (∀ x ∈ (xs.drop lo).take n, x.length = sz) ∧ ((xs.drop lo).take n).length = n ∧
      ((cap = 0 ∧ n = 0) ∨ ∃ bk off arr el fpX, Dest σ w Z fps ks sz ((xs.drop lo).take n) A n cap bk off arr el fpX ∧ ∀ b ∈ bk :: fpX, b ∈ fps id) := by
  obtain ⟨L, hL, e1, e2, e3, e4, h3⟩ := R.roots id _ ⟨hg, by simp⟩
  have hnd := R.nodup id _ ⟨hg, by simp⟩
  have hsz : ∀ x ∈ (xs.drop lo).take n, x.length = sz := fun x hx => e2 x (List.mem_of_mem_drop (List.mem_of_mem_take hx))
  have hlen : ((xs.drop lo).take n).length = n := by simp; omega
  cases h with
  | @r _ _ _ _ L' cap A g1 g2 g3 g4 g5 =>
    rw [hL] at g1; cases g1
    refine ⟨A, cap, rfl, g2, g4, hsz, hlen, ?_⟩
    rcases g5 with g5 | rfl
    · left; omega
    · rcases h3 with ⟨h3, _⟩ | ⟨fpN, arr, el, e5, h4, h5, h6⟩
      · left; omega
      · right
        obtain ⟨fpX, hsub, hrel⟩ := h6.window e2 hle
        rw [e5] at hnd
        have hmem : ∀ b ∈ L.b :: fpX, b ∈ fps id := fun b hb => by rw [e5]; exact (hsub.cons_cons _).subset hb
        have : (lo + cap) * sz ≤ L.tot * sz := Nat.mul_le_mul_right _ g3
        rw [Nat.add_mul] at this
        refine ⟨L.b, L.base + lo * sz, arr, el, fpX, ⟨by rw [e1], h4, by omega, hrel, List.Nodup.sublist (hsub.cons_cons _) hnd, fun b hb => ⟨id, _, hk, ⟨hg, by simp⟩, hmem b hb⟩⟩, hmem⟩

section
variable {P : Program} {te : TE} (T : TEok P te) {σ : St} {o : Oper} {t tx e e2 : Nat} {s b z s2 b2 z2} {ti : TI} {zv : Value} {x y : Operand}
include T

/-- append(x, y...): the target an owned row (or a part of it), the source a slice that is only read -/
theorem app_rs_ok {id lo n m : Nat} {xs ys : List (List D)} {d : D} (ho : o.op = .call { callee := .builtin .append, args := #[x, y], argTypes := #[t, tx] }) (id' : Nat)
    (ht : te t = some ⟨.slice e, s, b, z⟩) (htx : te tx = some ⟨.slice e2, s2, b2, z2⟩) (hte : te e = some ti) (hz0 : ti.zero = some zv) (hzs : zv.cells.size = ti.size) (hpos : 0 < ti.size)
    (hx : σ.evr x = some (.r id lo n)) (hg : get σ.h id = some (.row ti.size xs)) (hle : lo + n ≤ xs.length) (hy : σ.ev y = some d) (hd' : d.imm? = some ys) (hys : ∀ x ∈ ys, x.length = ti.size) (hm : ys.length = m)
    (hneed : n + m ≤ maxN) (hbytes : 2 * (n + m) * ti.bytes ≤ 2 ^ 48) (hid : get σ.h id' = none) (hd : dstOk σ o = true) :
    OpOk P σ o (St.put { σ with h := (id', .row ti.size ((xs.drop lo).take n ++ ys)) :: kill [id] σ.h } o.dst (.R id')) := by
  rintro E a w ⟨Z, loc, fps, R⟩
  obtain ⟨A, cap, hv, h1, h2, h3, h4, h5⟩ := R.destR (ks := [id]) (by simp) hg hle (R.evr hx)
  obtain ⟨S, hS⟩ := R.srcS (P := P) [id] hpos hd' hys (R.ev hy)
  subst hm
  obtain ⟨v, w', loc', fps', hrun, R', hA⟩ := append_core T (ty := o.type) ht hte (und_slice T htx) (by intro k h; cases h) hz0 hzs R (ks := [id]) hid h3 h4 hys rfl h1 h2 hneed hbytes
    (h5.imp (fun h => h) fun ⟨bk, off, arr, el, fpX, hD, _⟩ => ⟨bk, off, arr, el, fpX, hD, by rw [hS]; simp⟩) S.first S.rel S.nodup S.mem
  have hr : (execOp a.eval o).run P w = .ok (.value v) w' := by
    simp only [execOp, ho, resolve, invoke, builtin, Sem.run_bind, Sem.run_pure, Result.andThen_ok, List.map_toArray, List.map_cons, List.map_nil, hv, S.val, hrun]
  unfold Oper.wp
  rw [hr]
  exact ⟨_, _, _, R'.put (dstOk_spec (σ := { σ with h := _ }) hd) hA⟩

/-- the source an owned row, which is given up -/
theorem app_rr_ok {id lo n id2 lo2 m : Nat} {xs ys : List (List D)} (ho : o.op = .call { callee := .builtin .append, args := #[x, y], argTypes := #[t, tx] }) (id' : Nat)
    (ht : te t = some ⟨.slice e, s, b, z⟩) (htx : te tx = some ⟨.slice e2, s2, b2, z2⟩) (hte : te e = some ti) (hz0 : ti.zero = some zv) (hzs : zv.cells.size = ti.size)
    (hx : σ.evr x = some (.r id lo n)) (hg : get σ.h id = some (.row ti.size xs)) (hle : lo + n ≤ xs.length) (hy : σ.evr y = some (.r id2 lo2 m)) (hg2 : get σ.h id2 = some (.row ti.size ys)) (hle2 : lo2 + m ≤ ys.length) (hne : Nat.beq id id2 = false)
    (hneed : n + m ≤ maxN) (hbytes : 2 * (n + m) * ti.bytes ≤ 2 ^ 48) (hid : get σ.h id' = none) (hd : dstOk σ o = true) :
    OpOk P σ o (St.put { σ with h := (id', .row ti.size ((xs.drop lo).take n ++ (ys.drop lo2).take m)) :: kill [id, id2] σ.h } o.dst (.R id')) := by
  rintro E a w ⟨Z, loc, fps, R⟩
  obtain ⟨A, cap, hv, h1, h2, h3, h4, h5⟩ := R.destR (ks := [id, id2]) (by simp) hg hle (R.evr hx)
  obtain ⟨S, hS⟩ := R.srcR (P := P) (ks := [id, id2]) (by simp) hg2 hle2 (R.evr hy)
  have hne' : id ≠ id2 := fun e => by subst e; simp at hne
  obtain ⟨v, w', loc', fps', hrun, R', hA⟩ := append_core T (ty := o.type) ht hte (und_slice T htx) (by intro k h; cases h) hz0 hzs R (ks := [id, id2]) hid h3 h4 S.sizes S.len h1 h2 hneed hbytes
    (h5.imp (fun h => h) fun ⟨bk, off, arr, el, fpX, hD, hm⟩ => ⟨bk, off, arr, el, fpX, hD, fun b hb hb' => hne' (R.disj id id2 _ _ b ⟨hg, by simp⟩ ⟨hg2, by simp⟩ (hm b hb') (hS b hb))⟩) S.first S.rel S.nodup S.mem
  have hr : (execOp a.eval o).run P w = .ok (.value v) w' := by
    simp only [execOp, ho, resolve, invoke, builtin, Sem.run_bind, Sem.run_pure, Result.andThen_ok, List.map_toArray, List.map_cons, List.map_nil, hv, S.val, hrun]
  unfold Oper.wp
  rw [hr]
  exact ⟨_, _, _, R'.put (dstOk_spec (σ := { σ with h := _ }) hd) hA⟩

/-- the target empty and of no room (nil, []T{}) -/
theorem app_ws_ok {k m : Nat} {ys : List (List D)} {d : D} (ho : o.op = .call { callee := .builtin .append, args := #[x, y], argTypes := #[t, tx] }) (id' : Nat)
    (ht : te t = some ⟨.slice e, s, b, z⟩) (htx : te tx = some ⟨.slice e2, s2, b2, z2⟩) (hte : te e = some ti) (hz0 : ti.zero = some zv) (hzs : zv.cells.size = ti.size) (hpos : 0 < ti.size)
    (hx : σ.ev x = some (.w k [])) (hy : σ.ev y = some d) (hd' : d.imm? = some ys) (hys : ∀ x ∈ ys, x.length = ti.size) (hm : ys.length = m)
    (hneed : m ≤ maxN) (hbytes : 2 * m * ti.bytes ≤ 2 ^ 48) (hid : get σ.h id' = none) (hd : dstOk σ o = true) :
    OpOk P σ o (St.put { σ with h := (id', .row ti.size ys) :: σ.h } o.dst (.R id')) := by
  rintro E a w ⟨Z, loc, fps, R⟩
  have hxv := R.ev hx
  generalize hax : a.eval x = vx at hxv
  generalize hfp : ([] : List Nat) = fp at hxv
  cases hxv with
  | w => cases hfp
  | @w0 _ _ A =>
    obtain ⟨S, hS⟩ := R.srcS (P := P) [] hpos hd' hys (R.ev hy)
    subst hm
    obtain ⟨v, w', loc', fps', hrun, R', hA⟩ := append_core T (ty := o.type) (X := []) (A := A) (n := 0) (cap := 0) ht hte (und_slice T htx) (by intro k h; cases h) hz0 hzs R (ks := []) hid (by simp) rfl hys rfl (Nat.le_refl _) (Nat.zero_le _) (by omega) (by simpa using hbytes)
      (.inl ⟨rfl, rfl⟩) S.first S.rel S.nodup S.mem
    have hr : (execOp a.eval o).run P w = .ok (.value v) w' := by
      simp only [execOp, ho, resolve, invoke, builtin, Sem.run_bind, Sem.run_pure, Result.andThen_ok, List.map_toArray, List.map_cons, List.map_nil, hax, S.val, hrun]
    unfold Oper.wp
    rw [hr]
    exact ⟨_, _, _, R'.put (dstOk_spec (σ := { σ with h := _ }) hd) hA⟩

theorem app_wr_ok {k id2 lo2 m : Nat} {ys : List (List D)} (ho : o.op = .call { callee := .builtin .append, args := #[x, y], argTypes := #[t, tx] }) (id' : Nat)
    (ht : te t = some ⟨.slice e, s, b, z⟩) (htx : te tx = some ⟨.slice e2, s2, b2, z2⟩) (hte : te e = some ti) (hz0 : ti.zero = some zv) (hzs : zv.cells.size = ti.size)
    (hx : σ.ev x = some (.w k [])) (hy : σ.evr y = some (.r id2 lo2 m)) (hg2 : get σ.h id2 = some (.row ti.size ys)) (hle2 : lo2 + m ≤ ys.length)
    (hneed : m ≤ maxN) (hbytes : 2 * m * ti.bytes ≤ 2 ^ 48) (hid : get σ.h id' = none) (hd : dstOk σ o = true) :
    OpOk P σ o (St.put { σ with h := (id', .row ti.size ((ys.drop lo2).take m)) :: kill [id2] σ.h } o.dst (.R id')) := by
  rintro E a w ⟨Z, loc, fps, R⟩
  have hxv := R.ev hx
  generalize hax : a.eval x = vx at hxv
  generalize hfp : ([] : List Nat) = fp at hxv
  cases hxv with
  | w => cases hfp
  | @w0 _ _ A =>
    obtain ⟨S, hS⟩ := R.srcR (P := P) (ks := [id2]) (by simp) hg2 hle2 (R.evr hy)
    obtain ⟨v, w', loc', fps', hrun, R', hA⟩ := append_core T (ty := o.type) (X := []) (A := A) (n := 0) (cap := 0) ht hte (und_slice T htx) (by intro k h; cases h) hz0 hzs R (ks := [id2]) hid (by simp) rfl S.sizes S.len (Nat.le_refl _) (Nat.zero_le _) (by omega) (by simpa using hbytes)
      (.inl ⟨rfl, rfl⟩) S.first S.rel S.nodup S.mem
    have hr : (execOp a.eval o).run P w = .ok (.value v) w' := by
      simp only [execOp, ho, resolve, invoke, builtin, Sem.run_bind, Sem.run_pure, Result.andThen_ok, List.map_toArray, List.map_cons, List.map_nil, hax, S.val, hrun]
    unfold Oper.wp
    rw [hr]
    exact ⟨_, _, _, R'.put (dstOk_spec (σ := { σ with h := _ }) hd) hA⟩

end
end Go.AM
end

section
namespace Go.AM

/-! what is only read of something that owns -/

inductive Frz : D → D → Prop
  | vs {d} : d.isVS = true → Frz d d
  | w {sz xs ys} : xs.length = ys.length → (∀ (i : Nat) (x y : List D), xs[i]? = some x → ys[i]? = some y → x.length = y.length) →
      (∀ (i : Nat) (x y : List D), xs[i]? = some x → ys[i]? = some y → ∀ (j : Nat) (d e : D), x[j]? = some d → y[j]? = some e → Frz d e) → Frz (.w sz xs) (.s ys)

def FrzL (x y : List D) : Prop := x.length = y.length ∧ ∀ (j : Nat) (d e : D), x[j]? = some d → y[j]? = some e → Frz d e
theorem FrzL.nil : FrzL [] [] := ⟨rfl, by simp⟩
theorem FrzL.cons {d e : D} {x y : List D} (h : Frz d e) (k : FrzL x y) : FrzL (d :: x) (e :: y) :=
  ⟨by simp [k.1], fun j d' e' h1 h2 => by
    cases j with
    | zero => simp at h1 h2; subst h1 h2; exact h
    | succ j => exact k.2 j d' e' (by simpa using h1) (by simpa using h2)⟩
theorem FrzL.vs {x : List D} (h : x.all D.isVS = true) : FrzL x x := ⟨rfl, fun j d e h1 h2 => by
  rw [h1] at h2; cases h2; exact .vs (List.all_eq_true.1 h d (List.mem_of_getElem? h1))⟩
theorem Frz.map {α : Type} {f g : α → List D} {sz : Nat} {l : List α} (h : ∀ a, FrzL (f a) (g a)) : Frz (.w sz (l.map f)) (.s (l.map g)) :=
  have key : ∀ (i : Nat) (x y : List D), (l.map f)[i]? = some x → (l.map g)[i]? = some y → FrzL x y := fun i x y h1 h2 => by
    rw [List.getElem?_map] at h1 h2
    cases hl : l[i]? with
    | none => simp [hl] at h1
    | some a => simp [hl] at h1 h2; subst h1 h2; exact h a
  .w (by simp) (fun i x y h1 h2 => (key i x y h1 h2).1) (fun i x y h1 h2 => (key i x y h1 h2).2)

def FrzLL (xs ys : List (List D)) : Prop := xs.length = ys.length ∧ ∀ (i : Nat) (x y : List D), xs[i]? = some x → ys[i]? = some y → FrzL x y
theorem FrzLL.vs {xs : List (List D)} (h : ∀ x ∈ xs, x.all D.isVS = true) : FrzLL xs xs := ⟨rfl, fun i x y h1 h2 => by rw [h1] at h2; cases h2; exact .vs (h x (List.mem_of_getElem? h1))⟩
theorem FrzLL.map {α : Type} {f g : α → List D} {l : List α} (h : ∀ a, FrzL (f a) (g a)) : FrzLL (l.map f) (l.map g) := by
  have := Frz.map (sz := 0) (l := l) h
  refine ⟨by simp, fun i x y h1 h2 => ?_⟩
  rw [List.getElem?_map] at h1 h2
  cases hl : l[i]? with
  | none => simp [hl] at h1
  | some a => simp [hl] at h1 h2; subst h1 h2; exact h a
theorem FrzLL.part {xs ys : List (List D)} (h : FrzLL xs ys) (lo n : Nat) : FrzLL ((xs.drop lo).take n) ((ys.drop lo).take n) :=
  ⟨by simp [h.1], fun i x y h1 h2 => by
    rw [List.getElem?_take] at h1 h2
    split at h1
    · rw [if_pos ‹_›] at h2
      rw [List.getElem?_drop] at h1 h2
      exact h.2 _ x y h1 h2
    · cases h1⟩

theorem FrzLL.flat : ∀ {xs ys : List (List D)}, FrzLL xs ys → FrzL xs.flatten ys.flatten
  | [], [], _ => FrzL.nil
  | [], _ :: _, h => by simp [FrzLL] at h
  | _ :: _, [], h => by simp [FrzLL] at h
  | x :: xs, y :: ys, h => by
    have hx := h.2 0 x y rfl rfl
    have ht : FrzLL xs ys := ⟨by simpa using h.1, fun i a b h1 h2 => h.2 (i + 1) a b (by simpa using h1) (by simpa using h2)⟩
    have ih := FrzLL.flat ht
    refine ⟨by rw [List.flatten_cons, List.flatten_cons, List.length_append, List.length_append, hx.1, ih.1], fun j d e h1 h2 => ?_⟩
    simp only [List.flatten_cons] at h1 h2
    rw [List.getElem?_append] at h1 h2
    rw [← hx.1] at h2
    split at h1
    · rw [if_pos ‹_›] at h2; exact hx.2 j d e h1 h2
    · rw [if_neg ‹_›] at h2; exact ih.2 _ d e h1 h2

theorem FrzL.tl {d e : D} {x y : List D} (h : FrzL (d :: x) (e :: y)) : Frz d e ∧ FrzL x y :=
  ⟨h.2 0 d e rfl rfl, by simpa using h.1, fun j a b h1 h2 => h.2 (j + 1) a b (by simpa using h1) (by simpa using h2)⟩

theorem frz_list {w : World} {Z Z' : Nat → Prop} {loc loc' : Nat → Option Loc} : ∀ {x y : List D} {fp : List Nat} {vs : List Value},
    (∀ (j : Nat) (d e : D), x[j]? = some d → y[j]? = some e → ∀ {fp v}, AR w Z loc fp d v → (∀ b ∈ fp, Z' b) → AR w Z' loc' [] e v) →
    x.length = y.length → ARL w Z loc fp x vs → (∀ b ∈ fp, Z' b) → ARL w Z' loc' [] y vs
  | [], [], _, _, _, _, h, _ => by cases h; exact .nil
  | [], _ :: _, _, _, _, hl, _, _ => by simp at hl
  | _ :: _, [], _, _, _, hl, _, _ => by simp at hl
  | d :: x, e :: y, _, _, hp, hl, h, hfp => by
    cases h with
    | cons h0 h1 h2 =>
      exact .cons (fp := []) (fp' := []) h0 (hp 0 d e rfl rfl h1 fun b hb => hfp b (List.mem_append_left _ hb))
        (frz_list (fun j a b ha hb => hp (j + 1) a b (by simpa using ha) (by simpa using hb)) (by simpa using hl) h2 fun b hb => hfp b (List.mem_append_right _ hb))

theorem frz_ok {w : World} {Z Z' : Nat → Prop} (hZ : ∀ b, Z b → Z' b) {d e : D} (hf : Frz d e) : ∀ {loc loc' : Nat → Option Loc} {fp : List Nat} {v : Value}, AR w Z loc fp d v → (∀ b ∈ fp, Z' b) → AR w Z' loc' [] e v := by
  induction hf with
  | @vs d hd =>
    intro loc loc' fp v h hfp
    cases h with
    | v => exact .v
    | s0 => exact .s0
    | s g1 g2 g3 g4 g5 g6 => exact .s (hZ _ g1) g2 g3 g4 g5 (g6.mono hZ (fun _ _ h => h) (fun _ _ => rfl))
    | _ => simp [D.isVS] at hd
  | @w sz xs ys hlen hsz hall ih =>
    intro loc loc' fp v h hfp
    have hll : FrzLL xs ys := ⟨hlen, fun i x y h1 h2 => ⟨hsz i x y h1 h2, hall i x y h1 h2⟩⟩
    cases h with
    | w0 =>
      cases ys with
      | nil => exact .s0
      | cons => simp at hlen
    | @w _ fp xs b off sz arr el cap g2 g3 g4 g5 g6 g7 =>
      have hy : ∀ y ∈ ys, y.length = sz := by
        intro y hy
        obtain ⟨i, hi⟩ := List.getElem?_of_mem hy
        have hix : i < xs.length := by rw [hlen]; exact (List.getElem?_eq_some_iff.1 hi).1
        have := hsz i _ y (List.getElem?_eq_getElem hix) hi
        rw [← this]; exact g3 _ (List.getElem_mem hix)
      have hflat := hll.flat
      have key := frz_list (x := xs.flatten) (y := ys.flatten) (loc := noLoc) (loc' := noLoc) (w := w) (Z := Z) (Z' := Z') (fp := fp) (vs := (arr.toList.drop off).take (xs.length * sz)) (by
        -- each cell of the rows
        have gen : ∀ (xs ys : List (List D)), xs.length = ys.length → (∀ (i : Nat) (x y : List D), xs[i]? = some x → ys[i]? = some y → x.length = y.length ∧ ∀ (j : Nat) (d e : D), x[j]? = some d → y[j]? = some e → ∀ {loc loc' : Nat → Option Loc} {fp : List Nat} {v : Value}, AR w Z loc fp d v → (∀ b ∈ fp, Z' b) → AR w Z' loc' [] e v) →
            ∀ (j : Nat) (d e : D), xs.flatten[j]? = some d → ys.flatten[j]? = some e → ∀ {fp v}, AR w Z noLoc fp d v → (∀ b ∈ fp, Z' b) → AR w Z' noLoc [] e v := by
          intro xs
          induction xs with
          | nil => intro ys _ _ j d e h1; simp at h1
          | cons x xs ihx =>
            intro ys hl hp j d e h1 h2
            cases ys with
            | nil => simp at hl
            | cons y ys =>
              obtain ⟨hxl, hxp⟩ := hp 0 x y rfl rfl
              simp only [List.flatten_cons] at h1 h2
              rw [List.getElem?_append] at h1 h2
              rw [← hxl] at h2
              split at h1
              · rw [if_pos ‹_›] at h2; intro fp v; exact hxp j d e h1 h2
              · rw [if_neg ‹_›] at h2
                intro fp v
                exact ihx ys (by simpa using hl) (fun i a b ha hb => hp (i + 1) a b (by simpa using ha) (by simpa using hb)) _ d e h1 h2
        intro j d e h1 h2 fp v
        exact gen xs ys hlen (fun i x y h1 h2 => ⟨hsz i x y h1 h2, fun j d e h3 h4 => fun {_ _ _ _} => ih i x y h1 h2 j d e h3 h4⟩) j d e h1 h2)
        hflat.1 g7 (fun b hb => hfp b (List.mem_cons_of_mem _ hb))
      have := AR.s (w := w) (Z := Z') (loc := loc') (xs := ys) (b := b) (off := off) (sz := sz) (cap := cap) (hfp b (by simp)) g2 hy (by omega) g5 (by rw [← hlen]; exact key)
      rw [← hlen] at this
      exact this

/-- a whole row, or a part of it, that is lent -/
theorem RelV.row_viewDZ {E σ a w Z loc fps} (R : RelV E σ a w Z loc fps) {Zc : Nat → Prop} (hz : ∀ b, Z b → Zc b) (hzf : ∀ id ρ b, σ.live id ρ → b ∈ fps id → Zc b) {id lo n sz : Nat} {xs ys : List (List D)} {v : Value} (hg : get σ.h id = some (.row sz xs)) (hle : lo + n ≤ xs.length) (hf : FrzLL xs ys)
    (h : AR w Z loc [] (.r id lo n) v) : AR w Zc noLoc [] (.s ((ys.drop lo).take n)) v := by
  obtain ⟨L, hL, e1, e2, e3, e4, h3⟩ := R.roots id _ ⟨hg, by simp⟩
  have hlx : ((xs.drop lo).take n).length = n := by simp; omega
  have hly : ((ys.drop lo).take n).length = n := by have := hf.1; simp; omega
  cases h with
  | @r _ _ _ _ L' cap A g1 g2 g3 g4 g5 =>
    rw [hL] at g1; cases g1
    by_cases hn : n = 0
    · subst hn; rw [List.take_zero]; exact .s0
    · rcases h3 with ⟨h3, _⟩ | ⟨fpN, arr, el, e5, h4, h5, h6⟩
      · omega
      · rcases g5 with g5 | rfl
        · omega
        · obtain ⟨fpX, hsub, hrel⟩ := h6.window e2 hle
          have hp := hf.part lo n
          have hfl := hp.flat
          have hr0 := frz_list (x := ((xs.drop lo).take n).flatten) (y := ((ys.drop lo).take n).flatten) (Z' := Zc) (loc' := noLoc)
            (fun j d e h1 h2 => fun h3 h4 => frz_ok hz (hfl.2 j d e h1 h2) h3 h4) hfl.1 hrel
            (fun b hb => hzf id _ b ⟨hg, by simp⟩ (by rw [e5]; exact List.mem_cons_of_mem _ (hsub.subset hb)))
          have hy : ∀ y ∈ (ys.drop lo).take n, y.length = sz := by
            intro y hy
            obtain ⟨i, hi⟩ := List.getElem?_of_mem (List.mem_of_mem_drop (List.mem_of_mem_take hy))
            have hix : i < xs.length := by rw [hf.1]; exact (List.getElem?_eq_some_iff.1 hi).1
            have := (hf.2 i _ y (List.getElem?_eq_getElem hix) hi).1
            rw [← this]; exact e2 _ (List.getElem_mem hix)
          have key := AR.s (w := w) (Z := Zc) (loc := noLoc) (xs := (ys.drop lo).take n) (b := L.b) (off := L.base + lo * L.sz) (sz := sz) (cap := cap) (hzf id _ L.b ⟨hg, by simp⟩ (by rw [e5]; simp)) h4
            hy (by omega) g4 (by rw [hly, e1]; exact hr0)
          rw [hly] at key
          exact key

end Go.AM
end

section
namespace Go.AM

/-! values that name no root -/

def D.cfree : D → Bool
  | .v _ => true
  | .s _ => true
  | .q _ => true
  | .w _ [] => true
  | _ => false
def D.ffree : D → Bool
  | .f _ caps => caps.all D.cfree
  | d => d.cfree
def D.free : D → Bool
  | .g ds => ds.all D.ffree
  | d => d.ffree

theorem AR.cfree {w Z loc d v} (h : d.cfree = true) (r : AR w Z loc [] d v) (loc' : Nat → Option Loc) : AR w Z loc' [] d v := by
  generalize hfp : ([] : List Nat) = fp at r
  cases r <;> first
    | exact .v
    | exact .s0
    | exact .w0
    | (simp [D.cfree] at h; done)
    | (cases hfp; done)
    | (rename_i h1 h2 h3 h4 h5 h6; exact .s h1 h2 h3 h4 h5 h6)
    | (rename_i h1 h2 h3; exact .q h1 h2 h3)

theorem ARL.of_all {w Z loc loc'} {p : D → Bool} (hp : ∀ d v, p d = true → AR w Z loc [] d v → AR w Z loc' [] d v) {ds vs} (h : ds.all p = true) (r : ARL w Z loc [] ds vs) : ARL w Z loc' [] ds vs :=
  ARL.of_get r.length fun i d v h1 h2 => by
    obtain ⟨v', h3, h4, h5⟩ := r.get0 h1
    rw [h3] at h2; cases h2
    exact ⟨h4, hp d v (List.all_eq_true.1 h d (List.mem_of_getElem? h1)) h5⟩

theorem AR.ffree {w Z loc d v} (h : d.ffree = true) (r : AR w Z loc [] d v) (loc' : Nat → Option Loc) : AR w Z loc' [] d v := by
  by_cases hf : ∃ fn caps, d = .f fn caps
  · obtain ⟨fn, caps, rfl⟩ := hf
    cases r with | f h1 => exact .f (ARL.of_all (fun d v hd r => r.cfree hd loc') h h1)
  · exact r.cfree (by cases d <;> first | exact h | exact absurd ⟨_, _, rfl⟩ hf) loc'

theorem AR.free {w Z loc d v} (h : d.free = true) (r : AR w Z loc [] d v) (loc' : Nat → Option Loc) : AR w Z loc' [] d v := by
  by_cases hg : ∃ ds, d = .g ds
  · obtain ⟨ds, rfl⟩ := hg
    cases r with | g h1 => exact .g (ARL.of_all (fun d v hd r => r.ffree hd loc') h h1)
  · exact r.ffree (by cases d <;> first | exact h | exact absurd ⟨_, rfl⟩ hg) loc'

theorem ARL.allVS {w Z loc fp ds vs} (h : ARL w Z loc fp ds vs) (hp : ds.all D.isVS = true) : ARL w Z loc [] ds vs :=
  ARL.of_get h.length fun i d v h1 h2 => by
    obtain ⟨v', fp', h3, h4, h5⟩ := h.getO h1
    rw [h3] at h2; cases h2
    exact ⟨h4, (h5.vs_fp (List.all_eq_true.1 hp d (List.mem_of_getElem? h1))).1⟩

/-! what a callee may be lent: a reading of what the caller owns -/

inductive Lend (σ : St) : D → D → Prop
  | free {d} : d.free = true → Lend σ d d
  | nil {k} : Lend σ (.w k []) (.s [])
  | row {id n sz xs} : get σ.h id = some (.row sz xs) → n = xs.length → (∀ x ∈ xs, x.all D.isVS = true) → Lend σ (.r id 0 n) (.s xs)
  | part {id lo n sz xs} : get σ.h id = some (.row sz xs) → lo + n ≤ xs.length → (∀ x ∈ xs, x.all D.isVS = true) → Lend σ (.r id lo n) (.s ((xs.drop lo).take n))
  | rowR {id sz xs ys} : get σ.h id = some (.row sz xs) → FrzLL xs ys → Lend σ (.R id) (.s ys)
  | rowD {id n sz xs ys} : get σ.h id = some (.row sz xs) → n = xs.length → FrzLL xs ys → Lend σ (.r id 0 n) (.s ys)
  | partD {id lo n sz xs ys} : get σ.h id = some (.row sz xs) → lo + n ≤ xs.length → FrzLL xs ys → Lend σ (.r id lo n) (.s ((ys.drop lo).take n))
  | box {id off : Nat} {ds ds' : List D} : get σ.h id = some (.box ds) → ds.length = ds'.length → (∀ (i : Nat) (d d' : D), ds[i]? = some d → ds'[i]? = some d' → Lend σ d d') → Lend σ (.p id off) (.q (ds'.drop off))
  | elem {id i k sz xs cs} : get σ.h id = some (.row sz xs) → xs[i]? = some cs → cs.all D.isVS = true → Lend σ (.e id i k) (.q (cs.drop k))
  | g {ds ds' : List D} : ds.length = ds'.length → (∀ (i : Nat) (d d' : D), ds[i]? = some d → ds'[i]? = some d' → Lend σ d d') → Lend σ (.g ds) (.g ds')
  | f {fn : Nat} {ds ds' : List D} : ds.length = ds'.length → (∀ (i : Nat) (d d' : D), ds[i]? = some d → ds'[i]? = some d' → Lend σ d d') → Lend σ (.f fn ds) (.f fn ds')

theorem Lend.boxF {σ : St} {id off : Nat} {ds : List D} (hg : get σ.h id = some (.box ds)) (hf : ds.all D.free = true) : Lend σ (.p id off) (.q (ds.drop off)) :=
  .box hg rfl fun i d d' h h' => by rw [h] at h'; cases h'; exact .free (List.all_eq_true.1 hf d (List.mem_of_getElem? h))
theorem Lend.f1 {σ : St} {fn : Nat} {d d' : D} (h : Lend σ d d') : Lend σ (.f fn [d]) (.f fn [d']) :=
  .f rfl fun i e e' h1 h2 => by cases i with | zero => simp at h1 h2; subst h1 h2; exact h | succ i => simp at h1
theorem Lend.f2 {σ : St} {fn : Nat} {d d' c c' : D} (h : Lend σ d d') (k : Lend σ c c') : Lend σ (.f fn [d, c]) (.f fn [d', c']) :=
  .f rfl fun i e e' h1 h2 => by
    cases i with
    | zero => simp at h1 h2; subst h1 h2; exact h
    | succ i => cases i with | zero => simp at h1 h2; subst h1 h2; exact k | succ i => simp at h1

theorem RelV.row_viewZ {E σ a w Z loc fps} (R : RelV E σ a w Z loc fps) {Zc : Nat → Prop} (hz : ∀ b, Z b → Zc b) (hzf : ∀ id ρ b, σ.live id ρ → b ∈ fps id → Zc b) {id lo n sz : Nat} {xs : List (List D)} {v : Value} (hg : get σ.h id = some (.row sz xs)) (hle : lo + n ≤ xs.length) (hvs : ∀ x ∈ xs, x.all D.isVS = true)
    (h : AR w Z loc [] (.r id lo n) v) : AR w Zc noLoc [] (.s ((xs.drop lo).take n)) v := by
  obtain ⟨L, hL, e1, e2, e3, e4, h3⟩ := R.roots id _ ⟨hg, by simp⟩
  have hlen : ((xs.drop lo).take n).length = n := by simp; omega
  cases h with
  | @r _ _ _ _ L' cap A g1 g2 g3 g4 g5 =>
    rw [hL] at g1; cases g1
    by_cases hn : n = 0
    · subst hn; rw [List.take_zero]; exact .s0
    · rcases h3 with ⟨h3, _⟩ | ⟨fpN, arr, el, e5, h4, h5, h6⟩
      · omega
      · rcases g5 with g5 | rfl
        · omega
        · obtain ⟨fpX, hsub, hrel⟩ := h6.window e2 hle
          have hall : (((xs.drop lo).take n).flatten).all D.isVS = true := by
            rw [List.all_eq_true]
            intro d hd
            obtain ⟨x, hx, hdx⟩ := List.mem_flatten.1 hd
            exact List.all_eq_true.1 (hvs x (List.mem_of_mem_drop (List.mem_of_mem_take hx))) d hdx
          have hr0 := hrel.allVS hall
          have key := AR.s (w := w) (Z := Zc) (loc := noLoc) (xs := (xs.drop lo).take n) (b := L.b) (off := L.base + lo * L.sz) (sz := sz) (cap := cap) (hzf id _ L.b ⟨hg, by simp⟩ (by rw [e5]; simp)) h4
            (fun x hx => e2 x (List.mem_of_mem_drop (List.mem_of_mem_take hx))) (by omega) g4 (by rw [hlen, e1]; exact hr0.mono hz (fun _ _ h => h) (fun _ _ => rfl))
          rw [hlen] at key
          exact key

theorem RelV.lendZ {E σ a w Z loc fps} (R : RelV E σ a w Z loc fps) {Zc : Nat → Prop} (hz : ∀ b, Z b → Zc b) (hzf : ∀ id ρ b, σ.live id ρ → b ∈ fps id → Zc b) {d d' : D} (hl : Lend σ d d') : ∀ {v : Value}, AR w Z loc [] d v → AR w Zc noLoc [] d' v := by
  have lists : ∀ {ds ds' : List D} {vs : List Value}, ds.length = ds'.length → (∀ (i : Nat) (d d' : D), ds[i]? = some d → ds'[i]? = some d' → ∀ {v : Value}, AR w Z loc [] d v → AR w Zc noLoc [] d' v) → ARL w Z loc [] ds vs → ARL w Zc noLoc [] ds' vs := by
    intro ds ds' vs hlen ih h
    refine ARL.of_get (by rw [← hlen]; exact h.length) fun i d' v h1 h2 => ?_
    have hi : i < ds.length := by rw [hlen]; exact (List.getElem?_eq_some_iff.1 h1).1
    obtain ⟨v', h3, h4, h5⟩ := h.get0 (List.getElem?_eq_getElem hi)
    rw [h3] at h2; cases h2
    exact ⟨h4, ih i _ d' (List.getElem?_eq_getElem hi) h1 h5⟩
  induction hl with
  | free hf => intro v h; exact (h.free hf noLoc).mono hz (fun _ _ h => h) (fun _ _ => rfl)
  | nil =>
    intro v h
    generalize hfp : ([] : List Nat) = fp at h
    cases h with
    | w0 => exact .s0
    | w => cases hfp
  | row hg hn hvs =>
    intro v h
    subst hn
    have := R.row_viewZ hz hzf hg (by omega) hvs h
    simpa using this
  | part hg hle hvs => intro v h; exact R.row_viewZ hz hzf hg hle hvs h
  | rowD hg hn hf =>
    intro v h
    subst hn
    have := R.row_viewDZ hz hzf hg (by omega) hf h
    rw [hf.1] at this
    simpa using this
  | @rowR id sz xs ys hg hf =>
    intro v h
    have h' := R.res h
    simp only [St.res, hg] at h'
    have := R.row_viewDZ hz hzf hg (by omega) hf h'
    rw [hf.1] at this
    simpa using this
  | partD hg hle hf => intro v h; exact R.row_viewDZ hz hzf hg hle hf h
  | @box id off ds ds' hg hlen _ ih =>
    intro v h
    obtain ⟨L, hL, e1, e2, arr, el, h3, h4⟩ := R.roots id _ ⟨hg, by simp⟩
    cases h with
    | p g1 =>
      rw [hL] at g1; cases g1
      have h5 := (lists hlen ih h4).drop0 off
      rw [e1, Nat.zero_add]
      have hl5 := h5.length
      refine AR.q (hzf id _ L.b ⟨hg, by simp⟩ (by rw [e2]; simp)) h3 ?_
      rw [List.take_of_length_le (by rw [hl5]; exact Nat.le_refl _)]
      exact h5
  | @elem id i k sz xs cs hg hc hvs =>
    intro v h
    obtain ⟨L, hL, e1, e2, e3, e4, h3⟩ := R.roots id _ ⟨hg, by simp⟩
    have hlt : i < xs.length := (List.getElem?_eq_some_iff.1 hc).1
    cases h with
    | e g1 =>
      rw [hL] at g1; cases g1
      rcases h3 with ⟨h3, _⟩ | ⟨fpN, arr, el, e5, h4, h5, h6⟩
      · omega
      · have hcs : cs.length = sz := e2 cs (List.mem_of_getElem? hc)
        have hm := mul_succ_le (sz := sz) hlt
        have hseg := h6.segVS (i * sz) sz (by rw [flat_get e2 hc]; exact hvs)
        rw [flat_get e2 hc, List.drop_take, List.take_take, Nat.min_eq_left (by omega), List.drop_drop] at hseg
        have hd0 := hseg.drop0 k
        rw [List.drop_take, List.drop_drop] at hd0
        refine AR.q (hzf id _ L.b ⟨hg, by simp⟩ (by rw [e5]; simp)) h4 ?_
        rw [e1, List.length_drop, hcs]
        exact hd0.mono hz (fun _ _ h => h) (fun _ _ => rfl)
  | g hlen _ ih => intro v h; cases h with | g h1 => exact .g (lists hlen ih h1)
  | f hlen _ ih => intro v h; cases h with | f h1 => exact .f (lists hlen ih h1)

theorem RelV.lend {E σ a w Z loc fps} (R : RelV E σ a w Z loc fps) {d d' : D} (hl : Lend σ d d') {v : Value} (h : AR w Z loc [] d v) : AR w (fun b => b < w.heap.size) noLoc [] d' v :=
  R.lendZ (fun b hb => R.zlt b hb) (fun id ρ b h1 h2 => (R.owned id ρ b h1 h2).2.1) hl h

/-! contracts by value -/

def Callable (P : Program) (f : FuncId) : Prop := ∃ fn, P.funcs[f]? = some fn ∧ fn.body.isNone = false ∧ (fn.name == "runtime.NumGoroutine") = false

/-- The function reads its arguments and returns 'res'; nothing that was there changes; what it owns in the result is new. -/
def SpecR (P : Program) (f : FuncId) (as : List D) (res : D) : Prop :=
  Callable P f ∧ ∀ (w : World) (Z : Nat → Prop) (vs : Array Value), ART w Z noLoc [] as vs.toList → (∀ b, Z b → b < w.heap.size) →
    Calls P f vs w fun e w' => ∃ v Z' fpr, e = .returned v ∧ Ext w w' ∧ AR w' Z' noLoc fpr res v ∧ fpr.Nodup ∧ (∀ b ∈ fpr, ¬ Z' b ∧ w.heap.size ≤ b ∧ b < w'.heap.size) ∧ (∀ b, Z' b → b < w'.heap.size ∧ (Z b ∨ w.heap.size ≤ b))

/-- what does not lean on the zone of what is only read -/
def D.zfree (d : D) : Prop := ∀ w Z Z' loc fp v, AR w Z loc fp d v → AR w Z' loc fp d v

theorem zfree_v (x : Value) : D.zfree (.v x) := fun w Z Z' loc fp v h => by cases h; exact .v
theorem zfree_list {ds : List D} (h : ∀ d ∈ ds, d.zfree) : ∀ {w Z Z' loc fp vs}, ARL w Z loc fp ds vs → ARL w Z' loc fp ds vs := by
  induction ds with
  | nil => intro w Z Z' loc fp vs r; cases r; exact .nil
  | cons d ds ih => intro w Z Z' loc fp vs r; cases r with | cons h0 h1 h2 => exact .cons h0 (h d (by simp) _ _ _ _ _ _ h1) (ih (fun d hd => h d (by simp [hd])) h2)
theorem zfree_listT {ds : List D} (h : ∀ d ∈ ds, d.zfree) : ∀ {w Z Z' loc fp vs}, ART w Z loc fp ds vs → ART w Z' loc fp ds vs := by
  induction ds with
  | nil => intro w Z Z' loc fp vs r; cases r; exact .nil
  | cons d ds ih => intro w Z Z' loc fp vs r; cases r with | cons h1 h2 => exact .cons (h d (by simp) _ _ _ _ _ _ h1) (ih (fun d hd => h d (by simp [hd])) h2)
theorem zfree_g {ds : List D} (h : ∀ d ∈ ds, d.zfree) : D.zfree (.g ds) := fun w Z Z' loc fp v r => by cases r with | g h1 => exact .g (zfree_list h h1)
theorem zfree_t {ds : List D} (h : ∀ d ∈ ds, d.zfree) : D.zfree (.t ds) := fun w Z Z' loc fp v r => by cases r with | t h1 => exact .t (zfree_listT h h1)
theorem zfree_w {sz : Nat} {xs : List (List D)} (h : ∀ x ∈ xs, ∀ d ∈ x, d.zfree) : D.zfree (.w sz xs) := fun w Z Z' loc fp v r => by
  cases r with
  | w0 => exact .w0
  | w h2 h3 h4 h5 h6 h7 => exact .w h2 h3 h4 h5 h6 (zfree_list (fun d hd => by obtain ⟨x, hx, hdx⟩ := List.mem_flatten.1 hd; exact h x hx d hdx) h7)

end Go.AM
end

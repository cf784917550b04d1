/- A part of my own walk library: how the model runs a function, told over abstract values. It states no law of the program; no condition. -/
import Derived.Test.YtioegmjleofmeaaGreatAm5
import Derived.WalkKit
import Derived.ProofKit
import Derived.OpenShut
import Derived.Carry
set_option linter.unusedSimpArgs false
set_option linter.unusedVariables false
set_option linter.unusedSectionVars false

section
namespace Go.AM

/-! a store into a box in a drawn region; boxes that are only read from here on; parts of owned rows -/

section
variable {P : Program} {ops : Array Oper} {τ : St} {o : Oper} {te : TE} (T : TEok P te) {t : Nat} {ti : TI} {x y : Operand}
include T
theorem FStep.store_p {k : Nat} {id off : Nat} {ds vs : List D} {d : D} (ho : o.op = .store t x y) (hw : τ.wants ops o = some true) (ht : te t = some ti) (hx : τ.ev x = some (.p id off)) (hy : τ.ev y = some d)
    (hg : get τ.h id = some (.box ds)) (hv : d.cells? = some vs) (hsz : vs.length = ti.size) (hoff : Nat.ble (off + vs.length) ds.length = true) (hdst : o.dst = none) (hd : dstOk τ o = true) :
    FStep P ops τ o .u [(id, .box (splice ds off vs))] k k :=
  .of_ok hw hd fun σ h1 h2 hfr hd' => by
    have := store_ok T (σ := σ) ho ht (ev_mono h1 hx) (ev_mono h1 hy) (h2 _ _ hg) hv hsz hoff hdst
    rw [hdst]
    exact this
end

/-- a store into a box, what it holds then written out -/
theorem store_okE {P : Program} {σ : St} {o : Oper} {te : TE} (T : TEok P te) {t : Nat} {x y : Operand} {ti : TI} {id off : Nat} {ds vs ds' : List D} {d : D} (ho : o.op = .store t x y) (ht : te t = some ti) (hx : σ.ev x = some (.p id off)) (hy : σ.ev y = some d)
    (hg : get σ.h id = some (.box ds)) (hv : d.cells? = some vs) (hsz : Nat.beq vs.length ti.size = true) (hoff : Nat.ble (off + vs.length) ds.length = true) (hdst : o.dst = none) (he : splice ds off vs = ds') :
    OpOk P σ o { σ with h := (id, .box ds') :: σ.h } := by
  subst he
  exact store_ok T ho ht hx hy hg hv (Nat.eq_of_beq_eq_true hsz) hoff hdst
/-! a call that turns what is handed over, in a drawn region -/
theorem kill_app (ks : List Nat) (l : List (Nat × Root)) : kill ks [] ++ l = kill ks l := by
  induction ks with
  | nil => rfl
  | cons k ks ih => show (k, Root.dead) :: (kill ks [] ++ l) = _; rw [ih]; rfl
section
variable {τ σ : St} (h2 : ∀ id ρ, get τ.h id = some ρ → get σ.h id = some ρ)
include h2
theorem ExpC.mono {d e ids} (h : ExpC τ d e ids) : ExpC σ d e ids := by
  cases h with
  | v => exact .v
  | s => exact .s
  | nil => exact .nil
  | nilS => exact .nilS
  | row g h => exact .row (h2 _ _ g) h
  | u => exact .u
  | q => exact .q
  | f h => exact .f h
  | box g h => exact .box (h2 _ _ g) h
  | rowR g => exact .rowR (h2 _ _ g)
  | part g h => exact .part (h2 _ _ g) h
theorem expLC_mono : ∀ {ds es ids}, expLC τ ds es ids → expLC σ ds es ids := by
  intro ds
  induction ds with
  | nil => intro es ids h; cases es with | nil => exact h | cons => exact h.elim
  | cons d ds ih =>
    intro es ids h
    cases es with
    | nil => exact h.elim
    | cons e es => obtain ⟨i1, i2, e1, g1, g2⟩ := h; exact ⟨i1, i2, e1, g1.mono h2, ih g2⟩
theorem ExpG.mono {d e ids} (h : ExpG τ d e ids) : ExpG σ d e ids := by
  cases h with
  | c h => exact .c (h.mono h2)
  | g h => exact .g (expLC_mono h2 h)
theorem expLG_mono : ∀ {ds es ids}, expLG τ ds es ids → expLG σ ds es ids := by
  intro ds
  induction ds with
  | nil => intro es ids h; cases es with | nil => exact h | cons => exact h.elim
  | cons d ds ih =>
    intro es ids h
    cases es with
    | nil => exact h.elim
    | cons e es => obtain ⟨i1, i2, e1, g1, g2⟩ := h; exact ⟨i1, i2, e1, g1.mono h2, ih g2⟩
theorem fitC_mono {d o : D} (h : fitC τ d o = true) : fitC σ d o = true := by
  unfold fitC at h ⊢
  split at h
  · split at h
    · rename_i g; simp only [h2 _ _ g]; exact h
    · cases h
  · simp only [Bool.and_eq_true] at h ⊢
    refine ⟨h.1, ?_⟩
    have h3 := h.2
    split at h3
    · rename_i g; simp only [h2 _ _ g]
    · cases h3
  · rfl
  · cases h
theorem fitLC_mono : ∀ {ds os : List D}, fitLC τ ds os = true → fitLC σ ds os = true := by
  intro ds
  induction ds with
  | nil => intro os h; cases os <;> exact h
  | cons d ds ih =>
    intro os h
    cases os with
    | nil => exact h
    | cons o os => simp only [fitLC, Bool.and_eq_true] at h ⊢; exact ⟨fitC_mono h2 h.1, ih h.2⟩
theorem fitG_mono {d o : D} (h : fitG τ d o = true) : fitG σ d o = true := by
  unfold fitG at h ⊢
  split at h
  · exact fitLC_mono h2 h
  · exact fitC_mono h2 h
theorem fitLG_mono : ∀ {ds os : List D}, fitLG τ ds os = true → fitLG σ ds os = true := by
  intro ds
  induction ds with
  | nil => intro os h; cases os <;> exact h
  | cons d ds ih =>
    intro os h
    cases os with
    | nil => exact h
    | cons o os => simp only [fitLG, Bool.and_eq_true] at h ⊢; exact ⟨fitG_mono h2 h.1, ih h.2⟩
end
theorem FStep.callM {P : Program} {o : Oper} {ops : Array Oper} {τ : St} {f : FuncId} {callee : Operand} {args : Array Operand} {ts : Array TypeId} {caps ds es outs : List D} {ids : List Nat} {res : D} {k : Nat} (ho : o.op = .call { callee := .value callee, args := args, argTypes := ts }) (hw : τ.wants ops o = some true)
    (hc : τ.ev callee = some (.f f caps)) (ha : evs τ args.toList = some ds) (hp : expLG τ (ds ++ caps) es ids) (hids : ids.Nodup) (hb : (backLG (ds ++ caps) outs).map (·.1) = ids ∨ (((backLG (ds ++ caps) outs).map (·.1)).Nodup ∧ ∀ i ∈ (backLG (ds ++ caps) outs).map (·.1), i ∈ ids))
    (hfit : fitLG τ (ds ++ caps) outs = true) (S : SpecM P f es outs res) (hok : res.tOk = true) (hk : ((backLG (ds ++ caps) outs).all (fun x => Nat.blt x.1 k) && ids.all (fun i => Nat.blt i k)) = true) (hd : dstOk τ o = true) :
    FStep P ops τ o (impT k res).1 ((impT k res).2.1 ++ (backLG (ds ++ caps) outs ++ kill ids [])) k (impT k res).2.2 :=
  .of_ok hw hd fun σ h1 h2 hfr hd' => by
    have hevs : ∀ {l : List Operand} {r}, evs τ l = some r → evs σ l = some r := by
      intro l
      induction l with
      | nil => intro r h; exact h
      | cons x l ih =>
        intro r h
        simp only [evs] at h ⊢
        cases hx : τ.ev x with
        | none => simp [hx] at h
        | some d =>
          cases hl : evs τ l with
          | none => simp [hx, hl] at h
          | some r' => rw [ev_mono h1 hx, ih hl]; simpa [hx, hl] using h
    have hfr' : St.freshIn { σ with h := backLG (ds ++ caps) outs ++ kill ids σ.h } k (impT k res).2.2 := by
      intro i hi1 hi2
      simp only [Bool.and_eq_true, List.all_eq_true] at hk
      show get (backLG (ds ++ caps) outs ++ kill ids σ.h) i = none
      rw [get_append, get_kill]
      have : get (backLG (ds ++ caps) outs) i = none := by
        cases hg : get (backLG (ds ++ caps) outs) i with
        | none => rfl
        | some r =>
          have := hk.1 _ (get_mem hg)
          simp only [Nat.blt_eq] at this
          omega
      rw [this]
      have hn : i ∉ ids := fun h => by
        have := hk.2 i h
        simp only [Nat.blt_eq] at this
        omega
      simp only [hn, if_false]
      exact hfr i hi1 hi2
    have := callM_okI (σ := σ) ho k (ev_mono h1 hc) (hevs ha) (expLG_mono h2 hp) hids hb (fitLG_mono h2 hfit) S hok hfr' hd'
    have e : (impT k res).2.1 ++ (backLG (ds ++ caps) outs ++ kill ids []) ++ σ.h = (impT k res).2.1 ++ (backLG (ds ++ caps) outs ++ kill ids σ.h) := by
      rw [List.append_assoc, List.append_assoc, kill_app]
    rw [e]
    exact this

section
variable {P : Program} {ops : Array Oper} {τ : St} {o : Oper} {te : TE} (T : TEok P te) {t e : Nat} {s b : Nat} {z : Option Value} {ti : TI} {zv : Value}
include T
/-- a slice of owners in a drawn region -/
theorem FStep.mk_o {k len : Nat} {parts : Array (Nat × Operand)} {ps : List (Nat × D)} {xs : List (List D)} {α : Type} {f : α → List D} {l : List α} {ids : List Nat} (ho : o.op = .buildSlice t len parts) (hw : τ.wants ops o = some true)
    (ht : te t = some ⟨.slice e, s, b, z⟩) (hte : te e = some ti) (hz : ti.zero = some zv)
    (hev : evAll τ parts.toList = some ps) (hen : enumFrom 0 ps = true) (hcs : cellsAll ps = some xs) (hlen : l.length = len) (hsz : xs.all (fun x => Nat.beq x.length ti.size) = true) (hsz' : ∀ y, (f y).length = ti.size) (hex : expLC τ xs.flatten (l.map f).flatten ids) (hids : ids.Nodup) (hlx : Nat.beq xs.length len = true)
    (hsmall : Nat.ble (len * ti.size) 16777216 = true) (hsmall' : Nat.ble len 16777216 = true) (hd : dstOk τ o = true) :
    FStep P ops τ o (.R k) ((k, .row ti.size (l.map f)) :: kill ids []) k (k + 1) :=
  .of_ok hw hd fun σ h1 h2 hfr hd' => by
    have := mk_o_ok T (σ := σ) ho k ht hte hz (evAll_mono h1 hev) hen hcs hlen hsz hsz' (expLC_mono h2 hex) hids hlx hsmall hsmall' (hfr k (Nat.le_refl _) (Nat.lt_succ_self _)) hd'
    rw [List.cons_append, kill_app]
    exact this
end

theorem ExpC.partM {σ : St} {id lo n sz : Nat} {α : Type} {l : List α} {f : α → List D} (h : get σ.h id = some (.row sz (l.map f))) (hle : lo + n ≤ l.length) : ExpC σ (.r id lo n) (.w sz (((l.drop lo).take n).map f)) [id] := by
  have := ExpC.part (σ := σ) h (by rw [List.length_map]; exact hle)
  rwa [← List.map_drop, ← List.map_take] at this

theorem lend_free {σ : St} {fn : Nat} {l : List D} (h : l.all D.cfree = true) : Lend σ (.f fn l) (.f fn l) := .free (show l.all D.cfree = true from h)
theorem cap_cfree {l : List D} (h : l.all D.capOk = true) : l.all D.cfree = true := by
  rw [List.all_eq_true] at h ⊢
  intro x hx
  have := h x hx
  cases x <;> first | rfl | cases this
theorem cap_sc {l : List D} (h : l.all D.capOk = true) : l.all D.sc = true := by
  rw [List.all_eq_true] at h ⊢
  intro x hx
  have := h x hx
  cases x <;> first | rfl | cases this

/-! shifts and masks -/
section
variable {P : Program} {σ : St} {o : Oper}
theorem shr_ok {t u n : Nat} {x y : Operand} {k k' : IntKind} {a b : Int} (ho : o.op = .binOp .shr t x y u) (hx : σ.ev x = some (.v (.int k a))) (hy : σ.ev y = some (.v (.int k' b)))
    (hb : decide (0 ≤ b) = true) (hn : min b.toNat k.bits = n) : OpV P σ o (.v (.int k (a.fdiv (2 ^ n)))) := by
  subst hn
  have hb := of_decide_eq_true hb
  refine OpV.of_val fun E a' w Z loc fps R => ?_
  have h1 := R.ev hx; have h2 := R.ev hy
  generalize hax : a'.eval x = vx at h1
  generalize hay : a'.eval y = vy at h2
  cases h1; cases h2
  have hnb : ¬ b < 0 := by omega
  exact ⟨_, by simp [execOp, ho, hax, hay, eqGuard_at_int, binOp, Op.shift, hnb], .v⟩
theorem and_ok {t u : Nat} {x y : Operand} {k : IntKind} {a b : Int} (ho : o.op = .binOp .and t x y u) (hx : σ.ev x = some (.v (.int k a))) (hy : σ.ev y = some (.v (.int k b))) :
    OpV P σ o (.v (.int k (k.wrap ((BitVec.ofInt k.bits a &&& BitVec.ofInt k.bits b).toNat : Int)))) := by
  refine OpV.of_val fun E a' w Z loc fps R => ?_
  have h1 := R.ev hx; have h2 := R.ev hy
  generalize hax : a'.eval x = vx at h1
  generalize hay : a'.eval y = vy at h2
  cases h1; cases h2
  exact ⟨_, by simp [execOp, ho, hax, hay, eqGuard_at_int, binOp_and, Op.intBits], .v⟩
end

/-- a nil slice is an empty one that is only read -/
theorem Le.nilS {σ : St} (t : Nat) {k : Nat} (ht : get σ.t t = some (.w k [])) : Le σ { σ with t := (t, .s []) :: σ.t } := by
  rintro E a w ⟨Z, loc, fps, R⟩
  refine ⟨Z, loc, fps, { R with temps := ?_ }⟩
  intro t' d hd
  simp only [get_cons] at hd
  split at hd
  · rename_i e; subst e; cases hd
    obtain ⟨v, h1, h2⟩ := R.temps _ _ ht
    generalize hfp : ([] : List Nat) = fp at h2
    cases h2 with
    | w0 => exact ⟨_, h1, .s0⟩
    | w => cases hfp
  · exact R.temps t' d hd

/-! freezing a box -/
def D.fbC (id : Nat) (cs : List D) : D → D
  | .p j off => bif Nat.beq j id then .q (cs.drop off) else .p j off
  | d => d
def D.fb (id : Nat) (cs : List D) : D → D
  | .g ds => .g (ds.map (D.fbC id cs))
  | .t ds => .t (ds.map (D.fbC id cs))
  | .f fn ds => .f fn (ds.map (D.fbC id cs))
  | d => d.fbC id cs
def Root.fb (id : Nat) (cs : List D) : Root → Root
  | .box ds => .box (ds.map (D.fbC id cs))
  | ρ => ρ
def St.fb (σ : St) (id : Nat) (cs : List D) : St := { σ with t := σ.t.map (fun x => (x.1, x.2.fb id cs)), h := (id, .dead) :: σ.h.map (fun x => (x.1, x.2.fb id cs)) }

theorem Le.freezeB {σ : St} (id : Nat) {cs : List D} (hg : get σ.h id = some (.box cs)) (hv : cs.all D.isVS = true) : Le σ (σ.fb id cs) := by
  rintro E a w ⟨Z, loc, fps, R⟩
  have hlid : σ.live id (.box cs) := ⟨hg, by simp⟩
  obtain ⟨L, hL1, e1, e2, arr, el, h3, h4⟩ := R.roots id _ hlid
  let Z' : Nat → Prop := fun b => Z b ∨ b ∈ fps id
  have hZ : ∀ b, Z b → Z' b := fun b h => .inl h
  have hpl : ARL w Z' noLoc [] cs arr.toList := (h4.plain (List.all_eq_true.2 fun d hd => D.isVS_plain (List.all_eq_true.1 hv d hd)) noLoc).mono hZ (fun _ _ h => h) (fun _ _ => rfl)
  have hC : ∀ {d : D} {v : Value}, AR w Z loc [] d v → AR w Z' loc [] (d.fbC id cs) v := by
    intro d v h
    by_cases hd : ∃ off, d = .p id off
    · obtain ⟨off, rfl⟩ := hd
      have e : D.fbC id cs (.p id off) = .q (cs.drop off) := by simp [D.fbC]
      rw [e]
      cases h with
      | p g1 =>
        rw [hL1] at g1; cases g1
        rw [e1, Nat.zero_add]
        refine .q (.inr (by rw [e2]; simp)) h3 ?_
        have := hpl.drop0 off
        have hl := this.length
        rw [List.take_of_length_le (by rw [← hl]; exact Nat.le_refl _)]
        exact this
    · have e : d.fbC id cs = d := by
        cases d <;> first | rfl | skip
        rename_i j off
        have : j ≠ id := fun e => hd ⟨off, by rw [e]⟩
        have : Nat.beq j id = false := by cases hb : Nat.beq j id; rfl; exact absurd (Nat.eq_of_beq_eq_true hb) this
        simp [D.fbC, this]
      rw [e]
      exact h.mono hZ (fun _ _ h => h) (fun _ _ => rfl)
  have hL : ∀ {ds : List D} {vs : List Value}, ARL w Z loc [] ds vs → ARL w Z' loc [] (ds.map (D.fbC id cs)) vs := by
    intro ds vs h
    refine ARL.of_get (by simpa using h.length) fun i d v h1 h2 => ?_
    rw [List.getElem?_map] at h1
    cases hd : ds[i]? with
    | none => simp [hd] at h1
    | some d0 =>
      simp only [hd, Option.map_some, Option.some.injEq] at h1
      obtain ⟨v', h3, h4, h5⟩ := h.get0 hd
      rw [h3] at h2; cases h2
      subst h1
      exact ⟨h4, hC h5⟩
  have hT : ∀ {ds : List D} {vs : List Value}, ART w Z loc [] ds vs → ART w Z' loc [] (ds.map (D.fbC id cs)) vs := by
    intro ds
    induction ds with
    | nil => intro vs h; generalize hfp : ([] : List Nat) = fp at h; cases h; exact .nil
    | cons d ds ih =>
      intro vs h
      generalize hfp : ([] : List Nat) = fp at h
      cases h with
      | @cons _ fp1 fp2 _ v _ vs h1 h2 =>
        obtain ⟨rfl, rfl⟩ : fp1 = [] ∧ fp2 = [] := List.append_eq_nil_iff.1 hfp.symm
        exact .cons (fp := []) (fp' := []) (hC h1) (ih h2)
  have hD : ∀ {d : D} {v : Value}, AR w Z loc [] d v → AR w Z' loc [] (d.fb id cs) v := by
    intro d v h
    by_cases hgd : ∃ ds, d = .g ds
    · obtain ⟨ds, rfl⟩ := hgd
      cases h with | g h1 => exact .g (hL h1)
    · by_cases htd : ∃ ds, d = .t ds
      · obtain ⟨ds, rfl⟩ := htd
        cases h with | t h1 => exact .t (hT h1)
      · by_cases hfd : ∃ fn ds, d = .f fn ds
        · obtain ⟨fn, ds, rfl⟩ := hfd
          cases h with | f h1 => exact .f (hL h1)
        · have e : d.fb id cs = d.fbC id cs := by cases d <;> first | rfl | exact absurd ⟨_, rfl⟩ hgd | exact absurd ⟨_, rfl⟩ htd | exact absurd ⟨_, _, rfl⟩ hfd
          rw [e]; exact hC h
  have hlive : ∀ i ρ', St.live (σ.fb id cs) i ρ' → i ≠ id ∧ ∃ ρ, σ.live i ρ ∧ ρ.fb id cs = ρ' := by
    rintro i ρ' ⟨h1, h2⟩
    simp only [St.fb, get_cons, get_map] at h1
    split at h1
    · cases h1; exact absurd rfl h2
    · rename_i hne
      cases hi : get σ.h i with
      | none => simp [hi] at h1
      | some ρ =>
        simp only [hi, Option.map_some, Option.some.injEq] at h1
        exact ⟨hne, ρ, ⟨hi, fun e => by subst e; subst h1; exact h2 rfl⟩, h1⟩
  refine ⟨Z', loc, fps, ?_⟩
  refine { R with temps := ?_, roots := ?_, nodup := ?_, disj := ?_, owned := ?_, zlt := ?_, zsub := fun b hb => .inl (R.zsub b hb), znew := ?_, fresh := ?_ }
  · intro t d ht
    simp only [St.fb, get_map] at ht
    cases hd : get σ.t t with
    | none => simp [hd] at ht
    | some d0 =>
      simp only [hd, Option.map_some, Option.some.injEq] at ht
      obtain ⟨v, h1, h2⟩ := R.temps t d0 hd
      subst ht
      exact ⟨v, h1, hD h2⟩
  · intro i ρ' hl
    obtain ⟨hne, ρ, hl', rfl⟩ := hlive i ρ' hl
    obtain ⟨L, h1, h2⟩ := R.roots i ρ hl'
    refine ⟨L, h1, ?_⟩
    cases ρ with
    | box ds =>
      obtain ⟨e1, e2, arr, el, h3, h4⟩ := h2
      exact ⟨e1, e2, arr, el, h3, hL h4⟩
    | row sz xs => exact h2.mono hZ (fun _ _ h => h) (fun _ _ => rfl)
    | orow sz xs i k j => exact h2.mono hZ (fun _ _ h => h) (fun _ _ => rfl)
    | dead => trivial
  · intro i ρ' hl
    obtain ⟨_, ρ, hl', _⟩ := hlive i ρ' hl
    exact R.nodup i ρ hl'
  · intro i j ρ1 ρ2 b hi hj
    obtain ⟨_, r1, hi', _⟩ := hlive i ρ1 hi
    obtain ⟨_, r2, hj', _⟩ := hlive j ρ2 hj
    exact R.disj i j r1 r2 b hi' hj'
  · intro i ρ' b hl hb
    obtain ⟨hne, ρ, hl', _⟩ := hlive i ρ' hl
    obtain ⟨g1, g2, g3⟩ := R.owned i ρ b hl' hb
    exact ⟨fun h => h.elim g1 (fun h => hne (R.disj i id ρ _ b hl' hlid hb h)), g2, g3⟩
  · rintro b (h | h)
    · exact R.zlt b h
    · exact (R.owned id _ b hlid h).2.1
  · rintro b (h | h)
    · exact R.znew b h
    · exact .inr (R.owned id _ b hlid h).2.2
  · intro i h
    simp only [St.fb, get_cons, get_map] at h
    split at h
    · cases h
    · cases hi : get σ.h i with
      | none => exact R.fresh i hi
      | some ρ => simp [hi] at h

/-! parts of owned rows -/
def inB (lo hi len : Int) : Bool := decide (0 ≤ lo) && (decide (lo ≤ hi) && decide (hi ≤ len))
theorem inB_iff {lo hi len : Int} (h : inB lo hi len = true) : 0 ≤ lo ∧ lo ≤ hi ∧ hi ≤ len := by
  simp only [inB, Bool.and_eq_true, decide_eq_true_eq] at h; exact h
/-- an element of a part of a list -/
def getP {α : Type} (l : List α) (lo n : Nat) (i : Int) : Option α := if 0 ≤ i ∧ i.toNat < n then l[lo + i.toNat]? else none
theorem getP_nn {α : Type} {l : List α} {lo n : Nat} {i : Int} {x : α} (h : getP l lo n i = some x) : 0 ≤ i ∧ i.toNat < n := by unfold getP at h; split at h; assumption; cases h
theorem getP_get {α : Type} {l : List α} {lo n : Nat} {i : Int} {x : α} (h : getP l lo n i = some x) : l[lo + i.toNat]? = some x := by unfold getP at h; split at h; exact h; cases h

section
variable {P : Program} {te : TE} (T : TEok P te) {σ : St} {o : Oper} {t e : Nat} {s b : Nat} {z : Option Value} {ti : TI} {x y u : Operand}
include T
theorem bndN_of {k : IntKind} {n : Int} (hy : σ.ev y = some (.v (.int k n))) (h0 : 0 ≤ n) : bndN σ y = some n.toNat := by
  unfold bndN; rw [hy]; simp [h0]
theorem slice_row_hi {k : IntKind} {n : Int} {id : Nat} {α : Type} {l : List α} {f : α → List D} (ho : o.op = .slice t x none (some y) none) (ht : te t = some ⟨.slice e, s, b, z⟩) (hte : te e = some ti)
    (hx : σ.ev x = some (.R id)) (hg : get σ.h id = some (.row ti.size (l.map f))) (hy : σ.ev y = some (.v (.int k n))) (hb : inB 0 n l.length = true) : OpV P σ o (.r id 0 n.toNat) := by
  obtain ⟨_, h1, h2⟩ := inB_iff hb
  have := slice_r_ok T ho ht hte (evr_R hx hg) hg (l := 0) rfl (h := n.toNat) (bndN_of T hy h1) (Nat.zero_le _) (by omega)
  simpa using this
theorem slice_row_lo {k : IntKind} {n : Int} {id : Nat} {α : Type} {l : List α} {f : α → List D} (ho : o.op = .slice t x (some y) none none) (ht : te t = some ⟨.slice e, s, b, z⟩) (hte : te e = some ti)
    (hx : σ.ev x = some (.R id)) (hg : get σ.h id = some (.row ti.size (l.map f))) (hy : σ.ev y = some (.v (.int k n))) (hb : inB n l.length l.length = true) : OpV P σ o (.r id n.toNat (l.length - n.toNat)) := by
  obtain ⟨h0, h1, h2⟩ := inB_iff hb
  have := slice_r_ok T ho ht hte (evr_R hx hg) hg (l := n.toNat) (bndN_of T hy h0) (h := l.length) rfl (by omega) (by omega)
  simpa using this
theorem slice_row_lh {k k' : IntKind} {n m : Int} {id : Nat} {α : Type} {l : List α} {f : α → List D} (ho : o.op = .slice t x (some y) (some u) none) (ht : te t = some ⟨.slice e, s, b, z⟩) (hte : te e = some ti)
    (hx : σ.ev x = some (.R id)) (hg : get σ.h id = some (.row ti.size (l.map f))) (hy : σ.ev y = some (.v (.int k n))) (hu : σ.ev u = some (.v (.int k' m))) (hb : inB n m l.length = true) : OpV P σ o (.r id n.toNat (m.toNat - n.toNat)) := by
  obtain ⟨h0, h1, h2⟩ := inB_iff hb
  have := slice_r_ok T ho ht hte (evr_R hx hg) hg (l := n.toNat) (bndN_of T hy h0) (h := m.toNat) (bndN_of T hu (by omega)) (by omega) (by omega)
  simpa using this
theorem evr_r {id lo n sz : Nat} {xs : List (List D)} (hx : σ.ev x = some (.r id lo n)) : σ.evr x = some (.r id lo n) := by
  unfold St.evr; rw [hx]; rfl
theorem ix_part_ok {k : IntKind} {n : Int} {id lo m : Nat} {α : Type} {l : List α} {f : α → List D} {y' : α} (ho : o.op = .indexAddr t x y) (ht : te t = some ⟨.slice e, s, b, z⟩) (hte : te e = some ti)
    (hx : σ.ev x = some (.r id lo m)) (hi : σ.ev y = some (.v (.int k n))) (hg : get σ.h id = some (.row ti.size (l.map f))) (hn : getP l lo m n = some y') : OpV P σ o (.e id (lo + n.toNat) 0) :=
  ix_r_ok T ho ht hte (evr_r T (sz := 0) (xs := []) hx) hi hg (getP_nn hn).1 (getP_nn hn).2

theorem zc_cells {zv : Value} (n : Nat) : (Builtin.zeroCells zv.cells n).toList = (List.replicate n zv.cells.toList).flatten := by
  unfold Builtin.zeroCells
  exact madeList zv.cells n

theorem clear_r_ok {id lo n : Nat} {α : Type} {l : List α} {f : α → List D} {zo : α} {zv : Value} (ho : o.op = .call { callee := .builtin .clear, args := #[x], argTypes := #[t] }) (ht : te t = some ⟨.slice e, s, b, z⟩) (hte : te e = some ti)
    (hz : ti.zero = some zv) (hone : zv.cells.toList.all (·.oneCell') = true) (hzs : zv.cells.size = ti.size) (hzl : ZL zv.cells.toList (f zo))
    (hx : σ.ev x = some (.r id lo n)) (hg : get σ.h id = some (.row ti.size (l.map f))) (hle : lo + n ≤ l.length) (hdst : o.dst = none) :
    OpOk P σ o { σ with h := (id, .row ti.size ((l.take lo ++ List.replicate n zo ++ l.drop (lo + n)).map f)) :: σ.h } := by
  rintro E a w ⟨Z, loc, fps, R⟩
  obtain ⟨L, hL, e1, e2, e3, e4, h3⟩ := R.roots id _ ⟨hg, by simp⟩
  have hpx := R.ev hx
  generalize hax : a.eval x = px at hpx
  have hu := und_slice T ht
  have hlen3 : l.length ≤ L.tot := by have := e3.1; rwa [List.length_map] at this
  have hLn : L.n = l.length := by have := e3.2; rwa [List.length_map] at this
  have hzo : (f zo).length = ti.size := by rw [hzl.len]; simp [hzs]
  have hrow : ∀ y ∈ ((l.take lo ++ List.replicate n zo ++ l.drop (lo + n)).map f), y.length = ti.size := by
    intro y hy
    obtain ⟨c, hc, rfl⟩ := List.mem_map.1 hy
    rw [List.mem_append, List.mem_append] at hc
    rcases hc with (hc | hc) | hc
    · exact e2 _ (List.mem_map.2 ⟨c, List.mem_of_mem_take hc, rfl⟩)
    · rw [List.eq_of_mem_replicate hc]; exact hzo
    · exact e2 _ (List.mem_map.2 ⟨c, List.mem_of_mem_drop hc, rfl⟩)
  have hlen : (l.take lo ++ List.replicate n zo ++ l.drop (lo + n)).length = l.length := by simp; omega
  cases hpx with
  | @r _ _ _ _ L' cap A g1 g2 g3 g4 g5 =>
    rw [hL] at g1; cases g1
    by_cases hn0 : n = 0
    · subst hn0
      have hrun : (execOp a.eval o).run P w = .ok (.value (.tuple #[])) w := by
        simp [execOp, ho, hax, resolve, invoke, builtin, Builtin.clear_, run_underlying hu]
        cases A <;> rfl
      unfold Oper.wp
      rw [hrun]
      simp only [Oper.upon, hdst, Act.put]
      have : l.take lo ++ List.replicate 0 zo ++ l.drop (lo + 0) = l := by simp
      rw [this]
      have hsame : ∀ i, get ((id, Root.row ti.size (l.map f)) :: σ.h) i = get σ.h i := by
        intro i; rw [get_cons]; split
        · rename_i e; subst e; exact hg.symm
        · rfl
      exact ⟨Z, loc, fps, { R with roots := fun i ρ hl => R.roots i ρ ⟨(hsame i).symm.trans hl.1, hl.2⟩, nodup := fun i ρ hl => R.nodup i ρ ⟨(hsame i).symm.trans hl.1, hl.2⟩, disj := fun i j r r' c h1 h2 => R.disj i j r r' c ⟨(hsame i).symm.trans h1.1, h1.2⟩ ⟨(hsame j).symm.trans h2.1, h2.2⟩, owned := fun i ρ c hl => R.owned i ρ c ⟨(hsame i).symm.trans hl.1, hl.2⟩, fresh := fun i h => R.fresh i ((hsame i).symm.trans h) }⟩
    rcases h3 with ⟨h3, _⟩ | ⟨fpN, arr, el, e5, h4, h5, h6⟩
    · omega
    rcases g5 with g5 | rfl
    · omega
    have hm1 : l.length * ti.size ≤ L.tot * ti.size := Nat.mul_le_mul_right _ hlen3
    have hm2 : (lo + n) * ti.size ≤ l.length * ti.size := Nat.mul_le_mul_right _ hle
    have hm3 : (lo + n) * ti.size = lo * ti.size + n * ti.size := Nat.add_mul ..
    have hzc : (List.replicate n zv.cells.toList).flatten.length = n * ti.size := by
      rw [flat_len (sz := ti.size) (by intro c hc; rw [List.eq_of_mem_replicate hc]; simp [hzs])]; simp
    have hone' : ∀ c ∈ (List.replicate n zv.cells.toList).flatten, c.oneCell' = true := by
      intro c hc
      obtain ⟨r, hr, hc⟩ := List.mem_flatten.1 hc
      rw [List.eq_of_mem_replicate hr] at hc
      exact List.all_eq_true.1 hone c hc
    have hst := run_storeCells_at (P := P) L.b (L.base + lo * L.sz) el (List.replicate n zv.cells.toList).flatten 0 arr w h4 (by rw [hzc, e1]; omega) hone'
    have hrun : (execOp a.eval o).run P w = .ok (.value (.tuple #[])) (w.setRow L.b (splice arr.toList (L.base + lo * L.sz) (List.replicate n zv.cells.toList).flatten).toArray) := by
      obtain ⟨n', rfl⟩ := Nat.exists_eq_succ_of_ne_zero hn0
      simp only [Nat.add_zero] at hst
      have hst' : (storeCells ⟨L.b, L.base + lo * L.sz, none⟩ (Builtin.zeroCells zv.cells (n' + 1)).toList).run P w = .ok () (w.setRow L.b (splice arr.toList (L.base + lo * L.sz) (List.replicate (n' + 1) zv.cells.toList).flatten).toArray) := by
        rw [zc_cells T]; exact hst
      simp [execOp, ho, hax, resolve, invoke, builtin, Builtin.clear_, run_underlying hu, run_zeroValue' T hte hz, hst']
    unfold Oper.wp
    rw [hrun]
    simp only [Oper.upon, hdst, Act.put]
    have hcells : ∀ n : Nat, ARL w Z noLoc [] (List.replicate n (f zo)).flatten (List.replicate n zv.cells.toList).flatten := by
      intro n
      induction n with
      | zero => simpa using ARL.nil
      | succ n ih =>
        simp only [List.replicate_succ, List.flatten_cons]
        have := (hzl.rel (w := w) (Z := Z) (loc := noLoc) hone).append ih
        simpa using this
    have hfl : (List.replicate n (f zo)).flatten.length = n * ti.size := by
      rw [flat_len (sz := ti.size) (by intro c hc; rw [List.eq_of_mem_replicate hc]; exact hzo)]; simp
    have hxl : (l.map f).flatten.length = l.length * ti.size := by rw [flat_len e2, List.length_map]
    obtain ⟨fp', hsub, hnew⟩ := h6.spliceO (hcells n) (lo * ti.size) (by rw [hfl, hxl]; omega)
    have hspl : splice (l.map f).flatten (lo * ti.size) (List.replicate n (f zo)).flatten = ((l.take lo ++ List.replicate n zo ++ l.drop (lo + n)).map f).flatten := by
      unfold splice
      rw [hfl, ← hm3, flat_take lo e2, flat_drop (lo + n) e2]
      simp [List.map_append, List.map_take, List.map_drop]
    rw [hspl] at hnew
    have hnd := R.nodup id _ ⟨hg, by simp⟩
    rw [e5] at hnd
    have hown := R.owned id _ L.b ⟨hg, by simp⟩ (by rw [e5]; simp)
    have hspn : (splice arr.toList (L.base + lo * L.sz) (List.replicate n zv.cells.toList).flatten).length = arr.size := by rw [splice_len _ _ _ (by rw [hzc, e1]; simp; omega)]; simp
    refine ⟨Z, _, _, Rel.setRoot (ks := []) (L0 := L) (fp0 := L.b :: fp') R (by rw [setRow_size]; exact Nat.le_refl _) ?_ ?_ rfl rfl ⟨rfl, Nat.le_refl _⟩ ?_ (List.Nodup.sublist (hsub.cons_cons _) hnd) (.inr hL) (fun _ h => h) (fun _ h => .inl h) ?_⟩
    · intro b hb hn
      refine setRow_heap_other _ _ _ _ fun e => ?_
      subst e
      exact hn id _ (.inl rfl) ⟨hg, by simp⟩ (by rw [e5]; simp)
    · exact setRow_shape h4 (by rw [List.size_toArray, hspn])
    · intro b hb
      rw [setRow_size]
      have hb' : b ∈ fps id := by rw [e5]; exact (hsub.cons_cons _).subset hb
      exact ⟨(R.owned id _ b ⟨hg, by simp⟩ hb').2.1, .inr ⟨id, _, .inl rfl, ⟨hg, by simp⟩, hb'⟩⟩
    · refine ⟨e1, hrow, ⟨by rw [List.length_map, hlen]; exact hlen3, by rw [List.length_map, hlen]; exact hLn⟩, e4, .inr ⟨fp', _, el, rfl, setRow_heap w L.b arr _ el _ h4, ?_, ?_⟩⟩
      · simp only [List.size_toArray, hspn]; exact h5
      · rw [List.length_map, hlen]
        have hs : ((splice arr.toList (L.base + lo * L.sz) (List.replicate n zv.cells.toList).flatten).drop L.base).take (l.length * ti.size) = splice ((arr.toList.drop L.base).take (l.length * ti.size)) (lo * ti.size) (List.replicate n zv.cells.toList).flatten := by
          rw [e1]; exact splice_drop_take _ _ _ _ _ (by simp; omega) (by rw [hzc]; omega)
        simp only [hs]
        rw [List.length_map] at hnew
        refine hnew.mono (fun _ h => h) (fun _ _ h => h) (fun b hb => setRow_heap_other _ _ _ _ fun e => ?_)
        subst e
        rcases hb with hb | hb
        · exact hown.1 hb
        · exact (List.nodup_cons.1 hnd).1 (hsub.subset hb)
end

section
variable {P : Program} {te : TE} (T : TEok P te) {σ : St} {o : Oper}
include T
/-- an element of which a cell is lent, read whole -/
theorem load_lentS_ok {t : Nat} {ti : TI} {x : Operand} {id i k sz id' : Nat} {α : Type} {l : List α} {f : α → List D} {y : α} (ho : o.op = .load t x) (ht : te t = some ti) (hagg : ti.agg = true) (hx : σ.ev x = some (.e id i 0)) (hg : get σ.h id = some (.orow sz (l.map f) i k id'))
    (hc : l[i]? = some y) (hsz : ti.size = sz) (hk : Nat.blt k sz = true) (hv : ((f y).set k (.s [])).all D.isVS = true) : OpV P σ o (.g ((f y).set k (.R id'))) := by
  have hk := Nat.le_of_ble_eq_true hk
  refine OpV.of_val fun E a w Z loc fps R => ?_
  have h1 := R.ev hx
  generalize hax : a.eval x = vx at h1
  obtain ⟨L, hL, e1, e2, e3, e4, fpN, arr, el, e5, h4, h5, L', A, q1, q2, q4, q5, q6, h6, q7⟩ := R.roots id _ ⟨hg, by simp⟩
  have hcm : (l.map f)[i]? = some (f y) := by rw [List.getElem?_map, hc]; rfl
  have hlt : i < (l.map f).length := (List.getElem?_eq_some_iff.1 hcm).1
  have hcs : (f y).length = sz := e2 _ (List.mem_of_getElem? hcm)
  have hm := mul_succ_le (sz := sz) hlt
  cases h1 with
  | e g1 =>
    rw [hL] at g1; cases g1
    have hone : ARL w Z loc [] ((f y).set k (.R id')) ((arr.toList.drop (L.base + i * L.sz)).take sz) := by
      have hlen : (((arr.toList.drop L.base).take ((l.map f).length * sz))).length = (l.map f).length * sz := by
        rw [← h6.length, List.length_set, flat_len e2]
      have hlen2 : ((arr.toList.drop (L.base + i * L.sz)).take sz).length = sz := by
        rw [List.length_take, List.length_drop] at hlen ⊢
        rw [e1]
        omega
      refine ARL.of_get (by rw [List.length_set, hcs, hlen2]) fun j d v g1 g2 => ?_
      have hj : j < sz := by
        have := (List.getElem?_eq_some_iff.1 g1).1
        rw [List.length_set, hcs] at this; exact this
      rw [List.getElem?_take, if_pos hj, List.getElem?_drop] at g2
      by_cases hjk : j = k
      · subst hjk
        rw [List.getElem?_set, if_pos rfl, if_pos (by omega)] at g1
        cases g1
        have hv' : v = .slice A L'.n L'.tot := by
          have : arr.toList[L.base + (i * sz + j)]? = some v := by rw [← g2, e1]; congr 1; omega
          have q7' : arr.toList[L.base + (i * sz + j)]? = some (.slice A L'.n L'.tot) := by simpa using q7
          rw [q7'] at this; exact (Option.some.inj this).symm
        subst hv'
        exact ⟨rfl, .R q1 q2 q4 q5⟩
      · rw [List.getElem?_set_ne (fun e => hjk e.symm)] at g1
        have hd : d.isVS = true := by
          refine List.all_eq_true.1 hv d (List.mem_of_getElem? (i := j) ?_)
          rw [List.getElem?_set_ne (fun e => hjk e.symm)]; exact g1
        have hfl : ((l.map f).flatten.set (i * sz + k) .u)[i * sz + j]? = some d := by
          rw [List.getElem?_set_ne (by omega), flat_at e2 hcm hj]; exact g1
        obtain ⟨v', fp', k1, k2, k3⟩ := h6.getO hfl
        rw [List.getElem?_take, if_pos (by omega), List.getElem?_drop] at k1
        have : v' = v := by
          have e : L.base + (i * sz + j) = L.base + i * L.sz + j := by rw [e1]; omega
          rw [e, g2] at k1; exact (Option.some.inj k1).symm
        subst this
        have hp := (ARL.cons (fp := []) (fp' := []) k2 (k3.vs_fp hd).1 .nil).plain (ds := [d]) (by simp [D.isVS_plain hd]) loc
        have hz := hp.get0 (i := 0) (d := d) rfl
        obtain ⟨v2, z1, z2, z3⟩ := hz
        simp at z1; subst z1
        exact ⟨k2, z3⟩
    obtain ⟨u, h7, h8⟩ := run_loadVar' T ht (off := L.base + i * L.sz + 0) (d := .g ((f y).set k (.R id'))) h4 (fun j v hj => by
      rw [List.getElem?_take] at hj; split at hj
      · rw [List.getElem?_drop] at hj; exact hj
      · cases hj) hone (by
        unfold readAt
        rw [hagg, cond_true, hsz, show Nat.ble sz ((f y).set k (.R id')).length = true from by rw [List.length_set, hcs, Nat.ble_eq]; exact Nat.le_refl _, cond_true, List.take_of_length_le (by rw [List.length_set, hcs]; exact Nat.le_refl _)])
    rw [Nat.add_zero] at h7
    exact ⟨u, by simp [execOp, ho, hax, Instr.loadAt, Instr.sureAddr, h7], h8⟩
end
theorem lend_p {σ : St} {id : Nat} {ds es : List D} (hg : get σ.h id = some (.box ds)) (h : LendL σ ds es) : Lend σ (.p id 0) (.q es) := .box hg h.spec.1 h.spec.2
end Go.AM
end

section
namespace Go.AM

/-! What can be read as data of a known type is an immutable value by value. -/

inductive HasT (te : TE) : Nat → List D → Prop
  | int {t k s b z n} : te t = some ⟨.int k, s, b, z⟩ → (Lit.int k n).wf = true → HasT te t [.v (.int k n)]
  | bool {t s b z x} : te t = some ⟨.bool, s, b, z⟩ → HasT te t [.v (.bool x)]
  | str {t s b z x} : te t = some ⟨.str, s, b, z⟩ → x.size ≤ maxLen → HasT te t [.v (.string x)]
  | slice {t e s b z xs} : te t = some ⟨.slice e, s, b, z⟩ → xs.length ≤ maxN → (∀ x ∈ xs, HasT te e x) → HasT te t [.s xs]
  | struct {t fs s b z cs} : te t = some ⟨.struct fs, s, b, z⟩ → cs.length = s → (∀ f ∈ fs, ∀ ti, te f.2 = some ti → HasT te f.2 ((cs.drop f.1).take ti.size)) → HasT te t cs

/-- the fields lie one behind the other -/
def tilesFrom (te : TE) : Nat → List (Nat × Nat) → Nat → Bool
  | k, [], n => Nat.beq k n
  | k, (off, ft) :: fs, n => Nat.beq k off && (match te ft with | some ti => tilesFrom te (k + ti.size) fs n | none => false)

/-- a type that is known to the bottom -/
def readT (te : TE) : Nat → Nat → Bool
  | 0, _ => false
  | d + 1, t =>
    match te t with
    | some ⟨.int _, s, _, _⟩ => Nat.beq s 1
    | some ⟨.bool, s, _, _⟩ => Nat.beq s 1
    | some ⟨.str, s, _, _⟩ => Nat.beq s 1
    | some ⟨.slice e, s, _, _⟩ => Nat.beq s 1 && readT te d e && (match te e with | some ti => Nat.blt 0 ti.size | none => false)
    | some ⟨.struct fs, s, _, _⟩ => fs.all (fun f => readT te d f.2) && tilesFrom te 0 fs s
    | _ => false

theorem mapM_range_get {β : Type} {f : Nat → Option β} : ∀ {n : Nat} {r : List β}, (List.range n).mapM f = some r → r.length = n ∧ ∀ i, i < n → f i = r[i]? := by
  have gen : ∀ {α : Type} {f : α → Option β} {l : List α} {r : List β}, l.mapM f = some r → r.length = l.length ∧ ∀ (i : Nat) (x : α), l[i]? = some x → f x = r[i]? := by
    intro α f l
    induction l with
    | nil => intro r h; simp at h; subst h; simp
    | cons a l ih =>
      intro r h
      rw [List.mapM_cons] at h
      cases ha : f a with
      | none => simp [ha] at h
      | some b =>
        cases hl : l.mapM f with
        | none => simp [ha, hl] at h
        | some r' =>
          simp [ha, hl] at h
          subst h
          obtain ⟨h1, h2⟩ := ih hl
          refine ⟨by simp [h1], fun i x hi => ?_⟩
          cases i with
          | zero => simp at hi; subst hi; simp [ha]
          | succ i => simpa using h2 i x (by simpa using hi)
  intro n r h
  obtain ⟨h1, h2⟩ := gen h
  exact ⟨by simpa using h1, fun i hi => h2 i i (by simp [hi])⟩

theorem cells?_block {w : World} {base : Nat} {A : Addr} {n : Nat} {cs : List Value} (h : w.cells? base A n = some cs) (hn : 0 < n) :
    ∃ arr el fz, w.heap[A.block]? = some (.cells arr el fz) ∧ A.spot = none ∧ cs = (arr.toList.drop A.off).take n ∧ A.off + n ≤ arr.size := by
  unfold World.cells? at h
  split at h
  · obtain ⟨hl, hg⟩ := mapM_range_get h
    have h0 := hg 0 hn
    rw [List.getElem?_eq_getElem (by omega), Addr.add_zero'] at h0
    have hb : ∃ arr el fz, w.heap[A.block]? = some (.cells arr el fz) ∧ A.spot = none := by
      unfold World.cell? at h0
      split at h0
      · rename_i arr el fz hh
        refine ⟨arr, el, fz, hh, ?_⟩
        split at h0
        · cases h0
        · rename_i hs; simpa using hs
      · cases h0
    obtain ⟨arr, el, fz, hh, hsp⟩ := hb
    obtain ⟨bk, off, sp⟩ := A
    simp only at hsp hh
    subst hsp
    have hcell : ∀ i, i < n → arr[off + i]? = cs[i]? := by
      intro i hi
      have := hg i hi
      rw [Addr.add_lit] at this
      simpa [World.cell?, hh] using this
    have hle : off + n ≤ arr.size := by
      have := hcell (n - 1) (by omega)
      rw [List.getElem?_eq_getElem (by omega)] at this
      have := (Array.getElem?_eq_some_iff.1 this).1
      omega
    refine ⟨arr, el, fz, hh, rfl, ?_, hle⟩
    apply List.ext_getElem?
    intro i
    rw [List.getElem?_take]
    split
    · rename_i hi
      rw [List.getElem?_drop, ← hcell i hi]; simp
    · rename_i hi; rw [List.getElem?_eq_none (by omega)]
  · cases h

section
variable {P : Program} {te : TE} (T : TEok P te) {H : Type} {enc : TypeId × Value → H} {w : World}
include T

theorem cellsOf_te {t : Nat} {ti : TI} (h : te t = some ti) : P.cellsOf t = ti.size := by
  obtain ⟨i, d, h1, h2, rfl⟩ := te_parts T h
  simp [Program.cellsOf, h1]

theorem trod_open {base : Nat} {spare : Nat → Bool} {held : Bool} : ∀ (dp fuel t : Nat) (cs : List Value) (x : DataW H × List MemPlace), readT te dp t = true → DataW.trod enc P w base spare held fuel t cs = some x →
    ∃ ds : List D, ARL w (fun b => b < w.heap.size) noLoc [] ds cs ∧ HasT te t ds := by
  intro dp
  induction dp with
  | zero => intro fuel t cs x h; simp [readT] at h
  | succ dp ih =>
    intro fuel t cs x hr h
    unfold readT at hr
    split at hr
    · rename_i k s b z ht
      obtain ⟨n, rfl, _, hw⟩ := DataW.trod_int (und_int T ht) h
      exact ⟨[.v (.int k n)], .cons (fp := []) (fp' := []) rfl .v .nil, .int ht hw⟩
    · rename_i s b z ht
      obtain ⟨n, rfl, _⟩ := DataW.trod_bool (und_bool T ht) h
      exact ⟨[.v (.bool n)], .cons (fp := []) (fp' := []) rfl .v .nil, .bool ht⟩
    · rename_i s b z ht
      obtain ⟨n, rfl, _, hw⟩ := DataW.trod_string (und_str T ht) h
      exact ⟨[.v (.string n)], .cons (fp := []) (fp' := []) rfl .v .nil, .str ht hw⟩
    · rename_i e s b z ht
      simp only [Bool.and_eq_true] at hr
      obtain ⟨⟨_, hre⟩, hpos⟩ := hr
      split at hpos
      · rename_i ti hti
        have hpos : 0 < ti.size := by simpa [Nat.blt_eq] using hpos
        have hsz := cellsOf_te T hti
        rcases DataW.trod_slice (und_slice T ht) h with ⟨rfl, _⟩ | ⟨A, len, cap, elems, rest, n, _, rfl, _, _, hlc, hcm, hel, hget, _⟩
        · exact ⟨[.s []], .cons (fp := []) (fp' := []) rfl .s0 .nil, .slice ht (by simp) (by simp)⟩
        · have hmax : maxLen = maxN := rfl
          by_cases h0 : len = 0
          · subst h0
            exact ⟨[.s []], .cons (fp := []) (fp' := []) rfl .s0 .nil, .slice ht (by simp) (by simp)⟩
          · have hel0 : ∀ i, i < len → ∃ cs', w.cells? base (A.add (i * ti.size)) ti.size = some cs' ∧ ∃ ds, ARL w (fun b => b < w.heap.size) noLoc [] ds cs' ∧ HasT te e ds := by
              intro i hi
              have := hget i hi
              rw [hsz, List.getElem?_eq_getElem (by omega)] at this
              cases hc : w.cells? base (A.add (i * ti.size)) ti.size with
              | none => simp [hc] at this
              | some cs' =>
                simp only [hc, Option.bind_some] at this
                exact ⟨cs', rfl, ih n e cs' _ hre this⟩
            obtain ⟨cs0, hc0, _⟩ := hel0 0 (by omega)
            rw [Nat.zero_mul, Addr.add_zero'] at hc0
            obtain ⟨arr, el, fz, hh, hsp, _, _⟩ := cells?_block hc0 hpos
            obtain ⟨bk, off, sp⟩ := A
            simp only at hsp hh
            subst hsp
            have hlt : bk < w.heap.size := (Array.getElem?_eq_some_iff.1 hh).1
            have key : ∀ n, n ≤ len → ∃ xs : List (List D), xs.length = n ∧ (∀ x ∈ xs, x.length = ti.size) ∧ (∀ x ∈ xs, HasT te e x) ∧ ARL w (fun b => b < w.heap.size) noLoc [] xs.flatten ((arr.toList.drop off).take (n * ti.size)) := by
              intro n
              induction n with
              | zero => intro _; exact ⟨[], rfl, by simp, by simp, by simpa using ARL.nil⟩
              | succ n ihn =>
                intro hn
                obtain ⟨xs, h1, h2, h3, h4⟩ := ihn (by omega)
                obtain ⟨cs', hc', ds, h5, h6⟩ := hel0 n (by omega)
                rw [Addr.add_lit] at hc'
                obtain ⟨arr', el', fz', hh', _, hcs, hle⟩ := cells?_block hc' hpos
                simp only at hh' hcs hle
                rw [hh] at hh'; cases hh'
                have hl := h5.length
                have hlen : ds.length = ti.size := by rw [hl, hcs]; simp; omega
                refine ⟨xs ++ [ds], by simp [h1], ?_, ?_, ?_⟩
                · intro x hx; rcases List.mem_append.1 hx with hx | hx
                  · exact h2 x hx
                  · simp at hx; subst hx; exact hlen
                · intro x hx; rcases List.mem_append.1 hx with hx | hx
                  · exact h3 x hx
                  · simp at hx; subst hx; exact h6
                · have e : (arr.toList.drop off).take ((n + 1) * ti.size) = (arr.toList.drop off).take (n * ti.size) ++ cs' := by
                    rw [hcs, Nat.succ_mul, List.take_add, List.drop_drop]
                  rw [e]
                  have := h4.append h5
                  simpa using this
            obtain ⟨xs, h1, h2, h3, h4⟩ := key len (Nat.le_refl _)
            subst h1
            exact ⟨[.s xs], .cons (fp := []) (fp' := []) rfl (.s hlt hh h2 hlc (by omega) h4) .nil, .slice ht (by omega) h3⟩
      · cases hpos
    · rename_i fs s b z ht
      simp only [Bool.and_eq_true] at hr
      obtain ⟨hre, htile⟩ := hr
      obtain ⟨fields, hu, hfs⟩ := und_struct T ht
      obtain ⟨xs, n, _, _, hlen, hxl, hget⟩ := DataW.trod_struct hu h
      rw [cellsOf_te T ht] at hlen
      simp only at hlen
      have hfield : ∀ f ∈ fs, ∀ ti, te f.2 = some ti → ∃ ds, ARL w (fun b => b < w.heap.size) noLoc [] ds ((cs.drop f.1).take ti.size) ∧ HasT te f.2 ds := by
        intro f hf ti hti
        rw [← hfs] at hf
        obtain ⟨fd, hfd, rfl⟩ := List.mem_map.1 hf
        obtain ⟨i, hi, rfl⟩ := List.mem_iff_getElem.1 hfd
        have hi' : i < fields.size := by simpa using hi
        have := hget i fields[i] (by simp [hi'])
        simp only [Array.getElem_toList] at hti ⊢
        rw [List.getElem?_eq_getElem (by omega), cellsOf_te T hti] at this
        have hrr : readT te dp fields[i].type = true := by
          have := List.all_eq_true.1 hre (fields[i].offset, fields[i].type) (by rw [← hfs]; exact List.mem_map.2 ⟨fields[i], by simp, rfl⟩)
          exact this
        exact ih n _ _ _ hrr this
      -- the fields' cells one behind the other
      have tile : ∀ (gs : List (Nat × Nat)) (k : Nat), (∀ f ∈ gs, f ∈ fs) → tilesFrom te k gs s = true → ∃ ds, ARL w (fun b => b < w.heap.size) noLoc [] ds (cs.drop k) ∧ k ≤ s ∧ ∀ f ∈ gs, ∀ ti, te f.2 = some ti → k ≤ f.1 ∧ HasT te f.2 ((ds.drop (f.1 - k)).take ti.size) := by
        intro gs
        induction gs with
        | nil =>
          intro k _ ht'
          have : k = s := Nat.eq_of_beq_eq_true ht'
          subst this
          exact ⟨[], by rw [List.drop_of_length_le (by omega)]; exact .nil, Nat.le_refl _, by simp⟩
        | cons g gs ihg =>
          intro k hsub ht'
          obtain ⟨off, ft⟩ := g
          simp only [tilesFrom, Bool.and_eq_true] at ht'
          obtain ⟨hk, ht'⟩ := ht'
          have hk : k = off := Nat.eq_of_beq_eq_true hk
          subst hk
          split at ht'
          · rename_i ti hti
            obtain ⟨ds1, a1, a2⟩ := hfield (k, ft) (hsub _ (by simp)) ti hti
            obtain ⟨ds2, b1, b2, b3⟩ := ihg (k + ti.size) (fun f hf => hsub f (by simp [hf])) ht'
            have hl1 := a1.length
            have hlen1 : ds1.length = ti.size := by rw [hl1]; simp; omega
            refine ⟨ds1 ++ ds2, ?_, by omega, ?_⟩
            · have := a1.append b1
              rw [← List.drop_drop, List.take_append_drop] at this
              simpa using this
            · intro f hf ti' hti'
              rcases List.mem_cons.1 hf with rfl | hf
              · rw [hti] at hti'; cases hti'
                refine ⟨Nat.le_refl _, ?_⟩
                simp only [Nat.sub_self, List.drop_zero]
                rw [List.take_append_of_le_length (by omega), List.take_of_length_le (by omega)]; exact a2
              · obtain ⟨c1, c2⟩ := b3 f hf ti' hti'
                refine ⟨by omega, ?_⟩
                rw [List.drop_append, List.drop_of_length_le (by omega), List.nil_append, hlen1, show f.1 - k - ti.size = f.1 - (k + ti.size) by omega]
                exact c2
          · cases ht'
      obtain ⟨ds, d1, _, d3⟩ := tile fs 0 (fun _ h => h) htile
      rw [List.drop_zero] at d1
      refine ⟨ds, d1, .struct ht (by rw [d1.length, hlen]) fun f hf ti hti => ?_⟩
      have := (d3 f hf ti hti).2
      simpa using this
    · cases hr

/-- an argument -/
theorem arg_open {dp t b0 : Nat} {r : Reach} {v : Value} {d : DataW H} {ps : List MemPlace} {base : Nat} {spare : Nat → Bool} {held : Bool} {ti : TI} (ht : te t = some ti) (hr : readT te dp t = true) (hval : Value.okWide P w r b0 t v) (h : DataW.Trod enc P w base spare held t v d ps) :
    ∃ ds : List D, HasT te t ds ∧ ∀ d0, (bif ti.agg then some (.g ds) else ds.head?) = some d0 → AR w (fun b => b < w.heap.size) noLoc [] d0 v := by
  obtain ⟨fuel, hf⟩ := h
  obtain ⟨ds, h1, h2⟩ := trod_open T dp fuel t _ _ hr hf
  refine ⟨ds, h2, fun d0 hd => ?_⟩
  obtain ⟨i, dd, _, hu, rfl⟩ := te_parts T ht
  cases hagg : TI.agg ⟨tkOf dd, i.size, i.bytes, i.zero⟩
  · simp only [hagg, cond_false] at hd
    have hone : v.cells = #[v] := by
      cases h2 with
      | int h' _ => obtain ⟨n, rfl⟩ := WideShapes.okWide_int (und_int T h') hval; rfl
      | bool h' => obtain ⟨n, rfl⟩ := WideShapes.okWide_bool (und_bool T h') hval; rfl
      | str h' _ => obtain ⟨n, rfl⟩ := WideShapes.okWide_string (und_str T h') hval; rfl
      | slice h' _ _ => obtain ⟨a, l, c, rfl⟩ := WideShapes.okWide_slice (und_slice T h') hval; rfl
      | struct h _ _ => rw [ht] at h; simp only [Option.some.injEq, TI.mk.injEq] at h; rw [TI.agg, h.1] at hagg; simp at hagg
    rw [hone] at h1
    cases h2 with
    | int => simp at hd; subst hd; obtain ⟨u, e, _, r⟩ := h1.get0 (i := 0) rfl; simp at e; subst e; exact r
    | bool => simp at hd; subst hd; obtain ⟨u, e, _, r⟩ := h1.get0 (i := 0) rfl; simp at e; subst e; exact r
    | str => simp at hd; subst hd; obtain ⟨u, e, _, r⟩ := h1.get0 (i := 0) rfl; simp at e; subst e; exact r
    | slice => simp at hd; subst hd; obtain ⟨u, e, _, r⟩ := h1.get0 (i := 0) rfl; simp at e; subst e; exact r
    | struct h _ _ => rw [ht] at h; simp only [Option.some.injEq, TI.mk.injEq] at h; rw [TI.agg, h.1] at hagg; simp at hagg
  · simp only [hagg, cond_true, Option.some.injEq] at hd
    subst hd
    have : ∃ cs, v = .agg cs := by
      unfold Value.okWide at hval
      rw [hu] at hval
      cases dd <;> simp [TI.agg, tkOf] at hagg
      · obtain ⟨cs, h, _⟩ := hval; exact ⟨cs, h⟩
      · obtain ⟨cs, h, _⟩ := hval; exact ⟨cs, h⟩
    obtain ⟨cs, rfl⟩ := this
    exact .g h1

end

theorem list_of_each {α β : Type} {f : α → β} {p : α → Prop} : ∀ {xs : List β}, (∀ x ∈ xs, ∃ a, p a ∧ x = f a) → ∃ l : List α, xs = l.map f ∧ ∀ a ∈ l, p a
  | [], _ => ⟨[], rfl, by simp⟩
  | x :: xs, h => by
    obtain ⟨a, hp, rfl⟩ := h x (by simp)
    obtain ⟨l, e, hl⟩ := list_of_each (f := f) (p := p) (xs := xs) (fun y hy => h y (by simp [hy]))
    subst e
    exact ⟨a :: l, rfl, by simpa using ⟨hp, hl⟩⟩

/-! closing a law -/

theorem Ext.below {W W' : World} (X : Ext W W') : RowKit.Below W.heap.size W W' := ⟨X.os, X.tape.1, X.output, X.size, fun k hk => X.same k hk⟩

open ChangeShapes in
theorem law_post {H : Type} {enc : TypeId × Value → H} {P : Program} {f : Func} {s : ChangeSpec} {W W' : World} {args : Array Value} {ds gs : List (DataW H)} {before : List MemPlace} {tb : TypeId} (hl : laidOutB P = true) (hr : ∀ t ∈ f.params.toList, P.readableRec t = true ∧ t < P.types.size)
    (hvars : s.vars = []) (hrt : f.resultTypes = #[tb]) (htb : P.underlying tb = some .bool) (hsp : (s.fn H (ds ++ gs)).results = [.lit (.bool true)] ∧ (s.fn H (ds ++ gs)).args = ds ∧ (s.fn H (ds ++ gs)).vars = [])
    (hW : DataW.Whole enc P f.params.toList s.vars false W args.toList ds gs before) (X : Ext W W') : s.post enc P f false true false false W args (.bool true) W' := by
  obtain ⟨p, q, hA, hV, hps, hfz, _⟩ := id hW
  have hlt : ∀ x ∈ p, x.block < W.heap.size := fun x hx => hW.lt x (by rw [hps]; exact List.mem_append_left _ hx)
  rw [hvars] at hV
  obtain ⟨_, hq⟩ := trodVars_none hV
  have stay : ∀ {ts : List TypeId} {vs : List Value} {ds : List (DataW H)} {p : List MemPlace}, (∀ t ∈ ts, P.readableRec t = true ∧ t < P.types.size) → (∀ x ∈ p, x.block < W.heap.size) → DataW.TrodAll enc P W 0 (fun _ => true) true ts vs ds p →
      DataW.TrodAll enc P W' 0 (fun b => decide (b < W.heap.size)) true ts vs ds p := by
    intro ts
    induction ts with
    | nil =>
      intro vs ds p _ _ h
      cases vs <;> cases ds <;> simp_all [DataW.TrodAll]
    | cons t ts ih =>
      intro vs ds p hts hlt h
      cases vs with
      | nil => simp [DataW.TrodAll] at h
      | cons v vs =>
        cases ds with
        | nil => simp [DataW.TrodAll] at h
        | cons d ds =>
          obtain ⟨p1, p2, h1, h2, rfl⟩ := h
          exact ⟨p1, p2, RowKit.Below.trod hl (hts t (by simp)).1 (hts t (by simp)).2 h1 X.below (fun x hx => hlt x (List.mem_append_left _ hx)), ih (fun t ht => hts t (by simp [ht])) (fun x hx => hlt x (List.mem_append_right _ hx)) h2, rfl⟩
  refine ⟨ds, gs, before, [], p, [], hW, ?_, ?_, ?_, X.below.frame _, fun h => by cases h⟩
  · rw [hsp.1, hrt]
    exact ⟨[], [], RowKit.shut_bool htb true, rfl, rfl⟩
  · rw [hsp.2.1]; exact stay hr hlt hA
  · rw [hvars, hsp.2.2]; rfl

end Go.AM
end

section
namespace Go.AM

/-! words for the plain laws -/

theorem opt_t {α : Type} (d : α) (m : Option α) : opt true d m = m := rfl
theorem opt_f {α : Type} (d : α) (m : Option α) : opt false d m = some d := rfl
theorem need_t : need true = some () := rfl
theorem w64_in {n : Int} (h : -9223372036854775808 ≤ n ∧ n ≤ 9223372036854775807) : w64 n = n := inI_i64 h
theorem bnd {α β : Type} {o : Option α} {x : α} {f : α → Option β} (h : o = some x) : o.bind f = f x := by rw [h]; rfl
theorem fits_of {B n : Nat} (h : 2 * n * B ≤ 281474976710656) : fitsB B n = true := Nat.ble_eq_true_of_le h
theorem getI_lt_some {α : Type} {l : List α} {k : Nat} (h : k < l.length) : getI l (k : Int) = some l[k] := by rw [getI_nat]; exact List.getElem?_eq_getElem h
theorem getI_of {α : Type} {l : List α} {i : Int} {k : Nat} (hi : i = (k : Int)) : getI l i = l[k]? := by subst hi; exact getI_nat l k
theorem getI_pre {α : Type} (pre : List α) (y : α) (ys : List α) {i : Int} (hi : i = (pre.length : Int)) : getI (pre ++ y :: ys) i = some y := by
  rw [getI_of hi]; simp
theorem sliceHi_pre {α : Type} (pre ys : List α) {i : Int} (hi : i = (pre.length : Int)) : sliceHi (pre ++ ys) i = some pre := by
  subst hi
  unfold sliceHi
  rw [if_pos ⟨by omega, by simp only [List.length_append]; omega⟩]
  simp
theorem sliceHi_of {α : Type} {l : List α} {i : Int} {k : Nat} (hi : i = (k : Int)) (hk : k ≤ l.length) : sliceHi l i = some (l.take k) := by
  subst hi; unfold sliceHi; rw [if_pos ⟨by omega, by omega⟩]; simp
theorem sliceLo_of {α : Type} {l : List α} {i : Int} {k : Nat} (hi : i = (k : Int)) (hk : k ≤ l.length) : sliceLo l i = some (l.drop k) := by
  subst hi; unfold sliceLo; rw [if_pos ⟨by omega, by omega⟩]; simp

/-- a loop that fills a made row -/
theorem set_step {α : Type} (pre : List α) (z y : α) (n : Nat) : (pre ++ List.replicate (n + 1) z).set ((pre.length : Int).toNat) y = (pre ++ [y]) ++ List.replicate n z := by
  simp [List.set_append, List.replicate_succ]

def inR (n : Int) : Prop := -9223372036854775808 ≤ n ∧ n ≤ 9223372036854775807
theorem inR_of {n : Int} (h : (Lit.int .i64 n).wf = true) : inR n := by
  have := h
  simp [Lit.wf, IntKind.min, IntKind.max, IntKind.signed, IntKind.bits] at this
  unfold inR
  omega
theorem le_sum {α : Type} {l : List α} {x : α} (h : x ∈ l) (f : α → Nat) : f x ≤ (l.map f).sum := by
  induction l with
  | nil => simp at h
  | cons y l ih =>
    simp only [List.map_cons, List.sum_cons]
    rcases List.mem_cons.1 h with rfl | h
    · omega
    · have := ih h; omega
/-- returns a bool that says P -/
def Ret (o : Option Bool) (P : Prop) : Prop := ∃ b, o = some b ∧ (b = true ↔ P)
theorem Ret.same {o o' : Option Bool} {P P' : Prop} (h : Ret o P) (h' : Ret o' P') (e : P ↔ P') : ∃ b, o = some b ∧ o' = some b := by
  obtain ⟨b, h1, h2⟩ := h
  obtain ⟨b', h3, h4⟩ := h'
  have : b = b' := Bool.eq_iff_iff.2 (h2.trans (e.trans h4.symm))
  subst this
  exact ⟨b, h1, h3⟩
theorem Ret.iff {o : Option Bool} {P P' : Prop} (h : Ret o P) (e : P ↔ P') : Ret o P' := by obtain ⟨b, h1, h2⟩ := h; exact ⟨b, h1, h2.trans e⟩
theorem Ret.some {b : Bool} {P : Prop} (h : b = true ↔ P) : Ret (Option.some b) P := ⟨b, rfl, h⟩
theorem Ret.f {P : Prop} (h : ¬ P) : Ret (Option.some false) P := ⟨false, rfl, by simp [h]⟩
theorem Ret.t {P : Prop} (h : P) : Ret (Option.some true) P := ⟨true, rfl, by simp [h]⟩
theorem Ret.bind {o : Option Bool} {P : Prop} (h : Ret o P) {β : Type} {k : Bool → Option β} {Q : Option β → Prop} (ht : P → Q (k true)) (hf : ¬ P → Q (k false)) : Q (o.bind k) := by
  obtain ⟨b, h1, h2⟩ := h
  subst h1
  cases b
  · exact hf (fun hp => by simpa using h2.2 hp)
  · exact ht (h2.1 rfl)

theorem Ret.bindR {o : Option Bool} {P R : Prop} (h : Ret o P) {k : Bool → Option Bool} (ht : P → Ret (k true) R) (hf : ¬ P → Ret (k false) R) : Ret (o.bind k) R := h.bind (Q := fun o => Ret o R) ht hf
theorem Ret.condR {b : Bool} {x y : Option Bool} {R : Prop} (ht : b = true → Ret x R) (hf : b = false → Ret y R) : Ret (cond b x y) R := by
  cases b
  · exact hf rfl
  · exact ht rfl
theorem Ret.dcond {P : Prop} [Decidable P] {x y : Option Bool} {R : Prop} (ht : P → Ret x R) (hf : ¬ P → Ret y R) : Ret (cond (decide P) x y) R := .condR (fun h => ht (of_decide_eq_true h)) (fun h => hf (of_decide_eq_false h))

theorem getI_app {α : Type} {l pre ys : List α} {y : α} {i : Int} (hl : l = pre ++ y :: ys) (hi : i = (pre.length : Int)) : getI l i = some y := by subst hl; exact getI_pre pre y ys hi
theorem w64_pred {k : Nat} (h : k ≤ 9223372036854775807) : w64 (((k + 1 : Nat) : Int) - 1) = (k : Int) := by rw [w64_in (by omega)]; omega
theorem pos_d {k : Nat} : decide (((k + 1 : Nat) : Int) > 0) = true := decide_eq_true (by omega)
theorem zero_d : decide (((0 : Nat) : Int) > 0) = false := rfl

theorem getI_pre1 {α : Type} (pre : List α) (y : α) (ys : List α) : getI (pre ++ y :: ys) (pre.length : Int) = some y := getI_pre pre y ys rfl
theorem set_pre1 {α : Type} (pre : List α) (y z : α) (ys : List α) : (pre ++ y :: ys).set ((pre.length : Int).toNat) z = pre ++ z :: ys := by simp [List.set_append]

/-- one more behind a list in order -/
theorem pw_snoc {α : Type} {R : α → α → Prop} (tr : ∀ a b c, R a b → R b c → R a c) {pre : List α} {y : α} (hp : pre.Pairwise R) (hl : ∀ l, pre.getLast? = some l → R l y) : (pre ++ [y]).Pairwise R := by
  rw [List.pairwise_append]
  refine ⟨hp, List.pairwise_singleton _ _, fun a ha b hb => ?_⟩
  obtain rfl := List.mem_singleton.1 hb
  rcases List.eq_nil_or_concat pre with rfl | ⟨q, l, rfl⟩
  · simp at ha
  · have hlb := hl l (by simp)
    simp only [List.concat_eq_append] at ha hp
    rcases List.mem_append.1 ha with h | h
    · exact tr _ _ _ ((List.pairwise_append.1 hp).2.2 a h l (by simp)) hlb
    · obtain rfl := List.mem_singleton.1 h; exact hlb

end Go.AM
end

/- A part of my own walk library: how the model runs a function, told over abstract values. It states no law of the program; no condition. -/
import Derived.Test.YtioegmjleofmeaaGreatAm3
set_option linter.unusedSimpArgs false
set_option linter.unusedVariables false
set_option linter.unusedSectionVars false

section
namespace Go.AM

theorem edgeTo_spec {o : Oper} {j : Nat} (h : edgeTo o j = true) : ∃ e ∈ o.after, e.on = j ∧ Region.binds .any e = true := by
  unfold edgeTo at h
  obtain ⟨i, hi, hb⟩ := Array.any_eq_true.1 h
  simp only [Bool.and_eq_true] at hb
  exact ⟨_, Array.getElem_mem hi, Nat.eq_of_beq_eq_true hb.1, hb.2⟩

structure DrawOk (ops : Array Oper) (m : Nat) : Prop where
  le : m ≤ ops.size
  low : ∀ i o, ops[i]? = some o → ∀ e ∈ o.after, Region.binds .any e = true → e.on < i
  look : ∀ i j oi oj d, i ≠ j → ops[i]? = some oi → ops[j]? = some oj → oj.dst = some d → memN d (oi.looksAt ops) = true → if j < i then edgeTo oi j = true else edgeTo oj i = true
  dst : ∀ i j oi oj d, i ≠ j → i < m → j < m → ops[i]? = some oi → ops[j]? = some oj → oi.dst = some d → oj.dst ≠ some d
  last : ∀ i j oi, m ≤ i → j < i → ops[i]? = some oi → reachI ops i j = true

theorem drawOk_spec {ops : Array Oper} {m : Nat} (h : drawOk ops m = true) : DrawOk ops m := by
  unfold drawOk at h
  simp only [Bool.and_eq_true] at h
  obtain ⟨h0, h1⟩ := h
  have key : ∀ i oi, ops[i]? = some oi → (∀ e ∈ oi.after, (!Region.binds .any e || Nat.blt e.on i) = true) ∧ ∀ j oj, ops[j]? = some oj → i ≠ j →
      ((bif dstIn oj (oi.looksAt ops) then (bif Nat.blt j i then edgeTo oi j else edgeTo oj i) else true) &&
        (bif (Nat.blt i m && Nat.blt j m) then dstNe oi oj else true) &&
        (bif (Nat.ble m i && Nat.blt j i) then reachI ops i j else true)) = true := by
    intro i oi hi
    have hlt := (Array.getElem?_eq_some_iff.1 hi).1
    have := List.all_eq_true.1 h1 i (List.mem_range.2 hlt)
    simp only [hi, Bool.and_eq_true] at this
    refine ⟨fun e he => ?_, fun j oj hj hne => ?_⟩
    · obtain ⟨k, hk, rfl⟩ := Array.mem_iff_getElem.1 he
      exact Array.all_eq_true.1 this.1 k hk
    · have hltj := (Array.getElem?_eq_some_iff.1 hj).1
      have h3 := List.all_eq_true.1 this.2 j (List.mem_range.2 hltj)
      have hbeq : Nat.beq i j = false := by cases hb : Nat.beq i j; rfl; exact absurd (Nat.eq_of_beq_eq_true hb) hne
      rw [hbeq, hj] at h3
      simpa only [Bool.false_or, Bool.and_eq_true] using h3
  refine ⟨Nat.le_of_ble_eq_true h0, ?_, ?_, ?_, ?_⟩
  · intro i o hi e he hb
    have := (key i o hi).1 e he
    simp only [hb, Bool.not_true, Bool.false_or, Nat.blt_eq] at this
    exact this
  · intro i j oi oj d hne hi hj hd hm
    have := (key i oi hi).2 j oj hj hne
    simp only [Bool.and_eq_true] at this
    have h3 := this.1.1
    simp only [dstIn, hd, hm, cond_true] at h3
    split
    · rename_i hlt
      have : Nat.blt j i = true := by simpa [Nat.blt_eq] using hlt
      simpa [this] using h3
    · rename_i hlt
      have : Nat.blt j i = false := by cases hb : Nat.blt j i; rfl; exact absurd (by simpa [Nat.blt_eq] using hb) hlt
      simpa [this] using h3
  · intro i j oi oj d hne him hjm hi hj hd hd'
    have := (key i oi hi).2 j oj hj hne
    simp only [Bool.and_eq_true] at this
    have h3 := this.1.2
    have e1 : Nat.blt i m = true := by simpa [Nat.blt_eq] using him
    have e2 : Nat.blt j m = true := by simpa [Nat.blt_eq] using hjm
    simp only [e1, e2, Bool.and_self, cond_true, dstNe, hd, hd'] at h3
    simp at h3
  · intro i j oi him hji hi
    have hltj : j < ops.size := Nat.lt_trans hji (Array.getElem?_eq_some_iff.1 hi).1
    have := (key i oi hi).2 j ops[j] (by simp [hltj]) (by omega)
    simp only [Bool.and_eq_true] at this
    have h3 := this.2
    have e1 : Nat.ble m i = true := Nat.ble_eq_true_of_le him
    have e2 : Nat.blt j i = true := by simpa [Nat.blt_eq] using hji
    simpa [e1, e2] using h3

section
variable {P : Program} {ops : Array Oper} {m : Nat} (D0 : DrawOk ops m)

def Lf (listed : Array Bool) (i : Nat) : Bool := listed.getD i false

def Closed (ops : Array Oper) (listed : Array Bool) : Prop := ∀ i o, Lf listed i = true → ops[i]? = some o → ∀ e ∈ o.after, Region.binds .any e = true → Lf listed e.on = true

theorem Lf_set {listed : Array Bool} {i : Nat} (hi : i < listed.size) (x : Nat) : Lf (listed.setIfInBounds i true) x = if x = i then true else Lf listed x := by
  unfold Lf
  simp only [Array.getD_eq_getD_getElem?]
  split
  · rename_i e; subst e; simp [hi]
  · rename_i e; rw [Array.getElem?_setIfInBounds_ne (fun e' => e e'.symm)]

theorem getD_of_lt {listed : Array Bool} {i : Nat} (hi : i < listed.size) (b : Bool) : listed.getD i b = Lf listed i := by
  unfold Lf; simp [Array.getD_eq_getD_getElem?, hi]

theorem Closed.set {listed : Array Bool} {i : Nat} {o : Oper} (hc : Closed ops listed) (hi : i < listed.size) (ho : ops[i]? = some o) (hr : ∀ e ∈ o.after, Region.binds .any e = true → Lf listed e.on = true) : Closed ops (listed.setIfInBounds i true) := by
  intro j oj hj hoj e he hb
  rw [Lf_set hi] at hj ⊢
  split
  · rfl
  · split at hj
    · rename_i e'; subst e'; rw [ho] at hoj; cases hoj; exact hr e he hb
    · exact hc j oj hj hoj e he hb

theorem reach_spec {listed : Array Bool} (hc : Closed ops listed) {i j : Nat} {o : Oper} (ho : ops[i]? = some o) (hr : ∀ e ∈ o.after, Region.binds .any e = true → Lf listed e.on = true) (h : reachI ops i j = true) : Lf listed j = true := by
  have good : ∀ (acc : List Nat) (pre : List Oper), acc.length = pre.length → (∀ (x : Nat) (q : Oper), pre[x]? = some q → ∀ j, (acc.getD x 0).testBit j = true → (∀ e ∈ q.after, Region.binds .any e = true → Lf listed e.on = true) → Lf listed j = true) →
      ∀ (l : List Oper), pre ++ l = ops.toList → ∀ (x : Nat) (q : Oper), (pre ++ l)[x]? = some q → ∀ j, ((masks l acc).getD x 0).testBit j = true → (∀ e ∈ q.after, Region.binds .any e = true → Lf listed e.on = true) → Lf listed j = true := by
    intro acc pre hlen hacc l
    induction l generalizing acc pre with
    | nil => intro _ x q hx j hj hq; simp only [masks] at hj; exact hacc x q (by simpa using hx) j hj hq
    | cons p l ih =>
      intro hops x q hx j hj hq
      simp only [masks] at hj
      refine ih (acc ++ [maskOf acc p]) (pre ++ [p]) (by simp [hlen]) ?_ (by simpa using hops) x q (by simpa using hx) j hj hq
      intro x q hx j hj hq
      by_cases hxl : x < pre.length
      · rw [List.getElem?_append_left hxl] at hx
        rw [List.getD_eq_getElem?_getD, List.getElem?_append_left (by omega), ← List.getD_eq_getElem?_getD] at hj
        exact hacc x q hx j hj hq
      · have hxe : x = pre.length := by
          have := (List.getElem?_eq_some_iff.1 hx).1
          simp at this; omega
        subst hxe
        rw [List.getElem?_append_right (Nat.le_refl _), Nat.sub_self] at hx
        simp at hx; subst hx
        rw [List.getD_eq_getElem?_getD, List.getElem?_append_right (by omega), hlen, Nat.sub_self] at hj
        simp only [List.getElem?_cons_zero, Option.getD_some] at hj
        unfold maskOf at hj
        have fold : ∀ (es : List Edge) (m0 : Nat), (∀ e ∈ es, e ∈ p.after) → (m0.testBit j = true → Lf listed j = true) → (es.foldl (fun m e => bif Region.binds .any e then m ||| (1 <<< e.on) ||| acc.getD e.on 0 else m) m0).testBit j = true → Lf listed j = true := by
          intro es
          induction es with
          | nil => intro m0 _ h0 h; exact h0 h
          | cons e es ihe =>
            intro m0 hm h0 h
            simp only [List.foldl_cons] at h
            refine ihe _ (fun e' he' => hm e' (List.mem_cons_of_mem _ he')) ?_ h
            intro hb
            cases hbe : Region.binds .any e with
            | false => rw [hbe] at hb; exact h0 hb
            | true =>
              rw [hbe, cond_true, Nat.testBit_or, Nat.testBit_or] at hb
              simp only [Bool.or_eq_true] at hb
              have hL := hq e (hm e (by simp)) hbe
              rcases hb with (hb | hb) | hb
              · exact h0 hb
              · rw [Nat.one_shiftLeft, Nat.testBit_two_pow] at hb
                have : e.on = j := by simpa using hb
                rw [← this]; exact hL
              · by_cases hon : e.on < pre.length
                · have hp : pre[e.on]? = some pre[e.on] := List.getElem?_eq_getElem hon
                  refine hacc e.on _ hp j hb fun e' he' hb' => ?_
                  exact hc e.on pre[e.on] hL (by
                    have : ops.toList[e.on]? = some pre[e.on] := by rw [← hops, List.getElem?_append_left hon]; exact hp
                    simpa using this) e' he' hb'
                · rw [List.getD_eq_getElem?_getD, List.getElem?_eq_none (by omega)] at hb
                  simp at hb
        exact fold p.after.toList 0 (fun e he => by simpa using he) (by simp) hj
  exact good [] [] rfl (by simp) ops.toList rfl i o (by simpa using ho) j h hr

include D0

theorem ready_i {listed : Array Bool} (hs : listed.size = ops.size) {i : Nat} (hi : i < ops.size) (hun : Lf listed i = false) (hall : ∀ j, j < i → Lf listed j = true) : i ∈ Region.ready .any ops listed := by
  rw [mem_ready]
  refine ⟨by rw [getD_of_lt (by omega)]; exact hun, ops[i], by simp [hi], fun e he hb => ?_⟩
  exact hall _ (D0.low i ops[i] (by simp [hi]) e he hb)

/-- the last operations, one behind the other -/
theorem seq_any {Q : Exit → Act → World → Prop} : ∀ (f i : Nat) (listed : Array Bool) (a : Act) (w : World), f = ops.size - i → m ≤ i → i ≤ ops.size → listed.size = ops.size → (∀ x, x < ops.size → Lf listed x = decide (x < i)) →
    wpOps P ops Q (List.range' i (ops.size - i)) a w → wpAny P .any ops Q f listed a w := by
  intro f
  induction f with
  | zero =>
    intro i listed a w hf hm hi hs hL h
    have : ops.size - i = 0 := by omega
    rw [this] at h
    refine ⟨?_, by simpa [wpOps] using h⟩
    rw [List.eq_nil_iff_forall_not_mem]
    intro x hx
    rw [mem_ready] at hx
    obtain ⟨h1, o, h2, _⟩ := hx
    have hx : x < ops.size := (Array.getElem?_eq_some_iff.1 h2).1
    rw [getD_of_lt (by omega), hL x hx] at h1
    have := of_decide_eq_false h1
    omega
  | succ f ih =>
    intro i listed a w hf hm hi hs hL h
    have hlt : i < ops.size := by omega
    have hready : i ∈ Region.ready .any ops listed := ready_i D0 hs hlt (by rw [hL i hlt]; simp) (fun j hj => by rw [hL j (by omega)]; simpa using hj)
    refine ⟨fun he => by rw [he] at hready; simp at hready, fun x hx => ?_⟩
    have hxi : x = i := by
      rw [mem_ready] at hx
      obtain ⟨h1, o, h2, h3⟩ := hx
      have hx : x < ops.size := (Array.getElem?_eq_some_iff.1 h2).1
      rw [getD_of_lt (by omega), hL x hx] at h1
      have hge := of_decide_eq_false h1
      by_cases e : x = i
      · exact e
      · have hcl : Closed ops listed := by
          intro y oy hy hoy ed he hb
          have hyn := (Array.getElem?_eq_some_iff.1 hoy).1
          have h5 := D0.low y oy hoy ed he hb
          rw [hL y hyn] at hy
          rw [hL ed.on (by omega)]
          exact decide_eq_true (by have := of_decide_eq_true hy; omega)
        have h4 : Lf listed i = true := reach_spec hcl h2 (fun ed he hb => h3 ed he hb) (D0.last x i o (by omega) (by omega) h2)
        rw [hL i hlt] at h4
        have := of_decide_eq_true h4
        omega
    subst hxi
    rw [show ops.size - x = (ops.size - (x + 1)) + 1 by omega, List.range'_succ, wpOps_cons] at h
    refine wpOp_mono (fun a' w' hk => ?_) h
    refine ih (x + 1) _ a' w' (by omega) (by omega) (by omega) (by simpa using hs) ?_ hk
    intro y hy
    rw [Lf_set (by omega)]
    split
    · rename_i e; subst e; simp
    · rename_i e; rw [hL y hy]; congr 1; apply propext; omega

end

theorem countP_step {p p' : Nat → Bool} {i : Nat} : ∀ {l : List Nat}, l.Nodup → i ∈ l → p i = true → p' i = false → (∀ j, j ≠ i → p' j = p j) → l.countP p' + 1 = l.countP p
  | [], _, h, _, _, _ => by simp at h
  | x :: l, hnd, hm, h1, h2, h3 => by
    have hnd' := List.nodup_cons.1 hnd
    by_cases e : x = i
    · subst e
      have hrest : l.countP p' = l.countP p := List.countP_congr fun j hj => by
        rw [h3 j (fun e => by subst e; exact hnd'.1 hj)]
      rw [List.countP_cons, List.countP_cons, hrest]; simp [h1, h2]
    · have hm' : i ∈ l := by rcases List.mem_cons.1 hm with h | h; exact absurd h.symm e; exact h
      have ih := countP_step hnd'.2 hm' h1 h2 h3
      rw [List.countP_cons, List.countP_cons, h3 x e]; omega

theorem AW.draw {P : Program} {Q : Exit → St → Prop} {ops : Array Oper} {σ σm : St} {id : Nat} (m c : Nat) (Ks : List Nat) {out : List Res} (hmix : P.follows .mixedOrders = true) (hok : drawOk ops m = true) (hc : σ.freshFrom c = true)
    (hch : Chain P ops Ks σ.h c 0 [] [] c (ops.toList.take m) σ out σm) (hrest : AO P ops (ops.toList.drop m) Q σm) : AW P (.region id ops true) Q σ := by
  have D0 := drawOk_spec hok
  have hn := D0.le
  have hlen : (ops.toList.take m).length = m := by simp; omega
  have hopl : ∀ i, i < m → (ops.toList.take m)[i]? = ops[i]? := fun i hi => by rw [List.getElem?_take, if_pos hi]; simp
  have hdst : ∀ a b t, a ≠ b → dstAt (ops.toList.take m) a = some t → dstAt (ops.toList.take m) b ≠ some t := by
    intro a b t hne ha hb
    unfold dstAt at ha hb
    cases hoa : (ops.toList.take m)[a]? with
    | none => simp [hoa] at ha
    | some oa =>
      cases hob : (ops.toList.take m)[b]? with
      | none => simp [hob] at hb
      | some ob =>
        have hla : a < m := by have := (List.getElem?_eq_some_iff.1 hoa).1; omega
        have hlb : b < m := by have := (List.getElem?_eq_some_iff.1 hob).1; omega
        rw [hopl a hla] at hoa; rw [hopl b hlb] at hob
        rw [hopl a hla, hoa] at ha; rw [hopl b hlb, hob] at hb
        exact D0.dst a b oa ob t hne hla hlb hoa hob (by simpa using ha) (by simpa using hb)
  obtain ⟨hl, hfacts, hend⟩ := hch.facts [] [] rfl rfl (Nat.le_refl _) (by simp) (by simp) (by simp) (by simpa using hdst) (fun out' => Inv.start _ _ _ _ (by simp))
  simp only [List.nil_append] at hfacts hend
  have hol : out.length = m := by omega
  have hfact : ∀ (j : Nat) (r : Res), out[j]? = some r → ∃ hj : j < ops.size, JFact P ops Ks σ (ops.toList.take m) out c j ops[j] r := by
    intro j r hj
    have hjm : j < m := by have := (List.getElem?_eq_some_iff.1 hj).1; omega
    exact ⟨by omega, hfacts j ops[j] r (by omega) (by rw [hopl j hjm]; simp) hj⟩
  have hint : ∀ (i j : Nat) (ri rj : Res), i < j → out[i]? = some ri → out[j]? = some rj → ri.k' ≤ rj.k := by
    intro i j ri rj hij hi hj
    obtain ⟨_, _, _, _, _, _, _, _, _, h, _⟩ := hfact j rj hj
    exact h i ri hij hi
  have hset : ∀ {r : Res} {idn : Nat}, (get r.rs idn).isSome = true → ∃ ρ, (idn, ρ) ∈ r.rs := by
    intro r idn h
    obtain ⟨ρ, hρ⟩ := Option.isSome_iff_exists.1 h
    exact ⟨ρ, get_mem hρ⟩
  have hnam : ∀ (j : Nat) (r : Res) (idn : Nat), out[j]? = some r → (get r.rs idn).isSome = true → idn < r.k' ∧ (r.k ≤ idn ∨ (idn < r.k ∧ r.dep = true ∧ (idn < c → memN idn Ks = true) ∧ ∀ (i : Nat) (r' : Res), i < j → out[i]? = some r' → r'.dep = true → reachI ops j i = true)) := by
    intro j r idn hj hs
    obtain ⟨ρ, hρ⟩ := hset hs
    obtain ⟨_, _, kill, _, hn, hkk, _, _, _, _, hk⟩ := hfact j r hj
    rcases hn _ hρ with ⟨g1, g2⟩ | ⟨g1, g2, g3⟩
    · exact ⟨g2, .inl g1⟩
    · have g2 : idn < r.k := g2
      exact ⟨by have := hkk.1; omega, .inr ⟨g2, (hk g1).1, g3, (hk g1).2⟩⟩
  /- two that set one root: the later one stands behind the earlier one -/
  have htwo : ∀ (i j : Nat) (ri rj : Res) (idn : Nat), i < j → out[i]? = some ri → out[j]? = some rj → (get ri.rs idn).isSome = true → (get rj.rs idn).isSome = true → reachI ops j i = true := by
    intro i j ri rj idn hij hi hj hsi hsj
    have hlt := hint i j ri rj hij hi hj
    obtain ⟨g1, _⟩ := hnam i ri idn hi hsi
    obtain ⟨_, g2⟩ := hnam j rj idn hj hsj
    rcases g2 with g2 | ⟨_, g3, _, _⟩
    · omega
    · obtain ⟨_, _, _, _, _, _, _, _, hd, _⟩ := hfact j rj hj
      exact hd g3 i ri hij hi (by intro e; rw [e] at hsi; simp [get] at hsi)
  intro E a w R
  refine wp_region_any hmix ?_
  have RX : RelX E σ a { w with drawn := w.drawn + 1 } := by
    obtain ⟨Z, loc, fps, R⟩ := R
    exact ⟨Z, loc, fps, R.ext ⟨Nat.le_refl _, fun _ _ => rfl, rfl, rfl, rfl, Nat.le_succ _⟩⟩
  have main : ∀ (u : Nat) (listed : Array Bool) (σ1 : St) (a : Act) (w : World), (List.range m).countP (fun i => !Lf listed i) = u → listed.size = ops.size → Closed ops listed → (∀ i, m ≤ i → Lf listed i = false) →
      Inv σ (ops.toList.take m) out (fun i => Lf listed i) σ1 → RelX E σ1 a w → wpAny P .any ops (lift E Q) (u + (ops.size - m)) listed a w := by
    intro u
    induction u with
    | zero =>
      intro listed σ1 a w hu hs hcl hlast hinv hR
      have hall : ∀ i, i < m → Lf listed i = true := by
        intro i hi
        have := List.countP_eq_zero.1 hu i (List.mem_range.2 hi)
        simpa using this
      obtain ⟨e1, e2⟩ := Inv.same (by omega) hinv hend (fun i hi => by rw [hall i (by omega)]; simp [hi])
      have hR' : RelX E σm a w := by
        obtain ⟨Z, loc, fps, R⟩ := hR
        exact ⟨Z, loc, fps, R.congr e1 e2 (hinv.nt.trans hend.nt.symm) (hinv.gg.trans hend.gg.symm)⟩
      have hdl : (ops.toList.drop m).length = ops.size - m := by simp
      have hm' : ops.size - (ops.size - m) = m := by omega
      have hw := hrest (by rw [hdl, hm']) (by rw [hdl]; omega) E a w hR'
      rw [hdl, hm'] at hw
      rw [Nat.zero_add]
      exact seq_any D0 _ m listed a w rfl (Nat.le_refl _) hn hs (fun x hx => by
        by_cases e : x < m
        · rw [hall x e]; simp [e]
        · rw [hlast x (by omega)]; simp [e]) hw
    | succ u ih =>
      intro listed σ1 a w hu hs hcl hlast hinv hR
      have hex : ∃ i, i < m ∧ Lf listed i = false := by
        have : 0 < (List.range m).countP (fun i => !Lf listed i) := by omega
        obtain ⟨i, hi, hp⟩ := List.countP_pos_iff.1 this
        exact ⟨i, List.mem_range.1 hi, by simpa using hp⟩
      have hmin : ∃ i, i < m ∧ Lf listed i = false ∧ ∀ j, j < i → Lf listed j = true := by
        obtain ⟨i, hi, hf⟩ := hex
        induction i using Nat.strongRecOn with
        | _ i ihi =>
          by_cases h : ∃ j, j < i ∧ Lf listed j = false
          · obtain ⟨j, hj, hfj⟩ := h; exact ihi j hj (by omega) hfj
          · exact ⟨i, hi, hf, fun j hj => by cases hb : Lf listed j; exact absurd ⟨j, hj, hb⟩ h; rfl⟩
      obtain ⟨i0, hi0, hf0, hlow0⟩ := hmin
      have hready := ready_i D0 hs (show i0 < ops.size by omega) hf0 hlow0
      rw [show u + 1 + (ops.size - m) = (u + (ops.size - m)) + 1 by omega]
      refine ⟨fun he => by rw [he] at hready; simp at hready, fun j hj => ?_⟩
      rw [mem_ready] at hj
      obtain ⟨hj1, o, hj2, hj3⟩ := hj
      have hjn : j < ops.size := (Array.getElem?_eq_some_iff.1 hj2).1
      rw [getD_of_lt (by omega)] at hj1
      have hjm : j < m := by
        by_cases e : j < m
        · exact e
        · have h4 : Lf listed i0 = true := reach_spec hcl hj2 (fun ed he hb => hj3 ed he hb) (D0.last j i0 o (by omega) (by omega) hj2)
          rw [hf0] at h4; cases h4
      have hoj : (ops.toList.take m)[j]? = some o := by rw [hopl j hjm]; exact hj2
      obtain ⟨r, hrj⟩ : ∃ r : Res, out[j]? = some r := ⟨_, List.getElem?_eq_getElem (by omega)⟩
      obtain ⟨σj, kill, hF, hnj, hkk, hck, hinvj, hdep, hmono, hkl⟩ := hfacts j o r (by omega) hoj hrj
      have hreach : ∀ i, reachI ops j i = true → Lf listed i = true := fun i h => reach_spec hcl hj2 (fun ed he hb => hj3 ed he hb) h
      have hback : ∀ i, Lf listed i = true → reachI ops i j = true → False := by
        intro i hi h
        have hin : i < ops.size := by
          by_cases e : i < ops.size
          · exact e
          · unfold Lf at hi; rw [Array.getD_eq_getD_getElem?, Array.getElem?_eq_none (by omega)] at hi; cases hi
        have : Lf listed j = true := reach_spec hcl (o := ops[i]) (by simp [hin]) (fun ed he hb => hcl i ops[i] hi (by simp [hin]) ed he hb) h
        rw [hj1] at this; cases this
      have hjL : ∀ i, i < j → edgeTo o i = true → Lf listed i = true := by
        intro i hi he
        obtain ⟨ed, he, hon, hb⟩ := edgeTo_spec he
        have := hj3 ed he hb
        rw [hon] at this; exact this
      have hfr : σ1.freshIn r.k r.k' := by
        intro idn h1 h2
        rcases hinv.hh idn with ⟨i, q, a1, a2, a3, _, _⟩ | ⟨_, a2⟩
        · exfalso
          by_cases e : i = j
          · subst e; have a1 : Lf listed i = true := a1; rw [hj1] at a1; cases a1
          · obtain ⟨g1, g2⟩ := hnam i q idn a2 a3
            by_cases hlt : i < j
            · have := hint i j q r hlt a2 hrj; omega
            · have hji := hint j i r q (by omega) hrj a2
              rcases g2 with g2 | ⟨_, g3, _, _⟩
              · omega
              · obtain ⟨_, _, _, _, _, _, _, _, hd, _⟩ := hfact i q a2
                by_cases hrs : r.rs = []
                · have := hkk.2 (by rw [hrs]; rfl); omega
                · exact hback i a1 (hd g3 j r (by omega) hrj hrs)
        · rw [a2]; exact freshFrom_get hc idn (by omega)
      -- what it looks at is as in the text's order
      have hT : ∀ t d, get (σj.only (o.looksAt ops) (bif r.dep then σj.h else noK Ks σ.h)).t t = some d → get σ1.t t = some d := by
        intro t d ht
        obtain ⟨h1, h2⟩ := get_filter (fun k => memN k (o.looksAt ops)) ht
        rw [← h1]
        by_cases hw : ∃ i, i < m ∧ dstAt (ops.toList.take m) i = some t
        · obtain ⟨i, him, hdi⟩ := hw
          have hoi : ∃ oi, ops[i]? = some oi ∧ oi.dst = some t := by
            unfold dstAt at hdi
            rw [hopl i him] at hdi
            cases hx : ops[i]? with
            | none => simp [hx] at hdi
            | some oi => simp [hx] at hdi; exact ⟨oi, rfl, hdi⟩
          obtain ⟨oi, hoi1, hoi2⟩ := hoi
          have huniq : ∀ x, x ≠ i → dstAt (ops.toList.take m) x ≠ some t := fun x hx hd => hdst i x t (fun e => hx e.symm) hdi hd
          by_cases e : i = j
          · subst e
            rw [hinv.t2 t (fun x hx _ => by
              by_cases e' : x = i
              · subst e'; have hx : Lf listed x = true := hx; rw [hj1] at hx; cases hx
              · exact huniq x e'), hinvj.t2 t (fun x hx _ => huniq x (by have := of_decide_eq_true hx; omega))]
          · have hlk := D0.look j i o oi t (fun e' => e e'.symm) hj2 hoi1 hoi2 h2
            have hri : out[i]? = some out[i] := List.getElem?_eq_getElem (by omega)
            split at hlk
            · rename_i hij
              rw [hinv.t1 i t _ (hjL i hij hlk) hdi hri, hinvj.t1 i t _ (decide_eq_true hij) hdi hri]
            · rename_i hij
              have hnl : Lf listed i = false := by
                cases hb : Lf listed i
                · rfl
                · obtain ⟨ed, he, hon, hbd⟩ := edgeTo_spec hlk
                  have := hcl i oi hb hoi1 ed he hbd
                  rw [hon, hj1] at this; cases this
              rw [hinv.t2 t (fun x hx _ => by
                by_cases e' : x = i
                · subst e'; have hx : Lf listed x = true := hx; rw [hnl] at hx; cases hx
                · exact huniq x e'), hinvj.t2 t (fun x hx _ => huniq x (by have := of_decide_eq_true hx; omega))]
        · rw [hinv.t2 t (fun x _ hx hd => hw ⟨x, by omega, hd⟩), hinvj.t2 t (fun x _ hx hd => hw ⟨x, by omega, hd⟩)]
      have hH : ∀ idn ρ, get (σj.only (o.looksAt ops) (bif r.dep then σj.h else noK Ks σ.h)).h idn = some ρ → get σ1.h idn = some ρ := by
        intro idn ρ hg
        cases hdp : r.dep with
        | false =>
          rw [hdp] at hg
          have hg : get (noK Ks σ.h) idn = some ρ := hg
          obtain ⟨g1, g2⟩ := get_filter (fun k => !memN k Ks) hg
          have hlt : idn < c := by
            by_cases e : idn < c
            · exact e
            · rw [freshFrom_get hc idn (by omega)] at g1; cases g1
          rcases hinv.hh idn with ⟨i, q, a1, a2, a3, _, _⟩ | ⟨_, a2⟩
          · exfalso
            obtain ⟨_, _, _, _, _, _, hcq, _⟩ := hfact i q a2
            obtain ⟨_, k2⟩ := hnam i q idn a2 a3
            rcases k2 with k2 | ⟨_, _, k3, _⟩
            · omega
            · rw [k3 hlt] at g2; cases g2
          · rw [a2]; exact g1
        | true =>
          rw [hdp] at hg
          have hg : get σj.h idn = some ρ := hg
          rcases hinvj.hh idn with ⟨i, q, a1, a2, a3, a4, a5⟩ | ⟨a1, a2⟩
          · have hij : i < j := of_decide_eq_true a1
            have hqs : q.rs ≠ [] := by intro e; rw [e] at a3; simp [get] at a3
            have hli := hreach i (hdep hdp i q hij a2 hqs)
            rcases hinv.hh idn with ⟨i', q', b1, b2, b3, b4, b5⟩ | ⟨b1, _⟩
            · have hge := b4 i q hli a2 a3
              have : i' = i := by
                by_cases e : i' = i
                · exact e
                · exfalso
                  by_cases hj' : i' < j
                  · have := a4 i' q' (decide_eq_true hj') b2 b3; omega
                  · by_cases ej : i' = j
                    · subst ej; have b1 : Lf listed i' = true := b1; rw [hj1] at b1; cases b1
                    · -- it gives up what was there before j
                      obtain ⟨_, k2⟩ := hnam i' q' idn b2 b3
                      obtain ⟨m1, _⟩ := hnam i q idn a2 a3
                      have hji' := hint i i' q q' (by omega) a2 b2
                      rcases k2 with k2 | ⟨_, _, _, k3⟩
                      · omega
                      · exact hback i' b1 (k3 j r (by omega) hrj hdp)
              subst this
              rw [a2] at b2; cases b2
              rw [b5, ← a5]; exact hg
            · rw [b1 i q hli a2] at a3; cases a3
          · rw [a2] at hg
            rcases hinv.hh idn with ⟨i', q', b1, b2, b3, b4, b5⟩ | ⟨_, b2⟩
            · exfalso
              have hlt : idn < c := by
                by_cases e : idn < c
                · exact e
                · rw [freshFrom_get hc idn (by omega)] at hg; cases hg
              by_cases hj' : i' < j
              · rw [a1 i' q' (decide_eq_true hj') b2] at b3; cases b3
              · by_cases ej : i' = j
                · subst ej; have b1 : Lf listed i' = true := b1; rw [hj1] at b1; cases b1
                · obtain ⟨_, _, _, _, _, _, hcq, _⟩ := hfact i' q' b2
                  obtain ⟨_, k2⟩ := hnam i' q' idn b2 b3
                  rcases k2 with k2 | ⟨_, _, _, k3⟩
                  · omega
                  · exact hback i' b1 (k3 j r (by omega) hrj hdp)
            · rw [b2]; exact hg
      have hb := hF E σ1 a w hT hH (by show σ1.nt = σj.nt; rw [hinv.nt, hinvj.nt]) hfr hR
      have hinv' := hinv.step (fun x hx => by
        unfold dstAt at hx
        by_cases e : x < (ops.toList.take m).length
        · exact e
        · rw [List.getElem?_eq_none (by omega)] at hx; simp at hx) hoj hrj hj1 (fun i t hne hd => hdst i j t hne hd) (fun i r' idn hi hr' hs hs' => by
        by_cases hlt : i ≤ j
        · exact hlt
        · exact (hback i hi (htwo j i r r' idn (by omega) hrj hr' hs' hs)).elim)
      have hnext : ∀ a' w', RelX E (St.put { σ1 with h := r.rs ++ σ1.h } o.dst r.d) a' w' → wpAny P .any ops (lift E Q) (u + (ops.size - m)) (listed.setIfInBounds j true) a' w' := by
        intro a' w' hR'
        refine ih (listed.setIfInBounds j true) _ a' w' ?_ (by simpa using hs) (hcl.set (by omega) hj2 (fun e he hb => hj3 e he hb)) ?_ ?_ hR'
        · have := countP_step (l := List.range m) (i := j) (p := fun i => !Lf listed i) (p' := fun i => !Lf (listed.setIfInBounds j true) i) List.nodup_range (List.mem_range.2 hjm) (by simp [hj1]) (by simp [Lf_set (show j < listed.size by omega)]) (fun x hx => by simp [Lf_set (show j < listed.size by omega), hx])
          omega
        · intro x hx
          rw [Lf_set (by omega), if_neg (by omega)]; exact hlast x hx
        · have heq : (fun i => Lf (listed.setIfInBounds j true) i) = (fun i => bif Nat.beq i j then true else Lf listed i) := by
            funext x
            rw [Lf_set (by omega)]
            by_cases e : x = j
            · subst e; simp
            · have : Nat.beq x j = false := by cases hb : Nat.beq x j; rfl; exact absurd (Nat.eq_of_beq_eq_true hb) e
              rw [if_neg e, this]; rfl
          rw [heq]; exact hinv'
      unfold wpOp
      rw [hj2]
      unfold Behind at hb
      simp only []
      split
      · rename_i hw
        rw [if_pos hw] at hb
        exact .inl (Oper.wp_mono hnext (Oper.wp_false hb))
      · rename_i hw
        rw [if_neg hw] at hb
        exact hnext _ _ hb
  have hcnt : (List.range m).countP (fun i => !Lf (Array.replicate ops.size false) i) = m := by
    rw [List.countP_eq_length.2 fun i hi => ?_]
    · simp
    · have := List.mem_range.1 hi
      have hx : i < ops.size := by omega
      simp [Lf, Array.getD_eq_getD_getElem?, hx]
  have hL0 : ∀ i, Lf (Array.replicate ops.size false) i = false := fun i => by
    unfold Lf
    simp only [Array.getD_eq_getD_getElem?, Array.getElem?_replicate]
    split <;> rfl
  have := main m (Array.replicate ops.size false) σ a { w with drawn := w.drawn + 1 } hcnt (by simp) (fun i o hi => by rw [hL0 i] at hi; cases hi) (fun i _ => hL0 i) (Inv.start _ _ _ _ hL0) RX
  rwa [show m + (ops.size - m) = ops.size by omega] at this

end Go.AM
end

section
namespace Go.AM

def AD (P : Program) (ops : Array Oper) (Ks : List Nat) (h0 : List (Nat × Root)) (c0 : Nat) (i : Nat) (ps qs : List Nat) (c : Nat) (l : List Oper) (σ : St) (K : St → Prop) : Prop := ∃ out σ', Chain P ops Ks h0 c0 i ps qs c l σ out σ' ∧ K σ'

section
variable {P : Program} {ops : Array Oper} {Ks : List Nat} {h0 : List (Nat × Root)} {c0 : Nat} {i : Nat} {ps qs : List Nat} {c : Nat} {l : List Oper} {o : Oper} {σ : St} {K : St → Prop}

theorem AD.nil (h : K σ) : AD P ops Ks h0 c0 i ps qs c [] σ K := ⟨[], σ, .nil, h⟩

theorem AD.v {d : D} (h : FStep P ops (σ.only (o.looksAt ops) (noK Ks h0)) o d [] c c) (hr : AD P ops Ks h0 c0 (i + 1) ps qs c l (σ.put o.dst d) K) : AD P ops Ks h0 c0 i ps qs c (o :: l) σ K := by
  obtain ⟨out, σ', h1, h2⟩ := hr
  exact ⟨_, σ', Chain.cons false false (fun e => by cases e) (fun e => by cases e) h (fun x hx => by simp at hx) (Nat.le_refl _) (Nat.le_refl _) (fun _ => Nat.le_refl _) h1, h2⟩

/-- the same where it looks at what an earlier operation of the region made -/
theorem AD.vd {d : D} (hdep : ps.all (reachI ops i) = true) (h : FStep P ops (σ.only (o.looksAt ops) σ.h) o d [] c c) (hr : AD P ops Ks h0 c0 (i + 1) ps (i :: qs) c l (σ.put o.dst d) K) : AD P ops Ks h0 c0 i ps qs c (o :: l) σ K := by
  obtain ⟨out, σ', h1, h2⟩ := hr
  exact ⟨_, σ', Chain.cons true false (fun _ => hdep) (fun e => by cases e) h (fun x hx => by simp at hx) (Nat.le_refl _) (Nat.le_refl _) (fun _ => Nat.le_refl _) h1, h2⟩

theorem AD.q {d : D} {rs : List (Nat × Root)} {k' : Nat} (h : FStep P ops (σ.only (o.looksAt ops) (noK Ks h0)) o d rs c k') (hn : namesIn rs c k') (hk : c ≤ k') (he : rs.isEmpty = false) (hr : AD P ops Ks h0 c0 (i + 1) (i :: ps) qs k' l (St.put { σ with h := rs ++ σ.h } o.dst d) K) : AD P ops Ks h0 c0 i ps qs c (o :: l) σ K := by
  obtain ⟨out, σ', h1, h2⟩ := hr
  exact ⟨_, σ', Chain.cons false false (fun e => by cases e) (fun e => by cases e) h (fun x hx => .inl (hn x hx)) (Nat.le_refl _) hk (fun e => by rw [he] at e; cases e) (by rw [he]; exact h1), h2⟩

theorem AD.qd {d : D} {rs : List (Nat × Root)} {k' : Nat} (hdep : ps.all (reachI ops i) = true) (h : FStep P ops (σ.only (o.looksAt ops) σ.h) o d rs c k') (hn : namesIn rs c k') (hk : c ≤ k') (he : rs.isEmpty = false) (hr : AD P ops Ks h0 c0 (i + 1) (i :: ps) (i :: qs) k' l (St.put { σ with h := rs ++ σ.h } o.dst d) K) : AD P ops Ks h0 c0 i ps qs c (o :: l) σ K := by
  obtain ⟨out, σ', h1, h2⟩ := hr
  exact ⟨_, σ', Chain.cons true false (fun _ => hdep) (fun e => by cases e) h (fun x hx => .inl (hn x hx)) (Nat.le_refl _) hk (fun e => by rw [he] at e; cases e) (by rw [he]; exact h1), h2⟩

def namesK (Ks : List Nat) (c0 k k' : Nat) (rs : List (Nat × Root)) : Bool := rs.all fun x => (Nat.ble k x.1 && Nat.blt x.1 k') || (Nat.blt x.1 k && (Nat.ble c0 x.1 || memN x.1 Ks))

/-- an operation that gives up roots -/
theorem AD.k {d : D} {rs : List (Nat × Root)} {k' : Nat} (hdep : ps.all (reachI ops i) = true) (hq : qs.all (reachI ops i) = true) (h : FStep P ops (σ.only (o.looksAt ops) σ.h) o d rs c k') (hn : namesK Ks c0 c k' rs = true) (hk : Nat.ble c k' = true) (he : rs.isEmpty = false)
    (hr : AD P ops Ks h0 c0 (i + 1) (i :: ps) (i :: qs) k' l (St.put { σ with h := rs ++ σ.h } o.dst d) K) : AD P ops Ks h0 c0 i ps qs c (o :: l) σ K := by
  obtain ⟨out, σ', h1, h2⟩ := hr
  refine ⟨_, σ', Chain.cons true true (fun _ => hdep) (fun _ => ⟨rfl, hq⟩) h (fun x hx => ?_) (Nat.le_refl _) (Nat.le_of_ble_eq_true hk) (fun e => by rw [he] at e; cases e) (by rw [he]; exact h1), h2⟩
  have := List.all_eq_true.1 hn x hx
  simp only [Bool.or_eq_true, Bool.and_eq_true] at this
  rcases this with ⟨g1, g2⟩ | ⟨g1, g2⟩
  · exact .inl ⟨Nat.le_of_ble_eq_true g1, Nat.le_of_ble_eq_true g2⟩
  · refine .inr ⟨rfl, Nat.le_of_ble_eq_true g1, fun hlt => ?_⟩
    rcases g2 with g2 | g2
    · have := Nat.le_of_ble_eq_true g2; omega
    · exact g2

theorem AD.pure {te : TE} (T : TEok P te) {d : D} (hw : (σ.only (o.looksAt ops) (noK Ks h0)).wants ops o = some true) (hd : dstOk (σ.only (o.looksAt ops) (noK Ks h0)) o = true) (h : pureD te (σ.only (o.looksAt ops) (noK Ks h0)) o.op = some d) (hr : AD P ops Ks h0 c0 (i + 1) ps qs c l (σ.put o.dst d) K) : AD P ops Ks h0 c0 i ps qs c (o :: l) σ K :=
  AD.v (FStep.val hw hd (pure_ok T h)) hr
theorem AD.pured {te : TE} (T : TEok P te) {d : D} (hdep : ps.all (reachI ops i) = true) (hw : (σ.only (o.looksAt ops) σ.h).wants ops o = some true) (hd : dstOk (σ.only (o.looksAt ops) σ.h) o = true) (h : pureD te (σ.only (o.looksAt ops) σ.h) o.op = some d) (hr : AD P ops Ks h0 c0 (i + 1) ps (i :: qs) c l (σ.put o.dst d) K) : AD P ops Ks h0 c0 i ps qs c (o :: l) σ K :=
  AD.vd hdep (FStep.val hw hd (pure_ok T h)) hr
theorem AD.pureG {te : TE} (T : TEok P te) {d : D} {g : Bool} (ks : List Nat) (hg : (σ.only (o.looksAt ops) (noK Ks h0)).gval ops o = some g) (hc : condsOk (σ.only (o.looksAt ops) (noK Ks h0)) g ks) (hd : dstOk (σ.only (o.looksAt ops) (noK Ks h0)) o = true) (h : pureD te ((σ.only (o.looksAt ops) (noK Ks h0)).unc ks) o.op = some d)
    (hr : AD P ops Ks h0 c0 (i + 1) ps qs c l (σ.put o.dst (.c g d)) K) : AD P ops Ks h0 c0 i ps qs c (o :: l) σ K :=
  AD.v (FStep.guard ks hg hc (fun _ => pure_ok T h) hd) hr
theorem AD.pureGd {te : TE} (T : TEok P te) {d : D} {g : Bool} (ks : List Nat) (hdep : ps.all (reachI ops i) = true) (hg : (σ.only (o.looksAt ops) σ.h).gval ops o = some g) (hc : condsOk (σ.only (o.looksAt ops) σ.h) g ks) (hd : dstOk (σ.only (o.looksAt ops) σ.h) o = true) (h : pureD te ((σ.only (o.looksAt ops) σ.h).unc ks) o.op = some d)
    (hr : AD P ops Ks h0 c0 (i + 1) ps (i :: qs) c l (σ.put o.dst (.c g d)) K) : AD P ops Ks h0 c0 i ps qs c (o :: l) σ K :=
  AD.vd hdep (FStep.guard ks hg hc (fun _ => pure_ok T h) hd) hr
theorem AD.val {d : D} (hw : (σ.only (o.looksAt ops) (noK Ks h0)).wants ops o = some true) (hd : dstOk (σ.only (o.looksAt ops) (noK Ks h0)) o = true) (h : OpV P (σ.only (o.looksAt ops) (noK Ks h0)) o d) (hr : AD P ops Ks h0 c0 (i + 1) ps qs c l (σ.put o.dst d) K) : AD P ops Ks h0 c0 i ps qs c (o :: l) σ K :=
  AD.v (FStep.val hw hd h) hr
theorem AD.vald {d : D} (hdep : ps.all (reachI ops i) = true) (hw : (σ.only (o.looksAt ops) σ.h).wants ops o = some true) (hd : dstOk (σ.only (o.looksAt ops) σ.h) o = true) (h : OpV P (σ.only (o.looksAt ops) σ.h) o d) (hr : AD P ops Ks h0 c0 (i + 1) ps (i :: qs) c l (σ.put o.dst d) K) : AD P ops Ks h0 c0 i ps qs c (o :: l) σ K :=
  AD.vd hdep (FStep.val hw hd h) hr
theorem AD.guard {d : D} {g : Bool} (ks : List Nat) (hg : (σ.only (o.looksAt ops) (noK Ks h0)).gval ops o = some g) (hc : condsOk (σ.only (o.looksAt ops) (noK Ks h0)) g ks) (hop : g = true → OpV P ((σ.only (o.looksAt ops) (noK Ks h0)).unc ks) o d) (hd : dstOk (σ.only (o.looksAt ops) (noK Ks h0)) o = true)
    (hr : AD P ops Ks h0 c0 (i + 1) ps qs c l (σ.put o.dst (.c g d)) K) : AD P ops Ks h0 c0 i ps qs c (o :: l) σ K :=
  AD.v (FStep.guard ks hg hc hop hd) hr
theorem AD.guardd {d : D} {g : Bool} (ks : List Nat) (hdep : ps.all (reachI ops i) = true) (hg : (σ.only (o.looksAt ops) σ.h).gval ops o = some g) (hc : condsOk (σ.only (o.looksAt ops) σ.h) g ks) (hop : g = true → OpV P ((σ.only (o.looksAt ops) σ.h).unc ks) o d) (hd : dstOk (σ.only (o.looksAt ops) σ.h) o = true)
    (hr : AD P ops Ks h0 c0 (i + 1) ps (i :: qs) c l (σ.put o.dst (.c g d)) K) : AD P ops Ks h0 c0 i ps qs c (o :: l) σ K :=
  AD.vd hdep (FStep.guard ks hg hc hop hd) hr

theorem AW.drawn {Q : Exit → St → Prop} {id : Nat} (m c : Nat) (Ks : List Nat) (hmix : P.follows .mixedOrders = true) (hok : drawOk ops m = true) (hc : σ.freshFrom c = true) (h : AD P ops Ks σ.h c 0 [] [] c (ops.toList.take m) σ (AO P ops (ops.toList.drop m) Q)) : AW P (.region id ops true) Q σ := by
  obtain ⟨out, σ', h1, h2⟩ := h
  exact AW.draw m c Ks hmix hok hc h1 h2

end
end Go.AM
end

section
namespace Go.AM

/-! owned parts inside rows -/

theorem ARL.spliceV {w Z loc fp fp' ds vs ds' vs'} (h : ARL w Z loc fp ds vs) (h' : ARL w Z loc fp' ds' vs') (off : Nat) (hoff : off + ds'.length ≤ ds.length) :
    ∃ fp1 fpM fp2, fp = fp1 ++ (fpM ++ fp2) ∧ ARL w Z loc (fp1 ++ fp' ++ fp2) (splice ds off ds') (splice vs off vs') := by
  have e : ds = ds.take off ++ ((ds.drop off).take ds'.length ++ ds.drop (off + ds'.length)) := by
    rw [← List.drop_drop, List.take_append_drop, List.take_append_drop]
  rw [e] at h
  obtain ⟨fp1, fp2, vs1, vs2, rfl, rfl, h1, h2⟩ := h.split
  obtain ⟨fp3, fp4, vs3, vs4, rfl, rfl, h3, h4⟩ := h2.split
  refine ⟨fp1, fp3, fp4, rfl, ?_⟩
  have l1 := h1.length; have l3 := h3.length; have l' := h'.length
  simp only [List.length_take, List.length_drop] at l1 l3
  have := (h1.append h').append h4
  have e2 : splice (vs1 ++ (vs3 ++ vs4)) off vs' = vs1 ++ vs' ++ vs4 := by
    unfold splice
    rw [List.take_append, List.take_of_length_le (by omega), show off - vs1.length = 0 by omega, List.drop_append, List.drop_of_length_le (by omega), List.drop_append, List.drop_of_length_le (by omega)]
    rw [show off + vs'.length - vs1.length - vs3.length = 0 by omega]
    simp
  rw [e2]
  exact this

section
variable {P : Program} {te : TE} (T : TEok P te) {σ : St} {o : Oper}
include T

/-- a store into an element of an owned row of something that owns rows: these go into it -/
theorem store_o_ok {t : Nat} {ti : TI} {x y : Operand} {id i k sz : Nat} {xs : List (List D)} {cs vs es : List D} {ids : List Nat} {d : D} (ho : o.op = .store t x y) (ht : te t = some ti) (hx : σ.ev x = some (.e id i k)) (hy : σ.ev y = some d)
    (hg : get σ.h id = some (.row sz xs)) (hc : xs[i]? = some cs) (hv : d.cells? = some vs) (hex : expLC σ vs es ids) (hids : (ids.Nodup ∧ id ∉ ids)) (hsz : vs.length = ti.size) (hk' : Nat.ble (k + vs.length) sz = true) (hdst : o.dst = none) :
    OpOk P σ o { σ with h := (id, .row sz (xs.set i (splice cs k es))) :: kill ids σ.h } := by
  have hk := Nat.le_of_ble_eq_true hk'
  rintro E a w ⟨Z, loc, fps, R⟩
  obtain ⟨L, hL, e1, e2, e3, e4, h3⟩ := R.roots id _ ⟨hg, by simp⟩
  have hvs := D.cells_rel hv (R.ev hy)
  have hlt : i < xs.length := (List.getElem?_eq_some_iff.1 hc).1
  have hpx := R.ev hx
  generalize hax : a.eval x = px at hpx
  have hcs : cs.length = sz := e2 cs (List.mem_of_getElem? hc)
  have hm := mul_succ_le (sz := sz) hlt
  obtain ⟨fpV, hrelV, hndV, hmemV⟩ := expLC_ok R hex hids.1 hvs
  have hles : es.length = vs.length := by have h1 := hrelV.length; have h2 := hvs.length; omega
  cases hpx with
  | e g1 =>
    rw [hL] at g1; cases g1
    rcases h3 with ⟨h3, _⟩ | ⟨fpN, arr, el, e5, h4, h5, h6⟩
    · omega
    · have hlen : (a.eval y).cells.size = vs.length := by have := hvs.length; simp at this; exact this.symm
      have hxt : xs.length * sz ≤ L.tot * sz := Nat.mul_le_mul_right _ e3.1
      have hst := run_storeVar' T ht (off := L.base + i * sz + k) (v := a.eval y) h4 (by omega) (by omega) hvs.one
      have hrun : (execOp a.eval o).run P w = .ok .skip (w.setRow L.b (splice arr.toList (L.base + i * sz + k) (a.eval y).cells.toList).toArray) := by
        simp only [execOp, ho, hax, Instr.storeAt, Instr.sureAddr, Sem.run_bind, Sem.run_pure, Result.andThen_ok, e1, hst]
      unfold Oper.wp
      rw [hrun]
      simp only [Oper.upon, hdst]
      obtain ⟨fp1, fpM, fp2, hfpN, hnew⟩ := h6.spliceV hrelV (i * sz + k) (by rw [flat_len e2]; omega)
      have hnd := R.nodup id _ ⟨hg, by simp⟩
      rw [e5] at hnd
      have hown := R.owned id _ L.b ⟨hg, by simp⟩ (by rw [e5]; simp)
      have hdis : ∀ b ∈ fpV, b ∉ L.b :: fpN := by
        intro b hb hb'
        obtain ⟨j, ρ, hj, hlj, hbj⟩ := hmemV b hb
        have := R.disj j id ρ _ b hlj ⟨hg, by simp⟩ hbj (by rw [e5]; exact hb')
        subst this
        exact hids.2 hj
      have hLb : L.b ∉ fp1 ++ fpV ++ fp2 := by
        intro hb
        simp only [List.mem_append] at hb
        have h0 := (List.nodup_cons.1 hnd).1
        rw [hfpN] at h0
        simp only [List.mem_append] at h0
        rcases hb with (hb | hb) | hb
        · exact h0 (.inl hb)
        · exact hdis _ hb (by simp)
        · exact h0 (.inr (.inr hb))
      have hsub : ∀ b, b ∈ fp1 ++ fp2 → b ∈ fpN := fun b hb => by rw [hfpN]; simp only [List.mem_append] at hb ⊢; rcases hb with hb | hb; exact .inl hb; exact .inr (.inr hb)
      have hnd' : (L.b :: (fp1 ++ fpV ++ fp2)).Nodup := by
        refine List.nodup_cons.2 ⟨hLb, ?_⟩
        have h0 := (List.nodup_cons.1 hnd).2
        have h12 : (fp1 ++ fp2).Nodup := by
          rw [hfpN] at h0
          exact List.Nodup.sublist (List.Sublist.append (List.Sublist.refl _) (List.sublist_append_right _ _)) h0
        rw [List.nodup_append] at h12
        rw [List.nodup_append, List.nodup_append]
        refine ⟨⟨h12.1, hndV, fun x hx y hy e => ?_⟩, h12.2.1, fun x hx y hy e => ?_⟩
        · subst e; exact hdis x hy (List.mem_cons_of_mem _ (hsub x (List.mem_append_left _ hx)))
        · subst e
          rcases List.mem_append.1 hx with hx | hx
          · exact h12.2.2 x hx x hy rfl
          · exact hdis x hx (List.mem_cons_of_mem _ (hsub x (List.mem_append_right _ hy)))
      refine ⟨Z, _, _, Rel.setRoot (ks := ids) (L0 := L) (fp0 := L.b :: (fp1 ++ fpV ++ fp2)) R (by rw [setRow_size]; exact Nat.le_refl _) ?_ ?_ rfl rfl ⟨rfl, Nat.le_refl _⟩ ?_ hnd' (.inr hL) (fun _ h => h) (fun _ h => .inl h) ?_⟩
      · intro b hb hn
        refine setRow_heap_other _ _ _ _ fun e => ?_
        subst e
        exact hn id _ (.inl rfl) ⟨hg, by simp⟩ (by rw [e5]; simp)
      · exact setRow_shape h4 (by rw [List.size_toArray, splice_len _ _ _ (by simp; omega)]; simp)
      · intro b hb
        rw [setRow_size]
        rcases List.mem_cons.1 hb with rfl | hb
        · exact ⟨hown.2.1, .inr ⟨id, _, .inl rfl, ⟨hg, by simp⟩, by rw [e5]; simp⟩⟩
        · simp only [List.mem_append] at hb
          by_cases hv : b ∈ fpV
          · obtain ⟨j, ρ, hj, hlj, hbj⟩ := hmemV b hv
            exact ⟨(R.owned j ρ b hlj hbj).2.1, .inr ⟨j, ρ, .inr hj, hlj, hbj⟩⟩
          · have hb' : b ∈ fps id := by
              rw [e5]; refine List.mem_cons_of_mem _ (hsub b ?_)
              simp only [List.mem_append]
              rcases hb with (hb | hb) | hb
              · exact .inl hb
              · exact absurd hb hv
              · exact .inr hb
            exact ⟨(R.owned id _ b ⟨hg, by simp⟩ hb').2.1, .inr ⟨id, _, .inl rfl, ⟨hg, by simp⟩, hb'⟩⟩
      · refine ⟨e1, ?_, by simpa using e3, e4, .inr ⟨fp1 ++ fpV ++ fp2, _, el, rfl, setRow_heap w L.b arr _ el _ h4, ?_, ?_⟩⟩
        · intro x' hx'
          rcases List.mem_or_eq_of_mem_set hx' with h | h
          · exact e2 x' h
          · subst h; rw [splice_len _ _ _ (by omega)]; exact hcs
        · have : (splice arr.toList (L.base + i * sz + k) (a.eval y).cells.toList).length = arr.size := by rw [splice_len _ _ _ (by simp; omega)]; simp
          simp only [List.size_toArray, this]; exact h5
        · rw [flat_set e2 hc (by omega), List.length_set]
          have hs : ((splice arr.toList (L.base + i * sz + k) (a.eval y).cells.toList).drop L.base).take (xs.length * sz) = splice ((arr.toList.drop L.base).take (xs.length * sz)) (i * sz + k) (a.eval y).cells.toList := by
            rw [Nat.add_assoc]; exact splice_drop_take _ _ _ _ _ (by simp; omega) (by simp; omega)
          show ARL _ _ _ _ _ (List.take _ (List.drop _ (splice arr.toList (L.base + i * sz + k) (a.eval y).cells.toList).toArray.toList))
          simp only [hs]
          refine hnew.mono (fun _ h => h) (fun _ _ h => h) (fun b hb => setRow_heap_other _ _ _ _ fun e => ?_)
          subst e
          rcases hb with hb | hb
          · exact hown.1 hb
          · exact hLb hb

end

end Go.AM
end

section
namespace Go.AM

/-! the words of the pure functions -/

def getI {α : Type} (l : List α) (i : Int) : Option α := if 0 ≤ i then l[i.toNat]? else none
def opt {α : Type} (g : Bool) (d : α) (m : Option α) : Option α := bif g then m else some d
def sliceHi {α : Type} (l : List α) (n : Int) : Option (List α) := if 0 ≤ n ∧ n ≤ l.length then some (l.take n.toNat) else none
def sliceLo {α : Type} (l : List α) (n : Int) : Option (List α) := if 0 ≤ n ∧ n ≤ l.length then some (l.drop n.toNat) else none
def sliceLH {α : Type} (l : List α) (n m : Int) : Option (List α) := if 0 ≤ n ∧ n ≤ m ∧ m ≤ l.length then some ((l.take m.toNat).drop n.toNat) else none
def setI {α : Type} (l : List α) (i : Int) (x : α) : List α := l.set i.toNat x
def fitsB (b n : Nat) : Bool := Nat.ble (2 * n * b) 281474976710656
def need (b : Bool) : Option Unit := bif b then some () else none
def w64 (n : Int) : Int := IntKind.wrap .i64 n

theorem bindE {α β : Type} {o : Option α} {f : α → Option β} {r : β} (h : o.bind f = some r) : ∃ x, o = some x ∧ f x = some r := Option.bind_eq_some_iff.1 h
theorem condT {α : Type} {c : Bool} {a b : α} {r : α} (hc : c = true) (h : cond c a b = r) : a = r := by subst hc; exact h
theorem condF {α : Type} {c : Bool} {a b : α} {r : α} (hc : c = false) (h : cond c a b = r) : b = r := by subst hc; exact h
theorem optT {α : Type} {g : Bool} {d r : α} {m : Option α} (h : opt g d m = some r) (hg : g = true) : m = some r := by subst hg; exact h
theorem needT {b : Bool} {u : Unit} (h : need b = some u) : b = true := by cases b; cases h; rfl
theorem someE {α : Type} {a b : α} (h : some a = some b) : a = b := Option.some.inj h

theorem getI_nn {α : Type} {l : List α} {i : Int} {x : α} (h : getI l i = some x) : 0 ≤ i := by unfold getI at h; split at h; assumption; cases h
theorem getI_get {α : Type} {l : List α} {i : Int} {x : α} (h : getI l i = some x) : l[i.toNat]? = some x := by unfold getI at h; split at h; exact h; cases h
theorem getI_lt {α : Type} {l : List α} {i : Int} {x : α} (h : getI l i = some x) : i.toNat < l.length := (List.getElem?_eq_some_iff.1 (getI_get h)).1
theorem getI_nat {α : Type} (l : List α) (k : Nat) : getI l (k : Int) = l[k]? := by simp [getI]
theorem getI_map {α : Type} {l : List α} {i : Int} {x : α} {f : α → List D} (h : getI l i = some x) : (l.map f)[i.toNat]? = some (f x) := by rw [List.getElem?_map, getI_get h]; rfl
theorem getI_drop {α : Type} {l : List α} {k : Nat} {x : α} {xs : List α} (h : l.drop k = x :: xs) : getI l (k : Int) = some x := by
  rw [getI_nat]
  have : (l.drop k)[0]? = some x := by rw [h]; rfl
  simpa using this
theorem drop_succ_of {α : Type} {l : List α} {k : Nat} {x : α} {xs : List α} (h : l.drop k = x :: xs) : l.drop (k + 1) = xs := by
  rw [← List.drop_drop, h]; rfl
theorem drop_lt {α : Type} {l : List α} {k : Nat} {x : α} {xs : List α} (h : l.drop k = x :: xs) : k < l.length := by
  have := congrArg List.length h
  simp at this; omega
theorem drop_ge {α : Type} {l : List α} {k : Nat} (h : l.drop k = []) : l.length ≤ k := by
  have := congrArg List.length h
  simp at this; omega

/-! lengths are bounded -/

theorem AW.boundS {P : Program} {c : Code} {Q : Exit → St → Prop} {σ : St} {t : Nat} {xs : List (List D)} (ht : get σ.t t = some (.s xs)) (h : xs.length ≤ maxN → AW P c Q σ) : AW P c Q σ := by
  rintro E a w ⟨Z, loc, fps, R⟩
  obtain ⟨v, _, h2⟩ := R.temps t _ ht
  refine h ?_ E a w ⟨Z, loc, fps, R⟩
  cases h2 with
  | s0 => simp
  | s _ _ _ h4 h5 _ => omega
theorem AW.boundM {P : Program} {c : Code} {Q : Exit → St → Prop} {σ : St} {t : Nat} {α : Type} {l : List α} {f : α → List D} (ht : get σ.t t = some (.s (l.map f))) (h : l.length ≤ maxN → AW P c Q σ) : AW P c Q σ :=
  AW.boundS ht fun hb => h (by simpa using hb)
theorem AW.boundR {P : Program} {c : Code} {Q : Exit → St → Prop} {σ : St} {id sz : Nat} {α : Type} {l : List α} {f : α → List D} (ht : get σ.h id = some (.row sz (l.map f))) (h : l.length ≤ maxN → AW P c Q σ) : AW P c Q σ := by
  rintro E a w ⟨Z, loc, fps, R⟩
  obtain ⟨L, _, _, _, h3, h4, _⟩ := R.roots id _ ⟨ht, by simp⟩
  exact h (by simp at h3; omega) E a w ⟨Z, loc, fps, R⟩

/-! a join -/

@[reducible] def joinQ {α : Type} (S : α → St) (I : α → Prop) (Q : Exit → St → Prop) : Exit → St → Prop
  | .normal, σ => ∃ s, I s ∧ Le σ (S s)
  | .exit id, σ => Q (.exit id) σ
  | .goto l, σ => Q (.goto l) σ
  | .ret, σ => Q .ret σ
  | .panic c, σ => Q (.panic c) σ
  | .outgrown, σ => Q .outgrown σ

theorem AW.seqJ {P : Program} {x y : Code} {Q : Exit → St → Prop} {σ : St} {α : Type} (S : α → St) (I : α → Prop) (h1 : AW P x (joinQ S I Q) σ) (h2 : ∀ s, I s → AW P y Q (S s)) : AW P (.seq x y) Q σ := by
  refine AW.seq (AW.mono h1 ?_)
  intro e σ' h
  cases e with
  | normal => obtain ⟨s, hs, hle⟩ := h; exact AW.le hle (h2 s hs)
  | _ => exact h

theorem fits_le {B n : Nat} (h : fitsB B n = true) : 2 * n * B ≤ 281474976710656 := Nat.le_of_ble_eq_true h
theorem fits_max {B n : Nat} (h : fitsB B n = true) (hB : 0 < B) : n ≤ maxN := by
  have h1 := fits_le h
  have h2 : 2 * n * 1 ≤ 2 * n * B := Nat.mul_le_mul_left _ hB
  unfold maxN; omega

theorem AW.condT' {P : Program} {Q : Exit → St → Prop} {σ : St} {c : Operand} {x y : Code} {b : Bool} (hc : σ.ev c = some (.v (.bool b))) (hb : b = true) (h1 : AW P x Q σ) : AW P (.cond c x y) Q σ := by subst hb; exact AW.condT hc h1
theorem AW.condF' {P : Program} {Q : Exit → St → Prop} {σ : St} {c : Operand} {x y : Code} {b : Bool} (hc : σ.ev c = some (.v (.bool b))) (hb : b = false) (h1 : AW P y Q σ) : AW P (.cond c x y) Q σ := by subst hb; exact AW.condF hc h1
theorem rngT {k n : Nat} (h : k < n) : decide ((k : Int) < (n : Int)) = true := decide_eq_true (by omega)
theorem rngF {k n : Nat} (h : n ≤ k) : decide ((k : Int) < (n : Int)) = false := decide_eq_false (by omega)
def flow {R V : Type} (o : Except R V) (k : V → Option R) : Option R := match o with | .error r => some r | .ok v => k v
def flowE {R V W : Type} (o : Except R V) (k : V → Option (Except R W)) : Option (Except R W) := match o with | .error r => some (.error r) | .ok v => k v
theorem inI_succ {k n : Nat} (h : k < n) (hn : n ≤ maxN) : inI .i64 ((k : Int) + 1) := inI_i64 (by unfold maxN at hn; omega)

/-! rules over lists of known things -/
section
variable {P : Program} {te : TE} (T : TEok P te) {σ : St} {o : Oper}
include T

theorem len_map_ok {t e : Nat} {s b z} {x : Operand} {α : Type} {l : List α} {f : α → List D} (ho : o.op = .call { callee := .builtin .len, args := #[x], argTypes := #[t] }) (ht : te t = some ⟨.slice e, s, b, z⟩) (hx : σ.ev x = some (.s (l.map f))) :
    OpV P σ o (.v (.int .i64 l.length)) := by
  have := pure_ok T (σ := σ) (o := o) (d := .v (.int .i64 ((l.map f).length))) (by rw [ho]; simp only [pureD, St.evr, hx, Option.map_some, St.res, lenD, ht])
  rwa [List.length_map] at this

theorem ix_map_ok {t e : Nat} {s b z} {ti : TI} {x i : Operand} {k : IntKind} {n : Int} {α : Type} {l : List α} {f : α → List D} {y : α} (ho : o.op = .indexAddr t x i) (ht : te t = some ⟨.slice e, s, b, z⟩) (hte : te e = some ti)
    (hx : σ.ev x = some (.s (l.map f))) (hi : σ.ev i = some (.v (.int k n))) (hg : getI l n = some y) (hsz : (f y).length = ti.size) : OpV P σ o (.q (f y)) :=
  ix_s_ok T ho ht hte hx hi (getI_nn hg) (getI_map hg) hsz

theorem slice_hi_map_ok {t e : Nat} {s b z} {ti : TI} {x y : Operand} {k : IntKind} {n : Int} {α : Type} {l r : List α} {f : α → List D} (ho : o.op = .slice t x none (some y) none) (ht : te t = some ⟨.slice e, s, b, z⟩) (hte : te e = some ti)
    (hx : σ.ev x = some (.s (l.map f))) (hy : σ.ev y = some (.v (.int k n))) (hr : sliceHi l n = some r) (hsz : ∀ y, (f y).length = ti.size) : OpV P σ o (.s (r.map f)) := by
  unfold sliceHi at hr
  split at hr
  · rename_i h; cases hr
    have := slice_hi_ok T ho ht hte hx hy h.1 (by simp; omega) (by intro a ha; obtain ⟨y, _, rfl⟩ := List.mem_map.1 ha; exact hsz y)
    rwa [← List.map_take] at this
  · cases hr
theorem slice_lo_map_ok {t e : Nat} {s b z} {ti : TI} {x y : Operand} {k : IntKind} {n : Int} {α : Type} {l r : List α} {f : α → List D} (ho : o.op = .slice t x (some y) none none) (ht : te t = some ⟨.slice e, s, b, z⟩) (hte : te e = some ti)
    (hx : σ.ev x = some (.s (l.map f))) (hy : σ.ev y = some (.v (.int k n))) (hr : sliceLo l n = some r) (hsz : ∀ y, (f y).length = ti.size) : OpV P σ o (.s (r.map f)) := by
  unfold sliceLo at hr
  split at hr
  · rename_i h; cases hr
    have := slice_lo_ok T ho ht hte hx hy h.1 (by simp; omega) (by intro a ha; obtain ⟨y, _, rfl⟩ := List.mem_map.1 ha; exact hsz y)
    rwa [← List.map_drop] at this
  · cases hr
theorem slice_lh_map_ok {t e : Nat} {s b z} {ti : TI} {x y u : Operand} {k k' : IntKind} {n m : Int} {α : Type} {l r : List α} {f : α → List D} (ho : o.op = .slice t x (some y) (some u) none) (ht : te t = some ⟨.slice e, s, b, z⟩) (hte : te e = some ti)
    (hx : σ.ev x = some (.s (l.map f))) (hy : σ.ev y = some (.v (.int k n))) (hu : σ.ev u = some (.v (.int k' m))) (hr : sliceLH l n m = some r) (hsz : ∀ y, (f y).length = ti.size) : OpV P σ o (.s (r.map f)) := by
  unfold sliceLH at hr
  split at hr
  · rename_i h; cases hr
    have := slice_lh_ok T ho ht hte hx hy hu h.1 (by omega) (by omega) (by simp; omega) (by intro a ha; obtain ⟨y, _, rfl⟩ := List.mem_map.1 ha; exact hsz y)
    rwa [← List.map_take, ← List.map_drop] at this
  · cases hr

omit T in
theorem evr_R {x : Operand} {id sz : Nat} {α : Type} {l : List α} {f : α → List D} (hx : σ.ev x = some (.R id)) (hg : get σ.h id = some (.row sz (l.map f))) : σ.evr x = some (.r id 0 l.length) := by
  simp only [St.evr, hx, Option.map_some, St.res, hg, List.length_map]

theorem len_row_ok {t e : Nat} {s b z} {x : Operand} {id sz : Nat} {α : Type} {l : List α} {f : α → List D} (ho : o.op = .call { callee := .builtin .len, args := #[x], argTypes := #[t] }) (ht : te t = some ⟨.slice e, s, b, z⟩) (hx : σ.ev x = some (.R id)) (hg : get σ.h id = some (.row sz (l.map f))) :
    OpV P σ o (.v (.int .i64 l.length)) :=
  pure_ok T (σ := σ) (o := o) (d := .v (.int .i64 l.length)) (by rw [ho]; simp only [pureD, evr_R hx hg, lenD, ht])

theorem ix_row_ok {t e : Nat} {s b z} {ti : TI} {x i : Operand} {k : IntKind} {n : Int} {id : Nat} {α : Type} {l : List α} {f : α → List D} {y : α} (ho : o.op = .indexAddr t x i) (ht : te t = some ⟨.slice e, s, b, z⟩) (hte : te e = some ti)
    (hx : σ.ev x = some (.R id)) (hi : σ.ev i = some (.v (.int k n))) (hg : get σ.h id = some (.row ti.size (l.map f))) (hn : getI l n = some y) : OpV P σ o (.e id n.toNat 0) :=
  ix_r0_ok T ho ht hte (evr_R hx hg) hi hg (getI_nn hn) (getI_lt hn)

theorem load_row_ok {t : Nat} {ti : TI} {x : Operand} {id i k sz : Nat} {α : Type} {l : List α} {f : α → List D} {y : α} {d : D} (ho : o.op = .load t x) (ht : te t = some ti) (hx : σ.ev x = some (.e id i k))
    (hg : get σ.h id = some (.row sz (l.map f))) (hc : l[i]? = some y) (hk : Nat.ble (k + ti.size) sz = true) (hv : (((f y).drop k).take ti.size).all D.isVS = true) (hr : readAt ti (((f y).drop k).take ti.size) = some d) : OpV P σ o d :=
  load_e_ok T ho ht hx hg (by rw [List.getElem?_map, hc]; rfl) hk hv hr

theorem store_row_ok {t : Nat} {ti : TI} {x y : Operand} {id i k sz : Nat} {α : Type} {l : List α} {f : α → List D} {u u' : α} {vs : List D} {d : D} (ho : o.op = .store t x y) (ht : te t = some ti) (hx : σ.ev x = some (.e id i k)) (hy : σ.ev y = some d)
    (hg : get σ.h id = some (.row sz (l.map f))) (hc : l[i]? = some u) (hv : d.cells? = some vs) (hpl : vs.all D.plain = true) (hsz : vs.length = ti.size) (hk' : Nat.ble (k + vs.length) sz = true) (hu : splice (f u) k vs = f u') (hdst : o.dst = none) :
    OpOk P σ o { σ with h := (id, .row sz ((l.set i u').map f)) :: σ.h } := by
  have := store_e_ok T ho ht hx hy hg (by rw [List.getElem?_map, hc]; rfl) hv hpl hsz hk' hdst
  rwa [hu, ← List.map_set] at this

theorem store_rowO_ok {t : Nat} {ti : TI} {x y : Operand} {id i k sz : Nat} {α : Type} {l : List α} {f : α → List D} {u u' : α} {vs es : List D} {ids : List Nat} {d : D} (ho : o.op = .store t x y) (ht : te t = some ti) (hx : σ.ev x = some (.e id i k)) (hy : σ.ev y = some d)
    (hg : get σ.h id = some (.row sz (l.map f))) (hc : l[i]? = some u) (hv : d.cells? = some vs) (hex : expLC σ vs es ids) (hids : (ids.Nodup ∧ id ∉ ids)) (hsz : vs.length = ti.size) (hk' : Nat.ble (k + vs.length) sz = true) (hu : splice (f u) k es = f u') (hdst : o.dst = none) :
    OpOk P σ o { σ with h := (id, .row sz ((l.set i u').map f)) :: kill ids σ.h } := by
  have := store_o_ok T ho ht hx hy hg (by rw [List.getElem?_map, hc]; rfl) hv hex hids hsz hk' hdst
  rwa [hu, ← List.map_set] at this

section
variable {x y : Operand} {t tx e e2 : Nat} {s s2 : Nat} {b b2 : Nat} {z z2 : Option Value} {ti : TI} {zv : Value}


/-- append of a list of known things to an owned row -/
theorem app_rs_map {id : Nat} {α : Type} {l m : List α} {f : α → List D} (ho : o.op = .call { callee := .builtin .append, args := #[x, y], argTypes := #[t, tx] }) (id' : Nat)
    (ht : te t = some ⟨.slice e, s, b, z⟩) (htx : te tx = some ⟨.slice e2, s2, b2, z2⟩) (hte : te e = some ti) (hz0 : ti.zero = some zv) (hzs : zv.cells.size = ti.size) (hpos : 0 < ti.size) (hB : 0 < ti.bytes)
    (hx : σ.ev x = some (.R id)) (hg : get σ.h id = some (.row ti.size (l.map f))) (hy : σ.ev y = some (.s (m.map f))) (hys : ∀ y, (f y).length = ti.size)
    (hfit : fitsB ti.bytes (l.length + m.length) = true) (hid : get σ.h id' = none) (hd : dstOk σ o = true) :
    OpOk P σ o (St.put { σ with h := (id', .row ti.size ((l ++ m).map f)) :: kill [id] σ.h } o.dst (.R id')) := by
  have := app_rs_ok T ho id' ht htx hte hz0 hzs hpos (evr_R hx hg) hg (by simp) hy (ys := m.map f) rfl (by intro a ha; obtain ⟨y, _, rfl⟩ := List.mem_map.1 ha; exact hys y) (m := m.length) (by simp) (fits_max hfit hB) (fits_le hfit) hid hd
  rw [List.drop_zero, List.take_of_length_le (by simp), ← List.map_append] at this
  exact this

theorem app_rr_map {id id2 : Nat} {α : Type} {l m : List α} {f : α → List D} (ho : o.op = .call { callee := .builtin .append, args := #[x, y], argTypes := #[t, tx] }) (id' : Nat)
    (ht : te t = some ⟨.slice e, s, b, z⟩) (htx : te tx = some ⟨.slice e2, s2, b2, z2⟩) (hte : te e = some ti) (hz0 : ti.zero = some zv) (hzs : zv.cells.size = ti.size) (hB : 0 < ti.bytes)
    (hx : σ.ev x = some (.R id)) (hg : get σ.h id = some (.row ti.size (l.map f))) (hy : σ.ev y = some (.R id2)) (hg2 : get σ.h id2 = some (.row ti.size (m.map f))) (hne : Nat.beq id id2 = false)
    (hfit : fitsB ti.bytes (l.length + m.length) = true) (hid : get σ.h id' = none) (hd : dstOk σ o = true) :
    OpOk P σ o (St.put { σ with h := (id', .row ti.size ((l ++ m).map f)) :: kill [id, id2] σ.h } o.dst (.R id')) := by
  have := app_rr_ok T ho id' ht htx hte hz0 hzs (evr_R hx hg) hg (by simp) (evr_R hy hg2) hg2 (by simp) hne (fits_max hfit hB) (fits_le hfit) hid hd
  rw [List.drop_zero, List.drop_zero, List.take_of_length_le (by simp), List.take_of_length_le (by simp), ← List.map_append] at this
  exact this

theorem app_ws_map {k : Nat} {α : Type} {m : List α} {f : α → List D} (ho : o.op = .call { callee := .builtin .append, args := #[x, y], argTypes := #[t, tx] }) (id' : Nat)
    (ht : te t = some ⟨.slice e, s, b, z⟩) (htx : te tx = some ⟨.slice e2, s2, b2, z2⟩) (hte : te e = some ti) (hz0 : ti.zero = some zv) (hzs : zv.cells.size = ti.size) (hpos : 0 < ti.size) (hB : 0 < ti.bytes)
    (hx : σ.ev x = some (.w k [])) (hy : σ.ev y = some (.s (m.map f))) (hys : ∀ y, (f y).length = ti.size)
    (hfit : fitsB ti.bytes m.length = true) (hid : get σ.h id' = none) (hd : dstOk σ o = true) :
    OpOk P σ o (St.put { σ with h := (id', .row ti.size (m.map f)) :: σ.h } o.dst (.R id')) :=
  app_ws_ok T ho id' ht htx hte hz0 hzs hpos hx hy (ys := m.map f) rfl (by intro a ha; obtain ⟨y, _, rfl⟩ := List.mem_map.1 ha; exact hys y) (by simp) (fits_max hfit hB) (fits_le hfit) hid hd

theorem app_wr_map {k id2 : Nat} {α : Type} {m : List α} {f : α → List D} (ho : o.op = .call { callee := .builtin .append, args := #[x, y], argTypes := #[t, tx] }) (id' : Nat)
    (ht : te t = some ⟨.slice e, s, b, z⟩) (htx : te tx = some ⟨.slice e2, s2, b2, z2⟩) (hte : te e = some ti) (hz0 : ti.zero = some zv) (hzs : zv.cells.size = ti.size) (hB : 0 < ti.bytes)
    (hx : σ.ev x = some (.w k [])) (hy : σ.ev y = some (.R id2)) (hg2 : get σ.h id2 = some (.row ti.size (m.map f)))
    (hfit : fitsB ti.bytes m.length = true) (hid : get σ.h id' = none) (hd : dstOk σ o = true) :
    OpOk P σ o (St.put { σ with h := (id', .row ti.size (m.map f)) :: kill [id2] σ.h } o.dst (.R id')) := by
  have := app_wr_ok T ho id' ht htx hte hz0 hzs hx (evr_R hy hg2) hg2 (by simp) (fits_max hfit hB) (fits_le hfit) hid hd
  rwa [List.drop_zero, List.take_of_length_le (by simp)] at this

theorem make_map_ok {k k' : IntKind} {n : Int} {α : Type} {f : α → List D} {zo : α} (ho : o.op = .makeSlice t x y) (id : Nat) (ht : te t = some ⟨.slice e, s, b, z⟩) (hte : te e = some ti) (hz : ti.zero = some zv)
    (hone : zv.cells.toList.all (·.oneCell') = true) (hzs : zv.cells.size = ti.size) (hzl : ZL zv.cells.toList (f zo)) (hB : 0 < ti.bytes) (hx : σ.ev x = some (.v (.int k n))) (hy : σ.ev y = some (.v (.int k' n)))
    (hn : decide (0 ≤ n) = true) (hfit : fitsB ti.bytes n.toNat = true)
    (hid : get σ.h id = none) (hd : dstOk σ o = true) : OpOk P σ o (St.put { σ with h := (id, .row ti.size ((List.replicate n.toNat zo).map f)) :: σ.h } o.dst (.R id)) := by
  have hn := of_decide_eq_true hn
  have h1 := fits_le hfit
  have h2 := fits_max hfit hB
  have h3 : (n.toNat : Int) = n := Int.toNat_of_nonneg hn
  have := make_z_ok T ho id ht hte hz hone hzs hzl hx hy hn (by
    have : ti.bytes * n.toNat ≤ 281474976710656 := by
      rw [Nat.mul_assoc] at h1
      have : n.toNat * ti.bytes ≤ 2 * (n.toNat * ti.bytes) := by omega
      rw [Nat.mul_comm]; omega
    have h4 : ((ti.bytes * n.toNat : Nat) : Int) ≤ ((281474976710656 : Nat) : Int) := Int.ofNat_le.2 this
    rw [← h3, ← Int.natCast_mul]; exact h4) (by unfold maxN at h2; omega) hid hd
  rw [← List.map_replicate] at this
  exact this

theorem mk_map_ok {len : Nat} {parts : Array (Nat × Operand)} {ps : List (Nat × D)} {α : Type} {f : α → List D} {l : List α} (ho : o.op = .buildSlice t len parts) (id : Nat) (ht : te t = some ⟨.slice e, s, b, z⟩) (hte : te e = some ti) (hz : ti.zero = some zv)
    (hev : evAll σ parts.toList = some ps) (hen : enumFrom 0 ps = true) (hcs : cellsAll ps = some (l.map f)) (hlen : l.length = len) (hsz : ∀ y, (f y).length = ti.size) (hpl : ((l.map f).flatten).all D.plain = true) (hsmall : Nat.ble (len * ti.size) 16777216 = true) (hsmall' : Nat.ble len 16777216 = true)
    (hid : get σ.h id = none) (hd : dstOk σ o = true) : OpOk P σ o (St.put { σ with h := (id, .row ti.size (l.map f)) :: σ.h } o.dst (.R id)) := by
  have := mk_ok T ho id ht hte hz hev hen hcs (by rw [List.length_map, hlen]; exact Nat.beq_refl _) (by intro x hx; obtain ⟨y, _, rfl⟩ := List.mem_map.1 hx; exact hsz y) hpl hsmall hsmall' hid hd
  exact this

end
end
end Go.AM
end

section
namespace Go.AM

theorem andT {a b : Bool} (h : a = true) (k : b = true) : (a && b) = true := by rw [h, k]; rfl
theorem allC {α : Type} {p : α → Bool} {a : α} {l : List α} (h : p a = true) (k : l.all p = true) : (a :: l).all p = true := by rw [List.all_cons, h, k]; rfl
theorem allN {α : Type} {p : α → Bool} : ([] : List α).all p = true := rfl
theorem renC_cfree {a b : Nat} {d : D} (h : d.cfree = true) : d.renC a b = d := by cases d <;> first | rfl | (simp [D.cfree] at h; done)
theorem knownC_cfree {hp : List (Nat × Root)} {d : D} (h : d.cfree = true) : d.knownC hp = true := by cases d <;> first | rfl | (simp [D.cfree] at h; done)
theorem ren_fF {a b fn : Nat} {caps : List D} (h : caps.all D.cfree = true) : (D.f fn caps).ren a b = .f fn caps := by
  show D.f fn (caps.map (D.renC a b)) = .f fn caps
  congr 1
  refine (List.map_congr_left fun d hd => ?_).trans (List.map_id _)
  exact renC_cfree (List.all_eq_true.1 h d hd)
theorem known_fF {hp : List (Nat × Root)} {fn : Nat} {caps : List D} (h : caps.all D.cfree = true) : (D.f fn caps).known hp = true := by
  show caps.all (D.knownC hp) = true
  exact List.all_eq_true.2 fun d hd => knownC_cfree (List.all_eq_true.1 h d hd)
theorem free_cfree {caps : List D} (h : caps.all D.cfree = true) : caps.all D.free = true := List.all_eq_true.2 fun d hd => by
  have := List.all_eq_true.1 h d hd
  cases d <;> first | rfl | exact this | (simp [D.cfree] at this; done)
theorem neZ {b : Int} (h : (b != 0) = true) : b ≠ 0 := by simpa using h
def strI (s : ByteArray) (i : Int) : Option UInt8 := if 0 ≤ i then s[i.toNat]? else none

section
variable {P : Program} {σ : St} {o : Oper}

theorem negw_ok {t : Nat} {x : Operand} {k : IntKind} {a : Int} (ho : o.op = .unOp .neg t x) (hx : σ.ev x = some (.v (.int k a))) : OpV P σ o (.v (.int k (k.wrap (-a)))) := by
  refine OpV.of_val fun E a' w Z loc fps R => ?_
  have h1 := R.ev hx
  generalize hax : a'.eval x = vx at h1
  cases h1
  exact ⟨_, by simp [execOp, ho, hax, Op.unary, Op.intArith], .v⟩

theorem quow_ok {t u : Nat} {x y : Operand} {k : IntKind} {a b : Int} (ho : o.op = .binOp .quo t x y u) (hx : σ.ev x = some (.v (.int k a))) (hy : σ.ev y = some (.v (.int k b)))
    (hb : b ≠ 0) : OpV P σ o (.v (.int k (k.wrap (a.tdiv b)))) := by
  refine OpV.of_val fun E a' w Z loc fps R => ?_
  have h1 := R.ev hx; have h2 := R.ev hy
  generalize hax : a'.eval x = vx at h1
  generalize hay : a'.eval y = vy at h2
  cases h1; cases h2
  exact ⟨_, by simp [execOp, ho, hax, hay, eqGuard_at_int, binOp_quo, binOp_rem, Op.intDiv, hb], .v⟩
end

section
variable {P : Program} {te : TE} (T : TEok P te) {σ : St} {o : Oper}
include T
theorem convw_ok {s t : Nat} {x : Operand} {k k' : IntKind} {a : Int} {s1 b1 z1} {ti : TI} (ho : o.op = .convert s t x) (hs : te s = some ti) (ht : te t = some ⟨.int k', s1, b1, z1⟩) (hx : σ.ev x = some (.v (.int k a))) : OpV P σ o (.v (.int k' (k'.wrap a))) := by
  refine OpV.of_val fun E a' w Z loc fps R => ?_
  have h1 := R.ev hx
  generalize hax : a'.eval x = vx at h1
  cases h1
  obtain ⟨i, d, _, h2, _⟩ := te_parts T hs
  have hu := und_int T ht
  refine ⟨_, ?_, .v⟩
  simp [execOp, ho, hax, convert, run_underlying hu, run_underlying h2, Conv.intToInt]

theorem ix_strI_ok {t : Nat} {s b z} {x i : Operand} {k : IntKind} {n : Int} {str : ByteArray} {c : UInt8} (ho : o.op = .index t x i) (ht : te t = some ⟨.str, s, b, z⟩)
    (hx : σ.ev x = some (.v (.string str))) (hi : σ.ev i = some (.v (.int k n))) (hc : strI str n = some c) : OpV P σ o (.v (.int .u8 c.toNat)) := by
  unfold strI at hc
  split at hc
  · exact ix_str_ok T ho ht hx hi ‹_› hc
  · cases hc

end

/-! bounds out of boxes and structs -/
theorem s_bound {w Z loc fp v} {α : Type} {l : List α} {f : α → List D} (h : AR w Z loc fp (.s (l.map f)) v) : l.length ≤ maxN := by
  have key : ∀ d, AR w Z loc fp d v → d = .s (l.map f) → l.length ≤ maxN := by
    intro d h hd
    cases h <;> simp only [D.s.injEq, reduceCtorEq] at hd
    · have := congrArg List.length hd
      simp at this; omega
    · rename_i h5 h6 _
      have := congrArg List.length hd
      simp at this; omega
  exact key _ h rfl

theorem AW.boundBox {P : Program} {c : Code} {Q : Exit → St → Prop} {σ : St} {id j : Nat} {ds : List D} {α : Type} {l : List α} {f : α → List D} (hb : get σ.h id = some (.box ds)) (hj : ds[j]? = some (.s (l.map f))) (h : l.length ≤ maxN → AW P c Q σ) : AW P c Q σ := by
  rintro E a w ⟨Z, loc, fps, R⟩
  obtain ⟨L, _, _, _, arr, el, _, h4⟩ := R.roots id _ ⟨hb, by simp⟩
  obtain ⟨v, _, _, hv⟩ := h4.get0 hj
  exact h (s_bound hv) E a w ⟨Z, loc, fps, R⟩
theorem AW.boundG {P : Program} {c : Code} {Q : Exit → St → Prop} {σ : St} {t j : Nat} {ds : List D} {α : Type} {l : List α} {f : α → List D} (hb : get σ.t t = some (.g ds)) (hj : ds[j]? = some (.s (l.map f))) (h : l.length ≤ maxN → AW P c Q σ) : AW P c Q σ := by
  rintro E a w ⟨Z, loc, fps, R⟩
  obtain ⟨v, _, hv⟩ := R.temps t _ hb
  cases hv with
  | g h1 =>
    obtain ⟨u, _, _, hu⟩ := h1.get0 hj
    exact h (s_bound hu) E a w ⟨Z, loc, fps, R⟩
theorem AW.boundQ {P : Program} {c : Code} {Q : Exit → St → Prop} {σ : St} {t j : Nat} {ds : List D} {α : Type} {l : List α} {f : α → List D} (hb : get σ.t t = some (.q ds)) (hj : ds[j]? = some (.s (l.map f))) (h : l.length ≤ maxN → AW P c Q σ) : AW P c Q σ := by
  rintro E a w ⟨Z, loc, fps, R⟩
  obtain ⟨v, _, hv⟩ := R.temps t _ hb
  cases hv with
  | q _ _ h1 =>
    obtain ⟨u, _, _, hu⟩ := h1.get0 hj
    exact h (s_bound hu) E a w ⟨Z, loc, fps, R⟩

/-! lending lists -/
inductive LendL (σ : St) : List D → List D → Prop
  | nil : LendL σ [] []
  | cons {d e ds es} : Lend σ d e → LendL σ ds es → LendL σ (d :: ds) (e :: es)
theorem LendL.spec {σ : St} {ds es : List D} (h : LendL σ ds es) : ds.length = es.length ∧ ∀ (i : Nat) (d d' : D), ds[i]? = some d → es[i]? = some d' → Lend σ d d' := by
  induction h with
  | nil => exact ⟨rfl, by simp⟩
  | cons h1 h2 ih =>
    refine ⟨by simp [ih.1], fun i d d' e1 e2 => ?_⟩
    cases i with
    | zero => simp at e1 e2; subst e1 e2; exact h1
    | succ i => exact ih.2 i d d' (by simpa using e1) (by simpa using e2)
theorem lend_g {σ : St} {ds es : List D} (h : LendL σ ds es) : Lend σ (.g ds) (.g es) := .g h.spec.1 h.spec.2
theorem lend_f {σ : St} {fn : Nat} {ds es : List D} (h : LendL σ ds es) : Lend σ (.f fn ds) (.f fn es) := .f h.spec.1 h.spec.2

inductive ZFL : List D → Prop
  | nil : ZFL []
  | cons {d ds} : d.zfree → ZFL ds → ZFL (d :: ds)
theorem zfl {ds : List D} (h : ZFL ds) : ∀ d ∈ ds, d.zfree := by
  induction h with
  | nil => simp
  | cons h1 _ ih => intro d hd; rcases List.mem_cons.1 hd with rfl | hd; exact h1; exact ih d hd
theorem zfree_map {sz : Nat} {α : Type} {l : List α} {f : α → List D} (h : ∀ y, ZFL (f y)) : D.zfree (.w sz (l.map f)) := zfree_w fun x hx d hd => by
  obtain ⟨y, _, rfl⟩ := List.mem_map.1 hx; exact zfl (h y) d hd

/-! slices made in a drawn region -/
theorem ev_mono {τ σ : St} (h1 : ∀ t d, get τ.t t = some d → get σ.t t = some d) {x : Operand} {d : D} (hx : τ.ev x = some d) : σ.ev x = some d := by
  cases x with
  | tmp t => exact h1 t d hx
  | const v => exact hx
  | func f => exact hx
  | global g => exact hx
theorem evAll_mono {τ σ : St} (h1 : ∀ t d, get τ.t t = some d → get σ.t t = some d) : ∀ {l : List (Nat × Operand)} {r}, evAll τ l = some r → evAll σ l = some r
  | [], r, h => h
  | (i, x) :: l, r, h => by
    simp only [evAll] at h ⊢
    cases hx : τ.ev x with
    | none => simp [hx] at h
    | some d =>
      cases hl : evAll τ l with
      | none => simp [hx, hl] at h
      | some r' =>
        rw [ev_mono h1 hx, evAll_mono h1 hl]
        simpa [hx, hl] using h

theorem FStep.mk {P : Program} {ops : Array Oper} {τ : St} {o : Oper} {te : TE} (T : TEok P te) {t e s b : Nat} {z : Option Value} {ti : TI} {zv : Value} {len k : Nat} {parts : Array (Nat × Operand)} {ps : List (Nat × D)} {α : Type} {f : α → List D} {l : List α} (ho : o.op = .buildSlice t len parts) (hw : τ.wants ops o = some true) (ht : te t = some ⟨.slice e, s, b, z⟩) (hte : te e = some ti) (hz : ti.zero = some zv)
    (hev : evAll τ parts.toList = some ps) (hen : enumFrom 0 ps = true) (hcs : cellsAll ps = some (l.map f)) (hlen : l.length = len) (hsz : ∀ y, (f y).length = ti.size) (hpl : ((l.map f).flatten).all D.plain = true) (hsmall : Nat.ble (len * ti.size) 16777216 = true) (hsmall' : Nat.ble len 16777216 = true)
    (hd : dstOk τ o = true) : FStep P ops τ o (.R k) [(k, .row ti.size (l.map f))] k (k + 1) := by
  rintro E σ a w h1 h2 h3 hfr ⟨Z, loc, fps, R⟩
  have RV := R.toOnly h1 h2 h3
  unfold Behind
  rw [if_pos (RV.wants hw)]
  exact mk_map_ok T ho k ht hte hz (evAll_mono h1 hev) hen hcs hlen hsz hpl hsmall hsmall' (hfr k (Nat.le_refl _) (Nat.lt_succ_self _)) (by unfold dstOk at hd ⊢; rw [h3]; exact hd) E a w ⟨Z, loc, fps, R⟩

theorem FStep.mk0 {P : Program} {ops : Array Oper} {τ : St} {o : Oper} {te : TE} (T : TEok P te) {t e s b k : Nat} {z : Option Value} {ti : TI} (ho : o.op = .buildSlice t 0 #[]) (hw : τ.wants ops o = some true) (ht : te t = some ⟨.slice e, s, b, z⟩) (hte : te e = some ti) (hd : dstOk τ o = true) : FStep P ops τ o (.w ti.size []) [] k k := by
  rintro E σ a w h1 h2 h3 hfr ⟨Z, loc, fps, R⟩
  have RV := R.toOnly h1 h2 h3
  unfold Behind
  rw [if_pos (RV.wants hw)]
  exact mk0_ok T ho ht hte (by unfold dstOk at hd ⊢; rw [h3]; exact hd) E a w ⟨Z, loc, fps, R⟩

end Go.AM
end

section
namespace Go.AM

/-! contracts of functions that turn what is handed to them -/

structure Chg (own : List Nat) (w w' : World) : Prop where
  size : w.heap.size ≤ w'.heap.size
  same : ∀ b, b < w.heap.size → b ∉ own → w'.heap[b]? = w.heap[b]?
  shape : ∀ b, b < w.heap.size → w'.shape? b = w.shape? b
  os : w'.os = w.os
  output : w'.output = w.output
  tape : w'.tape = w.tape ∧ w.drawn ≤ w'.drawn

/-- Called with 'as' (some of it owned) it returns 'res'; behind it the same arguments read as 'outs'. -/
def SpecM (P : Program) (f : FuncId) (as outs : List D) (res : D) : Prop :=
  Callable P f ∧ ∀ (w : World) (Z : Nat → Prop) (vs : Array Value) (fp : List Nat), ART w Z noLoc fp as vs.toList → fp.Nodup → (∀ b ∈ fp, ¬ Z b ∧ b < w.heap.size) → (∀ b, Z b → b < w.heap.size) →
    Calls P f vs w fun e w' => ∃ v Z' fpo fpr, e = .returned v ∧ Chg fp w w' ∧ ART w' Z' noLoc fpo outs vs.toList ∧ AR w' Z' noLoc fpr res v ∧ (fpo ++ fpr).Nodup ∧
      (∀ b ∈ fpo ++ fpr, ¬ Z' b ∧ b < w'.heap.size ∧ (b ∈ fp ∨ w.heap.size ≤ b)) ∧ (∀ b, Z' b → b < w'.heap.size ∧ (Z b ∨ b ∈ fp ∨ w.heap.size ≤ b))

def pinsOf (ids : List Nat) (L : Nat → Loc) : List (Nat × Loc) := ids.map fun i => (i, L i)
theorem pinsOf_get {L : Nat → Loc} : ∀ {ids : List Nat} {i : Nat} {M : Loc}, get (pinsOf ids L) i = some M → i ∈ ids ∧ M = L i
  | [], i, M, h => by simp [pinsOf, get] at h
  | j :: ids, i, M, h => by
    simp only [pinsOf, List.map_cons, get_cons] at h
    split at h
    · rename_i e; subst e; cases h; simp
    · have := pinsOf_get (ids := ids) (L := L) h; exact ⟨List.mem_cons_of_mem _ this.1, this.2⟩
theorem pinsOf_mem {L : Nat → Loc} : ∀ {ids : List Nat} {i : Nat}, i ∈ ids → get (pinsOf ids L) i = some (L i)
  | [], i, h => by simp at h
  | j :: ids, i, h => by
    simp only [pinsOf, List.map_cons, get_cons]
    split
    · rename_i e; subst e; rfl
    · rename_i e; exact pinsOf_mem ((List.mem_cons.1 h).resolve_left e)

def retQM (te : TE) (fn : Func) (ds0 outs : List D) (res : D) (pins : List (Nat × Loc)) : Exit → St → Prop := fun e σ => isRet e ∧ σ.g = pins ∧ ∃ rs ids ids', resV te σ fn.results.toList = some rs ∧ expLG σ ds0 outs ids' ∧ ExpT σ (tupD rs) res ids ∧ (ids' ++ ids).Nodup

theorem fn_okM {P : Program} {te : TE} (T : TEok P te) {f : FuncId} {fn : Func} {body : Code} {as outs : List D} {res : D} (hf : P.funcs[f]? = some fn) (hb : fn.body = some body) (hname : (fn.name == "runtime.NumGoroutine") = false) (hn : Nat.ble as.length fn.ntmps = true) (hok : as.all D.gOk = true)
    (h : ∀ L : Nat → Loc, AW P body (retQM te fn (impLG 1 as).1 outs res (pinsOf ((impLG 1 as).2.1.map (·.1)) L)) ⟨initT 0 (impLG 1 as).1, (impLG 1 as).2.1, fn.ntmps, pinsOf ((impLG 1 as).2.1.map (·.1)) L⟩) : SpecM P f as outs res := by
  refine ⟨⟨fn, hf, by rw [hb]; rfl, hname⟩, fun w Z vs fp hart hnd hfp hZ => ?_⟩
  have hn := Nat.le_of_ble_eq_true hn
  have artlen : ∀ {loc : Nat → Option Loc} {ds : List D} {vs : List Value} {fp}, ART w Z loc fp ds vs → ds.length = vs.length := by
    intro loc ds
    induction ds with
    | nil => intro vs fp h; cases h; rfl
    | cons d ds ih => intro vs fp h; cases h with | cons h1 h2 => simp [ih h2]
  have artget : ∀ {loc : Nat → Option Loc} {ds : List D} {vs : List Value} {i : Nat} {d : D}, ART w Z loc [] ds vs → ds[i]? = some d → ∃ v, vs[i]? = some v ∧ AR w Z loc [] d v := by
    intro loc ds
    induction ds with
    | nil => intro vs i d _ h; simp at h
    | cons d' ds ih =>
      intro vs i d h hi
      generalize hfp : ([] : List Nat) = fp at h
      cases h with
      | @cons _ fp1 fp2 _ v _ vs h1 h2 =>
        obtain ⟨rfl, rfl⟩ : fp1 = [] ∧ fp2 = [] := List.append_eq_nil_iff.1 hfp.symm
        cases i with
        | zero => simp at hi; subst hi; exact ⟨v, rfl, h1⟩
        | succ i => simpa using ih h2 (by simpa using hi)
  let E : Env := ⟨w, Z, fp⟩
  let act : Act := { tmps := vs ++ Array.replicate (fn.ntmps - vs.size) undef, defers := [] }
  have hlen := artlen hart
  simp only [Array.length_toList] at hlen
  have R0 : Rel E ⟨[], [], fn.ntmps, []⟩ act w Z noLoc (fun _ => []) := by
    refine { size := by simp [act]; omega, defers := rfl, temps := ?_, roots := ?_, nodup := ?_, disj := ?_, owned := ?_, fresh := fun _ _ => rfl, zlt := hZ, zsub := fun _ h => h, znew := fun _ h => .inl h, frame := fun _ _ _ => rfl, grow := Nat.le_refl _, shape := fun _ _ => rfl, os := rfl, output := rfl, tape := ⟨rfl, Nat.le_refl _⟩, pins := fun _ _ h => by cases h }
    · intro t d ht; simp [get] at ht
    all_goals (intros; rename_i hl; simp [St.live, get] at *)
  obtain ⟨loc1, fps1, ⟨R1, hl1, _⟩, hart1⟩ := impLG_ok R0 (k := 1) (fun _ _ _ => rfl) hart hnd (fun b hb => ⟨(hfp b hb).1, (hfp b hb).2, .inr hb, fun i ρ hl => by simp [St.live, get] at hl⟩) hok
  simp only [List.append_nil] at R1
  have hlen1 := artlen hart1
  let L : Nat → Loc := fun i => (loc1 i).getD ⟨0, 0, 0, 0, 0⟩
  have hdead : ∀ x ∈ (impLG 1 as).2.1, x.2 ≠ .dead := by
    have c : ∀ (k : Nat) (d : D), ∀ x ∈ (impC k d).2.1, x.2 ≠ .dead := by intro k d x hx; cases d <;> simp [impC] at hx <;> (subst hx; simp)
    have lc : ∀ (ds : List D) (k : Nat), ∀ x ∈ (impLC k ds).2.1, x.2 ≠ .dead := by
      intro ds; induction ds with
      | nil => intro k x hx; simp [impLC] at hx
      | cons d ds ih => intro k x hx; simp only [impLC] at hx; rcases List.mem_append.1 hx with hx | hx; exact ih _ x hx; exact c k d x hx
    have g : ∀ (k : Nat) (d : D), ∀ x ∈ (impG k d).2.1, x.2 ≠ .dead := by
      intro k d x hx; cases d <;> first | exact lc _ _ x hx | exact c _ _ x hx
    have lg : ∀ (ds : List D) (k : Nat), ∀ x ∈ (impLG k ds).2.1, x.2 ≠ .dead := by
      intro ds; induction ds with
      | nil => intro k x hx; simp [impLG] at hx
      | cons d ds ih => intro k x hx; simp only [impLG] at hx; rcases List.mem_append.1 hx with hx | hx; exact ih _ x hx; exact g k d x hx
    exact lg as 1
  have hpin : ∀ i M, get (pinsOf ((impLG 1 as).2.1.map (·.1)) L) i = some M → loc1 i = some M := by
    intro i M hg
    obtain ⟨h1, rfl⟩ := pinsOf_get hg
    obtain ⟨x, hx, rfl⟩ := List.mem_map.1 h1
    have hget : ∃ ρ, get (impLG 1 as).2.1 x.1 = some ρ := by
      have : ∀ {l : List (Nat × Root)}, x ∈ l → ∃ ρ, get l x.1 = some ρ := by
        intro l; induction l with
        | nil => intro h; simp at h
        | cons y l ih =>
          intro h
          rw [get_cons]
          split
          · exact ⟨_, rfl⟩
          · rename_i e; rcases List.mem_cons.1 h with rfl | h; exact absurd rfl e; exact ih h
      exact this hx
    obtain ⟨ρ, hρ⟩ := hget
    obtain ⟨M, hM, _⟩ := R1.roots x.1 ρ ⟨hρ, hdead _ (get_mem hρ)⟩
    simp [L, hM]
  have R : Rel E ⟨initT 0 (impLG 1 as).1, (impLG 1 as).2.1, fn.ntmps, pinsOf ((impLG 1 as).2.1.map (·.1)) L⟩ act w Z loc1 fps1 := by
    refine { R1 with temps := ?_, pins := hpin }
    intro t d ht
    obtain ⟨_, h1⟩ := initT_get ht
    obtain ⟨v, h2, h3⟩ := artget hart1 h1
    refine ⟨v, ?_, h3⟩
    simp only [Nat.sub_zero, Array.getElem?_toList] at h2
    show (vs ++ Array.replicate (fn.ntmps - vs.size) undef)[t]? = some v
    rw [Array.getElem?_append_left (Array.getElem?_eq_some_iff.1 h2).1]; exact h2
  refine calls_of_wp hf hb (wp_mono (h L E _ w ⟨Z, loc1, _, R⟩) ?_)
  rintro e a' w' ⟨σ', ⟨he, hg, ds, ids, ids', hres, hexo, hexp, hnd'⟩, Z', loc', fps', R'⟩
  obtain ⟨us, h1, h2⟩ := resV_rel T R' hres
  have hv : ∃ v, (results fn a'.tmps).run P w' = .ok v w' ∧ AR w' Z' loc' [] (tupD ds) v := by
    have hrun : (fn.results.mapM (resM a'.tmps)).run P w' = .ok us.toArray w' := by
      rw [Array.mapM_eq_mapM_toList]; simp only [Sem.run_map, h1, Result.andThen_ok]
    have hall : ∀ {ds : List D} {us : List Value}, All2 (fun d v => AR w' Z' loc' [] d v) ds us → ds.length = us.length := by
      intro ds us h; induction h with | nil => rfl | cons _ _ ih => simp [ih]
    have hl := hall h2
    by_cases hone : us.length = 1
    · cases h2 with
      | nil => simp at hone
      | @cons d u l m g1 g2 =>
        cases g2 with
        | cons => simp at hone
        | nil => exact ⟨u, by simp only [results_eq, Sem.run_bind, hrun, Result.andThen_ok, Sem.run_pure]; simp, g1⟩
    · refine ⟨.tuple us.toArray, ?_, ?_⟩
      · simp only [results_eq, Sem.run_bind, hrun, Result.andThen_ok, Sem.run_pure, List.size_toArray, hone, dif_neg, not_false_eq_true]
      · have : tupD ds = .t ds := by
          cases ds with
          | nil => rfl
          | cons d ds => cases ds with | nil => simp at hl; omega | cons => rfl
        rw [this]
        exact .t (by simpa using art_of_all2 h2)
  obtain ⟨v, hv1, hv2⟩ := hv
  obtain ⟨fpr, hv3, hv4⟩ := expT_ok R' hexp (List.nodup_append.1 hnd').2.1 hv2
  have hargs : ART w' Z' loc' [] (impLG 1 as).1 vs.toList := by
    have hmem : ∀ id M, (∃ x ∈ (impLG 1 as).2.1, x.1 = id) → loc1 id = some M → loc' id = some M := by
      rintro id M ⟨x, hx, rfl⟩ hM
      have h3 : get σ'.g x.1 = some (L x.1) := by rw [hg]; exact pinsOf_mem (List.mem_map.2 ⟨x, hx, rfl⟩)
      rw [R'.pins _ _ h3]
      simp [L, hM]
    refine ART.mono (fun b hb => R'.zsub b hb) ?_ hart1 ?_
    · intro id M hM
      by_cases hin : ∃ x ∈ (impLG 1 as).2.1, x.1 = id
      · exact hmem id M hin hM
      · exfalso
        have : get (impLG 1 as).2.1 id = none := by
          have : ∀ {l : List (Nat × Root)}, (¬ ∃ x ∈ l, x.1 = id) → get l id = none := by
            intro l; induction l with
            | nil => intro _; rfl
            | cons y l ih =>
              intro h
              rw [get_cons, if_neg (fun e => h ⟨y, by simp, e.symm⟩)]
              exact ih fun ⟨x, hx, e⟩ => h ⟨x, List.mem_cons_of_mem _ hx, e⟩
          exact this hin
        rw [R1.fresh id this] at hM; cases hM
    · intro b hb
      rcases hb with hb | hb
      · exact R'.frame b (hZ b hb) (fun hin => (hfp b hin).1 hb)
      · simp at hb
  obtain ⟨fpo, ho1, ho2⟩ := expLG_ok R' hexo (List.nodup_append.1 hnd').1 hargs
  have hH := ho2.append R' hv4 hnd'
  have post : ∃ v_1 Z'_1 fpo fpr, Ending.returned v = Ending.returned v_1 ∧ Chg fp w w' ∧ ART w' Z'_1 noLoc fpo outs vs.toList ∧ AR w' Z'_1 noLoc fpr res v_1 ∧ (fpo ++ fpr).Nodup ∧
      (∀ b ∈ fpo ++ fpr, ¬ Z'_1 b ∧ b < w'.heap.size ∧ (b ∈ fp ∨ w.heap.size ≤ b)) ∧ (∀ b, Z'_1 b → b < w'.heap.size ∧ (Z b ∨ b ∈ fp ∨ w.heap.size ≤ b)) := by
    refine ⟨v, Z', fpo, fpr, rfl, ⟨R'.grow, R'.frame, R'.shape, R'.os, R'.output, R'.tape⟩, ho1, hv3, hH.1, fun b hb => ?_, fun b hb => ⟨R'.zlt b hb, ?_⟩⟩
    · obtain ⟨id, ρ, _, h3, h4⟩ := hH.2 b hb
      obtain ⟨g1, g2, g3⟩ := R'.owned id ρ b h3 h4
      exact ⟨g1, g2, g3.symm⟩
    · rcases R'.znew b hb with h | h | h
      · exact .inl h
      · exact .inr (.inr h)
      · exact .inr (.inl h)
  cases e with
  | normal => exact ⟨R'.defers, v, hv1, post⟩
  | ret => exact ⟨R'.defers, v, hv1, post⟩
  | _ => exact he.elim

/-! calls of such functions -/

def backC : D → D → List (Nat × Root)
  | .R id, .w sz xs => [(id, .row sz xs)]
  | .p id _, .pw cs => [(id, .box cs)]
  | _, _ => []
def backLC : List D → List D → List (Nat × Root)
  | d :: ds, o :: os => backC d o ++ backLC ds os
  | _, _ => []
def backG : D → D → List (Nat × Root)
  | .g ds, .g os => backLC ds os
  | d, o => backC d o
def backLG : List D → List D → List (Nat × Root)
  | d :: ds, o :: os => backG d o ++ backLG ds os
  | _, _ => []

def fitC (σ : St) (d o : D) : Bool :=
  match d, o with
  | .R id, .w sz _ => (match get σ.h id with | some (.row sz' _) => Nat.beq sz sz' | _ => false)
  | .p id off, .pw cs => Nat.beq off 0 && cs.all D.isVS && (match get σ.h id with | some (.box _) => true | _ => false)
  | _, .u => true
  | _, _ => false
def fitLC (σ : St) : List D → List D → Bool
  | d :: ds, o :: os => fitC σ d o && fitLC σ ds os
  | [], [] => true
  | _, _ => false
def fitG (σ : St) (d o : D) : Bool :=
  match d, o with
  | .g ds, .g os => fitLC σ ds os
  | d, o => fitC σ d o
def fitLG (σ : St) : List D → List D → Bool
  | d :: ds, o :: os => fitG σ d o && fitLG σ ds os
  | [], [] => true
  | _, _ => false

section
variable {E : Env} {a : Act} {w : World} {Z : Nat → Prop} {loc : Nat → Option Loc}

/-- a root that was given away is there again -/
theorem Rel.regain {σ : St} {fps} (R : Rel E σ a w Z loc fps) {id : Nat} {ρ : Root} {L : Loc} {fp0 : List Nat} (hdead : ∀ ρ, ¬ σ.live id ρ) (hloc : loc id = some L)
    (hfp : ∀ b ∈ fp0, ¬ Z b ∧ b < w.heap.size ∧ (E.w0.heap.size ≤ b ∨ b ∈ E.own) ∧ ∀ i ρ', σ.live i ρ' → b ∉ fps i) (hnd : fp0.Nodup) (hroot : RootRel w Z loc fp0 L ρ) :
    Rel E { σ with h := (id, ρ) :: σ.h } a w Z loc (updF fps id fp0) := by
  have hlive : ∀ i ρ', St.live { σ with h := (id, ρ) :: σ.h } i ρ' → (i = id ∧ ρ' = ρ) ∨ (i ≠ id ∧ σ.live i ρ') := by
    rintro i ρ' ⟨h1, h2⟩
    simp only [get_cons] at h1
    split at h1
    · cases h1; exact .inl ⟨‹_›, rfl⟩
    · exact .inr ⟨‹_›, h1, h2⟩
  refine { R with roots := ?_, nodup := ?_, disj := ?_, owned := ?_, fresh := ?_ }
  · intro i ρ' hl
    rcases hlive i ρ' hl with ⟨rfl, rfl⟩ | ⟨h1, h2⟩
    · exact ⟨L, hloc, by simpa [updF] using hroot⟩
    · obtain ⟨L', h4, h5⟩ := R.roots i ρ' h2
      exact ⟨L', h4, by simpa [updF, h1] using h5⟩
  · intro i ρ' hl
    rcases hlive i ρ' hl with ⟨rfl, rfl⟩ | ⟨h1, h2⟩
    · simpa [updF] using hnd
    · simpa [updF, h1] using R.nodup i ρ' h2
  · intro i j ρ1 ρ2 b hi hj hbi hbj
    rcases hlive i ρ1 hi with ⟨rfl, rfl⟩ | ⟨h1, h2⟩ <;> rcases hlive j ρ2 hj with ⟨rfl, rfl⟩ | ⟨h1', h2'⟩
    · rfl
    · simp only [updF, if_neg h1', if_true] at hbi hbj
      exact absurd hbj ((hfp b hbi).2.2.2 j ρ2 h2')
    · simp only [updF, if_neg h1, if_true] at hbi hbj
      exact absurd hbi ((hfp b hbj).2.2.2 i ρ1 h2)
    · simp only [updF, if_neg h1, if_neg h1'] at hbi hbj
      exact R.disj i j ρ1 ρ2 b h2 h2' hbi hbj
  · intro i ρ' b hl hb
    rcases hlive i ρ' hl with ⟨rfl, rfl⟩ | ⟨h1, h2⟩
    · simp only [updF, if_true] at hb
      obtain ⟨g1, g2, g3, _⟩ := hfp b hb
      exact ⟨g1, g2, g3⟩
    · simp only [updF, if_neg h1] at hb
      exact R.owned i ρ' b h2 hb
  · intro i h
    simp only [get_cons] at h
    split at h
    · cases h
    · exact R.fresh i h

def TookB (E : Env) (a : Act) (w : World) (Z : Nat → Prop) (loc : Nat → Option Loc) (σ : St) (fps : Nat → List Nat) (fp : List Nat) (l : List (Nat × Root)) (fps' : Nat → List Nat) : Prop :=
  Rel E { σ with h := l ++ σ.h } a w Z loc fps' ∧ (∀ i ρ b, St.live { σ with h := l ++ σ.h } i ρ → b ∈ fps' i → (∃ i ρ, σ.live i ρ ∧ b ∈ fps i) ∨ b ∈ fp)

theorem TookB.trans {σ : St} {fps fps1 fps2} {fp1 fp2 : List Nat} {l m : List (Nat × Root)} (h1 : TookB E a w Z loc σ fps fp1 l fps1) (h2 : TookB E a w Z loc { σ with h := l ++ σ.h } fps1 fp2 m fps2) : TookB E a w Z loc σ fps (fp1 ++ fp2) (m ++ l) fps2 := by
  have e : ({ σ with h := m ++ (l ++ σ.h) } : St) = { σ with h := (m ++ l) ++ σ.h } := by simp
  refine ⟨e ▸ h2.1, fun i ρ b hl hb => ?_⟩
  rw [← e] at hl
  rcases h2.2 i ρ b hl hb with ⟨j, ρ', hj, hb'⟩ | hb'
  · rcases h1.2 j ρ' b hj hb' with h | h
    · exact .inl h
    · exact .inr (List.mem_append_left _ h)
  · exact .inr (List.mem_append_right _ hb')

theorem looseB {σ : St} {fps fps1} {fp1 fp2 : List Nat} {l : List (Nat × Root)} (hL : Loose E σ w Z fps (fp1 ++ fp2)) (hnd : (fp1 ++ fp2).Nodup) (h1 : TookB E a w Z loc σ fps fp1 l fps1) : Loose E { σ with h := l ++ σ.h } w Z fps1 fp2 := by
  intro b hb
  obtain ⟨g1, g2, g3, g4⟩ := hL b (List.mem_append_right _ hb)
  refine ⟨g1, g2, g3, fun i ρ hl hbi => ?_⟩
  rcases h1.2 i ρ b hl hbi with ⟨j, ρ', hj, hb'⟩ | hb'
  · exact g4 j ρ' hj hb'
  · exact (List.nodup_append.1 hnd).2.2 b hb' b hb rfl

/-- what is known of the roots that come back -/
def Were (σ0 : St) (loc : Nat → Option Loc) : Prop := (∀ id sz xs, get σ0.h id = some (.row sz xs) → ∃ L, loc id = some L ∧ L.sz = sz ∧ L.tot ≤ maxN) ∧ (∀ id ds, get σ0.h id = some (.box ds) → ∃ L, loc id = some L ∧ L.base = 0)

theorem backC_ok {σ0 σ : St} {fps} (R : Rel E σ a w Z loc fps) (hw : Were σ0 loc) {d o : D} {v : Value} {fp : List Nat} {w0 : World} {Z0 : Nat → Prop} (hf : fitC σ0 d o = true) (hdead : ∀ x ∈ backC d o, ∀ ρ, ¬ σ.live x.1 ρ) (hv : AR w0 Z0 loc [] d v)
    (h : AR w Z noLoc fp o v) (hnd : fp.Nodup) (hL : Loose E σ w Z fps fp) : ∃ fps', TookB E a w Z loc σ fps fp (backC d o) fps' := by
  have triv : backC d o = [] → ∃ fps', TookB E a w Z loc σ fps fp (backC d o) fps' := fun e => by
    rw [e]; exact ⟨fps, R, fun i ρ b hl hb => .inl ⟨i, ρ, hl, hb⟩⟩
  have took : ∀ {id : Nat} {ρ : Root} {fp0 : List Nat} {l : List (Nat × Root)}, l = [(id, ρ)] → (∀ b ∈ fp0, b ∈ fp) → Rel E { σ with h := (id, ρ) :: σ.h } a w Z loc (updF fps id fp0) → ∃ fps', TookB E a w Z loc σ fps fp l fps' := by
    rintro id ρ fp0 l rfl hsub R'
    refine ⟨_, R', ?_⟩
    rintro i ρ' b ⟨h1, h2⟩ hb
    simp only [List.cons_append, List.nil_append, get_cons] at h1
    split at h1
    · rename_i e; subst e; simp only [updF, if_true] at hb; exact .inr (hsub b hb)
    · rename_i e; simp only [updF, if_neg e] at hb; exact .inl ⟨i, ρ', ⟨h1, h2⟩, hb⟩
  unfold fitC at hf
  split at hf
  · rename_i id sz xs
    split at hf
    · rename_i sz' xs' hg
      have hsz := Nat.eq_of_beq_eq_true hf
      subst hsz
      obtain ⟨L, hL1, hL2, hL3⟩ := hw.1 _ _ _ hg
      have hd := hdead (id, .row sz xs) (by simp [backC])
      have hv' : ∃ A, v = Value.slice A L.n L.tot ∧ (L.tot = 0 ∨ A = some ⟨L.b, L.base, none⟩) ∧ L.n ≤ L.tot := by
        generalize hdd : D.R id = dd at hv
        cases hv with
        | R g1 g2 g3 g4 => cases hdd; rw [hL1] at g1; cases g1; exact ⟨_, rfl, g4, g2⟩
        | _ => cases hdd
      obtain ⟨A, rfl, hA, hnt⟩ := hv'
      have h' : (xs = [] ∧ L.n = 0 ∧ L.tot = 0) ∨ ∃ fpN b off arr el, fp = b :: fpN ∧ A = some ⟨b, off, none⟩ ∧ w.heap[b]? = some (.cells arr el (0, 0)) ∧ (∀ x ∈ xs, x.length = sz) ∧ xs.length = L.n ∧ off + L.tot * sz ≤ arr.size ∧ ARL w Z noLoc fpN xs.flatten ((arr.toList.drop off).take (xs.length * sz)) := by
        generalize hn : L.n = n at h
        generalize ht : L.tot = t at h
        cases h with
        | w0 => exact .inl ⟨rfl, rfl, rfl⟩
        | @w _ fpN _ b off _ arr el cap k1 k2 k3 k4 k5 k6 => exact .inr ⟨fpN, b, off, arr, el, rfl, rfl, k1, k2, rfl, k5, k6⟩
      rcases h' with ⟨rfl, hn0, ht0⟩ | ⟨fpN, b, off, arr, el, rfl, hAe, k1, k2, k3, k5, k6⟩
      · exact took (fp0 := []) rfl (by simp) (R.regain hd hL1 (by simp) (by simp) ⟨hL2, by simp, ⟨by simp, by simpa using hn0⟩, hL3, .inl ⟨ht0, rfl⟩⟩)
      · rcases hA with hA | hA
        · refine took (fp0 := []) rfl (by simp) (R.regain hd hL1 (by simp) (by simp) ⟨hL2, k2, ⟨by omega, k3.symm⟩, hL3, .inl ⟨hA, rfl⟩⟩)
        · rw [hA] at hAe; cases hAe
          exact took (fp0 := L.b :: fpN) rfl (fun _ h => h) (R.regain hd hL1 hL hnd ⟨hL2, k2, ⟨by omega, k3.symm⟩, hL3, .inr ⟨fpN, arr, el, rfl, k1, k5, k6⟩⟩)
    · cases hf
  · rename_i id off cs
    simp only [Bool.and_eq_true] at hf
    obtain ⟨⟨h1, h2⟩, h3⟩ := hf
    split at h3
    · rename_i cs0 hg
      have hoff := Nat.eq_of_beq_eq_true h1
      subst hoff
      obtain ⟨L, hL1, hL2⟩ := hw.2 _ _ hg
      have hd := hdead (id, .box cs) (by simp [backC])
      have hv' : v = Value.pointer (some ⟨L.b, L.base + 0, none⟩) := by
        generalize hdd : D.p id 0 = dd at hv
        cases hv with
        | p g1 => cases hdd; rw [hL1] at g1; cases g1; rfl
        | _ => cases hdd
      rw [hL2] at hv'
      subst hv'
      have h' : ∃ fpN arr el, fp = L.b :: fpN ∧ w.heap[L.b]? = some (.cells arr el (0, 0)) ∧ ARL w Z noLoc fpN cs arr.toList := by
        generalize hb : L.b = b at h
        cases h with
        | pw k1 k2 => exact ⟨_, _, _, rfl, k1, k2⟩
      obtain ⟨fpN, arr, el, rfl, k1, k2⟩ := h'
      have hfN : fpN = [] := by
        have : ∀ {ds : List D} {vs : List Value} {fp : List Nat}, ARL w Z noLoc fp ds vs → ds.all D.isVS = true → fp = [] := by
          intro ds
          induction ds with
          | nil => intro vs fp h _; cases h; rfl
          | cons d ds ih =>
            intro vs fp h hv
            simp only [List.all_cons, Bool.and_eq_true] at hv
            cases h with | cons _ h1 h2 => rw [(h1.vs_fp hv.1).2, ih h2 hv.2]; rfl
        exact this k2 h2
      subst hfN
      exact took (fp0 := [L.b]) rfl (fun _ h => h) (R.regain hd hL1 hL hnd ⟨hL2, rfl, arr, el, k1, k2.mono (fun _ h => h) (fun _ _ h => by simp [noLoc] at h) (fun _ _ => rfl)⟩)
    · cases h3
  · rename_i hn1 hn2
    refine triv ?_
    cases d <;> rfl
  · cases hf

theorem live_back {σ : St} {l : List (Nat × Root)} {i : Nat} {ρ : Root} (h : St.live { σ with h := l ++ σ.h } i ρ) : (∃ x ∈ l, x.1 = i) ∨ σ.live i ρ := by
  obtain ⟨h1, h2⟩ := h
  induction l with
  | nil => exact .inr ⟨h1, h2⟩
  | cons y l ih =>
    obtain ⟨y1, y2⟩ := y
    simp only [List.cons_append, get_cons] at h1
    split at h1
    · rename_i e; exact .inl ⟨(y1, y2), by simp, e.symm⟩
    · rcases ih h1 with ⟨x, hx, e⟩ | h
      · exact .inl ⟨x, List.mem_cons_of_mem _ hx, e⟩
      · exact .inr h

theorem backLC_ok {σ0 : St} (hw : Were σ0 loc) {w0 : World} {Z0 : Nat → Prop} : ∀ {ds os : List D} {σ : St} {fps} (R : Rel E σ a w Z loc fps) {vs : List Value} {fp : List Nat}, fitLC σ0 ds os = true → ((backLC ds os).map (·.1)).Nodup → (∀ x ∈ backLC ds os, ∀ ρ, ¬ σ.live x.1 ρ) →
    ARL w0 Z0 loc [] ds vs → ARL w Z noLoc fp os vs → fp.Nodup → Loose E σ w Z fps fp → ∃ l fps', TookB E a w Z loc σ fps fp l fps' ∧ (∀ i, get l i = get (backLC ds os) i) ∧ (∀ x ∈ l, ∃ y ∈ backLC ds os, y.1 = x.1) := by
  intro ds
  induction ds with
  | nil =>
    intro os σ fps R vs fp hf _ _ hv h hnd hL
    cases os with
    | nil => cases h; exact ⟨[], fps, ⟨R, fun i ρ b hl hb => .inl ⟨i, ρ, hl, hb⟩⟩, fun _ => rfl, by simp⟩
    | cons => cases hf
  | cons d ds ih =>
    intro os σ fps R vs fp hf hids hdead hv h hnd hL
    cases os with
    | nil => cases hf
    | cons o os =>
      simp only [fitLC, Bool.and_eq_true] at hf
      simp only [backLC, List.map_append, List.nodup_append] at hids
      generalize hfp0 : ([] : List Nat) = fp0 at hv
      cases hv with
      | @cons _ fpa fpb _ v _ vs k0 k1 k2 =>
        obtain ⟨rfl, rfl⟩ : fpa = [] ∧ fpb = [] := List.append_eq_nil_iff.1 hfp0.symm
        cases h with
        | @cons _ fp1 fp2 _ _ _ _ m0 m1 m2 =>
          have hnd' := List.nodup_append.1 hnd
          obtain ⟨fps1, t1⟩ := backC_ok R hw hf.1 (fun x hx => hdead x (by simp [backLC, hx])) k1 m1 hnd'.1 (fun b hb => hL b (List.mem_append_left _ hb))
          obtain ⟨l, fps2, t2, hget, hmem⟩ := ih t1.1 hf.2 hids.2.1 (by
            intro x hx ρ hl
            rcases live_back hl with ⟨y, hy, e⟩ | hl
            · exact hids.2.2 y.1 (List.mem_map.2 ⟨y, hy, rfl⟩) x.1 (List.mem_map.2 ⟨x, hx, rfl⟩) e
            · exact hdead x (by simp [backLC, hx]) ρ hl) k2 m2 hnd'.2.1 (looseB hL hnd t1)
          refine ⟨l ++ backC d o, fps2, t1.trans t2, ?_, ?_⟩
          · intro i
            simp only [backLC]
            rw [get_append, get_append, hget]
            cases h1 : get (backC d o) i with
            | none => cases get (backLC ds os) i <;> rfl
            | some r1 =>
              cases h2 : get (backLC ds os) i with
              | none => rfl
              | some r2 => exact absurd rfl (hids.2.2 i (List.mem_map.2 ⟨(i, r1), get_mem h1, rfl⟩) i (List.mem_map.2 ⟨(i, r2), get_mem h2, rfl⟩))
          · intro x hx
            simp only [backLC]
            rcases List.mem_append.1 hx with hx | hx
            · obtain ⟨y, hy, e⟩ := hmem x hx; exact ⟨y, List.mem_append_right _ hy, e⟩
            · exact ⟨x, List.mem_append_left _ hx, rfl⟩

theorem backG_ok {σ0 : St} (hw : Were σ0 loc) {w0 : World} {Z0 : Nat → Prop} {d o : D} {σ : St} {fps} (R : Rel E σ a w Z loc fps) {v : Value} {fp : List Nat} (hf : fitG σ0 d o = true) (hids : ((backG d o).map (·.1)).Nodup) (hdead : ∀ x ∈ backG d o, ∀ ρ, ¬ σ.live x.1 ρ)
    (hv : AR w0 Z0 loc [] d v) (h : AR w Z noLoc fp o v) (hnd : fp.Nodup) (hL : Loose E σ w Z fps fp) : ∃ l fps', TookB E a w Z loc σ fps fp l fps' ∧ (∀ i, get l i = get (backG d o) i) ∧ (∀ x ∈ l, ∃ y ∈ backG d o, y.1 = x.1) := by
  by_cases hg : ∃ ds os, d = .g ds ∧ o = .g os
  · obtain ⟨ds, os, rfl, rfl⟩ := hg
    cases hv with
    | g h1 => cases h with | g h2 => exact backLC_ok hw R hf hids hdead h1 h2 hnd hL
  · have e1 : backG d o = backC d o := by
      unfold backG; split
      · exact absurd ⟨_, _, rfl, rfl⟩ hg
      · rfl
    have e2 : fitG σ0 d o = fitC σ0 d o := by
      unfold fitG; split
      · exact absurd ⟨_, _, rfl, rfl⟩ hg
      · rfl
    rw [e1] at hids hdead ⊢
    rw [e2] at hf
    obtain ⟨fps', t⟩ := backC_ok R hw hf hdead hv h hnd hL
    exact ⟨_, fps', t, fun _ => rfl, fun x hx => ⟨x, hx, rfl⟩⟩

theorem backLG_ok {σ0 : St} (hw : Were σ0 loc) {w0 : World} {Z0 : Nat → Prop} : ∀ {ds os : List D} {σ : St} {fps} (R : Rel E σ a w Z loc fps) {vs : List Value} {fp : List Nat}, fitLG σ0 ds os = true → ((backLG ds os).map (·.1)).Nodup → (∀ x ∈ backLG ds os, ∀ ρ, ¬ σ.live x.1 ρ) →
    All2 (fun d v => AR w0 Z0 loc [] d v) ds vs → ART w Z noLoc fp os vs → fp.Nodup → Loose E σ w Z fps fp → ∃ l fps', TookB E a w Z loc σ fps fp l fps' ∧ (∀ i, get l i = get (backLG ds os) i) ∧ (∀ x ∈ l, ∃ y ∈ backLG ds os, y.1 = x.1) := by
  intro ds
  induction ds with
  | nil =>
    intro os σ fps R vs fp hf _ _ hv h hnd hL
    cases os with
    | nil => cases h; exact ⟨[], fps, ⟨R, fun i ρ b hl hb => .inl ⟨i, ρ, hl, hb⟩⟩, fun _ => rfl, by simp⟩
    | cons => cases hf
  | cons d ds ih =>
    intro os σ fps R vs fp hf hids hdead hv h hnd hL
    cases os with
    | nil => cases hf
    | cons o os =>
      simp only [fitLG, Bool.and_eq_true] at hf
      simp only [backLG, List.map_append, List.nodup_append] at hids
      cases hv with
      | @cons _ v _ vs k1 k2 =>
        cases h with
        | @cons _ fp1 fp2 _ _ _ _ m1 m2 =>
          have hnd' := List.nodup_append.1 hnd
          obtain ⟨l1, fps1, t1, hget1, hmem1⟩ := backG_ok hw R hf.1 hids.1 (fun x hx => hdead x (by simp [backLG, hx])) k1 m1 hnd'.1 (fun b hb => hL b (List.mem_append_left _ hb))
          obtain ⟨l, fps2, t2, hget, hmem⟩ := ih t1.1 hf.2 hids.2.1 (by
            intro x hx ρ hl
            rcases live_back hl with ⟨y, hy, e⟩ | hl
            · obtain ⟨y', hy', e'⟩ := hmem1 y hy
              exact hids.2.2 y'.1 (List.mem_map.2 ⟨y', hy', rfl⟩) x.1 (List.mem_map.2 ⟨x, hx, rfl⟩) (e'.trans e)
            · exact hdead x (by simp [backLG, hx]) ρ hl) k2 m2 hnd'.2.1 (looseB hL hnd t1)
          refine ⟨l ++ l1, fps2, t1.trans t2, ?_, ?_⟩
          · intro i
            simp only [backLG]
            rw [get_append, get_append, hget, hget1]
            cases h1 : get (backG d o) i with
            | none => cases get (backLG ds os) i <;> rfl
            | some r1 =>
              cases h2 : get (backLG ds os) i with
              | none => rfl
              | some r2 => exact absurd rfl (hids.2.2 i (List.mem_map.2 ⟨(i, r1), get_mem h1, rfl⟩) i (List.mem_map.2 ⟨(i, r2), get_mem h2, rfl⟩))
          · intro x hx
            simp only [backLG]
            rcases List.mem_append.1 hx with hx | hx
            · obtain ⟨y, hy, e⟩ := hmem x hx; exact ⟨y, List.mem_append_right _ hy, e⟩
            · obtain ⟨y, hy, e⟩ := hmem1 x hx; exact ⟨y, List.mem_append_left _ hy, e⟩
end

end Go.AM
end

/- A part of my own walk library: how the model runs a function, told over abstract values. It states no law of the program; no condition. -/
import Derived.Test.YtfgpeaiepfdemaaAm3
import Derived.WalkKit
import Derived.ProofKit
import Derived.OpenShut
import Derived.Carry
set_option linter.unusedSimpArgs false
set_option linter.unusedVariables false
set_option linter.unusedSectionVars false

section
namespace Go.AM

theorem edgeTo_spec {o : Oper} {j : Nat} (h : edgeTo o j = true) : ∃ e ∈ o.after, e.on = j ∧ Region.binds .any e = true := by
  unfold edgeTo at h
  obtain ⟨i, hi, hb⟩ := Array.any_eq_true.1 h
  simp only [Bool.and_eq_true] at hb
  exact ⟨_, Array.getElem_mem hi, Nat.eq_of_beq_eq_true hb.1, hb.2⟩

structure DrawOk (ops : Array Oper) (m : Nat) : Prop where
  le : m ≤ ops.size
  low : ∀ i o, ops[i]? = some o → ∀ e ∈ o.after, Region.binds .any e = true → e.on < i
  look : ∀ i j oi oj d, i ≠ j → ops[i]? = some oi → ops[j]? = some oj → oj.dst = some d → memN d (oi.looksAt ops) = true → if j < i then edgeTo oi j = true else edgeTo oj i = true
  dst : ∀ i j oi oj d, i ≠ j → i < m → j < m → ops[i]? = some oi → ops[j]? = some oj → oi.dst = some d → oj.dst ≠ some d
  last : ∀ i j oi, m ≤ i → j < i → ops[i]? = some oi → reachI ops i j = true

theorem drawOk_spec {ops : Array Oper} {m : Nat} (h : drawOk ops m = true) : DrawOk ops m := by
  unfold drawOk at h
  simp only [Bool.and_eq_true] at h
  obtain ⟨h0, h1⟩ := h
  have key : ∀ i oi, ops[i]? = some oi → (∀ e ∈ oi.after, (!Region.binds .any e || Nat.blt e.on i) = true) ∧ ∀ j oj, ops[j]? = some oj → i ≠ j →
      ((bif dstIn oj (oi.looksAt ops) then (bif Nat.blt j i then edgeTo oi j else edgeTo oj i) else true) &&
        (bif (Nat.blt i m && Nat.blt j m) then dstNe oi oj else true) &&
        (bif (Nat.ble m i && Nat.blt j i) then reachI ops i j else true)) = true := by
    intro i oi hi
    have hlt := (Array.getElem?_eq_some_iff.1 hi).1
    have := List.all_eq_true.1 h1 i (List.mem_range.2 hlt)
    simp only [hi, Bool.and_eq_true] at this
    refine ⟨fun e he => ?_, fun j oj hj hne => ?_⟩
    · obtain ⟨k, hk, rfl⟩ := Array.mem_iff_getElem.1 he
      exact Array.all_eq_true.1 this.1 k hk
    · have hltj := (Array.getElem?_eq_some_iff.1 hj).1
      have h3 := List.all_eq_true.1 this.2 j (List.mem_range.2 hltj)
      have hbeq : Nat.beq i j = false := by cases hb : Nat.beq i j; rfl; exact absurd (Nat.eq_of_beq_eq_true hb) hne
      rw [hbeq, hj] at h3
      simpa only [Bool.false_or, Bool.and_eq_true] using h3
  refine ⟨Nat.le_of_ble_eq_true h0, ?_, ?_, ?_, ?_⟩
  · intro i o hi e he hb
    have := (key i o hi).1 e he
    simp only [hb, Bool.not_true, Bool.false_or, Nat.blt_eq] at this
    exact this
  · intro i j oi oj d hne hi hj hd hm
    have := (key i oi hi).2 j oj hj hne
    simp only [Bool.and_eq_true] at this
    have h3 := this.1.1
    simp only [dstIn, hd, hm, cond_true] at h3
    split
    · rename_i hlt
      have : Nat.blt j i = true := by simpa [Nat.blt_eq] using hlt
      simpa [this] using h3
    · rename_i hlt
      have : Nat.blt j i = false := by cases hb : Nat.blt j i; rfl; exact absurd (by simpa [Nat.blt_eq] using hb) hlt
      simpa [this] using h3
  · intro i j oi oj d hne him hjm hi hj hd hd'
    have := (key i oi hi).2 j oj hj hne
    simp only [Bool.and_eq_true] at this
    have h3 := this.1.2
    have e1 : Nat.blt i m = true := by simpa [Nat.blt_eq] using him
    have e2 : Nat.blt j m = true := by simpa [Nat.blt_eq] using hjm
    simp only [e1, e2, Bool.and_self, cond_true, dstNe, hd, hd'] at h3
    simp at h3
  · intro i j oi him hji hi
    have hltj : j < ops.size := Nat.lt_trans hji (Array.getElem?_eq_some_iff.1 hi).1
    have := (key i oi hi).2 j ops[j] (by simp [hltj]) (by omega)
    simp only [Bool.and_eq_true] at this
    have h3 := this.2
    have e1 : Nat.ble m i = true := Nat.ble_eq_true_of_le him
    have e2 : Nat.blt j i = true := by simpa [Nat.blt_eq] using hji
    simpa [e1, e2] using h3

section
variable {P : Program} {ops : Array Oper} {m : Nat} (D0 : DrawOk ops m)

def Lf (listed : Array Bool) (i : Nat) : Bool := listed.getD i false

def Closed (ops : Array Oper) (listed : Array Bool) : Prop := ∀ i o, Lf listed i = true → ops[i]? = some o → ∀ e ∈ o.after, Region.binds .any e = true → Lf listed e.on = true

theorem Lf_set {listed : Array Bool} {i : Nat} (hi : i < listed.size) (x : Nat) : Lf (listed.setIfInBounds i true) x = if x = i then true else Lf listed x := by
  unfold Lf
  simp only [Array.getD_eq_getD_getElem?]
  split
  · rename_i e; subst e; simp [hi]
  · rename_i e; rw [Array.getElem?_setIfInBounds_ne (fun e' => e e'.symm)]

theorem getD_of_lt {listed : Array Bool} {i : Nat} (hi : i < listed.size) (b : Bool) : listed.getD i b = Lf listed i := by
  unfold Lf; simp [Array.getD_eq_getD_getElem?, hi]

theorem Closed.set {listed : Array Bool} {i : Nat} {o : Oper} (hc : Closed ops listed) (hi : i < listed.size) (ho : ops[i]? = some o) (hr : ∀ e ∈ o.after, Region.binds .any e = true → Lf listed e.on = true) : Closed ops (listed.setIfInBounds i true) := by
  intro j oj hj hoj e he hb
  rw [Lf_set hi] at hj ⊢
  split
  · rfl
  · split at hj
    · rename_i e'; subst e'; rw [ho] at hoj; cases hoj; exact hr e he hb
    · exact hc j oj hj hoj e he hb

theorem reach_spec {listed : Array Bool} (hc : Closed ops listed) {i j : Nat} {o : Oper} (ho : ops[i]? = some o) (hr : ∀ e ∈ o.after, Region.binds .any e = true → Lf listed e.on = true) (h : reachI ops i j = true) : Lf listed j = true := by
  have good : ∀ (acc : List Nat) (pre : List Oper), acc.length = pre.length → (∀ (x : Nat) (q : Oper), pre[x]? = some q → ∀ j, (acc.getD x 0).testBit j = true → (∀ e ∈ q.after, Region.binds .any e = true → Lf listed e.on = true) → Lf listed j = true) →
      ∀ (l : List Oper), pre ++ l = ops.toList → ∀ (x : Nat) (q : Oper), (pre ++ l)[x]? = some q → ∀ j, ((masks l acc).getD x 0).testBit j = true → (∀ e ∈ q.after, Region.binds .any e = true → Lf listed e.on = true) → Lf listed j = true := by
    intro acc pre hlen hacc l
    induction l generalizing acc pre with
    | nil => intro _ x q hx j hj hq; simp only [masks] at hj; exact hacc x q (by simpa using hx) j hj hq
    | cons p l ih =>
      intro hops x q hx j hj hq
      simp only [masks] at hj
      refine ih (acc ++ [maskOf acc p]) (pre ++ [p]) (by simp [hlen]) ?_ (by simpa using hops) x q (by simpa using hx) j hj hq
      intro x q hx j hj hq
      by_cases hxl : x < pre.length
      · rw [List.getElem?_append_left hxl] at hx
        rw [List.getD_eq_getElem?_getD, List.getElem?_append_left (by omega), ← List.getD_eq_getElem?_getD] at hj
        exact hacc x q hx j hj hq
      · have hxe : x = pre.length := by
          have := (List.getElem?_eq_some_iff.1 hx).1
          simp at this; omega
        subst hxe
        rw [List.getElem?_append_right (Nat.le_refl _), Nat.sub_self] at hx
        simp at hx; subst hx
        rw [List.getD_eq_getElem?_getD, List.getElem?_append_right (by omega), hlen, Nat.sub_self] at hj
        simp only [List.getElem?_cons_zero, Option.getD_some] at hj
        unfold maskOf at hj
        have fold : ∀ (es : List Edge) (m0 : Nat), (∀ e ∈ es, e ∈ p.after) → (m0.testBit j = true → Lf listed j = true) → (es.foldl (fun m e => bif Region.binds .any e then m ||| (1 <<< e.on) ||| acc.getD e.on 0 else m) m0).testBit j = true → Lf listed j = true := by
          intro es
          induction es with
          | nil => intro m0 _ h0 h; exact h0 h
          | cons e es ihe =>
            intro m0 hm h0 h
            simp only [List.foldl_cons] at h
            refine ihe _ (fun e' he' => hm e' (List.mem_cons_of_mem _ he')) ?_ h
            intro hb
            cases hbe : Region.binds .any e with
            | false => rw [hbe] at hb; exact h0 hb
            | true =>
              rw [hbe, cond_true, Nat.testBit_or, Nat.testBit_or] at hb
              simp only [Bool.or_eq_true] at hb
              have hL := hq e (hm e (by simp)) hbe
              rcases hb with (hb | hb) | hb
              · exact h0 hb
              · rw [Nat.one_shiftLeft, Nat.testBit_two_pow] at hb
                have : e.on = j := by simpa using hb
                rw [← this]; exact hL
              · by_cases hon : e.on < pre.length
                · have hp : pre[e.on]? = some pre[e.on] := List.getElem?_eq_getElem hon
                  refine hacc e.on _ hp j hb fun e' he' hb' => ?_
                  exact hc e.on pre[e.on] hL (by
                    have : ops.toList[e.on]? = some pre[e.on] := by rw [← hops, List.getElem?_append_left hon]; exact hp
                    simpa using this) e' he' hb'
                · rw [List.getD_eq_getElem?_getD, List.getElem?_eq_none (by omega)] at hb
                  simp at hb
        exact fold p.after.toList 0 (fun e he => by simpa using he) (by simp) hj
  exact good [] [] rfl (by simp) ops.toList rfl i o (by simpa using ho) j h hr

include D0

theorem ready_i {listed : Array Bool} (hs : listed.size = ops.size) {i : Nat} (hi : i < ops.size) (hun : Lf listed i = false) (hall : ∀ j, j < i → Lf listed j = true) : i ∈ Region.ready .any ops listed := by
  rw [mem_ready]
  refine ⟨by rw [getD_of_lt (by omega)]; exact hun, ops[i], by simp [hi], fun e he hb => ?_⟩
  exact hall _ (D0.low i ops[i] (by simp [hi]) e he hb)

/-- the last operations, one behind the other -/
theorem seq_any {Q : Exit → Act → World → Prop} : ∀ (f i : Nat) (listed : Array Bool) (a : Act) (w : World), f = ops.size - i → m ≤ i → i ≤ ops.size → listed.size = ops.size → (∀ x, x < ops.size → Lf listed x = decide (x < i)) →
    wpOps P ops Q (List.range' i (ops.size - i)) a w → wpAny P .any ops Q f listed a w := by
  intro f
  induction f with
  | zero =>
    intro i listed a w hf hm hi hs hL h
    have : ops.size - i = 0 := by omega
    rw [this] at h
    refine ⟨?_, by simpa [wpOps] using h⟩
    rw [List.eq_nil_iff_forall_not_mem]
    intro x hx
    rw [mem_ready] at hx
    obtain ⟨h1, o, h2, _⟩ := hx
    have hx : x < ops.size := (Array.getElem?_eq_some_iff.1 h2).1
    rw [getD_of_lt (by omega), hL x hx] at h1
    have := of_decide_eq_false h1
    omega
  | succ f ih =>
    intro i listed a w hf hm hi hs hL h
    have hlt : i < ops.size := by omega
    have hready : i ∈ Region.ready .any ops listed := ready_i D0 hs hlt (by rw [hL i hlt]; simp) (fun j hj => by rw [hL j (by omega)]; simpa using hj)
    refine ⟨fun he => by rw [he] at hready; simp at hready, fun x hx => ?_⟩
    have hxi : x = i := by
      rw [mem_ready] at hx
      obtain ⟨h1, o, h2, h3⟩ := hx
      have hx : x < ops.size := (Array.getElem?_eq_some_iff.1 h2).1
      rw [getD_of_lt (by omega), hL x hx] at h1
      have hge := of_decide_eq_false h1
      by_cases e : x = i
      · exact e
      · have hcl : Closed ops listed := by
          intro y oy hy hoy ed he hb
          have hyn := (Array.getElem?_eq_some_iff.1 hoy).1
          have h5 := D0.low y oy hoy ed he hb
          rw [hL y hyn] at hy
          rw [hL ed.on (by omega)]
          exact decide_eq_true (by have := of_decide_eq_true hy; omega)
        have h4 : Lf listed i = true := reach_spec hcl h2 (fun ed he hb => h3 ed he hb) (D0.last x i o (by omega) (by omega) h2)
        rw [hL i hlt] at h4
        have := of_decide_eq_true h4
        omega
    subst hxi
    rw [show ops.size - x = (ops.size - (x + 1)) + 1 by omega, List.range'_succ, wpOps_cons] at h
    refine wpOp_mono (fun a' w' hk => ?_) h
    refine ih (x + 1) _ a' w' (by omega) (by omega) (by omega) (by simpa using hs) ?_ hk
    intro y hy
    rw [Lf_set (by omega)]
    split
    · rename_i e; subst e; simp
    · rename_i e; rw [hL y hy]; congr 1; apply propext; omega

end

theorem countP_step {p p' : Nat → Bool} {i : Nat} : ∀ {l : List Nat}, l.Nodup → i ∈ l → p i = true → p' i = false → (∀ j, j ≠ i → p' j = p j) → l.countP p' + 1 = l.countP p
  | [], _, h, _, _, _ => by simp at h
  | x :: l, hnd, hm, h1, h2, h3 => by
    have hnd' := List.nodup_cons.1 hnd
    by_cases e : x = i
    · subst e
      have hrest : l.countP p' = l.countP p := List.countP_congr fun j hj => by
        rw [h3 j (fun e => by subst e; exact hnd'.1 hj)]
      rw [List.countP_cons, List.countP_cons, hrest]; simp [h1, h2]
    · have hm' : i ∈ l := by rcases List.mem_cons.1 hm with h | h; exact absurd h.symm e; exact h
      have ih := countP_step hnd'.2 hm' h1 h2 h3
      rw [List.countP_cons, List.countP_cons, h3 x e]; omega

theorem AW.draw {P : Program} {Q : Exit → St → Prop} {ops : Array Oper} {σ σm : St} {id : Nat} (m c : Nat) {out : List Res} (hmix : P.follows .mixedOrders = true) (hok : drawOk ops m = true) (hc : σ.freshFrom c = true)
    (hch : Chain P ops σ.h 0 [] c (ops.toList.take m) σ out σm) (hrest : AO P ops (ops.toList.drop m) Q σm) : AW P (.region id ops true) Q σ := by
  have D0 := drawOk_spec hok
  have hn := D0.le
  have hlen : (ops.toList.take m).length = m := by simp; omega
  have hopl : ∀ i, i < m → (ops.toList.take m)[i]? = ops[i]? := fun i hi => by rw [List.getElem?_take, if_pos hi]; simp
  have hdst : ∀ a b t, a ≠ b → dstAt (ops.toList.take m) a = some t → dstAt (ops.toList.take m) b ≠ some t := by
    intro a b t hne ha hb
    unfold dstAt at ha hb
    cases hoa : (ops.toList.take m)[a]? with
    | none => simp [hoa] at ha
    | some oa =>
      cases hob : (ops.toList.take m)[b]? with
      | none => simp [hob] at hb
      | some ob =>
        have hla : a < m := by have := (List.getElem?_eq_some_iff.1 hoa).1; omega
        have hlb : b < m := by have := (List.getElem?_eq_some_iff.1 hob).1; omega
        rw [hopl a hla] at hoa; rw [hopl b hlb] at hob
        rw [hopl a hla, hoa] at ha; rw [hopl b hlb, hob] at hb
        exact D0.dst a b oa ob t hne hla hlb hoa hob (by simpa using ha) (by simpa using hb)
  obtain ⟨hl, hfacts, hend⟩ := hch.facts hc [] [] rfl rfl (Nat.le_refl _) (by simp) (by simp) (by simpa using hdst) (fun out' => Inv.start _ _ _ _ (by simp))
  simp only [List.nil_append] at hfacts hend
  have hol : out.length = m := by omega
  have hint : ∀ (i j : Nat) (ri rj : Res), i < j → out[i]? = some ri → out[j]? = some rj → ri.2.2.2 ≤ rj.2.2.1 := by
    intro i j ri rj hij hi hj
    have hjm : j < m := by have := (List.getElem?_eq_some_iff.1 hj).1; omega
    obtain ⟨_, _, _, _, _, _, _, _, h⟩ := hfacts j ops[j] rj (by omega) (by rw [hopl j hjm]; simp) hj
    exact h i ri hij hi
  intro E a w R
  refine wp_region_any hmix ?_
  have RX : RelX E σ a { w with drawn := w.drawn + 1 } := by
    obtain ⟨Z, loc, fps, R⟩ := R
    exact ⟨Z, loc, fps, R.ext ⟨Nat.le_refl _, fun _ _ => rfl, rfl, rfl, rfl⟩⟩
  have main : ∀ (u : Nat) (listed : Array Bool) (σ1 : St) (a : Act) (w : World), (List.range m).countP (fun i => !Lf listed i) = u → listed.size = ops.size → Closed ops listed → (∀ i, m ≤ i → Lf listed i = false) →
      Inv σ (ops.toList.take m) out (fun i => Lf listed i) σ1 → RelX E σ1 a w → wpAny P .any ops (lift E Q) (u + (ops.size - m)) listed a w := by
    intro u
    induction u with
    | zero =>
      intro listed σ1 a w hu hs hcl hlast hinv hR
      have hall : ∀ i, i < m → Lf listed i = true := by
        intro i hi
        have := List.countP_eq_zero.1 hu i (List.mem_range.2 hi)
        simpa using this
      obtain ⟨e1, e2⟩ := Inv.same (by omega) hinv hend (fun i hi => by rw [hall i (by omega)]; simp [hi])
      have hR' : RelX E σm a w := by
        obtain ⟨Z, loc, fps, R⟩ := hR
        exact ⟨Z, loc, fps, R.congr e1 e2 (hinv.nt.trans hend.nt.symm) (hinv.gg.trans hend.gg.symm)⟩
      have hdl : (ops.toList.drop m).length = ops.size - m := by simp
      have hm' : ops.size - (ops.size - m) = m := by omega
      have hw := hrest (by rw [hdl, hm']) (by rw [hdl]; omega) E a w hR'
      rw [hdl, hm'] at hw
      rw [Nat.zero_add]
      exact seq_any D0 _ m listed a w rfl (Nat.le_refl _) hn hs (fun x hx => by
        by_cases e : x < m
        · rw [hall x e]; simp [e]
        · rw [hlast x (by omega)]; simp [e]) hw
    | succ u ih =>
      intro listed σ1 a w hu hs hcl hlast hinv hR
      have hex : ∃ i, i < m ∧ Lf listed i = false := by
        have : 0 < (List.range m).countP (fun i => !Lf listed i) := by omega
        obtain ⟨i, hi, hp⟩ := List.countP_pos_iff.1 this
        exact ⟨i, List.mem_range.1 hi, by simpa using hp⟩
      have hmin : ∃ i, i < m ∧ Lf listed i = false ∧ ∀ j, j < i → Lf listed j = true := by
        obtain ⟨i, hi, hf⟩ := hex
        induction i using Nat.strongRecOn with
        | _ i ihi =>
          by_cases h : ∃ j, j < i ∧ Lf listed j = false
          · obtain ⟨j, hj, hfj⟩ := h; exact ihi j hj (by omega) hfj
          · exact ⟨i, hi, hf, fun j hj => by cases hb : Lf listed j; exact absurd ⟨j, hj, hb⟩ h; rfl⟩
      obtain ⟨i0, hi0, hf0, hlow0⟩ := hmin
      have hready := ready_i D0 hs (show i0 < ops.size by omega) hf0 hlow0
      rw [show u + 1 + (ops.size - m) = (u + (ops.size - m)) + 1 by omega]
      refine ⟨fun he => by rw [he] at hready; simp at hready, fun j hj => ?_⟩
      rw [mem_ready] at hj
      obtain ⟨hj1, o, hj2, hj3⟩ := hj
      have hjn : j < ops.size := (Array.getElem?_eq_some_iff.1 hj2).1
      rw [getD_of_lt (by omega)] at hj1
      have hjm : j < m := by
        by_cases e : j < m
        · exact e
        · have h4 : Lf listed i0 = true := reach_spec hcl hj2 (fun ed he hb => hj3 ed he hb) (D0.last j i0 o (by omega) (by omega) hj2)
          rw [hf0] at h4; cases h4
      have hoj : (ops.toList.take m)[j]? = some o := by rw [hopl j hjm]; exact hj2
      obtain ⟨⟨d, rs, k, k'⟩, hrj⟩ : ∃ r : Res, out[j]? = some r := ⟨_, List.getElem?_eq_getElem (by omega)⟩
      obtain ⟨σj, dep, hF, hnam, hkk, hck, hinvj, hdep, hmono⟩ := hfacts j o (d, rs, k, k') (by omega) hoj hrj
      simp only at hF hnam hkk hck hmono
      have hjL : ∀ i, i < j → edgeTo o i = true → Lf listed i = true := by
        intro i hi he
        obtain ⟨ed, he, hon, hb⟩ := edgeTo_spec he
        have := hj3 ed he hb
        rw [hon] at this; exact this
      have hfr : σ1.freshIn k k' := by
        intro idn h1 h2
        rw [hinv.h2 idn fun i r hi hr hh => by
          by_cases e : i = j
          · subst e; rw [hj1] at hi; cases hi
          · by_cases hlt : i < j
            · have := hint i j r _ hlt hr hrj; simp only at this; omega
            · have := hint j i _ r (by omega) hrj hr; simp only at this; omega]
        exact freshFrom_get hc idn (by omega)
      -- what it looks at is as in the text's order
      have hT : ∀ t d, get (σj.only (o.looksAt ops) (bif dep then σj.h else σ.h)).t t = some d → get σ1.t t = some d := by
        intro t d ht
        obtain ⟨h1, h2⟩ := get_filter (fun k => memN k (o.looksAt ops)) ht
        rw [← h1]
        by_cases hw : ∃ i, i < m ∧ dstAt (ops.toList.take m) i = some t
        · obtain ⟨i, him, hdi⟩ := hw
          have hoi : ∃ oi, ops[i]? = some oi ∧ oi.dst = some t := by
            unfold dstAt at hdi
            rw [hopl i him] at hdi
            cases hx : ops[i]? with
            | none => simp [hx] at hdi
            | some oi => simp [hx] at hdi; exact ⟨oi, rfl, hdi⟩
          obtain ⟨oi, hoi1, hoi2⟩ := hoi
          have huniq : ∀ x, x ≠ i → dstAt (ops.toList.take m) x ≠ some t := fun x hx hd => hdst i x t (fun e => hx e.symm) hdi hd
          by_cases e : i = j
          · subst e
            rw [hinv.t2 t (fun x hx _ => by
              by_cases e' : x = i
              · subst e'; have hx : Lf listed x = true := hx; rw [hj1] at hx; cases hx
              · exact huniq x e'), hinvj.t2 t (fun x hx _ => huniq x (by have := of_decide_eq_true hx; omega))]
          · have hlk := D0.look j i o oi t (fun e' => e e'.symm) hj2 hoi1 hoi2 h2
            have hri : out[i]? = some out[i] := List.getElem?_eq_getElem (by omega)
            split at hlk
            · rename_i hij
              rw [hinv.t1 i t _ (hjL i hij hlk) hdi hri, hinvj.t1 i t _ (decide_eq_true hij) hdi hri]
            · rename_i hij
              have hnl : Lf listed i = false := by
                cases hb : Lf listed i
                · rfl
                · obtain ⟨ed, he, hon, hbd⟩ := edgeTo_spec hlk
                  have := hcl i oi hb hoi1 ed he hbd
                  rw [hon, hj1] at this; cases this
              rw [hinv.t2 t (fun x hx _ => by
                by_cases e' : x = i
                · subst e'; have hx : Lf listed x = true := hx; rw [hnl] at hx; cases hx
                · exact huniq x e'), hinvj.t2 t (fun x hx _ => huniq x (by have := of_decide_eq_true hx; omega))]
        · rw [hinv.t2 t (fun x _ hx hd => hw ⟨x, by omega, hd⟩), hinvj.t2 t (fun x _ hx hd => hw ⟨x, by omega, hd⟩)]
      have hH : ∀ idn ρ, get (σj.only (o.looksAt ops) (bif dep then σj.h else σ.h)).h idn = some ρ → get σ1.h idn = some ρ := by
        intro idn ρ hg
        have base : get σ.h idn = some ρ → get σ1.h idn = some ρ := by
          intro hg
          have hlt : idn < c := by
            by_cases e : idn < c
            · exact e
            · rw [freshFrom_get hc idn (by omega)] at hg; cases hg
          rw [hinv.h2 idn fun i r hi hr hh => by
            have him : i < m := by have := (List.getElem?_eq_some_iff.1 hr).1; omega
            obtain ⟨_, _, _, _, _, h, _⟩ := hfacts i ops[i] r (by omega) (by rw [hopl i him]; simp) hr
            omega]
          exact hg
        cases dep with
        | false => exact base hg
        | true =>
          have hg : get σj.h idn = some ρ := hg
          by_cases hex : ∃ i r, i < j ∧ out[i]? = some r ∧ (r.2.2.1 ≤ idn ∧ idn < r.2.2.2)
          · obtain ⟨i, r, hij, hr, h1, h2⟩ := hex
            have e1 := hinvj.h1 i r idn (decide_eq_true hij) hr h1 h2
            have hne : r.2.1 ≠ [] := by
              intro e; rw [e] at e1; rw [e1] at hg; simp [get] at hg
            rw [hinv.h1 i r idn (reach_spec hcl hj2 (fun ed he hb => hj3 ed he hb) (hdep rfl i r hij hr hne)) hr h1 h2, ← e1]; exact hg
          · rw [hinvj.h2 idn fun i r hi hr hh => hex ⟨i, r, of_decide_eq_true hi, hr, hh⟩] at hg
            exact base hg
      have hb := hF E σ1 a w hT hH (by show σ1.nt = σj.nt; rw [hinv.nt, hinvj.nt]) hfr hR
      have hinv' := hinv.step (by omega) hoj hrj hj1 (fun i t hne hd => hdst i j t hne hd) (fun i r hne hr idn ⟨h1, h2⟩ => by
        by_cases hlt : i < j
        · have := hint i j r _ hlt hr hrj; simp only at this; omega
        · have := hint j i _ r (by omega) hrj hr; simp only at this; omega) hnam hfr
      have hnext : ∀ a' w', RelX E (St.put { σ1 with h := rs ++ σ1.h } o.dst d) a' w' → wpAny P .any ops (lift E Q) (u + (ops.size - m)) (listed.setIfInBounds j true) a' w' := by
        intro a' w' hR'
        refine ih (listed.setIfInBounds j true) _ a' w' ?_ (by simpa using hs) (hcl.set (by omega) hj2 (fun e he hb => hj3 e he hb)) ?_ ?_ hR'
        · have := countP_step (l := List.range m) (i := j) (p := fun i => !Lf listed i) (p' := fun i => !Lf (listed.setIfInBounds j true) i) List.nodup_range (List.mem_range.2 hjm) (by simp [hj1]) (by simp [Lf_set (show j < listed.size by omega)]) (fun x hx => by simp [Lf_set (show j < listed.size by omega), hx])
          omega
        · intro x hx
          rw [Lf_set (by omega), if_neg (by omega)]; exact hlast x hx
        · have heq : (fun i => Lf (listed.setIfInBounds j true) i) = (fun i => bif Nat.beq i j then true else Lf listed i) := by
            funext x
            rw [Lf_set (by omega)]
            by_cases e : x = j
            · subst e; simp
            · have : Nat.beq x j = false := by cases hb : Nat.beq x j; rfl; exact absurd (Nat.eq_of_beq_eq_true hb) e
              rw [if_neg e, this]; rfl
          rw [heq]; exact hinv'
      unfold wpOp
      rw [hj2]
      unfold Behind at hb
      simp only []
      split
      · rename_i hw
        rw [if_pos hw] at hb
        exact .inl (Oper.wp_mono hnext (Oper.wp_false hb))
      · rename_i hw
        rw [if_neg hw] at hb
        exact hnext _ _ hb
  have hcnt : (List.range m).countP (fun i => !Lf (Array.replicate ops.size false) i) = m := by
    rw [List.countP_eq_length.2 fun i hi => ?_]
    · simp
    · have := List.mem_range.1 hi
      have hx : i < ops.size := by omega
      simp [Lf, Array.getD_eq_getD_getElem?, hx]
  have hL0 : ∀ i, Lf (Array.replicate ops.size false) i = false := fun i => by
    unfold Lf
    simp only [Array.getD_eq_getD_getElem?, Array.getElem?_replicate]
    split <;> rfl
  have := main m (Array.replicate ops.size false) σ a { w with drawn := w.drawn + 1 } hcnt (by simp) (fun i o hi => by rw [hL0 i] at hi; cases hi) (fun i _ => hL0 i) (Inv.start _ _ _ _ hL0) RX
  rwa [show m + (ops.size - m) = ops.size by omega] at this

end Go.AM
end

section
namespace Go.AM

def AD (P : Program) (ops : Array Oper) (h0 : List (Nat × Root)) (i : Nat) (ps : List Nat) (c : Nat) (l : List Oper) (σ : St) (K : St → Prop) : Prop := ∃ out σ', Chain P ops h0 i ps c l σ out σ' ∧ K σ'

section
variable {P : Program} {ops : Array Oper} {h0 : List (Nat × Root)} {i : Nat} {ps : List Nat} {c : Nat} {l : List Oper} {o : Oper} {σ : St} {K : St → Prop}

theorem AD.nil (h : K σ) : AD P ops h0 i ps c [] σ K := ⟨[], σ, .nil, h⟩

theorem AD.v {d : D} (h : FStep P ops (σ.only (o.looksAt ops) h0) o d [] c c) (hr : AD P ops h0 (i + 1) ps c l (σ.put o.dst d) K) : AD P ops h0 i ps c (o :: l) σ K := by
  obtain ⟨out, σ', h1, h2⟩ := hr
  exact ⟨_, σ', Chain.cons false (fun e => by cases e) h (fun x hx => by simp at hx) (Nat.le_refl _) (Nat.le_refl _) h1, h2⟩

/-- the same where it looks at what an earlier operation of the region made -/
theorem AD.vd {d : D} (hdep : ps.all (reachI ops i) = true) (h : FStep P ops (σ.only (o.looksAt ops) σ.h) o d [] c c) (hr : AD P ops h0 (i + 1) ps c l (σ.put o.dst d) K) : AD P ops h0 i ps c (o :: l) σ K := by
  obtain ⟨out, σ', h1, h2⟩ := hr
  exact ⟨_, σ', Chain.cons true (fun _ => hdep) h (fun x hx => by simp at hx) (Nat.le_refl _) (Nat.le_refl _) h1, h2⟩

theorem AD.q {d : D} {rs : List (Nat × Root)} {k' : Nat} (h : FStep P ops (σ.only (o.looksAt ops) h0) o d rs c k') (hn : namesIn rs c k') (hk : c ≤ k') (hr : AD P ops h0 (i + 1) (bif rs.isEmpty then ps else i :: ps) k' l (St.put { σ with h := rs ++ σ.h } o.dst d) K) : AD P ops h0 i ps c (o :: l) σ K := by
  obtain ⟨out, σ', h1, h2⟩ := hr
  exact ⟨_, σ', Chain.cons false (fun e => by cases e) h hn (Nat.le_refl _) hk h1, h2⟩

theorem AD.qd {d : D} {rs : List (Nat × Root)} {k' : Nat} (hdep : ps.all (reachI ops i) = true) (h : FStep P ops (σ.only (o.looksAt ops) σ.h) o d rs c k') (hn : namesIn rs c k') (hk : c ≤ k') (hr : AD P ops h0 (i + 1) (bif rs.isEmpty then ps else i :: ps) k' l (St.put { σ with h := rs ++ σ.h } o.dst d) K) : AD P ops h0 i ps c (o :: l) σ K := by
  obtain ⟨out, σ', h1, h2⟩ := hr
  exact ⟨_, σ', Chain.cons true (fun _ => hdep) h hn (Nat.le_refl _) hk h1, h2⟩

theorem AD.pure {te : TE} (T : TEok P te) {d : D} (hw : (σ.only (o.looksAt ops) h0).wants ops o = some true) (hd : dstOk (σ.only (o.looksAt ops) h0) o = true) (h : pureD te (σ.only (o.looksAt ops) h0) o.op = some d) (hr : AD P ops h0 (i + 1) ps c l (σ.put o.dst d) K) : AD P ops h0 i ps c (o :: l) σ K :=
  AD.v (FStep.val hw hd (pure_ok T h)) hr
theorem AD.pured {te : TE} (T : TEok P te) {d : D} (hdep : ps.all (reachI ops i) = true) (hw : (σ.only (o.looksAt ops) σ.h).wants ops o = some true) (hd : dstOk (σ.only (o.looksAt ops) σ.h) o = true) (h : pureD te (σ.only (o.looksAt ops) σ.h) o.op = some d) (hr : AD P ops h0 (i + 1) ps c l (σ.put o.dst d) K) : AD P ops h0 i ps c (o :: l) σ K :=
  AD.vd hdep (FStep.val hw hd (pure_ok T h)) hr
theorem AD.pureG {te : TE} (T : TEok P te) {d : D} {g : Bool} (ks : List Nat) (hg : (σ.only (o.looksAt ops) h0).gval ops o = some g) (hc : condsOk (σ.only (o.looksAt ops) h0) g ks) (hd : dstOk (σ.only (o.looksAt ops) h0) o = true) (h : pureD te ((σ.only (o.looksAt ops) h0).unc ks) o.op = some d)
    (hr : AD P ops h0 (i + 1) ps c l (σ.put o.dst (.c g d)) K) : AD P ops h0 i ps c (o :: l) σ K :=
  AD.v (FStep.guard ks hg hc (fun _ => pure_ok T h) hd) hr
theorem AD.pureGd {te : TE} (T : TEok P te) {d : D} {g : Bool} (ks : List Nat) (hdep : ps.all (reachI ops i) = true) (hg : (σ.only (o.looksAt ops) σ.h).gval ops o = some g) (hc : condsOk (σ.only (o.looksAt ops) σ.h) g ks) (hd : dstOk (σ.only (o.looksAt ops) σ.h) o = true) (h : pureD te ((σ.only (o.looksAt ops) σ.h).unc ks) o.op = some d)
    (hr : AD P ops h0 (i + 1) ps c l (σ.put o.dst (.c g d)) K) : AD P ops h0 i ps c (o :: l) σ K :=
  AD.vd hdep (FStep.guard ks hg hc (fun _ => pure_ok T h) hd) hr
theorem AD.val {d : D} (hw : (σ.only (o.looksAt ops) h0).wants ops o = some true) (hd : dstOk (σ.only (o.looksAt ops) h0) o = true) (h : OpV P (σ.only (o.looksAt ops) h0) o d) (hr : AD P ops h0 (i + 1) ps c l (σ.put o.dst d) K) : AD P ops h0 i ps c (o :: l) σ K :=
  AD.v (FStep.val hw hd h) hr
theorem AD.vald {d : D} (hdep : ps.all (reachI ops i) = true) (hw : (σ.only (o.looksAt ops) σ.h).wants ops o = some true) (hd : dstOk (σ.only (o.looksAt ops) σ.h) o = true) (h : OpV P (σ.only (o.looksAt ops) σ.h) o d) (hr : AD P ops h0 (i + 1) ps c l (σ.put o.dst d) K) : AD P ops h0 i ps c (o :: l) σ K :=
  AD.vd hdep (FStep.val hw hd h) hr
theorem AD.guard {d : D} {g : Bool} (ks : List Nat) (hg : (σ.only (o.looksAt ops) h0).gval ops o = some g) (hc : condsOk (σ.only (o.looksAt ops) h0) g ks) (hop : g = true → OpV P ((σ.only (o.looksAt ops) h0).unc ks) o d) (hd : dstOk (σ.only (o.looksAt ops) h0) o = true)
    (hr : AD P ops h0 (i + 1) ps c l (σ.put o.dst (.c g d)) K) : AD P ops h0 i ps c (o :: l) σ K :=
  AD.v (FStep.guard ks hg hc hop hd) hr
theorem AD.guardd {d : D} {g : Bool} (ks : List Nat) (hdep : ps.all (reachI ops i) = true) (hg : (σ.only (o.looksAt ops) σ.h).gval ops o = some g) (hc : condsOk (σ.only (o.looksAt ops) σ.h) g ks) (hop : g = true → OpV P ((σ.only (o.looksAt ops) σ.h).unc ks) o d) (hd : dstOk (σ.only (o.looksAt ops) σ.h) o = true)
    (hr : AD P ops h0 (i + 1) ps c l (σ.put o.dst (.c g d)) K) : AD P ops h0 i ps c (o :: l) σ K :=
  AD.vd hdep (FStep.guard ks hg hc hop hd) hr

theorem AW.drawn {Q : Exit → St → Prop} {id : Nat} (m c : Nat) (hmix : P.follows .mixedOrders = true) (hok : drawOk ops m = true) (hc : σ.freshFrom c = true) (h : AD P ops σ.h 0 [] c (ops.toList.take m) σ (AO P ops (ops.toList.drop m) Q)) : AW P (.region id ops true) Q σ := by
  obtain ⟨out, σ', h1, h2⟩ := h
  exact AW.draw m c hmix hok hc h1 h2

end
end Go.AM
end

section
namespace Go.AM

/-! owned parts inside rows -/

theorem ARL.spliceV {w Z loc fp fp' ds vs ds' vs'} (h : ARL w Z loc fp ds vs) (h' : ARL w Z loc fp' ds' vs') (off : Nat) (hoff : off + ds'.length ≤ ds.length) :
    ∃ fp1 fpM fp2, fp = fp1 ++ (fpM ++ fp2) ∧ ARL w Z loc (fp1 ++ fp' ++ fp2) (splice ds off ds') (splice vs off vs') := by
  have e : ds = ds.take off ++ ((ds.drop off).take ds'.length ++ ds.drop (off + ds'.length)) := by
    rw [← List.drop_drop, List.take_append_drop, List.take_append_drop]
  rw [e] at h
  obtain ⟨fp1, fp2, vs1, vs2, rfl, rfl, h1, h2⟩ := h.split
  obtain ⟨fp3, fp4, vs3, vs4, rfl, rfl, h3, h4⟩ := h2.split
  refine ⟨fp1, fp3, fp4, rfl, ?_⟩
  have l1 := h1.length; have l3 := h3.length; have l' := h'.length
  simp only [List.length_take, List.length_drop] at l1 l3
  have := (h1.append h').append h4
  have e2 : splice (vs1 ++ (vs3 ++ vs4)) off vs' = vs1 ++ vs' ++ vs4 := by
    unfold splice
    rw [List.take_append, List.take_of_length_le (by omega), show off - vs1.length = 0 by omega, List.drop_append, List.drop_of_length_le (by omega), List.drop_append, List.drop_of_length_le (by omega)]
    rw [show off + vs'.length - vs1.length - vs3.length = 0 by omega]
    simp
  rw [e2]
  exact this

section
variable {P : Program} {te : TE} (T : TEok P te) {σ : St} {o : Oper}
include T

/-- a store into an element of an owned row of something that owns rows: these go into it -/
theorem store_o_ok {t : Nat} {ti : TI} {x y : Operand} {id i k sz : Nat} {xs : List (List D)} {cs vs es : List D} {ids : List Nat} {d : D} (ho : o.op = .store t x y) (ht : te t = some ti) (hx : σ.ev x = some (.e id i k)) (hy : σ.ev y = some d)
    (hg : get σ.h id = some (.row sz xs)) (hc : xs[i]? = some cs) (hv : d.cells? = some vs) (hex : expLC σ vs es ids) (hids : (ids.Nodup ∧ id ∉ ids)) (hsz : vs.length = ti.size) (hk' : Nat.ble (k + vs.length) sz = true) (hdst : o.dst = none) :
    OpOk P σ o { σ with h := (id, .row sz (xs.set i (splice cs k es))) :: kill ids σ.h } := by
  have hk := Nat.le_of_ble_eq_true hk'
  rintro E a w ⟨Z, loc, fps, R⟩
  obtain ⟨L, hL, e1, e2, e3, e4, h3⟩ := R.roots id _ ⟨hg, by simp⟩
  have hvs := D.cells_rel hv (R.ev hy)
  have hlt : i < xs.length := (List.getElem?_eq_some_iff.1 hc).1
  have hpx := R.ev hx
  generalize hax : a.eval x = px at hpx
  have hcs : cs.length = sz := e2 cs (List.mem_of_getElem? hc)
  have hm := mul_succ_le (sz := sz) hlt
  obtain ⟨fpV, hrelV, hndV, hmemV⟩ := expLC_ok R hex hids.1 hvs
  have hles : es.length = vs.length := by have h1 := hrelV.length; have h2 := hvs.length; omega
  cases hpx with
  | e g1 =>
    rw [hL] at g1; cases g1
    rcases h3 with ⟨h3, _⟩ | ⟨fpN, arr, el, e5, h4, h5, h6⟩
    · omega
    · have hlen : (a.eval y).cells.size = vs.length := by have := hvs.length; simp at this; exact this.symm
      have hxt : xs.length * sz ≤ L.tot * sz := Nat.mul_le_mul_right _ e3.1
      have hst := run_storeVar' T ht (off := L.base + i * sz + k) (v := a.eval y) h4 (by omega) (by omega) hvs.one
      have hrun : (execOp a.eval o).run P w = .ok .skip (w.setRow L.b (splice arr.toList (L.base + i * sz + k) (a.eval y).cells.toList).toArray) := by
        simp only [execOp, ho, hax, Instr.storeAt, Instr.sureAddr, Sem.run_bind, Sem.run_pure, Result.andThen_ok, e1, hst]
      unfold Oper.wp
      rw [hrun]
      simp only [Oper.upon, hdst]
      obtain ⟨fp1, fpM, fp2, hfpN, hnew⟩ := h6.spliceV hrelV (i * sz + k) (by rw [flat_len e2]; omega)
      have hnd := R.nodup id _ ⟨hg, by simp⟩
      rw [e5] at hnd
      have hown := R.owned id _ L.b ⟨hg, by simp⟩ (by rw [e5]; simp)
      have hdis : ∀ b ∈ fpV, b ∉ L.b :: fpN := by
        intro b hb hb'
        obtain ⟨j, ρ, hj, hlj, hbj⟩ := hmemV b hb
        have := R.disj j id ρ _ b hlj ⟨hg, by simp⟩ hbj (by rw [e5]; exact hb')
        subst this
        exact hids.2 hj
      have hLb : L.b ∉ fp1 ++ fpV ++ fp2 := by
        intro hb
        simp only [List.mem_append] at hb
        have h0 := (List.nodup_cons.1 hnd).1
        rw [hfpN] at h0
        simp only [List.mem_append] at h0
        rcases hb with (hb | hb) | hb
        · exact h0 (.inl hb)
        · exact hdis _ hb (by simp)
        · exact h0 (.inr (.inr hb))
      have hsub : ∀ b, b ∈ fp1 ++ fp2 → b ∈ fpN := fun b hb => by rw [hfpN]; simp only [List.mem_append] at hb ⊢; rcases hb with hb | hb; exact .inl hb; exact .inr (.inr hb)
      have hnd' : (L.b :: (fp1 ++ fpV ++ fp2)).Nodup := by
        refine List.nodup_cons.2 ⟨hLb, ?_⟩
        have h0 := (List.nodup_cons.1 hnd).2
        have h12 : (fp1 ++ fp2).Nodup := by
          rw [hfpN] at h0
          exact List.Nodup.sublist (List.Sublist.append (List.Sublist.refl _) (List.sublist_append_right _ _)) h0
        rw [List.nodup_append] at h12
        rw [List.nodup_append, List.nodup_append]
        refine ⟨⟨h12.1, hndV, fun x hx y hy e => ?_⟩, h12.2.1, fun x hx y hy e => ?_⟩
        · subst e; exact hdis x hy (List.mem_cons_of_mem _ (hsub x (List.mem_append_left _ hx)))
        · subst e
          rcases List.mem_append.1 hx with hx | hx
          · exact h12.2.2 x hx x hy rfl
          · exact hdis x hx (List.mem_cons_of_mem _ (hsub x (List.mem_append_right _ hy)))
      refine ⟨Z, _, _, Rel.setRoot (ks := ids) (L0 := L) (fp0 := L.b :: (fp1 ++ fpV ++ fp2)) R (by rw [setRow_size]; exact Nat.le_refl _) ?_ ?_ rfl rfl rfl ?_ hnd' (.inr hL) (fun _ h => h) (fun _ h => .inl h) ?_⟩
      · intro b hb hn
        refine setRow_heap_other _ _ _ _ fun e => ?_
        subst e
        exact hn id _ (.inl rfl) ⟨hg, by simp⟩ (by rw [e5]; simp)
      · exact setRow_shape h4 (by rw [List.size_toArray, splice_len _ _ _ (by simp; omega)]; simp)
      · intro b hb
        rw [setRow_size]
        rcases List.mem_cons.1 hb with rfl | hb
        · exact ⟨hown.2.1, .inr ⟨id, _, .inl rfl, ⟨hg, by simp⟩, by rw [e5]; simp⟩⟩
        · simp only [List.mem_append] at hb
          by_cases hv : b ∈ fpV
          · obtain ⟨j, ρ, hj, hlj, hbj⟩ := hmemV b hv
            exact ⟨(R.owned j ρ b hlj hbj).2.1, .inr ⟨j, ρ, .inr hj, hlj, hbj⟩⟩
          · have hb' : b ∈ fps id := by
              rw [e5]; refine List.mem_cons_of_mem _ (hsub b ?_)
              simp only [List.mem_append]
              rcases hb with (hb | hb) | hb
              · exact .inl hb
              · exact absurd hb hv
              · exact .inr hb
            exact ⟨(R.owned id _ b ⟨hg, by simp⟩ hb').2.1, .inr ⟨id, _, .inl rfl, ⟨hg, by simp⟩, hb'⟩⟩
      · refine ⟨e1, ?_, by simpa using e3, e4, .inr ⟨fp1 ++ fpV ++ fp2, _, el, rfl, setRow_heap w L.b arr _ el _ h4, ?_, ?_⟩⟩
        · intro x' hx'
          rcases List.mem_or_eq_of_mem_set hx' with h | h
          · exact e2 x' h
          · subst h; rw [splice_len _ _ _ (by omega)]; exact hcs
        · have : (splice arr.toList (L.base + i * sz + k) (a.eval y).cells.toList).length = arr.size := by rw [splice_len _ _ _ (by simp; omega)]; simp
          simp only [List.size_toArray, this]; exact h5
        · rw [flat_set e2 hc (by omega), List.length_set]
          have hs : ((splice arr.toList (L.base + i * sz + k) (a.eval y).cells.toList).drop L.base).take (xs.length * sz) = splice ((arr.toList.drop L.base).take (xs.length * sz)) (i * sz + k) (a.eval y).cells.toList := by
            rw [Nat.add_assoc]; exact splice_drop_take _ _ _ _ _ (by simp; omega) (by simp; omega)
          show ARL _ _ _ _ _ (List.take _ (List.drop _ (splice arr.toList (L.base + i * sz + k) (a.eval y).cells.toList).toArray.toList))
          simp only [hs]
          refine hnew.mono (fun _ h => h) (fun _ _ h => h) (fun b hb => setRow_heap_other _ _ _ _ fun e => ?_)
          subst e
          rcases hb with hb | hb
          · exact hown.1 hb
          · exact hLb hb

end

end Go.AM
end

section
namespace Go.AM

/-! the words of the pure functions -/

def getI {α : Type} (l : List α) (i : Int) : Option α := if 0 ≤ i then l[i.toNat]? else none
def opt {α : Type} (g : Bool) (d : α) (m : Option α) : Option α := bif g then m else some d
def sliceHi {α : Type} (l : List α) (n : Int) : Option (List α) := if 0 ≤ n ∧ n ≤ l.length then some (l.take n.toNat) else none
def sliceLo {α : Type} (l : List α) (n : Int) : Option (List α) := if 0 ≤ n ∧ n ≤ l.length then some (l.drop n.toNat) else none
def sliceLH {α : Type} (l : List α) (n m : Int) : Option (List α) := if 0 ≤ n ∧ n ≤ m ∧ m ≤ l.length then some ((l.take m.toNat).drop n.toNat) else none
def setI {α : Type} (l : List α) (i : Int) (x : α) : List α := l.set i.toNat x
def fitsB (b n : Nat) : Bool := Nat.ble (2 * n * b) 281474976710656
def need (b : Bool) : Option Unit := bif b then some () else none
def w64 (n : Int) : Int := IntKind.wrap .i64 n

theorem bindE {α β : Type} {o : Option α} {f : α → Option β} {r : β} (h : o.bind f = some r) : ∃ x, o = some x ∧ f x = some r := Option.bind_eq_some_iff.1 h
theorem condT {α : Type} {c : Bool} {a b : α} {r : α} (hc : c = true) (h : cond c a b = r) : a = r := by subst hc; exact h
theorem condF {α : Type} {c : Bool} {a b : α} {r : α} (hc : c = false) (h : cond c a b = r) : b = r := by subst hc; exact h
theorem optT {α : Type} {g : Bool} {d r : α} {m : Option α} (h : opt g d m = some r) (hg : g = true) : m = some r := by subst hg; exact h
theorem needT {b : Bool} {u : Unit} (h : need b = some u) : b = true := by cases b; cases h; rfl
theorem someE {α : Type} {a b : α} (h : some a = some b) : a = b := Option.some.inj h

theorem getI_nn {α : Type} {l : List α} {i : Int} {x : α} (h : getI l i = some x) : 0 ≤ i := by unfold getI at h; split at h; assumption; cases h
theorem getI_get {α : Type} {l : List α} {i : Int} {x : α} (h : getI l i = some x) : l[i.toNat]? = some x := by unfold getI at h; split at h; exact h; cases h
theorem getI_lt {α : Type} {l : List α} {i : Int} {x : α} (h : getI l i = some x) : i.toNat < l.length := (List.getElem?_eq_some_iff.1 (getI_get h)).1
theorem getI_nat {α : Type} (l : List α) (k : Nat) : getI l (k : Int) = l[k]? := by simp [getI]
theorem getI_map {α : Type} {l : List α} {i : Int} {x : α} {f : α → List D} (h : getI l i = some x) : (l.map f)[i.toNat]? = some (f x) := by rw [List.getElem?_map, getI_get h]; rfl
theorem getI_drop {α : Type} {l : List α} {k : Nat} {x : α} {xs : List α} (h : l.drop k = x :: xs) : getI l (k : Int) = some x := by
  rw [getI_nat]
  have : (l.drop k)[0]? = some x := by rw [h]; rfl
  simpa using this
theorem drop_succ_of {α : Type} {l : List α} {k : Nat} {x : α} {xs : List α} (h : l.drop k = x :: xs) : l.drop (k + 1) = xs := by
  rw [← List.drop_drop, h]; rfl
theorem drop_lt {α : Type} {l : List α} {k : Nat} {x : α} {xs : List α} (h : l.drop k = x :: xs) : k < l.length := by
  have := congrArg List.length h
  simp at this; omega
theorem drop_ge {α : Type} {l : List α} {k : Nat} (h : l.drop k = []) : l.length ≤ k := by
  have := congrArg List.length h
  simp at this; omega

/-! lengths are bounded -/

theorem AW.boundS {P : Program} {c : Code} {Q : Exit → St → Prop} {σ : St} {t : Nat} {xs : List (List D)} (ht : get σ.t t = some (.s xs)) (h : xs.length ≤ maxN → AW P c Q σ) : AW P c Q σ := by
  rintro E a w ⟨Z, loc, fps, R⟩
  obtain ⟨v, _, h2⟩ := R.temps t _ ht
  refine h ?_ E a w ⟨Z, loc, fps, R⟩
  cases h2 with
  | s0 => simp
  | s _ _ _ h4 h5 _ => omega
theorem AW.boundM {P : Program} {c : Code} {Q : Exit → St → Prop} {σ : St} {t : Nat} {α : Type} {l : List α} {f : α → List D} (ht : get σ.t t = some (.s (l.map f))) (h : l.length ≤ maxN → AW P c Q σ) : AW P c Q σ :=
  AW.boundS ht fun hb => h (by simpa using hb)
theorem AW.boundR {P : Program} {c : Code} {Q : Exit → St → Prop} {σ : St} {id sz : Nat} {α : Type} {l : List α} {f : α → List D} (ht : get σ.h id = some (.row sz (l.map f))) (h : l.length ≤ maxN → AW P c Q σ) : AW P c Q σ := by
  rintro E a w ⟨Z, loc, fps, R⟩
  obtain ⟨L, _, _, _, h3, h4, _⟩ := R.roots id _ ⟨ht, by simp⟩
  exact h (by simp at h3; omega) E a w ⟨Z, loc, fps, R⟩

/-! a join -/

@[reducible] def joinQ {α : Type} (S : α → St) (I : α → Prop) (Q : Exit → St → Prop) : Exit → St → Prop
  | .normal, σ => ∃ s, I s ∧ Le σ (S s)
  | .exit id, σ => Q (.exit id) σ
  | .goto l, σ => Q (.goto l) σ
  | .ret, σ => Q .ret σ
  | .panic c, σ => Q (.panic c) σ
  | .outgrown, σ => Q .outgrown σ

theorem AW.seqJ {P : Program} {x y : Code} {Q : Exit → St → Prop} {σ : St} {α : Type} (S : α → St) (I : α → Prop) (h1 : AW P x (joinQ S I Q) σ) (h2 : ∀ s, I s → AW P y Q (S s)) : AW P (.seq x y) Q σ := by
  refine AW.seq (AW.mono h1 ?_)
  intro e σ' h
  cases e with
  | normal => obtain ⟨s, hs, hle⟩ := h; exact AW.le hle (h2 s hs)
  | _ => exact h

theorem fits_le {B n : Nat} (h : fitsB B n = true) : 2 * n * B ≤ 281474976710656 := Nat.le_of_ble_eq_true h
theorem fits_max {B n : Nat} (h : fitsB B n = true) (hB : 0 < B) : n ≤ maxN := by
  have h1 := fits_le h
  have h2 : 2 * n * 1 ≤ 2 * n * B := Nat.mul_le_mul_left _ hB
  unfold maxN; omega

theorem AW.condT' {P : Program} {Q : Exit → St → Prop} {σ : St} {c : Operand} {x y : Code} {b : Bool} (hc : σ.ev c = some (.v (.bool b))) (hb : b = true) (h1 : AW P x Q σ) : AW P (.cond c x y) Q σ := by subst hb; exact AW.condT hc h1
theorem AW.condF' {P : Program} {Q : Exit → St → Prop} {σ : St} {c : Operand} {x y : Code} {b : Bool} (hc : σ.ev c = some (.v (.bool b))) (hb : b = false) (h1 : AW P y Q σ) : AW P (.cond c x y) Q σ := by subst hb; exact AW.condF hc h1
theorem rngT {k n : Nat} (h : k < n) : decide ((k : Int) < (n : Int)) = true := decide_eq_true (by omega)
theorem rngF {k n : Nat} (h : n ≤ k) : decide ((k : Int) < (n : Int)) = false := decide_eq_false (by omega)
def flow {R V : Type} (o : Except R V) (k : V → Option R) : Option R := match o with | .error r => some r | .ok v => k v
def flowE {R V W : Type} (o : Except R V) (k : V → Option (Except R W)) : Option (Except R W) := match o with | .error r => some (.error r) | .ok v => k v
theorem inI_succ {k n : Nat} (h : k < n) (hn : n ≤ maxN) : inI .i64 ((k : Int) + 1) := inI_i64 (by unfold maxN at hn; omega)

/-! rules over lists of known things -/
section
variable {P : Program} {te : TE} (T : TEok P te) {σ : St} {o : Oper}
include T

theorem len_map_ok {t e : Nat} {s b z} {x : Operand} {α : Type} {l : List α} {f : α → List D} (ho : o.op = .call { callee := .builtin .len, args := #[x], argTypes := #[t] }) (ht : te t = some ⟨.slice e, s, b, z⟩) (hx : σ.ev x = some (.s (l.map f))) :
    OpV P σ o (.v (.int .i64 l.length)) := by
  have := pure_ok T (σ := σ) (o := o) (d := .v (.int .i64 ((l.map f).length))) (by rw [ho]; simp only [pureD, St.evr, hx, Option.map_some, St.res, lenD, ht])
  rwa [List.length_map] at this

theorem ix_map_ok {t e : Nat} {s b z} {ti : TI} {x i : Operand} {k : IntKind} {n : Int} {α : Type} {l : List α} {f : α → List D} {y : α} (ho : o.op = .indexAddr t x i) (ht : te t = some ⟨.slice e, s, b, z⟩) (hte : te e = some ti)
    (hx : σ.ev x = some (.s (l.map f))) (hi : σ.ev i = some (.v (.int k n))) (hg : getI l n = some y) (hsz : (f y).length = ti.size) : OpV P σ o (.q (f y)) :=
  ix_s_ok T ho ht hte hx hi (getI_nn hg) (getI_map hg) hsz

theorem slice_hi_map_ok {t e : Nat} {s b z} {ti : TI} {x y : Operand} {k : IntKind} {n : Int} {α : Type} {l r : List α} {f : α → List D} (ho : o.op = .slice t x none (some y) none) (ht : te t = some ⟨.slice e, s, b, z⟩) (hte : te e = some ti)
    (hx : σ.ev x = some (.s (l.map f))) (hy : σ.ev y = some (.v (.int k n))) (hr : sliceHi l n = some r) (hsz : ∀ y, (f y).length = ti.size) : OpV P σ o (.s (r.map f)) := by
  unfold sliceHi at hr
  split at hr
  · rename_i h; cases hr
    have := slice_hi_ok T ho ht hte hx hy h.1 (by simp; omega) (by intro a ha; obtain ⟨y, _, rfl⟩ := List.mem_map.1 ha; exact hsz y)
    rwa [← List.map_take] at this
  · cases hr
theorem slice_lo_map_ok {t e : Nat} {s b z} {ti : TI} {x y : Operand} {k : IntKind} {n : Int} {α : Type} {l r : List α} {f : α → List D} (ho : o.op = .slice t x (some y) none none) (ht : te t = some ⟨.slice e, s, b, z⟩) (hte : te e = some ti)
    (hx : σ.ev x = some (.s (l.map f))) (hy : σ.ev y = some (.v (.int k n))) (hr : sliceLo l n = some r) (hsz : ∀ y, (f y).length = ti.size) : OpV P σ o (.s (r.map f)) := by
  unfold sliceLo at hr
  split at hr
  · rename_i h; cases hr
    have := slice_lo_ok T ho ht hte hx hy h.1 (by simp; omega) (by intro a ha; obtain ⟨y, _, rfl⟩ := List.mem_map.1 ha; exact hsz y)
    rwa [← List.map_drop] at this
  · cases hr
theorem slice_lh_map_ok {t e : Nat} {s b z} {ti : TI} {x y u : Operand} {k k' : IntKind} {n m : Int} {α : Type} {l r : List α} {f : α → List D} (ho : o.op = .slice t x (some y) (some u) none) (ht : te t = some ⟨.slice e, s, b, z⟩) (hte : te e = some ti)
    (hx : σ.ev x = some (.s (l.map f))) (hy : σ.ev y = some (.v (.int k n))) (hu : σ.ev u = some (.v (.int k' m))) (hr : sliceLH l n m = some r) (hsz : ∀ y, (f y).length = ti.size) : OpV P σ o (.s (r.map f)) := by
  unfold sliceLH at hr
  split at hr
  · rename_i h; cases hr
    have := slice_lh_ok T ho ht hte hx hy hu h.1 (by omega) (by omega) (by simp; omega) (by intro a ha; obtain ⟨y, _, rfl⟩ := List.mem_map.1 ha; exact hsz y)
    rwa [← List.map_take, ← List.map_drop] at this
  · cases hr

omit T in
theorem evr_R {x : Operand} {id sz : Nat} {α : Type} {l : List α} {f : α → List D} (hx : σ.ev x = some (.R id)) (hg : get σ.h id = some (.row sz (l.map f))) : σ.evr x = some (.r id 0 l.length) := by
  simp only [St.evr, hx, Option.map_some, St.res, hg, List.length_map]

theorem len_row_ok {t e : Nat} {s b z} {x : Operand} {id sz : Nat} {α : Type} {l : List α} {f : α → List D} (ho : o.op = .call { callee := .builtin .len, args := #[x], argTypes := #[t] }) (ht : te t = some ⟨.slice e, s, b, z⟩) (hx : σ.ev x = some (.R id)) (hg : get σ.h id = some (.row sz (l.map f))) :
    OpV P σ o (.v (.int .i64 l.length)) :=
  pure_ok T (σ := σ) (o := o) (d := .v (.int .i64 l.length)) (by rw [ho]; simp only [pureD, evr_R hx hg, lenD, ht])

theorem ix_row_ok {t e : Nat} {s b z} {ti : TI} {x i : Operand} {k : IntKind} {n : Int} {id : Nat} {α : Type} {l : List α} {f : α → List D} {y : α} (ho : o.op = .indexAddr t x i) (ht : te t = some ⟨.slice e, s, b, z⟩) (hte : te e = some ti)
    (hx : σ.ev x = some (.R id)) (hi : σ.ev i = some (.v (.int k n))) (hg : get σ.h id = some (.row ti.size (l.map f))) (hn : getI l n = some y) : OpV P σ o (.e id n.toNat 0) :=
  ix_r0_ok T ho ht hte (evr_R hx hg) hi hg (getI_nn hn) (getI_lt hn)

theorem load_row_ok {t : Nat} {ti : TI} {x : Operand} {id i k sz : Nat} {α : Type} {l : List α} {f : α → List D} {y : α} {d : D} (ho : o.op = .load t x) (ht : te t = some ti) (hx : σ.ev x = some (.e id i k))
    (hg : get σ.h id = some (.row sz (l.map f))) (hc : l[i]? = some y) (hk : Nat.ble (k + ti.size) sz = true) (hv : (((f y).drop k).take ti.size).all D.isVS = true) (hr : readAt ti (((f y).drop k).take ti.size) = some d) : OpV P σ o d :=
  load_e_ok T ho ht hx hg (by rw [List.getElem?_map, hc]; rfl) hk hv hr

theorem store_row_ok {t : Nat} {ti : TI} {x y : Operand} {id i k sz : Nat} {α : Type} {l : List α} {f : α → List D} {u u' : α} {vs : List D} {d : D} (ho : o.op = .store t x y) (ht : te t = some ti) (hx : σ.ev x = some (.e id i k)) (hy : σ.ev y = some d)
    (hg : get σ.h id = some (.row sz (l.map f))) (hc : l[i]? = some u) (hv : d.cells? = some vs) (hpl : vs.all D.plain = true) (hsz : vs.length = ti.size) (hk' : Nat.ble (k + vs.length) sz = true) (hu : splice (f u) k vs = f u') (hdst : o.dst = none) :
    OpOk P σ o { σ with h := (id, .row sz ((l.set i u').map f)) :: σ.h } := by
  have := store_e_ok T ho ht hx hy hg (by rw [List.getElem?_map, hc]; rfl) hv hpl hsz hk' hdst
  rwa [hu, ← List.map_set] at this

theorem store_rowO_ok {t : Nat} {ti : TI} {x y : Operand} {id i k sz : Nat} {α : Type} {l : List α} {f : α → List D} {u u' : α} {vs es : List D} {ids : List Nat} {d : D} (ho : o.op = .store t x y) (ht : te t = some ti) (hx : σ.ev x = some (.e id i k)) (hy : σ.ev y = some d)
    (hg : get σ.h id = some (.row sz (l.map f))) (hc : l[i]? = some u) (hv : d.cells? = some vs) (hex : expLC σ vs es ids) (hids : (ids.Nodup ∧ id ∉ ids)) (hsz : vs.length = ti.size) (hk' : Nat.ble (k + vs.length) sz = true) (hu : splice (f u) k es = f u') (hdst : o.dst = none) :
    OpOk P σ o { σ with h := (id, .row sz ((l.set i u').map f)) :: kill ids σ.h } := by
  have := store_o_ok T ho ht hx hy hg (by rw [List.getElem?_map, hc]; rfl) hv hex hids hsz hk' hdst
  rwa [hu, ← List.map_set] at this

section
variable {x y : Operand} {t tx e e2 : Nat} {s s2 : Nat} {b b2 : Nat} {z z2 : Option Value} {ti : TI} {zv : Value}


/-- append of a list of known things to an owned row -/
theorem app_rs_map {id : Nat} {α : Type} {l m : List α} {f : α → List D} {d : D} (ho : o.op = .call { callee := .builtin .append, args := #[x, y], argTypes := #[t, tx] }) (id' : Nat)
    (ht : te t = some ⟨.slice e, s, b, z⟩) (htx : te tx = some ⟨.slice e2, s2, b2, z2⟩) (hte : te e = some ti) (hz0 : ti.zero = some zv) (hzs : zv.cells.size = ti.size) (hpos : 0 < ti.size) (hB : 0 < ti.bytes)
    (hx : σ.ev x = some (.R id)) (hg : get σ.h id = some (.row ti.size (l.map f))) (hy : σ.ev y = some (.s (m.map f))) (hys : ∀ y, (f y).length = ti.size)
    (hfit : fitsB ti.bytes (l.length + m.length) = true) (hid : get σ.h id' = none) (hd : dstOk σ o = true) :
    OpOk P σ o (St.put { σ with h := (id', .row ti.size ((l ++ m).map f)) :: kill [id] σ.h } o.dst (.R id')) := by
  have := app_rs_ok T ho id' ht htx hte hz0 hzs hpos (evr_R hx hg) hg (by simp) hy (ys := m.map f) rfl (by intro a ha; obtain ⟨y, _, rfl⟩ := List.mem_map.1 ha; exact hys y) (m := m.length) (by simp) (fits_max hfit hB) (fits_le hfit) hid hd
  rw [List.drop_zero, List.take_of_length_le (by simp), ← List.map_append] at this
  exact this

theorem app_rr_map {id id2 : Nat} {α : Type} {l m : List α} {f : α → List D} (ho : o.op = .call { callee := .builtin .append, args := #[x, y], argTypes := #[t, tx] }) (id' : Nat)
    (ht : te t = some ⟨.slice e, s, b, z⟩) (htx : te tx = some ⟨.slice e2, s2, b2, z2⟩) (hte : te e = some ti) (hz0 : ti.zero = some zv) (hzs : zv.cells.size = ti.size) (hB : 0 < ti.bytes)
    (hx : σ.ev x = some (.R id)) (hg : get σ.h id = some (.row ti.size (l.map f))) (hy : σ.ev y = some (.R id2)) (hg2 : get σ.h id2 = some (.row ti.size (m.map f))) (hne : Nat.beq id id2 = false)
    (hfit : fitsB ti.bytes (l.length + m.length) = true) (hid : get σ.h id' = none) (hd : dstOk σ o = true) :
    OpOk P σ o (St.put { σ with h := (id', .row ti.size ((l ++ m).map f)) :: kill [id, id2] σ.h } o.dst (.R id')) := by
  have := app_rr_ok T ho id' ht htx hte hz0 hzs (evr_R hx hg) hg (by simp) (evr_R hy hg2) hg2 (by simp) hne (fits_max hfit hB) (fits_le hfit) hid hd
  rw [List.drop_zero, List.drop_zero, List.take_of_length_le (by simp), List.take_of_length_le (by simp), ← List.map_append] at this
  exact this

theorem app_ws_map {k : Nat} {α : Type} {m : List α} {f : α → List D} (ho : o.op = .call { callee := .builtin .append, args := #[x, y], argTypes := #[t, tx] }) (id' : Nat)
    (ht : te t = some ⟨.slice e, s, b, z⟩) (htx : te tx = some ⟨.slice e2, s2, b2, z2⟩) (hte : te e = some ti) (hz0 : ti.zero = some zv) (hzs : zv.cells.size = ti.size) (hpos : 0 < ti.size) (hB : 0 < ti.bytes)
    (hx : σ.ev x = some (.w k [])) (hy : σ.ev y = some (.s (m.map f))) (hys : ∀ y, (f y).length = ti.size)
    (hfit : fitsB ti.bytes m.length = true) (hid : get σ.h id' = none) (hd : dstOk σ o = true) :
    OpOk P σ o (St.put { σ with h := (id', .row ti.size (m.map f)) :: σ.h } o.dst (.R id')) :=
  app_ws_ok T ho id' ht htx hte hz0 hzs hpos hx hy (ys := m.map f) rfl (by intro a ha; obtain ⟨y, _, rfl⟩ := List.mem_map.1 ha; exact hys y) (by simp) (fits_max hfit hB) (fits_le hfit) hid hd

theorem app_wr_map {k id2 : Nat} {α : Type} {m : List α} {f : α → List D} (ho : o.op = .call { callee := .builtin .append, args := #[x, y], argTypes := #[t, tx] }) (id' : Nat)
    (ht : te t = some ⟨.slice e, s, b, z⟩) (htx : te tx = some ⟨.slice e2, s2, b2, z2⟩) (hte : te e = some ti) (hz0 : ti.zero = some zv) (hzs : zv.cells.size = ti.size) (hB : 0 < ti.bytes)
    (hx : σ.ev x = some (.w k [])) (hy : σ.ev y = some (.R id2)) (hg2 : get σ.h id2 = some (.row ti.size (m.map f)))
    (hfit : fitsB ti.bytes m.length = true) (hid : get σ.h id' = none) (hd : dstOk σ o = true) :
    OpOk P σ o (St.put { σ with h := (id', .row ti.size (m.map f)) :: kill [id2] σ.h } o.dst (.R id')) := by
  have := app_wr_ok T ho id' ht htx hte hz0 hzs hx (evr_R hy hg2) hg2 (by simp) (fits_max hfit hB) (fits_le hfit) hid hd
  rwa [List.drop_zero, List.take_of_length_le (by simp)] at this

theorem make_map_ok {k k' : IntKind} {n : Int} {α : Type} {f : α → List D} {zo : α} (ho : o.op = .makeSlice t x y) (id : Nat) (ht : te t = some ⟨.slice e, s, b, z⟩) (hte : te e = some ti) (hz : ti.zero = some zv)
    (hone : zv.cells.toList.all (·.oneCell') = true) (hzs : zv.cells.size = ti.size) (hzl : ZL zv.cells.toList (f zo)) (hB : 0 < ti.bytes) (hx : σ.ev x = some (.v (.int k n))) (hy : σ.ev y = some (.v (.int k' n)))
    (hn : decide (0 ≤ n) = true) (hfit : fitsB ti.bytes n.toNat = true)
    (hid : get σ.h id = none) (hd : dstOk σ o = true) : OpOk P σ o (St.put { σ with h := (id, .row ti.size ((List.replicate n.toNat zo).map f)) :: σ.h } o.dst (.R id)) := by
  have hn := of_decide_eq_true hn
  have h1 := fits_le hfit
  have h2 := fits_max hfit hB
  have h3 : (n.toNat : Int) = n := Int.toNat_of_nonneg hn
  have := make_z_ok T ho id ht hte hz hone hzs hzl hx hy hn (by
    have : ti.bytes * n.toNat ≤ 281474976710656 := by
      rw [Nat.mul_assoc] at h1
      have : n.toNat * ti.bytes ≤ 2 * (n.toNat * ti.bytes) := by omega
      rw [Nat.mul_comm]; omega
    have h4 : ((ti.bytes * n.toNat : Nat) : Int) ≤ ((281474976710656 : Nat) : Int) := Int.ofNat_le.2 this
    rw [← h3, ← Int.natCast_mul]; exact h4) (by unfold maxN at h2; omega) hid hd
  rw [← List.map_replicate] at this
  exact this

theorem mk_map_ok {len : Nat} {parts : Array (Nat × Operand)} {ps : List (Nat × D)} {α : Type} {f : α → List D} {l : List α} (ho : o.op = .buildSlice t len parts) (id : Nat) (ht : te t = some ⟨.slice e, s, b, z⟩) (hte : te e = some ti) (hz : ti.zero = some zv)
    (hev : evAll σ parts.toList = some ps) (hen : enumFrom 0 ps = true) (hcs : cellsAll ps = some (l.map f)) (hlen : l.length = len) (hsz : ∀ y, (f y).length = ti.size) (hpl : ((l.map f).flatten).all D.plain = true) (hsmall : Nat.ble (len * ti.size) 16777216 = true) (hsmall' : Nat.ble len 16777216 = true)
    (hid : get σ.h id = none) (hd : dstOk σ o = true) : OpOk P σ o (St.put { σ with h := (id, .row ti.size (l.map f)) :: σ.h } o.dst (.R id)) := by
  have := mk_ok T ho id ht hte hz hev hen hcs (by rw [List.length_map, hlen]; exact Nat.beq_refl _) (by intro x hx; obtain ⟨y, _, rfl⟩ := List.mem_map.1 hx; exact hsz y) hpl hsmall hsmall' hid hd
  exact this

end
end
end Go.AM
end

section
namespace Go.AM

theorem andT {a b : Bool} (h : a = true) (k : b = true) : (a && b) = true := by rw [h, k]; rfl
theorem allC {α : Type} {p : α → Bool} {a : α} {l : List α} (h : p a = true) (k : l.all p = true) : (a :: l).all p = true := by rw [List.all_cons, h, k]; rfl
theorem allN {α : Type} {p : α → Bool} : ([] : List α).all p = true := rfl
theorem renC_cfree {a b : Nat} {d : D} (h : d.cfree = true) : d.renC a b = d := by cases d <;> first | rfl | (simp [D.cfree] at h; done)
theorem knownC_cfree {hp : List (Nat × Root)} {d : D} (h : d.cfree = true) : d.knownC hp = true := by cases d <;> first | rfl | (simp [D.cfree] at h; done)
theorem ren_fF {a b fn : Nat} {caps : List D} (h : caps.all D.cfree = true) : (D.f fn caps).ren a b = .f fn caps := by
  show D.f fn (caps.map (D.renC a b)) = .f fn caps
  congr 1
  refine (List.map_congr_left fun d hd => ?_).trans (List.map_id _)
  exact renC_cfree (List.all_eq_true.1 h d hd)
theorem known_fF {hp : List (Nat × Root)} {fn : Nat} {caps : List D} (h : caps.all D.cfree = true) : (D.f fn caps).known hp = true := by
  show caps.all (D.knownC hp) = true
  exact List.all_eq_true.2 fun d hd => knownC_cfree (List.all_eq_true.1 h d hd)
theorem free_cfree {caps : List D} (h : caps.all D.cfree = true) : caps.all D.free = true := List.all_eq_true.2 fun d hd => by
  have := List.all_eq_true.1 h d hd
  cases d <;> first | rfl | exact this | (simp [D.cfree] at this; done)
theorem neZ {b : Int} (h : (b != 0) = true) : b ≠ 0 := by simpa using h
def strI (s : ByteArray) (i : Int) : Option UInt8 := if 0 ≤ i then s[i.toNat]? else none

section
variable {P : Program} {σ : St} {o : Oper}

theorem negw_ok {t : Nat} {x : Operand} {k : IntKind} {a : Int} (ho : o.op = .unOp .neg t x) (hx : σ.ev x = some (.v (.int k a))) : OpV P σ o (.v (.int k (k.wrap (-a)))) := by
  refine OpV.of_val fun E a' w Z loc fps R => ?_
  have h1 := R.ev hx
  generalize hax : a'.eval x = vx at h1
  cases h1
  exact ⟨_, by simp [execOp, ho, hax, Op.unary, Op.intArith], .v⟩

theorem quow_ok {t u : Nat} {x y : Operand} {k : IntKind} {a b : Int} (ho : o.op = .binOp .quo t x y u) (hx : σ.ev x = some (.v (.int k a))) (hy : σ.ev y = some (.v (.int k b)))
    (hb : b ≠ 0) : OpV P σ o (.v (.int k (k.wrap (a.tdiv b)))) := by
  refine OpV.of_val fun E a' w Z loc fps R => ?_
  have h1 := R.ev hx; have h2 := R.ev hy
  generalize hax : a'.eval x = vx at h1
  generalize hay : a'.eval y = vy at h2
  cases h1; cases h2
  exact ⟨_, by simp [execOp, ho, hax, hay, eqGuard_at_int, binOp_quo, binOp_rem, Op.intDiv, hb], .v⟩
end

section
variable {P : Program} {te : TE} (T : TEok P te) {σ : St} {o : Oper}
include T
theorem convw_ok {s t : Nat} {x : Operand} {k k' : IntKind} {a : Int} {s1 b1 z1} {ti : TI} (ho : o.op = .convert s t x) (hs : te s = some ti) (ht : te t = some ⟨.int k', s1, b1, z1⟩) (hx : σ.ev x = some (.v (.int k a))) : OpV P σ o (.v (.int k' (k'.wrap a))) := by
  refine OpV.of_val fun E a' w Z loc fps R => ?_
  have h1 := R.ev hx
  generalize hax : a'.eval x = vx at h1
  cases h1
  obtain ⟨i, d, _, h2, _⟩ := te_parts T hs
  have hu := und_int T ht
  refine ⟨_, ?_, .v⟩
  simp [execOp, ho, hax, convert, run_underlying hu, run_underlying h2, Conv.intToInt]

theorem ix_strI_ok {t : Nat} {s b z} {x i : Operand} {k : IntKind} {n : Int} {str : ByteArray} {c : UInt8} (ho : o.op = .index t x i) (ht : te t = some ⟨.str, s, b, z⟩)
    (hx : σ.ev x = some (.v (.string str))) (hi : σ.ev i = some (.v (.int k n))) (hc : strI str n = some c) : OpV P σ o (.v (.int .u8 c.toNat)) := by
  unfold strI at hc
  split at hc
  · exact ix_str_ok T ho ht hx hi ‹_› hc
  · cases hc

end

/-! bounds out of boxes and structs -/
theorem s_bound {w Z loc fp v} {α : Type} {l : List α} {f : α → List D} (h : AR w Z loc fp (.s (l.map f)) v) : l.length ≤ maxN := by
  have key : ∀ d, AR w Z loc fp d v → d = .s (l.map f) → l.length ≤ maxN := by
    intro d h hd
    cases h <;> simp only [D.s.injEq, reduceCtorEq] at hd
    · have := congrArg List.length hd
      simp at this; omega
    · rename_i h5 h6 _
      have := congrArg List.length hd
      simp at this; omega
  exact key _ h rfl

theorem AW.boundBox {P : Program} {c : Code} {Q : Exit → St → Prop} {σ : St} {id j : Nat} {ds : List D} {α : Type} {l : List α} {f : α → List D} (hb : get σ.h id = some (.box ds)) (hj : ds[j]? = some (.s (l.map f))) (h : l.length ≤ maxN → AW P c Q σ) : AW P c Q σ := by
  rintro E a w ⟨Z, loc, fps, R⟩
  obtain ⟨L, _, _, _, arr, el, _, h4⟩ := R.roots id _ ⟨hb, by simp⟩
  obtain ⟨v, _, _, hv⟩ := h4.get0 hj
  exact h (s_bound hv) E a w ⟨Z, loc, fps, R⟩
theorem AW.boundG {P : Program} {c : Code} {Q : Exit → St → Prop} {σ : St} {t j : Nat} {ds : List D} {α : Type} {l : List α} {f : α → List D} (hb : get σ.t t = some (.g ds)) (hj : ds[j]? = some (.s (l.map f))) (h : l.length ≤ maxN → AW P c Q σ) : AW P c Q σ := by
  rintro E a w ⟨Z, loc, fps, R⟩
  obtain ⟨v, _, hv⟩ := R.temps t _ hb
  cases hv with
  | g h1 =>
    obtain ⟨u, _, _, hu⟩ := h1.get0 hj
    exact h (s_bound hu) E a w ⟨Z, loc, fps, R⟩
theorem AW.boundQ {P : Program} {c : Code} {Q : Exit → St → Prop} {σ : St} {t j : Nat} {ds : List D} {α : Type} {l : List α} {f : α → List D} (hb : get σ.t t = some (.q ds)) (hj : ds[j]? = some (.s (l.map f))) (h : l.length ≤ maxN → AW P c Q σ) : AW P c Q σ := by
  rintro E a w ⟨Z, loc, fps, R⟩
  obtain ⟨v, _, hv⟩ := R.temps t _ hb
  cases hv with
  | q _ _ h1 =>
    obtain ⟨u, _, _, hu⟩ := h1.get0 hj
    exact h (s_bound hu) E a w ⟨Z, loc, fps, R⟩

/-! lending lists -/
inductive LendL (σ : St) : List D → List D → Prop
  | nil : LendL σ [] []
  | cons {d e ds es} : Lend σ d e → LendL σ ds es → LendL σ (d :: ds) (e :: es)
theorem LendL.spec {σ : St} {ds es : List D} (h : LendL σ ds es) : ds.length = es.length ∧ ∀ (i : Nat) (d d' : D), ds[i]? = some d → es[i]? = some d' → Lend σ d d' := by
  induction h with
  | nil => exact ⟨rfl, by simp⟩
  | cons h1 h2 ih =>
    refine ⟨by simp [ih.1], fun i d d' e1 e2 => ?_⟩
    cases i with
    | zero => simp at e1 e2; subst e1 e2; exact h1
    | succ i => exact ih.2 i d d' (by simpa using e1) (by simpa using e2)
theorem lend_g {σ : St} {ds es : List D} (h : LendL σ ds es) : Lend σ (.g ds) (.g es) := .g h.spec.1 h.spec.2
theorem lend_f {σ : St} {fn : Nat} {ds es : List D} (h : LendL σ ds es) : Lend σ (.f fn ds) (.f fn es) := .f h.spec.1 h.spec.2

inductive ZFL : List D → Prop
  | nil : ZFL []
  | cons {d ds} : d.zfree → ZFL ds → ZFL (d :: ds)
theorem zfl {ds : List D} (h : ZFL ds) : ∀ d ∈ ds, d.zfree := by
  induction h with
  | nil => simp
  | cons h1 _ ih => intro d hd; rcases List.mem_cons.1 hd with rfl | hd; exact h1; exact ih d hd
theorem zfree_map {sz : Nat} {α : Type} {l : List α} {f : α → List D} (h : ∀ y, ZFL (f y)) : D.zfree (.w sz (l.map f)) := zfree_w fun x hx d hd => by
  obtain ⟨y, _, rfl⟩ := List.mem_map.1 hx; exact zfl (h y) d hd

/-! slices made in a drawn region -/
theorem ev_mono {τ σ : St} (h1 : ∀ t d, get τ.t t = some d → get σ.t t = some d) {x : Operand} {d : D} (hx : τ.ev x = some d) : σ.ev x = some d := by
  cases x with
  | tmp t => exact h1 t d hx
  | const v => exact hx
  | func f => exact hx
  | global g => exact hx
theorem evAll_mono {τ σ : St} (h1 : ∀ t d, get τ.t t = some d → get σ.t t = some d) : ∀ {l : List (Nat × Operand)} {r}, evAll τ l = some r → evAll σ l = some r
  | [], r, h => h
  | (i, x) :: l, r, h => by
    simp only [evAll] at h ⊢
    cases hx : τ.ev x with
    | none => simp [hx] at h
    | some d =>
      cases hl : evAll τ l with
      | none => simp [hx, hl] at h
      | some r' =>
        rw [ev_mono h1 hx, evAll_mono h1 hl]
        simpa [hx, hl] using h

theorem FStep.mk {P : Program} {ops : Array Oper} {τ : St} {o : Oper} {te : TE} (T : TEok P te) {t e s b : Nat} {z : Option Value} {ti : TI} {zv : Value} {len k : Nat} {parts : Array (Nat × Operand)} {ps : List (Nat × D)} {α : Type} {f : α → List D} {l : List α} (ho : o.op = .buildSlice t len parts) (hw : τ.wants ops o = some true) (ht : te t = some ⟨.slice e, s, b, z⟩) (hte : te e = some ti) (hz : ti.zero = some zv)
    (hev : evAll τ parts.toList = some ps) (hen : enumFrom 0 ps = true) (hcs : cellsAll ps = some (l.map f)) (hlen : l.length = len) (hsz : ∀ y, (f y).length = ti.size) (hpl : ((l.map f).flatten).all D.plain = true) (hsmall : Nat.ble (len * ti.size) 16777216 = true) (hsmall' : Nat.ble len 16777216 = true)
    (hd : dstOk τ o = true) : FStep P ops τ o (.R k) [(k, .row ti.size (l.map f))] k (k + 1) := by
  rintro E σ a w h1 h2 h3 hfr ⟨Z, loc, fps, R⟩
  have RV := R.toOnly h1 h2 h3
  unfold Behind
  rw [if_pos (RV.wants hw)]
  exact mk_map_ok T ho k ht hte hz (evAll_mono h1 hev) hen hcs hlen hsz hpl hsmall hsmall' (hfr k (Nat.le_refl _) (Nat.lt_succ_self _)) (by unfold dstOk at hd ⊢; rw [h3]; exact hd) E a w ⟨Z, loc, fps, R⟩

theorem FStep.mk0 {P : Program} {ops : Array Oper} {τ : St} {o : Oper} {te : TE} (T : TEok P te) {t e s b k : Nat} {z : Option Value} {ti : TI} (ho : o.op = .buildSlice t 0 #[]) (hw : τ.wants ops o = some true) (ht : te t = some ⟨.slice e, s, b, z⟩) (hte : te e = some ti) (hd : dstOk τ o = true) : FStep P ops τ o (.w ti.size []) [] k k := by
  rintro E σ a w h1 h2 h3 hfr ⟨Z, loc, fps, R⟩
  have RV := R.toOnly h1 h2 h3
  unfold Behind
  rw [if_pos (RV.wants hw)]
  exact mk0_ok T ho ht hte (by unfold dstOk at hd ⊢; rw [h3]; exact hd) E a w ⟨Z, loc, fps, R⟩

end Go.AM
end

section
namespace Go.AM

/-! What can be read as data of a known type is an immutable value by value. -/

inductive HasT (te : TE) : Nat → List D → Prop
  | int {t k s b z n} : te t = some ⟨.int k, s, b, z⟩ → (Lit.int k n).wf = true → HasT te t [.v (.int k n)]
  | bool {t s b z x} : te t = some ⟨.bool, s, b, z⟩ → HasT te t [.v (.bool x)]
  | str {t s b z x} : te t = some ⟨.str, s, b, z⟩ → x.size ≤ maxLen → HasT te t [.v (.string x)]
  | slice {t e s b z xs} : te t = some ⟨.slice e, s, b, z⟩ → xs.length ≤ maxN → (∀ x ∈ xs, HasT te e x) → HasT te t [.s xs]
  | struct {t fs s b z cs} : te t = some ⟨.struct fs, s, b, z⟩ → cs.length = s → (∀ f ∈ fs, ∀ ti, te f.2 = some ti → HasT te f.2 ((cs.drop f.1).take ti.size)) → HasT te t cs

/-- the fields lie one behind the other -/
def tilesFrom (te : TE) : Nat → List (Nat × Nat) → Nat → Bool
  | k, [], n => Nat.beq k n
  | k, (off, ft) :: fs, n => Nat.beq k off && (match te ft with | some ti => tilesFrom te (k + ti.size) fs n | none => false)

/-- a type that is known to the bottom -/
def readT (te : TE) : Nat → Nat → Bool
  | 0, _ => false
  | d + 1, t =>
    match te t with
    | some ⟨.int _, s, _, _⟩ => Nat.beq s 1
    | some ⟨.bool, s, _, _⟩ => Nat.beq s 1
    | some ⟨.str, s, _, _⟩ => Nat.beq s 1
    | some ⟨.slice e, s, _, _⟩ => Nat.beq s 1 && readT te d e && (match te e with | some ti => Nat.blt 0 ti.size | none => false)
    | some ⟨.struct fs, s, _, _⟩ => fs.all (fun f => readT te d f.2) && tilesFrom te 0 fs s
    | _ => false

theorem mapM_range_get {β : Type} {f : Nat → Option β} : ∀ {n : Nat} {r : List β}, (List.range n).mapM f = some r → r.length = n ∧ ∀ i, i < n → f i = r[i]? := by
  have gen : ∀ {α : Type} {f : α → Option β} {l : List α} {r : List β}, l.mapM f = some r → r.length = l.length ∧ ∀ (i : Nat) (x : α), l[i]? = some x → f x = r[i]? := by
    intro α f l
    induction l with
    | nil => intro r h; simp at h; subst h; simp
    | cons a l ih =>
      intro r h
      rw [List.mapM_cons] at h
      cases ha : f a with
      | none => simp [ha] at h
      | some b =>
        cases hl : l.mapM f with
        | none => simp [ha, hl] at h
        | some r' =>
          simp [ha, hl] at h
          subst h
          obtain ⟨h1, h2⟩ := ih hl
          refine ⟨by simp [h1], fun i x hi => ?_⟩
          cases i with
          | zero => simp at hi; subst hi; simp [ha]
          | succ i => simpa using h2 i x (by simpa using hi)
  intro n r h
  obtain ⟨h1, h2⟩ := gen h
  exact ⟨by simpa using h1, fun i hi => h2 i i (by simp [hi])⟩

theorem cells?_block {w : World} {base : Nat} {A : Addr} {n : Nat} {cs : List Value} (h : w.cells? base A n = some cs) (hn : 0 < n) :
    ∃ arr el fz, w.heap[A.block]? = some (.cells arr el fz) ∧ A.spot = none ∧ cs = (arr.toList.drop A.off).take n ∧ A.off + n ≤ arr.size := by
  unfold World.cells? at h
  split at h
  · obtain ⟨hl, hg⟩ := mapM_range_get h
    have h0 := hg 0 hn
    rw [List.getElem?_eq_getElem (by omega), Addr.add_zero'] at h0
    have hb : ∃ arr el fz, w.heap[A.block]? = some (.cells arr el fz) ∧ A.spot = none := by
      unfold World.cell? at h0
      split at h0
      · rename_i arr el fz hh
        refine ⟨arr, el, fz, hh, ?_⟩
        split at h0
        · cases h0
        · rename_i hs; simpa using hs
      · cases h0
    obtain ⟨arr, el, fz, hh, hsp⟩ := hb
    obtain ⟨bk, off, sp⟩ := A
    simp only at hsp hh
    subst hsp
    have hcell : ∀ i, i < n → arr[off + i]? = cs[i]? := by
      intro i hi
      have := hg i hi
      rw [Addr.add_lit] at this
      simpa [World.cell?, hh] using this
    have hle : off + n ≤ arr.size := by
      have := hcell (n - 1) (by omega)
      rw [List.getElem?_eq_getElem (by omega)] at this
      have := (Array.getElem?_eq_some_iff.1 this).1
      omega
    refine ⟨arr, el, fz, hh, rfl, ?_, hle⟩
    apply List.ext_getElem?
    intro i
    rw [List.getElem?_take]
    split
    · rename_i hi
      rw [List.getElem?_drop, ← hcell i hi]; simp
    · rename_i hi; rw [List.getElem?_eq_none (by omega)]
  · cases h

section
variable {P : Program} {te : TE} (T : TEok P te) {H : Type} {enc : TypeId × Value → H} {w : World}
include T

theorem cellsOf_te {t : Nat} {ti : TI} (h : te t = some ti) : P.cellsOf t = ti.size := by
  obtain ⟨i, d, h1, h2, rfl⟩ := te_parts T h
  simp [Program.cellsOf, h1]

theorem trod_open {base : Nat} {spare : Nat → Bool} {held : Bool} : ∀ (dp fuel t : Nat) (cs : List Value) (x : DataW H × List MemPlace), readT te dp t = true → DataW.trod enc P w base spare held fuel t cs = some x →
    ∃ ds : List D, ARL w (fun b => b < w.heap.size) noLoc [] ds cs ∧ HasT te t ds := by
  intro dp
  induction dp with
  | zero => intro fuel t cs x h; simp [readT] at h
  | succ dp ih =>
    intro fuel t cs x hr h
    unfold readT at hr
    split at hr
    · rename_i k s b z ht
      obtain ⟨n, rfl, _, hw⟩ := DataW.trod_int (und_int T ht) h
      exact ⟨[.v (.int k n)], .cons (fp := []) (fp' := []) rfl .v .nil, .int ht hw⟩
    · rename_i s b z ht
      obtain ⟨n, rfl, _⟩ := DataW.trod_bool (und_bool T ht) h
      exact ⟨[.v (.bool n)], .cons (fp := []) (fp' := []) rfl .v .nil, .bool ht⟩
    · rename_i s b z ht
      obtain ⟨n, rfl, _, hw⟩ := DataW.trod_string (und_str T ht) h
      exact ⟨[.v (.string n)], .cons (fp := []) (fp' := []) rfl .v .nil, .str ht hw⟩
    · rename_i e s b z ht
      simp only [Bool.and_eq_true] at hr
      obtain ⟨⟨_, hre⟩, hpos⟩ := hr
      split at hpos
      · rename_i ti hti
        have hpos : 0 < ti.size := by simpa [Nat.blt_eq] using hpos
        have hsz := cellsOf_te T hti
        rcases DataW.trod_slice (und_slice T ht) h with ⟨rfl, _⟩ | ⟨A, len, cap, elems, rest, n, _, rfl, _, _, hlc, hcm, hel, hget, _⟩
        · exact ⟨[.s []], .cons (fp := []) (fp' := []) rfl .s0 .nil, .slice ht (by simp) (by simp)⟩
        · have hmax : maxLen = maxN := rfl
          by_cases h0 : len = 0
          · subst h0
            exact ⟨[.s []], .cons (fp := []) (fp' := []) rfl .s0 .nil, .slice ht (by simp) (by simp)⟩
          · have hel0 : ∀ i, i < len → ∃ cs', w.cells? base (A.add (i * ti.size)) ti.size = some cs' ∧ ∃ ds, ARL w (fun b => b < w.heap.size) noLoc [] ds cs' ∧ HasT te e ds := by
              intro i hi
              have := hget i hi
              rw [hsz, List.getElem?_eq_getElem (by omega)] at this
              cases hc : w.cells? base (A.add (i * ti.size)) ti.size with
              | none => simp [hc] at this
              | some cs' =>
                simp only [hc, Option.bind_some] at this
                exact ⟨cs', rfl, ih n e cs' _ hre this⟩
            obtain ⟨cs0, hc0, _⟩ := hel0 0 (by omega)
            rw [Nat.zero_mul, Addr.add_zero'] at hc0
            obtain ⟨arr, el, fz, hh, hsp, _, _⟩ := cells?_block hc0 hpos
            obtain ⟨bk, off, sp⟩ := A
            simp only at hsp hh
            subst hsp
            have hlt : bk < w.heap.size := (Array.getElem?_eq_some_iff.1 hh).1
            have key : ∀ n, n ≤ len → ∃ xs : List (List D), xs.length = n ∧ (∀ x ∈ xs, x.length = ti.size) ∧ (∀ x ∈ xs, HasT te e x) ∧ ARL w (fun b => b < w.heap.size) noLoc [] xs.flatten ((arr.toList.drop off).take (n * ti.size)) := by
              intro n
              induction n with
              | zero => intro _; exact ⟨[], rfl, by simp, by simp, by simpa using ARL.nil⟩
              | succ n ihn =>
                intro hn
                obtain ⟨xs, h1, h2, h3, h4⟩ := ihn (by omega)
                obtain ⟨cs', hc', ds, h5, h6⟩ := hel0 n (by omega)
                rw [Addr.add_lit] at hc'
                obtain ⟨arr', el', fz', hh', _, hcs, hle⟩ := cells?_block hc' hpos
                simp only at hh' hcs hle
                rw [hh] at hh'; cases hh'
                have hl := h5.length
                have hlen : ds.length = ti.size := by rw [hl, hcs]; simp; omega
                refine ⟨xs ++ [ds], by simp [h1], ?_, ?_, ?_⟩
                · intro x hx; rcases List.mem_append.1 hx with hx | hx
                  · exact h2 x hx
                  · simp at hx; subst hx; exact hlen
                · intro x hx; rcases List.mem_append.1 hx with hx | hx
                  · exact h3 x hx
                  · simp at hx; subst hx; exact h6
                · have e : (arr.toList.drop off).take ((n + 1) * ti.size) = (arr.toList.drop off).take (n * ti.size) ++ cs' := by
                    rw [hcs, Nat.succ_mul, List.take_add, List.drop_drop]
                  rw [e]
                  have := h4.append h5
                  simpa using this
            obtain ⟨xs, h1, h2, h3, h4⟩ := key len (Nat.le_refl _)
            subst h1
            exact ⟨[.s xs], .cons (fp := []) (fp' := []) rfl (.s hlt hh h2 hlc (by omega) h4) .nil, .slice ht (by omega) h3⟩
      · cases hpos
    · rename_i fs s b z ht
      simp only [Bool.and_eq_true] at hr
      obtain ⟨hre, htile⟩ := hr
      obtain ⟨fields, hu, hfs⟩ := und_struct T ht
      obtain ⟨xs, n, _, _, hlen, hxl, hget⟩ := DataW.trod_struct hu h
      rw [cellsOf_te T ht] at hlen
      simp only at hlen
      have hfield : ∀ f ∈ fs, ∀ ti, te f.2 = some ti → ∃ ds, ARL w (fun b => b < w.heap.size) noLoc [] ds ((cs.drop f.1).take ti.size) ∧ HasT te f.2 ds := by
        intro f hf ti hti
        rw [← hfs] at hf
        obtain ⟨fd, hfd, rfl⟩ := List.mem_map.1 hf
        obtain ⟨i, hi, rfl⟩ := List.mem_iff_getElem.1 hfd
        have hi' : i < fields.size := by simpa using hi
        have := hget i fields[i] (by simp [hi'])
        simp only [Array.getElem_toList] at hti ⊢
        rw [List.getElem?_eq_getElem (by omega), cellsOf_te T hti] at this
        have hrr : readT te dp fields[i].type = true := by
          have := List.all_eq_true.1 hre (fields[i].offset, fields[i].type) (by rw [← hfs]; exact List.mem_map.2 ⟨fields[i], by simp, rfl⟩)
          exact this
        exact ih n _ _ _ hrr this
      -- the fields' cells one behind the other
      have tile : ∀ (gs : List (Nat × Nat)) (k : Nat), (∀ f ∈ gs, f ∈ fs) → tilesFrom te k gs s = true → ∃ ds, ARL w (fun b => b < w.heap.size) noLoc [] ds (cs.drop k) ∧ k ≤ s ∧ ∀ f ∈ gs, ∀ ti, te f.2 = some ti → k ≤ f.1 ∧ HasT te f.2 ((ds.drop (f.1 - k)).take ti.size) := by
        intro gs
        induction gs with
        | nil =>
          intro k _ ht'
          have : k = s := Nat.eq_of_beq_eq_true ht'
          subst this
          exact ⟨[], by rw [List.drop_of_length_le (by omega)]; exact .nil, Nat.le_refl _, by simp⟩
        | cons g gs ihg =>
          intro k hsub ht'
          obtain ⟨off, ft⟩ := g
          simp only [tilesFrom, Bool.and_eq_true] at ht'
          obtain ⟨hk, ht'⟩ := ht'
          have hk : k = off := Nat.eq_of_beq_eq_true hk
          subst hk
          split at ht'
          · rename_i ti hti
            obtain ⟨ds1, a1, a2⟩ := hfield (k, ft) (hsub _ (by simp)) ti hti
            obtain ⟨ds2, b1, b2, b3⟩ := ihg (k + ti.size) (fun f hf => hsub f (by simp [hf])) ht'
            have hl1 := a1.length
            have hlen1 : ds1.length = ti.size := by rw [hl1]; simp; omega
            refine ⟨ds1 ++ ds2, ?_, by omega, ?_⟩
            · have := a1.append b1
              rw [← List.drop_drop, List.take_append_drop] at this
              simpa using this
            · intro f hf ti' hti'
              rcases List.mem_cons.1 hf with rfl | hf
              · rw [hti] at hti'; cases hti'
                refine ⟨Nat.le_refl _, ?_⟩
                simp only [Nat.sub_self, List.drop_zero]
                rw [List.take_append_of_le_length (by omega), List.take_of_length_le (by omega)]; exact a2
              · obtain ⟨c1, c2⟩ := b3 f hf ti' hti'
                refine ⟨by omega, ?_⟩
                rw [List.drop_append, List.drop_of_length_le (by omega), List.nil_append, hlen1, show f.1 - k - ti.size = f.1 - (k + ti.size) by omega]
                exact c2
          · cases ht'
      obtain ⟨ds, d1, _, d3⟩ := tile fs 0 (fun _ h => h) htile
      rw [List.drop_zero] at d1
      refine ⟨ds, d1, .struct ht (by rw [d1.length, hlen]) fun f hf ti hti => ?_⟩
      have := (d3 f hf ti hti).2
      simpa using this
    · cases hr

/-- an argument -/
theorem arg_open {dp t b0 : Nat} {r : Reach} {v : Value} {d : DataW H} {ps : List MemPlace} {base : Nat} {spare : Nat → Bool} {held : Bool} {ti : TI} (ht : te t = some ti) (hr : readT te dp t = true) (hval : Value.okWide P w r b0 t v) (h : DataW.Trod enc P w base spare held t v d ps) :
    ∃ ds : List D, HasT te t ds ∧ ∀ d0, (bif ti.agg then some (.g ds) else ds.head?) = some d0 → AR w (fun b => b < w.heap.size) noLoc [] d0 v := by
  obtain ⟨fuel, hf⟩ := h
  obtain ⟨ds, h1, h2⟩ := trod_open T dp fuel t _ _ hr hf
  refine ⟨ds, h2, fun d0 hd => ?_⟩
  obtain ⟨i, dd, _, hu, rfl⟩ := te_parts T ht
  cases hagg : TI.agg ⟨tkOf dd, i.size, i.bytes, i.zero⟩
  · simp only [hagg, cond_false] at hd
    have hone : v.cells = #[v] := by
      cases h2 with
      | int h' _ => obtain ⟨n, rfl⟩ := WideShapes.okWide_int (und_int T h') hval; rfl
      | bool h' => obtain ⟨n, rfl⟩ := WideShapes.okWide_bool (und_bool T h') hval; rfl
      | str h' _ => obtain ⟨n, rfl⟩ := WideShapes.okWide_string (und_str T h') hval; rfl
      | slice h' _ _ => obtain ⟨a, l, c, rfl⟩ := WideShapes.okWide_slice (und_slice T h') hval; rfl
      | struct h _ _ => rw [ht] at h; simp only [Option.some.injEq, TI.mk.injEq] at h; rw [TI.agg, h.1] at hagg; simp at hagg
    rw [hone] at h1
    cases h2 with
    | int => simp at hd; subst hd; obtain ⟨u, e, _, r⟩ := h1.get0 (i := 0) rfl; simp at e; subst e; exact r
    | bool => simp at hd; subst hd; obtain ⟨u, e, _, r⟩ := h1.get0 (i := 0) rfl; simp at e; subst e; exact r
    | str => simp at hd; subst hd; obtain ⟨u, e, _, r⟩ := h1.get0 (i := 0) rfl; simp at e; subst e; exact r
    | slice => simp at hd; subst hd; obtain ⟨u, e, _, r⟩ := h1.get0 (i := 0) rfl; simp at e; subst e; exact r
    | struct h _ _ => rw [ht] at h; simp only [Option.some.injEq, TI.mk.injEq] at h; rw [TI.agg, h.1] at hagg; simp at hagg
  · simp only [hagg, cond_true, Option.some.injEq] at hd
    subst hd
    have : ∃ cs, v = .agg cs := by
      unfold Value.okWide at hval
      rw [hu] at hval
      cases dd <;> simp [TI.agg, tkOf] at hagg
      · obtain ⟨cs, h, _⟩ := hval; exact ⟨cs, h⟩
      · obtain ⟨cs, h, _⟩ := hval; exact ⟨cs, h⟩
    obtain ⟨cs, rfl⟩ := this
    exact .g h1

end

theorem list_of_each {α β : Type} {f : α → β} {p : α → Prop} : ∀ {xs : List β}, (∀ x ∈ xs, ∃ a, p a ∧ x = f a) → ∃ l : List α, xs = l.map f ∧ ∀ a ∈ l, p a
  | [], _ => ⟨[], rfl, by simp⟩
  | x :: xs, h => by
    obtain ⟨a, hp, rfl⟩ := h x (by simp)
    obtain ⟨l, e, hl⟩ := list_of_each (f := f) (p := p) (xs := xs) (fun y hy => h y (by simp [hy]))
    subst e
    exact ⟨a :: l, rfl, by simpa using ⟨hp, hl⟩⟩

/-! closing a law -/

theorem Ext.below {W W' : World} (X : Ext W W') : RowKit.Below W.heap.size W W' := ⟨X.os, X.tape, X.output, X.size, fun k hk => X.same k hk⟩

open ChangeShapes in
theorem law_post {H : Type} {enc : TypeId × Value → H} {P : Program} {f : Func} {s : ChangeSpec} {W W' : World} {args : Array Value} {ds gs : List (DataW H)} {before : List MemPlace} {tb : TypeId} (hl : laidOutB P = true) (hr : ∀ t ∈ f.params.toList, P.readableRec t = true ∧ t < P.types.size)
    (hvars : s.vars = []) (hrt : f.resultTypes = #[tb]) (htb : P.underlying tb = some .bool) (hsp : (s.fn H (ds ++ gs)).results = [.lit (.bool true)] ∧ (s.fn H (ds ++ gs)).args = ds ∧ (s.fn H (ds ++ gs)).vars = [])
    (hW : DataW.Whole enc P f.params.toList s.vars false W args.toList ds gs before) (X : Ext W W') : s.post enc P f false true false false W args (.bool true) W' := by
  obtain ⟨p, q, hA, hV, hps, hfz, _⟩ := id hW
  have hlt : ∀ x ∈ p, x.block < W.heap.size := fun x hx => hW.lt x (by rw [hps]; exact List.mem_append_left _ hx)
  rw [hvars] at hV
  obtain ⟨_, hq⟩ := trodVars_none hV
  have stay : ∀ {ts : List TypeId} {vs : List Value} {ds : List (DataW H)} {p : List MemPlace}, (∀ t ∈ ts, P.readableRec t = true ∧ t < P.types.size) → (∀ x ∈ p, x.block < W.heap.size) → DataW.TrodAll enc P W 0 (fun _ => true) true ts vs ds p →
      DataW.TrodAll enc P W' 0 (fun b => decide (b < W.heap.size)) true ts vs ds p := by
    intro ts
    induction ts with
    | nil =>
      intro vs ds p _ _ h
      cases vs <;> cases ds <;> simp_all [DataW.TrodAll]
    | cons t ts ih =>
      intro vs ds p hts hlt h
      cases vs with
      | nil => simp [DataW.TrodAll] at h
      | cons v vs =>
        cases ds with
        | nil => simp [DataW.TrodAll] at h
        | cons d ds =>
          obtain ⟨p1, p2, h1, h2, rfl⟩ := h
          exact ⟨p1, p2, RowKit.Below.trod hl (hts t (by simp)).1 (hts t (by simp)).2 h1 X.below (fun x hx => hlt x (List.mem_append_left _ hx)), ih (fun t ht => hts t (by simp [ht])) (fun x hx => hlt x (List.mem_append_right _ hx)) h2, rfl⟩
  refine ⟨ds, gs, before, [], p, [], hW, ?_, ?_, ?_, X.below.frame _, fun h => by cases h⟩
  · rw [hsp.1, hrt]
    exact ⟨[], [], RowKit.shut_bool htb true, rfl, rfl⟩
  · rw [hsp.2.1]; exact stay hr hlt hA
  · rw [hvars, hsp.2.2]; rfl

end Go.AM
end

section
namespace Go.AM

/-! words for the plain laws -/

theorem opt_t {α : Type} (d : α) (m : Option α) : opt true d m = m := rfl
theorem opt_f {α : Type} (d : α) (m : Option α) : opt false d m = some d := rfl
theorem need_t : need true = some () := rfl
theorem w64_in {n : Int} (h : -9223372036854775808 ≤ n ∧ n ≤ 9223372036854775807) : w64 n = n := inI_i64 h
theorem bnd {α β : Type} {o : Option α} {x : α} {f : α → Option β} (h : o = some x) : o.bind f = f x := by rw [h]; rfl
theorem fits_of {B n : Nat} (h : 2 * n * B ≤ 281474976710656) : fitsB B n = true := Nat.ble_eq_true_of_le h
theorem getI_lt_some {α : Type} {l : List α} {k : Nat} (h : k < l.length) : getI l (k : Int) = some l[k] := by rw [getI_nat]; exact List.getElem?_eq_getElem h
theorem getI_of {α : Type} {l : List α} {i : Int} {k : Nat} (hi : i = (k : Int)) : getI l i = l[k]? := by subst hi; exact getI_nat l k
theorem getI_pre {α : Type} (pre : List α) (y : α) (ys : List α) {i : Int} (hi : i = (pre.length : Int)) : getI (pre ++ y :: ys) i = some y := by
  rw [getI_of hi]; simp
theorem sliceHi_pre {α : Type} (pre ys : List α) {i : Int} (hi : i = (pre.length : Int)) : sliceHi (pre ++ ys) i = some pre := by
  subst hi
  unfold sliceHi
  rw [if_pos ⟨by omega, by simp only [List.length_append]; omega⟩]
  simp
theorem sliceHi_of {α : Type} {l : List α} {i : Int} {k : Nat} (hi : i = (k : Int)) (hk : k ≤ l.length) : sliceHi l i = some (l.take k) := by
  subst hi; unfold sliceHi; rw [if_pos ⟨by omega, by omega⟩]; simp
theorem sliceLo_of {α : Type} {l : List α} {i : Int} {k : Nat} (hi : i = (k : Int)) (hk : k ≤ l.length) : sliceLo l i = some (l.drop k) := by
  subst hi; unfold sliceLo; rw [if_pos ⟨by omega, by omega⟩]; simp

/-- a loop that fills a made row -/
theorem set_step {α : Type} (pre : List α) (z y : α) (n : Nat) : (pre ++ List.replicate (n + 1) z).set ((pre.length : Int).toNat) y = (pre ++ [y]) ++ List.replicate n z := by
  simp [List.set_append, List.replicate_succ]

def inR (n : Int) : Prop := -9223372036854775808 ≤ n ∧ n ≤ 9223372036854775807
theorem inR_of {n : Int} (h : (Lit.int .i64 n).wf = true) : inR n := by
  have := h
  simp [Lit.wf, IntKind.min, IntKind.max, IntKind.signed, IntKind.bits] at this
  unfold inR
  omega
theorem le_sum {α : Type} {l : List α} {x : α} (h : x ∈ l) (f : α → Nat) : f x ≤ (l.map f).sum := by
  induction l with
  | nil => simp at h
  | cons y l ih =>
    simp only [List.map_cons, List.sum_cons]
    rcases List.mem_cons.1 h with rfl | h
    · omega
    · have := ih h; omega
/-- returns a bool that says P -/
def Ret (o : Option Bool) (P : Prop) : Prop := ∃ b, o = some b ∧ (b = true ↔ P)
theorem Ret.same {o o' : Option Bool} {P P' : Prop} (h : Ret o P) (h' : Ret o' P') (e : P ↔ P') : ∃ b, o = some b ∧ o' = some b := by
  obtain ⟨b, h1, h2⟩ := h
  obtain ⟨b', h3, h4⟩ := h'
  have : b = b' := Bool.eq_iff_iff.2 (h2.trans (e.trans h4.symm))
  subst this
  exact ⟨b, h1, h3⟩
theorem Ret.iff {o : Option Bool} {P P' : Prop} (h : Ret o P) (e : P ↔ P') : Ret o P' := by obtain ⟨b, h1, h2⟩ := h; exact ⟨b, h1, h2.trans e⟩
theorem Ret.some {b : Bool} {P : Prop} (h : b = true ↔ P) : Ret (Option.some b) P := ⟨b, rfl, h⟩
theorem Ret.f {P : Prop} (h : ¬ P) : Ret (Option.some false) P := ⟨false, rfl, by simp [h]⟩
theorem Ret.t {P : Prop} (h : P) : Ret (Option.some true) P := ⟨true, rfl, by simp [h]⟩
theorem Ret.bind {o : Option Bool} {P : Prop} (h : Ret o P) {β : Type} {k : Bool → Option β} {Q : Option β → Prop} (ht : P → Q (k true)) (hf : ¬ P → Q (k false)) : Q (o.bind k) := by
  obtain ⟨b, h1, h2⟩ := h
  subst h1
  cases b
  · exact hf (fun hp => by simpa using h2.2 hp)
  · exact ht (h2.1 rfl)

theorem Ret.bindR {o : Option Bool} {P R : Prop} (h : Ret o P) {k : Bool → Option Bool} (ht : P → Ret (k true) R) (hf : ¬ P → Ret (k false) R) : Ret (o.bind k) R := h.bind (Q := fun o => Ret o R) ht hf
theorem Ret.condR {b : Bool} {x y : Option Bool} {R : Prop} (ht : b = true → Ret x R) (hf : b = false → Ret y R) : Ret (cond b x y) R := by
  cases b
  · exact hf rfl
  · exact ht rfl
theorem Ret.dcond {P : Prop} [Decidable P] {x y : Option Bool} {R : Prop} (ht : P → Ret x R) (hf : ¬ P → Ret y R) : Ret (cond (decide P) x y) R := .condR (fun h => ht (of_decide_eq_true h)) (fun h => hf (of_decide_eq_false h))

theorem getI_app {α : Type} {l pre ys : List α} {y : α} {i : Int} (hl : l = pre ++ y :: ys) (hi : i = (pre.length : Int)) : getI l i = some y := by subst hl; exact getI_pre pre y ys hi
theorem w64_pred {k : Nat} (h : k ≤ 9223372036854775807) : w64 (((k + 1 : Nat) : Int) - 1) = (k : Int) := by rw [w64_in (by omega)]; omega
theorem pos_d {k : Nat} : decide (((k + 1 : Nat) : Int) > 0) = true := decide_eq_true (by omega)
theorem zero_d : decide (((0 : Nat) : Int) > 0) = false := rfl

/-- one more behind a list in order -/
theorem pw_snoc {α : Type} {R : α → α → Prop} (tr : ∀ a b c, R a b → R b c → R a c) {pre : List α} {y : α} (hp : pre.Pairwise R) (hl : ∀ l, pre.getLast? = some l → R l y) : (pre ++ [y]).Pairwise R := by
  rw [List.pairwise_append]
  refine ⟨hp, List.pairwise_singleton _ _, fun a ha b hb => ?_⟩
  obtain rfl := List.mem_singleton.1 hb
  rcases List.eq_nil_or_concat pre with rfl | ⟨q, l, rfl⟩
  · simp at ha
  · have hlb := hl l (by simp)
    simp only [List.concat_eq_append] at ha hp
    rcases List.mem_append.1 ha with h | h
    · exact tr _ _ _ ((List.pairwise_append.1 hp).2.2 a h l (by simp)) hlb
    · obtain rfl := List.mem_singleton.1 h; exact hlb

end Go.AM
end

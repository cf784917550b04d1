/- Plain lemmas: what the functions compute is what the reference says, in plain Lean. No condition. -/
import Derived.Test.YtegdphhfimaieacGreatPSame2
set_option maxRecDepth 4000
set_option maxHeartbeats 1000000
set_option linter.unusedVariables false
set_option linter.unusedSimpArgs false
set_option linter.unusedSectionVars false

namespace Go.Proofs.YtegdphhfimaieacGreat
open Go.AM

def ch : Nat → Nat → Nat
  | _, 0 => 1
  | 0, _ + 1 => 0
  | n + 1, k + 1 => ch n k + ch n (k + 1)
theorem ch_0 (n : Nat) : ch n 0 = 1 := by cases n <;> rfl
theorem ch_gt : ∀ (n k : Nat), n < k → ch n k = 0
  | _, 0, h => by omega
  | 0, _ + 1, _ => rfl
  | n + 1, k + 1, h => by rw [ch, ch_gt n k (by omega), ch_gt n (k + 1) (by omega)]
theorem ch_le : ∀ (n k : Nat), ch n k ≤ 2 ^ n
  | n, 0 => by rw [ch_0]; exact Nat.one_le_two_pow
  | 0, _ + 1 => Nat.zero_le _
  | n + 1, k + 1 => by rw [ch, Nat.pow_succ]; have := ch_le n k; have := ch_le n (k + 1); omega
theorem ch_mul : ∀ (n k : Nat), ch n (k + 1) * (k + 1) = ch n k * (n - k)
  | 0, k => by simp [ch]
  | n + 1, 0 => by
    have := ch_mul n 0
    show (ch n 0 + ch n (0 + 1)) * (0 + 1) = ch (n + 1) 0 * (n + 1 - 0)
    rw [ch_0] at this ⊢
    rw [ch_0]
    simp only [Nat.zero_add, Nat.mul_one, Nat.one_mul, Nat.sub_zero] at this ⊢
    omega
  | n + 1, k + 1 => by
    have h1 := ch_mul n (k + 1)
    have h2 := ch_mul n k
    rw [ch, ch]
    by_cases hk : k + 1 ≤ n
    · obtain ⟨d, rfl⟩ : ∃ d, n = k + 1 + d := ⟨n - (k + 1), by omega⟩
      rw [show k + 1 + d - (k + 1) = d from by omega] at h1
      rw [show k + 1 + d - k = d + 1 from by omega] at h2
      rw [show k + 1 + d + 1 - (k + 1) = d + 1 from by omega, Nat.add_mul, Nat.add_mul, h1, ← h2, ← Nat.mul_add, ← Nat.mul_add]
      congr 1
      omega
    · have e1 : ch n (k + 1) = 0 := ch_gt n (k + 1) (by omega)
      have e2 : ch n (k + 1 + 1) = 0 := ch_gt n (k + 1 + 1) (by omega)
      rw [e1, e2, show n + 1 - (k + 1) = 0 from by omega]
      simp
def sumN (f : Nat → Nat) : Nat → Nat
  | 0 => 0
  | n + 1 => sumN f n + f n
theorem sumN_congr {f g : Nat → Nat} : ∀ {n : Nat}, (∀ k, k < n → f k = g k) → sumN f n = sumN g n
  | 0, _ => rfl
  | n + 1, h => by rw [sumN, sumN, sumN_congr (fun k hk => h k (by omega)), h n (by omega)]
theorem sumN_add (f g : Nat → Nat) : ∀ n : Nat, sumN (fun k => f k + g k) n = sumN f n + sumN g n
  | 0 => rfl
  | n + 1 => by rw [sumN, sumN, sumN, sumN_add f g n]; omega
theorem sumN_0 (n : Nat) : sumN (fun _ => 0) n = 0 := by
  induction n with
  | zero => rfl
  | succ n ih => rw [sumN, ih]
theorem sumN_pascal (s : Nat) (X : Nat → Nat) : ∀ t : Nat, sumN (fun k => ch (s + 1) k * X k) (t + 1) = sumN (fun k => ch s k * X k) (t + 1) + sumN (fun k => ch s k * X (k + 1)) t
  | 0 => by simp [sumN, ch_0]
  | t + 1 => by
    rw [sumN, sumN_pascal s X t]
    conv => rhs; rw [sumN]
    conv => rhs; rw [show sumN (fun k => ch s k * X (k + 1)) (t + 1) = sumN (fun k => ch s k * X (k + 1)) t + ch s t * X (t + 1) from rfl]
    rw [ch, Nat.add_mul]
    omega
def cof : List (Nat × Nat) → Nat → Nat
  | [], j => if j = 0 then 1 else 0
  | x :: r, j => sumN (fun k => ch x.1 k * cof r (j - k)) (min x.2 j + 1)
theorem cof_zero : ∀ (l : List (Nat × Nat)) (j : Nat), (∀ x ∈ l, x.1 = 0) → cof l j = if j = 0 then 1 else 0
  | [], j, _ => rfl
  | x :: r, j, h => by
    have hx := h x (by simp)
    have hr := cof_zero r j (fun y hy => h y (by simp [hy]))
    rw [cof, hx]
    have : ∀ n, sumN (fun k => ch 0 k * cof r (j - k)) (n + 1) = cof r j := by
      intro n
      induction n with
      | zero => simp [sumN, ch_0]
      | succ n ih => rw [sumN, ih, ch, Nat.zero_mul, Nat.add_zero]
    rw [this, hr]
theorem cof_set : ∀ (l : List (Nat × Nat)) (c s m j : Nat), l[c]? = some (s + 1, m) → cof l j = cof (l.set c (s, m)) j + if 1 ≤ m ∧ 1 ≤ j then cof (l.set c (s, m - 1)) (j - 1) else 0 := by
  intro l
  induction l with
  | nil => intro c s m j h; simp at h
  | cons x r ih =>
    intro c s m j h
    cases c with
    | zero =>
      simp only [List.getElem?_cons_zero, Option.some.injEq] at h
      subst h
      rw [List.set_cons_zero, List.set_cons_zero, cof, cof, cof]
      dsimp only
      rw [sumN_pascal s (fun k => cof r (j - k)) (min m j)]
      congr 1
      by_cases hc : 1 ≤ m ∧ 1 ≤ j
      · rw [if_pos hc, show min (m - 1) (j - 1) + 1 = min m j from by omega]
        exact sumN_congr fun k hk => by rw [show j - (k + 1) = j - 1 - k from by omega]
      · rw [if_neg hc, show min m j = 0 from by omega]; rfl
    | succ c =>
      simp only [List.getElem?_cons_succ] at h
      rw [List.set_cons_succ, List.set_cons_succ, cof, cof, cof]
      have e : ∀ k, ch x.1 k * cof r (j - k) = ch x.1 k * cof (r.set c (s, m)) (j - k) + ch x.1 k * (if 1 ≤ m ∧ 1 ≤ j - k then cof (r.set c (s, m - 1)) (j - k - 1) else 0) := by
        intro k
        rw [ih c s m (j - k) h, Nat.mul_add]
      rw [sumN_congr (fun k _ => e k), sumN_add]
      congr 1
      by_cases hc : 1 ≤ m ∧ 1 ≤ j
      · rw [if_pos hc]
        by_cases hj : x.2 ≤ j - 1
        · rw [show min x.2 j + 1 = min x.2 (j - 1) + 1 from by omega]
          exact sumN_congr fun k hk => by rw [if_pos (by omega), show j - k - 1 = j - 1 - k from by omega]
        · rw [show min x.2 j + 1 = (min x.2 (j - 1) + 1) + 1 from by omega, sumN, if_neg (by omega), Nat.mul_zero, Nat.add_zero]
          exact sumN_congr fun k hk => by rw [if_pos (by omega), show j - k - 1 = j - 1 - k from by omega]
      · rw [if_neg hc]
        refine (sumN_congr fun k hk => ?_).trans (sumN_0 _)
        rw [if_neg (by omega)]; rfl
def cntS (P : List Int → Bool) : List Int → Nat
  | [] => cond (P []) 1 0
  | y :: ys => cntS (fun q => P (y :: q)) ys + cntS P ys
theorem cntS_congr : ∀ (l : List Int) {P Q : List Int → Bool}, (∀ q, q.Sublist l → P q = Q q) → cntS P l = cntS Q l
  | [], P, Q, h => by rw [cntS, cntS, h [] (List.Sublist.refl _)]
  | y :: l, P, Q, h => by
    rw [cntS, cntS, cntS_congr l (fun q hq => h (y :: q) (hq.cons_cons y)), cntS_congr l (fun q hq => h q (hq.cons y))]
theorem cntS_false : ∀ l : List Int, cntS (fun _ => false) l = 0
  | [] => rfl
  | y :: l => by rw [cntS, cntS_false l]
def ccnt (cl : Int → Nat) (q : List Int) (c : Nat) : Nat := (q.filter fun x => decide (cl x = c)).length
theorem ccnt_cons (cl : Int → Nat) (y : Int) (q : List Int) (c : Nat) : ccnt cl (y :: q) c = ccnt cl q c + if cl y = c then 1 else 0 := by
  unfold ccnt
  by_cases h : cl y = c
  · rw [List.filter_cons_of_pos (by simpa using h), if_pos h, List.length_cons]
  · rw [List.filter_cons_of_neg (by simpa using h), if_neg h]; rfl
def goodQ (cl : Int → Nat) (caps : Nat → Nat) (j : Nat) (q : List Int) : Bool := decide (q.length = j) && (List.range 21).all fun c => decide (ccnt cl q c ≤ caps c)
theorem goodQ_iff {cl : Int → Nat} {caps : Nat → Nat} {j : Nat} {q : List Int} : goodQ cl caps j q = true ↔ (q.length = j ∧ ∀ c, c < 21 → ccnt cl q c ≤ caps c) := by
  unfold goodQ
  rw [Bool.and_eq_true, decide_eq_true_eq, List.all_eq_true]
  simp only [List.mem_range, decide_eq_true_eq]
def tabQ (cl : Int → Nat) (E : List Int) (caps : Nat → Nat) : List (Nat × Nat) := (List.range 21).map fun c => (ccnt cl E c, caps c)
theorem tabQ_at (cl : Int → Nat) (E : List Int) (caps : Nat → Nat) {c : Nat} (h : c < 21) : (tabQ cl E caps)[c]? = some (ccnt cl E c, caps c) := by
  unfold tabQ
  rw [List.getElem?_map, List.getElem?_range h]; rfl
theorem tabQ_set (cl : Int → Nat) (y : Int) (E : List Int) (caps caps' : Nat → Nat) (hc : ∀ c, c ≠ cl y → caps' c = caps c) : (tabQ cl (y :: E) caps).set (cl y) (ccnt cl E (cl y), caps' (cl y)) = tabQ cl E caps' := by
  apply List.ext_getElem?
  intro i
  rw [List.getElem?_set]
  by_cases hi : i < 21
  · rw [tabQ_at cl E caps' hi]
    split
    · rename_i e
      subst e
      rw [if_pos (by unfold tabQ; simp; omega)]
    · rename_i e
      rw [tabQ_at cl _ caps hi, ccnt_cons, if_neg (fun h => e h), hc i (fun h => e h.symm)]; rfl
  · have h1 : (tabQ cl E caps')[i]? = none := List.getElem?_eq_none (by unfold tabQ; simp; omega)
    have h2 : (tabQ cl (y :: E) caps)[i]? = none := List.getElem?_eq_none (by unfold tabQ; simp; omega)
    rw [h1, h2]
    split
    · rw [if_neg (by unfold tabQ; simp; omega)]
    · rfl
theorem cntS_cof (cl : Int → Nat) : ∀ (E : List Int) (caps : Nat → Nat) (j : Nat), (∀ x ∈ E, cl x < 21) → cntS (goodQ cl caps j) E = cof (tabQ cl E caps) j := by
  intro E
  induction E with
  | nil =>
    intro caps j _
    rw [cof_zero _ j (fun x hx => by
      unfold tabQ at hx
      obtain ⟨c, _, rfl⟩ := List.mem_map.1 hx
      rfl), cntS]
    by_cases hj : j = 0
    · subst hj
      have : goodQ cl caps 0 [] = true := goodQ_iff.2 ⟨rfl, fun c _ => Nat.zero_le _⟩
      rw [if_pos rfl, this]; rfl
    · rw [if_neg hj]
      cases hg : goodQ cl caps j []
      · rfl
      · exact absurd (goodQ_iff.1 hg).1.symm hj
  | cons y E ih =>
    intro caps j h
    have hy := h y (by simp)
    have hE := fun x hx => h x (List.mem_cons_of_mem y hx)
    have hat : (tabQ cl (y :: E) caps)[cl y]? = some (ccnt cl E (cl y) + 1, caps (cl y)) := by
      rw [tabQ_at cl _ caps hy, ccnt_cons, if_pos rfl]
    rw [cntS, cof_set _ (cl y) _ _ j hat, tabQ_set cl y E caps caps (fun _ _ => rfl), ← ih caps j hE]
    rw [Nat.add_comm]
    congr 1
    let caps' : Nat → Nat := fun c => if c = cl y then caps c - 1 else caps c
    have hc1 : caps' (cl y) = caps (cl y) - 1 := if_pos rfl
    have hc2 : ∀ c, c ≠ cl y → caps' c = caps c := fun c hc => if_neg hc
    by_cases hg : 1 ≤ caps (cl y) ∧ 1 ≤ j
    · rw [if_pos hg, ← hc1, tabQ_set cl y E caps caps' hc2, ← ih caps' (j - 1) hE]
      refine cntS_congr E fun q _ => ?_
      rw [Bool.eq_iff_iff, goodQ_iff, goodQ_iff]
      constructor
      · rintro ⟨k1, k2⟩
        simp only [List.length_cons] at k1
        refine ⟨by omega, fun c hc => ?_⟩
        have := k2 c hc
        rw [ccnt_cons] at this
        by_cases e : c = cl y
        · subst e; rw [if_pos rfl] at this; rw [hc1]; omega
        · rw [hc2 c e]; split at this <;> omega
      · rintro ⟨k1, k2⟩
        refine ⟨by simp only [List.length_cons]; omega, fun c hc => ?_⟩
        have := k2 c hc
        rw [ccnt_cons]
        by_cases e : c = cl y
        · subst e; rw [hc1] at this; rw [if_pos rfl]; omega
        · rw [hc2 c e] at this; rw [if_neg (fun h => e h.symm)]; omega
    · rw [if_neg hg]
      refine (cntS_congr E (Q := fun _ => false) fun q _ => ?_).trans (cntS_false E)
      cases hq : goodQ cl caps j (y :: q)
      · rfl
      obtain ⟨k1, k2⟩ := goodQ_iff.1 hq
      simp only [List.length_cons] at k1
      have := k2 (cl y) hy
      rw [ccnt_cons, if_pos rfl] at this
      exact absurd ⟨by omega, by omega⟩ hg
def selB : Nat → List Int → List Int
  | _, [] => []
  | s, y :: ys => cond (s % 2 == 1) (y :: selB (s / 2) ys) (selB (s / 2) ys)
def totN (f : Nat → Bool) (n : Nat) : Nat := sumN (fun s => cond (f s) 1 0) n
theorem sumN_double (f : Nat → Nat) : ∀ n : Nat, sumN f (2 * n) = sumN (fun s => f (2 * s)) n + sumN (fun s => f (2 * s + 1)) n
  | 0 => rfl
  | n + 1 => by
    rw [show 2 * (n + 1) = 2 * n + 1 + 1 from by omega, sumN, sumN, sumN_double f n, sumN, sumN]
    omega
theorem totN_sel : ∀ (l : List Int) (P : List Int → Bool), totN (fun s => P (selB s l)) (2 ^ l.length) = cntS P l
  | [], P => by simp [totN, sumN, selB, cntS]
  | y :: l, P => by
    unfold totN
    rw [List.length_cons, Nat.pow_succ, Nat.mul_comm, sumN_double, cntS, Nat.add_comm]
    congr 1
    · rw [← totN_sel l (fun q => P (y :: q))]
      refine sumN_congr fun s _ => ?_
      dsimp only
      rw [selB, show ((2 * s + 1) % 2 == 1) = true from by simp, cond_true, show (2 * s + 1) / 2 = s from by omega]
    · rw [← totN_sel l P]
      refine sumN_congr fun s _ => ?_
      dsimp only
      rw [selB, show ((2 * s) % 2 == 1) = false from by simp, cond_false, Nat.mul_div_cancel_left s (by decide : 0 < 2)]
theorem selB_sub : ∀ (l : List Int) (s : Nat), (selB s l).Sublist l
  | [], s => by rw [selB]; exact List.Sublist.refl _
  | y :: l, s => by
    rw [selB]
    cases s % 2 == 1
    · exact (selB_sub l (s / 2)).cons y
    · exact (selB_sub l (s / 2)).cons_cons y
theorem totN_le (f : Nat → Bool) : ∀ n : Nat, totN f n ≤ n := by
  intro n
  unfold totN
  induction n with
  | zero => exact Nat.le_refl _
  | succ n ih => rw [sumN]; cases f n <;> simp <;> omega
def linG (g : Nat → Nat) : List Nat → Nat → Nat
  | [], _ => 0
  | x :: v, i => x * g i + linG g v (i + 1)
theorem linG_set (g : Nat → Nat) : ∀ (v : List Nat) (i k a x : Nat), v[k]? = some a → linG g (v.set k (a + x)) i = linG g v i + x * g (i + k) := by
  intro v
  induction v with
  | nil => intro i k a x h; simp at h
  | cons y v ih =>
    intro i k a x h
    cases k with
    | zero =>
      simp only [List.getElem?_cons_zero, Option.some.injEq] at h
      subst h
      rw [List.set_cons_zero, linG, linG, Nat.add_mul, Nat.add_zero]
      generalize x * g i = p
      omega
    | succ k =>
      simp only [List.getElem?_cons_succ] at h
      rw [List.set_cons_succ, linG, linG, ih (i + 1) k a x h, show i + 1 + k = i + (k + 1) from by omega]; omega
theorem linG_zero (g : Nat → Nat) : ∀ (n i : Nat), linG g (List.replicate n 0) i = 0
  | 0, _ => rfl
  | n + 1, i => by rw [List.replicate_succ, linG, linG_zero g n (i + 1), Nat.zero_mul]
theorem linG_ge (g : Nat → Nat) : ∀ (v : List Nat) (i k a : Nat), v[k]? = some a → a * g (i + k) ≤ linG g v i := by
  intro v
  induction v with
  | nil => intro i k a h; simp at h
  | cons y v ih =>
    intro i k a h
    cases k with
    | zero =>
      simp only [List.getElem?_cons_zero, Option.some.injEq] at h
      subst h
      rw [linG, Nat.add_zero]; omega
    | succ k =>
      simp only [List.getElem?_cons_succ] at h
      have := ih (i + 1) k a h
      rw [linG, show i + (k + 1) = i + 1 + k from by omega]; omega

end Go.Proofs.YtegdphhfimaieacGreat

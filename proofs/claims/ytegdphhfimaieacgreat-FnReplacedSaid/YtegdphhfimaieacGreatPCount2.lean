/- Plain lemmas: what the functions compute is what the reference says, in plain Lean. No condition. -/
import Derived.Test.YtegdphhfimaieacGreatPCount1
set_option maxRecDepth 4000
set_option maxHeartbeats 1000000
set_option linter.unusedVariables false
set_option linter.unusedSimpArgs false
set_option linter.unusedSectionVars false

namespace Go.Proofs.YtegdphhfimaieacGreat
open Go.AM

def encN (v : List Nat) : List Int := v.map fun x : Nat => (x : Int)
theorem choose_l (s k : Nat) (hs : s ≤ 14) (hk : k ≤ 14) : ∀ (m i fuel : Nat), i + m = k → m < fuel → impl_choose_l1 (s : Int) (k : Int) fuel (ch s i : Int) (i : Int) = some (ch s k : Int) := by
  have hc : ∀ i, ch s i ≤ 16384 := fun i => by
    have h1 := ch_le s i
    have h2 : 2 ^ s ≤ 2 ^ 14 := Nat.pow_le_pow_right (by omega) hs
    have h3 : (2 : Nat) ^ 14 = 16384 := rfl
    omega
  intro m
  induction m with
  | zero =>
    intro i fuel h hf
    obtain ⟨f, rfl⟩ := Nat.exists_eq_succ_of_ne_zero (by omega : fuel ≠ 0)
    obtain rfl : i = k := by omega
    rw [impl_choose_l1, decide_eq_false (by omega), cond_false]
  | succ m ih =>
    intro i fuel h hf
    obtain ⟨f, rfl⟩ := Nat.exists_eq_succ_of_ne_zero (by omega : fuel ≠ 0)
    have h1 := hc i
    have h2 := hc (i + 1)
    have hstep : w64 ((w64 ((ch s i : Int) * (w64 ((s : Int) - (i : Int))))).tdiv (w64 ((i : Int) + 1))) = (ch s (i + 1) : Int) := by
      rw [w64_in (n := (s : Int) - (i : Int)) (by omega), w64_in (n := (i : Int) + 1) (by omega)]
      have hm := ch_mul s i
      by_cases hi : i ≤ s
      · obtain ⟨d, rfl⟩ : ∃ d, s = i + d := ⟨s - i, by omega⟩
        rw [show i + d - i = d from by omega] at hm
        have e : (ch (i + d) i : Int) * (((i + d : Nat) : Int) - (i : Int)) = (ch (i + d) (i + 1) : Int) * ((i : Int) + 1) := by
          rw [show ((i + d : Nat) : Int) - (i : Int) = (d : Int) from by omega]
          have := congrArg (fun z : Nat => (z : Int)) hm.symm
          simpa only [Int.natCast_mul, Int.natCast_add, Int.natCast_one] using this
        have hb : (ch (i + d) (i + 1) : Int) * ((i : Int) + 1) ≤ 16384 * 15 := by
          exact Int.mul_le_mul (by omega) (by omega) (by omega) (by omega)
        have hb0 : 0 ≤ (ch (i + d) (i + 1) : Int) * ((i : Int) + 1) := Int.mul_nonneg (by omega) (by omega)
        rw [e, w64_in (n := (ch (i + d) (i + 1) : Int) * ((i : Int) + 1)) (by omega), Int.mul_tdiv_cancel _ (by omega), w64_in (by omega)]
      · rw [ch_gt s i (by omega), ch_gt s (i + 1) (by omega)]
        simp only [Int.natCast_zero, Int.zero_mul]
        rw [w64_in (n := 0) (by omega), Int.zero_tdiv, w64_in (by omega)]
    rw [impl_choose_l1, decide_eq_true (by omega), cond_true, hstep, w64_in (n := (i : Int) + 1) (by omega), show need ((i : Int) + 1 != 0) = some () from by rw [show ((i : Int) + 1 != 0) = true from by rw [bne_iff_ne]; omega]; rfl, Option.bind_some]
    have := ih (i + 1) f (by omega) (by omega)
    rw [show ((i + 1 : Nat) : Int) = (i : Int) + 1 from by omega] at this
    exact this
theorem choose_eq (s k : Nat) (hs : s ≤ 14) (hk : k ≤ 14) (fuel : Nat) (hf : 20 < fuel) : impl_choose_p fuel (s : Int) (k : Int) = some (ch s k : Int) := by
  unfold impl_choose_p
  have := choose_l s k hs hk k 0 fuel (by omega) (by omega)
  rw [ch_0] at this
  exact this
theorem sumN_le {f : Nat → Nat} : ∀ {n m : Nat}, n ≤ m → sumN f n ≤ sumN f m
  | n, 0, h => by obtain rfl : n = 0 := by omega
                  exact Nat.le_refl _
  | n, m + 1, h => by
    by_cases e : n = m + 1
    · rw [e]; exact Nat.le_refl _
    · have := sumN_le (f := f) (n := n) (m := m) (by omega)
      rw [sumN]; omega
theorem sumN_ch : ∀ (n t : Nat), sumN (fun k => ch n k) t ≤ 2 ^ n
  | 0, t => by
    have : ∀ t, sumN (fun k => ch 0 k) t ≤ 1 := by
      intro t
      induction t with
      | zero => exact Nat.zero_le _
      | succ t ih =>
        cases t with
        | zero => simp [sumN, ch_0]
        | succ t => rw [sumN, ch]; omega
    simpa using this t
  | n + 1, 0 => Nat.zero_le _
  | n + 1, t + 1 => by
    have h := sumN_pascal n (fun _ => 1) t
    simp only [Nat.mul_one] at h
    rw [h, Nat.pow_succ]
    have := sumN_ch n (t + 1)
    have := sumN_ch n t
    omega
theorem getI_encN {v : List Nat} {i : Int} {k a : Nat} (hi : i = (k : Int)) (h : v[k]? = some a) : getI (encN v) i = some (a : Int) := by
  rw [getI_of hi]
  unfold encN
  rw [List.getElem?_map, h]; rfl
theorem count_l3 (most n s h x : Nat) (hs : s ≤ 14) (hn : n ≤ 9) (hm : most ≤ 9) (hh : h ≤ n) (fuel : Nat) (hf : 1048576 < fuel) (y : Int) (hy : y = (x : Int)) (L : (Nat → Nat) → Nat) (hB : L (fun _ => 1) + x * sumN (fun i => ch s i) (min (min s most) (n - h) + 1) ≤ 1048576) :
    ∀ (m k f : Nat) (v : List Nat), k + m = min (min s most) (n - h) + 1 → m < f → v.length = n + 1 → (∀ g, linG g v 0 = L g + x * sumN (fun i => ch s i * g (h + i)) k) →
    ∃ v', impl_CountPanels_l3 (most : Int) (n : Int) fuel (s : Int) h y f (encN v) (k : Int) = some (encN v') ∧ v'.length = n + 1 ∧ ∀ g, linG g v' 0 = L g + x * sumN (fun i => ch s i * g (h + i)) (min (min s most) (n - h) + 1) := by
  subst hy
  intro m
  induction m with
  | zero =>
    intro k f v hk hfm hv hL
    obtain ⟨f, rfl⟩ := Nat.exists_eq_succ_of_ne_zero (by omega : f ≠ 0)
    rw [impl_CountPanels_l3, w64_in (n := (n : Int) - (h : Int)) (by omega), decide_eq_false (by omega), cond_false]
    refine ⟨v, rfl, hv, fun g => ?_⟩
    rw [hL g, show k = min (min s most) (n - h) + 1 from by omega]
  | succ m ih =>
    intro k f v hk hfm hv hL
    obtain ⟨f, rfl⟩ := Nat.exists_eq_succ_of_ne_zero (by omega : f ≠ 0)
    have hkn : h + k < v.length := by omega
    have hat : v[h + k]? = some v[h + k] := List.getElem?_eq_getElem hkn
    generalize v[h + k] = a at hat
    have h1 := hL fun _ => 1
    have hle := linG_ge (fun _ => 1) v 0 (h + k) a hat
    simp only [Nat.mul_one] at h1 hle
    have hmono := Nat.mul_le_mul_left x (sumN_le (f := fun i => ch s i) (n := k + 1) (m := min (min s most) (n - h) + 1) (by omega))
    rw [sumN, Nat.mul_add] at hmono
    have hax : a + x * ch s k ≤ 1048576 := by omega
    have hxb : x * ch s k ≤ 1048576 := by omega
    rw [impl_CountPanels_l3, w64_in (n := (n : Int) - (h : Int)) (by omega), decide_eq_true (by omega), cond_true, w64_in (n := (h : Int) + (k : Int)) (by omega), bnd (getI_encN (k := h + k) (by omega) hat), bnd (choose_eq s k hs (by omega) fuel (by omega))]
    have e : w64 ((a : Int) + w64 ((x : Int) * (ch s k : Int))) = ((a + x * ch s k : Nat) : Int) := by
      have hc : (x : Int) * (ch s k : Int) = ((x * ch s k : Nat) : Int) := (Int.natCast_mul _ _).symm
      rw [hc, w64_in (n := ((x * ch s k : Nat) : Int)) (by omega), w64_in (by omega)]
      exact (Int.natCast_add _ _).symm
    have eset : (encN v).set ((h : Int) + (k : Int)).toNat (w64 ((a : Int) + w64 ((x : Int) * (ch s k : Int)))) = encN (v.set (h + k) (a + x * ch s k)) := by
      rw [e, show ((h : Int) + (k : Int)).toNat = h + k from by omega]
      unfold encN
      rw [List.map_set]
    rw [eset, w64_in (n := (k : Int) + 1) (by omega)]
    have := ih (k + 1) f (v.set (h + k) (a + x * ch s k)) (by omega) (by omega) (by rw [List.length_set]; exact hv) (fun g => by
      rw [linG_set g v 0 (h + k) a _ hat, hL g, sumN, Nat.mul_add, Nat.zero_add, Nat.mul_assoc]
      omega)
    rw [show ((k + 1 : Nat) : Int) = (k : Int) + 1 from by omega] at this
    exact this
theorem linG_app (g : Nat → Nat) : ∀ (a : List Nat) (y i : Nat), linG g (a ++ [y]) i = linG g a i + y * g (i + a.length)
  | [], y, i => by simp [linG]
  | x :: a, y, i => by
    rw [List.cons_append, linG, linG, linG_app g a y (i + 1), List.length_cons, show i + 1 + a.length = i + (a.length + 1) from by omega]
    omega
theorem linG_le {g g' : Nat → Nat} {B : Nat} (h : ∀ i, g i ≤ B * g' i) : ∀ (v : List Nat) (i : Nat), linG g v i ≤ B * linG g' v i
  | [], i => Nat.zero_le _
  | x :: v, i => by
    rw [linG, linG, Nat.mul_add]
    have := linG_le h v (i + 1)
    have h2 := Nat.mul_le_mul_left x (h i)
    rw [show B * (x * g' i) = x * (B * g' i) from by rw [← Nat.mul_assoc, ← Nat.mul_assoc, Nat.mul_comm B x]]
    omega
def stepS (s most n : Nat) (g : Nat → Nat) (h : Nat) : Nat := sumN (fun i => ch s i * g (h + i)) (min (min s most) (n - h) + 1)
theorem stepS_one (s most n h : Nat) : stepS s most n (fun _ => 1) h ≤ 2 ^ s := by
  unfold stepS
  simp only [Nat.mul_one]
  exact sumN_ch s _
theorem linG_pre (g : Nat → Nat) : ∀ (a b : List Nat) (i : Nat), linG g a i ≤ linG g (a ++ b) i
  | [], b, i => Nat.zero_le _
  | x :: a, b, i => by rw [List.cons_append, linG, linG]; have := linG_pre g a b (i + 1); omega
theorem count_l2 (most n s : Nat) (hs : s ≤ 14) (hn : n ≤ 9) (hm : most ≤ 9) (fuel : Nat) (hf : 1048576 < fuel) (w : List Nat) (hw : w.length = n + 1) (hB : 2 ^ s * linG (fun _ => 1) w 0 ≤ 1048576) : ∀ (ys pre v : List Nat), w = pre ++ ys → v.length = n + 1 → (∀ g, linG g v 0 = linG (stepS s most n g) pre 0) →
    ∃ v', impl_CountPanels_l2 (most : Int) (n : Int) fuel (s : Int) (encN ys) pre.length (encN v) = some (encN v') ∧ v'.length = n + 1 ∧ ∀ g, linG g v' 0 = linG (stepS s most n g) w 0 := by
  intro ys
  induction ys with
  | nil =>
    intro pre v h1 h2 h3
    rw [List.append_nil] at h1
    subst h1
    exact ⟨v, by unfold encN; rw [List.map_nil, impl_CountPanels_l2], h2, h3⟩
  | cons y ys ih =>
    intro pre v h1 h2 h3
    have hpl : pre.length ≤ n := by have := congrArg List.length h1; simp at this; omega
    have hone : ∀ h, stepS s most n (fun _ => 1) h ≤ 2 ^ s * (fun _ : Nat => 1) h := fun h => by rw [Nat.mul_one]; exact stepS_one s most n h
    have hbd : linG (stepS s most n fun _ => 1) pre 0 + y * sumN (fun i => ch s i) (min (min s most) (n - pre.length) + 1) ≤ 1048576 := by
      have e := linG_app (stepS s most n fun _ => 1) pre y 0
      rw [Nat.zero_add] at e
      have e2 : stepS s most n (fun _ => 1) pre.length = sumN (fun i => ch s i) (min (min s most) (n - pre.length) + 1) := by unfold stepS; simp only [Nat.mul_one]
      rw [e2] at e
      rw [← e]
      have h4 := linG_le hone (pre ++ [y]) 0
      have h5 := linG_pre (fun _ => 1) (pre ++ [y]) ys 0
      rw [List.append_assoc, List.singleton_append, ← h1] at h5
      have h6 := Nat.mul_le_mul_left (2 ^ s) h5
      omega
    obtain ⟨v', p1, p2, p3⟩ := count_l3 most n s pre.length y hs hn hm hpl fuel hf (y : Int) rfl (fun g => linG (stepS s most n g) pre 0) hbd (min (min s most) (n - pre.length) + 1) 0 fuel v (by omega) (by omega) h2 (fun g => by rw [h3 g]; simp [sumN])
    have hgo : encN (y :: ys) = (y : Int) :: encN ys := rfl
    rw [hgo, impl_CountPanels_l2, bnd (show impl_CountPanels_l3 (most : Int) (n : Int) fuel (s : Int) pre.length (y : Int) fuel (encN v) 0 = _ from p1)]
    have := ih (pre ++ [y]) v' (by rw [h1]; simp) p2 (fun g => by
      rw [p3 g, linG_app, Nat.zero_add]; rfl)
    rw [show (pre ++ [y]).length = pre.length + 1 from by simp] at this
    exact this
theorem step_cof (s most n : Nat) (r : List (Nat × Nat)) (h : Nat) : stepS s most n (fun j => cof r (n - j)) h = cof ((s, most) :: r) (n - h) := by
  unfold stepS
  rw [cof]
  dsimp only
  have e : ∀ t, sumN (fun i => ch s i * cof r (n - (h + i))) (min s t + 1) = sumN (fun i => ch s i * cof r (n - (h + i))) (t + 1) := by
    intro t
    induction t with
    | zero => simp
    | succ t ih =>
      by_cases hc : t + 1 ≤ s
      · rw [Nat.min_eq_right hc]
      · rw [show min s (t + 1) = min s t from by omega, ih, show t + 1 + 1 = (t + 1) + 1 from rfl]
        conv => rhs; rw [sumN]
        rw [ch_gt s (t + 1) (by omega), Nat.zero_mul]
        exact (Nat.add_zero _).symm
  rw [show min (min s most) (n - h) = min s (min most (n - h)) from by omega, e]
  exact sumN_congr fun i _ => by rw [show n - (h + i) = n - h - i from by omega]
theorem linG_last (n : Nat) : ∀ (w : List Nat) (i a : Nat), i + w.length = n + 1 → w[n - i]? = some a → linG (fun h => if n - h = 0 then 1 else 0) w i = a := by
  intro w
  induction w with
  | nil => intro i a h1 h2; simp at h2
  | cons x w ih =>
    intro i a h1 h2
    simp only [List.length_cons] at h1
    rw [linG]
    by_cases hi : i = n
    · subst hi
      rw [Nat.sub_self, if_pos rfl] at *
      simp only [List.getElem?_cons_zero, Option.some.injEq] at h2
      have hw : w = [] := List.eq_nil_of_length_eq_zero (by omega)
      subst hw
      rw [linG, h2]; omega
    · rw [if_neg (by omega), Nat.mul_zero, Nat.zero_add]
      rw [show n - i = (n - (i + 1)) + 1 from by omega, List.getElem?_cons_succ] at h2
      exact ih (i + 1) a (by omega) h2
theorem count_l1 (most n : Nat) (hn : n ≤ 9) (hm : most ≤ 9) (fuel : Nat) (hf : 1048576 < fuel) : ∀ (ss : List Nat) (k : Nat) (w : List Nat), w.length = n + 1 → (∀ s ∈ ss, s ≤ 14) → 2 ^ ss.sum * linG (fun _ => 1) w 0 ≤ 1048576 →
    impl_CountPanels_l1 (most : Int) (n : Int) fuel (encN ss) k (encN w) = some (((linG (fun h => cof (ss.map fun s => (s, most)) (n - h)) w 0 : Nat) : Int), true) := by
  intro ss
  induction ss with
  | nil =>
    intro k w hw _ _
    have hat : w[n]? = some (w[n]'(by omega)) := List.getElem?_eq_getElem (by omega)
    generalize w[n]'(by omega) = a at hat
    rw [show encN [] = [] from rfl, impl_CountPanels_l1, bnd (show getI (encN w) (n : Int) = _ from getI_encN rfl hat)]
    have := linG_last n w 0 a (by omega) (by simpa using hat)
    rw [show (fun h => cof (([] : List Nat).map fun s => (s, most)) (n - h)) = (fun h => if n - h = 0 then 1 else 0) from rfl, this]
  | cons s ss ih =>
    intro k w hw hs hB
    have hs14 := hs s (by simp)
    rw [List.sum_cons, Nat.pow_add] at hB
    have hp : 1 ≤ 2 ^ ss.sum := Nat.one_le_two_pow
    have hB1 : 2 ^ s * linG (fun _ => 1) w 0 ≤ 1048576 := by
      have h1 : 2 ^ s * linG (fun _ => 1) w 0 * 1 ≤ 2 ^ s * linG (fun _ => 1) w 0 * 2 ^ ss.sum := Nat.mul_le_mul_left _ hp
      have h2 : 2 ^ s * 2 ^ ss.sum * linG (fun _ => 1) w 0 = 2 ^ s * linG (fun _ => 1) w 0 * 2 ^ ss.sum := by rw [Nat.mul_assoc, Nat.mul_comm (2 ^ ss.sum), ← Nat.mul_assoc]
      omega
    have hrep : List.replicate (w64 ((n : Int) + 1)).toNat 0 = encN (List.replicate (n + 1) 0) := by
      rw [w64_in (by omega), show ((n : Int) + 1).toNat = n + 1 from by omega]
      unfold encN
      rw [List.map_replicate]; rfl
    obtain ⟨v', p1, p2, p3⟩ := count_l2 most n s hs14 hn hm fuel hf w hw hB1 w [] (List.replicate (n + 1) 0) rfl (by simp) (fun g => by rw [linG_zero]; rfl)
    have hgo : encN (s :: ss) = (s : Int) :: encN ss := rfl
    rw [hgo, impl_CountPanels_l1, hrep, bnd (show impl_CountPanels_l2 (most : Int) (n : Int) fuel (s : Int) (encN w) 0 (encN (List.replicate (n + 1) 0)) = _ from p1)]
    have hone : ∀ h, stepS s most n (fun _ => 1) h ≤ 2 ^ s * (fun _ : Nat => 1) h := fun h => by rw [Nat.mul_one]; exact stepS_one s most n h
    have h4 := linG_le hone w 0
    rw [← p3] at h4
    have h5 := Nat.mul_le_mul_left (2 ^ ss.sum) h4
    have h6 : 2 ^ ss.sum * (2 ^ s * linG (fun _ => 1) w 0) = 2 ^ s * 2 ^ ss.sum * linG (fun _ => 1) w 0 := by rw [← Nat.mul_assoc, Nat.mul_comm (2 ^ ss.sum)]
    rw [ih (k + 1) v' p2 (fun x hx => hs x (by simp [hx])) (by omega), p3]
    rw [List.map_cons]
    congr 3
    exact congrArg (fun g => linG g w 0) (funext fun h => step_cof s most n _ h)

end Go.Proofs.YtegdphhfimaieacGreat

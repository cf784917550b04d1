/- Plain lemmas: what the functions compute is what the reference says, in plain Lean. No condition. -/
import Derived.Test.YtegdphhfimaieaaGreatPStand1
set_option maxRecDepth 4000
set_option maxHeartbeats 1000000
set_option linter.unusedVariables false
set_option linter.unusedSimpArgs false
set_option linter.unusedSectionVars false

namespace Go.Proofs.YtegdphhfimaieaaGreat
open Go.AM

def tsW (w : World) : List Int := (skatersW w).map (totW w)
def plcW (w : World) (s : Int) : Int := ((1 + ((tsW w).filter fun t => decide (t > totW w s)).length : Nat) : Int)
theorem plcW_pos (w : World) (s : Int) : 1 ≤ plcW w s := by unfold plcW; omega
theorem rank_of {w : World} {r : List Rank} (hp : r.Perm ((skatersW w).map (mkP w (tsW w)))) {x : Rank} (hx : x ∈ r) : x.skater ∈ skatersW w ∧ x.total = totW w x.skater ∧ x.place = plcW w x.skater := by
  obtain ⟨s, hs, rfl⟩ := List.mem_map.1 (hp.mem_iff.1 hx)
  exact ⟨hs, rfl, rfl⟩
theorem rank_mem {w : World} {r : List Rank} (hp : r.Perm ((skatersW w).map (mkP w (tsW w)))) {s : Int} (hs : s ∈ skatersW w) : mkP w (tsW w) s ∈ r := hp.mem_iff.2 (List.mem_map.2 ⟨s, hs, rfl⟩)
theorem rank_ne {w : World} {r : List Rank} (hp : r.Perm ((skatersW w).map (mkP w (tsW w)))) : r.Pairwise (fun a b => a.skater ≠ b.skater) := by
  have hp2 : (r.map fun x => x.skater).Perm (skatersW w) := by
    refine (hp.map _).trans ?_
    rw [List.map_map]
    have : ((fun y : Rank => y.skater) ∘ mkP w (tsW w)) = id := by funext s; rfl
    rw [this, List.map_id]
  have hn : (skatersW w).Nodup := (skatersW_lt w).imp fun h => by omega
  exact List.pairwise_map.1 (hp2.nodup_iff.2 hn)
theorem place_of : ∀ {l : List Rank}, l.Pairwise (fun a b => a.skater ≠ b.skater) → ∀ {x : Rank}, x ∈ l → ∀ k, spec_wlPlace_l1 x.skater l k = some x.place := by
  intro l
  induction l with
  | nil => intro _ x hx; simp at hx
  | cons y l ih =>
    intro hd x hx k
    have hd' := List.pairwise_cons.1 hd
    rw [spec_wlPlace_l1]
    rcases List.mem_cons.1 hx with rfl | hx
    · rw [beq_self_eq_true, cond_true]
    · rw [show (y.skater == x.skater) = false from by simpa using hd'.1 x hx, cond_false]
      exact ih hd'.2 hx (k + 1)
theorem place_none (s : Int) : ∀ (l : List Rank) (k : Nat), (∀ x ∈ l, x.skater ≠ s) → spec_wlPlace_l1 s l k = some 0 := by
  intro l
  induction l with
  | nil => intro k _; rw [spec_wlPlace_l1]
  | cons y l ih =>
    intro k h
    rw [spec_wlPlace_l1, show (y.skater == s) = false from by simpa using h y (by simp), cond_false, ih _ (fun x hx => h x (by simp [hx]))]
def atW (w : World) (s : Int) : Int := if s ∈ skatersW w then plcW w s else 0
theorem place_eq {w : World} {r : List Rank} (hp : r.Perm ((skatersW w).map (mkP w (tsW w)))) (s : Int) (k : Nat) : spec_wlPlace_l1 s r k = some (atW w s) := by
  unfold atW
  by_cases hs : s ∈ skatersW w
  · rw [if_pos hs]
    exact place_of (rank_ne hp) (rank_mem hp hs) k
  · rw [if_neg hs]
    exact place_none s r k fun x hx e => hs (e ▸ (rank_of hp hx).1)
theorem worldList_case (w : World) (hb : nWorld w ≤ 1048576) (fuel : Nat) (hf : 1048576 < fuel) :
    (∃ r : List Rank, WorldOk w ∧ r.Perm ((skatersW w).map (mkP w (tsW w))) ∧ r.Pairwise (RK pl sk) ∧ r.length ≤ 240 ∧ spec_WorldList_p fuel w = some (r, true) ∧ impl_WorldList_p fuel w = some (r, true) ∧ spec_wlList_p fuel w = some r ∧ impl_worldList_p fuel w = some r) ∨
    (¬ WorldOk w ∧ spec_WorldList_p fuel w = some ([], false) ∧ impl_WorldList_p fuel w = some ([], false)) := by
  unfold spec_WorldList_p impl_WorldList_p
  rcases both_world w hb fuel hf with ⟨h1, h2, h3⟩ | ⟨h1, h2, h3⟩
  · obtain ⟨r, r1, r2, r3, r4, r5⟩ := worldList_ok w hb h3 fuel hf
    rw [bnd h1, bnd h2]
    simp only [Bool.not_true, cond_false]
    rw [bnd r1, bnd r2]
    exact .inl ⟨r, h3, r4, r5, r3, rfl, rfl, r1, r2⟩
  · rw [bnd h1, bnd h2]
    exact .inr ⟨h3, rfl, rfl⟩
theorem worldTotal_case (w : World) (hb : nWorld w ≤ 1048576) (s : Int) (fuel : Nat) (hf : 1048576 < fuel) :
    (WorldOk w ∧ s ∈ skatersW w ∧ spec_WorldTotal_p fuel w s = some (totW w s, true) ∧ impl_WorldTotal_p fuel w s = some (totW w s, true)) ∨
    (¬ (WorldOk w ∧ s ∈ skatersW w) ∧ ∃ r, spec_WorldTotal_p fuel w s = some (r, false) ∧ impl_WorldTotal_p fuel w s = some (r, false)) := by
  unfold spec_WorldTotal_p impl_WorldTotal_p
  rcases both_world w hb fuel hf with ⟨h1, h2, h3⟩ | ⟨h1, h2, h3⟩
  · rw [bnd h1, bnd h2]
    simp only [Bool.not_true, Bool.not_false, opt_t, Bool.false_or, cond_false]
    rw [bnd (spec_parts w s hb h3 fuel hf), bnd (worldSkaters_eq w h3 fuel hf)]
    obtain ⟨b, c1, c2⟩ := contains_eq (skatersW w) s
    rw [bnd c1]
    have : b = hasW w s := Bool.eq_iff_iff.2 (c2.trans (mem_skW w s))
    subst this
    cases hh : hasW w s
    · exact .inr ⟨fun h => absurd ((mem_skW w s).1 h.2) (by simp [hh]), _, rfl, rfl⟩
    · simp only [Bool.not_true, cond_false]
      rw [bnd (poSum_eq _), bnd (impl_parts w s h3), bnd (sumInts_eq _)]
      exact .inl ⟨h3, (mem_skW w s).2 hh, rfl, rfl⟩
  · rw [bnd h1, bnd h2]
    exact .inr ⟨fun h => h3 h.1, _, rfl, rfl⟩
theorem worldPlace_case (w : World) (hb : nWorld w ≤ 1048576) (s : Int) (fuel : Nat) (hf : 1048576 < fuel) :
    (WorldOk w ∧ s ∈ skatersW w ∧ spec_WorldPlace_p fuel w s = some (plcW w s, true) ∧ impl_WorldPlace_p fuel w s = some (plcW w s, true)) ∨
    (¬ (WorldOk w ∧ s ∈ skatersW w) ∧ ∃ r, spec_WorldPlace_p fuel w s = some (r, false) ∧ impl_WorldPlace_p fuel w s = some (r, false)) := by
  obtain ⟨q, q1, q2⟩ := same_WorldPlace w hb s fuel hf
  have hs := q1
  unfold spec_WorldPlace_p at hs
  rcases both_world w hb fuel hf with ⟨h1, h2, h3⟩ | ⟨h1, h2, h3⟩
  · rw [bnd h1] at hs
    simp only [Bool.not_true, Bool.not_false, opt_t, Bool.false_or] at hs
    obtain ⟨r, r1, r2, r3, r4, r5⟩ := worldList_ok w hb h3 fuel hf
    have hp : spec_wlPlace_p r s = some (atW w s) := place_eq r4 s 0
    rw [bnd r1, bnd hp] at hs
    unfold atW at hs hp
    by_cases hm : s ∈ skatersW w
    · rw [if_pos hm] at hs hp
      have := plcW_pos w s
      rw [show (plcW w s == 0) = false from by simp; omega] at hs
      simp only [cond_false] at hs
      rw [bnd r1, bnd hp] at hs
      cases hs
      exact .inl ⟨h3, hm, q1, q2⟩
    · rw [if_neg hm] at hs
      cases hs
      exact .inr ⟨fun h => hm h.2, _, q1, q2⟩
  · rw [bnd h1] at hs
    cases hs
    exact .inr ⟨fun h => h3 h.1, _, q1, q2⟩
theorem skater_in {w : World} (h : WorldOk w) {s : Int} (hs : s ∈ skatersW w) : 1 ≤ s ∧ s ≤ 999 := by
  have := (mem_skW w s).1 hs
  unfold hasW findL at this
  rw [List.any_eq_true] at this
  obtain ⟨t, ht, hx⟩ := this
  rw [List.find?_isSome] at hx
  obtain ⟨x, hx, hxs⟩ := hx
  have hok := h.1 t ht
  have hN := hok.2.1 x hx
  obtain ⟨e, he⟩ := List.exists_mem_of_ne_nil _ (lineEs_ne hN)
  have h1 := hok.2.2.2.1.1 e (List.mem_flatMap.2 ⟨x, hx, he⟩)
  have h2 := lineEs_sk he
  have h3 : x.skater = s := by simpa using hxs
  have := h1.2.1
  omega
theorem seasonParts_case (w : World) (hb : nWorld w ≤ 1048576) (h : WorldOk w) {s : Int} (hs : s ∈ skatersW w) (fuel : Nat) (hf : 1048576 < fuel) :
    spec_SeasonParts_p fuel w s = some (partsW w s, true) ∧ impl_SeasonParts_p fuel w s = some (partsW w s, true) := by
  unfold spec_SeasonParts_p impl_SeasonParts_p
  have hin := skater_in h hs
  rcases both_world w hb fuel hf with ⟨h1, h2, h3⟩ | ⟨h1, h2, h3⟩
  · rw [bnd h1, bnd h2]
    simp only [Bool.not_true, Bool.not_false, opt_t, Bool.false_or]
    obtain ⟨b, e1, e2⟩ := ret_l1In s 1 999
    obtain ⟨b', f1, f2⟩ := ret_isSkater s
    obtain rfl := e2.2 hin
    obtain rfl := f2.2 hin
    rw [bnd e1, bnd f1]
    simp only [Bool.not_true, cond_false]
    rw [bnd (spec_parts w s hb h3 fuel hf), bnd (impl_parts w s h3)]
    exact ⟨rfl, rfl⟩
  · exact absurd h h3
theorem totals_fall {w : World} {r : List Rank} (hp : r.Perm ((skatersW w).map (mkP w (tsW w)))) (hs : r.Pairwise (RK pl sk)) : r.Pairwise (fun a b => b.total ≤ a.total) := by
  refine List.Pairwise.imp_of_mem (fun {a b} ha hb hab => ?_) hs
  obtain ⟨a1, a2, a3⟩ := rank_of hp ha
  obtain ⟨b1, b2, b3⟩ := rank_of hp hb
  apply Classical.byContradiction
  intro hlt
  have hlt : a.total < b.total := by omega
  have hpl : b.place < a.place := by
    rw [a3, b3]
    unfold plcW
    rw [← a2, ← b2]
    have h1 : ((tsW w).filter fun t => decide (t > b.total)) = ((tsW w).filter fun t => decide (t > a.total)).filter fun t => decide (t > b.total) := by
      rw [List.filter_filter]
      congr 1
      funext t
      by_cases ht : t > b.total
      · rw [decide_eq_true ht, decide_eq_true (by omega)]; rfl
      · rw [decide_eq_false ht]; rfl
    have hmem : b.total ∈ (tsW w).filter fun t => decide (t > a.total) := List.mem_filter.2 ⟨List.mem_map.2 ⟨b.skater, b1, b2.symm⟩, by simpa using hlt⟩
    have h2 : ((tsW w).filter fun t => decide (t > b.total)).length < ((tsW w).filter fun t => decide (t > a.total)).length := by
      rw [h1, List.length_filter_lt_length_iff_exists]
      exact ⟨_, hmem, by simp⟩
    omega
  unfold RK pl at hab
  omega
theorem firstOf_in (n : Int) : ∀ (ys : List Rank) (k : Nat) (acc : List Rank) (r : List Rank × Bool), acc.length + ys.length ≤ 1000 → spec_FirstOf_l1 n ys k acc = some r → (∀ x ∈ acc, x.place ≤ n) → ∀ x ∈ r.1, x.place ≤ n := by
  intro ys
  induction ys with
  | nil => intro k acc r _ h hacc; rw [spec_FirstOf_l1] at h; cases h; exact hacc
  | cons y ys ih =>
    intro k acc r hl h hacc
    simp only [List.length_cons] at hl
    rw [spec_FirstOf_l1] at h
    by_cases hy : y.place ≤ n
    · rw [decide_eq_true hy, cond_true, bnd (x := ()) (by rw [fits_of (by simp; omega)]; rfl)] at h
      exact ih (k + 1) _ r (by simp; omega) h fun x hx => by
        rcases List.mem_append.1 hx with hx | hx
        · exact hacc x hx
        · obtain rfl := List.mem_singleton.1 hx; exact hy
    · rw [decide_eq_false hy, cond_false] at h
      exact ih (k + 1) acc r (by omega) h hacc
theorem firstOf_place (w : World) (hb : nWorld w ≤ 1048576) (n : Int) (fuel : Nat) (hf : 1048576 < fuel) (r : List Rank × Bool) (h : spec_FirstOf_p fuel w n = some r) : ∀ x ∈ r.1, x.place ≤ n := by
  unfold spec_FirstOf_p at h
  rcases both_world w hb fuel hf with ⟨h1, h2, h3⟩ | ⟨h1, h2, h3⟩
  · rw [bnd h1] at h
    simp only [Bool.not_true, Bool.not_false, opt_t, Bool.false_or] at h
    obtain ⟨b, e1, e2⟩ := ret_l1In n 1 300
    rw [bnd e1] at h
    cases b
    · cases h; simp
    · simp only [Bool.not_true, cond_false] at h
      obtain ⟨q, r1, r2, r3, _⟩ := same_worldList w hb h3 fuel hf
      rw [bnd r1] at h
      exact firstOf_in n q 0 [] r (by simp; omega) h (by simp)
  · rw [bnd h1] at h
    cases h; simp

end Go.Proofs.YtegdphhfimaieaaGreat

/- Plain lemmas: what the functions compute is what the reference says, in plain Lean. No condition. -/
import Derived.Test.YtegdphhfimaieaaGreatPWorld5
set_option maxRecDepth 4000
set_option maxHeartbeats 1000000
set_option linter.unusedVariables false
set_option linter.unusedSimpArgs false
set_option linter.unusedSectionVars false

namespace Go.Proofs.YtegdphhfimaieaaGreat
open Go.AM

def entS (s : Season) (k : Int) : List Entry := (seasonEs s).filter fun e => decide (e.skater = k)
theorem filt_lines (k : Int) : ∀ {ls : List Line}, LinesOk ls → (flat ls).filter (fun e => decide (e.skater = k)) = ((ls.find? fun x => x.skater == k).map lineEs).getD [] := by
  intro ls
  induction ls with
  | nil => intro _; rfl
  | cons x ls ih =>
    intro h
    have ht : LinesOk ls := ⟨fun y hy => h.1 y (by simp [hy]), (List.pairwise_cons.1 h.2).2⟩
    rw [flat_cons]
    by_cases hx : x.skater = k
    · subst hx
      rw [List.find?_cons_of_pos (by simp), filt_head h.2]
      rfl
    · rw [List.find?_cons_of_neg (by simpa using hx), List.filter_append, List.filter_eq_nil_iff.2 (fun e he => by have := lineEs_sk he; simp only [decide_eq_true_eq]; omega), List.nil_append]
      exact ih ht
theorem ent_eq {s : Season} (h : SeasonOk s) (k : Int) : entS s k = ((findL s k).map lineEs).getD [] := filt_lines k ⟨h.2.1, h.2.2.1⟩
def ptS (s : Season) (k : Int) : List Int := (entS s k).map (·.points)
theorem pt_eq {s : Season} (h : SeasonOk s) (k : Int) : ((findL s k).getD ⟨k, [], []⟩).points = ptS s k := by
  unfold ptS
  rw [ent_eq h]
  cases hf : findL s k with
  | none => rfl
  | some x =>
    have hx : x ∈ s.lines := List.mem_of_find?_eq_some hf
    exact (lineEs_pt (h.2.1 x hx)).symm
theorem pt_bd {s : Season} (h : SeasonOk s) (k : Int) : (ptS s k).Pairwise (· ≥ ·) ∧ (∀ y ∈ ptS s k, 0 ≤ y ∧ y ≤ 100000) := by
  rw [← pt_eq h]
  cases hf : findL s k with
  | none => simp
  | some x =>
    have hx : x ∈ s.lines := List.mem_of_find?_eq_some hf
    have := pts_of h hx
    exact ⟨this.1, this.2.1⟩
theorem pt_sum {s : Season} (h : SeasonOk s) (k : Int) : sumW (countedL ((findL s k).getD ⟨k, [], []⟩) s.best) = ((ptS s k).take s.best.toNat).sum ∧ 0 ≤ ((ptS s k).take s.best.toNat).sum ∧ ((ptS s k).take s.best.toNat).sum ≤ 8000000 := by
  rw [← pt_eq h]
  cases hf : findL s k with
  | none => simp [countedL, sumW]
  | some x =>
    have hx : x ∈ s.lines := List.mem_of_find?_eq_some hf
    exact counted_sum h hx
theorem rd_eq {a : Int} (h : 0 ≤ a ∧ a ≤ 1000000000) : rd a = (2 * a + 100) / 200 := by
  unfold rd
  rw [w64_in (n := 2 * a) (by omega), w64_in (n := 2 * a + 100) (by omega), Int.tmod_eq_emod_of_nonneg (by omega), Int.tdiv_eq_ediv_of_nonneg (by omega), decide_eq_false (by omega), cond_false, w64_in (by omega)]
theorem mul_bd {a n : Int} (ha : 0 ≤ a ∧ a ≤ 8000000) (hn : 0 ≤ n ∧ n ≤ 100) : 0 ≤ a * n ∧ a * n ≤ 800000000 := by
  have h1 : a * n ≤ 8000000 * n := Int.mul_le_mul_of_nonneg_right ha.2 hn.1
  exact ⟨Int.mul_nonneg ha.1 hn.1, by omega⟩
theorem part_eq {s : Season} (h : SeasonOk s) (k : Int) {n : Int} (hn : 0 ≤ n ∧ n ≤ 100) : partS k s n = (2 * (((ptS s k).take s.best.toNat).sum * n) + 100) / 200 := by
  unfold partS
  obtain ⟨h1, h2, h3⟩ := pt_sum h k
  have := mul_bd ⟨h2, h3⟩ hn
  rw [h1, w64_in (by omega), rd_eq (by omega)]
theorem part_bd {s : Season} (h : SeasonOk s) (k : Int) {n : Int} (hn : 0 ≤ n ∧ n ≤ 100) : 0 ≤ partS k s n ∧ partS k s n ≤ 9000000 := by
  rw [part_eq h k hn]
  obtain ⟨_, h2, h3⟩ := pt_sum h k
  have := mul_bd ⟨h2, h3⟩ hn
  omega
theorem add_ent {s t : Season} {e : Entry} (hF : FreshOf s.best (seasonEs s ++ [e]) t) (hs : SeasonOk s) (ht : SeasonOk t) (k : Int) :
    (k ≠ e.skater → entS t k = entS s k) ∧ (entS t e.skater).Perm (entS s e.skater ++ [e]) := by
  have hp : (seasonEs t).Perm (seasonEs s ++ [e]) := hF.2.2.2
  have hsrt : ∀ {s : Season}, SeasonOk s → ∀ k, (entS s k).Pairwise ltE := fun h k => h.2.2.2.1.2.1.sublist List.filter_sublist
  constructor
  · intro hk
    have h1 := hp.filter fun x => decide (x.skater = k)
    rw [List.filter_append, List.filter_cons_of_neg (by simpa using fun h => hk h.symm), List.filter_nil, List.append_nil] at h1
    exact sorted_uniq (hsrt ht k) (hsrt hs k) h1
  · have h1 := hp.filter fun x => decide (x.skater = e.skater)
    rw [List.filter_append, List.filter_cons_of_pos (by simp), List.filter_nil] at h1
    exact h1
theorem part_same {s t : Season} {e : Entry} (hF : FreshOf s.best (seasonEs s ++ [e]) t) (hs : SeasonOk s) (ht : SeasonOk t) {k n : Int} (hk : k ≠ e.skater) (hn : 0 ≤ n ∧ n ≤ 100) : partS k t n = partS k s n := by
  rw [part_eq hs k hn, part_eq ht k hn, hF.1]
  unfold ptS
  rw [(add_ent hF hs ht k).1 hk]
theorem part_up {s t : Season} {e : Entry} (hF : FreshOf s.best (seasonEs s ++ [e]) t) (hs : SeasonOk s) (ht : SeasonOk t) (he : 0 ≤ e.points) {n : Int} (hn : 0 ≤ n ∧ n ≤ 100) : partS e.skater s n ≤ partS e.skater t n := by
  have hp := (add_ent hF hs ht e.skater).2.map (·.points)
  rw [List.map_append, List.map_cons, List.map_nil] at hp
  obtain ⟨s1, s2⟩ := pt_bd hs e.skater
  obtain ⟨t1, _⟩ := pt_bd ht e.skater
  have hm := (more_take e.points he s.best.toNat 1 (ptS s e.skater) (ptS t e.skater) s1 (fun y hy => (s2 y hy).1) t1 (by simpa [ptS] using hp)).1
  rw [part_eq hs _ hn, part_eq ht _ hn, hF.1]
  have h2 : ((ptS s e.skater).take s.best.toNat).sum * n ≤ ((ptS t e.skater).take s.best.toNat).sum * n := Int.mul_le_mul_of_nonneg_right hm hn.1
  omega
theorem parts_bd (k : Int) : ∀ (l : List Season) (ns : List Int), (∀ s ∈ l, SeasonOk s) → (∀ n ∈ ns, 0 ≤ n ∧ n ≤ 100) → ∀ y ∈ List.zipWith (partS k) l ns, 0 ≤ y ∧ y ≤ 9000000
  | [], _, _, _ => by simp
  | _ :: _, [], _, _ => by simp
  | s :: l, n :: ns, h1, h2 => by
    intro y hy
    rw [List.zipWith_cons_cons] at hy
    rcases List.mem_cons.1 hy with rfl | hy
    · exact part_bd (h1 s (by simp)) k (h2 n (by simp))
    · exact parts_bd k l ns (fun s hs => h1 s (by simp [hs])) (fun n hn => h2 n (by simp [hn])) y hy
theorem tot_sum {w : World} (h : WorldOk w) (k : Int) : totW w k = (partsW w k).sum := by
  have hb := parts_bd k w.seasons w.weights h.1 h.2.1
  have hl : (partsW w k).length ≤ 3 := by unfold partsW; rw [List.length_zipWith]; have := h.2.2.2.1; omega
  have hg : ∀ l : List Int, (∀ y ∈ l, 0 ≤ y ∧ y ≤ 9000000) → ∀ v : Int, 0 ≤ v → v + 9000000 * (l.length : Int) ≤ 1000000000 → l.foldl (fun v y => w64 (v + y)) v = v + l.sum := by
    intro l
    induction l with
    | nil => intro _ v _ _; simp
    | cons y l ih =>
      intro hl v h1 h2
      have hy := hl y (by simp)
      simp only [List.length_cons] at h2
      rw [List.foldl_cons, w64_in (by omega), ih (fun z hz => hl z (by simp [hz])) _ (by omega) (by omega), List.sum_cons]
      omega
  unfold totW sumW
  exact (hg _ hb 0 (by omega) (by unfold partsW at hl; omega)).trans (by simp [partsW])
structure More (w : World) (e : Entry) (a : World) : Prop where
  oldOk : WorldOk w
  newOk : WorldOk a
  is : ∃ s t r n ns, w = ⟨s :: r, n :: ns⟩ ∧ a = ⟨t :: r, n :: ns⟩ ∧ FreshOf s.best (seasonEs s ++ [e]) t
  pts : 0 ≤ e.points
theorem More.same {w a : World} {e : Entry} (h : More w e a) {k : Int} (hk : k ≠ e.skater) : totW a k = totW w k := by
  obtain ⟨s, t, r, n, ns, rfl, rfl, hF⟩ := h.is
  rw [tot_sum h.oldOk, tot_sum h.newOk]
  unfold partsW
  dsimp only
  rw [List.zipWith_cons_cons, List.zipWith_cons_cons, part_same hF (h.oldOk.1 s (by simp)) (h.newOk.1 t (by simp)) hk (h.oldOk.2.1 n (by simp))]
theorem More.up {w a : World} {e : Entry} (h : More w e a) : totW w e.skater ≤ totW a e.skater := by
  obtain ⟨s, t, r, n, ns, rfl, rfl, hF⟩ := h.is
  rw [tot_sum h.oldOk, tot_sum h.newOk]
  unfold partsW
  dsimp only
  rw [List.zipWith_cons_cons, List.zipWith_cons_cons, List.sum_cons, List.sum_cons]
  have := part_up hF (h.oldOk.1 s (by simp)) (h.newOk.1 t (by simp)) h.pts (h.oldOk.2.1 n (by simp))
  omega
theorem has_ent {s : Season} (h : SeasonOk s) (k : Int) : (findL s k).isSome = true ↔ entS s k ≠ [] := by
  rw [ent_eq h]
  cases hf : findL s k with
  | none => simp
  | some x =>
    have hx : x ∈ s.lines := List.mem_of_find?_eq_some hf
    simpa using lineEs_ne (h.2.1 x hx)
theorem More.mem {w a : World} {e : Entry} (h : More w e a) (k : Int) : k ∈ skatersW a ↔ k ∈ skatersW w ∨ k = e.skater := by
  obtain ⟨s, t, r, n, ns, rfl, rfl, hF⟩ := h.is
  have hs := h.oldOk.1 s (by simp)
  have ht := h.newOk.1 t (by simp)
  rw [mem_skW, mem_skW]
  unfold hasW
  rw [List.any_cons, List.any_cons, Bool.or_eq_true, Bool.or_eq_true, has_ent hs, has_ent ht]
  obtain ⟨h1, h2⟩ := add_ent hF hs ht k
  by_cases hk : k = e.skater
  · subst hk
    have : entS t e.skater ≠ [] := fun h0 => by rw [h0] at h2; have := h2.length_eq; simp at this
    exact ⟨fun _ => .inr rfl, fun _ => .inl this⟩
  · rw [h1 hk]
    exact ⟨fun h => .inl h, fun h => h.resolve_right hk⟩
theorem More.place {w a : World} {e : Entry} (h : More w e a) (he : e.skater ∈ skatersW w) : plcW a e.skater ≤ plcW w e.skater := by
  have hsk : skatersW a = skatersW w := lt_mem_eq (skatersW_lt a) (skatersW_lt w) fun k => by
    rw [h.mem]
    exact ⟨fun hk => hk.elim id fun e => by rw [e]; exact he, .inl⟩
  unfold plcW tsW
  rw [hsk]
  have hup := h.up
  have key : ∀ l : List Int, ((l.map (totW a)).filter fun t => decide (t > totW a e.skater)).length ≤ ((l.map (totW w)).filter fun t => decide (t > totW w e.skater)).length := by
    intro l
    induction l with
    | nil => simp
    | cons k l ih =>
      rw [List.map_cons, List.map_cons]
      by_cases hc : totW a k > totW a e.skater
      · have hk : k ≠ e.skater := fun e => by rw [e] at hc; omega
        have := h.same hk
        rw [List.filter_cons_of_pos (by simpa using hc), List.filter_cons_of_pos (by simp; omega), List.length_cons, List.length_cons]
        omega
      · rw [List.filter_cons_of_neg (by simpa using hc)]
        by_cases hd : totW w k > totW w e.skater
        · rw [List.filter_cons_of_pos (by simpa using hd), List.length_cons]; omega
        · rw [List.filter_cons_of_neg (by simpa using hd)]; exact ih
  have := key (skatersW w)
  omega

end Go.Proofs.YtegdphhfimaieaaGreat

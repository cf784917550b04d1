/- Plain lemmas: what the functions compute is what the reference says, in plain Lean. No condition. -/
import Derived.Test.YtjbkbiofklgblaaGreatDoorPHistory1
set_option maxRecDepth 4000
set_option maxHeartbeats 1000000
set_option linter.unusedVariables false
set_option linter.unusedSimpArgs false
set_option linter.unusedSectionVars false

namespace Go.Proofs.YtjbkbiofklgblaaGreatDoor
open Go.AM

theorem ret_l1AllH (lo hi : Int) : ∀ (l : List Int) (k : Nat), Ret (spec_l1All_l1 lo hi l k) (∀ n ∈ l, lo ≤ n ∧ n ≤ hi) := by
  intro l
  induction l with
  | nil => intro k; rw [spec_l1All_l1]; exact .t (by simp)
  | cons y l ih =>
    intro k
    rw [spec_l1All_l1]
    refine (ret_l1In y lo hi).bindR (fun h => ?_) (fun h => .f fun k => h (k y (by simp)))
    simp only [Bool.not_true, cond_false]
    refine (ih (k + 1)).iff ⟨fun q n hn => ?_, fun q n hn => q n (by simp [hn])⟩
    rcases List.mem_cons.1 hn with rfl | hn
    · exact h
    · exact q n hn
theorem name_l (s : ByteArray) (hs : s.size ≤ 1048576) : ∀ (m v fuel : Nat), v + m = s.size → m < fuel → ∃ b, impl_IsElementName_l1 s fuel (v : Int) = some b ∧ spec_itName_l1 s fuel (v : Int) = some b := by
  intro m
  induction m with
  | zero =>
    intro v fuel h hf
    obtain ⟨f, rfl⟩ := Nat.exists_eq_succ_of_ne_zero (by omega : fuel ≠ 0)
    rw [impl_IsElementName_l1, spec_itName_l1, decide_eq_false (by omega), cond_false, cond_false]
    obtain ⟨b, e1, e2⟩ := ret_l1In (s.size : Int) 1 5
    obtain ⟨b', e3, e4⟩ := ret_within (s.size : Int) 1 5
    obtain rfl : b = b' := Bool.eq_iff_iff.2 (e2.trans e4.symm)
    rw [bnd e1, bnd e3]
    exact ⟨b, rfl, rfl⟩
  | succ m ih =>
    intro v fuel h hf
    obtain ⟨f, rfl⟩ := Nat.exists_eq_succ_of_ne_zero (by omega : fuel ≠ 0)
    have hv : v < s.size := by omega
    have hi : strI s (v : Int) = some s[v] := by unfold strI; rw [if_pos (by omega)]; simp [hv]
    obtain ⟨b, b1, b2⟩ := ih (v + 1) f (by omega) (by omega)
    rw [show (((v + 1 : Nat) : Int)) = (v : Int) + 1 from by omega] at b1 b2
    rw [impl_IsElementName_l1, spec_itName_l1, decide_eq_true (by omega), cond_true, cond_true, bnd hi, bnd hi]
    unfold spec_itByte_p
    rw [Option.bind_some, w64_in (by omega)]
    have hc : ((decide ((s[v].toNat : Int) < 65) || decide ((s[v].toNat : Int) > 90)) && (decide ((s[v].toNat : Int) < 48) || decide ((s[v].toNat : Int) > 57))) = !((decide ((s[v].toNat : Int) ≥ 65) && decide ((s[v].toNat : Int) ≤ 90)) || (decide ((s[v].toNat : Int) ≥ 48) && decide ((s[v].toNat : Int) ≤ 57))) := by
      rw [Bool.eq_iff_iff]
      simp only [Bool.and_eq_true, Bool.or_eq_true, decide_eq_true_eq, Bool.not_eq_true', Bool.or_eq_false_iff, Bool.and_eq_false_iff, decide_eq_false_iff_not]
      omega
    rw [hc]
    cases ((decide ((s[v].toNat : Int) ≥ 65) && decide ((s[v].toNat : Int) ≤ 90)) || (decide ((s[v].toNat : Int) ≥ 48) && decide ((s[v].toNat : Int) ≤ 57)))
    · exact ⟨false, rfl, rfl⟩
    · exact ⟨b, b1, b2⟩
theorem name_same (s : ByteArray) (hs : s.size ≤ 1048576) (fuel : Nat) (hf : 1048576 < fuel) : ∃ b, impl_IsName_p fuel s = some b ∧ spec_itName_p fuel s = some b := by
  obtain ⟨b, b1, b2⟩ := name_l s hs s.size 0 fuel (by omega) (by omega)
  exact ⟨b, by unfold impl_IsName_p; rw [show impl_IsElementName_p fuel s = some b from b1]; rfl, b2⟩
def itemOk (it : Item) : Prop := (1 ≤ it.names.length ∧ it.names.length ≤ 3) ∧ it.marks.length = it.names.length
theorem item_l (it : Item) (fuel : Nat) (hf : 1048576 < fuel) : ∀ (ys : List ByteArray) (k : Nat), (∀ s ∈ ys, s.size ≤ 1048576) → ∃ b, impl_IsItem_l1 it fuel ys k = some b ∧ spec_itGood_l1 it fuel ys k = some b ∧ (b = true → itemOk it) := by
  intro ys
  induction ys with
  | nil =>
    intro k _
    rw [impl_IsItem_l1, spec_itGood_l1]
    obtain ⟨b, e1, e2⟩ := ret_l1In (it.names.length : Int) 1 3
    obtain ⟨b', e3, e4⟩ := ret_within (it.names.length : Int) 1 3
    obtain rfl : b = b' := Bool.eq_iff_iff.2 (e2.trans e4.symm)
    rw [bnd e1, bnd e3]
    cases b
    · exact ⟨false, rfl, rfl, by simp⟩
    · by_cases hl : it.marks.length = it.names.length
      · rw [show ((it.marks.length : Int) == (it.names.length : Int)) = true from by rw [hl]; simp]
        simp only [Bool.true_and, opt_t]
        obtain ⟨c, c1, c2⟩ := ret_l1AllH 0 3 it.marks 0
        obtain ⟨c', c3, c4⟩ := ret_allWithin 0 3 it.marks 0
        obtain rfl : c = c' := Bool.eq_iff_iff.2 (c2.trans c4.symm)
        rw [show impl_allWithin_p it.marks 0 3 = some c from c3, show spec_l1All_p it.marks 0 3 = some c from c1]
        exact ⟨c, rfl, rfl, fun _ => ⟨by have := e2.1 rfl; omega, hl⟩⟩
      · rw [show ((it.marks.length : Int) == (it.names.length : Int)) = false from by simp only [beq_eq_false_iff_ne, ne_eq]; omega]
        exact ⟨false, rfl, rfl, by simp⟩
  | cons y ys ih =>
    intro k h
    obtain ⟨b, b1, b2⟩ := name_same y (h y (by simp)) fuel hf
    rw [impl_IsItem_l1, spec_itGood_l1, bnd b1, bnd b2]
    cases b
    · exact ⟨false, rfl, rfl, by simp⟩
    · exact ih (k + 1) fun s hs => h s (by simp [hs])
theorem items_l (l : List Item) (fuel : Nat) (hf : 1048576 < fuel) : ∀ (ys : List Item) (k : Nat), (∀ it ∈ ys, ∀ s ∈ it.names, s.size ≤ 1048576) → ∃ b, impl_AreItems_l1 l fuel ys k = some b ∧ spec_itList_l1 l fuel ys k = some b ∧ (b = true → l.length ≤ 14 ∧ ∀ it ∈ ys, itemOk it) := by
  intro ys
  induction ys with
  | nil =>
    intro k _
    rw [impl_AreItems_l1, spec_itList_l1]
    exact ⟨_, rfl, rfl, fun h => ⟨by have := of_decide_eq_true h; omega, by simp⟩⟩
  | cons y ys ih =>
    intro k h
    obtain ⟨b, b1, b2, b3⟩ := item_l y fuel hf y.names 0 (h y (by simp))
    rw [impl_AreItems_l1, spec_itList_l1, bnd (show impl_IsItem_p fuel y = some b from b1), bnd (show spec_itGood_p fuel y = some b from b2)]
    cases b
    · exact ⟨false, rfl, rfl, by simp⟩
    · obtain ⟨c, c1, c2, c3⟩ := ih (k + 1) fun it hi => h it (by simp [hi])
      refine ⟨c, c1, c2, fun hc => ⟨(c3 hc).1, fun it hi => ?_⟩⟩
      rcases List.mem_cons.1 hi with rfl | hi
      · exact b3 rfl
      · exact (c3 hc).2 it hi
def ItemsOk (l : List Item) : Prop := l.length ≤ 14 ∧ ∀ it ∈ l, itemOk it
theorem items_same (l : List Item) (hl : ∀ it ∈ l, ∀ s ∈ it.names, s.size ≤ 1048576) (fuel : Nat) (hf : 1048576 < fuel) : ∃ b, impl_AreItems_p fuel l = some b ∧ spec_itList_p fuel l = some b ∧ (b = true → ItemsOk l) := items_l l fuel hf l 0 hl
def StOk (x : HiState) : Prop := ItemsOk x.items ∧ x.open'.length = x.items.length ∧ ∀ (i : Nat) (it : Item) (r : List Bool), x.items[i]? = some it → x.open'[i]? = some r → r.length = it.names.length
def valid (l : List Item) (i k : Int) : Prop := 0 ≤ i ∧ 0 ≤ k ∧ ∃ it, l[i.toNat]? = some it ∧ k < (it.names.length : Int)
def opn (B : List (List Bool)) (i k : Int) : Bool := if 0 ≤ i ∧ 0 ≤ k then (((B[i.toNat]?).bind fun r => r[k.toNat]?).getD false) else false
def Sim (s : HistoryState) (x : HiState) : Prop := s.items = x.items ∧ keysOk s.open' ∧ ∀ i k, mget s.open' (i, k) = opn x.open' i k
theorem ret_spName (l : List Item) (hl : ItemsOk l) (i k : Int) : Ret (spec_hiName_p l i k) (valid l i k) := by
  have h14 := hl.1
  unfold spec_hiName_p
  rw [w64_in (by omega)]
  refine (ret_l1In i 0 ((l.length : Int) - 1)).bindR (fun h => ?_) (fun h => .f ?_)
  · simp only [opt_t, Bool.true_and]
    have hlt : i.toNat < l.length := by omega
    have hg : getI l i = some l[i.toNat] := by rw [getI_of (k := i.toNat) (by omega)]; exact List.getElem?_eq_getElem hlt
    have hit := hl.2 _ (List.getElem_mem hlt)
    rw [bnd hg, w64_in (by have := hit.1; omega)]
    obtain ⟨b, b1, b2⟩ := ret_l1In k 0 ((l[i.toNat].names.length : Int) - 1)
    rw [bnd b1]
    refine .some (b2.trans ⟨fun q => ⟨by omega, by omega, _, List.getElem?_eq_getElem hlt, by omega⟩, ?_⟩)
    rintro ⟨q1, q2, it, q3, q4⟩
    rw [List.getElem?_eq_getElem hlt] at q3; cases q3; omega
  · rintro ⟨q1, q2, it, q3, q4⟩
    have := (List.getElem?_eq_some_iff.1 q3).1
    omega
theorem ret_imName (l : List Item) (hl : ItemsOk l) (i k : Int) : Ret (impl_hasNameAt_p l i k) (valid l i k) := by
  have h14 := hl.1
  unfold impl_hasNameAt_p
  rw [w64_in (by omega)]
  refine (ret_within i 0 ((l.length : Int) - 1)).bindR (fun h => ?_) (fun h => .f ?_)
  · simp only [opt_t, Bool.true_and]
    have hlt : i.toNat < l.length := by omega
    have hg : getI l i = some l[i.toNat] := by rw [getI_of (k := i.toNat) (by omega)]; exact List.getElem?_eq_getElem hlt
    have hit := hl.2 _ (List.getElem_mem hlt)
    rw [bnd hg, w64_in (by have := hit.1; omega)]
    obtain ⟨b, b1, b2⟩ := ret_within k 0 ((l[i.toNat].names.length : Int) - 1)
    rw [bnd b1]
    refine .some (b2.trans ⟨fun q => ⟨by omega, by omega, _, List.getElem?_eq_getElem hlt, by omega⟩, ?_⟩)
    rintro ⟨q1, q2, it, q3, q4⟩
    rw [List.getElem?_eq_getElem hlt] at q3; cases q3; omega
  · rintro ⟨q1, q2, it, q3, q4⟩
    have := (List.getElem?_eq_some_iff.1 q3).1
    omega
theorem opn_set (B : List (List Bool)) (I K : Nat) (r : List Bool) (hI : B[I]? = some r) (hK : K < r.length) (v : Bool) (i k : Int) : opn (B.set I (r.set K v)) i k = if i = (I : Int) ∧ k = (K : Int) then v else opn B i k := by
  have hIl := (List.getElem?_eq_some_iff.1 hI).1
  unfold opn
  by_cases h0 : 0 ≤ i ∧ 0 ≤ k
  · rw [if_pos h0, if_pos h0]
    by_cases hi : i = (I : Int)
    · subst hi
      simp only [Int.toNat_natCast, List.getElem?_set_self hIl, hI, Option.bind_some]
      by_cases hk : k = (K : Int)
      · subst hk
        simp [hK]
      · rw [if_neg (fun q => hk q.2), List.getElem?_set_ne (by omega)]
    · rw [if_neg (fun q => hi q.1), List.getElem?_set_ne (by omega)]
  · rw [if_neg h0, if_neg h0, if_neg (by omega)]
theorem set_same {α : Type} {l : List α} {i : Nat} {x : α} (h : l[i]? = some x) : l.set i x = l := by
  apply List.ext_getElem?
  intro j
  by_cases e : i = j
  · subst e
    rw [List.getElem?_set_self (List.getElem?_eq_some_iff.1 h).1, h]
  · rw [List.getElem?_set_ne e]
theorem same_change {s : HistoryState} {x : HiState} (hx : StOk x) (hs : Sim s x) (c : Change) : ∃ (b : Bool) (s' : HistoryState) (x' : HiState), spec_hiState_change_p x c = some (x', b) ∧ impl_historyState_apply_p s c = some (s', b) ∧
    (b = true → StOk x' ∧ Sim s' x' ∧ (0 ≤ c.tick ∧ c.tick ≤ 100000) ∧ x'.items.length = x.items.length) := by
  obtain ⟨q1, q2, q3⟩ := hs
  unfold spec_hiState_change_p impl_historyState_apply_p impl_isTick_p impl_isMark_p
  rw [q1]
  obtain ⟨n1, n1s, n1p⟩ := ret_spName x.items hx.1 c.item c.name
  obtain ⟨n1', n1i, n1q⟩ := ret_imName x.items hx.1 c.item c.name
  obtain rfl : n1 = n1' := Bool.eq_iff_iff.2 (n1p.trans n1q.symm)
  obtain ⟨t, ts, tp⟩ := ret_l1In c.tick 0 100000
  obtain ⟨t', ti, tq⟩ := ret_within c.tick 0 100000
  obtain rfl : t = t' := Bool.eq_iff_iff.2 (tp.trans tq.symm)
  obtain ⟨a, as2, ap⟩ := ret_l1In c.caller 1 9
  obtain ⟨a', ai, aq⟩ := ret_within c.caller 1 9
  obtain rfl : a = a' := Bool.eq_iff_iff.2 (ap.trans aq.symm)
  obtain ⟨m, ms, mp⟩ := ret_l1In c.mark 0 3
  obtain ⟨m', mi, mq⟩ := ret_within c.mark 0 3
  obtain rfl : m = m' := Bool.eq_iff_iff.2 (mp.trans mq.symm)
  rw [n1s, n1i, ts, ti, as2, ai, ms, mi]
  by_cases hall : n1 = true ∧ t = true ∧ a = true ∧ m = true
  · obtain ⟨rfl, rfl, rfl, rfl⟩ := hall
    simp only [Bool.not_true, Bool.not_false, opt_t, Bool.false_or, Option.bind_some, cond_false]
    obtain ⟨v1, v2, it, v3, v4⟩ := n1p.1 rfl
    have htick := tp.1 rfl
    obtain ⟨I, hI⟩ : ∃ I : Nat, c.item = (I : Int) := ⟨c.item.toNat, by omega⟩
    obtain ⟨K, hK⟩ : ∃ K : Nat, c.name = (K : Int) := ⟨c.name.toNat, by omega⟩
    rw [hI, Int.toNat_natCast] at v3
    rw [hI, hK, Int.toNat_natCast, Int.toNat_natCast]
    have hIl := (List.getElem?_eq_some_iff.1 v3).1
    have hitok := hx.1.2 it (List.mem_of_getElem? v3)
    have hKn : K < it.names.length := by omega
    obtain ⟨r, hr⟩ : ∃ r, x.open'[I]? = some r := ⟨_, List.getElem?_eq_getElem (by rw [hx.2.1]; exact hIl)⟩
    have hrl := hx.2.2 I it r v3 hr
    have hgi : getI x.items (I : Int) = some it := by rw [getI_nat]; exact v3
    have hgr : getI x.open' (I : Int) = some r := by rw [getI_nat]; exact hr
    have hgk : getI r (K : Int) = some r[K] := getI_lt_some (by omega)
    have hKm : K < it.marks.length := by rw [hitok.2]; exact hKn
    have hgm : getI it.marks (K : Int) = some it.marks[K] := getI_lt_some hKm
    have h3 := hitok.1
    have h14 := hx.1.1
    have hin : in64 ((I : Int), (K : Int)) = true := in64_of (by omega) (by omega)
    have hmo := mapOk_of q2 hin
    have hopen : mget s.open' ((I : Int), (K : Int)) = r[K] := by
      rw [q3]; unfold opn
      rw [if_pos (by omega)]
      simp only [Int.toNat_natCast, hr, Option.bind_some]
      rw [List.getElem?_eq_getElem (by omega)]; rfl
    rw [hgi, hgr]
    simp only [Option.bind_some]
    rw [hgk, hmo, hopen, need_t]
    simp only [Option.bind_some]
    rw [hgm, set_same v3, set_same hr]
    simp only [Option.bind_some]
    have stok : ∀ (it' : Item) (r' : List Bool), it'.names = it.names → it'.marks.length = it.marks.length → r'.length = r.length → StOk (HiState.mk (x.items.set I it') (x.open'.set I r')) := by
      intro it' r' g1 g2 g3
      refine ⟨⟨by simpa using hx.1.1, fun j hj => ?_⟩, by simpa using hx.2.1, fun j jt jr h1 h2 => ?_⟩
      · rcases List.mem_or_eq_of_mem_set hj with hj | rfl
        · exact hx.1.2 j hj
        · unfold itemOk at hitok ⊢; rw [g1, g2]; exact hitok
      · dsimp only at h1 h2
        by_cases e : I = j
        · subst e
          rw [List.getElem?_set_self hIl] at h1
          rw [List.getElem?_set_self (by rw [hx.2.1]; exact hIl)] at h2
          cases h1; cases h2
          rw [g1, g3, hrl]
        · rw [List.getElem?_set_ne e] at h1 h2
          exact hx.2.2 j jt jr h1 h2
    cases hrev : c.review
    · simp only [cond_false]
      refine ⟨true, _, _, rfl, rfl, fun _ => ⟨stok _ _ rfl (by simp) (by simp), ⟨rfl, keys_del q2 _, fun i k => ?_⟩, htick, by simp⟩⟩
      dsimp only
      rw [mget_del _ _ _ q2.2, opn_set _ I K r hr (by omega), q3]
      by_cases e : i = (I : Int) ∧ k = (K : Int)
      · rw [if_pos e, if_pos (by rw [e.1, e.2])]
      · rw [if_neg e, if_neg (fun e2 => e ⟨(Prod.mk.inj e2).1, (Prod.mk.inj e2).2⟩)]
    · simp only [cond_true]
      cases hrk : r[K]
      · simp only [Bool.not_false, opt_t, Bool.false_or, Bool.true_and, Option.bind_some]
        by_cases hm : it.marks[K] = c.mark
        · rw [show (it.marks[K] != c.mark) = false from by simp [hm], show (it.marks[K] == c.mark) = true from by simp [hm], cond_false]
          refine ⟨true, _, _, rfl, rfl, fun _ => ⟨?_, ⟨rfl, keys_put q2 hin _, fun i k => ?_⟩, htick, rfl⟩⟩
          · have := stok it (r.set K true) rfl rfl (by simp)
            rw [set_same v3] at this
            exact this
          · dsimp only
            rw [mget_put, opn_set _ I K r hr (by omega), q3]
            by_cases e : i = (I : Int) ∧ k = (K : Int)
            · rw [if_pos e, if_pos (by rw [e.1, e.2])]
            · rw [if_neg e, if_neg (fun e2 => e ⟨(Prod.mk.inj e2).1, (Prod.mk.inj e2).2⟩)]
        · rw [show (it.marks[K] != c.mark) = true from by simp [hm], show (it.marks[K] == c.mark) = false from by simp [hm], cond_true]
          exact ⟨false, _, _, rfl, rfl, by simp⟩
      · simp only [Bool.not_true, opt_f, Bool.true_or, Bool.false_and, Option.bind_some, cond_true]
        exact ⟨false, _, _, rfl, rfl, by simp⟩
  · refine ⟨false, s, x, ?_, ?_, by simp⟩
    · cases n1 <;> cases t <;> cases a <;> cases m <;> first | rfl | exact absurd ⟨rfl, rfl, rfl, rfl⟩ hall
    · have hs' : s = s := rfl
      cases n1 <;> cases t <;> cases a <;> cases m <;> first | rfl | exact absurd ⟨rfl, rfl, rfl, rfl⟩ hall

end Go.Proofs.YtjbkbiofklgblaaGreatDoor

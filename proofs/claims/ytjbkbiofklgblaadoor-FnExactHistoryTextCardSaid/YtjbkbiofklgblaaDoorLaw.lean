/- Plain lemmas on what the law FnExactHistoryText makes of its arguments: sizes, copies, comparisons. No condition. -/
import Derived.Test.YtjbkbiofklgblaaDoorWalk2
set_option maxRecDepth 4000
set_option maxHeartbeats 1000000
set_option linter.unusedVariables false
set_option linter.unusedSimpArgs false
set_option linter.unusedSectionVars false

namespace Go.Proofs.YtjbkbiofklgblaaDoor
open Go.AM
def nStringS (l : List ByteArray) : Nat := l.length + (l.map fun x => x.size).sum
def wfStringS (l : List ByteArray) : Prop := l.length ≤ maxN ∧ ∀ x ∈ l, x.size ≤ maxN
def nIntS (l : List Int) : Nat := l.length
def wfIntS (l : List Int) : Prop := l.length ≤ maxN ∧ ∀ x ∈ l, inR x
def nItem (x : Item) : Nat := nStringS x.names + nIntS x.marks
def wfItem (x : Item) : Prop := wfStringS x.names ∧ wfIntS x.marks ∧ True
theorem hasString_9 {ds : List D} (h : HasT te 9 ds) : ∃ x : ByteArray, ds = [.v (.string x)] ∧ x.size ≤ maxN := by
  cases h with
  | str h' hw => cases h'; exact ⟨_, rfl, hw⟩
  | int h' _ => cases h'
  | bool h' => cases h'
  | slice h' _ _ => cases h'
  | struct h' _ _ => cases h'
theorem hasStringS_41 {ds : List D} (h : HasT te 41 ds) : ∃ x : List ByteArray, ds = [.s (x.map encStr)] ∧ wfStringS x := by
  cases h with
  | slice h' hl hx =>
    cases h'
    obtain ⟨l, rfl, hp⟩ := list_of_each (f := encStr) (p := fun x => x.size ≤ maxN) fun x hx' => (hasString_9 (hx x hx')).imp fun a ha => ⟨ha.2, ha.1⟩
    exact ⟨l, rfl, by simpa using hl, hp⟩
  | int h' _ => cases h'
  | bool h' => cases h'
  | str h' _ => cases h'
  | struct h' _ _ => cases h'
theorem hasInt_3 {ds : List D} (h : HasT te 3 ds) : ∃ x : Int, ds = [.v (.int .i64 x)] ∧ inR x := by
  cases h with
  | int h' hw => cases h'; exact ⟨_, rfl, inR_of hw⟩
  | bool h' => cases h'
  | str h' _ => cases h'
  | slice h' _ _ => cases h'
  | struct h' _ _ => cases h'
theorem hasIntS_42 {ds : List D} (h : HasT te 42 ds) : ∃ x : List Int, ds = [.s (x.map encInt)] ∧ wfIntS x := by
  cases h with
  | slice h' hl hx =>
    cases h'
    obtain ⟨l, rfl, hp⟩ := list_of_each (f := encInt) (p := fun x => inR x) fun x hx' => (hasInt_3 (hx x hx')).imp fun a ha => ⟨ha.2, ha.1⟩
    exact ⟨l, rfl, by simpa using hl, hp⟩
  | int h' _ => cases h'
  | bool h' => cases h'
  | str h' _ => cases h'
  | struct h' _ _ => cases h'
theorem hasBool_4 {ds : List D} (h : HasT te 4 ds) : ∃ x : Bool, ds = [.v (.bool x)] ∧ True := by
  cases h with
  | bool h' => cases h'; exact ⟨_, rfl, trivial⟩
  | int h' _ => cases h'
  | str h' _ => cases h'
  | slice h' _ _ => cases h'
  | struct h' _ _ => cases h'
theorem hasItem_44 {ds : List D} (h : HasT te 44 ds) : ∃ x : Item, ds = encItem x ∧ wfItem x := by
  cases h with
  | struct h' hl hf =>
    cases h'
    match ds, hl with
    | [c0, c1, c2], _ =>
      obtain ⟨x0, e0, w0⟩ := hasStringS_41 (hf (0, 41) (by simp) _ rfl)
      obtain ⟨x1, e1, w1⟩ := hasIntS_42 (hf (1, 42) (by simp) _ rfl)
      obtain ⟨x2, e2, w2⟩ := hasBool_4 (hf (2, 4) (by simp) _ rfl)
      cases e0
      cases e1
      cases e2
      exact ⟨⟨x0, x1, x2⟩, rfl, ⟨w0, w1, w2⟩⟩
  | int h' _ => cases h'
  | bool h' => cases h'
  | str h' _ => cases h'
  | slice h' _ _ => cases h'
def nItemS (l : List Item) : Nat := l.length + (l.map fun x => nItem x).sum
def wfItemS (l : List Item) : Prop := l.length ≤ maxN ∧ ∀ x ∈ l, wfItem x
theorem hasItemS_22 {ds : List D} (h : HasT te 22 ds) : ∃ x : List Item, ds = [.s (x.map encItem)] ∧ wfItemS x := by
  cases h with
  | slice h' hl hx =>
    cases h'
    obtain ⟨l, rfl, hp⟩ := list_of_each (f := encItem) (p := fun x => wfItem x) fun x hx' => (hasItem_44 (hx x hx')).imp fun a ha => ⟨ha.2, ha.1⟩
    exact ⟨l, rfl, by simpa using hl, hp⟩
  | int h' _ => cases h'
  | bool h' => cases h'
  | str h' _ => cases h'
  | struct h' _ _ => cases h'
def wfChange (x : Change) : Prop := inR x.tick ∧ inR x.caller ∧ inR x.item ∧ inR x.name ∧ inR x.mark ∧ True
theorem hasChange_52 {ds : List D} (h : HasT te 52 ds) : ∃ x : Change, ds = encChange x ∧ wfChange x := by
  cases h with
  | struct h' hl hf =>
    cases h'
    match ds, hl with
    | [c0, c1, c2, c3, c4, c5], _ =>
      obtain ⟨x0, e0, w0⟩ := hasInt_3 (hf (0, 3) (by simp) _ rfl)
      obtain ⟨x1, e1, w1⟩ := hasInt_3 (hf (1, 3) (by simp) _ rfl)
      obtain ⟨x2, e2, w2⟩ := hasInt_3 (hf (2, 3) (by simp) _ rfl)
      obtain ⟨x3, e3, w3⟩ := hasInt_3 (hf (3, 3) (by simp) _ rfl)
      obtain ⟨x4, e4, w4⟩ := hasInt_3 (hf (4, 3) (by simp) _ rfl)
      obtain ⟨x5, e5, w5⟩ := hasBool_4 (hf (5, 4) (by simp) _ rfl)
      cases e0
      cases e1
      cases e2
      cases e3
      cases e4
      cases e5
      exact ⟨⟨x0, x1, x2, x3, x4, x5⟩, rfl, ⟨w0, w1, w2, w3, w4, w5⟩⟩
  | int h' _ => cases h'
  | bool h' => cases h'
  | str h' _ => cases h'
  | slice h' _ _ => cases h'
def nChangeS (l : List Change) : Nat := l.length
def wfChangeS (l : List Change) : Prop := l.length ≤ maxN ∧ ∀ x ∈ l, wfChange x
theorem hasChangeS_23 {ds : List D} (h : HasT te 23 ds) : ∃ x : List Change, ds = [.s (x.map encChange)] ∧ wfChangeS x := by
  cases h with
  | slice h' hl hx =>
    cases h'
    obtain ⟨l, rfl, hp⟩ := list_of_each (f := encChange) (p := fun x => wfChange x) fun x hx' => (hasChange_52 (hx x hx')).imp fun a ha => ⟨ha.2, ha.1⟩
    exact ⟨l, rfl, by simpa using hl, hp⟩
  | int h' _ => cases h'
  | bool h' => cases h'
  | str h' _ => cases h'
  | struct h' _ _ => cases h'
theorem eq_Change (a b : Change) : laws_eqChange_p a b = some (decide (a = b)) := by
  cases a with | mk a0 a1 a2 a3 a4 a5 =>
  cases b with | mk b0 b1 b2 b3 b4 b5 =>
  unfold laws_eqChange_p
  by_cases e0 : a0 = b0
  case neg => simp [show (a0 != b0) = true from by simpa using e0, e0]
  subst e0
  simp only [bne_self_eq_false, cond_false, beq_self_eq_true, decide_true, Bool.not_true]
  by_cases e1 : a1 = b1
  case neg => simp [show (a1 != b1) = true from by simpa using e1, e1]
  subst e1
  simp only [bne_self_eq_false, cond_false, beq_self_eq_true, decide_true, Bool.not_true]
  by_cases e2 : a2 = b2
  case neg => simp [show (a2 != b2) = true from by simpa using e2, e2]
  subst e2
  simp only [bne_self_eq_false, cond_false, beq_self_eq_true, decide_true, Bool.not_true]
  by_cases e3 : a3 = b3
  case neg => simp [show (a3 != b3) = true from by simpa using e3, e3]
  subst e3
  simp only [bne_self_eq_false, cond_false, beq_self_eq_true, decide_true, Bool.not_true]
  by_cases e4 : a4 = b4
  case neg => simp [show (a4 != b4) = true from by simpa using e4, e4]
  subst e4
  simp only [bne_self_eq_false, cond_false, beq_self_eq_true, decide_true, Bool.not_true]
  by_cases e5 : a5 = b5
  case neg => simp [show (a5 == b5) = false from by simpa using e5, e5]
  subst e5
  simp only [bne_self_eq_false, cond_false, beq_self_eq_true, decide_true, Bool.not_true]
  all_goals (try simp)
theorem eq_ChangeS_l (ys : List Change) : ∀ (pre zs : List Change), ys.length = zs.length → laws_eqChangeS_l1 (pre ++ zs) ys pre.length = some (decide (ys = zs)) := by
  induction ys with
  | nil => intro pre zs h; obtain rfl : zs = [] := List.eq_nil_of_length_eq_zero h.symm; rw [laws_eqChangeS_l1]; simp
  | cons y ys ih =>
    intro pre zs h
    cases zs with
    | nil => simp at h
    | cons z zs =>
    rw [laws_eqChangeS_l1, bnd (getI_pre pre z zs rfl), bnd (eq_Change y z)]
    have h1 := ih (pre ++ [z]) zs (by simpa using h)
    simp only [List.append_assoc, List.cons_append, List.nil_append, List.length_append, List.length_cons, List.length_nil, Nat.zero_add] at h1
    by_cases e : y = z
    · rw [decide_eq_true e]; simp only [Bool.not_true, cond_false]; rw [h1, e]; simp
    · rw [decide_eq_false e]; simp [e]
theorem eq_ChangeS (a b : List Change) : laws_eqChangeS_p a b = some (decide (a = b)) := by
  unfold laws_eqChangeS_p
  by_cases h : a.length = b.length
  · rw [show ((a.length : Int) != (b.length : Int)) = false from by simp [h], cond_false]
    exact eq_ChangeS_l a [] b h
  · rw [show ((a.length : Int) != (b.length : Int)) = true from by simpa using (by omega), cond_true]
    rw [decide_eq_false (fun e => h (by rw [e]))]
theorem eq_IntS_l (ys : List Int) : ∀ (pre zs : List Int), ys.length = zs.length → laws_eqIntS_l1 (pre ++ zs) ys pre.length = some (decide (ys = zs)) := by
  induction ys with
  | nil => intro pre zs h; obtain rfl : zs = [] := List.eq_nil_of_length_eq_zero h.symm; rw [laws_eqIntS_l1]; simp
  | cons y ys ih =>
    intro pre zs h
    cases zs with
    | nil => simp at h
    | cons z zs =>
    rw [laws_eqIntS_l1, bnd (getI_pre pre z zs rfl)]
    have h1 := ih (pre ++ [z]) zs (by simpa using h)
    simp only [List.append_assoc, List.cons_append, List.nil_append, List.length_append, List.length_cons, List.length_nil, Nat.zero_add] at h1
    by_cases e : y = z
    · subst e; simp only [bne_self_eq_false, cond_false]; rw [h1]; simp
    · rw [show (y != z) = true from by simpa using e]; simp [e]
theorem eq_IntS (a b : List Int) : laws_eqIntS_p a b = some (decide (a = b)) := by
  unfold laws_eqIntS_p
  by_cases h : a.length = b.length
  · rw [show ((a.length : Int) != (b.length : Int)) = false from by simp [h], cond_false]
    exact eq_IntS_l a [] b h
  · rw [show ((a.length : Int) != (b.length : Int)) = true from by simpa using (by omega), cond_true]
    rw [decide_eq_false (fun e => h (by rw [e]))]
theorem eq_StringS_l (ys : List ByteArray) : ∀ (pre zs : List ByteArray), ys.length = zs.length → laws_eqStringS_l1 (pre ++ zs) ys pre.length = some (decide (ys = zs)) := by
  induction ys with
  | nil => intro pre zs h; obtain rfl : zs = [] := List.eq_nil_of_length_eq_zero h.symm; rw [laws_eqStringS_l1]; simp
  | cons y ys ih =>
    intro pre zs h
    cases zs with
    | nil => simp at h
    | cons z zs =>
    rw [laws_eqStringS_l1, bnd (getI_pre pre z zs rfl)]
    have h1 := ih (pre ++ [z]) zs (by simpa using h)
    simp only [List.append_assoc, List.cons_append, List.nil_append, List.length_append, List.length_cons, List.length_nil, Nat.zero_add] at h1
    by_cases e : y = z
    · subst e; simp only [decide_true, Bool.not_true, cond_false]; rw [h1]; simp
    · simp [e]
theorem eq_StringS (a b : List ByteArray) : laws_eqStringS_p a b = some (decide (a = b)) := by
  unfold laws_eqStringS_p
  by_cases h : a.length = b.length
  · rw [show ((a.length : Int) != (b.length : Int)) = false from by simp [h], cond_false]
    exact eq_StringS_l a [] b h
  · rw [show ((a.length : Int) != (b.length : Int)) = true from by simpa using (by omega), cond_true]
    rw [decide_eq_false (fun e => h (by rw [e]))]
theorem eq_Item (a b : Item) : laws_eqItem_p a b = some (decide (a = b)) := by
  cases a with | mk a0 a1 a2 =>
  cases b with | mk b0 b1 b2 =>
  unfold laws_eqItem_p
  by_cases e0 : a0 = b0
  case neg => simp [eq_StringS, e0, bnd]
  subst e0
  simp only [eq_StringS, decide_true, Option.bind_some, Bool.not_true, cond_false, bne_self_eq_false, beq_self_eq_true]
  by_cases e1 : a1 = b1
  case neg => simp [eq_IntS, e1, bnd]
  subst e1
  simp only [eq_IntS, decide_true, Option.bind_some, Bool.not_true, cond_false, bne_self_eq_false, beq_self_eq_true]
  by_cases e2 : a2 = b2
  case neg => simp [show (a2 == b2) = false from by simpa using e2, e2]
  subst e2
  simp only [bne_self_eq_false, cond_false, beq_self_eq_true, decide_true, Bool.not_true]
  all_goals (try simp)
theorem eq_ItemS_l (ys : List Item) : ∀ (pre zs : List Item), ys.length = zs.length → laws_eqItemS_l1 (pre ++ zs) ys pre.length = some (decide (ys = zs)) := by
  induction ys with
  | nil => intro pre zs h; obtain rfl : zs = [] := List.eq_nil_of_length_eq_zero h.symm; rw [laws_eqItemS_l1]; simp
  | cons y ys ih =>
    intro pre zs h
    cases zs with
    | nil => simp at h
    | cons z zs =>
    rw [laws_eqItemS_l1, bnd (getI_pre pre z zs rfl), bnd (eq_Item y z)]
    have h1 := ih (pre ++ [z]) zs (by simpa using h)
    simp only [List.append_assoc, List.cons_append, List.nil_append, List.length_append, List.length_cons, List.length_nil, Nat.zero_add] at h1
    by_cases e : y = z
    · rw [decide_eq_true e]; simp only [Bool.not_true, cond_false]; rw [h1, e]; simp
    · rw [decide_eq_false e]; simp [e]
theorem eq_ItemS (a b : List Item) : laws_eqItemS_p a b = some (decide (a = b)) := by
  unfold laws_eqItemS_p
  by_cases h : a.length = b.length
  · rw [show ((a.length : Int) != (b.length : Int)) = false from by simp [h], cond_false]
    exact eq_ItemS_l a [] b h
  · rw [show ((a.length : Int) != (b.length : Int)) = true from by simpa using (by omega), cond_true]
    rw [decide_eq_false (fun e => h (by rw [e]))]
theorem sz_ChangeS (a : List Change) (hw : wfChangeS a) (n : Int) (h0 : 0 ≤ n) (hn : n ≤ 1048576) : ∃ r, laws_szChangeS_p a n = some r ∧ (r < 0 ∨ (0 ≤ r ∧ (nChangeS a : Int) + r ≤ n)) := by
  have hl := hw.1
  unfold maxN at hl
  unfold laws_szChangeS_p
  rw [w64_in (by omega)]
  by_cases h : n - (a.length : Int) < 0
  · rw [decide_eq_true h]; exact ⟨-1, rfl, .inl (by decide)⟩
  · rw [decide_eq_false h]; exact ⟨_, rfl, .inr ⟨by omega, by unfold nChangeS; omega⟩⟩
theorem sz_IntS (a : List Int) (hw : wfIntS a) (n : Int) (h0 : 0 ≤ n) (hn : n ≤ 1048576) : ∃ r, laws_szIntS_p a n = some r ∧ (r < 0 ∨ (0 ≤ r ∧ (nIntS a : Int) + r ≤ n)) := by
  have hl := hw.1
  unfold maxN at hl
  unfold laws_szIntS_p
  rw [w64_in (by omega)]
  by_cases h : n - (a.length : Int) < 0
  · rw [decide_eq_true h]; exact ⟨-1, rfl, .inl (by decide)⟩
  · rw [decide_eq_false h]; exact ⟨_, rfl, .inr ⟨by omega, by unfold nIntS; omega⟩⟩
theorem sz_StringS_l (ys : List ByteArray) (hw : ∀ x ∈ ys, x.size ≤ maxN) : ∀ (k : Nat) (n : Int), 0 ≤ n → n ≤ 1048576 → ∃ r, laws_szStringS_l1 ys k n = some r ∧ (r < 0 ∨ (0 ≤ r ∧ (((ys.map fun x => x.size).sum : Nat) : Int) + r ≤ n)) := by
  induction ys with
  | nil => intro k n h0 hn; exact ⟨n, by rw [laws_szStringS_l1], .inr ⟨h0, by simp⟩⟩
  | cons y ys ih =>
    intro k n h0 hn
    rw [laws_szStringS_l1]
    have hy := hw y (by simp)
    unfold maxN at hy
    rw [w64_in (by omega)]
    by_cases h : n - (y.size : Int) < 0
    · rw [decide_eq_true h]; exact ⟨-1, rfl, .inl (by decide)⟩
    · rw [decide_eq_false h]
      obtain ⟨r, h1, h2⟩ := ih (fun x hx => hw x (by simp [hx])) (k + 1) (n - (y.size : Int)) (by omega) (by omega)
      refine ⟨r, h1, h2.imp (fun h => h) fun h => ⟨h.1, ?_⟩⟩
      simp only [List.map_cons, List.sum_cons]
      omega
theorem sz_StringS (a : List ByteArray) (hw : wfStringS a) (n : Int) (h0 : 0 ≤ n) (hn : n ≤ 1048576) : ∃ r, laws_szStringS_p a n = some r ∧ (r < 0 ∨ (0 ≤ r ∧ (nStringS a : Int) + r ≤ n)) := by
  have hl := hw.1
  unfold maxN at hl
  unfold laws_szStringS_p
  rw [w64_in (by omega)]
  by_cases h : n - (a.length : Int) < 0
  · rw [decide_eq_true h]; exact ⟨-1, rfl, .inl (by decide)⟩
  · rw [decide_eq_false h]
    obtain ⟨r, h1, h2⟩ := sz_StringS_l a hw.2 0 (n - (a.length : Int)) (by omega) (by omega)
    exact ⟨r, h1, h2.imp (fun h => h) fun h => ⟨h.1, by unfold nStringS; omega⟩⟩
theorem sz_Item (a : Item) (hw : wfItem a) (n : Int) (h0 : 0 ≤ n) (hn : n ≤ 1048576) : ∃ r, laws_szItem_p a n = some r ∧ (r < 0 ∨ (0 ≤ r ∧ (nItem a : Int) + r ≤ n)) := by
  unfold laws_szItem_p
  obtain ⟨w0, w1, w2⟩ := hw
  obtain ⟨r1, h1, g1⟩ := sz_StringS a.names w0 n (by omega) (by omega)
  rw [bnd h1]
  rcases g1 with g1 | ⟨g1, k1⟩
  · rw [decide_eq_true g1]; exact ⟨-1, rfl, .inl (by decide)⟩
  rw [decide_eq_false (by omega : ¬ r1 < 0), cond_false]
  obtain ⟨r2, h2, g2⟩ := sz_IntS a.marks w1 r1 (by omega) (by omega)
  rw [bnd h2]
  rcases g2 with g2 | ⟨g2, k2⟩
  · rw [decide_eq_true g2]; exact ⟨-1, rfl, .inl (by decide)⟩
  rw [decide_eq_false (by omega : ¬ r2 < 0), cond_false]
  exact ⟨_, rfl, .inr ⟨by omega, by unfold nItem; omega⟩⟩
theorem sz_ItemS_l (ys : List Item) (hw : ∀ x ∈ ys, wfItem x) : ∀ (k : Nat) (n : Int), 0 ≤ n → n ≤ 1048576 → ∃ r, laws_szItemS_l1 ys k n = some r ∧ (r < 0 ∨ (0 ≤ r ∧ (((ys.map fun x => nItem x).sum : Nat) : Int) + r ≤ n)) := by
  induction ys with
  | nil => intro k n h0 hn; exact ⟨n, by rw [laws_szItemS_l1], .inr ⟨h0, by simp⟩⟩
  | cons y ys ih =>
    intro k n h0 hn
    rw [laws_szItemS_l1]
    obtain ⟨r0, h1, h2⟩ := sz_Item y (hw y (by simp)) n h0 hn
    rw [bnd h1]
    rcases h2 with h2 | ⟨h2, h3⟩
    · rw [decide_eq_true h2]; exact ⟨-1, rfl, .inl (by decide)⟩
    · rw [decide_eq_false (by omega)]
      obtain ⟨r, h4, h5⟩ := ih (fun x hx => hw x (by simp [hx])) (k + 1) r0 h2 (by omega)
      refine ⟨r, h4, h5.imp (fun h => h) fun h => ⟨h.1, ?_⟩⟩
      simp only [List.map_cons, List.sum_cons]
      omega
theorem sz_ItemS (a : List Item) (hw : wfItemS a) (n : Int) (h0 : 0 ≤ n) (hn : n ≤ 1048576) : ∃ r, laws_szItemS_p a n = some r ∧ (r < 0 ∨ (0 ≤ r ∧ (nItemS a : Int) + r ≤ n)) := by
  have hl := hw.1
  unfold maxN at hl
  unfold laws_szItemS_p
  rw [w64_in (by omega)]
  by_cases h : n - (a.length : Int) < 0
  · rw [decide_eq_true h]; exact ⟨-1, rfl, .inl (by decide)⟩
  · rw [decide_eq_false h]
    obtain ⟨r, h1, h2⟩ := sz_ItemS_l a hw.2 0 (n - (a.length : Int)) (by omega) (by omega)
    exact ⟨r, h1, h2.imp (fun h => h) fun h => ⟨h.1, by unfold nItemS; omega⟩⟩
theorem to_Change (a : Change) : laws_toChange_p a = some a := by
  unfold laws_toChange_p
  all_goals rfl
theorem to_ChangeS_l (z : Change) (ys : List Change) (hy : ∀ y ∈ ys, laws_toChange_p y = some y) : ∀ pre : List Change, laws_toChangeS_l1 ys pre.length (pre ++ List.replicate ys.length z) = some (pre ++ ys) := by
  induction ys with
  | nil => intro pre; rw [laws_toChangeS_l1]; simp
  | cons y ys ih =>
    intro pre
    rw [laws_toChangeS_l1, bnd (hy y (by simp)), List.length_cons, bnd (show getI (pre ++ List.replicate (ys.length + 1) z) (pre.length : Int) = some z from getI_pre pre z (List.replicate ys.length z) rfl), set_step]
    have := ih (fun x hx => hy x (by simp [hx])) (pre ++ [y])
    simpa using this
theorem to_ChangeS (a : List Change) (h : nChangeS a ≤ 1048576) : laws_toChangeS_p a = some a := by
  have hl : a.length ≤ 1048576 := by unfold nChangeS at h; omega
  unfold laws_toChangeS_p
  rw [bnd (x := ()) (by rw [decide_eq_true (by omega), fits_of (by simp only [Int.toNat_natCast]; omega)]; rfl)]
  exact to_ChangeS_l _ a (fun y _ => to_Change y) []
theorem to_IntS_l (z : Int) (ys : List Int) : ∀ pre : List Int, laws_toIntS_l1 ys pre.length (pre ++ List.replicate ys.length z) = some (pre ++ ys) := by
  induction ys with
  | nil => intro pre; rw [laws_toIntS_l1]; simp
  | cons y ys ih =>
    intro pre
    rw [laws_toIntS_l1, List.length_cons, bnd (show getI (pre ++ List.replicate (ys.length + 1) z) (pre.length : Int) = some z from getI_pre pre z (List.replicate ys.length z) rfl), set_step]
    have := ih (pre ++ [y])
    simpa using this
theorem to_IntS (a : List Int) (h : nIntS a ≤ 1048576) : laws_toIntS_p a = some a := by
  have hl : a.length ≤ 1048576 := by unfold nIntS at h; omega
  unfold laws_toIntS_p
  rw [bnd (x := ()) (by rw [decide_eq_true (by omega), fits_of (by simp only [Int.toNat_natCast]; omega)]; rfl)]
  exact to_IntS_l _ a []
theorem to_StringS_l (z : ByteArray) (ys : List ByteArray) : ∀ pre : List ByteArray, laws_toStringS_l1 ys pre.length (pre ++ List.replicate ys.length z) = some (pre ++ ys) := by
  induction ys with
  | nil => intro pre; rw [laws_toStringS_l1]; simp
  | cons y ys ih =>
    intro pre
    rw [laws_toStringS_l1, List.length_cons, bnd (show getI (pre ++ List.replicate (ys.length + 1) z) (pre.length : Int) = some z from getI_pre pre z (List.replicate ys.length z) rfl), set_step]
    have := ih (pre ++ [y])
    simpa using this
theorem to_StringS (a : List ByteArray) (h : nStringS a ≤ 1048576) : laws_toStringS_p a = some a := by
  have hl : a.length ≤ 1048576 := by unfold nStringS at h; omega
  unfold laws_toStringS_p
  rw [bnd (x := ()) (by rw [decide_eq_true (by omega), fits_of (by simp only [Int.toNat_natCast]; omega)]; rfl)]
  exact to_StringS_l _ a []
theorem to_Item (a : Item) (h : nItem a ≤ 1048576) : laws_toItem_p a = some a := by
  unfold laws_toItem_p
  unfold nItem at h
  rw [bnd (to_StringS a.names (by omega))]
  rw [bnd (to_IntS a.marks (by omega))]
  all_goals rfl
theorem to_ItemS_l (z : Item) (ys : List Item) (hy : ∀ y ∈ ys, laws_toItem_p y = some y) : ∀ pre : List Item, laws_toItemS_l1 ys pre.length (pre ++ List.replicate ys.length z) = some (pre ++ ys) := by
  induction ys with
  | nil => intro pre; rw [laws_toItemS_l1]; simp
  | cons y ys ih =>
    intro pre
    rw [laws_toItemS_l1, bnd (hy y (by simp)), List.length_cons, bnd (show getI (pre ++ List.replicate (ys.length + 1) z) (pre.length : Int) = some z from getI_pre pre z (List.replicate ys.length z) rfl), set_step]
    have := ih (fun x hx => hy x (by simp [hx])) (pre ++ [y])
    simpa using this
theorem to_ItemS (a : List Item) (h : nItemS a ≤ 1048576) : laws_toItemS_p a = some a := by
  have hl : a.length ≤ 1048576 := by unfold nItemS at h; omega
  unfold laws_toItemS_p
  rw [bnd (x := ()) (by rw [decide_eq_true (by omega), fits_of (by simp only [Int.toNat_natCast]; omega)]; rfl)]
  exact to_ItemS_l _ a (fun y hy => to_Item y (Nat.le_trans (Nat.le_trans (le_sum hy (fun x => nItem x)) (Nat.le_add_left _ _)) h)) []

end Go.Proofs.YtjbkbiofklgblaaDoor

/- A part of my own walk library: how the model runs a function, told over abstract values. It states no law of the program; no condition. -/
import Derived.Test.YtppdkfgmeajciaaAm3
import Derived.WalkKit
import Derived.ProofKit
import Derived.OpenShut
import Derived.Carry
set_option linter.unusedSimpArgs false
set_option linter.unusedVariables false
set_option linter.unusedSectionVars false

section
namespace Go.AM

/-! What can be read as data of a known type is an immutable value by value. -/

inductive HasT (te : TE) : Nat → List D → Prop
  | int {t k s b z n} : te t = some ⟨.int k, s, b, z⟩ → (Lit.int k n).wf = true → HasT te t [.v (.int k n)]
  | bool {t s b z x} : te t = some ⟨.bool, s, b, z⟩ → HasT te t [.v (.bool x)]
  | str {t s b z x} : te t = some ⟨.str, s, b, z⟩ → x.size ≤ maxLen → HasT te t [.v (.string x)]
  | slice {t e s b z xs} : te t = some ⟨.slice e, s, b, z⟩ → xs.length ≤ maxN → (∀ x ∈ xs, HasT te e x) → HasT te t [.s xs]
  | struct {t fs s b z cs} : te t = some ⟨.struct fs, s, b, z⟩ → cs.length = s → (∀ f ∈ fs, ∀ ti, te f.2 = some ti → HasT te f.2 ((cs.drop f.1).take ti.size)) → HasT te t cs

/-- the fields lie one behind the other -/
def tilesFrom (te : TE) : Nat → List (Nat × Nat) → Nat → Bool
  | k, [], n => Nat.beq k n
  | k, (off, ft) :: fs, n => Nat.beq k off && (match te ft with | some ti => tilesFrom te (k + ti.size) fs n | none => false)

/-- a type that is known to the bottom -/
def readT (te : TE) : Nat → Nat → Bool
  | 0, _ => false
  | d + 1, t =>
    match te t with
    | some ⟨.int _, s, _, _⟩ => Nat.beq s 1
    | some ⟨.bool, s, _, _⟩ => Nat.beq s 1
    | some ⟨.str, s, _, _⟩ => Nat.beq s 1
    | some ⟨.slice e, s, _, _⟩ => Nat.beq s 1 && readT te d e && (match te e with | some ti => Nat.blt 0 ti.size | none => false)
    | some ⟨.struct fs, s, _, _⟩ => fs.all (fun f => readT te d f.2) && tilesFrom te 0 fs s
    | _ => false

theorem mapM_range_get {β : Type} {f : Nat → Option β} : ∀ {n : Nat} {r : List β}, (List.range n).mapM f = some r → r.length = n ∧ ∀ i, i < n → f i = r[i]? := by
  have gen : ∀ {α : Type} {f : α → Option β} {l : List α} {r : List β}, l.mapM f = some r → r.length = l.length ∧ ∀ (i : Nat) (x : α), l[i]? = some x → f x = r[i]? := by
    intro α f l
    induction l with
    | nil => intro r h; simp at h; subst h; simp
    | cons a l ih =>
      intro r h
      rw [List.mapM_cons] at h
      cases ha : f a with
      | none => simp [ha] at h
      | some b =>
        cases hl : l.mapM f with
        | none => simp [ha, hl] at h
        | some r' =>
          simp [ha, hl] at h
          subst h
          obtain ⟨h1, h2⟩ := ih hl
          refine ⟨by simp [h1], fun i x hi => ?_⟩
          cases i with
          | zero => simp at hi; subst hi; simp [ha]
          | succ i => simpa using h2 i x (by simpa using hi)
  intro n r h
  obtain ⟨h1, h2⟩ := gen h
  exact ⟨by simpa using h1, fun i hi => h2 i i (by simp [hi])⟩

theorem cells?_block {w : World} {base : Nat} {A : Addr} {n : Nat} {cs : List Value} (h : w.cells? base A n = some cs) (hn : 0 < n) :
    ∃ arr el fz, w.heap[A.block]? = some (.cells arr el fz) ∧ A.spot = none ∧ cs = (arr.toList.drop A.off).take n ∧ A.off + n ≤ arr.size := by
  unfold World.cells? at h
  split at h
  · obtain ⟨hl, hg⟩ := mapM_range_get h
    have h0 := hg 0 hn
    rw [List.getElem?_eq_getElem (by omega), Addr.add_zero'] at h0
    have hb : ∃ arr el fz, w.heap[A.block]? = some (.cells arr el fz) ∧ A.spot = none := by
      unfold World.cell? at h0
      split at h0
      · rename_i arr el fz hh
        refine ⟨arr, el, fz, hh, ?_⟩
        split at h0
        · cases h0
        · rename_i hs; simpa using hs
      · cases h0
    obtain ⟨arr, el, fz, hh, hsp⟩ := hb
    obtain ⟨bk, off, sp⟩ := A
    simp only at hsp hh
    subst hsp
    have hcell : ∀ i, i < n → arr[off + i]? = cs[i]? := by
      intro i hi
      have := hg i hi
      rw [Addr.add_lit] at this
      simpa [World.cell?, hh] using this
    have hle : off + n ≤ arr.size := by
      have := hcell (n - 1) (by omega)
      rw [List.getElem?_eq_getElem (by omega)] at this
      have := (Array.getElem?_eq_some_iff.1 this).1
      omega
    refine ⟨arr, el, fz, hh, rfl, ?_, hle⟩
    apply List.ext_getElem?
    intro i
    rw [List.getElem?_take]
    split
    · rename_i hi
      rw [List.getElem?_drop, ← hcell i hi]; simp
    · rename_i hi; rw [List.getElem?_eq_none (by omega)]
  · cases h

section
variable {P : Program} {te : TE} (T : TEok P te) {H : Type} {enc : TypeId × Value → H} {w : World}
include T

theorem cellsOf_te {t : Nat} {ti : TI} (h : te t = some ti) : P.cellsOf t = ti.size := by
  obtain ⟨i, d, h1, h2, rfl⟩ := te_parts T h
  simp [Program.cellsOf, h1]

theorem trod_open {base : Nat} {spare : Nat → Bool} {held : Bool} : ∀ (dp fuel t : Nat) (cs : List Value) (x : DataW H × List MemPlace), readT te dp t = true → DataW.trod enc P w base spare held fuel t cs = some x →
    ∃ ds : List D, ARL w (fun b => b < w.heap.size) noLoc [] ds cs ∧ HasT te t ds := by
  intro dp
  induction dp with
  | zero => intro fuel t cs x h; simp [readT] at h
  | succ dp ih =>
    intro fuel t cs x hr h
    unfold readT at hr
    split at hr
    · rename_i k s b z ht
      obtain ⟨n, rfl, _, hw⟩ := DataW.trod_int (und_int T ht) h
      exact ⟨[.v (.int k n)], .cons (fp := []) (fp' := []) rfl .v .nil, .int ht hw⟩
    · rename_i s b z ht
      obtain ⟨n, rfl, _⟩ := DataW.trod_bool (und_bool T ht) h
      exact ⟨[.v (.bool n)], .cons (fp := []) (fp' := []) rfl .v .nil, .bool ht⟩
    · rename_i s b z ht
      obtain ⟨n, rfl, _, hw⟩ := DataW.trod_string (und_str T ht) h
      exact ⟨[.v (.string n)], .cons (fp := []) (fp' := []) rfl .v .nil, .str ht hw⟩
    · rename_i e s b z ht
      simp only [Bool.and_eq_true] at hr
      obtain ⟨⟨_, hre⟩, hpos⟩ := hr
      split at hpos
      · rename_i ti hti
        have hpos : 0 < ti.size := by simpa [Nat.blt_eq] using hpos
        have hsz := cellsOf_te T hti
        rcases DataW.trod_slice (und_slice T ht) h with ⟨rfl, _⟩ | ⟨A, len, cap, elems, rest, n, _, rfl, _, _, hlc, hcm, hel, hget, _⟩
        · exact ⟨[.s []], .cons (fp := []) (fp' := []) rfl .s0 .nil, .slice ht (by simp) (by simp)⟩
        · have hmax : maxLen = maxN := rfl
          by_cases h0 : len = 0
          · subst h0
            exact ⟨[.s []], .cons (fp := []) (fp' := []) rfl .s0 .nil, .slice ht (by simp) (by simp)⟩
          · have hel0 : ∀ i, i < len → ∃ cs', w.cells? base (A.add (i * ti.size)) ti.size = some cs' ∧ ∃ ds, ARL w (fun b => b < w.heap.size) noLoc [] ds cs' ∧ HasT te e ds := by
              intro i hi
              have := hget i hi
              rw [hsz, List.getElem?_eq_getElem (by omega)] at this
              cases hc : w.cells? base (A.add (i * ti.size)) ti.size with
              | none => simp [hc] at this
              | some cs' =>
                simp only [hc, Option.bind_some] at this
                exact ⟨cs', rfl, ih n e cs' _ hre this⟩
            obtain ⟨cs0, hc0, _⟩ := hel0 0 (by omega)
            rw [Nat.zero_mul, Addr.add_zero'] at hc0
            obtain ⟨arr, el, fz, hh, hsp, _, _⟩ := cells?_block hc0 hpos
            obtain ⟨bk, off, sp⟩ := A
            simp only at hsp hh
            subst hsp
            have hlt : bk < w.heap.size := (Array.getElem?_eq_some_iff.1 hh).1
            have key : ∀ n, n ≤ len → ∃ xs : List (List D), xs.length = n ∧ (∀ x ∈ xs, x.length = ti.size) ∧ (∀ x ∈ xs, HasT te e x) ∧ ARL w (fun b => b < w.heap.size) noLoc [] xs.flatten ((arr.toList.drop off).take (n * ti.size)) := by
              intro n
              induction n with
              | zero => intro _; exact ⟨[], rfl, by simp, by simp, by simpa using ARL.nil⟩
              | succ n ihn =>
                intro hn
                obtain ⟨xs, h1, h2, h3, h4⟩ := ihn (by omega)
                obtain ⟨cs', hc', ds, h5, h6⟩ := hel0 n (by omega)
                rw [Addr.add_lit] at hc'
                obtain ⟨arr', el', fz', hh', _, hcs, hle⟩ := cells?_block hc' hpos
                simp only at hh' hcs hle
                rw [hh] at hh'; cases hh'
                have hl := h5.length
                have hlen : ds.length = ti.size := by rw [hl, hcs]; simp; omega
                refine ⟨xs ++ [ds], by simp [h1], ?_, ?_, ?_⟩
                · intro x hx; rcases List.mem_append.1 hx with hx | hx
                  · exact h2 x hx
                  · simp at hx; subst hx; exact hlen
                · intro x hx; rcases List.mem_append.1 hx with hx | hx
                  · exact h3 x hx
                  · simp at hx; subst hx; exact h6
                · have e : (arr.toList.drop off).take ((n + 1) * ti.size) = (arr.toList.drop off).take (n * ti.size) ++ cs' := by
                    rw [hcs, Nat.succ_mul, List.take_add, List.drop_drop]
                  rw [e]
                  have := h4.append h5
                  simpa using this
            obtain ⟨xs, h1, h2, h3, h4⟩ := key len (Nat.le_refl _)
            subst h1
            exact ⟨[.s xs], .cons (fp := []) (fp' := []) rfl (.s hlt hh h2 hlc (by omega) h4) .nil, .slice ht (by omega) h3⟩
      · cases hpos
    · rename_i fs s b z ht
      simp only [Bool.and_eq_true] at hr
      obtain ⟨hre, htile⟩ := hr
      obtain ⟨fields, hu, hfs⟩ := und_struct T ht
      obtain ⟨xs, n, _, _, hlen, hxl, hget⟩ := DataW.trod_struct hu h
      rw [cellsOf_te T ht] at hlen
      simp only at hlen
      have hfield : ∀ f ∈ fs, ∀ ti, te f.2 = some ti → ∃ ds, ARL w (fun b => b < w.heap.size) noLoc [] ds ((cs.drop f.1).take ti.size) ∧ HasT te f.2 ds := by
        intro f hf ti hti
        rw [← hfs] at hf
        obtain ⟨fd, hfd, rfl⟩ := List.mem_map.1 hf
        obtain ⟨i, hi, rfl⟩ := List.mem_iff_getElem.1 hfd
        have hi' : i < fields.size := by simpa using hi
        have := hget i fields[i] (by simp [hi'])
        simp only [Array.getElem_toList] at hti ⊢
        rw [List.getElem?_eq_getElem (by omega), cellsOf_te T hti] at this
        have hrr : readT te dp fields[i].type = true := by
          have := List.all_eq_true.1 hre (fields[i].offset, fields[i].type) (by rw [← hfs]; exact List.mem_map.2 ⟨fields[i], by simp, rfl⟩)
          exact this
        exact ih n _ _ _ hrr this
      -- the fields' cells one behind the other
      have tile : ∀ (gs : List (Nat × Nat)) (k : Nat), (∀ f ∈ gs, f ∈ fs) → tilesFrom te k gs s = true → ∃ ds, ARL w (fun b => b < w.heap.size) noLoc [] ds (cs.drop k) ∧ k ≤ s ∧ ∀ f ∈ gs, ∀ ti, te f.2 = some ti → k ≤ f.1 ∧ HasT te f.2 ((ds.drop (f.1 - k)).take ti.size) := by
        intro gs
        induction gs with
        | nil =>
          intro k _ ht'
          have : k = s := Nat.eq_of_beq_eq_true ht'
          subst this
          exact ⟨[], by rw [List.drop_of_length_le (by omega)]; exact .nil, Nat.le_refl _, by simp⟩
        | cons g gs ihg =>
          intro k hsub ht'
          obtain ⟨off, ft⟩ := g
          simp only [tilesFrom, Bool.and_eq_true] at ht'
          obtain ⟨hk, ht'⟩ := ht'
          have hk : k = off := Nat.eq_of_beq_eq_true hk
          subst hk
          split at ht'
          · rename_i ti hti
            obtain ⟨ds1, a1, a2⟩ := hfield (k, ft) (hsub _ (by simp)) ti hti
            obtain ⟨ds2, b1, b2, b3⟩ := ihg (k + ti.size) (fun f hf => hsub f (by simp [hf])) ht'
            have hl1 := a1.length
            have hlen1 : ds1.length = ti.size := by rw [hl1]; simp; omega
            refine ⟨ds1 ++ ds2, ?_, by omega, ?_⟩
            · have := a1.append b1
              rw [← List.drop_drop, List.take_append_drop] at this
              simpa using this
            · intro f hf ti' hti'
              rcases List.mem_cons.1 hf with rfl | hf
              · rw [hti] at hti'; cases hti'
                refine ⟨Nat.le_refl _, ?_⟩
                simp only [Nat.sub_self, List.drop_zero]
                rw [List.take_append_of_le_length (by omega), List.take_of_length_le (by omega)]; exact a2
              · obtain ⟨c1, c2⟩ := b3 f hf ti' hti'
                refine ⟨by omega, ?_⟩
                rw [List.drop_append, List.drop_of_length_le (by omega), List.nil_append, hlen1, show f.1 - k - ti.size = f.1 - (k + ti.size) by omega]
                exact c2
          · cases ht'
      obtain ⟨ds, d1, _, d3⟩ := tile fs 0 (fun _ h => h) htile
      rw [List.drop_zero] at d1
      refine ⟨ds, d1, .struct ht (by rw [d1.length, hlen]) fun f hf ti hti => ?_⟩
      have := (d3 f hf ti hti).2
      simpa using this
    · cases hr

/-- an argument -/
theorem arg_open {dp t b0 : Nat} {r : Reach} {v : Value} {d : DataW H} {ps : List MemPlace} {base : Nat} {spare : Nat → Bool} {held : Bool} {ti : TI} (ht : te t = some ti) (hr : readT te dp t = true) (hval : Value.okWide P w r b0 t v) (h : DataW.Trod enc P w base spare held t v d ps) :
    ∃ ds : List D, HasT te t ds ∧ ∀ d0, (bif ti.agg then some (.g ds) else ds.head?) = some d0 → AR w (fun b => b < w.heap.size) noLoc [] d0 v := by
  obtain ⟨fuel, hf⟩ := h
  obtain ⟨ds, h1, h2⟩ := trod_open T dp fuel t _ _ hr hf
  refine ⟨ds, h2, fun d0 hd => ?_⟩
  obtain ⟨i, dd, _, hu, rfl⟩ := te_parts T ht
  cases hagg : TI.agg ⟨tkOf dd, i.size, i.bytes, i.zero⟩
  · simp only [hagg, cond_false] at hd
    have hone : v.cells = #[v] := by
      cases h2 with
      | int h' _ => obtain ⟨n, rfl⟩ := WideShapes.okWide_int (und_int T h') hval; rfl
      | bool h' => obtain ⟨n, rfl⟩ := WideShapes.okWide_bool (und_bool T h') hval; rfl
      | str h' _ => obtain ⟨n, rfl⟩ := WideShapes.okWide_string (und_str T h') hval; rfl
      | slice h' _ _ => obtain ⟨a, l, c, rfl⟩ := WideShapes.okWide_slice (und_slice T h') hval; rfl
      | struct h _ _ => rw [ht] at h; simp only [Option.some.injEq, TI.mk.injEq] at h; rw [TI.agg, h.1] at hagg; simp at hagg
    rw [hone] at h1
    cases h2 with
    | int => simp at hd; subst hd; obtain ⟨u, e, _, r⟩ := h1.get0 (i := 0) rfl; simp at e; subst e; exact r
    | bool => simp at hd; subst hd; obtain ⟨u, e, _, r⟩ := h1.get0 (i := 0) rfl; simp at e; subst e; exact r
    | str => simp at hd; subst hd; obtain ⟨u, e, _, r⟩ := h1.get0 (i := 0) rfl; simp at e; subst e; exact r
    | slice => simp at hd; subst hd; obtain ⟨u, e, _, r⟩ := h1.get0 (i := 0) rfl; simp at e; subst e; exact r
    | struct h _ _ => rw [ht] at h; simp only [Option.some.injEq, TI.mk.injEq] at h; rw [TI.agg, h.1] at hagg; simp at hagg
  · simp only [hagg, cond_true, Option.some.injEq] at hd
    subst hd
    have : ∃ cs, v = .agg cs := by
      unfold Value.okWide at hval
      rw [hu] at hval
      cases dd <;> simp [TI.agg, tkOf] at hagg
      · obtain ⟨cs, h, _⟩ := hval; exact ⟨cs, h⟩
      · obtain ⟨cs, h, _⟩ := hval; exact ⟨cs, h⟩
    obtain ⟨cs, rfl⟩ := this
    exact .g h1

end

theorem list_of_each {α β : Type} {f : α → β} {p : α → Prop} : ∀ {xs : List β}, (∀ x ∈ xs, ∃ a, p a ∧ x = f a) → ∃ l : List α, xs = l.map f ∧ ∀ a ∈ l, p a
  | [], _ => ⟨[], rfl, by simp⟩
  | x :: xs, h => by
    obtain ⟨a, hp, rfl⟩ := h x (by simp)
    obtain ⟨l, e, hl⟩ := list_of_each (f := f) (p := p) (xs := xs) (fun y hy => h y (by simp [hy]))
    subst e
    exact ⟨a :: l, rfl, by simpa using ⟨hp, hl⟩⟩

/-! closing a law -/

theorem Ext.below {W W' : World} (X : Ext W W') : RowKit.Below W.heap.size W W' := ⟨X.os, X.tape, X.output, X.size, fun k hk => X.same k hk⟩

open ChangeShapes in
theorem law_post {H : Type} {enc : TypeId × Value → H} {P : Program} {f : Func} {s : ChangeSpec} {W W' : World} {args : Array Value} {ds gs : List (DataW H)} {before : List MemPlace} {tb : TypeId} (hl : laidOutB P = true) (hr : ∀ t ∈ f.params.toList, P.readableRec t = true ∧ t < P.types.size)
    (hvars : s.vars = []) (hrt : f.resultTypes = #[tb]) (htb : P.underlying tb = some .bool) (hsp : (s.fn H (ds ++ gs)).results = [.lit (.bool true)] ∧ (s.fn H (ds ++ gs)).args = ds ∧ (s.fn H (ds ++ gs)).vars = [])
    (hW : DataW.Whole enc P f.params.toList s.vars false W args.toList ds gs before) (X : Ext W W') : s.post enc P f false true false false W args (.bool true) W' := by
  obtain ⟨p, q, hA, hV, hps, hfz, _⟩ := id hW
  have hlt : ∀ x ∈ p, x.block < W.heap.size := fun x hx => hW.lt x (by rw [hps]; exact List.mem_append_left _ hx)
  rw [hvars] at hV
  obtain ⟨_, hq⟩ := trodVars_none hV
  have stay : ∀ {ts : List TypeId} {vs : List Value} {ds : List (DataW H)} {p : List MemPlace}, (∀ t ∈ ts, P.readableRec t = true ∧ t < P.types.size) → (∀ x ∈ p, x.block < W.heap.size) → DataW.TrodAll enc P W 0 (fun _ => true) true ts vs ds p →
      DataW.TrodAll enc P W' 0 (fun b => decide (b < W.heap.size)) true ts vs ds p := by
    intro ts
    induction ts with
    | nil =>
      intro vs ds p _ _ h
      cases vs <;> cases ds <;> simp_all [DataW.TrodAll]
    | cons t ts ih =>
      intro vs ds p hts hlt h
      cases vs with
      | nil => simp [DataW.TrodAll] at h
      | cons v vs =>
        cases ds with
        | nil => simp [DataW.TrodAll] at h
        | cons d ds =>
          obtain ⟨p1, p2, h1, h2, rfl⟩ := h
          exact ⟨p1, p2, RowKit.Below.trod hl (hts t (by simp)).1 (hts t (by simp)).2 h1 X.below (fun x hx => hlt x (List.mem_append_left _ hx)), ih (fun t ht => hts t (by simp [ht])) (fun x hx => hlt x (List.mem_append_right _ hx)) h2, rfl⟩
  refine ⟨ds, gs, before, [], p, [], hW, ?_, ?_, ?_, X.below.frame _, fun h => by cases h⟩
  · rw [hsp.1, hrt]
    exact ⟨[], [], RowKit.shut_bool htb true, rfl, rfl⟩
  · rw [hsp.2.1]; exact stay hr hlt hA
  · rw [hvars, hsp.2.2]; rfl

end Go.AM
end

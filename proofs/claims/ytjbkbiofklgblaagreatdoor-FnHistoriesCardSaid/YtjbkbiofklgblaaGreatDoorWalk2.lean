/- The walk, part 2: what each function reached by the law FnHistories computes. No condition. -/
import Derived.Test.YtjbkbiofklgblaaGreatDoorWalk1
set_option maxRecDepth 4000
set_option maxHeartbeats 1000000
set_option linter.unusedVariables false
set_option linter.unusedSimpArgs false
set_option linter.unusedSectionVars false

namespace Go.Proofs.YtjbkbiofklgblaaGreatDoor
open Go.AM

section
open Go.Shelf Go.RowKit
set_option maxHeartbeats 2000000 in
set_option maxRecDepth 100000 in
theorem bld_check_fresh {b : Nat} {v : Value} {w : World} (h2 : w.heap[b]? = some (.cells #[.pointer none, v] 53 (0, 0))) :
    Calls Tryz.prog 51 #[.pointer (some ⟨b, 0, none⟩)] w fun e w' => e = .returned (.tuple #[]) ∧ w' = w.setCell ⟨b, 0, none⟩ (.pointer (some ⟨b, 0, none⟩)) := by
  have c0 : w.cell? ⟨b, 0, none⟩ = some (.pointer none) := by rw [Lib.cell_of_heap h2]; rfl
  have f1 : w.frozen? ⟨b, 0, none⟩ = false := Lib.frozen_of_heap h2 0
  have hsh : w.shape? b = some (53, 2) := by simp [World.shape?, h2]
  have tP : Tryz.prog.underlying 51 = some (.pointer 53) := by kernel_rfl
  have tX : Tryz.prog.underlying 111 = some .unsafePointer := by kernel_rfl
  obtain ⟨j, hj, hjs⟩ := Option.map_eq_some_iff.1 (show (Tryz.prog.info? 53).map (·.size) = some 2 by kernel_rfl)
  go_enter Tryz.func51, Tryz.ntmps51
  go_wp2
  rw [Lib.run_to_unsafe w ⟨b, 0, none⟩ tP tX hj (by rw [hjs]; decide) hsh (Nat.zero_lt_succ 1)]
  simp only [Result.andThen]
  rw [Oper.upon_value]
  go_wp2
  rw [run_callFunc_extern Tryz.func69 (by kernel_rfl) (by kernel_rfl) (by kernel_rfl) (e := Extern.AbiNoEscape.same) (by kernel_rfl)]
  rw [Lib.run_noEscape]
  simp only [Result.andThen]
  rw [Oper.upon_value]
  go_wp2
  rw [Lib.run_from_unsafe w ⟨b, 0, none⟩ tX tP hj hsh (by kernel_rfl)]
  simp only [Result.andThen]
  rw [Oper.upon_value]
  go_wp2
  go_end0
  exact ⟨rfl, rfl⟩
set_option maxHeartbeats 2000000 in
set_option maxRecDepth 100000 in
theorem bld_check {b : Nat} {fp : List Nat} {f0 : Bool} {l : List UInt8} {w : World} {U : TypeId} (h : BldR w fp b f0 53 U l) (hnd : fp.Nodup) :
    Calls Tryz.prog 51 #[.pointer (some ⟨b, 0, none⟩)] w fun e w' => e = .returned (.tuple #[]) ∧ Chg [b] w w' ∧ ∃ v fr, w'.heap[b]? = some (.cells #[.pointer (some ⟨b, 0, none⟩), v] 53 (0, 0)) ∧ fp = b :: fr ∧ RowU w' fr U v l ∧ (f0 = true → v = .slice none 0 0) := by
  obtain ⟨p, v, fr, h1, h2, rfl, h4, h5⟩ := h
  rcases h1 with rfl | rfl
  · refine (bld_check_fresh h2).mono ?_
    rintro e w' ⟨rfl, rfl⟩
    refine ⟨rfl, chg_setCell _ _ _ _, v, fr, ?_, rfl, h4.same fun k hk => Below.heap_setCell _ _ _ _ (fun e => (List.nodup_cons.1 hnd).1 (by have e' : k = b := e; rw [← e']; exact hk)), fun h => (h5 h).2⟩
    simp [World.setCell, Array.getElem?_modify, h2]
  · have c0 : w.cell? ⟨b, 0, none⟩ = some (.pointer (some ⟨b, 0, none⟩)) := by rw [Lib.cell_of_heap h2]; rfl
    have tP : Tryz.prog.underlying 51 = some (.pointer 53) := by kernel_rfl
    obtain ⟨j, hj, hjs⟩ := Option.map_eq_some_iff.1 (show (Tryz.prog.info? 53).map (·.size) = some 2 by kernel_rfl)
    go_enter Tryz.func51, Tryz.ntmps51
    go_wp2
    rw [Lib.run_neq_ptr_same w _ tP hj]
    go_wp2
    go_end0
    exact ⟨rfl, Chg.refl _ _, v, fr, h2, rfl, h4, fun h => (h5 h).2⟩
set_option maxHeartbeats 2000000 in
set_option maxRecDepth 100000 in
theorem strings_Builder_WriteString_ok : BldWr Tryz.prog 22 53 5 := by
  refine ⟨⟨_, Tryz.func22, rfl, by decide⟩, fun w b fp l f0 s h hnd hlt hlen => ?_⟩
  obtain ⟨i0, hi, hz0, hz1, hz2⟩ := info_parts (P := Tryz.prog) (e := 5) (z := .int .u8 0) (size := 1) (bytes := 1) (by kernel_rfl)
  have tS : Tryz.prog.underlying 22 = some (.slice 5) := by kernel_rfl
  have tT : Tryz.prog.underlying 9 = some .string := by kernel_rfl
  go_enter Tryz.func22, Tryz.ntmps22
  go_wp2_with (go_at_call 51; refine (bld_check h hnd).mono ?_)
  rintro e w1 ⟨rfl, hx1, v, fr, hbk, hfp, hrow, _⟩
  subst hfp
  have c1 : w1.cell? ⟨b, 1, none⟩ = some v := by rw [Lib.cell_of_heap hbk]; rfl
  go_wp2_with (at_builtin; refine wp_app_row rfl _ _ 22 9 rfl 5 i0 tS tT hi hz0 hz1 hz2 rfl hrow s rfl hlen ?_)
  intro v' w2 fr' hrow' hx2 hfr
  have hnb : b ∉ fr := (List.nodup_cons.1 hnd).1
  have hb1 : b < w1.heap.size := by
    rcases Nat.lt_or_ge b w1.heap.size with h' | h'
    · exact h'
    · simp [Array.getElem?_eq_none h'] at hbk
  have hb2 : w2.heap[b]? = some (.cells #[.pointer (some ⟨b, 0, none⟩), v] 53 (0, 0)) := by rw [hx2.same b hb1 hnb]; exact hbk
  have d1 : w2.cell? ⟨b, 1, none⟩ = some v := by rw [Lib.cell_of_heap hb2]; rfl
  have f1 : w2.frozen? ⟨b, 1, none⟩ = false := Lib.frozen_of_heap hb2 1
  obtain ⟨ao, n', cap, rfl⟩ : ∃ ao n' cap, v' = .slice ao n' cap := by
    rcases hrow' with ⟨_, _, hv⟩ | ⟨_, _, _, _, _, hv, _⟩
    · exact ⟨_, _, _, hv⟩
    · exact ⟨_, _, _, hv⟩
  have hbf : b ∉ fr' := by
    rcases hfr with rfl | ⟨rfl, _⟩
    · exact hnb
    · intro h; rw [List.mem_singleton] at h; omega
  go_wp2
  go_ret2
  refine ⟨_, b :: fr', rfl, ?_, ⟨.pointer (some ⟨b, 0, none⟩), _, fr', .inr rfl, ?_, rfl, hrow'.same fun k hk => Below.heap_setCell _ _ _ _ (fun e => hbf (by have e' : k = b := e; rw [← e']; exact hk)), fun h => by cases h⟩, ?_, ?_⟩
  · exact ((Chg.trans (fp := b :: fr) ⟨hx1.size, fun i hi hn => hx1.same i hi (fun h => hn (by rw [List.mem_singleton.1 h]; exact List.mem_cons_self)), hx1.shape, hx1.os, hx1.output, hx1.tape⟩ hx2 fun x hx => .inl (List.mem_cons_of_mem _ hx)).trans (chg_setCell _ _ _ _) fun x hx => .inl (by rw [List.mem_singleton.1 hx]; exact List.mem_cons_self))
  · simp [World.setCell, Array.getElem?_modify, hb2]
  · refine List.nodup_cons.2 ⟨hbf, ?_⟩
    rcases hfr with rfl | ⟨rfl, _⟩
    · exact (List.nodup_cons.1 hnd).2
    · simp
  · have hs2 := hx2.size
    have hs1 := hx1.size
    intro k hk
    have hsz : (w2.setCell ⟨b, 1, none⟩ (.slice ao n' cap)).heap.size = w2.heap.size := by simp [World.setCell]
    rw [hsz]
    rcases List.mem_cons.1 hk with rfl | hk
    · exact ⟨by omega, .inl List.mem_cons_self⟩
    · rcases hfr with rfl | ⟨rfl, hlt2⟩
      · exact ⟨by have := hlt k (List.mem_cons_of_mem _ hk); omega, .inl (List.mem_cons_of_mem _ hk)⟩
      · rw [List.mem_singleton.1 hk]
        exact ⟨hlt2, .inr hs1⟩
end

section
open Go.Shelf Go.RowKit
set_option maxHeartbeats 2000000 in
set_option maxRecDepth 1000000 in
theorem bld_grow {b n : Nat} {w : World} (hbk : w.heap[b]? = some (.cells #[.pointer (some ⟨b, 0, none⟩), .slice none 0 0] 53 (0, 0))) (hn0 : 0 < n) (hn : n ≤ 281474976710656) :
    Calls Tryz.prog 91 #[.pointer (some ⟨b, 0, none⟩), .int .i64 n] w fun e w' => ∃ v, e = .returned v ∧ Chg [b] w w' ∧ BldR w' [b, w.heap.size] b false 53 5 [] ∧ w.heap.size < w'.heap.size := by
  have tS : Tryz.prog.underlying 22 = some (.slice 5) := by kernel_rfl
  obtain ⟨cs, hrun, hle, hmax⟩ := Lib.run_makeNoZero (P := Tryz.prog) w.drew #[3] 22 5 tS n hn
  have hw : IntKind.i64.wrap (IntKind.i64.wrap 0 + (n : Int)) = n := by
    rw [IntKind.wrap_i64, IntKind.wrap_i64]
    omega
  have hcall : (callFunc 108 #[.int .i64 (IntKind.i64.wrap (IntKind.i64.wrap 0 + (n : Int)))]).run Tryz.prog w.drew = .ok (.value (.slice (some ⟨w.drew.heap.size, 0, none⟩) n cs.size)) (w.drew.drew.drew.alloc (.cells cs 5)) := by
    rw [hw, run_callFunc_extern Tryz.func108 (by kernel_rfl) (by kernel_rfl) (by kernel_rfl) (e := Extern.BytealgMakeNoZero.makeNoZero #[3] #[22]) (by kernel_rfl), hrun]
    rfl
  have hlt : b < w.heap.size := by
    rcases Nat.lt_or_ge b w.heap.size with h' | h'
    · exact h'
    · simp [Array.getElem?_eq_none h'] at hbk
  have c1 : w.drew.cell? ⟨b, 1, none⟩ = some (.slice none 0 0) := by
    have : w.drew.heap[b]? = _ := hbk
    rw [Lib.cell_of_heap this]; rfl
  have hb2 : (w.alloc (.cells cs 5)).heap[b]? = some (.cells #[.pointer (some ⟨b, 0, none⟩), .slice none 0 0] 53 (0, 0)) := (Lib.alloc_old w _ b hlt).trans hbk
  have c2 : (w.alloc (.cells cs 5)).cell? ⟨b, 1, none⟩ = some (.slice none 0 0) := by
    rw [Lib.cell_of_heap hb2]; rfl
  have f2 : (w.alloc (.cells cs 5)).frozen? ⟨b, 1, none⟩ = false := Lib.frozen_of_heap hb2 1
  have hcopy : ∀ W : World, (Builtin.copy_ #[22, 22] 3 #[.slice (some ⟨w.heap.size, 0, none⟩) 0 cs.size, .slice none 0 0]).run Tryz.prog W = .ok (goInt 0) W :=
    fun W => run_copy_none W 22 22 3 5 _ _ 0 cs.size 0 0 tS (by kernel_rfl) rfl
  clear hw
  have mixed : Tryz.prog.follows .mixedOrders = true := by kernel_rfl
  go_enter Tryz.func91, Tryz.ntmps91
  go_wp2
  have hcs : cs.size ≤ 9223372036854775807 := hmax (by unfold maxLen; omega)
  have hfin : Chg [b] w (((w.setCell ⟨b, 1, none⟩ (.slice (some ⟨w.heap.size, 0, none⟩) 0 cs.size)).alloc (.cells cs 5)).drew.drew.drew) ∧ BldR (((w.setCell ⟨b, 1, none⟩ (.slice (some ⟨w.heap.size, 0, none⟩) 0 cs.size)).alloc (.cells cs 5)).drew.drew.drew) [b, w.heap.size] b false 53 5 [] ∧ w.heap.size < (((w.setCell ⟨b, 1, none⟩ (.slice (some ⟨w.heap.size, 0, none⟩) 0 cs.size)).alloc (.cells cs 5)).drew.drew.drew).heap.size := by
    generalize hV : w.setCell ⟨b, 1, none⟩ (.slice (some ⟨w.heap.size, 0, none⟩) 0 cs.size) = V
    have hVs : V.heap.size = w.heap.size := by
      rw [← hV]
      show (w.heap.modify _ _).size = _
      rw [Array.size_modify]
    have hVb : V.heap[b]? = some (.cells #[.pointer (some ⟨b, 0, none⟩), .slice (some ⟨w.heap.size, 0, none⟩) 0 cs.size] 53 (0, 0)) := by
      rw [← hV]; simp [World.setCell, Array.getElem?_modify, hbk]
    have hV1 : Chg [b] w V := by rw [← hV]; exact chg_setCell _ b 1 _
    have h0 : Chg [b] V (V.alloc (.cells cs 5)) :=
      ⟨by show _ ≤ (V.heap.push _).size; simp, fun k hk _ => Lib.alloc_old V _ k hk, fun k hk => by simp only [World.shape?, Lib.alloc_old V _ k hk], rfl, rfl, rfl, Nat.le_refl _⟩
    have h1 := hV1.trans h0 fun x hx => .inl hx
    have hs : (V.alloc (.cells cs 5)).heap.size = w.heap.size + 1 := by
      show (V.heap.push _).size = _
      rw [Array.size_push, hVs]
    have hb3 := (Lib.alloc_old V (.cells cs 5) b (by rw [hVs]; exact hlt)).trans hVb
    have hb4 : (V.alloc (.cells cs 5)).heap[w.heap.size]? = some (.cells cs 5 (0, 0)) := by rw [← hVs]; exact heap_alloc_new V _
    generalize V.alloc (.cells cs 5) = W at *
    refine ⟨h1.trans ((chg_drew [b] _).trans ((chg_drew [b] _).trans (chg_drew [b] _) fun x hx => .inl hx) fun x hx => .inl hx) fun x hx => .inl hx, ?_, by show _ < W.heap.size; omega⟩
    show BldR W _ _ _ _ _ _
    exact ⟨_, _, [w.heap.size], .inr rfl, hb3, rfl, .inr ⟨w.heap.size, cs.size, cs, rfl, by omega, rfl, hb4, by simp, hcs, rfl, by simp⟩, fun h => by cases h⟩
  go_region_o
  all_goals (go_wp2; go_end0; exact ⟨_, rfl, hfin⟩)
set_option maxHeartbeats 2000000 in
set_option maxRecDepth 1000000 in
theorem strings_Builder_Grow_ok : BldGr Tryz.prog 71 53 5 := by
  refine ⟨⟨_, Tryz.func71, rfl, by decide⟩, fun w b fp l n h hnd hlt hn => ?_⟩
  have tS : Tryz.prog.underlying 22 = some (.slice 5) := by kernel_rfl
  have mixed : Tryz.prog.follows .mixedOrders = true := by kernel_rfl
  have hl : l = [] ∧ ∃ b', fp = [b'] := by
    obtain ⟨p, v, fr, h1, h2, rfl, h4, h5⟩ := h
    rcases h4 with ⟨rfl, h4, _⟩ | ⟨g, cap, arr, rfl, hc0, hv, _⟩
    · exact ⟨h4, b, rfl⟩
    · rw [(h5 rfl).2] at hv; cases hv
  obtain ⟨rfl, b', hb'⟩ := hl
  go_enter Tryz.func71, Tryz.ntmps71
  obtain ⟨p, v, fr, h1, h2, h3, h4, h5⟩ := h
  obtain ⟨rfl, rfl⟩ := h5 rfl
  obtain ⟨rfl, rfl⟩ : b' = b ∧ fr = [] := by
    rw [hb'] at h3
    simpa [eq_comm] using h3
  subst hb'
  have hbk1 : (w.setCell ⟨b', 0, none⟩ (.pointer (some ⟨b', 0, none⟩))).heap[b']? = some (.cells #[.pointer (some ⟨b', 0, none⟩), .slice none 0 0] 53 (0, 0)) := by
    simp [World.setCell, Array.getElem?_modify, h2]
  have c1' : (w.setCell ⟨b', 0, none⟩ (.pointer (some ⟨b', 0, none⟩))).drew.cell? ⟨b', 1, none⟩ = some (.slice none 0 0) := by
    have : (w.setCell ⟨b', 0, none⟩ (.pointer (some ⟨b', 0, none⟩))).drew.heap[b']? = _ := hbk1
    rw [Lib.cell_of_heap this]; rfl
  go_wp2_with (go_at_call 51; refine (bld_check_fresh h2).mono ?_; rintro e w' ⟨rfl, rfl⟩)
  go_region_o
  all_goals go_wp2_with (go_at_call 91; refine (bld_grow (w := (w.setCell ⟨b', 0, none⟩ (.pointer (some ⟨b', 0, none⟩))).drew) hbk1 (by omega) hn).mono ?_; rintro e w' ⟨v1, rfl, g1, g2, g3⟩)
  all_goals
    have hs : (w.setCell ⟨b', 0, none⟩ (.pointer (some ⟨b', 0, none⟩))).drew.heap.size = w.heap.size := by
      show (w.heap.modify _ _).size = _
      rw [Array.size_modify]
    have hX : Chg [b'] w (w.setCell ⟨b', 0, none⟩ (.pointer (some ⟨b', 0, none⟩))).drew := (chg_setCell w b' 0 _).trans (chg_drew [b'] _) fun x hx => .inl hx
    have hb0 : b' < w.heap.size := hlt b' (by simp)
    go_end0
    first
      | exact ⟨_, _, rfl, hX.trans g1 fun x hx => .inl hx, g2, by rw [hs]; simp; omega, fun k hk => by
          have hgs := g1.size
          rw [hs] at hk g3 hgs
          rcases List.mem_cons.1 hk with rfl | hk
          · exact ⟨by omega, .inl (by simp)⟩
          · rw [List.mem_singleton.1 hk]; exact ⟨g3, .inr (Nat.le_refl _)⟩⟩
      | exact ⟨_, [b'], rfl, hX, ⟨_, _, [], .inr rfl, hbk1, rfl, .inl ⟨rfl, rfl, rfl⟩, fun h => by cases h⟩, by simp, fun k hk => by
          rw [hs, List.mem_singleton.1 hk]; exact ⟨hb0, .inl (by simp)⟩⟩
end

theorem strings_Builder_String_ok : BldSt Tryz.prog 24 53 5 := bldSt_of ⟨_, Tryz.func24, rfl, by decide⟩ Tryz.lays169 Tryz.Builder_Extra_169

def strings_Join_l2 (sep : ByteArray) : List ByteArray → Nat → ByteArray → Option ByteArray
  | [], k22, v37 =>
    some v37
  | y23 :: ys24, k22, v37 =>
    (need (Nat.ble (v37.size + sep.size) 140737488355328)).bind fun u39 =>
    (need (Nat.ble ((v37 ++ sep).size + y23.size) 140737488355328)).bind fun u41 =>
    strings_Join_l2 sep ys24 (k22 + 1) ((v37 ++ sep) ++ y23)
def strings_Join_l1 (elems : List ByteArray) (sep : ByteArray) : List ByteArray → Nat → Int → Option ByteArray
  | [], k5, v12 =>
    (need (decide (0 ≤ v12) && decide (v12 ≤ 281474976710656))).bind fun u14 =>
    (getI elems 0).bind fun x16 =>
    (need (Nat.ble ((⟨#[]⟩ : ByteArray).size + x16.size) 140737488355328)).bind fun u18 =>
    (sliceLo elems 1).bind fun x20 =>
    strings_Join_l2 sep x20 0 ((⟨#[]⟩ : ByteArray) ++ x16)
  | y6 :: ys7, k5, v12 =>
    cond (decide ((y6.size : Int) > (w64 (9223372036854775807 - v12))))
      (none)
      (strings_Join_l1 elems sep ys7 (k5 + 1) (w64 (v12 + (y6.size : Int))))
def strings_Join_l4 (sep : ByteArray) : List ByteArray → Nat → ByteArray → Option ByteArray
  | [], k60, v75 =>
    some v75
  | y61 :: ys62, k60, v75 =>
    (need (Nat.ble (v75.size + sep.size) 140737488355328)).bind fun u77 =>
    (need (Nat.ble ((v75 ++ sep).size + y61.size) 140737488355328)).bind fun u79 =>
    strings_Join_l4 sep ys62 (k60 + 1) ((v75 ++ sep) ++ y61)
def strings_Join_l3 (elems : List ByteArray) (sep : ByteArray) : List ByteArray → Nat → Int → Option ByteArray
  | [], k43, v50 =>
    (need (decide (0 ≤ v50) && decide (v50 ≤ 281474976710656))).bind fun u52 =>
    (getI elems 0).bind fun x54 =>
    (need (Nat.ble ((⟨#[]⟩ : ByteArray).size + x54.size) 140737488355328)).bind fun u56 =>
    (sliceLo elems 1).bind fun x58 =>
    strings_Join_l4 sep x58 0 ((⟨#[]⟩ : ByteArray) ++ x54)
  | y44 :: ys45, k43, v50 =>
    cond (decide ((y44.size : Int) > (w64 (9223372036854775807 - v50))))
      (none)
      (strings_Join_l3 elems sep ys45 (k43 + 1) (w64 (v50 + (y44.size : Int))))
def strings_Join_p (elems : List ByteArray) (sep : ByteArray) : Option ByteArray :=
  cond ((elems.length : Int) == 0)
    (some (⟨#[]⟩ : ByteArray))
    (cond ((elems.length : Int) == 1)
      ((getI elems 0).bind fun x1 =>
      some x1)
      (cond (decide ((sep.size : Int) > 0))
        ((need ((w64 ((elems.length : Int) - 1)) != 0)).bind fun u3 =>
        cond (decide ((sep.size : Int) ≥ (w64 ((9223372036854775807 : Int).tdiv (w64 ((elems.length : Int) - 1))))))
          (none)
          (strings_Join_l1 elems sep elems 0 (w64 (0 + (w64 ((sep.size : Int) * (w64 ((elems.length : Int) - 1))))))))
        (strings_Join_l3 elems sep elems 0 0)))
theorem strings_Join_ok (elems : List ByteArray) (sep : ByteArray) (r : ByteArray) (hH : strings_Join_p elems sep = some r) : SpecR Tryz.prog 53 [.s (List.map encStr elems), .v (.string sep)] (.v (.string r)) := by
 refine fn_ok T Tryz.func53 rfl (by decide) rfl ?_
 refine AW.seq (AW.region ?_)
 refine AO.pu T ?_
 refine AO.nil ?_
 iterate 2 refine AW.seq ?_
 refine AW.region ?_
 refine AO.pu T ?_
 refine AO.val rfl rfl (len_map_ok T rfl rfl rfl) ?_
 refine AO.nil ?_
 refine AW.block ?_
 refine AW.seq (AW.region ?_)
 iterate 2 refine AO.pu T ?_
 refine AO.nil ?_
 refine AW.cond (b := ((elems.length : Int) == 0)) rfl (fun hc => ?_) (fun hc => ?_)
 replace hH := condT hc hH
 refine AW.seq (AW.region ?_)
 refine AO.pu T ?_
 refine AO.nil (AW.ret ?_)
 have hR := someE hH; subst hR
 exact retQ.i [] rfl (.c (.c .v))
 replace hH := condF hc hH
 refine AW.seq (AW.region ?_)
 iterate 2 refine AO.pu T ?_
 refine AO.nil ?_
 refine AW.cond (b := ((elems.length : Int) == 1)) rfl (fun hc => ?_) (fun hc => ?_)
 replace hH := condT hc hH
 refine AW.seq ?_
 obtain ⟨x1, hx2, hH⟩ := bindE hH
 refine AW.region ?_
 refine AO.pu T ?_
 refine AO.val rfl rfl (ix_map_ok T rfl rfl rfl rfl rfl (hx2) rfl) ?_
 iterate 2 refine AO.pu T ?_
 refine AO.nil (AW.ret ?_)
 have hR := someE hH; subst hR
 exact retQ.i [] rfl (.c (.c .v))
 replace hH := condF hc hH
 refine AW.skip ?_
 refine AW.seq (AW.region ?_)
 refine AO.pu T ?_
 refine AO.nil ?_
 iterate 2 refine AW.seq ?_
 refine AW.region ?_
 iterate 3 refine AO.pu T ?_
 refine AO.nil ?_
 refine AW.cond (b := decide ((sep.size : Int) > 0)) rfl (fun hc => ?_) (fun hc => ?_)
 replace hH := condT hc hH
 iterate 2 refine AW.seq ?_
 obtain ⟨u3, hx4, hH⟩ := bindE hH
 refine AW.region ?_
 iterate 3 refine AO.pu T ?_
 refine AO.val rfl rfl (len_map_ok T rfl rfl rfl) ?_
 refine AO.val rfl rfl (arw_ok rfl rfl rfl rfl) ?_
 refine AO.val rfl rfl (quow_ok rfl rfl rfl (neZ (needT (hx4)))) ?_
 refine AO.pu T ?_
 refine AO.nil ?_
 refine AW.cond (b := decide ((sep.size : Int) ≥ (w64 ((9223372036854775807 : Int).tdiv (w64 ((elems.length : Int) - 1)))))) rfl (fun hc => ?_) (fun hc => ?_)
 replace hH := condT hc hH
 cases hH
 replace hH := condF hc hH
 refine AW.skip ?_
 refine AW.region ?_
 iterate 4 refine AO.pu T ?_
 refine AO.val rfl rfl (len_map_ok T rfl rfl rfl) ?_
 iterate 3 refine AO.val rfl rfl (arw_ok rfl rfl rfl rfl) ?_
 refine AO.pu T ?_
 refine AO.nil ?_
 refine AW.le (Le.ct 0 0 (σ' := (⟨[(0, .s (List.map encStr elems)), (1, .v (.string sep)), (5, w64 (0 + (w64 ((sep.size : Int) * (w64 ((elems.length : Int) - 1))))))], [], 75, []⟩ : St))) ?_
 iterate 2 refine AW.seq ?_
 refine AW.region ?_
 refine AO.pu T ?_
 refine AO.val rfl rfl (len_map_ok T rfl rfl rfl) ?_
 refine AO.pu T ?_
 refine AO.nil ?_
 refine AW.block ?_
 refine AW.loopS (fun s : Nat × Int => (⟨[(0, .s (List.map encStr elems)), (1, .v (.string sep)), (5, s.2), (39, .s (List.map encStr elems)), (40, (elems.length : Int)), (41, (s.1 : Int))], [], 75, []⟩ : St)) (fun s => s.1 ≤ elems.length ∧ strings_Join_l1 elems sep (elems.drop s.1) s.1 s.2 = some r) (fun s => elems.length - s.1) (0, w64 (0 + (w64 ((sep.size : Int) * (w64 ((elems.length : Int) - 1)))))) ⟨Nat.zero_le _, hH⟩ ?_ ?_
 exact Le.ct 0 0
 rintro ⟨k5, v12⟩ ⟨hk, hH⟩
 replace hH : strings_Join_l1 elems sep (elems.drop k5) k5 v12 = some r := hH
 try dsimp only
 refine AW.boundM (t := 0) (l := elems) rfl (fun hb9 => ?_)
 rcases hd8 : elems.drop k5 with _ | ⟨y6, ys7⟩
 rw [hd8, strings_Join_l1] at hH
 have hlt10 := drop_ge hd8
 refine AW.seq (AW.region ?_)
 refine AO.pu T ?_
 refine AO.nil (AW.seq ?_)
 refine AW.condF' (b := decide ((k5 : Int) < (elems.length : Int))) rfl (rngF hlt10) ?_
 refine AW.exit ?_
 refine AW.seq (AW.region ?_)
 refine AO.step rfl (alloc_bld_ok T true (U := 5) rfl 1 rfl rfl rfl rfl rfl) ?_
 refine AO.nil (AW.seq ?_)
 obtain ⟨u14, hx15, hH⟩ := bindE hH
 refine AW.region ?_
 refine AO.pu T ?_
 refine AO.step rfl (bldG_ok rfl rfl rfl rfl (needT (hx15)) strings_Builder_Grow_ok rfl) ?_
 refine AO.nil (AW.seq ?_)
 obtain ⟨x16, hx17, hH⟩ := bindE hH
 obtain ⟨u18, hx19, hH⟩ := bindE hH
 refine AW.region ?_
 refine AO.pu T ?_
 refine AO.val rfl rfl (ix_map_ok T rfl rfl rfl rfl rfl (hx17) rfl) ?_
 refine AO.pu T ?_
 refine AO.step rfl (bldW_ok rfl rfl rfl rfl (needT (hx19)) strings_Builder_WriteString_ok rfl) ?_
 refine AO.nil ?_
 iterate 2 refine AW.seq ?_
 obtain ⟨x20, hx21, hH⟩ := bindE hH
 refine AW.region ?_
 refine AO.pu T ?_
 refine AO.val rfl rfl (slice_lo_map_ok T rfl rfl rfl rfl rfl (hx21) (fun _ => rfl)) ?_
 refine AO.val rfl rfl (len_map_ok T rfl rfl rfl) ?_
 refine AO.pu T ?_
 refine AO.nil ?_
 refine AW.block ?_
 refine AW.loopS (fun s : Nat × ByteArray => (⟨[(1, .v (.string sep)), (8, .p 1 0), (63, .s (List.map encStr x20)), (64, (x20.length : Int)), (65, (s.1 : Int))], [(1, .bld false 53 5 s.2)], 75, []⟩ : St)) (fun s => s.1 ≤ x20.length ∧ strings_Join_l2 sep (x20.drop s.1) s.1 s.2 = some r) (fun s => x20.length - s.1) (0, ((⟨#[]⟩ : ByteArray) ++ x16)) ⟨Nat.zero_le _, hH⟩ ?_ ?_
 exact Le.ct 0 0
 rintro ⟨k22, v37⟩ ⟨hk, hH⟩
 replace hH : strings_Join_l2 sep (x20.drop k22) k22 v37 = some r := hH
 try dsimp only
 refine AW.boundM (t := 63) (l := x20) rfl (fun hb26 => ?_)
 rcases hd25 : x20.drop k22 with _ | ⟨y23, ys24⟩
 rw [hd25, strings_Join_l2] at hH
 have hlt27 := drop_ge hd25
 refine AW.seq (AW.region ?_)
 refine AO.pu T ?_
 refine AO.nil (AW.seq ?_)
 refine AW.condF' (b := decide ((k22 : Int) < (x20.length : Int))) rfl (rngF hlt27) ?_
 refine AW.exit ?_
 refine AW.seq (AW.region ?_)
 refine AO.step rfl (bldS_ok rfl rfl rfl rfl strings_Builder_String_ok rfl) ?_
 refine AO.pu T ?_
 refine AO.nil (AW.ret ?_)
 have hR := someE hH; subst hR
 exact retQ.i [] rfl (.c (.c .v))
 rw [hd25, strings_Join_l2] at hH
 have hlt27 := drop_lt hd25
 refine AW.seq (AW.region ?_)
 refine AO.pu T ?_
 refine AO.nil (AW.seq ?_)
 refine AW.condT' (b := decide ((k22 : Int) < (x20.length : Int))) rfl (rngT hlt27) ?_
 refine AW.skip ?_
 refine AW.seq ?_
 refine AW.block ?_
 refine AW.seq (AW.region ?_)
 refine AO.val rfl rfl (ix_map_ok T rfl rfl rfl rfl rfl (getI_drop hd25) rfl) ?_
 iterate 2 refine AO.pu T ?_
 refine AO.nil (AW.seq ?_)
 obtain ⟨u39, hx40, hH⟩ := bindE hH
 refine AW.region ?_
 refine AO.pu T ?_
 refine AO.step rfl (bldW_ok rfl rfl rfl rfl (needT (hx40)) strings_Builder_WriteString_ok rfl) ?_
 refine AO.nil ?_
 obtain ⟨u41, hx42, hH⟩ := bindE hH
 refine AW.region ?_
 refine AO.pu T ?_
 refine AO.step rfl (bldW_ok rfl rfl rfl rfl (needT (hx42)) strings_Builder_WriteString_ok rfl) ?_
 refine AO.nil ?_
 refine AW.region ?_
 refine AO.val rfl rfl (ar_ok rfl rfl rfl rfl (inI_succ hlt27 hb26)) ?_
 refine AO.pu T ?_
 refine AO.nil ?_
 refine ⟨(k22 + 1, ((v37 ++ sep) ++ y23)), ⟨Nat.succ_le_of_lt hlt27, (by rw [drop_succ_of hd25]; exact hH)⟩, (by have := hlt27; dsimp only; omega), ?_⟩
 exact Le.ct 0 0
 rw [hd8, strings_Join_l1] at hH
 have hlt10 := drop_lt hd8
 refine AW.seq (AW.region ?_)
 refine AO.pu T ?_
 refine AO.nil (AW.seq ?_)
 refine AW.condT' (b := decide ((k5 : Int) < (elems.length : Int))) rfl (rngT hlt10) ?_
 refine AW.skip ?_
 refine AW.seq ?_
 refine AW.block ?_
 refine AW.seq (AW.region ?_)
 refine AO.val rfl rfl (ix_map_ok T rfl rfl rfl rfl rfl (getI_drop hd8) rfl) ?_
 iterate 2 refine AO.pu T ?_
 refine AO.nil ?_
 iterate 2 refine AW.seq ?_
 refine AW.region ?_
 iterate 3 refine AO.pu T ?_
 refine AO.val rfl rfl (arw_ok rfl rfl rfl rfl) ?_
 refine AO.pu T ?_
 refine AO.nil ?_
 refine AW.cond (b := decide ((y6.size : Int) > (w64 (9223372036854775807 - v12)))) rfl (fun hc => ?_) (fun hc => ?_)
 replace hH := condT hc hH
 cases hH
 replace hH := condF hc hH
 refine AW.skip ?_
 refine AW.region ?_
 iterate 3 refine AO.pu T ?_
 refine AO.val rfl rfl (arw_ok rfl rfl rfl rfl) ?_
 refine AO.pu T ?_
 refine AO.nil ?_
 refine AW.region ?_
 refine AO.val rfl rfl (ar_ok rfl rfl rfl rfl (inI_succ hlt10 hb9)) ?_
 refine AO.pu T ?_
 refine AO.nil ?_
 refine ⟨(k5 + 1, w64 (v12 + (y6.size : Int))), ⟨Nat.succ_le_of_lt hlt10, (by rw [drop_succ_of hd8]; exact hH)⟩, (by have := hlt10; dsimp only; omega), ?_⟩
 exact Le.ct 0 0
 replace hH := condF hc hH
 refine AW.skip ?_
 iterate 2 refine AW.seq ?_
 refine AW.region ?_
 refine AO.pu T ?_
 refine AO.val rfl rfl (len_map_ok T rfl rfl rfl) ?_
 refine AO.pu T ?_
 refine AO.nil ?_
 refine AW.block ?_
 refine AW.loopS (fun s : Nat × Int => (⟨[(0, .s (List.map encStr elems)), (1, .v (.string sep)), (5, s.2), (39, .s (List.map encStr elems)), (40, (elems.length : Int)), (41, (s.1 : Int))], [], 75, []⟩ : St)) (fun s => s.1 ≤ elems.length ∧ strings_Join_l3 elems sep (elems.drop s.1) s.1 s.2 = some r) (fun s => elems.length - s.1) (0, 0) ⟨Nat.zero_le _, hH⟩ ?_ ?_
 exact Le.ct 0 0
 rintro ⟨k43, v50⟩ ⟨hk, hH⟩
 replace hH : strings_Join_l3 elems sep (elems.drop k43) k43 v50 = some r := hH
 try dsimp only
 refine AW.boundM (t := 0) (l := elems) rfl (fun hb47 => ?_)
 rcases hd46 : elems.drop k43 with _ | ⟨y44, ys45⟩
 rw [hd46, strings_Join_l3] at hH
 have hlt48 := drop_ge hd46
 refine AW.seq (AW.region ?_)
 refine AO.pu T ?_
 refine AO.nil (AW.seq ?_)
 refine AW.condF' (b := decide ((k43 : Int) < (elems.length : Int))) rfl (rngF hlt48) ?_
 refine AW.exit ?_
 refine AW.seq (AW.region ?_)
 refine AO.step rfl (alloc_bld_ok T true (U := 5) rfl 2 rfl rfl rfl rfl rfl) ?_
 refine AO.nil (AW.seq ?_)
 obtain ⟨u52, hx53, hH⟩ := bindE hH
 refine AW.region ?_
 refine AO.pu T ?_
 refine AO.step rfl (bldG_ok rfl rfl rfl rfl (needT (hx53)) strings_Builder_Grow_ok rfl) ?_
 refine AO.nil (AW.seq ?_)
 obtain ⟨x54, hx55, hH⟩ := bindE hH
 obtain ⟨u56, hx57, hH⟩ := bindE hH
 refine AW.region ?_
 refine AO.pu T ?_
 refine AO.val rfl rfl (ix_map_ok T rfl rfl rfl rfl rfl (hx55) rfl) ?_
 refine AO.pu T ?_
 refine AO.step rfl (bldW_ok rfl rfl rfl rfl (needT (hx57)) strings_Builder_WriteString_ok rfl) ?_
 refine AO.nil ?_
 iterate 2 refine AW.seq ?_
 obtain ⟨x58, hx59, hH⟩ := bindE hH
 refine AW.region ?_
 refine AO.pu T ?_
 refine AO.val rfl rfl (slice_lo_map_ok T rfl rfl rfl rfl rfl (hx59) (fun _ => rfl)) ?_
 refine AO.val rfl rfl (len_map_ok T rfl rfl rfl) ?_
 refine AO.pu T ?_
 refine AO.nil ?_
 refine AW.block ?_
 refine AW.loopS (fun s : Nat × ByteArray => (⟨[(1, .v (.string sep)), (8, .p 2 0), (63, .s (List.map encStr x58)), (64, (x58.length : Int)), (65, (s.1 : Int))], [(2, .bld false 53 5 s.2)], 75, []⟩ : St)) (fun s => s.1 ≤ x58.length ∧ strings_Join_l4 sep (x58.drop s.1) s.1 s.2 = some r) (fun s => x58.length - s.1) (0, ((⟨#[]⟩ : ByteArray) ++ x54)) ⟨Nat.zero_le _, hH⟩ ?_ ?_
 exact Le.ct 0 0
 rintro ⟨k60, v75⟩ ⟨hk, hH⟩
 replace hH : strings_Join_l4 sep (x58.drop k60) k60 v75 = some r := hH
 try dsimp only
 refine AW.boundM (t := 63) (l := x58) rfl (fun hb64 => ?_)
 rcases hd63 : x58.drop k60 with _ | ⟨y61, ys62⟩
 rw [hd63, strings_Join_l4] at hH
 have hlt65 := drop_ge hd63
 refine AW.seq (AW.region ?_)
 refine AO.pu T ?_
 refine AO.nil (AW.seq ?_)
 refine AW.condF' (b := decide ((k60 : Int) < (x58.length : Int))) rfl (rngF hlt65) ?_
 refine AW.exit ?_
 refine AW.seq (AW.region ?_)
 refine AO.step rfl (bldS_ok rfl rfl rfl rfl strings_Builder_String_ok rfl) ?_
 refine AO.pu T ?_
 refine AO.nil (AW.ret ?_)
 have hR := someE hH; subst hR
 exact retQ.i [] rfl (.c (.c .v))
 rw [hd63, strings_Join_l4] at hH
 have hlt65 := drop_lt hd63
 refine AW.seq (AW.region ?_)
 refine AO.pu T ?_
 refine AO.nil (AW.seq ?_)
 refine AW.condT' (b := decide ((k60 : Int) < (x58.length : Int))) rfl (rngT hlt65) ?_
 refine AW.skip ?_
 refine AW.seq ?_
 refine AW.block ?_
 refine AW.seq (AW.region ?_)
 refine AO.val rfl rfl (ix_map_ok T rfl rfl rfl rfl rfl (getI_drop hd63) rfl) ?_
 iterate 2 refine AO.pu T ?_
 refine AO.nil (AW.seq ?_)
 obtain ⟨u77, hx78, hH⟩ := bindE hH
 refine AW.region ?_
 refine AO.pu T ?_
 refine AO.step rfl (bldW_ok rfl rfl rfl rfl (needT (hx78)) strings_Builder_WriteString_ok rfl) ?_
 refine AO.nil ?_
 obtain ⟨u79, hx80, hH⟩ := bindE hH
 refine AW.region ?_
 refine AO.pu T ?_
 refine AO.step rfl (bldW_ok rfl rfl rfl rfl (needT (hx80)) strings_Builder_WriteString_ok rfl) ?_
 refine AO.nil ?_
 refine AW.region ?_
 refine AO.val rfl rfl (ar_ok rfl rfl rfl rfl (inI_succ hlt65 hb64)) ?_
 refine AO.pu T ?_
 refine AO.nil ?_
 refine ⟨(k60 + 1, ((v75 ++ sep) ++ y61)), ⟨Nat.succ_le_of_lt hlt65, (by rw [drop_succ_of hd63]; exact hH)⟩, (by have := hlt65; dsimp only; omega), ?_⟩
 exact Le.ct 0 0
 rw [hd46, strings_Join_l3] at hH
 have hlt48 := drop_lt hd46
 refine AW.seq (AW.region ?_)
 refine AO.pu T ?_
 refine AO.nil (AW.seq ?_)
 refine AW.condT' (b := decide ((k43 : Int) < (elems.length : Int))) rfl (rngT hlt48) ?_
 refine AW.skip ?_
 refine AW.seq ?_
 refine AW.block ?_
 refine AW.seq (AW.region ?_)
 refine AO.val rfl rfl (ix_map_ok T rfl rfl rfl rfl rfl (getI_drop hd46) rfl) ?_
 iterate 2 refine AO.pu T ?_
 refine AO.nil ?_
 iterate 2 refine AW.seq ?_
 refine AW.region ?_
 iterate 3 refine AO.pu T ?_
 refine AO.val rfl rfl (arw_ok rfl rfl rfl rfl) ?_
 refine AO.pu T ?_
 refine AO.nil ?_
 refine AW.cond (b := decide ((y44.size : Int) > (w64 (9223372036854775807 - v50)))) rfl (fun hc => ?_) (fun hc => ?_)
 replace hH := condT hc hH
 cases hH
 replace hH := condF hc hH
 refine AW.skip ?_
 refine AW.region ?_
 iterate 3 refine AO.pu T ?_
 refine AO.val rfl rfl (arw_ok rfl rfl rfl rfl) ?_
 refine AO.pu T ?_
 refine AO.nil ?_
 refine AW.region ?_
 refine AO.val rfl rfl (ar_ok rfl rfl rfl rfl (inI_succ hlt48 hb47)) ?_
 refine AO.pu T ?_
 refine AO.nil ?_
 refine ⟨(k43 + 1, w64 (v50 + (y44.size : Int))), ⟨Nat.succ_le_of_lt hlt48, (by rw [drop_succ_of hd46]; exact hH)⟩, (by have := hlt48; dsimp only; omega), ?_⟩
 exact Le.ct 0 0

def impl_numbersText_l1 : List Int → Nat → List ByteArray → Option ByteArray
  | [], k1, v16 =>
    (strings_Join_p v16 (⟨#[32]⟩ : ByteArray)).bind fun x18 =>
    some x18
  | y2 :: ys3, k1, v16 =>
    (strconv_Itoa_p y2).bind fun x20 =>
    (need (fitsB 16 (v16.length + ([x20]).length))).bind fun u22 =>
    impl_numbersText_l1 ys3 (k1 + 1) (v16 ++ [x20])
def impl_numbersText_p (l : List Int) : Option ByteArray :=
  impl_numbersText_l1 l 0 []
theorem impl_numbersText_ok (l : List Int) (r : ByteArray) (hH : impl_numbersText_p l = some r) : SpecR Tryz.prog 23 [.s (List.map encInt l)] (.v (.string r)) := by
 refine fn_ok T Tryz.func23 rfl (by decide) rfl ?_
 refine AW.seq (AW.region ?_)
 refine AO.pu T ?_
 refine AO.nil (AW.seq ?_)
 refine AW.region ?_
 refine AO.step rfl (mk0_ok T rfl rfl rfl rfl) ?_
 refine AO.pu T ?_
 refine AO.nil ?_
 iterate 2 refine AW.seq ?_
 refine AW.region ?_
 refine AO.pu T ?_
 refine AO.val rfl rfl (len_map_ok T rfl rfl rfl) ?_
 refine AO.pu T ?_
 refine AO.nil ?_
 refine AW.block ?_
 refine AW.loopS (fun s : Nat × (List ByteArray) => (⟨[(3, .R 4), (7, .s (List.map encInt l)), (8, (l.length : Int)), (9, (s.1 : Int))], [(4, .row 1 (List.map encStr s.2))], 21, []⟩ : St)) (fun s => s.1 ≤ l.length ∧ impl_numbersText_l1 (l.drop s.1) s.1 s.2 = some r) (fun s => l.length - s.1) (0, []) ⟨Nat.zero_le _, hH⟩ ?_ ?_
 refine Le.trans (Le.void 3 4 1 rfl rfl) ?_
 exact Le.ct 0 0
 rintro ⟨k1, v16⟩ ⟨hk, hH⟩
 replace hH : impl_numbersText_l1 (l.drop k1) k1 v16 = some r := hH
 try dsimp only
 refine AW.boundM (t := 7) (l := l) rfl (fun hb5 => ?_)
 rcases hd4 : l.drop k1 with _ | ⟨y2, ys3⟩
 rw [hd4, impl_numbersText_l1] at hH
 have hlt6 := drop_ge hd4
 refine AW.seq (AW.region ?_)
 refine AO.pu T ?_
 refine AO.nil (AW.seq ?_)
 refine AW.condF' (b := decide ((k1 : Int) < (l.length : Int))) rfl (rngF hlt6) ?_
 refine AW.exit ?_
 refine AW.seq ?_
 obtain ⟨x18, hx19, hH⟩ := bindE hH
 refine AW.region ?_
 refine AO.pu T ?_
 refine AO.val rfl rfl (callLV_ok rfl rfl rfl (es := [.s (List.map encStr v16), .v (.string (⟨#[32]⟩ : ByteArray))]) ⟨(.rowR rfl (.map fun y => .vs rfl)), .free rfl, trivial⟩ (strings_Join_ok _ _ _ (hx19)) (zfree_v _) rfl) ?_
 refine AO.pu T ?_
 refine AO.nil (AW.ret ?_)
 have hR := someE hH; subst hR
 exact retQ.i [] rfl (.c (.c .v))
 rw [hd4, impl_numbersText_l1] at hH
 have hlt6 := drop_lt hd4
 refine AW.seq (AW.region ?_)
 refine AO.pu T ?_
 refine AO.nil (AW.seq ?_)
 refine AW.condT' (b := decide ((k1 : Int) < (l.length : Int))) rfl (rngT hlt6) ?_
 refine AW.skip ?_
 refine AW.seq ?_
 refine AW.block ?_
 refine AW.seq (AW.region ?_)
 refine AO.val rfl rfl (ix_map_ok T rfl rfl rfl rfl rfl (getI_drop hd4) rfl) ?_
 iterate 2 refine AO.pu T ?_
 refine AO.nil ?_
 obtain ⟨x20, hx21, hH⟩ := bindE hH
 obtain ⟨u22, hx23, hH⟩ := bindE hH
 refine AW.region ?_
 iterate 2 refine AO.pu T ?_
 refine AO.val rfl rfl (callV_ok rfl rfl rfl rfl (strconv_Itoa_ok _ _ (hx21)) rfl) ?_
 refine AO.step rfl (mk_map_ok T rfl 5 rfl rfl rfl rfl rfl (f := encStr) (l := [x20]) rfl rfl (fun _ => rfl) rfl rfl rfl rfl rfl) ?_
 refine AO.step rfl (app_rv_map T rfl 6 rfl rfl rfl rfl rfl (by decide) rfl rfl rfl rfl (fun _ => rfl) (needT (hx23)) rfl rfl) ?_
 refine AO.pu T ?_
 refine AO.nil ?_
 refine AW.region ?_
 refine AO.val rfl rfl (ar_ok rfl rfl rfl rfl (inI_succ hlt6 hb5)) ?_
 refine AO.pu T ?_
 refine AO.nil ?_
 refine ⟨(k1 + 1, (v16 ++ [x20])), ⟨Nat.succ_le_of_lt hlt6, (by rw [drop_succ_of hd4]; exact hH)⟩, (by have := hlt6; dsimp only; omega), ?_⟩
 exact Le.ct 6 4

def impl_HistoryText_l1 : List Change → Nat → ByteArray → Option ((ByteArray × Bool))
  | [], k3, v42 =>
    some (v42, true)
  | y4 :: ys5, k3, v42 =>
    (impl_numbersText_p [y4.tick, y4.caller, y4.item, y4.name]).bind fun x44 =>
    (need (Nat.ble (x44.size + (⟨#[32]⟩ : ByteArray).size) maxN)).bind fun u46 =>
    (getI [(⟨#[110, 111, 110, 101]⟩ : ByteArray), (⟨#[100, 111, 119, 110]⟩ : ByteArray), (⟨#[101, 100, 103, 101]⟩ : ByteArray), (⟨#[118, 111, 105, 100]⟩ : ByteArray)] y4.mark).bind fun x48 =>
    (need (Nat.ble ((x44 ++ (⟨#[32]⟩ : ByteArray)).size + x48.size) maxN)).bind fun u50 =>
    (need (Nat.ble (v42.size + ((x44 ++ (⟨#[32]⟩ : ByteArray)) ++ x48).size) 140737488355328)).bind fun u52 =>
    cond y4.review
      ((need (Nat.ble ((v42 ++ ((x44 ++ (⟨#[32]⟩ : ByteArray)) ++ x48)).size + (⟨#[32, 114, 101, 118, 105, 101, 119]⟩ : ByteArray).size) 140737488355328)).bind fun u54 =>
      (need (Nat.ble (((v42 ++ ((x44 ++ (⟨#[32]⟩ : ByteArray)) ++ x48)) ++ (⟨#[32, 114, 101, 118, 105, 101, 119]⟩ : ByteArray)).size + (⟨#[10]⟩ : ByteArray).size) 140737488355328)).bind fun u56 =>
      impl_HistoryText_l1 ys5 (k3 + 1) (((v42 ++ ((x44 ++ (⟨#[32]⟩ : ByteArray)) ++ x48)) ++ (⟨#[32, 114, 101, 118, 105, 101, 119]⟩ : ByteArray)) ++ (⟨#[10]⟩ : ByteArray)))
      ((need (Nat.ble ((v42 ++ ((x44 ++ (⟨#[32]⟩ : ByteArray)) ++ x48)).size + (⟨#[10]⟩ : ByteArray).size) 140737488355328)).bind fun u58 =>
      impl_HistoryText_l1 ys5 (k3 + 1) ((v42 ++ ((x44 ++ (⟨#[32]⟩ : ByteArray)) ++ x48)) ++ (⟨#[10]⟩ : ByteArray)))
def impl_HistoryText_p (fuel : Nat) (l : List Item) (h : List Change) : Option (ByteArray × Bool) :=
  (impl_isHistory_p fuel l h).bind fun x1 =>
  cond (!x1)
    (some ((⟨#[]⟩ : ByteArray), false))
    (impl_HistoryText_l1 h 0 (⟨#[]⟩ : ByteArray))
theorem impl_HistoryText_ok (fuel : Nat) (l : List Item) (h : List Change) (r : (ByteArray × Bool)) (hH : impl_HistoryText_p fuel l h = some r) : SpecR Tryz.prog 5 [.s (List.map encItem l), .s (List.map encChange h)] (.t [.v (.string r.1), .v (.bool r.2)]) := by
 refine fn_ok T Tryz.func5 rfl (by decide) rfl ?_
 refine AW.seq (AW.region ?_)
 iterate 2 refine AO.pu T ?_
 refine AO.nil ?_
 iterate 2 refine AW.seq ?_
 obtain ⟨x1, hx2, hH⟩ := bindE hH
 refine AW.region ?_
 iterate 2 refine AO.pu T ?_
 refine AO.val rfl rfl (callV_ok rfl rfl rfl rfl (impl_isHistory_ok fuel _ _ _ (hx2)) rfl) ?_
 refine AO.pu T ?_
 refine AO.nil ?_
 refine AW.cond (b := (!x1)) rfl (fun hc => ?_) (fun hc => ?_)
 replace hH := condT hc hH
 refine AW.seq (AW.region ?_)
 iterate 2 refine AO.pu T ?_
 refine AO.nil (AW.ret ?_)
 have hR := someE hH; subst hR
 exact retQ.i [] rfl (.t (expLG_cons (.c .v) (expLG_cons (.c .v) (expLG_nil))))
 replace hH := condF hc hH
 refine AW.skip ?_
 refine AW.seq (AW.region ?_)
 refine AO.step rfl (alloc_bld_ok T false (U := 5) rfl 1 rfl rfl rfl rfl rfl) ?_
 refine AO.nil ?_
 iterate 2 refine AW.seq ?_
 refine AW.region ?_
 refine AO.pu T ?_
 refine AO.val rfl rfl (len_map_ok T rfl rfl rfl) ?_
 refine AO.pu T ?_
 refine AO.nil ?_
 refine AW.block ?_
 refine AW.loopS (fun s : Nat × ByteArray => (⟨[(6, .p 1 0), (13, .s (List.map encChange h)), (14, (h.length : Int)), (15, (s.1 : Int))], [(1, .bld false 53 5 s.2)], 42, []⟩ : St)) (fun s => s.1 ≤ h.length ∧ impl_HistoryText_l1 (h.drop s.1) s.1 s.2 = some r) (fun s => h.length - s.1) (0, (⟨#[]⟩ : ByteArray)) ⟨Nat.zero_le _, hH⟩ ?_ ?_
 exact Le.ct 0 0
 rintro ⟨k3, v42⟩ ⟨hk, hH⟩
 replace hH : impl_HistoryText_l1 (h.drop k3) k3 v42 = some r := hH
 try dsimp only
 refine AW.boundM (t := 13) (l := h) rfl (fun hb7 => ?_)
 rcases hd6 : h.drop k3 with _ | ⟨y4, ys5⟩
 rw [hd6, impl_HistoryText_l1] at hH
 have hlt8 := drop_ge hd6
 refine AW.seq (AW.region ?_)
 refine AO.pu T ?_
 refine AO.nil (AW.seq ?_)
 refine AW.condF' (b := decide ((k3 : Int) < (h.length : Int))) rfl (rngF hlt8) ?_
 refine AW.exit ?_
 refine AW.seq (AW.region ?_)
 refine AO.step rfl (bldS_ok rfl rfl rfl rfl strings_Builder_String_ok rfl) ?_
 iterate 2 refine AO.pu T ?_
 refine AO.nil (AW.ret ?_)
 have hR := someE hH; subst hR
 exact retQ.i [] rfl (.t (expLG_cons (.c .v) (expLG_cons (.c .v) (expLG_nil))))
 rw [hd6, impl_HistoryText_l1] at hH
 have hlt8 := drop_lt hd6
 refine AW.seq (AW.region ?_)
 refine AO.pu T ?_
 refine AO.nil (AW.seq ?_)
 refine AW.condT' (b := decide ((k3 : Int) < (h.length : Int))) rfl (rngT hlt8) ?_
 refine AW.skip ?_
 refine AW.seq ?_
 refine AW.block ?_
 refine AW.seq (AW.region ?_)
 refine AO.val rfl rfl (ix_map_ok T rfl rfl rfl rfl rfl (getI_drop hd6) rfl) ?_
 refine AO.pu T (d := .g [y4.tick, y4.caller, y4.item, y4.name, y4.mark, .v (.bool y4.review)]) ?_
 refine AO.step rfl (alloc_ok T rfl 6 rfl rfl rfl rfl rfl) ?_
 refine AO.se T [y4.tick, y4.caller, y4.item, y4.name, y4.mark, .v (.bool y4.review)] ?_
 refine AO.nil (AW.seq ?_)
 obtain ⟨x44, hx45, hH⟩ := bindE hH
 obtain ⟨u46, hx47, hH⟩ := bindE hH
 obtain ⟨x48, hx49, hH⟩ := bindE hH
 obtain ⟨u50, hx51, hH⟩ := bindE hH
 obtain ⟨u52, hx53, hH⟩ := bindE hH
 refine AW.drawn 15 7 [] mix (by kernel_rfl) rfl ?_
 iterate 8 refine AD.pure T rfl rfl rfl ?_
 refine AD.q (FStep.mk T (f := encInt) (l := [y4.tick, y4.caller, y4.item, y4.name]) rfl rfl rfl rfl rfl rfl rfl rfl rfl (fun _ => rfl) rfl rfl rfl rfl) (by simp [namesIn]) (Nat.le_succ _) rfl ?_
 refine AD.vald rfl rfl rfl (callLV_ok rfl rfl rfl (es := [.s (List.map encInt [y4.tick, y4.caller, y4.item, y4.name])]) ⟨(.rowR rfl (.map fun y => .vs rfl)), trivial⟩ (impl_numbersText_ok _ _ (hx45)) (zfree_v _) rfl) ?_
 refine AD.val rfl rfl (concat_ok rfl rfl rfl (Nat.le_of_ble_eq_true (needT (hx47)))) ?_
 iterate 2 refine AD.pure T rfl rfl rfl ?_
 refine AD.val rfl rfl (ixq_ok T (l := [(⟨#[110, 111, 110, 101]⟩ : ByteArray), (⟨#[100, 111, 119, 110]⟩ : ByteArray), (⟨#[101, 100, 103, 101]⟩ : ByteArray), (⟨#[118, 111, 105, 100]⟩ : ByteArray)]) (f := encStr) rfl rfl rfl rfl rfl rfl rfl (fun _ => rfl) (hx49)) ?_
 refine AD.pure T rfl rfl rfl ?_
 refine AD.nil ?_
 refine AO.val rfl rfl (concat_ok rfl rfl rfl (Nat.le_of_ble_eq_true (needT (hx51)))) ?_
 refine AO.step rfl (bldW_ok rfl rfl rfl rfl (needT (hx53)) strings_Builder_WriteString_ok rfl) ?_
 refine AO.nil ?_
 iterate 2 refine AW.seq ?_
 refine AW.region ?_
 iterate 2 refine AO.pu T ?_
 refine AO.nil ?_
 refine AW.le (Le.ct 0 0 (σ' := (⟨[(6, .p 1 0), (13, .s (List.map encChange h)), (14, (h.length : Int)), (15, (k3 : Int)), (37, .v (.bool y4.review))], [(1, .bld false 53 5 (v42 ++ ((x44 ++ (⟨#[32]⟩ : ByteArray)) ++ x48)))], 42, []⟩ : St))) ?_
 refine AW.cond (b := y4.review) rfl (fun hc => ?_) (fun hc => ?_)
 replace hH := condT hc hH
 obtain ⟨u54, hx55, hH⟩ := bindE hH
 refine AW.region ?_
 refine AO.step rfl (bldW_ok rfl rfl rfl rfl (needT (hx55)) strings_Builder_WriteString_ok rfl) ?_
 refine AO.nil ?_
 obtain ⟨u56, hx57, hH⟩ := bindE hH
 refine AW.region ?_
 refine AO.step rfl (bldW_ok rfl rfl rfl rfl (needT (hx57)) strings_Builder_WriteString_ok rfl) ?_
 refine AO.nil ?_
 refine AW.region ?_
 refine AO.val rfl rfl (ar_ok rfl rfl rfl rfl (inI_succ hlt8 hb7)) ?_
 refine AO.pu T ?_
 refine AO.nil ?_
 refine ⟨(k3 + 1, (((v42 ++ ((x44 ++ (⟨#[32]⟩ : ByteArray)) ++ x48)) ++ (⟨#[32, 114, 101, 118, 105, 101, 119]⟩ : ByteArray)) ++ (⟨#[10]⟩ : ByteArray))), ⟨Nat.succ_le_of_lt hlt8, (by rw [drop_succ_of hd6]; exact hH)⟩, (by have := hlt8; dsimp only; omega), ?_⟩
 exact Le.ct 0 0
 replace hH := condF hc hH
 refine AW.skip ?_
 obtain ⟨u58, hx59, hH⟩ := bindE hH
 refine AW.region ?_
 refine AO.step rfl (bldW_ok rfl rfl rfl rfl (needT (hx59)) strings_Builder_WriteString_ok rfl) ?_
 refine AO.nil ?_
 refine AW.region ?_
 refine AO.val rfl rfl (ar_ok rfl rfl rfl rfl (inI_succ hlt8 hb7)) ?_
 refine AO.pu T ?_
 refine AO.nil ?_
 refine ⟨(k3 + 1, ((v42 ++ ((x44 ++ (⟨#[32]⟩ : ByteArray)) ++ x48)) ++ (⟨#[10]⟩ : ByteArray))), ⟨Nat.succ_le_of_lt hlt8, (by rw [drop_succ_of hd6]; exact hH)⟩, (by have := hlt8; dsimp only; omega), ?_⟩
 exact Le.ct 0 0

def spec_hiAsked_p (fuel : Nat) (l : List Item) (h : List Change) : Option Bool :=
  (spec_itList_p fuel l).bind fun x1 =>
  (opt x1 default (spec_hiGood_p l h)).bind fun x3 =>
  some (x1 && x3)
theorem spec_hiAsked_ok (fuel : Nat) (l : List Item) (h : List Change) (r : Bool) (hH : spec_hiAsked_p fuel l h = some r) : SpecR Tryz.prog 25 [.s (List.map encItem l), .s (List.map encChange h)] (.v (.bool r)) := by
 refine fn_ok T Tryz.func25 rfl (by decide) rfl ?_
 refine AW.seq (AW.region ?_)
 refine AO.pu T ?_
 refine AO.nil (AW.seq ?_)
 obtain ⟨x1, hx2, hH⟩ := bindE hH
 obtain ⟨x3, hx4, hH⟩ := bindE hH
 refine AW.region ?_
 refine AO.pu T ?_
 refine AO.val rfl rfl (callV_ok rfl rfl rfl rfl (spec_itList_ok fuel _ _ (hx2)) rfl) ?_
 refine AO.pu T ?_
 iterate 2 refine AO.pureG T [] rfl trivial rfl rfl ?_
 refine AO.guard [8, 9] rfl ⟨fun h => h, fun h => h, trivial⟩ (fun hg => callV_ok rfl rfl rfl rfl (spec_hiGood_ok _ _ _ (optT hx4 hg)) rfl) rfl ?_
 refine AO.val rfl rfl (pick_and rfl rfl rfl rfl) ?_
 refine AO.pu T ?_
 refine AO.nil (AW.ret ?_)
 have hR := someE hH; subst hR
 exact retQ.i [] rfl (.c (.c .v))

def spec_l1Num_p (fuel : Nat) : Nat → Int → Option ByteArray
  | 0, _ => none
  | rf + 1, n =>
    cond (decide (n < 10))
      (some (strOfNums [IntKind.wrap .u8 (w64 (48 + n))]))
      ((need (10 != 0)).bind fun u1 =>
      (spec_l1Num_p fuel rf (w64 (n.tdiv 10))).bind fun x3 =>
      (need (Nat.ble (x3.size + (strOfNums [IntKind.wrap .u8 (w64 (48 + (n.tmod 10)))]).size) maxN)).bind fun u5 =>
      some (x3 ++ (strOfNums [IntKind.wrap .u8 (w64 (48 + (n.tmod 10)))])))
theorem spec_l1Num_ok (fuel : Nat) : ∀ (rf : Nat) (n : Int) (r : ByteArray) (hH : spec_l1Num_p fuel rf n = some r), SpecR Tryz.prog 54 [n] (.v (.string r)) := by
 intro rf
 induction rf with
 | zero => intro n r hH; rw [spec_l1Num_p] at hH; cases hH
 | succ rf ih =>
 intro n r hH
 rw [spec_l1Num_p] at hH
 refine fn_ok T Tryz.func54 rfl (by decide) rfl ?_
 refine AW.seq (AW.region ?_)
 refine AO.pu T ?_
 refine AO.nil ?_
 iterate 2 refine AW.seq ?_
 refine AW.region ?_
 iterate 2 refine AO.pu T ?_
 refine AO.nil ?_
 refine AW.cond (b := decide (n < 10)) rfl (fun hc => ?_) (fun hc => ?_)
 replace hH := condT hc hH
 refine AW.seq (AW.region ?_)
 refine AO.pu T ?_
 refine AO.val rfl rfl (arw_ok rfl rfl rfl rfl) ?_
 refine AO.val rfl rfl (convw_ok T rfl rfl rfl rfl) ?_
 refine AO.step rfl (mk_map_ok T rfl 1 rfl rfl rfl rfl rfl (f := encInt_u8) (l := [IntKind.wrap .u8 (w64 (48 + n))]) rfl rfl (fun _ => rfl) rfl rfl rfl rfl rfl) ?_
 refine AO.val rfl rfl (conv_bytes_ok T rfl rfl rfl rfl rfl rfl (fun _ => rfl) rfl) ?_
 refine AO.pu T ?_
 refine AO.nil (AW.ret ?_)
 have hR := someE hH; subst hR
 exact retQ.i [] rfl (.c (.c .v))
 replace hH := condF hc hH
 refine AW.skip ?_
 refine AW.seq ?_
 obtain ⟨u1, hx2, hH⟩ := bindE hH
 obtain ⟨x3, hx4, hH⟩ := bindE hH
 obtain ⟨u5, hx6, hH⟩ := bindE hH
 refine AW.drawn 9 2 [] mix (by kernel_rfl) rfl ?_
 refine AD.pure T rfl rfl rfl ?_
 refine AD.val rfl rfl (quow_ok rfl rfl rfl (neZ (needT (hx2)))) ?_
 refine AD.val rfl rfl (callV_ok rfl rfl rfl rfl (ih _ _ (hx4)) rfl) ?_
 refine AD.pure T rfl rfl rfl ?_
 refine AD.val rfl rfl (rem_ok rfl rfl rfl (neZ (needT (hx2)))) ?_
 refine AD.val rfl rfl (arw_ok rfl rfl rfl rfl) ?_
 refine AD.val rfl rfl (convw_ok T rfl rfl rfl rfl) ?_
 refine AD.q (FStep.mk T (f := encInt_u8) (l := [IntKind.wrap .u8 (w64 (48 + (n.tmod 10)))]) rfl rfl rfl rfl rfl rfl rfl rfl rfl (fun _ => rfl) rfl rfl rfl rfl) (by simp [namesIn]) (Nat.le_succ _) rfl ?_
 refine AD.vald rfl rfl rfl (conv_bytes_ok T rfl rfl rfl rfl rfl rfl (fun _ => rfl) rfl) ?_
 refine AD.nil ?_
 refine AO.val rfl rfl (concat_ok rfl rfl rfl (Nat.le_of_ble_eq_true (needT (hx6)))) ?_
 refine AO.pu T ?_
 refine AO.nil (AW.ret ?_)
 have hR := someE hH; subst hR
 exact retQ.i [] rfl (.c (.c .v))

def spec_hiWords_p  : Option (List ByteArray) :=
  some [(⟨#[110, 111, 110, 101]⟩ : ByteArray), (⟨#[100, 111, 119, 110]⟩ : ByteArray), (⟨#[101, 100, 103, 101]⟩ : ByteArray), (⟨#[118, 111, 105, 100]⟩ : ByteArray)]
theorem spec_hiWords_ok  (r : (List ByteArray)) (hH : spec_hiWords_p  = some r) : SpecR Tryz.prog 47 [] (.w 1 (r.map encStr)) := by
 refine fn_ok T Tryz.func47 rfl (by decide) rfl ?_
 refine AW.seq (AW.region ?_)
 refine AO.pu T ?_
 refine AO.nil (AW.seq ?_)
 refine AW.region ?_
 refine AO.step rfl (mk_map_ok T rfl 1 rfl rfl rfl rfl rfl (f := encStr) (l := [(⟨#[110, 111, 110, 101]⟩ : ByteArray), (⟨#[100, 111, 119, 110]⟩ : ByteArray), (⟨#[101, 100, 103, 101]⟩ : ByteArray), (⟨#[118, 111, 105, 100]⟩ : ByteArray)]) rfl rfl (fun _ => rfl) rfl rfl rfl rfl rfl) ?_
 refine AO.pu T ?_
 refine AO.nil (AW.ret ?_)
 have hR := someE hH; subst hR
 exact retQ.i [1] rfl (.c (.c (.rowR rfl)))

def spec_hiText_l1 (fuel : Nat) : List Change → Nat → ByteArray → Option ByteArray
  | [], k1, v80 =>
    some v80
  | y2 :: ys3, k1, v80 =>
    (spec_l1Num_p fuel fuel y2.tick).bind fun x82 =>
    (need (Nat.ble (x82.size + (⟨#[32]⟩ : ByteArray).size) maxN)).bind fun u84 =>
    (spec_l1Num_p fuel fuel y2.caller).bind fun x86 =>
    (need (Nat.ble ((x82 ++ (⟨#[32]⟩ : ByteArray)).size + x86.size) maxN)).bind fun u88 =>
    (need (Nat.ble (((x82 ++ (⟨#[32]⟩ : ByteArray)) ++ x86).size + (⟨#[32]⟩ : ByteArray).size) maxN)).bind fun u90 =>
    (spec_l1Num_p fuel fuel y2.item).bind fun x92 =>
    (need (Nat.ble ((((x82 ++ (⟨#[32]⟩ : ByteArray)) ++ x86) ++ (⟨#[32]⟩ : ByteArray)).size + x92.size) maxN)).bind fun u94 =>
    (need (Nat.ble (((((x82 ++ (⟨#[32]⟩ : ByteArray)) ++ x86) ++ (⟨#[32]⟩ : ByteArray)) ++ x92).size + (⟨#[32]⟩ : ByteArray).size) maxN)).bind fun u96 =>
    (spec_l1Num_p fuel fuel y2.name).bind fun x98 =>
    (need (Nat.ble ((((((x82 ++ (⟨#[32]⟩ : ByteArray)) ++ x86) ++ (⟨#[32]⟩ : ByteArray)) ++ x92) ++ (⟨#[32]⟩ : ByteArray)).size + x98.size) maxN)).bind fun u100 =>
    (need (Nat.ble (((((((x82 ++ (⟨#[32]⟩ : ByteArray)) ++ x86) ++ (⟨#[32]⟩ : ByteArray)) ++ x92) ++ (⟨#[32]⟩ : ByteArray)) ++ x98).size + (⟨#[32]⟩ : ByteArray).size) maxN)).bind fun u102 =>
    (spec_hiWords_p ).bind fun x104 =>
    (getI x104 y2.mark).bind fun x106 =>
    (need (Nat.ble ((((((((x82 ++ (⟨#[32]⟩ : ByteArray)) ++ x86) ++ (⟨#[32]⟩ : ByteArray)) ++ x92) ++ (⟨#[32]⟩ : ByteArray)) ++ x98) ++ (⟨#[32]⟩ : ByteArray)).size + x106.size) maxN)).bind fun u108 =>
    (need (Nat.ble (v80.size + ((((((((x82 ++ (⟨#[32]⟩ : ByteArray)) ++ x86) ++ (⟨#[32]⟩ : ByteArray)) ++ x92) ++ (⟨#[32]⟩ : ByteArray)) ++ x98) ++ (⟨#[32]⟩ : ByteArray)) ++ x106).size) maxN)).bind fun u110 =>
    cond y2.review
      ((need (Nat.ble ((v80 ++ ((((((((x82 ++ (⟨#[32]⟩ : ByteArray)) ++ x86) ++ (⟨#[32]⟩ : ByteArray)) ++ x92) ++ (⟨#[32]⟩ : ByteArray)) ++ x98) ++ (⟨#[32]⟩ : ByteArray)) ++ x106)).size + (⟨#[32, 114, 101, 118, 105, 101, 119]⟩ : ByteArray).size) maxN)).bind fun u112 =>
      (need (Nat.ble (((v80 ++ ((((((((x82 ++ (⟨#[32]⟩ : ByteArray)) ++ x86) ++ (⟨#[32]⟩ : ByteArray)) ++ x92) ++ (⟨#[32]⟩ : ByteArray)) ++ x98) ++ (⟨#[32]⟩ : ByteArray)) ++ x106)) ++ (⟨#[32, 114, 101, 118, 105, 101, 119]⟩ : ByteArray)).size + (⟨#[10]⟩ : ByteArray).size) maxN)).bind fun u114 =>
      spec_hiText_l1 fuel ys3 (k1 + 1) (((v80 ++ ((((((((x82 ++ (⟨#[32]⟩ : ByteArray)) ++ x86) ++ (⟨#[32]⟩ : ByteArray)) ++ x92) ++ (⟨#[32]⟩ : ByteArray)) ++ x98) ++ (⟨#[32]⟩ : ByteArray)) ++ x106)) ++ (⟨#[32, 114, 101, 118, 105, 101, 119]⟩ : ByteArray)) ++ (⟨#[10]⟩ : ByteArray)))
      ((need (Nat.ble ((v80 ++ ((((((((x82 ++ (⟨#[32]⟩ : ByteArray)) ++ x86) ++ (⟨#[32]⟩ : ByteArray)) ++ x92) ++ (⟨#[32]⟩ : ByteArray)) ++ x98) ++ (⟨#[32]⟩ : ByteArray)) ++ x106)).size + (⟨#[10]⟩ : ByteArray).size) maxN)).bind fun u116 =>
      spec_hiText_l1 fuel ys3 (k1 + 1) ((v80 ++ ((((((((x82 ++ (⟨#[32]⟩ : ByteArray)) ++ x86) ++ (⟨#[32]⟩ : ByteArray)) ++ x92) ++ (⟨#[32]⟩ : ByteArray)) ++ x98) ++ (⟨#[32]⟩ : ByteArray)) ++ x106)) ++ (⟨#[10]⟩ : ByteArray)))
def spec_hiText_p (fuel : Nat) (h : List Change) : Option ByteArray :=
  spec_hiText_l1 fuel h 0 (⟨#[]⟩ : ByteArray)
theorem spec_hiText_ok (fuel : Nat) (h : List Change) (r : ByteArray) (hH : spec_hiText_p fuel h = some r) : SpecR Tryz.prog 26 [.s (List.map encChange h)] (.v (.string r)) := by
 refine fn_ok T Tryz.func26 rfl (by decide) rfl ?_
 refine AW.seq (AW.region ?_)
 refine AO.pu T ?_
 refine AO.nil (AW.seq ?_)
 refine AW.region ?_
 refine AO.pu T ?_
 refine AO.nil ?_
 iterate 2 refine AW.seq ?_
 refine AW.region ?_
 refine AO.pu T ?_
 refine AO.val rfl rfl (len_map_ok T rfl rfl rfl) ?_
 refine AO.pu T ?_
 refine AO.nil ?_
 refine AW.block ?_
 refine AW.loopS (fun s : Nat × ByteArray => (⟨[(3, .v (.string s.2)), (6, .s (List.map encChange h)), (7, (h.length : Int)), (8, (s.1 : Int))], [], 47, []⟩ : St)) (fun s => s.1 ≤ h.length ∧ spec_hiText_l1 fuel (h.drop s.1) s.1 s.2 = some r) (fun s => h.length - s.1) (0, (⟨#[]⟩ : ByteArray)) ⟨Nat.zero_le _, hH⟩ ?_ ?_
 exact Le.ct 0 0
 rintro ⟨k1, v80⟩ ⟨hk, hH⟩
 replace hH : spec_hiText_l1 fuel (h.drop k1) k1 v80 = some r := hH
 try dsimp only
 refine AW.boundM (t := 6) (l := h) rfl (fun hb5 => ?_)
 rcases hd4 : h.drop k1 with _ | ⟨y2, ys3⟩
 rw [hd4, spec_hiText_l1] at hH
 have hlt6 := drop_ge hd4
 refine AW.seq (AW.region ?_)
 refine AO.pu T ?_
 refine AO.nil (AW.seq ?_)
 refine AW.condF' (b := decide ((k1 : Int) < (h.length : Int))) rfl (rngF hlt6) ?_
 refine AW.exit ?_
 refine AW.seq (AW.region ?_)
 iterate 2 refine AO.pu T ?_
 refine AO.nil (AW.ret ?_)
 have hR := someE hH; subst hR
 exact retQ.i [] rfl (.c (.c .v))
 rw [hd4, spec_hiText_l1] at hH
 have hlt6 := drop_lt hd4
 refine AW.seq (AW.region ?_)
 refine AO.pu T ?_
 refine AO.nil (AW.seq ?_)
 refine AW.condT' (b := decide ((k1 : Int) < (h.length : Int))) rfl (rngT hlt6) ?_
 refine AW.skip ?_
 refine AW.seq ?_
 refine AW.block ?_
 refine AW.seq (AW.region ?_)
 refine AO.val rfl rfl (ix_map_ok T rfl rfl rfl rfl rfl (getI_drop hd4) rfl) ?_
 refine AO.pu T (d := .g [y2.tick, y2.caller, y2.item, y2.name, y2.mark, .v (.bool y2.review)]) ?_
 refine AO.step rfl (alloc_ok T rfl 5 rfl rfl rfl rfl rfl) ?_
 refine AO.se T [y2.tick, y2.caller, y2.item, y2.name, y2.mark, .v (.bool y2.review)] ?_
 refine AO.nil (AW.seq ?_)
 obtain ⟨x82, hx83, hH⟩ := bindE hH
 obtain ⟨u84, hx85, hH⟩ := bindE hH
 obtain ⟨x86, hx87, hH⟩ := bindE hH
 obtain ⟨u88, hx89, hH⟩ := bindE hH
 obtain ⟨u90, hx91, hH⟩ := bindE hH
 obtain ⟨x92, hx93, hH⟩ := bindE hH
 obtain ⟨u94, hx95, hH⟩ := bindE hH
 obtain ⟨u96, hx97, hH⟩ := bindE hH
 obtain ⟨x98, hx99, hH⟩ := bindE hH
 obtain ⟨u100, hx101, hH⟩ := bindE hH
 obtain ⟨u102, hx103, hH⟩ := bindE hH
 obtain ⟨x104, hx105, hH⟩ := bindE hH
 obtain ⟨x106, hx107, hH⟩ := bindE hH
 obtain ⟨u108, hx109, hH⟩ := bindE hH
 obtain ⟨u110, hx111, hH⟩ := bindE hH
 refine AW.drawn 26 6 [] mix (by kernel_rfl) rfl ?_
 iterate 3 refine AD.pure T rfl rfl rfl ?_
 refine AD.val rfl rfl (callV_ok rfl rfl rfl rfl (spec_l1Num_ok fuel fuel _ _ (hx83)) rfl) ?_
 refine AD.val rfl rfl (concat_ok rfl rfl rfl (Nat.le_of_ble_eq_true (needT (hx85)))) ?_
 iterate 2 refine AD.pure T rfl rfl rfl ?_
 refine AD.val rfl rfl (callV_ok rfl rfl rfl rfl (spec_l1Num_ok fuel fuel _ _ (hx87)) rfl) ?_
 refine AD.val rfl rfl (concat_ok rfl rfl rfl (Nat.le_of_ble_eq_true (needT (hx89)))) ?_
 refine AD.val rfl rfl (concat_ok rfl rfl rfl (Nat.le_of_ble_eq_true (needT (hx91)))) ?_
 iterate 2 refine AD.pure T rfl rfl rfl ?_
 refine AD.val rfl rfl (callV_ok rfl rfl rfl rfl (spec_l1Num_ok fuel fuel _ _ (hx93)) rfl) ?_
 refine AD.val rfl rfl (concat_ok rfl rfl rfl (Nat.le_of_ble_eq_true (needT (hx95)))) ?_
 refine AD.val rfl rfl (concat_ok rfl rfl rfl (Nat.le_of_ble_eq_true (needT (hx97)))) ?_
 iterate 2 refine AD.pure T rfl rfl rfl ?_
 refine AD.val rfl rfl (callV_ok rfl rfl rfl rfl (spec_l1Num_ok fuel fuel _ _ (hx99)) rfl) ?_
 refine AD.val rfl rfl (concat_ok rfl rfl rfl (Nat.le_of_ble_eq_true (needT (hx101)))) ?_
 refine AD.val rfl rfl (concat_ok rfl rfl rfl (Nat.le_of_ble_eq_true (needT (hx103)))) ?_
 refine AD.q (FStep.call rfl rfl rfl rfl rfl (spec_hiWords_ok _ (hx105)) rfl rfl) (impT_names _ _) (impT_le _ _) rfl ?_
 iterate 2 refine AD.pure T rfl rfl rfl ?_
 refine AD.vald rfl rfl rfl (ix_row_ok T rfl rfl rfl rfl rfl rfl (hx107)) ?_
 refine AD.vald rfl rfl rfl (load_row_ok T rfl rfl rfl rfl (getI_get (hx107)) rfl rfl rfl) ?_
 refine AD.val rfl rfl (concat_ok rfl rfl rfl (Nat.le_of_ble_eq_true (needT (hx109)))) ?_
 refine AD.nil ?_
 refine AO.val rfl rfl (concat_ok rfl rfl rfl (Nat.le_of_ble_eq_true (needT (hx111)))) ?_
 refine AO.pu T ?_
 refine AO.nil ?_
 refine AW.le (Le.ct 0 0 (σ' := (⟨[(3, .v (.string (v80 ++ ((((((((x82 ++ (⟨#[32]⟩ : ByteArray)) ++ x86) ++ (⟨#[32]⟩ : ByteArray)) ++ x92) ++ (⟨#[32]⟩ : ByteArray)) ++ x98) ++ (⟨#[32]⟩ : ByteArray)) ++ x106)))), (5, .p 5 0), (6, .s (List.map encChange h)), (7, (h.length : Int)), (8, (k1 : Int))], [(5, .box [y2.tick, y2.caller, y2.item, y2.name, y2.mark, .v (.bool y2.review)])], 47, []⟩ : St))) ?_
 iterate 2 refine AW.seq ?_
 refine AW.region ?_
 iterate 2 refine AO.pu T ?_
 refine AO.nil ?_
 refine AW.cond (b := y2.review) rfl (fun hc => ?_) (fun hc => ?_)
 replace hH := condT hc hH
 obtain ⟨u112, hx113, hH⟩ := bindE hH
 refine AW.region ?_
 refine AO.pu T ?_
 refine AO.val rfl rfl (concat_ok rfl rfl rfl (Nat.le_of_ble_eq_true (needT (hx113)))) ?_
 refine AO.pu T ?_
 refine AO.nil ?_
 obtain ⟨u114, hx115, hH⟩ := bindE hH
 refine AW.region ?_
 refine AO.pu T ?_
 refine AO.val rfl rfl (concat_ok rfl rfl rfl (Nat.le_of_ble_eq_true (needT (hx115)))) ?_
 refine AO.pu T ?_
 refine AO.nil ?_
 refine AW.region ?_
 refine AO.val rfl rfl (ar_ok rfl rfl rfl rfl (inI_succ hlt6 hb5)) ?_
 refine AO.pu T ?_
 refine AO.nil ?_
 refine ⟨(k1 + 1, (((v80 ++ ((((((((x82 ++ (⟨#[32]⟩ : ByteArray)) ++ x86) ++ (⟨#[32]⟩ : ByteArray)) ++ x92) ++ (⟨#[32]⟩ : ByteArray)) ++ x98) ++ (⟨#[32]⟩ : ByteArray)) ++ x106)) ++ (⟨#[32, 114, 101, 118, 105, 101, 119]⟩ : ByteArray)) ++ (⟨#[10]⟩ : ByteArray))), ⟨Nat.succ_le_of_lt hlt6, (by rw [drop_succ_of hd4]; exact hH)⟩, (by have := hlt6; dsimp only; omega), ?_⟩
 exact Le.ct 0 0
 replace hH := condF hc hH
 refine AW.skip ?_
 obtain ⟨u116, hx117, hH⟩ := bindE hH
 refine AW.region ?_
 refine AO.pu T ?_
 refine AO.val rfl rfl (concat_ok rfl rfl rfl (Nat.le_of_ble_eq_true (needT (hx117)))) ?_
 refine AO.pu T ?_
 refine AO.nil ?_
 refine AW.region ?_
 refine AO.val rfl rfl (ar_ok rfl rfl rfl rfl (inI_succ hlt6 hb5)) ?_
 refine AO.pu T ?_
 refine AO.nil ?_
 refine ⟨(k1 + 1, ((v80 ++ ((((((((x82 ++ (⟨#[32]⟩ : ByteArray)) ++ x86) ++ (⟨#[32]⟩ : ByteArray)) ++ x92) ++ (⟨#[32]⟩ : ByteArray)) ++ x98) ++ (⟨#[32]⟩ : ByteArray)) ++ x106)) ++ (⟨#[10]⟩ : ByteArray))), ⟨Nat.succ_le_of_lt hlt6, (by rw [drop_succ_of hd4]; exact hH)⟩, (by have := hlt6; dsimp only; omega), ?_⟩
 exact Le.ct 0 0

def spec_HistoryText_p (fuel : Nat) (l : List Item) (h : List Change) : Option (ByteArray × Bool) :=
  (spec_hiAsked_p fuel l h).bind fun x1 =>
  cond (!x1)
    (some ((⟨#[]⟩ : ByteArray), false))
    ((spec_hiText_p fuel h).bind fun x3 =>
    some (x3, true))
theorem spec_HistoryText_ok (fuel : Nat) (l : List Item) (h : List Change) (r : (ByteArray × Bool)) (hH : spec_HistoryText_p fuel l h = some r) : SpecR Tryz.prog 6 [.s (List.map encItem l), .s (List.map encChange h)] (.t [.v (.string r.1), .v (.bool r.2)]) := by
 refine fn_ok T Tryz.func6 rfl (by decide) rfl ?_
 refine AW.seq (AW.region ?_)
 iterate 2 refine AO.pu T ?_
 refine AO.nil ?_
 iterate 2 refine AW.seq ?_
 obtain ⟨x1, hx2, hH⟩ := bindE hH
 refine AW.region ?_
 iterate 2 refine AO.pu T ?_
 refine AO.val rfl rfl (callV_ok rfl rfl rfl rfl (spec_hiAsked_ok fuel _ _ _ (hx2)) rfl) ?_
 refine AO.pu T ?_
 refine AO.nil ?_
 refine AW.cond (b := (!x1)) rfl (fun hc => ?_) (fun hc => ?_)
 replace hH := condT hc hH
 refine AW.seq (AW.region ?_)
 iterate 2 refine AO.pu T ?_
 refine AO.nil (AW.ret ?_)
 have hR := someE hH; subst hR
 exact retQ.i [] rfl (.t (expLG_cons (.c .v) (expLG_cons (.c .v) (expLG_nil))))
 replace hH := condF hc hH
 refine AW.skip ?_
 refine AW.seq ?_
 obtain ⟨x3, hx4, hH⟩ := bindE hH
 refine AW.region ?_
 refine AO.pu T ?_
 refine AO.val rfl rfl (callV_ok rfl rfl rfl rfl (spec_hiText_ok fuel _ _ (hx4)) rfl) ?_
 iterate 2 refine AO.pu T ?_
 refine AO.nil (AW.ret ?_)
 have hR := someE hH; subst hR
 exact retQ.i [] rfl (.t (expLG_cons (.c .v) (expLG_cons (.c .v) (expLG_nil))))

def impl_StateAt_p (fuel : Nat) (l : List Item) (h : List Change) (tick : Int) : Option ((List Item) × Bool) :=
  (impl_isHistory_p fuel l h).bind fun x1 =>
  (opt (!(!x1)) default (impl_isTick_p tick)).bind fun x3 =>
  cond ((!x1) || (!x3))
    (some ([], false))
    ((impl_stateOf_p l h tick).bind fun x5 =>
    (match x5.1 with
      | none =>
        none
      | some p4_0 =>
        some (p4_0.items, true)))
theorem impl_StateAt_ok (fuel : Nat) (l : List Item) (h : List Change) (tick : Int) (r : ((List Item) × Bool)) (hH : impl_StateAt_p fuel l h tick = some r) : SpecR Tryz.prog 27 [.s (List.map encItem l), .s (List.map encChange h), tick] (.t [.w 3 (r.1.map encItemO), .v (.bool r.2)]) := by
 refine fn_ok T Tryz.func27 rfl (by decide) rfl ?_
 refine AW.seq (AW.region ?_)
 iterate 2 refine AO.pu T ?_
 refine AO.nil ?_
 iterate 2 refine AW.seq ?_
 obtain ⟨x1, hx2, hH⟩ := bindE hH
 obtain ⟨x3, hx4, hH⟩ := bindE hH
 refine AW.region ?_
 iterate 2 refine AO.pu T ?_
 refine AO.val rfl rfl (callV_ok rfl rfl rfl rfl (impl_isHistory_ok fuel _ _ _ (hx2)) rfl) ?_
 iterate 2 refine AO.pu T ?_
 refine AO.pureG T [] rfl trivial rfl rfl ?_
 refine AO.guard [15] rfl ⟨fun h => h, trivial⟩ (fun hg => callV_ok rfl rfl rfl rfl (impl_isTick_ok _ _ (optT hx4 hg)) rfl) rfl ?_
 refine AO.pureG T [16] rfl ⟨fun h => h, trivial⟩ rfl rfl ?_
 refine AO.val rfl rfl (pick_or rfl rfl rfl rfl) ?_
 refine AO.nil ?_
 refine AW.cond (b := ((!x1) || (!x3))) rfl (fun hc => ?_) (fun hc => ?_)
 replace hH := condT hc hH
 refine AW.seq (AW.region ?_)
 iterate 2 refine AO.pu T ?_
 refine AO.nil (AW.ret ?_)
 have hR := someE hH; subst hR
 exact retQ.i [] rfl (.t (expLG_cons (.c .nil) (expLG_cons (.c .v) (expLG_nil))))
 replace hH := condF hc hH
 refine AW.skip ?_
 refine AW.seq ?_
 obtain ⟨x5, hx6, hH⟩ := bindE hH
 rcases hq4_0 : x5.1 with _ | p4_0
 rw [hq4_0] at hH
 try dsimp only at hH
 refine AW.region ?_
 iterate 3 refine AO.pu T ?_
 refine AO.step rfl (call_ok rfl 1 rfl rfl rfl ((by have q := impl_stateOf_ok _ _ _ _ (hx6); rw [hq4_0] at q; exact q)) rfl rfl rfl) ?_
 iterate 5 refine AO.pu T ?_
 refine AO.nil (AW.seq ?_)
 cases hH
 rw [hq4_0] at hH
 try dsimp only at hH
 refine AW.region ?_
 iterate 3 refine AO.pu T ?_
 refine AO.step rfl (call_ok rfl 1 rfl rfl rfl ((by have q := impl_stateOf_ok _ _ _ _ (hx6); rw [hq4_0] at q; exact q)) rfl rfl rfl) ?_
 iterate 5 refine AO.pu T ?_
 refine AO.nil (AW.seq ?_)
 refine AW.region ?_
 iterate 6 refine AO.pu T ?_
 refine AO.nil ?_
 refine AW.le (Le.ct 0 0 (σ' := (⟨[(6, .R 2), (7, .v (.bool true))], [(2, .row 3 (List.map encItemO p4_0.items))], 30, []⟩ : St))) ?_
 refine AW.ret ?_
 have hR := someE hH; subst hR
 exact retQ.i [2] rfl (.t (expLG_cons (.c (.rowR rfl)) (expLG_cons (.c .v) (expLG_nil))))

def impl_FinalState_p (fuel : Nat) (l : List Item) (h : List Change) : Option ((List Item) × Bool) :=
  (impl_StateAt_p fuel l h 100000).bind fun x1 =>
  some (x1.1, x1.2)
theorem impl_FinalState_ok (fuel : Nat) (l : List Item) (h : List Change) (r : ((List Item) × Bool)) (hH : impl_FinalState_p fuel l h = some r) : SpecR Tryz.prog 7 [.s (List.map encItem l), .s (List.map encChange h)] (.t [.w 3 (r.1.map encItemO), .v (.bool r.2)]) := by
 refine fn_ok T Tryz.func7 rfl (by decide) rfl ?_
 refine AW.seq (AW.region ?_)
 iterate 2 refine AO.pu T ?_
 refine AO.nil (AW.seq ?_)
 obtain ⟨x1, hx2, hH⟩ := bindE hH
 refine AW.region ?_
 iterate 2 refine AO.pu T ?_
 refine AO.step rfl (call_ok rfl 1 rfl rfl rfl (impl_StateAt_ok fuel _ _ _ _ (hx2)) rfl rfl rfl) ?_
 iterate 4 refine AO.pu T ?_
 refine AO.nil (AW.ret ?_)
 have hR := someE hH; subst hR
 exact retQ.i [1] rfl (.t (expLG_cons (.c (.rowR rfl)) (expLG_cons (.c .v) (expLG_nil))))

def spec_StateAt_p (fuel : Nat) (l : List Item) (h : List Change) (tick : Int) : Option ((List Item) × Bool) :=
  (spec_hiAsked_p fuel l h).bind fun x1 =>
  (opt (!(!x1)) default (spec_l1In_p tick 0 100000)).bind fun x3 =>
  cond ((!x1) || (!x3))
    (some ([], false))
    ((spec_hiRun_p l h tick).bind fun x5 =>
    some (x5.1.items, true))
theorem spec_StateAt_ok (fuel : Nat) (l : List Item) (h : List Change) (tick : Int) (r : ((List Item) × Bool)) (hH : spec_StateAt_p fuel l h tick = some r) : SpecR Tryz.prog 28 [.s (List.map encItem l), .s (List.map encChange h), tick] (.t [.w 3 (r.1.map encItemO), .v (.bool r.2)]) := by
 refine fn_ok T Tryz.func28 rfl (by decide) rfl ?_
 refine AW.seq (AW.region ?_)
 iterate 2 refine AO.pu T ?_
 refine AO.nil ?_
 iterate 2 refine AW.seq ?_
 obtain ⟨x1, hx2, hH⟩ := bindE hH
 obtain ⟨x3, hx4, hH⟩ := bindE hH
 refine AW.region ?_
 iterate 2 refine AO.pu T ?_
 refine AO.val rfl rfl (callV_ok rfl rfl rfl rfl (spec_hiAsked_ok fuel _ _ _ (hx2)) rfl) ?_
 iterate 2 refine AO.pu T ?_
 refine AO.pureG T [] rfl trivial rfl rfl ?_
 refine AO.guard [15] rfl ⟨fun h => h, trivial⟩ (fun hg => callV_ok rfl rfl rfl rfl (spec_l1In_ok _ _ _ _ (optT hx4 hg)) rfl) rfl ?_
 refine AO.pureG T [16] rfl ⟨fun h => h, trivial⟩ rfl rfl ?_
 refine AO.val rfl rfl (pick_or rfl rfl rfl rfl) ?_
 refine AO.nil ?_
 refine AW.cond (b := ((!x1) || (!x3))) rfl (fun hc => ?_) (fun hc => ?_)
 replace hH := condT hc hH
 refine AW.seq (AW.region ?_)
 iterate 2 refine AO.pu T ?_
 refine AO.nil (AW.ret ?_)
 have hR := someE hH; subst hR
 exact retQ.i [] rfl (.t (expLG_cons (.c .nil) (expLG_cons (.c .v) (expLG_nil))))
 replace hH := condF hc hH
 refine AW.skip ?_
 refine AW.seq ?_
 obtain ⟨x5, hx6, hH⟩ := bindE hH
 refine AW.region ?_
 iterate 3 refine AO.pu T ?_
 refine AO.step rfl (call_ok rfl 1 rfl rfl rfl (spec_hiRun_ok _ _ _ _ (hx6)) rfl rfl rfl) ?_
 iterate 5 refine AO.pu T ?_
 refine AO.nil (AW.seq ?_)
 refine AW.region ?_
 iterate 6 refine AO.pu T ?_
 refine AO.nil ?_
 refine AW.le (Le.ct 0 0 (σ' := (⟨[(6, .R 2), (7, .v (.bool true))], [(2, .row 3 (List.map encItemO x5.1.items))], 30, []⟩ : St))) ?_
 refine AW.ret ?_
 have hR := someE hH; subst hR
 exact retQ.i [2] rfl (.t (expLG_cons (.c (.rowR rfl)) (expLG_cons (.c .v) (expLG_nil))))

def spec_FinalState_p (fuel : Nat) (l : List Item) (h : List Change) : Option ((List Item) × Bool) :=
  (spec_StateAt_p fuel l h 100000).bind fun x1 =>
  some (x1.1, x1.2)
theorem spec_FinalState_ok (fuel : Nat) (l : List Item) (h : List Change) (r : ((List Item) × Bool)) (hH : spec_FinalState_p fuel l h = some r) : SpecR Tryz.prog 8 [.s (List.map encItem l), .s (List.map encChange h)] (.t [.w 3 (r.1.map encItemO), .v (.bool r.2)]) := by
 refine fn_ok T Tryz.func8 rfl (by decide) rfl ?_
 refine AW.seq (AW.region ?_)
 iterate 2 refine AO.pu T ?_
 refine AO.nil (AW.seq ?_)
 obtain ⟨x1, hx2, hH⟩ := bindE hH
 refine AW.region ?_
 iterate 2 refine AO.pu T ?_
 refine AO.step rfl (call_ok rfl 1 rfl rfl rfl (spec_StateAt_ok fuel _ _ _ _ (hx2)) rfl rfl rfl) ?_
 iterate 4 refine AO.pu T ?_
 refine AO.nil (AW.ret ?_)
 have hR := someE hH; subst hR
 exact retQ.i [1] rfl (.t (expLG_cons (.c (.rowR rfl)) (expLG_cons (.c .v) (expLG_nil))))

def impl_IsHistory_p (fuel : Nat) (l : List Item) (h : List Change) : Option (Bool × Bool) :=
  (impl_AreItems_p fuel l).bind fun x1 =>
  cond (!x1)
    (some (false, false))
    ((impl_isHistory_p fuel l h).bind fun x3 =>
    some (x3, true))
theorem impl_IsHistory_ok (fuel : Nat) (l : List Item) (h : List Change) (r : (Bool × Bool)) (hH : impl_IsHistory_p fuel l h = some r) : SpecR Tryz.prog 9 [.s (List.map encItem l), .s (List.map encChange h)] (.t [.v (.bool r.1), .v (.bool r.2)]) := by
 refine fn_ok T Tryz.func9 rfl (by decide) rfl ?_
 refine AW.seq (AW.region ?_)
 iterate 2 refine AO.pu T ?_
 refine AO.nil ?_
 iterate 2 refine AW.seq ?_
 obtain ⟨x1, hx2, hH⟩ := bindE hH
 refine AW.region ?_
 refine AO.pu T ?_
 refine AO.val rfl rfl (callV_ok rfl rfl rfl rfl (impl_AreItems_ok fuel _ _ (hx2)) rfl) ?_
 refine AO.pu T ?_
 refine AO.nil ?_
 refine AW.cond (b := (!x1)) rfl (fun hc => ?_) (fun hc => ?_)
 replace hH := condT hc hH
 refine AW.seq (AW.region ?_)
 iterate 2 refine AO.pu T ?_
 refine AO.nil (AW.ret ?_)
 have hR := someE hH; subst hR
 exact retQ.i [] rfl (.t (expLG_cons (.c .v) (expLG_cons (.c .v) (expLG_nil))))
 replace hH := condF hc hH
 refine AW.skip ?_
 refine AW.seq ?_
 obtain ⟨x3, hx4, hH⟩ := bindE hH
 refine AW.region ?_
 iterate 2 refine AO.pu T ?_
 refine AO.val rfl rfl (callV_ok rfl rfl rfl rfl (impl_isHistory_ok fuel _ _ _ (hx4)) rfl) ?_
 iterate 2 refine AO.pu T ?_
 refine AO.nil (AW.ret ?_)
 have hR := someE hH; subst hR
 exact retQ.i [] rfl (.t (expLG_cons (.c .v) (expLG_cons (.c .v) (expLG_nil))))

def spec_IsHistory_p (fuel : Nat) (l : List Item) (h : List Change) : Option (Bool × Bool) :=
  (spec_itList_p fuel l).bind fun x1 =>
  cond (!x1)
    (some (false, false))
    ((spec_hiGood_p l h).bind fun x3 =>
    some (x3, true))
theorem spec_IsHistory_ok (fuel : Nat) (l : List Item) (h : List Change) (r : (Bool × Bool)) (hH : spec_IsHistory_p fuel l h = some r) : SpecR Tryz.prog 10 [.s (List.map encItem l), .s (List.map encChange h)] (.t [.v (.bool r.1), .v (.bool r.2)]) := by
 refine fn_ok T Tryz.func10 rfl (by decide) rfl ?_
 refine AW.seq (AW.region ?_)
 iterate 2 refine AO.pu T ?_
 refine AO.nil ?_
 iterate 2 refine AW.seq ?_
 obtain ⟨x1, hx2, hH⟩ := bindE hH
 refine AW.region ?_
 refine AO.pu T ?_
 refine AO.val rfl rfl (callV_ok rfl rfl rfl rfl (spec_itList_ok fuel _ _ (hx2)) rfl) ?_
 refine AO.pu T ?_
 refine AO.nil ?_
 refine AW.cond (b := (!x1)) rfl (fun hc => ?_) (fun hc => ?_)
 replace hH := condT hc hH
 refine AW.seq (AW.region ?_)
 iterate 2 refine AO.pu T ?_
 refine AO.nil (AW.ret ?_)
 have hR := someE hH; subst hR
 exact retQ.i [] rfl (.t (expLG_cons (.c .v) (expLG_cons (.c .v) (expLG_nil))))
 replace hH := condF hc hH
 refine AW.skip ?_
 refine AW.seq ?_
 obtain ⟨x3, hx4, hH⟩ := bindE hH
 refine AW.region ?_
 iterate 2 refine AO.pu T ?_
 refine AO.val rfl rfl (callV_ok rfl rfl rfl rfl (spec_hiGood_ok _ _ _ (hx4)) rfl) ?_
 iterate 2 refine AO.pu T ?_
 refine AO.nil (AW.ret ?_)
 have hR := someE hH; subst hR
 exact retQ.i [] rfl (.t (expLG_cons (.c .v) (expLG_cons (.c .v) (expLG_nil))))

def spec_DrawTakeBack_p (fuel : Nat) (code : List Int) : Option ((List Item) × (List Change) × Int × Int) :=
  (spec_l1Cur_changing_p fuel (L1Cur.mk code 0 0)).bind fun x1 =>
  (spec_l1Cur_among_p (L1Cur.mk x1.1.code x1.1.at' x1.1.seed) ([0, 100, 100000, 100001] : List Int)).bind fun x3 =>
  (spec_l1Cur_among_p (L1Cur.mk x3.1.code x3.1.at' x3.1.seed) ([1, 2, 9, 10, 0] : List Int)).bind fun x5 =>
  some (x1.2.1, x1.2.2, x3.2, x5.2)
theorem spec_DrawTakeBack_ok (fuel : Nat) (code : List Int) (r : ((List Item) × (List Change) × Int × Int)) (hH : spec_DrawTakeBack_p fuel code = some r) : SpecR Tryz.prog 11 [.s (List.map encInt_u8 code)] (.t [.w 3 (r.1.map encItem), .w 6 (r.2.1.map encChange), .v (.int .i64 r.2.2.1), .v (.int .i64 r.2.2.2)]) := by
 refine fn_ok T Tryz.func11 rfl (by decide) rfl ?_
 refine AW.seq (AW.region ?_)
 iterate 4 refine AO.pu T ?_
 refine AO.nil (AW.seq ?_)
 refine AW.region ?_
 refine AO.pu T ?_
 refine AO.pu T (d := .g [.s (List.map encInt_u8 code), (0 : Int), .v (.int .u64 0)]) ?_
 refine AO.step rfl (box_ok T rfl 1 rfl rfl rfl rfl) ?_
 refine AO.pu T ?_
 refine AO.nil (AW.seq ?_)
 obtain ⟨x1, hx2, hH⟩ := bindE hH
 refine AW.region ?_
 refine AO.pu T ?_
 refine AO.step rfl (callM_ok rfl 2 rfl rfl (es := [.pw (encL1Cur (L1Cur.mk code 0 0))]) (outs := [.pw (encL1Cur x1.1)]) (ids := [1]) (by exact expLG_cons (.c (.box rfl rfl)) (expLG_nil)) (by decide) (.inl (by rfl)) (by rfl) (spec_l1Cur_changing_ok fuel _ _ (hx2)) rfl (by rfl) rfl) ?_
 iterate 5 refine AO.pu T ?_
 refine AO.nil (AW.seq ?_)
 obtain ⟨x3, hx4, hH⟩ := bindE hH
 refine AW.region ?_
 refine AO.pu T ?_
 refine AO.step rfl (mk_map_ok T rfl 4 rfl rfl rfl rfl rfl (f := encInt) (l := ([0, 100, 100000, 100001] : List Int)) rfl rfl (fun _ => rfl) rfl rfl rfl rfl rfl) ?_
 refine AO.le (Le.freezeM 4 (g := encInt) rfl (fun y => .vs rfl)) ?_
 refine AO.step rfl (callM_ok rfl 5 rfl rfl (es := [.pw (encL1Cur (L1Cur.mk x1.1.code x1.1.at' x1.1.seed)), .s (([0, 100, 100000, 100001] : List Int).map encInt)]) (outs := [.pw (encL1Cur x3.1), .u]) (ids := [1]) (by exact expLG_cons (.c (.box rfl rfl)) (expLG_cons (.c .s) (expLG_nil))) (by decide) (.inl (by rfl)) (by rfl) (spec_l1Cur_among_ok _ _ _ (hx4)) rfl (by rfl) rfl) ?_
 refine AO.pu T ?_
 refine AO.nil (AW.seq ?_)
 obtain ⟨x5, hx6, hH⟩ := bindE hH
 refine AW.region ?_
 iterate 4 refine AO.pu T ?_
 refine AO.step rfl (mk_map_ok T rfl 5 rfl rfl rfl rfl rfl (f := encInt) (l := ([1, 2, 9, 10, 0] : List Int)) rfl rfl (fun _ => rfl) rfl rfl rfl rfl rfl) ?_
 refine AO.le (Le.freezeM 5 (g := encInt) rfl (fun y => .vs rfl)) ?_
 refine AO.step rfl (callM_ok rfl 6 rfl rfl (es := [.pw (encL1Cur (L1Cur.mk x3.1.code x3.1.at' x3.1.seed)), .s (([1, 2, 9, 10, 0] : List Int).map encInt)]) (outs := [.pw (encL1Cur x5.1), .u]) (ids := [1]) (by exact expLG_cons (.c (.box rfl rfl)) (expLG_cons (.c .s) (expLG_nil))) (by decide) (.inl (by rfl)) (by rfl) (spec_l1Cur_among_ok _ _ _ (hx6)) rfl (by rfl) rfl) ?_
 iterate 4 refine AO.pu T ?_
 refine AO.nil ?_
 refine AW.le (Le.ct 0 0 (σ' := (⟨[(2, .R 2), (3, .R 3), (4, x3.2), (5, x5.2)], [(2, .row 3 (List.map encItem x1.2.1)), (3, .row 6 (List.map encChange x1.2.2))], 27, []⟩ : St))) ?_
 refine AW.ret ?_
 have hR := someE hH; subst hR
 exact retQ.i [2, 3] rfl (.t (expLG_cons (.c (.rowR rfl)) (expLG_cons (.c (.rowR rfl)) (expLG_cons (.c .v) (expLG_cons (.c .v) (expLG_nil))))))

def impl_AddChange_p (fuel : Nat) (l : List Item) (h : List Change) (x : Change) : Option ((List Change) × Bool) :=
  (impl_isHistory_p fuel l h).bind fun x1 =>
  cond (!x1)
    (some ([], false))
    ((need (fitsB 48 h.length)).bind fun u3 =>
    (need (fitsB 48 (h.length + ([x]).length))).bind fun u5 =>
    (impl_isHistory_p fuel l (h ++ [x])).bind fun x7 =>
    cond (!x7)
      (some ([], false))
      (some ((h ++ [x]), true)))
theorem impl_AddChange_ok (fuel : Nat) (l : List Item) (h : List Change) (x : Change) (r : ((List Change) × Bool)) (hH : impl_AddChange_p fuel l h x = some r) : SpecR Tryz.prog 35 [.s (List.map encItem l), .s (List.map encChange h), .g (encChange x)] (.t [.w 6 (r.1.map encChange), .v (.bool r.2)]) := by
 refine fn_ok T Tryz.func35 rfl (by decide) rfl ?_
 refine AW.seq (AW.region ?_)
 refine AO.step rfl (box_ok T rfl 1 rfl rfl rfl rfl) ?_
 iterate 2 refine AO.pu T ?_
 refine AO.nil ?_
 iterate 2 refine AW.seq ?_
 obtain ⟨x1, hx2, hH⟩ := bindE hH
 refine AW.region ?_
 iterate 2 refine AO.pu T ?_
 refine AO.val rfl rfl (callV_ok rfl rfl rfl rfl (impl_isHistory_ok fuel _ _ _ (hx2)) rfl) ?_
 refine AO.pu T ?_
 refine AO.nil ?_
 refine AW.cond (b := (!x1)) rfl (fun hc => ?_) (fun hc => ?_)
 replace hH := condT hc hH
 refine AW.seq (AW.region ?_)
 iterate 2 refine AO.pu T ?_
 refine AO.nil (AW.ret ?_)
 have hR := someE hH; subst hR
 exact retQ.i [] rfl (.t (expLG_cons (.c .nil) (expLG_cons (.c .v) (expLG_nil))))
 replace hH := condF hc hH
 refine AW.skip ?_
 refine AW.seq ?_
 obtain ⟨u3, hx4, hH⟩ := bindE hH
 obtain ⟨u5, hx6, hH⟩ := bindE hH
 refine AW.drawn 5 2 [] mix (by kernel_rfl) rfl ?_
 refine AD.v (FStep.mk0 T rfl rfl rfl rfl rfl) ?_
 refine AD.pure T rfl rfl rfl ?_
 refine AD.q (FStep.app_ws T rfl rfl rfl rfl rfl rfl rfl (by decide) (by decide) rfl rfl (fun _ => rfl) (needT (hx4)) rfl) (by simp [namesIn]) (Nat.le_succ _) rfl ?_
 refine AD.pure T (d := .g [x.tick, x.caller, x.item, x.name, x.mark, .v (.bool x.review)]) rfl rfl rfl ?_
 refine AD.q (FStep.mk T (f := encChange) (l := [x]) rfl rfl rfl rfl rfl rfl rfl rfl rfl (fun _ => rfl) rfl rfl rfl rfl) (by simp [namesIn]) (Nat.le_succ _) rfl ?_
 refine AD.nil ?_
 refine AO.step rfl (app_rv_map T rfl 4 rfl rfl rfl rfl rfl (by decide) rfl rfl rfl rfl (fun _ => rfl) (needT (hx6)) rfl rfl) ?_
 refine AO.pu T ?_
 refine AO.nil ?_
 iterate 2 refine AW.seq ?_
 obtain ⟨x7, hx8, hH⟩ := bindE hH
 refine AW.region ?_
 iterate 2 refine AO.pu T ?_
 refine AO.val rfl rfl (callLV_ok rfl rfl rfl (es := [.s (List.map encItem l), .s (List.map encChange (h ++ [x]))]) ⟨.free rfl, (.rowR rfl (.map fun y => .vs rfl)), trivial⟩ (impl_isHistory_ok fuel _ _ _ (hx8)) (zfree_v _) rfl) ?_
 refine AO.pu T ?_
 refine AO.nil ?_
 refine AW.cond (b := (!x7)) rfl (fun hc => ?_) (fun hc => ?_)
 replace hH := condT hc hH
 refine AW.seq (AW.region ?_)
 iterate 2 refine AO.pu T ?_
 refine AO.nil (AW.ret ?_)
 have hR := someE hH; subst hR
 exact retQ.i [] rfl (.t (expLG_cons (.c .nil) (expLG_cons (.c .v) (expLG_nil))))
 replace hH := condF hc hH
 refine AW.skip ?_
 refine AW.seq (AW.region ?_)
 iterate 3 refine AO.pu T ?_
 refine AO.nil (AW.ret ?_)
 have hR := someE hH; subst hR
 exact retQ.i [4] rfl (.t (expLG_cons (.c (.rowR rfl)) (expLG_cons (.c .v) (expLG_nil))))

def impl_TakeBack_l1 (h : List Change) : Nat → Int → Option Int
  | 0, _ => none
  | k15 + 1, v21 =>
    (opt (decide (v21 ≥ 0)) default (getI h v21)).bind fun x23 =>
    cond (decide (v21 ≥ 0) && x23.review)
      (impl_TakeBack_l1 h k15 (w64 (v21 - 1)))
      (some v21)
def impl_TakeBack_p (fuel : Nat) (l : List Item) (h : List Change) (tick : Int) (caller : Int) : Option ((List Change) × Bool) :=
  (impl_isHistory_p fuel l h).bind fun x1 =>
  cond (!x1)
    (some ([], false))
    ((impl_TakeBack_l1 h fuel (w64 ((h.length : Int) - 1))).bind fun v12 =>
    cond (decide (v12 < 0))
      (some ([], false))
      ((sliceHi h v12).bind fun x25 =>
      (impl_stateOf_p l x25 100000).bind fun x27 =>
      (match x27.1 with
        | none =>
          (getI h v12).bind fun x29 =>
          none
        | some p24_0 =>
          (getI h v12).bind fun x29 =>
          (getI p24_0.items x29.item).bind fun x31 =>
          (getI x31.marks x29.name).bind fun x33 =>
          (impl_AddChange_p fuel l h (Change.mk tick caller x29.item x29.name x33 false)).bind fun x35 =>
          some (x35.1, x35.2))))
theorem impl_TakeBack_ok (fuel : Nat) (l : List Item) (h : List Change) (tick : Int) (caller : Int) (r : ((List Change) × Bool)) (hH : impl_TakeBack_p fuel l h tick caller = some r) : SpecR Tryz.prog 12 [.s (List.map encItem l), .s (List.map encChange h), tick, caller] (.t [.w 6 (r.1.map encChange), .v (.bool r.2)]) := by
 refine fn_ok T Tryz.func12 rfl (by decide) rfl ?_
 refine AW.seq (AW.region ?_)
 iterate 2 refine AO.pu T ?_
 refine AO.nil ?_
 iterate 2 refine AW.seq ?_
 obtain ⟨x1, hx2, hH⟩ := bindE hH
 refine AW.region ?_
 iterate 2 refine AO.pu T ?_
 refine AO.val rfl rfl (callV_ok rfl rfl rfl rfl (impl_isHistory_ok fuel _ _ _ (hx2)) rfl) ?_
 refine AO.pu T ?_
 refine AO.nil ?_
 refine AW.cond (b := (!x1)) rfl (fun hc => ?_) (fun hc => ?_)
 replace hH := condT hc hH
 refine AW.seq (AW.region ?_)
 iterate 2 refine AO.pu T ?_
 refine AO.nil (AW.ret ?_)
 have hR := someE hH; subst hR
 exact retQ.i [] rfl (.t (expLG_cons (.c .nil) (expLG_cons (.c .v) (expLG_nil))))
 replace hH := condF hc hH
 refine AW.skip ?_
 refine AW.seq (AW.region ?_)
 refine AO.pu T ?_
 refine AO.val rfl rfl (len_map_ok T rfl rfl rfl) ?_
 refine AO.val rfl rfl (arw_ok rfl rfl rfl rfl) ?_
 refine AO.pu T ?_
 refine AO.nil ?_
 obtain ⟨o13, hH, hK14⟩ := bindE hH
 refine AW.seqJ (fun s : Int => (⟨[(0, .s (List.map encItem l)), (1, .s (List.map encChange h)), (2, tick), (3, caller), (10, s)], [], 71, []⟩ : St)) (fun s => s = o13) ?_ ?_
 refine AW.block ?_
 refine AW.loopS (fun s : Nat × Int => (⟨[(0, .s (List.map encItem l)), (1, .s (List.map encChange h)), (2, tick), (3, caller), (10, s.2)], [], 71, []⟩ : St)) (fun s => impl_TakeBack_l1 h s.1 s.2 = some o13) (fun s => s.1) (fuel, w64 ((h.length : Int) - 1)) hH ?_ ?_
 exact Le.ct 0 0
 rintro ⟨k15, v21⟩ hH
 replace hH : impl_TakeBack_l1 h k15 v21 = some o13 := hH
 try dsimp only
 rcases k15 with _ | k15
 cases (show none = some _ from hH)
 rw [impl_TakeBack_l1] at hH
 iterate 2 refine AW.seq ?_
 obtain ⟨x23, hx24, hH⟩ := bindE hH
 refine AW.region ?_
 iterate 3 refine AO.pu T ?_
 iterate 2 refine AO.pureG T [] rfl trivial rfl rfl ?_
 refine AO.guard [24, 25] rfl ⟨fun h => h, fun h => h, trivial⟩ (fun hg => ix_map_ok T rfl rfl rfl rfl rfl (optT hx24 hg) rfl) rfl ?_
 refine AO.pureG T [26] rfl ⟨fun h => h, trivial⟩ rfl rfl ?_
 refine AO.pureG T [27] rfl ⟨fun h => h, trivial⟩ rfl rfl ?_
 refine AO.val rfl rfl (pick_and rfl rfl rfl rfl) ?_
 refine AO.nil ?_
 refine AW.cond (b := (decide (v21 ≥ 0) && x23.review)) rfl (fun hc => ?_) (fun hc => ?_)
 replace hH := condT hc hH
 refine AW.skip ?_
 refine AW.block ?_
 refine AW.region ?_
 refine AO.pu T ?_
 refine AO.val rfl rfl (arw_ok rfl rfl rfl rfl) ?_
 refine AO.pu T ?_
 refine AO.nil ?_
 refine ⟨(k15, w64 (v21 - 1)), hH, Nat.lt_succ_self _, ?_⟩
 exact Le.ct 0 0
 replace hH := condF hc hH
 refine AW.exit ?_
 refine ⟨_, someE hH, ?_⟩
 exact Le.ct 0 0
 rintro v12 hs
 subst hs
 replace hH := hK14
 try dsimp only [flow, flowE] at hH
 try dsimp only
 iterate 2 refine AW.seq ?_
 refine AW.region ?_
 iterate 2 refine AO.pu T ?_
 refine AO.nil ?_
 refine AW.cond (b := decide (v12 < 0)) rfl (fun hc => ?_) (fun hc => ?_)
 replace hH := condT hc hH
 refine AW.seq (AW.region ?_)
 iterate 2 refine AO.pu T ?_
 refine AO.nil (AW.ret ?_)
 have hR := someE hH; subst hR
 exact retQ.i [] rfl (.t (expLG_cons (.c .nil) (expLG_cons (.c .v) (expLG_nil))))
 replace hH := condF hc hH
 refine AW.skip ?_
 refine AW.seq ?_
 obtain ⟨x25, hx26, hH⟩ := bindE hH
 obtain ⟨x27, hx28, hH⟩ := bindE hH
 rcases hq24_0 : x27.1 with _ | p24_0
 rw [hq24_0] at hH
 try dsimp only at hH
 refine AW.region ?_
 iterate 3 refine AO.pu T ?_
 refine AO.val rfl rfl (slice_hi_map_ok T rfl rfl rfl rfl rfl (hx26) (fun _ => rfl)) ?_
 refine AO.step rfl (call_ok rfl 1 rfl rfl rfl ((by have q := impl_stateOf_ok _ _ _ _ (hx28); rw [hq24_0] at q; exact q)) rfl rfl rfl) ?_
 iterate 5 refine AO.pu T ?_
 refine AO.nil (AW.seq ?_)
 obtain ⟨x29, hx30, hH⟩ := bindE hH
 refine AW.region ?_
 iterate 2 refine AO.pu T ?_
 refine AO.val rfl rfl (ix_map_ok T rfl rfl rfl rfl rfl (hx30) rfl) ?_
 refine AO.pu T (d := .g [x29.tick, x29.caller, x29.item, x29.name, x29.mark, .v (.bool x29.review)]) ?_
 refine AO.step rfl (alloc_ok T rfl 1 rfl rfl rfl rfl rfl) ?_
 refine AO.se T [x29.tick, x29.caller, x29.item, x29.name, x29.mark, .v (.bool x29.review)] ?_
 refine AO.nil (AW.seq ?_)
 cases hH
 rw [hq24_0] at hH
 try dsimp only at hH
 refine AW.region ?_
 iterate 3 refine AO.pu T ?_
 refine AO.val rfl rfl (slice_hi_map_ok T rfl rfl rfl rfl rfl (hx26) (fun _ => rfl)) ?_
 refine AO.step rfl (call_ok rfl 1 rfl rfl rfl ((by have q := impl_stateOf_ok _ _ _ _ (hx28); rw [hq24_0] at q; exact q)) rfl rfl rfl) ?_
 iterate 5 refine AO.pu T ?_
 refine AO.nil (AW.seq ?_)
 obtain ⟨x29, hx30, hH⟩ := bindE hH
 refine AW.region ?_
 iterate 2 refine AO.pu T ?_
 refine AO.val rfl rfl (ix_map_ok T rfl rfl rfl rfl rfl (hx30) rfl) ?_
 refine AO.pu T (d := .g [x29.tick, x29.caller, x29.item, x29.name, x29.mark, .v (.bool x29.review)]) ?_
 refine AO.step rfl (alloc_ok T rfl 4 rfl rfl rfl rfl rfl) ?_
 refine AO.se T [x29.tick, x29.caller, x29.item, x29.name, x29.mark, .v (.bool x29.review)] ?_
 refine AO.nil (AW.seq ?_)
 obtain ⟨x31, hx32, hH⟩ := bindE hH
 obtain ⟨x33, hx34, hH⟩ := bindE hH
 obtain ⟨x35, hx36, hH⟩ := bindE hH
 refine AW.le (Le.openM 2 x29.item.toNat 1 5 rfl (getI_get (hx32)) rfl rfl) ?_
 refine AW.drawn 25 6 [] mix (by kernel_rfl) rfl ?_
 iterate 14 refine AD.pure T rfl rfl rfl ?_
 refine AD.val rfl rfl (ix_lent_ok T rfl rfl rfl rfl rfl rfl (hx32)) ?_
 refine AD.pure T rfl rfl rfl ?_
 refine AD.val rfl rfl (load_lent_ok T rfl rfl rfl rfl rfl) ?_
 iterate 2 refine AD.pure T rfl rfl rfl ?_
 refine AD.val rfl rfl (ix_row_ok T rfl rfl rfl rfl rfl rfl (hx34)) ?_
 refine AD.val rfl rfl (load_row_ok T rfl rfl rfl rfl (getI_get (hx34)) rfl rfl rfl) ?_
 refine AD.pure T (d := .g [tick, caller, x29.item, x29.name, x33, .v (.bool false)]) rfl rfl rfl ?_
 refine AD.q (FStep.call rfl rfl rfl rfl rfl (impl_AddChange_ok fuel _ _ _ _ (hx36)) rfl rfl) (impT_names _ _) (impT_le _ _) rfl ?_
 iterate 2 refine AD.pure T rfl rfl rfl ?_
 refine AD.nil ?_
 iterate 2 refine AO.pu T ?_
 refine AO.le (Le.closeM 2 x29.item.toNat 1 5 rfl rfl (getI_get (hx32)) rfl (u' := x31) rfl) ?_
 refine AO.nil ?_
 refine AW.le (Le.ct 0 0 (σ' := (⟨[(8, .R 6), (9, .v (.bool x35.2))], [(6, .row 6 (List.map encChange x35.1))], 71, []⟩ : St))) ?_
 refine AW.ret ?_
 have hR := someE hH; subst hR
 exact retQ.i [6] rfl (.t (expLG_cons (.c (.rowR rfl)) (expLG_cons (.c .v) (expLG_nil))))

def spec_hiAdd_p (l : List Item) (h : List Change) (x : Change) : Option ((List Change) × Bool) :=
  (need (fitsB 48 h.length)).bind fun u1 =>
  (need (fitsB 48 (h.length + ([x]).length))).bind fun u3 =>
  (spec_hiGood_p l (h ++ [x])).bind fun x5 =>
  cond (!x5)
    (some ([], false))
    (some ((h ++ [x]), true))
theorem spec_hiAdd_ok (l : List Item) (h : List Change) (x : Change) (r : ((List Change) × Bool)) (hH : spec_hiAdd_p l h x = some r) : SpecR Tryz.prog 37 [.s (List.map encItem l), .s (List.map encChange h), .g (encChange x)] (.t [.w 6 (r.1.map encChange), .v (.bool r.2)]) := by
 refine fn_ok T Tryz.func37 rfl (by decide) rfl ?_
 refine AW.seq (AW.region ?_)
 refine AO.step rfl (box_ok T rfl 1 rfl rfl rfl rfl) ?_
 iterate 2 refine AO.pu T ?_
 refine AO.nil (AW.seq ?_)
 obtain ⟨u1, hx2, hH⟩ := bindE hH
 obtain ⟨u3, hx4, hH⟩ := bindE hH
 refine AW.drawn 5 2 [] mix (by kernel_rfl) rfl ?_
 refine AD.v (FStep.mk0 T rfl rfl rfl rfl rfl) ?_
 refine AD.pure T rfl rfl rfl ?_
 refine AD.q (FStep.app_ws T rfl rfl rfl rfl rfl rfl rfl (by decide) (by decide) rfl rfl (fun _ => rfl) (needT (hx2)) rfl) (by simp [namesIn]) (Nat.le_succ _) rfl ?_
 refine AD.pure T (d := .g [x.tick, x.caller, x.item, x.name, x.mark, .v (.bool x.review)]) rfl rfl rfl ?_
 refine AD.q (FStep.mk T (f := encChange) (l := [x]) rfl rfl rfl rfl rfl rfl rfl rfl rfl (fun _ => rfl) rfl rfl rfl rfl) (by simp [namesIn]) (Nat.le_succ _) rfl ?_
 refine AD.nil ?_
 refine AO.step rfl (app_rv_map T rfl 4 rfl rfl rfl rfl rfl (by decide) rfl rfl rfl rfl (fun _ => rfl) (needT (hx4)) rfl rfl) ?_
 refine AO.pu T ?_
 refine AO.nil ?_
 iterate 2 refine AW.seq ?_
 obtain ⟨x5, hx6, hH⟩ := bindE hH
 refine AW.region ?_
 iterate 2 refine AO.pu T ?_
 refine AO.val rfl rfl (callLV_ok rfl rfl rfl (es := [.s (List.map encItem l), .s (List.map encChange (h ++ [x]))]) ⟨.free rfl, (.rowR rfl (.map fun y => .vs rfl)), trivial⟩ (spec_hiGood_ok _ _ _ (hx6)) (zfree_v _) rfl) ?_
 refine AO.pu T ?_
 refine AO.nil ?_
 refine AW.cond (b := (!x5)) rfl (fun hc => ?_) (fun hc => ?_)
 replace hH := condT hc hH
 refine AW.seq (AW.region ?_)
 iterate 2 refine AO.pu T ?_
 refine AO.nil (AW.ret ?_)
 have hR := someE hH; subst hR
 exact retQ.i [] rfl (.t (expLG_cons (.c .nil) (expLG_cons (.c .v) (expLG_nil))))
 replace hH := condF hc hH
 refine AW.skip ?_
 refine AW.seq (AW.region ?_)
 iterate 3 refine AO.pu T ?_
 refine AO.nil (AW.ret ?_)
 have hR := someE hH; subst hR
 exact retQ.i [4] rfl (.t (expLG_cons (.c (.rowR rfl)) (expLG_cons (.c .v) (expLG_nil))))

def spec_TakeBack_l1 (l : List Item) (h : List Change) (tick : Int) (caller : Int) : Nat → Int → Option (((List Change) × Bool))
  | 0, _ => none
  | k3 + 1, v29 =>
    cond (decide (v29 ≥ 0))
      ((getI h v29).bind fun x31 =>
      cond x31.review
        (spec_TakeBack_l1 l h tick caller k3 (w64 (v29 - 1)))
        ((sliceHi h v29).bind fun x33 =>
        (spec_hiRun_p l x33 100000).bind fun x35 =>
        (getI x35.1.items x31.item).bind fun x37 =>
        (getI x37.marks x31.name).bind fun x39 =>
        (spec_hiAdd_p l h (Change.mk tick caller x31.item x31.name x39 false)).bind fun x41 =>
        some (x41.1, x41.2)))
      (some ([], false))
def spec_TakeBack_p (fuel : Nat) (l : List Item) (h : List Change) (tick : Int) (caller : Int) : Option ((List Change) × Bool) :=
  (spec_hiAsked_p fuel l h).bind fun x1 =>
  cond (!x1)
    (some ([], false))
    (spec_TakeBack_l1 l h tick caller fuel (w64 ((h.length : Int) - 1)))
theorem spec_TakeBack_ok (fuel : Nat) (l : List Item) (h : List Change) (tick : Int) (caller : Int) (r : ((List Change) × Bool)) (hH : spec_TakeBack_p fuel l h tick caller = some r) : SpecR Tryz.prog 13 [.s (List.map encItem l), .s (List.map encChange h), tick, caller] (.t [.w 6 (r.1.map encChange), .v (.bool r.2)]) := by
 refine fn_ok T Tryz.func13 rfl (by decide) rfl ?_
 refine AW.seq (AW.region ?_)
 iterate 2 refine AO.pu T ?_
 refine AO.nil ?_
 iterate 2 refine AW.seq ?_
 obtain ⟨x1, hx2, hH⟩ := bindE hH
 refine AW.region ?_
 iterate 2 refine AO.pu T ?_
 refine AO.val rfl rfl (callV_ok rfl rfl rfl rfl (spec_hiAsked_ok fuel _ _ _ (hx2)) rfl) ?_
 refine AO.pu T ?_
 refine AO.nil ?_
 refine AW.cond (b := (!x1)) rfl (fun hc => ?_) (fun hc => ?_)
 replace hH := condT hc hH
 refine AW.seq (AW.region ?_)
 iterate 2 refine AO.pu T ?_
 refine AO.nil (AW.ret ?_)
 have hR := someE hH; subst hR
 exact retQ.i [] rfl (.t (expLG_cons (.c .nil) (expLG_cons (.c .v) (expLG_nil))))
 replace hH := condF hc hH
 refine AW.skip ?_
 iterate 2 refine AW.seq ?_
 refine AW.region ?_
 refine AO.pu T ?_
 refine AO.val rfl rfl (len_map_ok T rfl rfl rfl) ?_
 refine AO.val rfl rfl (arw_ok rfl rfl rfl rfl) ?_
 refine AO.pu T ?_
 refine AO.nil ?_
 refine AW.block ?_
 refine AW.loopS (fun s : Nat × Int => (⟨[(0, .s (List.map encItem l)), (1, .s (List.map encChange h)), (2, tick), (3, caller), (10, s.2)], [], 76, []⟩ : St)) (fun s => spec_TakeBack_l1 l h tick caller s.1 s.2 = some r) (fun s => s.1) (fuel, w64 ((h.length : Int) - 1)) hH ?_ ?_
 exact Le.ct 0 0
 rintro ⟨k3, v29⟩ hH
 replace hH : spec_TakeBack_l1 l h tick caller k3 v29 = some r := hH
 try dsimp only
 rcases k3 with _ | k3
 cases (show none = some _ from hH)
 rw [spec_TakeBack_l1] at hH
 iterate 2 refine AW.seq ?_
 refine AW.region ?_
 iterate 2 refine AO.pu T ?_
 refine AO.nil ?_
 refine AW.cond (b := decide (v29 ≥ 0)) rfl (fun hc => ?_) (fun hc => ?_)
 replace hH := condT hc hH
 refine AW.skip ?_
 refine AW.seq ?_
 refine AW.block ?_
 iterate 2 refine AW.seq ?_
 obtain ⟨x31, hx32, hH⟩ := bindE hH
 refine AW.region ?_
 iterate 2 refine AO.pu T ?_
 refine AO.val rfl rfl (ix_map_ok T rfl rfl rfl rfl rfl (hx32) rfl) ?_
 iterate 2 refine AO.pu T ?_
 refine AO.nil ?_
 refine AW.cond (b := x31.review) rfl (fun hc => ?_) (fun hc => ?_)
 replace hH := condT hc hH
 refine AW.exit ?_
 refine AW.region ?_
 refine AO.pu T ?_
 refine AO.val rfl rfl (arw_ok rfl rfl rfl rfl) ?_
 refine AO.pu T ?_
 refine AO.nil ?_
 refine ⟨(k3, w64 (v29 - 1)), hH, Nat.lt_succ_self _, ?_⟩
 exact Le.ct 0 0
 replace hH := condF hc hH
 refine AW.skip ?_
 refine AW.seq ?_
 obtain ⟨x33, hx34, hH⟩ := bindE hH
 obtain ⟨x35, hx36, hH⟩ := bindE hH
 refine AW.region ?_
 iterate 3 refine AO.pu T ?_
 refine AO.val rfl rfl (slice_hi_map_ok T rfl rfl rfl rfl rfl (hx34) (fun _ => rfl)) ?_
 refine AO.step rfl (call_ok rfl 11 rfl rfl rfl (spec_hiRun_ok _ _ _ _ (hx36)) rfl rfl rfl) ?_
 iterate 5 refine AO.pu T ?_
 refine AO.nil (AW.seq ?_)
 obtain ⟨x37, hx38, hH⟩ := bindE hH
 obtain ⟨x39, hx40, hH⟩ := bindE hH
 refine AW.le (Le.openM 12 x31.item.toNat 1 14 rfl (getI_get (hx38)) rfl rfl) ?_
 refine AW.drawn 17 15 [] mix (by kernel_rfl) rfl ?_
 iterate 6 refine AD.pure T rfl rfl rfl ?_
 refine AD.val rfl rfl (ix_map_ok T rfl rfl rfl rfl rfl (hx32) rfl) ?_
 iterate 2 refine AD.pure T rfl rfl rfl ?_
 refine AD.val rfl rfl (ix_lent_ok T rfl rfl rfl rfl rfl rfl (hx38)) ?_
 refine AD.pure T rfl rfl rfl ?_
 refine AD.val rfl rfl (load_lent_ok T rfl rfl rfl rfl rfl) ?_
 iterate 2 refine AD.pure T rfl rfl rfl ?_
 refine AD.val rfl rfl (ix_map_ok T rfl rfl rfl rfl rfl (hx32) rfl) ?_
 iterate 2 refine AD.pure T rfl rfl rfl ?_
 refine AD.nil ?_
 refine AO.val rfl rfl (ix_row_ok T rfl rfl rfl rfl rfl rfl (hx40)) ?_
 refine AO.val rfl rfl (load_row_ok T rfl rfl rfl rfl (getI_get (hx40)) rfl rfl rfl) ?_
 refine AO.pu T ?_
 refine AO.le (Le.closeM 12 x31.item.toNat 1 14 rfl rfl (getI_get (hx38)) rfl (u' := x37) rfl) ?_
 refine AO.nil ?_
 refine AW.le (Le.ct 0 0 (σ' := (⟨[(0, .s (List.map encItem l)), (1, .s (List.map encChange h)), (2, tick), (3, caller), (10, v29), (13, x39)], [], 76, []⟩ : St))) ?_
 refine AW.seq ?_
 obtain ⟨x41, hx42, hH⟩ := bindE hH
 refine AW.drawn 19 15 [] mix (by kernel_rfl) rfl ?_
 iterate 6 refine AD.pure T rfl rfl rfl ?_
 refine AD.val rfl rfl (ix_map_ok T rfl rfl rfl rfl rfl (hx32) rfl) ?_
 iterate 4 refine AD.pure T rfl rfl rfl ?_
 refine AD.val rfl rfl (ix_map_ok T rfl rfl rfl rfl rfl (hx32) rfl) ?_
 iterate 3 refine AD.pure T rfl rfl rfl ?_
 refine AD.pure T (d := .g [tick, caller, x31.item, x31.name, x39, .v (.bool false)]) rfl rfl rfl ?_
 refine AD.q (FStep.call rfl rfl rfl rfl rfl (spec_hiAdd_ok _ _ _ _ (hx42)) rfl rfl) (impT_names _ _) (impT_le _ _) rfl ?_
 iterate 2 refine AD.pure T rfl rfl rfl ?_
 refine AD.nil ?_
 iterate 2 refine AO.pu T ?_
 refine AO.nil (AW.ret ?_)
 have hR := someE hH; subst hR
 exact retQ.i [15] rfl (.t (expLG_cons (.c (.rowR rfl)) (expLG_cons (.c .v) (expLG_nil))))
 replace hH := condF hc hH
 refine AW.exit ?_
 refine AW.seq (AW.region ?_)
 iterate 2 refine AO.pu T ?_
 refine AO.nil (AW.ret ?_)
 have hR := someE hH; subst hR
 exact retQ.i [] rfl (.t (expLG_cons (.c .nil) (expLG_cons (.c .v) (expLG_nil))))

def spec_l1Cur_spoilt_l1 (withA : ByteArray) : Nat → List Int → Int → Int → ByteArray → Int → Option ((L1Cur × ByteArray))
  | 0, _, _, _, _, _ => none
  | k3 + 1, v69, v70, v71, v72, v73 =>
    cond (decide (v73 > 0) && decide ((v72.size : Int) > 0))
      ((spec_l1Cur_pick_p (L1Cur.mk v69 v70 v71) (v72.size : Int)).bind fun x75 =>
      (spec_l1Cur_pick_p (L1Cur.mk x75.1.code x75.1.at' x75.1.seed) (withA.size : Int)).bind fun x77 =>
      (strI withA x77.2).bind fun b79 =>
      (spec_l1Cur_pick_p (L1Cur.mk x77.1.code x77.1.at' x77.1.seed) 3).bind fun x81 =>
      cond (x81.2 == 0)
        ((need (inB 0 x75.2 v72.size)).bind fun u83 =>
        (need (Nat.ble ((ByteArray.extract v72 0 x75.2.toNat).size + (strOfNums [(b79.toNat : Int)]).size) maxN)).bind fun u85 =>
        (need (inB x75.2 v72.size v72.size)).bind fun u87 =>
        (need (Nat.ble (((ByteArray.extract v72 0 x75.2.toNat) ++ (strOfNums [(b79.toNat : Int)])).size + (ByteArray.extract v72 x75.2.toNat v72.size).size) maxN)).bind fun u89 =>
        spec_l1Cur_spoilt_l1 withA k3 x81.1.code x81.1.at' x81.1.seed (((ByteArray.extract v72 0 x75.2.toNat) ++ (strOfNums [(b79.toNat : Int)])) ++ (ByteArray.extract v72 x75.2.toNat v72.size)) (w64 (v73 - 1)))
        (cond (x81.2 == 1)
          ((need (inB 0 x75.2 v72.size)).bind fun u91 =>
          (need (Nat.ble ((ByteArray.extract v72 0 x75.2.toNat).size + (strOfNums [(b79.toNat : Int)]).size) maxN)).bind fun u93 =>
          (need (inB (w64 (x75.2 + 1)) v72.size v72.size)).bind fun u95 =>
          (need (Nat.ble (((ByteArray.extract v72 0 x75.2.toNat) ++ (strOfNums [(b79.toNat : Int)])).size + (ByteArray.extract v72 (w64 (x75.2 + 1)).toNat v72.size).size) maxN)).bind fun u97 =>
          spec_l1Cur_spoilt_l1 withA k3 x81.1.code x81.1.at' x81.1.seed (((ByteArray.extract v72 0 x75.2.toNat) ++ (strOfNums [(b79.toNat : Int)])) ++ (ByteArray.extract v72 (w64 (x75.2 + 1)).toNat v72.size)) (w64 (v73 - 1)))
          ((need (inB 0 x75.2 v72.size)).bind fun u99 =>
          (need (inB (w64 (x75.2 + 1)) v72.size v72.size)).bind fun u101 =>
          (need (Nat.ble ((ByteArray.extract v72 0 x75.2.toNat).size + (ByteArray.extract v72 (w64 (x75.2 + 1)).toNat v72.size).size) maxN)).bind fun u103 =>
          spec_l1Cur_spoilt_l1 withA k3 x81.1.code x81.1.at' x81.1.seed ((ByteArray.extract v72 0 x75.2.toNat) ++ (ByteArray.extract v72 (w64 (x75.2 + 1)).toNat v72.size)) (w64 (v73 - 1)))))
      (some ((L1Cur.mk v69 v70 v71), v72))
def spec_l1Cur_spoilt_p (fuel : Nat) (c : L1Cur) (t : ByteArray) (withA : ByteArray) : Option (L1Cur × ByteArray) :=
  (spec_l1Cur_pick_p c 2).bind fun x1 =>
  spec_l1Cur_spoilt_l1 withA fuel x1.1.code x1.1.at' x1.1.seed t (w64 (1 + x1.2))
theorem spec_l1Cur_spoilt_ok (fuel : Nat) (c : L1Cur) (t : ByteArray) (withA : ByteArray) (r : (L1Cur × ByteArray)) (hH : spec_l1Cur_spoilt_p fuel c t withA = some r) : SpecM Tryz.prog 39 [.pw (encL1Cur c), .v (.string t), .v (.string withA)] [.pw (encL1Cur r.1), .u, .u] (.v (.string r.2)) := by
 refine fn_okM T Tryz.func39 rfl (by decide) rfl rfl ?_
 intro L
 show AW _ _ _ (⟨[(0, .p 1 0), (1, .v (.string t)), (2, .v (.string withA))], [(1, .box [.s (List.map encInt_u8 c.code), c.at', .v (.int .u64 c.seed)])], 68, [(1, L 1)]⟩ : St)
 refine AW.seq (AW.region ?_)
 refine AO.pu T ?_
 refine AO.nil ?_
 iterate 2 refine AW.seq ?_
 obtain ⟨x1, hx2, hH⟩ := bindE hH
 refine AW.region ?_
 refine AO.pu T ?_
 refine AO.step rfl (callM_ok rfl 2 rfl rfl (es := [.pw (encL1Cur c), .v (.int .i64 2)]) (outs := [.pw (encL1Cur x1.1), .u]) (ids := [1]) (by exact expLG_cons (.c (.box rfl rfl)) (expLG_cons (.c .v) (expLG_nil))) (by decide) (.inl (by rfl)) (by rfl) (spec_l1Cur_pick_ok _ _ _ (hx2)) rfl (by rfl) rfl) ?_
 refine AO.val rfl rfl (arw_ok rfl rfl rfl rfl) ?_
 refine AO.pu T ?_
 refine AO.nil ?_
 refine AW.block ?_
 refine AW.loopS (fun s : Nat × (List Int) × Int × Int × ByteArray × Int => (⟨[(0, .p 1 0), (1, .v (.string s.2.2.2.2.1)), (2, .v (.string withA)), (7, s.2.2.2.2.2)], [(1, .box [.s (List.map encInt_u8 s.2.1), s.2.2.1, .v (.int .u64 s.2.2.2.1)])], 68, [(1, L 1)]⟩ : St)) (fun s => spec_l1Cur_spoilt_l1 withA s.1 s.2.1 s.2.2.1 s.2.2.2.1 s.2.2.2.2.1 s.2.2.2.2.2 = some r) (fun s => s.1) (fuel, x1.1.code, x1.1.at', x1.1.seed, t, w64 (1 + x1.2)) hH ?_ ?_
 exact Le.ct 0 0 (hpin := ⟨⟨rfl, rfl⟩, trivial⟩)
 rintro ⟨k3, v69, v70, v71, v72, v73⟩ hH
 replace hH : spec_l1Cur_spoilt_l1 withA k3 v69 v70 v71 v72 v73 = some r := hH
 try dsimp only
 rcases k3 with _ | k3
 cases (show none = some _ from hH)
 rw [spec_l1Cur_spoilt_l1] at hH
 iterate 2 refine AW.seq ?_
 refine AW.region ?_
 iterate 3 refine AO.pu T ?_
 refine AO.pureG T [] rfl trivial rfl rfl ?_
 refine AO.pureG T [16] rfl ⟨fun h => h, trivial⟩ rfl rfl ?_
 refine AO.pureG T [17] rfl ⟨fun h => h, trivial⟩ rfl rfl ?_
 refine AO.val rfl rfl (pick_and rfl rfl rfl rfl) ?_
 refine AO.nil ?_
 refine AW.cond (b := (decide (v73 > 0) && decide ((v72.size : Int) > 0))) rfl (fun hc => ?_) (fun hc => ?_)
 replace hH := condT hc hH
 refine AW.skip ?_
 refine AW.seq ?_
 refine AW.block ?_
 refine AW.seq ?_
 obtain ⟨x75, hx76, hH⟩ := bindE hH
 refine AW.region ?_
 iterate 3 refine AO.pu T ?_
 refine AO.step rfl (callM_ok rfl 4 rfl rfl (es := [.pw (encL1Cur (L1Cur.mk v69 v70 v71)), .v (.int .i64 (v72.size : Int))]) (outs := [.pw (encL1Cur x75.1), .u]) (ids := [1]) (by exact expLG_cons (.c (.box rfl rfl)) (expLG_cons (.c .v) (expLG_nil))) (by decide) (.inl (by rfl)) (by rfl) (spec_l1Cur_pick_ok _ _ _ (hx76)) rfl (by rfl) rfl) ?_
 refine AO.pu T ?_
 refine AO.nil (AW.seq ?_)
 obtain ⟨x77, hx78, hH⟩ := bindE hH
 obtain ⟨b79, hx80, hH⟩ := bindE hH
 refine AW.region ?_
 iterate 4 refine AO.pu T ?_
 refine AO.step rfl (callM_ok rfl 4 rfl rfl (es := [.pw (encL1Cur (L1Cur.mk x75.1.code x75.1.at' x75.1.seed)), .v (.int .i64 (withA.size : Int))]) (outs := [.pw (encL1Cur x77.1), .u]) (ids := [1]) (by exact expLG_cons (.c (.box rfl rfl)) (expLG_cons (.c .v) (expLG_nil))) (by decide) (.inl (by rfl)) (by rfl) (spec_l1Cur_pick_ok _ _ _ (hx78)) rfl (by rfl) rfl) ?_
 refine AO.val rfl rfl (ix_strI_ok T rfl rfl rfl rfl (hx80)) ?_
 refine AO.step rfl (mk_map_ok T rfl 4 rfl rfl rfl rfl rfl (f := encInt_u8) (l := [(b79.toNat : Int)]) rfl rfl (fun _ => rfl) rfl rfl rfl rfl rfl) ?_
 refine AO.val rfl rfl (conv_bytes_ok T rfl rfl rfl rfl rfl rfl (fun _ => rfl) rfl) ?_
 refine AO.pu T ?_
 refine AO.nil (AW.seq ?_)
 obtain ⟨x81, hx82, hH⟩ := bindE hH
 refine AW.region ?_
 refine AO.pu T ?_
 refine AO.step rfl (callM_ok rfl 5 rfl rfl (es := [.pw (encL1Cur (L1Cur.mk x77.1.code x77.1.at' x77.1.seed)), .v (.int .i64 3)]) (outs := [.pw (encL1Cur x81.1), .u]) (ids := [1]) (by exact expLG_cons (.c (.box rfl rfl)) (expLG_cons (.c .v) (expLG_nil))) (by decide) (.inl (by rfl)) (by rfl) (spec_l1Cur_pick_ok _ _ _ (hx82)) rfl (by rfl) rfl) ?_
 refine AO.nil ?_
 refine AW.block ?_
 refine AW.seq (AW.region ?_)
 iterate 2 refine AO.pu T ?_
 refine AO.nil ?_
 refine AW.le (Le.ct 0 0 (σ' := (⟨[(0, .p 1 0), (1, .v (.string v72)), (2, .v (.string withA)), (7, v73), (8, x75.2), (9, .v (.string (strOfNums [(b79.toNat : Int)]))), (35, x81.2), (44, .v (.bool (x81.2 == 0)))], [(1, .box [.s (List.map encInt_u8 x81.1.code), x81.1.at', .v (.int .u64 x81.1.seed)])], 68, [(1, L 1)]⟩ : St)) (hpin := ⟨⟨rfl, rfl⟩, trivial⟩)) ?_
 refine AW.cond (b := (x81.2 == 0)) rfl (fun hc => ?_) (fun hc => ?_)
 replace hH := condT hc hH
 obtain ⟨u83, hx84, hH⟩ := bindE hH
 obtain ⟨u85, hx86, hH⟩ := bindE hH
 obtain ⟨u87, hx88, hH⟩ := bindE hH
 obtain ⟨u89, hx90, hH⟩ := bindE hH
 refine AW.drawn 8 5 [] mix (by kernel_rfl) rfl ?_
 iterate 2 refine AD.pure T rfl rfl rfl ?_
 refine AD.val rfl rfl (slice_str_hi T rfl rfl rfl rfl (needT (hx84))) ?_
 refine AD.pure T rfl rfl rfl ?_
 refine AD.val rfl rfl (concat_ok rfl rfl rfl (Nat.le_of_ble_eq_true (needT (hx86)))) ?_
 iterate 2 refine AD.pure T rfl rfl rfl ?_
 refine AD.val rfl rfl (slice_str_lo T rfl rfl rfl rfl (needT (hx88))) ?_
 refine AD.nil ?_
 refine AO.val rfl rfl (concat_ok rfl rfl rfl (Nat.le_of_ble_eq_true (needT (hx90)))) ?_
 refine AO.pu T ?_
 refine AO.nil ?_
 refine AW.region ?_
 refine AO.pu T ?_
 refine AO.val rfl rfl (arw_ok rfl rfl rfl rfl) ?_
 refine AO.pu T ?_
 refine AO.nil ?_
 refine ⟨(k3, x81.1.code, x81.1.at', x81.1.seed, (((ByteArray.extract v72 0 x75.2.toNat) ++ (strOfNums [(b79.toNat : Int)])) ++ (ByteArray.extract v72 x75.2.toNat v72.size)), w64 (v73 - 1)), hH, Nat.lt_succ_self _, ?_⟩
 exact Le.ct 0 0 (hpin := ⟨⟨rfl, rfl⟩, trivial⟩)
 replace hH := condF hc hH
 refine AW.seq (AW.region ?_)
 iterate 2 refine AO.pu T ?_
 refine AO.nil ?_
 refine AW.cond (b := (x81.2 == 1)) rfl (fun hc => ?_) (fun hc => ?_)
 replace hH := condT hc hH
 obtain ⟨u91, hx92, hH⟩ := bindE hH
 obtain ⟨u93, hx94, hH⟩ := bindE hH
 obtain ⟨u95, hx96, hH⟩ := bindE hH
 obtain ⟨u97, hx98, hH⟩ := bindE hH
 refine AW.drawn 9 5 [] mix (by kernel_rfl) rfl ?_
 iterate 2 refine AD.pure T rfl rfl rfl ?_
 refine AD.val rfl rfl (slice_str_hi T rfl rfl rfl rfl (needT (hx92))) ?_
 refine AD.pure T rfl rfl rfl ?_
 refine AD.val rfl rfl (concat_ok rfl rfl rfl (Nat.le_of_ble_eq_true (needT (hx94)))) ?_
 iterate 2 refine AD.pure T rfl rfl rfl ?_
 refine AD.val rfl rfl (arw_ok rfl rfl rfl rfl) ?_
 refine AD.val rfl rfl (slice_str_lo T rfl rfl rfl rfl (needT (hx96))) ?_
 refine AD.nil ?_
 refine AO.val rfl rfl (concat_ok rfl rfl rfl (Nat.le_of_ble_eq_true (needT (hx98)))) ?_
 refine AO.pu T ?_
 refine AO.nil ?_
 refine AW.region ?_
 refine AO.pu T ?_
 refine AO.val rfl rfl (arw_ok rfl rfl rfl rfl) ?_
 refine AO.pu T ?_
 refine AO.nil ?_
 refine ⟨(k3, x81.1.code, x81.1.at', x81.1.seed, (((ByteArray.extract v72 0 x75.2.toNat) ++ (strOfNums [(b79.toNat : Int)])) ++ (ByteArray.extract v72 (w64 (x75.2 + 1)).toNat v72.size)), w64 (v73 - 1)), hH, Nat.lt_succ_self _, ?_⟩
 exact Le.ct 0 0 (hpin := ⟨⟨rfl, rfl⟩, trivial⟩)
 replace hH := condF hc hH
 obtain ⟨u99, hx100, hH⟩ := bindE hH
 obtain ⟨u101, hx102, hH⟩ := bindE hH
 obtain ⟨u103, hx104, hH⟩ := bindE hH
 refine AW.drawn 7 5 [] mix (by kernel_rfl) rfl ?_
 iterate 2 refine AD.pure T rfl rfl rfl ?_
 refine AD.val rfl rfl (slice_str_hi T rfl rfl rfl rfl (needT (hx100))) ?_
 iterate 2 refine AD.pure T rfl rfl rfl ?_
 refine AD.val rfl rfl (arw_ok rfl rfl rfl rfl) ?_
 refine AD.val rfl rfl (slice_str_lo T rfl rfl rfl rfl (needT (hx102))) ?_
 refine AD.nil ?_
 refine AO.val rfl rfl (concat_ok rfl rfl rfl (Nat.le_of_ble_eq_true (needT (hx104)))) ?_
 refine AO.pu T ?_
 refine AO.nil ?_
 refine AW.region ?_
 refine AO.pu T ?_
 refine AO.val rfl rfl (arw_ok rfl rfl rfl rfl) ?_
 refine AO.pu T ?_
 refine AO.nil ?_
 refine ⟨(k3, x81.1.code, x81.1.at', x81.1.seed, ((ByteArray.extract v72 0 x75.2.toNat) ++ (ByteArray.extract v72 (w64 (x75.2 + 1)).toNat v72.size)), w64 (v73 - 1)), hH, Nat.lt_succ_self _, ?_⟩
 exact Le.ct 0 0 (hpin := ⟨⟨rfl, rfl⟩, trivial⟩)
 replace hH := condF hc hH
 refine AW.exit ?_
 refine AW.seq (AW.region ?_)
 iterate 2 refine AO.pu T ?_
 refine AO.nil (AW.ret ?_)
 have hR := someE hH; subst hR
 exact ⟨trivial, rfl, _, [], [1], rfl, expLG_cons (.c (.box rfl rfl)) (expLG_cons (.c .u) (expLG_cons (.c .u) (expLG_nil))), .c (.c .v), by decide⟩

def spec_DrawParseHistory_p (fuel : Nat) (code : List Int) : Option ((List Item) × ByteArray) :=
  (spec_l1Cur_changing_p fuel (L1Cur.mk code 0 0)).bind fun x1 =>
  (spec_hiAsked_p fuel x1.2.1 x1.2.2).bind fun x3 =>
  cond (!x3)
    (some (x1.2.1, (⟨#[49, 32, 49, 32, 48, 32, 48, 32, 100, 111, 119, 110, 10]⟩ : ByteArray)))
    ((spec_hiText_p fuel x1.2.2).bind fun x5 =>
    (spec_l1Cur_one_p (L1Cur.mk x1.1.code x1.1.at' x1.1.seed) 3).bind fun x7 =>
    cond x7.2
      ((spec_l1Cur_spoilt_p fuel (L1Cur.mk x7.1.code x7.1.at' x7.1.seed) x5 (⟨#[48, 49, 32, 110, 114, 10]⟩ : ByteArray)).bind fun x9 =>
      some (x1.2.1, x9.2))
      (some (x1.2.1, x5)))
theorem spec_DrawParseHistory_ok (fuel : Nat) (code : List Int) (r : ((List Item) × ByteArray)) (hH : spec_DrawParseHistory_p fuel code = some r) : SpecR Tryz.prog 14 [.s (List.map encInt_u8 code)] (.t [.w 3 (r.1.map encItem), .v (.string r.2)]) := by
 refine fn_ok T Tryz.func14 rfl (by decide) rfl ?_
 refine AW.seq (AW.region ?_)
 iterate 2 refine AO.pu T ?_
 refine AO.nil (AW.seq ?_)
 refine AW.region ?_
 refine AO.pu T ?_
 refine AO.pu T (d := .g [.s (List.map encInt_u8 code), (0 : Int), .v (.int .u64 0)]) ?_
 refine AO.step rfl (box_ok T rfl 1 rfl rfl rfl rfl) ?_
 refine AO.pu T ?_
 refine AO.nil (AW.seq ?_)
 obtain ⟨x1, hx2, hH⟩ := bindE hH
 refine AW.region ?_
 refine AO.pu T ?_
 refine AO.step rfl (callM_ok rfl 2 rfl rfl (es := [.pw (encL1Cur (L1Cur.mk code 0 0))]) (outs := [.pw (encL1Cur x1.1)]) (ids := [1]) (by exact expLG_cons (.c (.box rfl rfl)) (expLG_nil)) (by decide) (.inl (by rfl)) (by rfl) (spec_l1Cur_changing_ok fuel _ _ (hx2)) rfl (by rfl) rfl) ?_
 iterate 5 refine AO.pu T ?_
 refine AO.nil ?_
 iterate 2 refine AW.seq ?_
 obtain ⟨x3, hx4, hH⟩ := bindE hH
 refine AW.region ?_
 iterate 2 refine AO.pu T ?_
 refine AO.val rfl rfl (callLV_ok rfl rfl rfl (es := [.s (List.map encItem x1.2.1), .s (List.map encChange x1.2.2)]) ⟨(.rowR rfl (.map fun y => .vs rfl)), (.rowR rfl (.map fun y => .vs rfl)), trivial⟩ (spec_hiAsked_ok fuel _ _ _ (hx4)) (zfree_v _) rfl) ?_
 refine AO.pu T ?_
 refine AO.nil ?_
 refine AW.cond (b := (!x3)) rfl (fun hc => ?_) (fun hc => ?_)
 replace hH := condT hc hH
 refine AW.seq (AW.region ?_)
 iterate 3 refine AO.pu T ?_
 refine AO.nil (AW.ret ?_)
 have hR := someE hH; subst hR
 exact retQ.i [2] rfl (.t (expLG_cons (.c (.rowR rfl)) (expLG_cons (.c .v) (expLG_nil))))
 replace hH := condF hc hH
 refine AW.skip ?_
 refine AW.seq ?_
 obtain ⟨x5, hx6, hH⟩ := bindE hH
 refine AW.region ?_
 refine AO.pu T ?_
 refine AO.val rfl rfl (callLV_ok rfl rfl rfl (es := [.s (List.map encChange x1.2.2)]) ⟨(.rowR rfl (.map fun y => .vs rfl)), trivial⟩ (spec_hiText_ok fuel _ _ (hx6)) (zfree_v _) rfl) ?_
 refine AO.pu T ?_
 refine AO.nil ?_
 iterate 2 refine AW.seq ?_
 obtain ⟨x7, hx8, hH⟩ := bindE hH
 refine AW.region ?_
 refine AO.pu T ?_
 refine AO.step rfl (callM_ok rfl 4 rfl rfl (es := [.pw (encL1Cur (L1Cur.mk x1.1.code x1.1.at' x1.1.seed)), .v (.int .i64 3)]) (outs := [.pw (encL1Cur x7.1), .u]) (ids := [1]) (by exact expLG_cons (.c (.box rfl rfl)) (expLG_cons (.c .v) (expLG_nil))) (by decide) (.inl (by rfl)) (by rfl) (spec_l1Cur_one_ok _ _ _ (hx8)) rfl (by rfl) rfl) ?_
 refine AO.nil ?_
 refine AW.cond (b := x7.2) rfl (fun hc => ?_) (fun hc => ?_)
 replace hH := condT hc hH
 refine AW.seq ?_
 obtain ⟨x9, hx10, hH⟩ := bindE hH
 refine AW.region ?_
 iterate 3 refine AO.pu T ?_
 refine AO.step rfl (callM_ok rfl 4 rfl rfl (es := [.pw (encL1Cur (L1Cur.mk x7.1.code x7.1.at' x7.1.seed)), .v (.string x5), .v (.string (⟨#[48, 49, 32, 110, 114, 10]⟩ : ByteArray))]) (outs := [.pw (encL1Cur x9.1), .u, .u]) (ids := [1]) (by exact expLG_cons (.c (.box rfl rfl)) (expLG_cons (.c .v) (expLG_cons (.c .v) (expLG_nil)))) (by decide) (.inl (by rfl)) (by rfl) (spec_l1Cur_spoilt_ok fuel _ _ _ _ (hx10)) rfl (by rfl) rfl) ?_
 iterate 2 refine AO.pu T ?_
 refine AO.nil ?_
 refine AW.le (Le.ct 0 0 (σ' := (⟨[(2, .R 2), (3, .v (.string x9.2))], [(2, .row 3 (List.map encItem x1.2.1))], 31, []⟩ : St))) ?_
 refine AW.ret ?_
 have hR := someE hH; subst hR
 exact retQ.i [2] rfl (.t (expLG_cons (.c (.rowR rfl)) (expLG_cons (.c .v) (expLG_nil))))
 replace hH := condF hc hH
 refine AW.skip ?_
 refine AW.seq (AW.region ?_)
 iterate 4 refine AO.pu T ?_
 refine AO.nil ?_
 refine AW.le (Le.ct 0 0 (σ' := (⟨[(2, .R 2), (3, .v (.string x5))], [(2, .row 3 (List.map encItem x1.2.1))], 31, []⟩ : St))) ?_
 refine AW.ret ?_
 have hR := someE hH; subst hR
 exact retQ.i [2] rfl (.t (expLG_cons (.c (.rowR rfl)) (expLG_cons (.c .v) (expLG_nil))))

def strings_Split_p (s : ByteArray) (sep : ByteArray) : Option (List ByteArray) := (need (Nat.blt s.size 4294967281 && Nat.blt 0 sep.size)).bind fun _ => some (splitS s sep)
theorem strings_Split_ok (s : ByteArray) (sep : ByteArray) (r : List ByteArray) (hH : strings_Split_p s sep = some r) : SpecR Tryz.prog 42 [.v (.string s), .v (.string sep)] (.w 1 (r.map encStr)) := by
  obtain ⟨u, hu, hr⟩ := bindE hH
  cases someE hr
  exact spec_split ⟨_, Tryz.func42, rfl, by decide⟩ (fun s sep w hG h1 h2 => let ⟨m, hm⟩ := globMax hG; Tryz.strings_Split s sep m w h1 hm h2) (fun _ => rfl) s sep (needT hu)

def impl_linesOf_p (sA : ByteArray) : Option ((List ByteArray) × Bool) :=
  cond (decide (sA = (⟨#[]⟩ : ByteArray)))
    (some ([], true))
    ((strI sA (w64 ((sA.size : Int) - 1))).bind fun b1 =>
    cond ((b1.toNat : Int) != 10)
      (some ([], false))
      ((need (inB 0 (w64 ((sA.size : Int) - 1)) sA.size)).bind fun u3 =>
      (strings_Split_p (ByteArray.extract sA 0 (w64 ((sA.size : Int) - 1)).toNat) (⟨#[10]⟩ : ByteArray)).bind fun x5 =>
      some (x5, true)))
theorem impl_linesOf_ok (sA : ByteArray) (r : ((List ByteArray) × Bool)) (hH : impl_linesOf_p sA = some r) : SpecR Tryz.prog 40 [.v (.string sA)] (.t [.w 1 (r.1.map encStr), .v (.bool r.2)]) := by
 refine fn_ok T Tryz.func40 rfl (by decide) rfl ?_
 refine AW.seq (AW.region ?_)
 iterate 2 refine AO.pu T ?_
 refine AO.nil ?_
 iterate 2 refine AW.seq ?_
 refine AW.region ?_
 iterate 2 refine AO.pu T ?_
 refine AO.nil ?_
 refine AW.cond (b := decide (sA = (⟨#[]⟩ : ByteArray))) rfl (fun hc => ?_) (fun hc => ?_)
 replace hH := condT hc hH
 refine AW.seq (AW.region ?_)
 refine AO.step rfl (mk0_ok T rfl rfl rfl rfl) ?_
 iterate 2 refine AO.pu T ?_
 refine AO.nil (AW.ret ?_)
 have hR := someE hH; subst hR
 exact retQ.i [] rfl (.t (expLG_cons (.c .nil) (expLG_cons (.c .v) (expLG_nil))))
 replace hH := condF hc hH
 refine AW.skip ?_
 iterate 2 refine AW.seq ?_
 obtain ⟨b1, hx2, hH⟩ := bindE hH
 refine AW.region ?_
 iterate 3 refine AO.pu T ?_
 refine AO.val rfl rfl (arw_ok rfl rfl rfl rfl) ?_
 refine AO.val rfl rfl (ix_strI_ok T rfl rfl rfl rfl (hx2)) ?_
 refine AO.pu T ?_
 refine AO.nil ?_
 refine AW.cond (b := ((b1.toNat : Int) != 10)) rfl (fun hc => ?_) (fun hc => ?_)
 replace hH := condT hc hH
 refine AW.seq (AW.region ?_)
 iterate 2 refine AO.pu T ?_
 refine AO.nil (AW.ret ?_)
 have hR := someE hH; subst hR
 exact retQ.i [] rfl (.t (expLG_cons (.c .nil) (expLG_cons (.c .v) (expLG_nil))))
 replace hH := condF hc hH
 refine AW.skip ?_
 refine AW.seq ?_
 obtain ⟨u3, hx4, hH⟩ := bindE hH
 obtain ⟨x5, hx6, hH⟩ := bindE hH
 refine AW.region ?_
 iterate 3 refine AO.pu T ?_
 refine AO.val rfl rfl (arw_ok rfl rfl rfl rfl) ?_
 refine AO.val rfl rfl (slice_str_hi T rfl rfl rfl rfl (needT (hx4))) ?_
 refine AO.step rfl (call_ok rfl 1 rfl rfl rfl (strings_Split_ok _ _ _ (hx6)) rfl rfl rfl) ?_
 iterate 2 refine AO.pu T ?_
 refine AO.nil (AW.ret ?_)
 have hR := someE hH; subst hR
 exact retQ.i [1] rfl (.t (expLG_cons (.c (.rowR rfl)) (expLG_cons (.c .v) (expLG_nil))))

def stringslite_HasSuffix_p (sA : ByteArray) (suffix : ByteArray) : Option Bool :=
  (opt (decide ((sA.size : Int) ≥ (suffix.size : Int))) default (need (inB (w64 ((sA.size : Int) - (suffix.size : Int))) sA.size sA.size))).bind fun u1 =>
  some (decide ((sA.size : Int) ≥ (suffix.size : Int)) && decide ((ByteArray.extract sA (w64 ((sA.size : Int) - (suffix.size : Int))).toNat sA.size) = suffix))
theorem stringslite_HasSuffix_ok (sA : ByteArray) (suffix : ByteArray) (r : Bool) (hH : stringslite_HasSuffix_p sA suffix = some r) : SpecR Tryz.prog 84 [.v (.string sA), .v (.string suffix)] (.v (.bool r)) := by
 refine fn_ok T Tryz.func84 rfl (by decide) rfl ?_
 refine AW.seq (AW.region ?_)
 refine AO.pu T ?_
 refine AO.nil (AW.seq ?_)
 obtain ⟨u1, hx2, hH⟩ := bindE hH
 refine AW.region ?_
 iterate 6 refine AO.pu T ?_
 iterate 2 refine AO.pureG T [] rfl trivial rfl rfl ?_
 refine AO.pureG T [12] rfl ⟨fun h => h, trivial⟩ rfl rfl ?_
 refine AO.pureG T [] rfl trivial rfl rfl ?_
 refine AO.pureG T [14] rfl ⟨fun h => h, trivial⟩ rfl rfl ?_
 refine AO.guard [13, 15] rfl ⟨fun h => h, fun h => h, trivial⟩ (fun hg => arw_ok rfl rfl rfl rfl) rfl ?_
 refine AO.guard [11, 16] rfl ⟨fun h => h, fun h => h, trivial⟩ (fun hg => slice_str_lo T rfl rfl rfl rfl (needT (optT hx2 hg))) rfl ?_
 refine AO.pureG T [] rfl trivial rfl rfl ?_
 refine AO.pureG T [17, 18] rfl ⟨fun h => h, fun h => h, trivial⟩ rfl rfl ?_
 refine AO.val rfl rfl (pick_and rfl rfl rfl rfl) ?_
 refine AO.pu T ?_
 refine AO.nil (AW.ret ?_)
 have hR := someE hH; subst hR
 exact retQ.i [] rfl (.c (.c .v))

def stringslite_CutSuffix_p (sA : ByteArray) (suffix : ByteArray) : Option (ByteArray × Bool) :=
  (stringslite_HasSuffix_p sA suffix).bind fun x1 =>
  cond (!x1)
    (some (sA, false))
    ((need (inB 0 (w64 ((sA.size : Int) - (suffix.size : Int))) sA.size)).bind fun u3 =>
    some ((ByteArray.extract sA 0 (w64 ((sA.size : Int) - (suffix.size : Int))).toNat), true))
theorem stringslite_CutSuffix_ok (sA : ByteArray) (suffix : ByteArray) (r : (ByteArray × Bool)) (hH : stringslite_CutSuffix_p sA suffix = some r) : SpecR Tryz.prog 65 [.v (.string sA), .v (.string suffix)] (.t [.v (.string r.1), .v (.bool r.2)]) := by
 refine fn_ok T Tryz.func65 rfl (by decide) rfl ?_
 refine AW.seq (AW.region ?_)
 iterate 2 refine AO.pu T ?_
 refine AO.nil ?_
 iterate 2 refine AW.seq ?_
 obtain ⟨x1, hx2, hH⟩ := bindE hH
 refine AW.region ?_
 iterate 2 refine AO.pu T ?_
 refine AO.val rfl rfl (callV_ok rfl rfl rfl rfl (stringslite_HasSuffix_ok _ _ _ (hx2)) rfl) ?_
 refine AO.pu T ?_
 refine AO.nil ?_
 refine AW.cond (b := (!x1)) rfl (fun hc => ?_) (fun hc => ?_)
 replace hH := condT hc hH
 refine AW.seq (AW.region ?_)
 iterate 3 refine AO.pu T ?_
 refine AO.nil (AW.ret ?_)
 have hR := someE hH; subst hR
 exact retQ.i [] rfl (.t (expLG_cons (.c .v) (expLG_cons (.c .v) (expLG_nil))))
 replace hH := condF hc hH
 refine AW.skip ?_
 refine AW.seq ?_
 obtain ⟨u3, hx4, hH⟩ := bindE hH
 refine AW.region ?_
 iterate 5 refine AO.pu T ?_
 refine AO.val rfl rfl (arw_ok rfl rfl rfl rfl) ?_
 refine AO.val rfl rfl (slice_str_hi T rfl rfl rfl rfl (needT (hx4))) ?_
 iterate 2 refine AO.pu T ?_
 refine AO.nil (AW.ret ?_)
 have hR := someE hH; subst hR
 exact retQ.i [] rfl (.t (expLG_cons (.c .v) (expLG_cons (.c .v) (expLG_nil))))

def strings_CutSuffix_p (sA : ByteArray) (suffix : ByteArray) : Option (ByteArray × Bool) :=
  (stringslite_CutSuffix_p sA suffix).bind fun x1 =>
  some (x1.1, x1.2)
theorem strings_CutSuffix_ok (sA : ByteArray) (suffix : ByteArray) (r : (ByteArray × Bool)) (hH : strings_CutSuffix_p sA suffix = some r) : SpecR Tryz.prog 41 [.v (.string sA), .v (.string suffix)] (.t [.v (.string r.1), .v (.bool r.2)]) := by
 refine fn_ok T Tryz.func41 rfl (by decide) rfl ?_
 refine AW.seq (AW.region ?_)
 iterate 2 refine AO.pu T ?_
 refine AO.nil (AW.seq ?_)
 obtain ⟨x1, hx2, hH⟩ := bindE hH
 refine AW.region ?_
 iterate 2 refine AO.pu T ?_
 refine AO.val rfl rfl (callV_ok rfl rfl rfl rfl (stringslite_CutSuffix_ok _ _ _ (hx2)) rfl) ?_
 iterate 4 refine AO.pu T ?_
 refine AO.nil (AW.ret ?_)
 have hR := someE hH; subst hR
 exact retQ.i [] rfl (.t (expLG_cons (.c .v) (expLG_cons (.c .v) (expLG_nil))))

def stringslite_HasPrefix_p (sA : ByteArray) (prefixA : ByteArray) : Option Bool :=
  (opt (decide ((sA.size : Int) ≥ (prefixA.size : Int))) default (need (inB 0 (prefixA.size : Int) sA.size))).bind fun u1 =>
  some (decide ((sA.size : Int) ≥ (prefixA.size : Int)) && decide ((ByteArray.extract sA 0 (prefixA.size : Int).toNat) = prefixA))
theorem stringslite_HasPrefix_ok (sA : ByteArray) (prefixA : ByteArray) (r : Bool) (hH : stringslite_HasPrefix_p sA prefixA = some r) : SpecR Tryz.prog 114 [.v (.string sA), .v (.string prefixA)] (.v (.bool r)) := by
 refine fn_ok T Tryz.func114 rfl (by decide) rfl ?_
 refine AW.seq (AW.region ?_)
 refine AO.pu T ?_
 refine AO.nil (AW.seq ?_)
 obtain ⟨u1, hx2, hH⟩ := bindE hH
 refine AW.region ?_
 iterate 6 refine AO.pu T ?_
 iterate 2 refine AO.pureG T [] rfl trivial rfl rfl ?_
 refine AO.pureG T [12] rfl ⟨fun h => h, trivial⟩ rfl rfl ?_
 refine AO.guard [11, 13] rfl ⟨fun h => h, fun h => h, trivial⟩ (fun hg => slice_str_hi T rfl rfl rfl rfl (needT (optT hx2 hg))) rfl ?_
 refine AO.pureG T [] rfl trivial rfl rfl ?_
 refine AO.pureG T [14, 15] rfl ⟨fun h => h, fun h => h, trivial⟩ rfl rfl ?_
 refine AO.val rfl rfl (pick_and rfl rfl rfl rfl) ?_
 refine AO.pu T ?_
 refine AO.nil (AW.ret ?_)
 have hR := someE hH; subst hR
 exact retQ.i [] rfl (.c (.c .v))

def stringslite_CutPrefix_p (sA : ByteArray) (prefixA : ByteArray) : Option (ByteArray × Bool) :=
  (stringslite_HasPrefix_p sA prefixA).bind fun x1 =>
  cond (!x1)
    (some (sA, false))
    ((need (inB (prefixA.size : Int) sA.size sA.size)).bind fun u3 =>
    some ((ByteArray.extract sA (prefixA.size : Int).toNat sA.size), true))
theorem stringslite_CutPrefix_ok (sA : ByteArray) (prefixA : ByteArray) (r : (ByteArray × Bool)) (hH : stringslite_CutPrefix_p sA prefixA = some r) : SpecR Tryz.prog 103 [.v (.string sA), .v (.string prefixA)] (.t [.v (.string r.1), .v (.bool r.2)]) := by
 refine fn_ok T Tryz.func103 rfl (by decide) rfl ?_
 refine AW.seq (AW.region ?_)
 iterate 2 refine AO.pu T ?_
 refine AO.nil ?_
 iterate 2 refine AW.seq ?_
 obtain ⟨x1, hx2, hH⟩ := bindE hH
 refine AW.region ?_
 iterate 2 refine AO.pu T ?_
 refine AO.val rfl rfl (callV_ok rfl rfl rfl rfl (stringslite_HasPrefix_ok _ _ _ (hx2)) rfl) ?_
 refine AO.pu T ?_
 refine AO.nil ?_
 refine AW.cond (b := (!x1)) rfl (fun hc => ?_) (fun hc => ?_)
 replace hH := condT hc hH
 refine AW.seq (AW.region ?_)
 iterate 3 refine AO.pu T ?_
 refine AO.nil (AW.ret ?_)
 have hR := someE hH; subst hR
 exact retQ.i [] rfl (.t (expLG_cons (.c .v) (expLG_cons (.c .v) (expLG_nil))))
 replace hH := condF hc hH
 refine AW.skip ?_
 refine AW.seq ?_
 obtain ⟨u3, hx4, hH⟩ := bindE hH
 refine AW.region ?_
 iterate 3 refine AO.pu T ?_
 refine AO.val rfl rfl (slice_str_lo T rfl rfl rfl rfl (needT (hx4))) ?_
 iterate 2 refine AO.pu T ?_
 refine AO.nil (AW.ret ?_)
 have hR := someE hH; subst hR
 exact retQ.i [] rfl (.t (expLG_cons (.c .v) (expLG_cons (.c .v) (expLG_nil))))

def strings_CutPrefix_p (sA : ByteArray) (prefixA : ByteArray) : Option (ByteArray × Bool) :=
  (stringslite_CutPrefix_p sA prefixA).bind fun x1 =>
  some (x1.1, x1.2)
theorem strings_CutPrefix_ok (sA : ByteArray) (prefixA : ByteArray) (r : (ByteArray × Bool)) (hH : strings_CutPrefix_p sA prefixA = some r) : SpecR Tryz.prog 88 [.v (.string sA), .v (.string prefixA)] (.t [.v (.string r.1), .v (.bool r.2)]) := by
 refine fn_ok T Tryz.func88 rfl (by decide) rfl ?_
 refine AW.seq (AW.region ?_)
 iterate 2 refine AO.pu T ?_
 refine AO.nil (AW.seq ?_)
 obtain ⟨x1, hx2, hH⟩ := bindE hH
 refine AW.region ?_
 iterate 2 refine AO.pu T ?_
 refine AO.val rfl rfl (callV_ok rfl rfl rfl rfl (stringslite_CutPrefix_ok _ _ _ (hx2)) rfl) ?_
 iterate 4 refine AO.pu T ?_
 refine AO.nil (AW.ret ?_)
 have hR := someE hH; subst hR
 exact retQ.i [] rfl (.t (expLG_cons (.c .v) (expLG_cons (.c .v) (expLG_nil))))

def impl_natural_l1 (sA : ByteArray) : Nat → Int → Int → Option ((Int × Bool))
  | 0, _, _ => none
  | k3 + 1, v10, v11 =>
    cond (decide (v11 < (sA.size : Int)))
      ((strI sA v11).bind fun b13 =>
      cond (decide ((b13.toNat : Int) < 48) || decide ((b13.toNat : Int) > 57))
        (some (0, false))
        (impl_natural_l1 sA k3 (w64 ((w64 (10 * v10)) + (IntKind.wrap .i64 (IntKind.wrap .u8 ((b13.toNat : Int) - 48))))) (w64 (v11 + 1))))
      (some (v10, true))
def impl_natural_p (fuel : Nat) (sA : ByteArray) : Option (Int × Bool) :=
  (opt ((!(decide (sA = (⟨#[]⟩ : ByteArray)) || decide ((sA.size : Int) > 12))) && decide ((sA.size : Int) > 1)) default (strI sA 0)).bind fun b1 =>
  cond ((decide (sA = (⟨#[]⟩ : ByteArray)) || decide ((sA.size : Int) > 12)) || (decide ((sA.size : Int) > 1) && ((b1.toNat : Int) == 48)))
    (some (0, false))
    (impl_natural_l1 sA fuel 0 0)
theorem impl_natural_ok (fuel : Nat) (sA : ByteArray) (r : (Int × Bool)) (hH : impl_natural_p fuel sA = some r) : SpecR Tryz.prog 89 [.v (.string sA)] (.t [.v (.int .i64 r.1), .v (.bool r.2)]) := by
 refine fn_ok T Tryz.func89 rfl (by decide) rfl ?_
 refine AW.seq (AW.region ?_)
 iterate 2 refine AO.pu T ?_
 refine AO.nil ?_
 iterate 2 refine AW.seq ?_
 obtain ⟨b1, hx2, hH⟩ := bindE hH
 refine AW.region ?_
 iterate 3 refine AO.pu T ?_
 refine AO.pureG T [] rfl trivial rfl rfl ?_
 refine AO.pureG T [9] rfl ⟨fun h => h, trivial⟩ rfl rfl ?_
 refine AO.pureG T [10] rfl ⟨fun h => h, trivial⟩ rfl rfl ?_
 refine AO.val rfl rfl (pick_or rfl rfl rfl rfl) ?_
 refine AO.pu T ?_
 refine AO.pureG T [] rfl trivial rfl rfl ?_
 refine AO.pureG T [14] rfl ⟨fun h => h, trivial⟩ rfl rfl ?_
 refine AO.pureG T [15] rfl ⟨fun h => h, trivial⟩ rfl rfl ?_
 refine AO.pureG T [16] rfl ⟨fun h => h, trivial⟩ rfl rfl ?_
 refine AO.pureG T [] rfl trivial rfl rfl ?_
 refine AO.guard [18] rfl ⟨fun h => h, trivial⟩ (fun hg => ix_strI_ok T rfl rfl rfl rfl (optT hx2 hg)) rfl ?_
 refine AO.pureG T [19] rfl ⟨fun h => h, trivial⟩ rfl rfl ?_
 refine AO.guard [17] rfl ⟨fun h => h, trivial⟩ (fun hg => pick_and rfl rfl rfl (by rw [hg]; exact Bool.true_and _)) rfl ?_
 refine AO.val rfl rfl (pick_or rfl rfl rfl rfl) ?_
 refine AO.nil ?_
 refine AW.cond (b := ((decide (sA = (⟨#[]⟩ : ByteArray)) || decide ((sA.size : Int) > 12)) || (decide ((sA.size : Int) > 1) && ((b1.toNat : Int) == 48)))) rfl (fun hc => ?_) (fun hc => ?_)
 replace hH := condT hc hH
 refine AW.seq (AW.region ?_)
 iterate 2 refine AO.pu T ?_
 refine AO.nil (AW.ret ?_)
 have hR := someE hH; subst hR
 exact retQ.i [] rfl (.t (expLG_cons (.c .v) (expLG_cons (.c .v) (expLG_nil))))
 replace hH := condF hc hH
 refine AW.skip ?_
 refine AW.seq (AW.region ?_)
 refine AO.pu T ?_
 refine AO.nil ?_
 iterate 2 refine AW.seq ?_
 refine AW.region ?_
 refine AO.pu T ?_
 refine AO.nil ?_
 refine AW.block ?_
 refine AW.loopS (fun s : Nat × Int × Int => (⟨[(0, .v (.string sA)), (4, s.2.1), (5, s.2.2)], [], 48, []⟩ : St)) (fun s => impl_natural_l1 sA s.1 s.2.1 s.2.2 = some r) (fun s => s.1) (fuel, 0, 0) hH ?_ ?_
 exact Le.ct 0 0
 rintro ⟨k3, v10, v11⟩ hH
 replace hH : impl_natural_l1 sA k3 v10 v11 = some r := hH
 try dsimp only
 rcases k3 with _ | k3
 cases (show none = some _ from hH)
 rw [impl_natural_l1] at hH
 iterate 2 refine AW.seq ?_
 refine AW.region ?_
 iterate 4 refine AO.pu T ?_
 refine AO.nil ?_
 refine AW.cond (b := decide (v11 < (sA.size : Int))) rfl (fun hc => ?_) (fun hc => ?_)
 replace hH := condT hc hH
 refine AW.skip ?_
 refine AW.seq ?_
 refine AW.block ?_
 iterate 2 refine AW.seq ?_
 obtain ⟨b13, hx14, hH⟩ := bindE hH
 refine AW.region ?_
 iterate 2 refine AO.pu T ?_
 refine AO.val rfl rfl (ix_strI_ok T rfl rfl rfl rfl (hx14)) ?_
 iterate 2 refine AO.pu T ?_
 iterate 2 refine AO.pureG T [] rfl trivial rfl rfl ?_
 refine AO.guard [34, 35] rfl ⟨fun h => h, fun h => h, trivial⟩ (fun hg => ix_strI_ok T rfl rfl rfl rfl (hx14)) rfl ?_
 refine AO.pureG T [36] rfl ⟨fun h => h, trivial⟩ rfl rfl ?_
 refine AO.val rfl rfl (pick_or rfl rfl rfl rfl) ?_
 refine AO.nil ?_
 refine AW.cond (b := (decide ((b13.toNat : Int) < 48) || decide ((b13.toNat : Int) > 57))) rfl (fun hc => ?_) (fun hc => ?_)
 replace hH := condT hc hH
 refine AW.seq (AW.region ?_)
 iterate 2 refine AO.pu T ?_
 refine AO.nil (AW.ret ?_)
 have hR := someE hH; subst hR
 exact retQ.i [] rfl (.t (expLG_cons (.c .v) (expLG_cons (.c .v) (expLG_nil))))
 replace hH := condF hc hH
 refine AW.skip ?_
 refine AW.region ?_
 refine AO.pu T ?_
 refine AO.val rfl rfl (arw_ok rfl rfl rfl rfl) ?_
 iterate 2 refine AO.pu T ?_
 refine AO.val rfl rfl (ix_strI_ok T rfl rfl rfl rfl (hx14)) ?_
 refine AO.val rfl rfl (arw_ok rfl rfl rfl rfl) ?_
 refine AO.val rfl rfl (convw_ok T rfl rfl rfl rfl) ?_
 refine AO.val rfl rfl (arw_ok rfl rfl rfl rfl) ?_
 refine AO.pu T ?_
 refine AO.nil ?_
 refine AW.region ?_
 refine AO.pu T ?_
 refine AO.val rfl rfl (arw_ok rfl rfl rfl rfl) ?_
 refine AO.pu T ?_
 refine AO.nil ?_
 refine ⟨(k3, w64 ((w64 (10 * v10)) + (IntKind.wrap .i64 (IntKind.wrap .u8 ((b13.toNat : Int) - 48)))), w64 (v11 + 1)), hH, Nat.lt_succ_self _, ?_⟩
 exact Le.ct 0 0
 replace hH := condF hc hH
 refine AW.exit ?_
 refine AW.seq (AW.region ?_)
 iterate 3 refine AO.pu T ?_
 refine AO.nil (AW.ret ?_)
 have hR := someE hH; subst hR
 exact retQ.i [] rfl (.t (expLG_cons (.c .v) (expLG_cons (.c .v) (expLG_nil))))

def impl_integer_p (fuel : Nat) (sA : ByteArray) : Option (Int × Bool) :=
  (strings_CutPrefix_p sA (⟨#[45]⟩ : ByteArray)).bind fun x1 =>
  (impl_natural_p fuel x1.1).bind fun x3 =>
  cond ((!x3.2) || (x1.2 && (x3.1 == 0)))
    (some (0, false))
    (cond x1.2
      (some (w64 (-x3.1), true))
      (some (x3.1, true)))
theorem impl_integer_ok (fuel : Nat) (sA : ByteArray) (r : (Int × Bool)) (hH : impl_integer_p fuel sA = some r) : SpecR Tryz.prog 67 [.v (.string sA)] (.t [.v (.int .i64 r.1), .v (.bool r.2)]) := by
 refine fn_ok T Tryz.func67 rfl (by decide) rfl ?_
 refine AW.seq (AW.region ?_)
 iterate 2 refine AO.pu T ?_
 refine AO.nil (AW.seq ?_)
 obtain ⟨x1, hx2, hH⟩ := bindE hH
 refine AW.region ?_
 refine AO.pu T ?_
 refine AO.val rfl rfl (callV_ok rfl rfl rfl rfl (strings_CutPrefix_ok _ _ _ (hx2)) rfl) ?_
 iterate 5 refine AO.pu T ?_
 refine AO.nil (AW.seq ?_)
 obtain ⟨x3, hx4, hH⟩ := bindE hH
 refine AW.region ?_
 refine AO.pu T ?_
 refine AO.val rfl rfl (callV_ok rfl rfl rfl rfl (impl_natural_ok fuel _ _ (hx4)) rfl) ?_
 iterate 5 refine AO.pu T ?_
 refine AO.nil ?_
 iterate 2 refine AW.seq ?_
 refine AW.region ?_
 iterate 3 refine AO.pu T ?_
 refine AO.pureG T [] rfl trivial rfl rfl ?_
 refine AO.pureG T [21] rfl ⟨fun h => h, trivial⟩ rfl rfl ?_
 refine AO.pureG T [] rfl trivial rfl rfl ?_
 refine AO.pureG T [23] rfl ⟨fun h => h, trivial⟩ rfl rfl ?_
 refine AO.guard [22] rfl ⟨fun h => h, trivial⟩ (fun hg => pick_and rfl rfl rfl (by rw [hg]; exact Bool.true_and _)) rfl ?_
 refine AO.val rfl rfl (pick_or rfl rfl rfl rfl) ?_
 refine AO.nil ?_
 refine AW.le (Le.ct 0 0 (σ' := (⟨[(5, .v (.bool x1.2)), (6, x3.1), (26, .v (.bool ((!x3.2) || (x1.2 && (x3.1 == 0)))))], [], 31, []⟩ : St))) ?_
 refine AW.cond (b := ((!x3.2) || (x1.2 && (x3.1 == 0)))) rfl (fun hc => ?_) (fun hc => ?_)
 replace hH := condT hc hH
 refine AW.seq (AW.region ?_)
 iterate 2 refine AO.pu T ?_
 refine AO.nil (AW.ret ?_)
 have hR := someE hH; subst hR
 exact retQ.i [] rfl (.t (expLG_cons (.c .v) (expLG_cons (.c .v) (expLG_nil))))
 replace hH := condF hc hH
 refine AW.skip ?_
 iterate 2 refine AW.seq ?_
 refine AW.region ?_
 refine AO.pu T ?_
 refine AO.nil ?_
 refine AW.cond (b := x1.2) rfl (fun hc => ?_) (fun hc => ?_)
 replace hH := condT hc hH
 refine AW.region ?_
 refine AO.pu T ?_
 refine AO.val rfl rfl (negw_ok rfl rfl) ?_
 refine AO.pu T ?_
 refine AO.nil (AW.seq ?_)
 refine AW.region ?_
 iterate 3 refine AO.pu T ?_
 refine AO.nil (AW.ret ?_)
 have hR := someE hH; subst hR
 exact retQ.i [] rfl (.t (expLG_cons (.c .v) (expLG_cons (.c .v) (expLG_nil))))
 replace hH := condF hc hH
 refine AW.skip ?_
 refine AW.seq (AW.region ?_)
 iterate 3 refine AO.pu T ?_
 refine AO.nil (AW.ret ?_)
 have hR := someE hH; subst hR
 exact retQ.i [] rfl (.t (expLG_cons (.c .v) (expLG_cons (.c .v) (expLG_nil))))

def impl_integersIn_l1 (fuel : Nat) : List ByteArray → Nat → List Int → Option (((List Int) × Bool))
  | [], k1, v16 =>
    some (v16, true)
  | y2 :: ys3, k1, v16 =>
    (impl_integer_p fuel y2).bind fun x18 =>
    cond (!x18.2)
      (some ([], false))
      ((need (fitsB 8 (v16.length + ([x18.1]).length))).bind fun u20 =>
      impl_integersIn_l1 fuel ys3 (k1 + 1) (v16 ++ [x18.1]))
def impl_integersIn_p (fuel : Nat) (words : List ByteArray) : Option ((List Int) × Bool) :=
  impl_integersIn_l1 fuel words 0 []
theorem impl_integersIn_ok (fuel : Nat) (words : List ByteArray) (r : ((List Int) × Bool)) (hH : impl_integersIn_p fuel words = some r) : SpecR Tryz.prog 43 [.s (List.map encStr words)] (.t [.w 1 (r.1.map encInt), .v (.bool r.2)]) := by
 refine fn_ok T Tryz.func43 rfl (by decide) rfl ?_
 refine AW.seq (AW.region ?_)
 iterate 2 refine AO.pu T ?_
 refine AO.nil (AW.seq ?_)
 refine AW.region ?_
 refine AO.step rfl (mk0_ok T rfl rfl rfl rfl) ?_
 refine AO.pu T ?_
 refine AO.nil ?_
 iterate 2 refine AW.seq ?_
 refine AW.region ?_
 refine AO.pu T ?_
 refine AO.val rfl rfl (len_map_ok T rfl rfl rfl) ?_
 refine AO.pu T ?_
 refine AO.nil ?_
 refine AW.block ?_
 refine AW.loopS (fun s : Nat × (List Int) => (⟨[(4, .R 4), (10, .s (List.map encStr words)), (11, (words.length : Int)), (12, (s.1 : Int))], [(4, .row 1 (List.map encInt s.2))], 29, []⟩ : St)) (fun s => s.1 ≤ words.length ∧ impl_integersIn_l1 fuel (words.drop s.1) s.1 s.2 = some r) (fun s => words.length - s.1) (0, []) ⟨Nat.zero_le _, hH⟩ ?_ ?_
 refine Le.trans (Le.void 4 4 1 rfl rfl) ?_
 exact Le.ct 0 0
 rintro ⟨k1, v16⟩ ⟨hk, hH⟩
 replace hH : impl_integersIn_l1 fuel (words.drop k1) k1 v16 = some r := hH
 try dsimp only
 refine AW.boundM (t := 10) (l := words) rfl (fun hb5 => ?_)
 rcases hd4 : words.drop k1 with _ | ⟨y2, ys3⟩
 rw [hd4, impl_integersIn_l1] at hH
 have hlt6 := drop_ge hd4
 refine AW.seq (AW.region ?_)
 refine AO.pu T ?_
 refine AO.nil (AW.seq ?_)
 refine AW.condF' (b := decide ((k1 : Int) < (words.length : Int))) rfl (rngF hlt6) ?_
 refine AW.exit ?_
 refine AW.seq (AW.region ?_)
 iterate 3 refine AO.pu T ?_
 refine AO.nil (AW.ret ?_)
 have hR := someE hH; subst hR
 exact retQ.i [4] rfl (.t (expLG_cons (.c (.rowR rfl)) (expLG_cons (.c .v) (expLG_nil))))
 rw [hd4, impl_integersIn_l1] at hH
 have hlt6 := drop_lt hd4
 refine AW.seq (AW.region ?_)
 refine AO.pu T ?_
 refine AO.nil (AW.seq ?_)
 refine AW.condT' (b := decide ((k1 : Int) < (words.length : Int))) rfl (rngT hlt6) ?_
 refine AW.skip ?_
 refine AW.seq ?_
 refine AW.block ?_
 refine AW.seq (AW.region ?_)
 refine AO.val rfl rfl (ix_map_ok T rfl rfl rfl rfl rfl (getI_drop hd4) rfl) ?_
 iterate 2 refine AO.pu T ?_
 refine AO.nil (AW.seq ?_)
 obtain ⟨x18, hx19, hH⟩ := bindE hH
 refine AW.region ?_
 refine AO.pu T ?_
 refine AO.val rfl rfl (callV_ok rfl rfl rfl rfl (impl_integer_ok fuel _ _ (hx19)) rfl) ?_
 iterate 5 refine AO.pu T ?_
 refine AO.nil ?_
 iterate 2 refine AW.seq ?_
 refine AW.region ?_
 iterate 2 refine AO.pu T ?_
 refine AO.nil ?_
 refine AW.cond (b := (!x18.2)) rfl (fun hc => ?_) (fun hc => ?_)
 replace hH := condT hc hH
 refine AW.seq (AW.region ?_)
 iterate 2 refine AO.pu T ?_
 refine AO.nil (AW.ret ?_)
 have hR := someE hH; subst hR
 exact retQ.i [] rfl (.t (expLG_cons (.c .nil) (expLG_cons (.c .v) (expLG_nil))))
 replace hH := condF hc hH
 refine AW.skip ?_
 obtain ⟨u20, hx21, hH⟩ := bindE hH
 refine AW.region ?_
 iterate 2 refine AO.pu T ?_
 refine AO.step rfl (mk_map_ok T rfl 5 rfl rfl rfl rfl rfl (f := encInt) (l := [x18.1]) rfl rfl (fun _ => rfl) rfl rfl rfl rfl rfl) ?_
 refine AO.step rfl (app_rv_map T rfl 6 rfl rfl rfl rfl rfl (by decide) rfl rfl rfl rfl (fun _ => rfl) (needT (hx21)) rfl rfl) ?_
 refine AO.pu T ?_
 refine AO.nil ?_
 refine AW.region ?_
 refine AO.val rfl rfl (ar_ok rfl rfl rfl rfl (inI_succ hlt6 hb5)) ?_
 refine AO.pu T ?_
 refine AO.nil ?_
 refine ⟨(k1 + 1, (v16 ++ [x18.1])), ⟨Nat.succ_le_of_lt hlt6, (by rw [drop_succ_of hd4]; exact hH)⟩, (by have := hlt6; dsimp only; omega), ?_⟩
 exact Le.ct 6 4

def slices_Index_string_l1 (v : ByteArray) : List ByteArray → Nat → Option Int
  | [], k1 =>
    some (-1)
  | y2 :: ys3, k1 =>
    cond (decide (v = y2))
      (some (k1 : Int))
      (slices_Index_string_l1 v ys3 (k1 + 1))
def slices_Index_string_p (sA : List ByteArray) (v : ByteArray) : Option Int :=
  slices_Index_string_l1 v sA 0
theorem slices_Index_string_ok (sA : List ByteArray) (v : ByteArray) (r : Int) (hH : slices_Index_string_p sA v = some r) : SpecR Tryz.prog 44 [.s (List.map encStr sA), .v (.string v)] (.v (.int .i64 r)) := by
 refine fn_ok T Tryz.func44 rfl (by decide) rfl ?_
 refine AW.seq (AW.region ?_)
 refine AO.pu T ?_
 refine AO.nil ?_
 iterate 2 refine AW.seq ?_
 refine AW.region ?_
 refine AO.pu T ?_
 refine AO.val rfl rfl (len_map_ok T rfl rfl rfl) ?_
 refine AO.pu T ?_
 refine AO.nil ?_
 refine AW.block ?_
 refine AW.loopS (fun s : Nat => (⟨[(0, .s (List.map encStr sA)), (1, .v (.string v)), (7, (sA.length : Int)), (8, (s : Int))], [], 19, []⟩ : St)) (fun s => s ≤ sA.length ∧ slices_Index_string_l1 v (sA.drop s) s = some r) (fun s => sA.length - s) 0 ⟨Nat.zero_le _, hH⟩ ?_ ?_
 exact Le.ct 0 0
 rintro k1 ⟨hk, hH⟩
 replace hH : slices_Index_string_l1 v (sA.drop k1) k1 = some r := hH
 try dsimp only
 refine AW.boundM (t := 0) (l := sA) rfl (fun hb5 => ?_)
 rcases hd4 : sA.drop k1 with _ | ⟨y2, ys3⟩
 rw [hd4, slices_Index_string_l1] at hH
 have hlt6 := drop_ge hd4
 refine AW.seq (AW.region ?_)
 refine AO.pu T ?_
 refine AO.nil (AW.seq ?_)
 refine AW.condF' (b := decide ((k1 : Int) < (sA.length : Int))) rfl (rngF hlt6) ?_
 refine AW.exit ?_
 refine AW.seq (AW.region ?_)
 refine AO.pu T ?_
 refine AO.nil (AW.ret ?_)
 have hR := someE hH; subst hR
 exact retQ.i [] rfl (.c (.c .v))
 rw [hd4, slices_Index_string_l1] at hH
 have hlt6 := drop_lt hd4
 refine AW.seq (AW.region ?_)
 refine AO.pu T ?_
 refine AO.nil (AW.seq ?_)
 refine AW.condT' (b := decide ((k1 : Int) < (sA.length : Int))) rfl (rngT hlt6) ?_
 refine AW.skip ?_
 refine AW.seq ?_
 refine AW.block ?_
 refine AW.seq (AW.region ?_)
 iterate 2 refine AO.pu T ?_
 refine AO.nil (AW.seq ?_)
 refine AW.region ?_
 iterate 3 refine AO.pu T ?_
 refine AO.val rfl rfl (ix_map_ok T rfl rfl rfl rfl rfl (getI_drop hd4) rfl) ?_
 iterate 2 refine AO.pu T ?_
 refine AO.nil ?_
 refine AW.cond (b := decide (v = y2)) rfl (fun hc => ?_) (fun hc => ?_)
 replace hH := condT hc hH
 refine AW.seq (AW.region ?_)
 iterate 2 refine AO.pu T ?_
 refine AO.nil (AW.ret ?_)
 have hR := someE hH; subst hR
 exact retQ.i [] rfl (.c (.c .v))
 replace hH := condF hc hH
 refine AW.skip ?_
 refine AW.region ?_
 refine AO.val rfl rfl (ar_ok rfl rfl rfl rfl (inI_succ hlt6 hb5)) ?_
 refine AO.pu T ?_
 refine AO.nil ?_
 refine ⟨k1 + 1, ⟨Nat.succ_le_of_lt hlt6, (by rw [drop_succ_of hd4]; exact hH)⟩, (by have := hlt6; dsimp only; omega), ?_⟩
 exact Le.ct 0 0

def impl_ParseHistory_l1 (l : List Item) (fuel : Nat) : List ByteArray → Nat → List Change → Option (((List Change) × Bool))
  | [], k5, v56 =>
    (impl_isHistory_p fuel l v56).bind fun x58 =>
    cond (!x58)
      (some ([], false))
      (some (v56, true))
  | y6 :: ys7, k5, v56 =>
    (strings_CutSuffix_p y6 (⟨#[32, 114, 101, 118, 105, 101, 119]⟩ : ByteArray)).bind fun x60 =>
    (strings_Split_p x60.1 (⟨#[32]⟩ : ByteArray)).bind fun x62 =>
    cond ((x62.length : Int) != 5)
      (some ([], false))
      ((sliceHi x62 4).bind fun x64 =>
      (impl_integersIn_p fuel x64).bind fun x66 =>
      (getI x62 4).bind fun x68 =>
      (slices_Index_string_p [(⟨#[110, 111, 110, 101]⟩ : ByteArray), (⟨#[100, 111, 119, 110]⟩ : ByteArray), (⟨#[101, 100, 103, 101]⟩ : ByteArray), (⟨#[118, 111, 105, 100]⟩ : ByteArray)] x68).bind fun x70 =>
      cond ((!x66.2) || decide (x70 < 0))
        (some ([], false))
        ((getI x66.1 0).bind fun x72 =>
        (getI x66.1 1).bind fun x74 =>
        (getI x66.1 2).bind fun x76 =>
        (getI x66.1 3).bind fun x78 =>
        (need (fitsB 48 (v56.length + ([(Change.mk x72 x74 x76 x78 x70 x60.2)]).length))).bind fun u80 =>
        impl_ParseHistory_l1 l fuel ys7 (k5 + 1) (v56 ++ [(Change.mk x72 x74 x76 x78 x70 x60.2)])))
def impl_ParseHistory_p (fuel : Nat) (l : List Item) (sA : ByteArray) : Option ((List Change) × Bool) :=
  (impl_linesOf_p sA).bind fun x1 =>
  (impl_AreItems_p fuel l).bind fun x3 =>
  cond (((!x3) || (!x1.2)) || decide ((x1.1.length : Int) > 60))
    (some ([], false))
    (impl_ParseHistory_l1 l fuel x1.1 0 [])
theorem impl_ParseHistory_ok (fuel : Nat) (l : List Item) (sA : ByteArray) (r : ((List Change) × Bool)) (hH : impl_ParseHistory_p fuel l sA = some r) : SpecR Tryz.prog 15 [.s (List.map encItem l), .v (.string sA)] (.t [.w 6 (r.1.map encChange), .v (.bool r.2)]) := by
 refine fn_ok T Tryz.func15 rfl (by decide) rfl ?_
 refine AW.seq (AW.region ?_)
 iterate 2 refine AO.pu T ?_
 refine AO.nil (AW.seq ?_)
 obtain ⟨x1, hx2, hH⟩ := bindE hH
 refine AW.region ?_
 refine AO.pu T ?_
 refine AO.step rfl (call_ok rfl 1 rfl rfl rfl (impl_linesOf_ok _ _ (hx2)) rfl rfl rfl) ?_
 iterate 5 refine AO.pu T ?_
 refine AO.nil ?_
 iterate 2 refine AW.seq ?_
 obtain ⟨x3, hx4, hH⟩ := bindE hH
 refine AW.region ?_
 refine AO.pu T ?_
 refine AO.val rfl rfl (callV_ok rfl rfl rfl rfl (impl_AreItems_ok fuel _ _ (hx4)) rfl) ?_
 iterate 2 refine AO.pu T ?_
 refine AO.pureG T [] rfl trivial rfl rfl ?_
 refine AO.pureG T [26] rfl ⟨fun h => h, trivial⟩ rfl rfl ?_
 refine AO.val rfl rfl (pick_or rfl rfl rfl rfl) ?_
 refine AO.pu T ?_
 refine AO.pureG T [] rfl trivial rfl rfl ?_
 refine AO.guard [30] rfl ⟨fun h => h, trivial⟩ (fun hg => len_row_ok T rfl rfl rfl rfl) rfl ?_
 refine AO.pureG T [31] rfl ⟨fun h => h, trivial⟩ rfl rfl ?_
 refine AO.val rfl rfl (pick_or rfl rfl rfl rfl) ?_
 refine AO.nil ?_
 refine AW.cond (b := (((!x3) || (!x1.2)) || decide ((x1.1.length : Int) > 60))) rfl (fun hc => ?_) (fun hc => ?_)
 replace hH := condT hc hH
 refine AW.seq (AW.region ?_)
 iterate 2 refine AO.pu T ?_
 refine AO.nil (AW.ret ?_)
 have hR := someE hH; subst hR
 exact retQ.i [] rfl (.t (expLG_cons (.c .nil) (expLG_cons (.c .v) (expLG_nil))))
 replace hH := condF hc hH
 refine AW.skip ?_
 refine AW.seq (AW.region ?_)
 refine AO.step rfl (mk0_ok T rfl rfl rfl rfl) ?_
 refine AO.pu T ?_
 refine AO.nil ?_
 iterate 2 refine AW.seq ?_
 refine AW.region ?_
 refine AO.pu T ?_
 refine AO.val rfl rfl (len_row_ok T rfl rfl rfl rfl) ?_
 refine AO.pu T ?_
 refine AO.nil ?_
 refine AW.le (Le.ct 0 0 (σ' := (⟨[(0, .s (List.map encItem l)), (8, .w 6 []), (35, .R 1), (36, (x1.1.length : Int)), (37, (0 : Int))], [(1, .row 1 (List.map encStr x1.1))], 92, []⟩ : St))) ?_
 refine AW.block ?_
 refine AW.loopS (fun s : Nat × (List Change) => (⟨[(0, .s (List.map encItem l)), (8, .R 9), (35, .R 1), (36, (x1.1.length : Int)), (37, (s.1 : Int))], [(1, .row 1 (List.map encStr x1.1)), (9, .row 6 (List.map encChange s.2))], 92, []⟩ : St)) (fun s => s.1 ≤ x1.1.length ∧ impl_ParseHistory_l1 l fuel (x1.1.drop s.1) s.1 s.2 = some r) (fun s => x1.1.length - s.1) (0, []) ⟨Nat.zero_le _, hH⟩ ?_ ?_
 refine Le.trans (Le.void 8 9 6 rfl rfl) ?_
 exact Le.ct 0 0
 rintro ⟨k5, v56⟩ ⟨hk, hH⟩
 replace hH : impl_ParseHistory_l1 l fuel (x1.1.drop k5) k5 v56 = some r := hH
 try dsimp only
 refine AW.boundR (id := 1) (l := x1.1) rfl (fun hb9 => ?_)
 rcases hd8 : x1.1.drop k5 with _ | ⟨y6, ys7⟩
 rw [hd8, impl_ParseHistory_l1] at hH
 have hlt10 := drop_ge hd8
 refine AW.seq (AW.region ?_)
 refine AO.pu T ?_
 refine AO.nil (AW.seq ?_)
 refine AW.condF' (b := decide ((k5 : Int) < (x1.1.length : Int))) rfl (rngF hlt10) ?_
 refine AW.exit ?_
 iterate 2 refine AW.seq ?_
 obtain ⟨x58, hx59, hH⟩ := bindE hH
 refine AW.region ?_
 iterate 2 refine AO.pu T ?_
 refine AO.val rfl rfl (callLV_ok rfl rfl rfl (es := [.s (List.map encItem l), .s (List.map encChange v56)]) ⟨.free rfl, (.rowR rfl (.map fun y => .vs rfl)), trivial⟩ (impl_isHistory_ok fuel _ _ _ (hx59)) (zfree_v _) rfl) ?_
 refine AO.pu T ?_
 refine AO.nil ?_
 refine AW.cond (b := (!x58)) rfl (fun hc => ?_) (fun hc => ?_)
 replace hH := condT hc hH
 refine AW.seq (AW.region ?_)
 iterate 2 refine AO.pu T ?_
 refine AO.nil (AW.ret ?_)
 have hR := someE hH; subst hR
 exact retQ.i [] rfl (.t (expLG_cons (.c .nil) (expLG_cons (.c .v) (expLG_nil))))
 replace hH := condF hc hH
 refine AW.skip ?_
 refine AW.seq (AW.region ?_)
 iterate 3 refine AO.pu T ?_
 refine AO.nil (AW.ret ?_)
 have hR := someE hH; subst hR
 exact retQ.i [9] rfl (.t (expLG_cons (.c (.rowR rfl)) (expLG_cons (.c .v) (expLG_nil))))
 rw [hd8, impl_ParseHistory_l1] at hH
 have hlt10 := drop_lt hd8
 refine AW.seq (AW.region ?_)
 refine AO.pu T ?_
 refine AO.nil (AW.seq ?_)
 refine AW.condT' (b := decide ((k5 : Int) < (x1.1.length : Int))) rfl (rngT hlt10) ?_
 refine AW.skip ?_
 refine AW.seq ?_
 refine AW.block ?_
 refine AW.seq (AW.region ?_)
 refine AO.val rfl rfl (ix_row_ok T rfl rfl rfl rfl rfl rfl (getI_drop hd8)) ?_
 refine AO.val rfl rfl (load_row_ok T rfl rfl rfl rfl (getI_get (getI_drop hd8)) rfl rfl rfl) ?_
 refine AO.pu T ?_
 refine AO.nil (AW.seq ?_)
 obtain ⟨x60, hx61, hH⟩ := bindE hH
 refine AW.region ?_
 refine AO.pu T ?_
 refine AO.val rfl rfl (callV_ok rfl rfl rfl rfl (strings_CutSuffix_ok _ _ _ (hx61)) rfl) ?_
 iterate 5 refine AO.pu T ?_
 refine AO.nil (AW.seq ?_)
 obtain ⟨x62, hx63, hH⟩ := bindE hH
 refine AW.region ?_
 refine AO.pu T ?_
 refine AO.step rfl (call_ok rfl 10 rfl rfl rfl (strings_Split_ok _ _ _ (hx63)) rfl rfl rfl) ?_
 refine AO.pu T ?_
 refine AO.nil ?_
 iterate 2 refine AW.seq ?_
 refine AW.region ?_
 refine AO.pu T ?_
 refine AO.val rfl rfl (len_row_ok T rfl rfl rfl rfl) ?_
 refine AO.pu T ?_
 refine AO.nil ?_
 refine AW.cond (b := ((x62.length : Int) != 5)) rfl (fun hc => ?_) (fun hc => ?_)
 replace hH := condT hc hH
 refine AW.seq (AW.region ?_)
 iterate 2 refine AO.pu T ?_
 refine AO.nil (AW.ret ?_)
 have hR := someE hH; subst hR
 exact retQ.i [] rfl (.t (expLG_cons (.c .nil) (expLG_cons (.c .v) (expLG_nil))))
 replace hH := condF hc hH
 refine AW.skip ?_
 refine AW.seq ?_
 obtain ⟨x64, hx65, hH⟩ := bindE hH
 obtain ⟨x66, hx67, hH⟩ := bindE hH
 refine AW.le (Le.freezeM 10 (g := encStr) rfl (fun y => .vs rfl)) ?_
 refine AW.region ?_
 refine AO.pu T ?_
 refine AO.val rfl rfl (slice_hi_map_ok T rfl rfl rfl rfl rfl (hx65) (fun _ => rfl)) ?_
 refine AO.step rfl (call_ok rfl 11 rfl rfl rfl (impl_integersIn_ok fuel _ _ (hx67)) rfl rfl rfl) ?_
 iterate 5 refine AO.pu T ?_
 refine AO.nil ?_
 refine AW.le (Le.ct 0 0 (σ' := (⟨[(0, .s (List.map encItem l)), (8, .R 9), (12, .v (.bool x60.2)), (13, .s (List.map encStr x62)), (14, .R 11), (15, .v (.bool x66.2)), (35, .R 1), (36, (x1.1.length : Int)), (37, (k5 : Int))], [(1, .row 1 (List.map encStr x1.1)), (9, .row 6 (List.map encChange v56)), (11, .row 1 (List.map encInt x66.1))], 92, []⟩ : St))) ?_
 refine AW.seq ?_
 obtain ⟨x68, hx69, hH⟩ := bindE hH
 obtain ⟨x70, hx71, hH⟩ := bindE hH
 refine AW.drawn 4 12 [] mix (by kernel_rfl) rfl ?_
 refine AD.val rfl rfl (slq_ok T (l := [(⟨#[110, 111, 110, 101]⟩ : ByteArray), (⟨#[100, 111, 119, 110]⟩ : ByteArray), (⟨#[101, 100, 103, 101]⟩ : ByteArray), (⟨#[118, 111, 105, 100]⟩ : ByteArray)]) (f := encStr) rfl rfl rfl rfl rfl rfl (by decide) (by decide) (fun _ => rfl)) ?_
 refine AD.pure T rfl rfl rfl ?_
 refine AD.val rfl rfl (ix_map_ok T rfl rfl rfl rfl rfl (hx69) rfl) ?_
 refine AD.pure T rfl rfl rfl ?_
 refine AD.nil ?_
 refine AO.val rfl rfl (callV_ok rfl rfl rfl rfl (slices_Index_string_ok _ _ _ (hx71)) rfl) ?_
 refine AO.pu T ?_
 refine AO.nil ?_
 iterate 2 refine AW.seq ?_
 refine AW.region ?_
 iterate 3 refine AO.pu T ?_
 refine AO.pureG T [] rfl trivial rfl rfl ?_
 refine AO.pureG T [65] rfl ⟨fun h => h, trivial⟩ rfl rfl ?_
 refine AO.val rfl rfl (pick_or rfl rfl rfl rfl) ?_
 refine AO.nil ?_
 refine AW.cond (b := ((!x66.2) || decide (x70 < 0))) rfl (fun hc => ?_) (fun hc => ?_)
 replace hH := condT hc hH
 refine AW.seq (AW.region ?_)
 iterate 2 refine AO.pu T ?_
 refine AO.nil (AW.ret ?_)
 have hR := someE hH; subst hR
 exact retQ.i [] rfl (.t (expLG_cons (.c .nil) (expLG_cons (.c .v) (expLG_nil))))
 replace hH := condF hc hH
 refine AW.skip ?_
 obtain ⟨x72, hx73, hH⟩ := bindE hH
 obtain ⟨x74, hx75, hH⟩ := bindE hH
 obtain ⟨x76, hx77, hH⟩ := bindE hH
 obtain ⟨x78, hx79, hH⟩ := bindE hH
 obtain ⟨u80, hx81, hH⟩ := bindE hH
 refine AW.drawn 17 12 [] mix (by kernel_rfl) rfl ?_
 iterate 2 refine AD.pure T rfl rfl rfl ?_
 refine AD.val rfl rfl (ix_row_ok T rfl rfl rfl rfl rfl rfl (hx73)) ?_
 refine AD.val rfl rfl (load_row_ok T rfl rfl rfl rfl (getI_get (hx73)) rfl rfl rfl) ?_
 refine AD.pure T rfl rfl rfl ?_
 refine AD.val rfl rfl (ix_row_ok T rfl rfl rfl rfl rfl rfl (hx75)) ?_
 refine AD.val rfl rfl (load_row_ok T rfl rfl rfl rfl (getI_get (hx75)) rfl rfl rfl) ?_
 refine AD.pure T rfl rfl rfl ?_
 refine AD.val rfl rfl (ix_row_ok T rfl rfl rfl rfl rfl rfl (hx77)) ?_
 refine AD.val rfl rfl (load_row_ok T rfl rfl rfl rfl (getI_get (hx77)) rfl rfl rfl) ?_
 refine AD.pure T rfl rfl rfl ?_
 refine AD.val rfl rfl (ix_row_ok T rfl rfl rfl rfl rfl rfl (hx79)) ?_
 refine AD.val rfl rfl (load_row_ok T rfl rfl rfl rfl (getI_get (hx79)) rfl rfl rfl) ?_
 iterate 2 refine AD.pure T rfl rfl rfl ?_
 refine AD.pure T (d := .g [x72, x74, x76, x78, x70, .v (.bool x60.2)]) rfl rfl rfl ?_
 refine AD.q (FStep.mk T (f := encChange) (l := [(Change.mk x72 x74 x76 x78 x70 x60.2)]) rfl rfl rfl rfl rfl rfl rfl rfl rfl (fun _ => rfl) rfl rfl rfl rfl) (by simp [namesIn]) (Nat.le_succ _) rfl ?_
 refine AD.nil ?_
 refine AO.step rfl (app_rv_map T rfl 13 rfl rfl rfl rfl rfl (by decide) rfl rfl rfl rfl (fun _ => rfl) (needT (hx81)) rfl rfl) ?_
 refine AO.pu T ?_
 refine AO.nil ?_
 refine AW.le (Le.ct 0 0 (σ' := (⟨[(0, .s (List.map encItem l)), (8, .R 13), (35, .R 1), (36, (x1.1.length : Int)), (37, (k5 : Int))], [(1, .row 1 (List.map encStr x1.1)), (13, .row 6 (List.map encChange (v56 ++ [(Change.mk x72 x74 x76 x78 x70 x60.2)])))], 92, []⟩ : St))) ?_
 refine AW.region ?_
 refine AO.val rfl rfl (ar_ok rfl rfl rfl rfl (inI_succ hlt10 hb9)) ?_
 refine AO.pu T ?_
 refine AO.nil ?_
 refine ⟨(k5 + 1, (v56 ++ [(Change.mk x72 x74 x76 x78 x70 x60.2)])), ⟨Nat.succ_le_of_lt hlt10, (by rw [drop_succ_of hd8]; exact hH)⟩, (by have := hlt10; dsimp only; omega), ?_⟩
 exact Le.ct 13 9

def spec_l1Split_l1 (sA : ByteArray) (b : Int) : Nat → List ByteArray → Int → Int → Option ((List ByteArray))
  | 0, _, _, _ => none
  | k1 + 1, v17, v18, v19 =>
    cond (decide (v19 < (sA.size : Int)))
      ((strI sA v19).bind fun b21 =>
      cond ((b21.toNat : Int) == b)
        ((need (inB v18 v19 sA.size)).bind fun u23 =>
        (need (fitsB 16 (v17.length + ([(ByteArray.extract sA v18.toNat v19.toNat)]).length))).bind fun u25 =>
        spec_l1Split_l1 sA b k1 (v17 ++ [(ByteArray.extract sA v18.toNat v19.toNat)]) (w64 (v19 + 1)) (w64 (v19 + 1)))
        (spec_l1Split_l1 sA b k1 v17 v18 (w64 (v19 + 1))))
      ((need (inB v18 sA.size sA.size)).bind fun u27 =>
      (need (fitsB 16 (v17.length + ([(ByteArray.extract sA v18.toNat sA.size)]).length))).bind fun u29 =>
      some (v17 ++ [(ByteArray.extract sA v18.toNat sA.size)]))
def spec_l1Split_p (fuel : Nat) (sA : ByteArray) (b : Int) : Option (List ByteArray) :=
  spec_l1Split_l1 sA b fuel [] 0 0
theorem spec_l1Split_ok (fuel : Nat) (sA : ByteArray) (b : Int) (r : (List ByteArray)) (hH : spec_l1Split_p fuel sA b = some r) : SpecR Tryz.prog 45 [.v (.string sA), .v (.int .u8 b)] (.w 1 (r.map encStr)) := by
 refine fn_ok T Tryz.func45 rfl (by decide) rfl ?_
 refine AW.seq (AW.region ?_)
 refine AO.pu T ?_
 refine AO.nil (AW.seq ?_)
 refine AW.region ?_
 refine AO.pu T ?_
 refine AO.nil (AW.seq ?_)
 refine AW.region ?_
 refine AO.pu T ?_
 refine AO.nil ?_
 iterate 2 refine AW.seq ?_
 refine AW.region ?_
 refine AO.pu T ?_
 refine AO.nil ?_
 refine AW.block ?_
 refine AW.loopS (fun s : Nat × (List ByteArray) × Int × Int => (⟨[(0, .v (.string sA)), (1, .v (.int .u8 b)), (5, .R 4), (6, s.2.2.1), (7, s.2.2.2)], [(4, .row 1 (List.map encStr s.2.1))], 34, []⟩ : St)) (fun s => spec_l1Split_l1 sA b s.1 s.2.1 s.2.2.1 s.2.2.2 = some r) (fun s => s.1) (fuel, [], 0, 0) hH ?_ ?_
 refine Le.trans (Le.void 5 4 1 rfl rfl) ?_
 exact Le.ct 0 0
 rintro ⟨k1, v17, v18, v19⟩ hH
 replace hH : spec_l1Split_l1 sA b k1 v17 v18 v19 = some r := hH
 try dsimp only
 rcases k1 with _ | k1
 cases (show none = some _ from hH)
 rw [spec_l1Split_l1] at hH
 iterate 2 refine AW.seq ?_
 refine AW.region ?_
 iterate 4 refine AO.pu T ?_
 refine AO.nil ?_
 refine AW.cond (b := decide (v19 < (sA.size : Int))) rfl (fun hc => ?_) (fun hc => ?_)
 replace hH := condT hc hH
 refine AW.skip ?_
 refine AW.seq ?_
 refine AW.block ?_
 refine AW.seq ?_
 obtain ⟨b21, hx22, hH⟩ := bindE hH
 refine AW.region ?_
 iterate 2 refine AO.pu T ?_
 refine AO.val rfl rfl (ix_strI_ok T rfl rfl rfl rfl (hx22)) ?_
 iterate 2 refine AO.pu T ?_
 refine AO.nil ?_
 refine AW.cond (b := ((b21.toNat : Int) == b)) rfl (fun hc => ?_) (fun hc => ?_)
 replace hH := condT hc hH
 refine AW.seq ?_
 obtain ⟨u23, hx24, hH⟩ := bindE hH
 obtain ⟨u25, hx26, hH⟩ := bindE hH
 refine AW.region ?_
 iterate 4 refine AO.pu T ?_
 refine AO.val rfl rfl (slice_str_lh T rfl rfl rfl rfl rfl (needT (hx24))) ?_
 refine AO.step rfl (mk_map_ok T rfl 5 rfl rfl rfl rfl rfl (f := encStr) (l := [(ByteArray.extract sA v18.toNat v19.toNat)]) rfl rfl (fun _ => rfl) rfl rfl rfl rfl rfl) ?_
 refine AO.step rfl (app_rv_map T rfl 6 rfl rfl rfl rfl rfl (by decide) rfl rfl rfl rfl (fun _ => rfl) (needT (hx26)) rfl rfl) ?_
 refine AO.pu T ?_
 refine AO.nil ?_
 refine AW.region ?_
 refine AO.pu T ?_
 refine AO.val rfl rfl (arw_ok rfl rfl rfl rfl) ?_
 refine AO.pu T ?_
 refine AO.nil ?_
 refine AW.region ?_
 refine AO.pu T ?_
 refine AO.val rfl rfl (arw_ok rfl rfl rfl rfl) ?_
 refine AO.pu T ?_
 refine AO.nil ?_
 refine ⟨(k1, (v17 ++ [(ByteArray.extract sA v18.toNat v19.toNat)]), w64 (v19 + 1), w64 (v19 + 1)), hH, Nat.lt_succ_self _, ?_⟩
 exact Le.ct 6 4
 replace hH := condF hc hH
 refine AW.skip ?_
 refine AW.region ?_
 refine AO.pu T ?_
 refine AO.val rfl rfl (arw_ok rfl rfl rfl rfl) ?_
 refine AO.pu T ?_
 refine AO.nil ?_
 refine ⟨(k1, v17, v18, w64 (v19 + 1)), hH, Nat.lt_succ_self _, ?_⟩
 exact Le.ct 0 0
 replace hH := condF hc hH
 refine AW.exit ?_
 refine AW.seq ?_
 obtain ⟨u27, hx28, hH⟩ := bindE hH
 obtain ⟨u29, hx30, hH⟩ := bindE hH
 refine AW.region ?_
 iterate 3 refine AO.pu T ?_
 refine AO.val rfl rfl (slice_str_lo T rfl rfl rfl rfl (needT (hx28))) ?_
 refine AO.step rfl (mk_map_ok T rfl 7 rfl rfl rfl rfl rfl (f := encStr) (l := [(ByteArray.extract sA v18.toNat sA.size)]) rfl rfl (fun _ => rfl) rfl rfl rfl rfl rfl) ?_
 refine AO.step rfl (app_rv_map T rfl 8 rfl rfl rfl rfl rfl (by decide) rfl rfl rfl rfl (fun _ => rfl) (needT (hx30)) rfl rfl) ?_
 refine AO.pu T ?_
 refine AO.nil (AW.ret ?_)
 have hR := someE hH; subst hR
 exact retQ.i [8] rfl (.c (.c (.rowR rfl)))

def spec_l1Read_l1 (sA : ByteArray) : Nat → Int → Int → Option Int
  | 0, _, _ => none
  | k5 + 1, v12, v13 =>
    cond (decide (v13 < (sA.size : Int)))
      ((strI sA v13).bind fun b15 =>
      cond (decide ((b15.toNat : Int) < 48) || decide ((b15.toNat : Int) > 57))
        (some (-1))
        (spec_l1Read_l1 sA k5 (w64 ((w64 (10 * v12)) + (IntKind.wrap .i64 (IntKind.wrap .u8 ((b15.toNat : Int) - 48))))) (w64 (v13 + 1))))
      (some v12)
def spec_l1Read_p (fuel : Nat) (sA : ByteArray) : Option Int :=
  (spec_l1In_p (sA.size : Int) 1 6).bind fun x1 =>
  (opt (!(!x1)) default (strI sA 0)).bind fun b3 =>
  cond ((!x1) || (((b3.toNat : Int) == 48) && decide ((sA.size : Int) > 1)))
    (some (-1))
    (spec_l1Read_l1 sA fuel 0 0)
theorem spec_l1Read_ok (fuel : Nat) (sA : ByteArray) (r : Int) (hH : spec_l1Read_p fuel sA = some r) : SpecR Tryz.prog 46 [.v (.string sA)] (.v (.int .i64 r)) := by
 refine fn_ok T Tryz.func46 rfl (by decide) rfl ?_
 refine AW.seq (AW.region ?_)
 refine AO.pu T ?_
 refine AO.nil ?_
 iterate 2 refine AW.seq ?_
 obtain ⟨x1, hx2, hH⟩ := bindE hH
 obtain ⟨b3, hx4, hH⟩ := bindE hH
 refine AW.region ?_
 iterate 2 refine AO.pu T ?_
 refine AO.val rfl rfl (callV_ok rfl rfl rfl rfl (spec_l1In_ok _ _ _ _ (hx2)) rfl) ?_
 iterate 2 refine AO.pu T ?_
 refine AO.pureG T [] rfl trivial rfl rfl ?_
 refine AO.guard [10] rfl ⟨fun h => h, trivial⟩ (fun hg => ix_strI_ok T rfl rfl rfl rfl (optT hx4 hg)) rfl ?_
 refine AO.pureG T [11] rfl ⟨fun h => h, trivial⟩ rfl rfl ?_
 refine AO.pureG T [12] rfl ⟨fun h => h, trivial⟩ rfl rfl ?_
 refine AO.pureG T [] rfl trivial rfl rfl ?_
 refine AO.pureG T [14] rfl ⟨fun h => h, trivial⟩ rfl rfl ?_
 refine AO.pureG T [15] rfl ⟨fun h => h, trivial⟩ rfl rfl ?_
 refine AO.guard [13] rfl ⟨fun h => h, trivial⟩ (fun hg => pick_and rfl rfl rfl (by rw [hg]; exact Bool.true_and _)) rfl ?_
 refine AO.val rfl rfl (pick_or rfl rfl rfl rfl) ?_
 refine AO.nil ?_
 refine AW.cond (b := ((!x1) || (((b3.toNat : Int) == 48) && decide ((sA.size : Int) > 1)))) rfl (fun hc => ?_) (fun hc => ?_)
 replace hH := condT hc hH
 refine AW.seq (AW.region ?_)
 refine AO.pu T ?_
 refine AO.nil (AW.ret ?_)
 have hR := someE hH; subst hR
 exact retQ.i [] rfl (.c (.c .v))
 replace hH := condF hc hH
 refine AW.skip ?_
 refine AW.seq (AW.region ?_)
 refine AO.pu T ?_
 refine AO.nil ?_
 iterate 2 refine AW.seq ?_
 refine AW.region ?_
 refine AO.pu T ?_
 refine AO.nil ?_
 refine AW.block ?_
 refine AW.loopS (fun s : Nat × Int × Int => (⟨[(0, .v (.string sA)), (3, s.2.1), (4, s.2.2)], [], 44, []⟩ : St)) (fun s => spec_l1Read_l1 sA s.1 s.2.1 s.2.2 = some r) (fun s => s.1) (fuel, 0, 0) hH ?_ ?_
 exact Le.ct 0 0
 rintro ⟨k5, v12, v13⟩ hH
 replace hH : spec_l1Read_l1 sA k5 v12 v13 = some r := hH
 try dsimp only
 rcases k5 with _ | k5
 cases (show none = some _ from hH)
 rw [spec_l1Read_l1] at hH
 iterate 2 refine AW.seq ?_
 refine AW.region ?_
 iterate 4 refine AO.pu T ?_
 refine AO.nil ?_
 refine AW.cond (b := decide (v13 < (sA.size : Int))) rfl (fun hc => ?_) (fun hc => ?_)
 replace hH := condT hc hH
 refine AW.skip ?_
 refine AW.seq ?_
 refine AW.block ?_
 iterate 2 refine AW.seq ?_
 obtain ⟨b15, hx16, hH⟩ := bindE hH
 refine AW.region ?_
 iterate 2 refine AO.pu T ?_
 refine AO.val rfl rfl (ix_strI_ok T rfl rfl rfl rfl (hx16)) ?_
 iterate 2 refine AO.pu T ?_
 iterate 2 refine AO.pureG T [] rfl trivial rfl rfl ?_
 refine AO.guard [30, 31] rfl ⟨fun h => h, fun h => h, trivial⟩ (fun hg => ix_strI_ok T rfl rfl rfl rfl (hx16)) rfl ?_
 refine AO.pureG T [32] rfl ⟨fun h => h, trivial⟩ rfl rfl ?_
 refine AO.val rfl rfl (pick_or rfl rfl rfl rfl) ?_
 refine AO.nil ?_
 refine AW.cond (b := (decide ((b15.toNat : Int) < 48) || decide ((b15.toNat : Int) > 57))) rfl (fun hc => ?_) (fun hc => ?_)
 replace hH := condT hc hH
 refine AW.seq (AW.region ?_)
 refine AO.pu T ?_
 refine AO.nil (AW.ret ?_)
 have hR := someE hH; subst hR
 exact retQ.i [] rfl (.c (.c .v))
 replace hH := condF hc hH
 refine AW.skip ?_
 refine AW.region ?_
 refine AO.pu T ?_
 refine AO.val rfl rfl (arw_ok rfl rfl rfl rfl) ?_
 iterate 2 refine AO.pu T ?_
 refine AO.val rfl rfl (ix_strI_ok T rfl rfl rfl rfl (hx16)) ?_
 refine AO.val rfl rfl (arw_ok rfl rfl rfl rfl) ?_
 refine AO.val rfl rfl (convw_ok T rfl rfl rfl rfl) ?_
 refine AO.val rfl rfl (arw_ok rfl rfl rfl rfl) ?_
 refine AO.pu T ?_
 refine AO.nil ?_
 refine AW.region ?_
 refine AO.pu T ?_
 refine AO.val rfl rfl (arw_ok rfl rfl rfl rfl) ?_
 refine AO.pu T ?_
 refine AO.nil ?_
 refine ⟨(k5, w64 ((w64 (10 * v12)) + (IntKind.wrap .i64 (IntKind.wrap .u8 ((b15.toNat : Int) - 48)))), w64 (v13 + 1)), hH, Nat.lt_succ_self _, ?_⟩
 exact Le.ct 0 0
 replace hH := condF hc hH
 refine AW.exit ?_
 refine AW.seq (AW.region ?_)
 iterate 2 refine AO.pu T ?_
 refine AO.nil (AW.ret ?_)
 have hR := someE hH; subst hR
 exact retQ.i [] rfl (.c (.c .v))

def spec_ParseHistory_l2 (v164 : List Change) (x209 : (List ByteArray)) (x213 : Int) (x217 : Int) (x221 : Int) (x225 : Int) : List ByteArray → Nat → Int → Option (Except (((List Change) × Bool)) (List Change))
  | [], k229, v240 =>
    (need (fitsB 48 (v164.length + ([(Change.mk x213 x217 x221 x225 v240 ((x209.length : Int) == 6))]).length))).bind fun u242 =>
    some (.ok (v164 ++ [(Change.mk x213 x217 x221 x225 v240 ((x209.length : Int) == 6))]))
  | y230 :: ys231, k229, v240 =>
    (getI x209 4).bind fun x244 =>
    cond (decide (x244 = y230))
      (spec_ParseHistory_l2 v164 x209 x213 x217 x221 x225 ys231 (k229 + 1) (k229 : Int))
      (spec_ParseHistory_l2 v164 x209 x213 x217 x221 x225 ys231 (k229 + 1) v240)
def spec_ParseHistory_l1 (l : List Item) (sA : ByteArray) (fuel : Nat) : List ByteArray → Nat → List Change → Option (((List Change) × Bool))
  | [], k7, v164 =>
    (spec_hiGood_p l v164).bind fun x166 =>
    (opt (!(!x166)) default (spec_hiText_p fuel v164)).bind fun x168 =>
    cond ((!x166) || (!decide (x168 = sA)))
      (some ([], false))
      (some (v164, true))
  | y8 :: ys9, k7, v164 =>
    ((spec_l1Split_p fuel y8 32).bind fun x209 =>
    cond (((x209.length : Int) != 5) && ((x209.length : Int) != 6))
      (some (.error ([], false)))
      ((getI x209 0).bind fun x211 =>
      (spec_l1Read_p fuel x211).bind fun x213 =>
      (getI x209 1).bind fun x215 =>
      (spec_l1Read_p fuel x215).bind fun x217 =>
      (getI x209 2).bind fun x219 =>
      (spec_l1Read_p fuel x219).bind fun x221 =>
      (getI x209 3).bind fun x223 =>
      (spec_l1Read_p fuel x223).bind fun x225 =>
      (spec_hiWords_p ).bind fun x227 =>
      spec_ParseHistory_l2 v164 x209 x213 x217 x221 x225 x227 0 0)).bind fun o207 => flow o207 fun v206 =>
    spec_ParseHistory_l1 l sA fuel ys9 (k7 + 1) v206
def spec_ParseHistory_p (fuel : Nat) (l : List Item) (sA : ByteArray) : Option ((List Change) × Bool) :=
  (spec_l1Split_p fuel sA 10).bind fun x1 =>
  (spec_itList_p fuel l).bind fun x3 =>
  cond ((!x3) || decide ((x1.length : Int) > 61))
    (some ([], false))
    ((sliceHi x1 (w64 ((x1.length : Int) - 1))).bind fun x5 =>
    spec_ParseHistory_l1 l sA fuel x5 0 [])
theorem spec_ParseHistory_ok (fuel : Nat) (l : List Item) (sA : ByteArray) (r : ((List Change) × Bool)) (hH : spec_ParseHistory_p fuel l sA = some r) : SpecR Tryz.prog 16 [.s (List.map encItem l), .v (.string sA)] (.t [.w 6 (r.1.map encChange), .v (.bool r.2)]) := by
 refine fn_ok T Tryz.func16 rfl (by decide) rfl ?_
 refine AW.seq (AW.region ?_)
 iterate 2 refine AO.pu T ?_
 refine AO.nil (AW.seq ?_)
 obtain ⟨x1, hx2, hH⟩ := bindE hH
 refine AW.region ?_
 refine AO.pu T ?_
 refine AO.step rfl (call_ok rfl 1 rfl rfl rfl (spec_l1Split_ok fuel _ _ _ (hx2)) rfl rfl rfl) ?_
 refine AO.pu T ?_
 refine AO.nil ?_
 iterate 2 refine AW.seq ?_
 obtain ⟨x3, hx4, hH⟩ := bindE hH
 refine AW.region ?_
 refine AO.pu T ?_
 refine AO.val rfl rfl (callV_ok rfl rfl rfl rfl (spec_itList_ok fuel _ _ (hx4)) rfl) ?_
 iterate 2 refine AO.pu T ?_
 refine AO.pureG T [] rfl trivial rfl rfl ?_
 refine AO.guard [20] rfl ⟨fun h => h, trivial⟩ (fun hg => len_row_ok T rfl rfl rfl rfl) rfl ?_
 refine AO.pureG T [21] rfl ⟨fun h => h, trivial⟩ rfl rfl ?_
 refine AO.val rfl rfl (pick_or rfl rfl rfl rfl) ?_
 refine AO.nil ?_
 refine AW.cond (b := ((!x3) || decide ((x1.length : Int) > 61))) rfl (fun hc => ?_) (fun hc => ?_)
 replace hH := condT hc hH
 refine AW.seq (AW.region ?_)
 iterate 2 refine AO.pu T ?_
 refine AO.nil (AW.ret ?_)
 have hR := someE hH; subst hR
 exact retQ.i [] rfl (.t (expLG_cons (.c .nil) (expLG_cons (.c .v) (expLG_nil))))
 replace hH := condF hc hH
 refine AW.skip ?_
 refine AW.seq (AW.region ?_)
 refine AO.pu T ?_
 refine AO.nil ?_
 iterate 2 refine AW.seq ?_
 obtain ⟨x5, hx6, hH⟩ := bindE hH
 refine AW.le (Le.freezeM 1 (g := encStr) rfl (fun y => .vs rfl)) ?_
 refine AW.region ?_
 iterate 2 refine AO.pu T ?_
 refine AO.val rfl rfl (len_map_ok T rfl rfl rfl) ?_
 refine AO.val rfl rfl (arw_ok rfl rfl rfl rfl) ?_
 refine AO.val rfl rfl (slice_hi_map_ok T rfl rfl rfl rfl rfl (hx6) (fun _ => rfl)) ?_
 refine AO.val rfl rfl (len_map_ok T rfl rfl rfl) ?_
 refine AO.pu T ?_
 refine AO.nil ?_
 refine AW.block ?_
 refine AW.loopS (fun s : Nat × (List Change) => (⟨[(0, .s (List.map encItem l)), (1, .v (.string sA)), (7, .R 16), (28, .s (List.map encStr x5)), (29, (x5.length : Int)), (30, (s.1 : Int))], [(16, .row 6 (List.map encChange s.2))], 95, []⟩ : St)) (fun s => s.1 ≤ x5.length ∧ spec_ParseHistory_l1 l sA fuel (x5.drop s.1) s.1 s.2 = some r) (fun s => x5.length - s.1) (0, []) ⟨Nat.zero_le _, hH⟩ ?_ ?_
 refine Le.trans (Le.void 7 16 6 rfl rfl) ?_
 exact Le.ct 0 0
 rintro ⟨k7, v164⟩ ⟨hk, hH⟩
 replace hH : spec_ParseHistory_l1 l sA fuel (x5.drop k7) k7 v164 = some r := hH
 try dsimp only
 refine AW.boundM (t := 28) (l := x5) rfl (fun hb11 => ?_)
 rcases hd10 : x5.drop k7 with _ | ⟨y8, ys9⟩
 rw [hd10, spec_ParseHistory_l1] at hH
 have hlt12 := drop_ge hd10
 refine AW.seq (AW.region ?_)
 refine AO.pu T ?_
 refine AO.nil (AW.seq ?_)
 refine AW.condF' (b := decide ((k7 : Int) < (x5.length : Int))) rfl (rngF hlt12) ?_
 refine AW.exit ?_
 iterate 2 refine AW.seq ?_
 obtain ⟨x166, hx167, hH⟩ := bindE hH
 obtain ⟨x168, hx169, hH⟩ := bindE hH
 refine AW.region ?_
 iterate 2 refine AO.pu T ?_
 refine AO.val rfl rfl (callLV_ok rfl rfl rfl (es := [.s (List.map encItem l), .s (List.map encChange v164)]) ⟨.free rfl, (.rowR rfl (.map fun y => .vs rfl)), trivial⟩ (spec_hiGood_ok _ _ _ (hx167)) (zfree_v _) rfl) ?_
 iterate 2 refine AO.pu T ?_
 refine AO.pureG T [] rfl trivial rfl rfl ?_
 refine AO.guard [89] rfl ⟨fun h => h, trivial⟩ (fun hg => callLV_ok rfl rfl rfl (es := [.s (List.map encChange v164)]) ⟨(.rowR rfl (.map fun y => .vs rfl)), trivial⟩ (spec_hiText_ok fuel _ _ (optT hx169 hg)) (zfree_v _) rfl) rfl ?_
 refine AO.pureG T [] rfl trivial rfl rfl ?_
 refine AO.pureG T [90, 91] rfl ⟨fun h => h, fun h => h, trivial⟩ rfl rfl ?_
 refine AO.val rfl rfl (pick_or rfl rfl rfl rfl) ?_
 refine AO.nil ?_
 refine AW.cond (b := ((!x166) || (!decide (x168 = sA)))) rfl (fun hc => ?_) (fun hc => ?_)
 replace hH := condT hc hH
 refine AW.seq (AW.region ?_)
 iterate 2 refine AO.pu T ?_
 refine AO.nil (AW.ret ?_)
 have hR := someE hH; subst hR
 exact retQ.i [] rfl (.t (expLG_cons (.c .nil) (expLG_cons (.c .v) (expLG_nil))))
 replace hH := condF hc hH
 refine AW.skip ?_
 refine AW.seq (AW.region ?_)
 iterate 3 refine AO.pu T ?_
 refine AO.nil (AW.ret ?_)
 have hR := someE hH; subst hR
 exact retQ.i [16] rfl (.t (expLG_cons (.c (.rowR rfl)) (expLG_cons (.c .v) (expLG_nil))))
 rw [hd10, spec_ParseHistory_l1] at hH
 have hlt12 := drop_lt hd10
 refine AW.seq (AW.region ?_)
 refine AO.pu T ?_
 refine AO.nil (AW.seq ?_)
 refine AW.condT' (b := decide ((k7 : Int) < (x5.length : Int))) rfl (rngT hlt12) ?_
 refine AW.skip ?_
 obtain ⟨o207, hH, hK208⟩ := bindE hH
 refine AW.seqJ (fun s : List Change => (⟨[(0, .s (List.map encItem l)), (1, .v (.string sA)), (7, .R 26), (28, .s (List.map encStr x5)), (29, (x5.length : Int)), (30, (k7 : Int))], [(26, .row 6 (List.map encChange s))], 95, []⟩ : St)) (fun s => .ok s = o207) ?_ ?_
 refine AW.block ?_
 refine AW.seq (AW.region ?_)
 refine AO.val rfl rfl (ix_map_ok T rfl rfl rfl rfl rfl (getI_drop hd10) rfl) ?_
 iterate 2 refine AO.pu T ?_
 refine AO.nil (AW.seq ?_)
 obtain ⟨x209, hx210, hH⟩ := bindE hH
 refine AW.region ?_
 refine AO.pu T ?_
 refine AO.step rfl (call_ok rfl 27 rfl rfl rfl (spec_l1Split_ok fuel _ _ _ (hx210)) rfl rfl rfl) ?_
 refine AO.pu T ?_
 refine AO.nil ?_
 iterate 2 refine AW.seq ?_
 refine AW.region ?_
 refine AO.pu T ?_
 refine AO.val rfl rfl (len_row_ok T rfl rfl rfl rfl) ?_
 iterate 2 refine AO.pu T ?_
 refine AO.pureG T [] rfl trivial rfl rfl ?_
 refine AO.guard [40] rfl ⟨fun h => h, trivial⟩ (fun hg => len_row_ok T rfl rfl rfl rfl) rfl ?_
 refine AO.pureG T [41] rfl ⟨fun h => h, trivial⟩ rfl rfl ?_
 refine AO.val rfl rfl (pick_and rfl rfl rfl rfl) ?_
 refine AO.nil ?_
 refine AW.cond (b := (((x209.length : Int) != 5) && ((x209.length : Int) != 6))) rfl (fun hc => ?_) (fun hc => ?_)
 replace hH := condT hc hH
 refine AW.seq (AW.region ?_)
 iterate 2 refine AO.pu T ?_
 refine AO.nil (AW.ret ?_)
 obtain rfl := someE hH
 replace hH := hK208
 have hR := someE hH; subst hR
 exact retQ.i [] rfl (.t (expLG_cons (.c .nil) (expLG_cons (.c .v) (expLG_nil))))
 replace hH := condF hc hH
 refine AW.skip ?_
 refine AW.seq ?_
 obtain ⟨x211, hx212, hH⟩ := bindE hH
 obtain ⟨x213, hx214, hH⟩ := bindE hH
 obtain ⟨x215, hx216, hH⟩ := bindE hH
 obtain ⟨x217, hx218, hH⟩ := bindE hH
 obtain ⟨x219, hx220, hH⟩ := bindE hH
 obtain ⟨x221, hx222, hH⟩ := bindE hH
 obtain ⟨x223, hx224, hH⟩ := bindE hH
 obtain ⟨x225, hx226, hH⟩ := bindE hH
 refine AW.drawn 21 28 [] mix (by kernel_rfl) rfl ?_
 refine AD.pure T rfl rfl rfl ?_
 refine AD.val rfl rfl (ix_row_ok T rfl rfl rfl rfl rfl rfl (hx212)) ?_
 refine AD.val rfl rfl (load_row_ok T rfl rfl rfl rfl (getI_get (hx212)) rfl rfl rfl) ?_
 refine AD.val rfl rfl (callV_ok rfl rfl rfl rfl (spec_l1Read_ok fuel _ _ (hx214)) rfl) ?_
 refine AD.pure T rfl rfl rfl ?_
 refine AD.val rfl rfl (ix_row_ok T rfl rfl rfl rfl rfl rfl (hx216)) ?_
 refine AD.val rfl rfl (load_row_ok T rfl rfl rfl rfl (getI_get (hx216)) rfl rfl rfl) ?_
 refine AD.val rfl rfl (callV_ok rfl rfl rfl rfl (spec_l1Read_ok fuel _ _ (hx218)) rfl) ?_
 refine AD.pure T rfl rfl rfl ?_
 refine AD.val rfl rfl (ix_row_ok T rfl rfl rfl rfl rfl rfl (hx220)) ?_
 refine AD.val rfl rfl (load_row_ok T rfl rfl rfl rfl (getI_get (hx220)) rfl rfl rfl) ?_
 refine AD.val rfl rfl (callV_ok rfl rfl rfl rfl (spec_l1Read_ok fuel _ _ (hx222)) rfl) ?_
 refine AD.pure T rfl rfl rfl ?_
 refine AD.val rfl rfl (ix_row_ok T rfl rfl rfl rfl rfl rfl (hx224)) ?_
 refine AD.val rfl rfl (load_row_ok T rfl rfl rfl rfl (getI_get (hx224)) rfl rfl rfl) ?_
 refine AD.val rfl rfl (callV_ok rfl rfl rfl rfl (spec_l1Read_ok fuel _ _ (hx226)) rfl) ?_
 refine AD.pure T rfl rfl rfl ?_
 refine AD.val rfl rfl (len_row_ok T rfl rfl rfl rfl) ?_
 refine AD.pure T rfl rfl rfl ?_
 refine AD.pure T (d := .g [x213, x217, x221, x225, (0 : Int), .v (.bool ((x209.length : Int) == 6))]) rfl rfl rfl ?_
 refine AD.q (FStep.alloc T rfl rfl rfl rfl rfl rfl) (by simp [namesIn]) (Nat.le_succ _) rfl ?_
 refine AD.nil ?_
 refine AO.se T [x213, x217, x221, x225, (0 : Int), .v (.bool ((x209.length : Int) == 6))] ?_
 refine AO.nil ?_
 refine AW.le (Le.ct 0 0 (σ' := (⟨[(0, .s (List.map encItem l)), (1, .v (.string sA)), (7, .R 16), (10, .R 27), (11, .p 28 0), (28, .s (List.map encStr x5)), (29, (x5.length : Int)), (30, (k7 : Int))], [(16, .row 6 (List.map encChange v164)), (27, .row 1 (List.map encStr x209)), (28, .box [x213, x217, x221, x225, (0 : Int), .v (.bool ((x209.length : Int) == 6))])], 95, []⟩ : St))) ?_
 iterate 2 refine AW.seq ?_
 obtain ⟨x227, hx228, hH⟩ := bindE hH
 refine AW.region ?_
 refine AO.step rfl (call_ok rfl 29 rfl rfl rfl (spec_hiWords_ok _ (hx228)) rfl rfl rfl) ?_
 refine AO.val rfl rfl (len_row_ok T rfl rfl rfl rfl) ?_
 refine AO.pu T ?_
 refine AO.nil ?_
 refine AW.block ?_
 refine AW.loopS (fun s : Nat × Int => (⟨[(0, .s (List.map encItem l)), (1, .v (.string sA)), (7, .R 16), (10, .R 27), (11, .p 28 0), (28, .s (List.map encStr x5)), (29, (x5.length : Int)), (30, (k7 : Int)), (64, .R 29), (65, (x227.length : Int)), (66, (s.1 : Int))], [(16, .row 6 (List.map encChange v164)), (27, .row 1 (List.map encStr x209)), (28, .box [x213, x217, x221, x225, s.2, .v (.bool ((x209.length : Int) == 6))]), (29, .row 1 (List.map encStr x227))], 95, []⟩ : St)) (fun s => s.1 ≤ x227.length ∧ spec_ParseHistory_l2 v164 x209 x213 x217 x221 x225 (x227.drop s.1) s.1 s.2 = some o207) (fun s => x227.length - s.1) (0, 0) ⟨Nat.zero_le _, hH⟩ ?_ ?_
 exact Le.ct 0 0
 rintro ⟨k229, v240⟩ ⟨hk, hH⟩
 replace hH : spec_ParseHistory_l2 v164 x209 x213 x217 x221 x225 (x227.drop k229) k229 v240 = some o207 := hH
 try dsimp only
 refine AW.boundR (id := 29) (l := x227) rfl (fun hb233 => ?_)
 rcases hd232 : x227.drop k229 with _ | ⟨y230, ys231⟩
 rw [hd232, spec_ParseHistory_l2] at hH
 have hlt234 := drop_ge hd232
 refine AW.seq (AW.region ?_)
 refine AO.pu T ?_
 refine AO.nil (AW.seq ?_)
 refine AW.condF' (b := decide ((k229 : Int) < (x227.length : Int))) rfl (rngF hlt234) ?_
 refine AW.exit ?_
 obtain ⟨u242, hx243, hH⟩ := bindE hH
 refine AW.region ?_
 refine AO.pu T ?_
 refine AO.pu T (d := .g [x213, x217, x221, x225, v240, .v (.bool ((x209.length : Int) == 6))]) ?_
 refine AO.step rfl (mk_map_ok T rfl 30 rfl rfl rfl rfl rfl (f := encChange) (l := [(Change.mk x213 x217 x221 x225 v240 ((x209.length : Int) == 6))]) rfl rfl (fun _ => rfl) rfl rfl rfl rfl rfl) ?_
 refine AO.step rfl (app_rv_map T rfl 31 rfl rfl rfl rfl rfl (by decide) rfl rfl rfl rfl (fun _ => rfl) (needT (hx243)) rfl rfl) ?_
 refine AO.pu T ?_
 refine AO.nil ?_
 refine ⟨_, someE hH, ?_⟩
 exact Le.ct 31 26
 rw [hd232, spec_ParseHistory_l2] at hH
 have hlt234 := drop_lt hd232
 refine AW.seq (AW.region ?_)
 refine AO.pu T ?_
 refine AO.nil (AW.seq ?_)
 refine AW.condT' (b := decide ((k229 : Int) < (x227.length : Int))) rfl (rngT hlt234) ?_
 refine AW.skip ?_
 refine AW.seq ?_
 refine AW.block ?_
 refine AW.seq (AW.region ?_)
 refine AO.pu T ?_
 refine AO.val rfl rfl (ix_row_ok T rfl rfl rfl rfl rfl rfl (getI_drop hd232)) ?_
 refine AO.val rfl rfl (load_row_ok T rfl rfl rfl rfl (getI_get (getI_drop hd232)) rfl rfl rfl) ?_
 iterate 2 refine AO.pu T ?_
 refine AO.nil (AW.seq ?_)
 obtain ⟨x244, hx245, hH⟩ := bindE hH
 refine AW.region ?_
 refine AO.pu T ?_
 refine AO.val rfl rfl (ix_row_ok T rfl rfl rfl rfl rfl rfl (hx245)) ?_
 refine AO.val rfl rfl (load_row_ok T rfl rfl rfl rfl (getI_get (hx245)) rfl rfl rfl) ?_
 iterate 2 refine AO.pu T ?_
 refine AO.nil ?_
 refine AW.cond (b := decide (x244 = y230)) rfl (fun hc => ?_) (fun hc => ?_)
 replace hH := condT hc hH
 refine AW.region ?_
 iterate 2 refine AO.pu T ?_
 refine AO.se T [x213, x217, x221, x225, (k229 : Int), .v (.bool ((x209.length : Int) == 6))] ?_
 refine AO.nil ?_
 refine AW.region ?_
 refine AO.val rfl rfl (ar_ok rfl rfl rfl rfl (inI_succ hlt234 hb233)) ?_
 refine AO.pu T ?_
 refine AO.nil ?_
 refine ⟨(k229 + 1, (k229 : Int)), ⟨Nat.succ_le_of_lt hlt234, (by rw [drop_succ_of hd232]; exact hH)⟩, (by have := hlt234; dsimp only; omega), ?_⟩
 exact Le.ct 0 0
 replace hH := condF hc hH
 refine AW.skip ?_
 refine AW.region ?_
 refine AO.val rfl rfl (ar_ok rfl rfl rfl rfl (inI_succ hlt234 hb233)) ?_
 refine AO.pu T ?_
 refine AO.nil ?_
 refine ⟨(k229 + 1, v240), ⟨Nat.succ_le_of_lt hlt234, (by rw [drop_succ_of hd232]; exact hH)⟩, (by have := hlt234; dsimp only; omega), ?_⟩
 exact Le.ct 0 0
 rintro v206 hs
 subst hs
 replace hH := hK208
 try dsimp only [flow, flowE] at hH
 try dsimp only
 refine AW.region ?_
 refine AO.val rfl rfl (ar_ok rfl rfl rfl rfl (inI_succ hlt12 hb11)) ?_
 refine AO.pu T ?_
 refine AO.nil ?_
 refine ⟨(k7 + 1, v206), ⟨Nat.succ_le_of_lt hlt12, (by rw [drop_succ_of hd10]; exact hH)⟩, (by have := hlt12; dsimp only; omega), ?_⟩
 exact Le.ct 26 16

def laws_qWords_l1 (b : List ByteArray) : List ByteArray → Nat → Option Bool
  | [], k1 =>
    some true
  | y2 :: ys3, k1 =>
    (getI b (k1 : Int)).bind fun x12 =>
    cond (!decide (y2 = x12))
      (some false)
      (laws_qWords_l1 b ys3 (k1 + 1))
def laws_qWords_p (a : List ByteArray) (b : List ByteArray) : Option Bool :=
  cond ((a.length : Int) != (b.length : Int))
    (some false)
    (laws_qWords_l1 b a 0)
theorem laws_qWords_ok (a : List ByteArray) (b : List ByteArray) (r : Bool) (hH : laws_qWords_p a b = some r) : SpecR Tryz.prog 48 [.s (List.map encStr a), .s (List.map encStr b)] (.v (.bool r)) := by
 refine fn_ok T Tryz.func48 rfl (by decide) rfl ?_
 refine AW.seq (AW.region ?_)
 refine AO.pu T ?_
 refine AO.nil ?_
 iterate 2 refine AW.seq ?_
 refine AW.region ?_
 refine AO.pu T ?_
 refine AO.val rfl rfl (len_map_ok T rfl rfl rfl) ?_
 refine AO.pu T ?_
 refine AO.val rfl rfl (len_map_ok T rfl rfl rfl) ?_
 refine AO.pu T ?_
 refine AO.nil ?_
 refine AW.cond (b := ((a.length : Int) != (b.length : Int))) rfl (fun hc => ?_) (fun hc => ?_)
 replace hH := condT hc hH
 refine AW.seq (AW.region ?_)
 refine AO.pu T ?_
 refine AO.nil (AW.ret ?_)
 have hR := someE hH; subst hR
 exact retQ.i [] rfl (.c (.c .v))
 replace hH := condF hc hH
 refine AW.skip ?_
 iterate 2 refine AW.seq ?_
 refine AW.region ?_
 refine AO.pu T ?_
 refine AO.val rfl rfl (len_map_ok T rfl rfl rfl) ?_
 refine AO.pu T ?_
 refine AO.nil ?_
 refine AW.block ?_
 refine AW.loopS (fun s : Nat => (⟨[(0, .s (List.map encStr a)), (1, .s (List.map encStr b)), (12, (a.length : Int)), (13, (s : Int))], [], 26, []⟩ : St)) (fun s => s ≤ a.length ∧ laws_qWords_l1 b (a.drop s) s = some r) (fun s => a.length - s) 0 ⟨Nat.zero_le _, hH⟩ ?_ ?_
 exact Le.ct 0 0
 rintro k1 ⟨hk, hH⟩
 replace hH : laws_qWords_l1 b (a.drop k1) k1 = some r := hH
 try dsimp only
 refine AW.boundM (t := 0) (l := a) rfl (fun hb5 => ?_)
 rcases hd4 : a.drop k1 with _ | ⟨y2, ys3⟩
 rw [hd4, laws_qWords_l1] at hH
 have hlt6 := drop_ge hd4
 refine AW.seq (AW.region ?_)
 refine AO.pu T ?_
 refine AO.nil (AW.seq ?_)
 refine AW.condF' (b := decide ((k1 : Int) < (a.length : Int))) rfl (rngF hlt6) ?_
 refine AW.exit ?_
 refine AW.seq (AW.region ?_)
 refine AO.pu T ?_
 refine AO.nil (AW.ret ?_)
 have hR := someE hH; subst hR
 exact retQ.i [] rfl (.c (.c .v))
 rw [hd4, laws_qWords_l1] at hH
 have hlt6 := drop_lt hd4
 refine AW.seq (AW.region ?_)
 refine AO.pu T ?_
 refine AO.nil (AW.seq ?_)
 refine AW.condT' (b := decide ((k1 : Int) < (a.length : Int))) rfl (rngT hlt6) ?_
 refine AW.skip ?_
 refine AW.seq ?_
 refine AW.block ?_
 refine AW.seq (AW.region ?_)
 iterate 2 refine AO.pu T ?_
 refine AO.nil (AW.seq ?_)
 obtain ⟨x12, hx13, hH⟩ := bindE hH
 refine AW.drawn 8 1 [] mix (by kernel_rfl) rfl ?_
 iterate 2 refine AD.pure T rfl rfl rfl ?_
 refine AD.val rfl rfl (ix_map_ok T rfl rfl rfl rfl rfl (getI_drop hd4) rfl) ?_
 iterate 3 refine AD.pure T rfl rfl rfl ?_
 refine AD.val rfl rfl (ix_map_ok T rfl rfl rfl rfl rfl (hx13) rfl) ?_
 refine AD.pure T rfl rfl rfl ?_
 refine AD.nil ?_
 refine AO.pu T ?_
 refine AO.nil ?_
 refine AW.cond (b := (!decide (y2 = x12))) rfl (fun hc => ?_) (fun hc => ?_)
 replace hH := condT hc hH
 refine AW.seq (AW.region ?_)
 refine AO.pu T ?_
 refine AO.nil (AW.ret ?_)
 have hR := someE hH; subst hR
 exact retQ.i [] rfl (.c (.c .v))
 replace hH := condF hc hH
 refine AW.skip ?_
 refine AW.region ?_
 refine AO.val rfl rfl (ar_ok rfl rfl rfl rfl (inI_succ hlt6 hb5)) ?_
 refine AO.pu T ?_
 refine AO.nil ?_
 refine ⟨k1 + 1, ⟨Nat.succ_le_of_lt hlt6, (by rw [drop_succ_of hd4]; exact hH)⟩, (by have := hlt6; dsimp only; omega), ?_⟩
 exact Le.ct 0 0

def laws_qInts_l1 (b : List Int) : List Int → Nat → Option Bool
  | [], k1 =>
    some true
  | y2 :: ys3, k1 =>
    (getI b (k1 : Int)).bind fun x12 =>
    cond (y2 != x12)
      (some false)
      (laws_qInts_l1 b ys3 (k1 + 1))
def laws_qInts_p (a : List Int) (b : List Int) : Option Bool :=
  cond ((a.length : Int) != (b.length : Int))
    (some false)
    (laws_qInts_l1 b a 0)
theorem laws_qInts_ok (a : List Int) (b : List Int) (r : Bool) (hH : laws_qInts_p a b = some r) : SpecR Tryz.prog 49 [.s (List.map encInt a), .s (List.map encInt b)] (.v (.bool r)) := by
 refine fn_ok T Tryz.func49 rfl (by decide) rfl ?_
 refine AW.seq (AW.region ?_)
 refine AO.pu T ?_
 refine AO.nil ?_
 iterate 2 refine AW.seq ?_
 refine AW.region ?_
 refine AO.pu T ?_
 refine AO.val rfl rfl (len_map_ok T rfl rfl rfl) ?_
 refine AO.pu T ?_
 refine AO.val rfl rfl (len_map_ok T rfl rfl rfl) ?_
 refine AO.pu T ?_
 refine AO.nil ?_
 refine AW.cond (b := ((a.length : Int) != (b.length : Int))) rfl (fun hc => ?_) (fun hc => ?_)
 replace hH := condT hc hH
 refine AW.seq (AW.region ?_)
 refine AO.pu T ?_
 refine AO.nil (AW.ret ?_)
 have hR := someE hH; subst hR
 exact retQ.i [] rfl (.c (.c .v))
 replace hH := condF hc hH
 refine AW.skip ?_
 iterate 2 refine AW.seq ?_
 refine AW.region ?_
 refine AO.pu T ?_
 refine AO.val rfl rfl (len_map_ok T rfl rfl rfl) ?_
 refine AO.pu T ?_
 refine AO.nil ?_
 refine AW.block ?_
 refine AW.loopS (fun s : Nat => (⟨[(0, .s (List.map encInt a)), (1, .s (List.map encInt b)), (12, (a.length : Int)), (13, (s : Int))], [], 26, []⟩ : St)) (fun s => s ≤ a.length ∧ laws_qInts_l1 b (a.drop s) s = some r) (fun s => a.length - s) 0 ⟨Nat.zero_le _, hH⟩ ?_ ?_
 exact Le.ct 0 0
 rintro k1 ⟨hk, hH⟩
 replace hH : laws_qInts_l1 b (a.drop k1) k1 = some r := hH
 try dsimp only
 refine AW.boundM (t := 0) (l := a) rfl (fun hb5 => ?_)
 rcases hd4 : a.drop k1 with _ | ⟨y2, ys3⟩
 rw [hd4, laws_qInts_l1] at hH
 have hlt6 := drop_ge hd4
 refine AW.seq (AW.region ?_)
 refine AO.pu T ?_
 refine AO.nil (AW.seq ?_)
 refine AW.condF' (b := decide ((k1 : Int) < (a.length : Int))) rfl (rngF hlt6) ?_
 refine AW.exit ?_
 refine AW.seq (AW.region ?_)
 refine AO.pu T ?_
 refine AO.nil (AW.ret ?_)
 have hR := someE hH; subst hR
 exact retQ.i [] rfl (.c (.c .v))
 rw [hd4, laws_qInts_l1] at hH
 have hlt6 := drop_lt hd4
 refine AW.seq (AW.region ?_)
 refine AO.pu T ?_
 refine AO.nil (AW.seq ?_)
 refine AW.condT' (b := decide ((k1 : Int) < (a.length : Int))) rfl (rngT hlt6) ?_
 refine AW.skip ?_
 refine AW.seq ?_
 refine AW.block ?_
 refine AW.seq (AW.region ?_)
 iterate 2 refine AO.pu T ?_
 refine AO.nil (AW.seq ?_)
 obtain ⟨x12, hx13, hH⟩ := bindE hH
 refine AW.drawn 8 1 [] mix (by kernel_rfl) rfl ?_
 iterate 2 refine AD.pure T rfl rfl rfl ?_
 refine AD.val rfl rfl (ix_map_ok T rfl rfl rfl rfl rfl (getI_drop hd4) rfl) ?_
 iterate 3 refine AD.pure T rfl rfl rfl ?_
 refine AD.val rfl rfl (ix_map_ok T rfl rfl rfl rfl rfl (hx13) rfl) ?_
 refine AD.pure T rfl rfl rfl ?_
 refine AD.nil ?_
 refine AO.pu T ?_
 refine AO.nil ?_
 refine AW.cond (b := (y2 != x12)) rfl (fun hc => ?_) (fun hc => ?_)
 replace hH := condT hc hH
 refine AW.seq (AW.region ?_)
 refine AO.pu T ?_
 refine AO.nil (AW.ret ?_)
 have hR := someE hH; subst hR
 exact retQ.i [] rfl (.c (.c .v))
 replace hH := condF hc hH
 refine AW.skip ?_
 refine AW.region ?_
 refine AO.val rfl rfl (ar_ok rfl rfl rfl rfl (inI_succ hlt6 hb5)) ?_
 refine AO.pu T ?_
 refine AO.nil ?_
 refine ⟨k1 + 1, ⟨Nat.succ_le_of_lt hlt6, (by rw [drop_succ_of hd4]; exact hH)⟩, (by have := hlt6; dsimp only; omega), ?_⟩
 exact Le.ct 0 0

def laws_qItems_l1 (b : List Item) : List Item → Nat → Option Bool
  | [], k1 =>
    some true
  | y2 :: ys3, k1 =>
    (getI b (k1 : Int)).bind fun x20 =>
    (laws_qWords_p y2.names x20.names).bind fun x22 =>
    (opt (!(!x22)) default (laws_qInts_p y2.marks x20.marks)).bind fun x24 =>
    cond (((!x22) || (!x24)) || (!(y2.late == x20.late)))
      (some false)
      (laws_qItems_l1 b ys3 (k1 + 1))
def laws_qItems_p (a : List Item) (b : List Item) : Option Bool :=
  cond ((a.length : Int) != (b.length : Int))
    (some false)
    (laws_qItems_l1 b a 0)
theorem laws_qItems_ok (a : List Item) (b : List Item) (r : Bool) (hH : laws_qItems_p a b = some r) : SpecR Tryz.prog 17 [.s (List.map encItem a), .s (List.map encItem b)] (.v (.bool r)) := by
 refine fn_ok T Tryz.func17 rfl (by decide) rfl ?_
 refine AW.seq (AW.region ?_)
 refine AO.pu T ?_
 refine AO.nil ?_
 iterate 2 refine AW.seq ?_
 refine AW.region ?_
 refine AO.pu T ?_
 refine AO.val rfl rfl (len_map_ok T rfl rfl rfl) ?_
 refine AO.pu T ?_
 refine AO.val rfl rfl (len_map_ok T rfl rfl rfl) ?_
 refine AO.pu T ?_
 refine AO.nil ?_
 refine AW.cond (b := ((a.length : Int) != (b.length : Int))) rfl (fun hc => ?_) (fun hc => ?_)
 replace hH := condT hc hH
 refine AW.seq (AW.region ?_)
 refine AO.pu T ?_
 refine AO.nil (AW.ret ?_)
 have hR := someE hH; subst hR
 exact retQ.i [] rfl (.c (.c .v))
 replace hH := condF hc hH
 refine AW.skip ?_
 iterate 2 refine AW.seq ?_
 refine AW.region ?_
 refine AO.pu T ?_
 refine AO.val rfl rfl (len_map_ok T rfl rfl rfl) ?_
 refine AO.pu T ?_
 refine AO.nil ?_
 refine AW.block ?_
 refine AW.loopS (fun s : Nat => (⟨[(0, .s (List.map encItem a)), (1, .s (List.map encItem b)), (12, (a.length : Int)), (13, (s : Int))], [], 56, []⟩ : St)) (fun s => s ≤ a.length ∧ laws_qItems_l1 b (a.drop s) s = some r) (fun s => a.length - s) 0 ⟨Nat.zero_le _, hH⟩ ?_ ?_
 exact Le.ct 0 0
 rintro k1 ⟨hk, hH⟩
 replace hH : laws_qItems_l1 b (a.drop k1) k1 = some r := hH
 try dsimp only
 refine AW.boundM (t := 0) (l := a) rfl (fun hb5 => ?_)
 rcases hd4 : a.drop k1 with _ | ⟨y2, ys3⟩
 rw [hd4, laws_qItems_l1] at hH
 have hlt6 := drop_ge hd4
 refine AW.seq (AW.region ?_)
 refine AO.pu T ?_
 refine AO.nil (AW.seq ?_)
 refine AW.condF' (b := decide ((k1 : Int) < (a.length : Int))) rfl (rngF hlt6) ?_
 refine AW.exit ?_
 refine AW.seq (AW.region ?_)
 refine AO.pu T ?_
 refine AO.nil (AW.ret ?_)
 have hR := someE hH; subst hR
 exact retQ.i [] rfl (.c (.c .v))
 rw [hd4, laws_qItems_l1] at hH
 have hlt6 := drop_lt hd4
 refine AW.seq (AW.region ?_)
 refine AO.pu T ?_
 refine AO.nil (AW.seq ?_)
 refine AW.condT' (b := decide ((k1 : Int) < (a.length : Int))) rfl (rngT hlt6) ?_
 refine AW.skip ?_
 refine AW.seq ?_
 refine AW.block ?_
 refine AW.seq (AW.region ?_)
 iterate 2 refine AO.pu T ?_
 refine AO.nil (AW.seq ?_)
 obtain ⟨x20, hx21, hH⟩ := bindE hH
 obtain ⟨x22, hx23, hH⟩ := bindE hH
 obtain ⟨x24, hx25, hH⟩ := bindE hH
 refine AW.drawn 37 1 [] mix (by kernel_rfl) rfl ?_
 iterate 2 refine AD.pure T rfl rfl rfl ?_
 refine AD.val rfl rfl (ix_map_ok T rfl rfl rfl rfl rfl (getI_drop hd4) rfl) ?_
 iterate 4 refine AD.pure T rfl rfl rfl ?_
 refine AD.val rfl rfl (ix_map_ok T rfl rfl rfl rfl rfl (hx21) rfl) ?_
 iterate 2 refine AD.pure T rfl rfl rfl ?_
 refine AD.val rfl rfl (callV_ok rfl rfl rfl rfl (laws_qWords_ok _ _ _ (hx23)) rfl) ?_
 iterate 2 refine AD.pure T rfl rfl rfl ?_
 iterate 2 refine AD.pureG T [] rfl trivial rfl rfl ?_
 refine AD.guard [29, 30] rfl ⟨fun h => h, fun h => h, trivial⟩ (fun hg => ix_map_ok T rfl rfl rfl rfl rfl (getI_drop hd4) rfl) rfl ?_
 refine AD.pureG T [31] rfl ⟨fun h => h, trivial⟩ rfl rfl ?_
 refine AD.pureG T [32] rfl ⟨fun h => h, trivial⟩ rfl rfl ?_
 iterate 2 refine AD.pureG T [] rfl trivial rfl rfl ?_
 refine AD.guard [34, 35] rfl ⟨fun h => h, fun h => h, trivial⟩ (fun hg => ix_map_ok T rfl rfl rfl rfl rfl (hx21) rfl) rfl ?_
 refine AD.pureG T [36] rfl ⟨fun h => h, trivial⟩ rfl rfl ?_
 refine AD.pureG T [37] rfl ⟨fun h => h, trivial⟩ rfl rfl ?_
 refine AD.guard [33, 38] rfl ⟨fun h => h, fun h => h, trivial⟩ (fun hg => callV_ok rfl rfl rfl rfl (laws_qInts_ok _ _ _ (optT hx25 hg)) rfl) rfl ?_
 refine AD.pureG T [39] rfl ⟨fun h => h, trivial⟩ rfl rfl ?_
 refine AD.val rfl rfl (pick_or rfl rfl rfl rfl) ?_
 refine AD.pure T rfl rfl rfl ?_
 iterate 2 refine AD.pureG T [] rfl trivial rfl rfl ?_
 refine AD.guard [43, 44] rfl ⟨fun h => h, fun h => h, trivial⟩ (fun hg => ix_map_ok T rfl rfl rfl rfl rfl (getI_drop hd4) rfl) rfl ?_
 refine AD.pureG T [45] rfl ⟨fun h => h, trivial⟩ rfl rfl ?_
 refine AD.pureG T [46] rfl ⟨fun h => h, trivial⟩ rfl rfl ?_
 iterate 2 refine AD.pureG T [] rfl trivial rfl rfl ?_
 refine AD.guard [48, 49] rfl ⟨fun h => h, fun h => h, trivial⟩ (fun hg => ix_map_ok T rfl rfl rfl rfl rfl (hx21) rfl) rfl ?_
 refine AD.pureG T [50] rfl ⟨fun h => h, trivial⟩ rfl rfl ?_
 refine AD.pureG T [51] rfl ⟨fun h => h, trivial⟩ rfl rfl ?_
 refine AD.nil ?_
 refine AO.pureG T [47, 52] rfl ⟨fun h => h, fun h => h, trivial⟩ rfl rfl ?_
 refine AO.val rfl rfl (pick_or rfl rfl rfl rfl) ?_
 refine AO.nil ?_
 refine AW.le (Le.ct 0 0 (σ' := (⟨[(0, .s (List.map encItem a)), (1, .s (List.map encItem b)), (12, (a.length : Int)), (13, (k1 : Int)), (54, .v (.bool (((!x22) || (!x24)) || (!(y2.late == x20.late)))))], [], 56, []⟩ : St))) ?_
 refine AW.cond (b := (((!x22) || (!x24)) || (!(y2.late == x20.late)))) rfl (fun hc => ?_) (fun hc => ?_)
 replace hH := condT hc hH
 refine AW.seq (AW.region ?_)
 refine AO.pu T ?_
 refine AO.nil (AW.ret ?_)
 have hR := someE hH; subst hR
 exact retQ.i [] rfl (.c (.c .v))
 replace hH := condF hc hH
 refine AW.skip ?_
 refine AW.region ?_
 refine AO.val rfl rfl (ar_ok rfl rfl rfl rfl (inI_succ hlt6 hb5)) ?_
 refine AO.pu T ?_
 refine AO.nil ?_
 refine ⟨k1 + 1, ⟨Nat.succ_le_of_lt hlt6, (by rw [drop_succ_of hd4]; exact hH)⟩, (by have := hlt6; dsimp only; omega), ?_⟩
 exact Le.ct 0 0

def laws_qChanges_l1 (b : List Change) : List Change → Nat → Option Bool
  | [], k1 =>
    some true
  | y2 :: ys3, k1 =>
    (getI b (k1 : Int)).bind fun x12 =>
    cond (!decide (y2 = x12))
      (some false)
      (laws_qChanges_l1 b ys3 (k1 + 1))
def laws_qChanges_p (a : List Change) (b : List Change) : Option Bool :=
  cond ((a.length : Int) != (b.length : Int))
    (some false)
    (laws_qChanges_l1 b a 0)
theorem laws_qChanges_ok (a : List Change) (b : List Change) (r : Bool) (hH : laws_qChanges_p a b = some r) : SpecR Tryz.prog 18 [.s (List.map encChange a), .s (List.map encChange b)] (.v (.bool r)) := by
 refine fn_ok T Tryz.func18 rfl (by decide) rfl ?_
 refine AW.seq (AW.region ?_)
 refine AO.pu T ?_
 refine AO.nil ?_
 iterate 2 refine AW.seq ?_
 refine AW.region ?_
 refine AO.pu T ?_
 refine AO.val rfl rfl (len_map_ok T rfl rfl rfl) ?_
 refine AO.pu T ?_
 refine AO.val rfl rfl (len_map_ok T rfl rfl rfl) ?_
 refine AO.pu T ?_
 refine AO.nil ?_
 refine AW.cond (b := ((a.length : Int) != (b.length : Int))) rfl (fun hc => ?_) (fun hc => ?_)
 replace hH := condT hc hH
 refine AW.seq (AW.region ?_)
 refine AO.pu T ?_
 refine AO.nil (AW.ret ?_)
 have hR := someE hH; subst hR
 exact retQ.i [] rfl (.c (.c .v))
 replace hH := condF hc hH
 refine AW.skip ?_
 iterate 2 refine AW.seq ?_
 refine AW.region ?_
 refine AO.pu T ?_
 refine AO.val rfl rfl (len_map_ok T rfl rfl rfl) ?_
 refine AO.pu T ?_
 refine AO.nil ?_
 refine AW.block ?_
 refine AW.loopS (fun s : Nat => (⟨[(0, .s (List.map encChange a)), (1, .s (List.map encChange b)), (12, (a.length : Int)), (13, (s : Int))], [], 26, []⟩ : St)) (fun s => s ≤ a.length ∧ laws_qChanges_l1 b (a.drop s) s = some r) (fun s => a.length - s) 0 ⟨Nat.zero_le _, hH⟩ ?_ ?_
 exact Le.ct 0 0
 rintro k1 ⟨hk, hH⟩
 replace hH : laws_qChanges_l1 b (a.drop k1) k1 = some r := hH
 try dsimp only
 refine AW.boundM (t := 0) (l := a) rfl (fun hb5 => ?_)
 rcases hd4 : a.drop k1 with _ | ⟨y2, ys3⟩
 rw [hd4, laws_qChanges_l1] at hH
 have hlt6 := drop_ge hd4
 refine AW.seq (AW.region ?_)
 refine AO.pu T ?_
 refine AO.nil (AW.seq ?_)
 refine AW.condF' (b := decide ((k1 : Int) < (a.length : Int))) rfl (rngF hlt6) ?_
 refine AW.exit ?_
 refine AW.seq (AW.region ?_)
 refine AO.pu T ?_
 refine AO.nil (AW.ret ?_)
 have hR := someE hH; subst hR
 exact retQ.i [] rfl (.c (.c .v))
 rw [hd4, laws_qChanges_l1] at hH
 have hlt6 := drop_lt hd4
 refine AW.seq (AW.region ?_)
 refine AO.pu T ?_
 refine AO.nil (AW.seq ?_)
 refine AW.condT' (b := decide ((k1 : Int) < (a.length : Int))) rfl (rngT hlt6) ?_
 refine AW.skip ?_
 refine AW.seq ?_
 refine AW.block ?_
 refine AW.seq (AW.region ?_)
 iterate 2 refine AO.pu T ?_
 refine AO.nil (AW.seq ?_)
 obtain ⟨x12, hx13, hH⟩ := bindE hH
 refine AW.drawn 8 1 [] mix (by kernel_rfl) rfl ?_
 iterate 2 refine AD.pure T rfl rfl rfl ?_
 refine AD.val rfl rfl (ix_map_ok T rfl rfl rfl rfl rfl (getI_drop hd4) rfl) ?_
 refine AD.pure T (d := .g [y2.tick, y2.caller, y2.item, y2.name, y2.mark, .v (.bool y2.review)]) rfl rfl rfl ?_
 iterate 2 refine AD.pure T rfl rfl rfl ?_
 refine AD.val rfl rfl (ix_map_ok T rfl rfl rfl rfl rfl (hx13) rfl) ?_
 refine AD.pure T (d := .g [x12.tick, x12.caller, x12.item, x12.name, x12.mark, .v (.bool x12.review)]) rfl rfl rfl ?_
 refine AD.nil ?_
 refine AO.val rfl rfl (neqg_ok rfl ekTChange rfl rfl rfl rfl (eqVChange _ _)) ?_
 refine AO.nil ?_
 refine AW.cond (b := (!decide (y2 = x12))) rfl (fun hc => ?_) (fun hc => ?_)
 replace hH := condT hc hH
 refine AW.seq (AW.region ?_)
 refine AO.pu T ?_
 refine AO.nil (AW.ret ?_)
 have hR := someE hH; subst hR
 exact retQ.i [] rfl (.c (.c .v))
 replace hH := condF hc hH
 refine AW.skip ?_
 refine AW.region ?_
 refine AO.val rfl rfl (ar_ok rfl rfl rfl rfl (inI_succ hlt6 hb5)) ?_
 refine AO.pu T ?_
 refine AO.nil ?_
 refine ⟨k1 + 1, ⟨Nat.succ_le_of_lt hlt6, (by rw [drop_succ_of hd4]; exact hH)⟩, (by have := hlt6; dsimp only; omega), ?_⟩
 exact Le.ct 0 0

def slices_Equal_string_l1 (s2A : List ByteArray) : List ByteArray → Nat → Option Bool
  | [], k1 =>
    some true
  | y2 :: ys3, k1 =>
    (getI s2A (k1 : Int)).bind fun x12 =>
    cond (!decide (y2 = x12))
      (some false)
      (slices_Equal_string_l1 s2A ys3 (k1 + 1))
def slices_Equal_string_p (s1A : List ByteArray) (s2A : List ByteArray) : Option Bool :=
  cond ((s1A.length : Int) != (s2A.length : Int))
    (some false)
    (slices_Equal_string_l1 s2A s1A 0)
theorem slices_Equal_string_ok (s1A : List ByteArray) (s2A : List ByteArray) (r : Bool) (hH : slices_Equal_string_p s1A s2A = some r) : SpecR Tryz.prog 68 [.s (List.map encStr s1A), .s (List.map encStr s2A)] (.v (.bool r)) := by
 refine fn_ok T Tryz.func68 rfl (by decide) rfl ?_
 refine AW.seq (AW.region ?_)
 refine AO.pu T ?_
 refine AO.nil ?_
 iterate 2 refine AW.seq ?_
 refine AW.region ?_
 refine AO.pu T ?_
 refine AO.val rfl rfl (len_map_ok T rfl rfl rfl) ?_
 refine AO.pu T ?_
 refine AO.val rfl rfl (len_map_ok T rfl rfl rfl) ?_
 refine AO.pu T ?_
 refine AO.nil ?_
 refine AW.cond (b := ((s1A.length : Int) != (s2A.length : Int))) rfl (fun hc => ?_) (fun hc => ?_)
 replace hH := condT hc hH
 refine AW.seq (AW.region ?_)
 refine AO.pu T ?_
 refine AO.nil (AW.ret ?_)
 have hR := someE hH; subst hR
 exact retQ.i [] rfl (.c (.c .v))
 replace hH := condF hc hH
 refine AW.skip ?_
 iterate 2 refine AW.seq ?_
 refine AW.region ?_
 refine AO.pu T ?_
 refine AO.val rfl rfl (len_map_ok T rfl rfl rfl) ?_
 refine AO.pu T ?_
 refine AO.nil ?_
 refine AW.block ?_
 refine AW.loopS (fun s : Nat => (⟨[(0, .s (List.map encStr s1A)), (1, .s (List.map encStr s2A)), (12, (s1A.length : Int)), (13, (s : Int))], [], 26, []⟩ : St)) (fun s => s ≤ s1A.length ∧ slices_Equal_string_l1 s2A (s1A.drop s) s = some r) (fun s => s1A.length - s) 0 ⟨Nat.zero_le _, hH⟩ ?_ ?_
 exact Le.ct 0 0
 rintro k1 ⟨hk, hH⟩
 replace hH : slices_Equal_string_l1 s2A (s1A.drop k1) k1 = some r := hH
 try dsimp only
 refine AW.boundM (t := 0) (l := s1A) rfl (fun hb5 => ?_)
 rcases hd4 : s1A.drop k1 with _ | ⟨y2, ys3⟩
 rw [hd4, slices_Equal_string_l1] at hH
 have hlt6 := drop_ge hd4
 refine AW.seq (AW.region ?_)
 refine AO.pu T ?_
 refine AO.nil (AW.seq ?_)
 refine AW.condF' (b := decide ((k1 : Int) < (s1A.length : Int))) rfl (rngF hlt6) ?_
 refine AW.exit ?_
 refine AW.seq (AW.region ?_)
 refine AO.pu T ?_
 refine AO.nil (AW.ret ?_)
 have hR := someE hH; subst hR
 exact retQ.i [] rfl (.c (.c .v))
 rw [hd4, slices_Equal_string_l1] at hH
 have hlt6 := drop_lt hd4
 refine AW.seq (AW.region ?_)
 refine AO.pu T ?_
 refine AO.nil (AW.seq ?_)
 refine AW.condT' (b := decide ((k1 : Int) < (s1A.length : Int))) rfl (rngT hlt6) ?_
 refine AW.skip ?_
 refine AW.seq ?_
 refine AW.block ?_
 refine AW.seq (AW.region ?_)
 iterate 2 refine AO.pu T ?_
 refine AO.nil (AW.seq ?_)
 obtain ⟨x12, hx13, hH⟩ := bindE hH
 refine AW.drawn 8 1 [] mix (by kernel_rfl) rfl ?_
 iterate 2 refine AD.pure T rfl rfl rfl ?_
 refine AD.val rfl rfl (ix_map_ok T rfl rfl rfl rfl rfl (getI_drop hd4) rfl) ?_
 iterate 3 refine AD.pure T rfl rfl rfl ?_
 refine AD.val rfl rfl (ix_map_ok T rfl rfl rfl rfl rfl (hx13) rfl) ?_
 refine AD.pure T rfl rfl rfl ?_
 refine AD.nil ?_
 refine AO.pu T ?_
 refine AO.nil ?_
 refine AW.cond (b := (!decide (y2 = x12))) rfl (fun hc => ?_) (fun hc => ?_)
 replace hH := condT hc hH
 refine AW.seq (AW.region ?_)
 refine AO.pu T ?_
 refine AO.nil (AW.ret ?_)
 have hR := someE hH; subst hR
 exact retQ.i [] rfl (.c (.c .v))
 replace hH := condF hc hH
 refine AW.skip ?_
 refine AW.region ?_
 refine AO.val rfl rfl (ar_ok rfl rfl rfl rfl (inI_succ hlt6 hb5)) ?_
 refine AO.pu T ?_
 refine AO.nil ?_
 refine ⟨k1 + 1, ⟨Nat.succ_le_of_lt hlt6, (by rw [drop_succ_of hd4]; exact hH)⟩, (by have := hlt6; dsimp only; omega), ?_⟩
 exact Le.ct 0 0

def impl_sameNames_l1 (b : List Item) : List Item → Nat → Option Bool
  | [], k1 =>
    some true
  | y2 :: ys3, k1 =>
    (getI b (k1 : Int)).bind fun x16 =>
    (slices_Equal_string_p y2.names x16.names).bind fun x18 =>
    cond (!x18)
      (some false)
      (impl_sameNames_l1 b ys3 (k1 + 1))
def impl_sameNames_p (a : List Item) (b : List Item) : Option Bool :=
  cond ((a.length : Int) != (b.length : Int))
    (some false)
    (impl_sameNames_l1 b a 0)
theorem impl_sameNames_ok (a : List Item) (b : List Item) (r : Bool) (hH : impl_sameNames_p a b = some r) : SpecR Tryz.prog 50 [.s (List.map encItem a), .s (List.map encItem b)] (.v (.bool r)) := by
 refine fn_ok T Tryz.func50 rfl (by decide) rfl ?_
 refine AW.seq (AW.region ?_)
 refine AO.pu T ?_
 refine AO.nil ?_
 iterate 2 refine AW.seq ?_
 refine AW.region ?_
 refine AO.pu T ?_
 refine AO.val rfl rfl (len_map_ok T rfl rfl rfl) ?_
 refine AO.pu T ?_
 refine AO.val rfl rfl (len_map_ok T rfl rfl rfl) ?_
 refine AO.pu T ?_
 refine AO.nil ?_
 refine AW.cond (b := ((a.length : Int) != (b.length : Int))) rfl (fun hc => ?_) (fun hc => ?_)
 replace hH := condT hc hH
 refine AW.seq (AW.region ?_)
 refine AO.pu T ?_
 refine AO.nil (AW.ret ?_)
 have hR := someE hH; subst hR
 exact retQ.i [] rfl (.c (.c .v))
 replace hH := condF hc hH
 refine AW.skip ?_
 iterate 2 refine AW.seq ?_
 refine AW.region ?_
 refine AO.pu T ?_
 refine AO.val rfl rfl (len_map_ok T rfl rfl rfl) ?_
 refine AO.pu T ?_
 refine AO.nil ?_
 refine AW.block ?_
 refine AW.loopS (fun s : Nat => (⟨[(0, .s (List.map encItem a)), (1, .s (List.map encItem b)), (12, (a.length : Int)), (13, (s : Int))], [], 29, []⟩ : St)) (fun s => s ≤ a.length ∧ impl_sameNames_l1 b (a.drop s) s = some r) (fun s => a.length - s) 0 ⟨Nat.zero_le _, hH⟩ ?_ ?_
 exact Le.ct 0 0
 rintro k1 ⟨hk, hH⟩
 replace hH : impl_sameNames_l1 b (a.drop k1) k1 = some r := hH
 try dsimp only
 refine AW.boundM (t := 0) (l := a) rfl (fun hb5 => ?_)
 rcases hd4 : a.drop k1 with _ | ⟨y2, ys3⟩
 rw [hd4, impl_sameNames_l1] at hH
 have hlt6 := drop_ge hd4
 refine AW.seq (AW.region ?_)
 refine AO.pu T ?_
 refine AO.nil (AW.seq ?_)
 refine AW.condF' (b := decide ((k1 : Int) < (a.length : Int))) rfl (rngF hlt6) ?_
 refine AW.exit ?_
 refine AW.seq (AW.region ?_)
 refine AO.pu T ?_
 refine AO.nil (AW.ret ?_)
 have hR := someE hH; subst hR
 exact retQ.i [] rfl (.c (.c .v))
 rw [hd4, impl_sameNames_l1] at hH
 have hlt6 := drop_lt hd4
 refine AW.seq (AW.region ?_)
 refine AO.pu T ?_
 refine AO.nil (AW.seq ?_)
 refine AW.condT' (b := decide ((k1 : Int) < (a.length : Int))) rfl (rngT hlt6) ?_
 refine AW.skip ?_
 refine AW.seq ?_
 refine AW.block ?_
 refine AW.seq (AW.region ?_)
 iterate 2 refine AO.pu T ?_
 refine AO.nil (AW.seq ?_)
 obtain ⟨x16, hx17, hH⟩ := bindE hH
 obtain ⟨x18, hx19, hH⟩ := bindE hH
 refine AW.drawn 10 1 [] mix (by kernel_rfl) rfl ?_
 iterate 2 refine AD.pure T rfl rfl rfl ?_
 refine AD.val rfl rfl (ix_map_ok T rfl rfl rfl rfl rfl (getI_drop hd4) rfl) ?_
 iterate 4 refine AD.pure T rfl rfl rfl ?_
 refine AD.val rfl rfl (ix_map_ok T rfl rfl rfl rfl rfl (hx17) rfl) ?_
 iterate 2 refine AD.pure T rfl rfl rfl ?_
 refine AD.nil ?_
 refine AO.val rfl rfl (callV_ok rfl rfl rfl rfl (slices_Equal_string_ok _ _ _ (hx19)) rfl) ?_
 refine AO.pu T ?_
 refine AO.nil ?_
 refine AW.cond (b := (!x18)) rfl (fun hc => ?_) (fun hc => ?_)
 replace hH := condT hc hH
 refine AW.seq (AW.region ?_)
 refine AO.pu T ?_
 refine AO.nil (AW.ret ?_)
 have hR := someE hH; subst hR
 exact retQ.i [] rfl (.c (.c .v))
 replace hH := condF hc hH
 refine AW.skip ?_
 refine AW.region ?_
 refine AO.val rfl rfl (ar_ok rfl rfl rfl rfl (inI_succ hlt6 hb5)) ?_
 refine AO.pu T ?_
 refine AO.nil ?_
 refine ⟨k1 + 1, ⟨Nat.succ_le_of_lt hlt6, (by rw [drop_succ_of hd4]; exact hH)⟩, (by have := hlt6; dsimp only; omega), ?_⟩
 exact Le.ct 0 0

def impl_SameCalls_p (fuel : Nat) (a : List Item) (b : List Item) : Option (Bool × Bool) :=
  (impl_AreItems_p fuel a).bind fun x1 =>
  (opt (!(!x1)) default (impl_AreItems_p fuel b)).bind fun x3 =>
  cond ((!x1) || (!x3))
    (some (false, false))
    ((impl_sameNames_p a b).bind fun x5 =>
    some (x5, true))
theorem impl_SameCalls_ok (fuel : Nat) (a : List Item) (b : List Item) (r : (Bool × Bool)) (hH : impl_SameCalls_p fuel a b = some r) : SpecR Tryz.prog 19 [.s (List.map encItem a), .s (List.map encItem b)] (.t [.v (.bool r.1), .v (.bool r.2)]) := by
 refine fn_ok T Tryz.func19 rfl (by decide) rfl ?_
 refine AW.seq (AW.region ?_)
 iterate 2 refine AO.pu T ?_
 refine AO.nil ?_
 iterate 2 refine AW.seq ?_
 obtain ⟨x1, hx2, hH⟩ := bindE hH
 obtain ⟨x3, hx4, hH⟩ := bindE hH
 refine AW.region ?_
 refine AO.pu T ?_
 refine AO.val rfl rfl (callV_ok rfl rfl rfl rfl (impl_AreItems_ok fuel _ _ (hx2)) rfl) ?_
 iterate 2 refine AO.pu T ?_
 refine AO.pureG T [] rfl trivial rfl rfl ?_
 refine AO.guard [10] rfl ⟨fun h => h, trivial⟩ (fun hg => callV_ok rfl rfl rfl rfl (impl_AreItems_ok fuel _ _ (optT hx4 hg)) rfl) rfl ?_
 refine AO.pureG T [11] rfl ⟨fun h => h, trivial⟩ rfl rfl ?_
 refine AO.val rfl rfl (pick_or rfl rfl rfl rfl) ?_
 refine AO.nil ?_
 refine AW.cond (b := ((!x1) || (!x3))) rfl (fun hc => ?_) (fun hc => ?_)
 replace hH := condT hc hH
 refine AW.seq (AW.region ?_)
 iterate 2 refine AO.pu T ?_
 refine AO.nil (AW.ret ?_)
 have hR := someE hH; subst hR
 exact retQ.i [] rfl (.t (expLG_cons (.c .v) (expLG_cons (.c .v) (expLG_nil))))
 replace hH := condF hc hH
 refine AW.skip ?_
 refine AW.seq ?_
 obtain ⟨x5, hx6, hH⟩ := bindE hH
 refine AW.region ?_
 iterate 2 refine AO.pu T ?_
 refine AO.val rfl rfl (callV_ok rfl rfl rfl rfl (impl_sameNames_ok _ _ _ (hx6)) rfl) ?_
 iterate 2 refine AO.pu T ?_
 refine AO.nil (AW.ret ?_)
 have hR := someE hH; subst hR
 exact retQ.i [] rfl (.t (expLG_cons (.c .v) (expLG_cons (.c .v) (expLG_nil))))

end Go.Proofs.YtjbkbiofklgblaaGreatDoor

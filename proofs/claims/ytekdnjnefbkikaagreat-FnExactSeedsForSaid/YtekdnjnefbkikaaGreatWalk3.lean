/- The walk, part 3: what each function reached by the law FnExactSeedsFor computes. No condition. -/
import Derived.Test.YtekdnjnefbkikaaGreatWalk2
set_option maxRecDepth 4000
set_option maxHeartbeats 1000000
set_option linter.unusedVariables false
set_option linter.unusedSimpArgs false
set_option linter.unusedSectionVars false

namespace Go.Proofs.YtekdnjnefbkikaaGreat
open Go.AM

def slices_symMergeCmpFunc_Rank_l1 (data : List Rank) (a : Int) (cmp : Rank → Rank → Option Int) : Nat → Int → Int → Option Int
  | 0, _, _ => none
  | k27 + 1, v42, v43 =>
    cond (decide (v42 < v43))
      ((getI data (IntKind.wrap .i64 ((IntKind.wrap .u64 (w64 (v42 + v43))).fdiv (2 ^ 1)))).bind fun x45 =>
      (getI data a).bind fun x47 =>
      (cmp x45 x47).bind fun x49 =>
      cond (decide (x49 < 0))
        (slices_symMergeCmpFunc_Rank_l1 data a cmp k27 (w64 ((IntKind.wrap .i64 ((IntKind.wrap .u64 (w64 (v42 + v43))).fdiv (2 ^ 1))) + 1)) v43)
        (slices_symMergeCmpFunc_Rank_l1 data a cmp k27 v42 (IntKind.wrap .i64 ((IntKind.wrap .u64 (w64 (v42 + v43))).fdiv (2 ^ 1)))))
      (some v42)
def slices_symMergeCmpFunc_Rank_l2 (v24 : Int) : Nat → List Rank → Int → Option ((List Rank))
  | 0, _, _ => none
  | k51 + 1, v66, v67 =>
    cond (decide (v67 < (w64 (v24 - 1))))
      ((getI v66 (w64 (v67 + 1))).bind fun x69 =>
      (getI v66 v67).bind fun x71 =>
      (getI (v66.set v67.toNat x69) (w64 (v67 + 1))).bind fun x73 =>
      slices_symMergeCmpFunc_Rank_l2 v24 k51 ((v66.set v67.toNat x69).set ((w64 (v67 + 1)).toNat) x71) (w64 (v67 + 1)))
      (some v66)
def slices_symMergeCmpFunc_Rank_l3 (data : List Rank) (m : Int) (cmp : Rank → Rank → Option Int) : Nat → Int → Int → Option Int
  | 0, _, _ => none
  | k101 + 1, v116, v117 =>
    cond (decide (v116 < v117))
      ((getI data m).bind fun x119 =>
      (getI data (IntKind.wrap .i64 ((IntKind.wrap .u64 (w64 (v116 + v117))).fdiv (2 ^ 1)))).bind fun x121 =>
      (cmp x119 x121).bind fun x123 =>
      cond (!(decide (x123 < 0)))
        (slices_symMergeCmpFunc_Rank_l3 data m cmp k101 (w64 ((IntKind.wrap .i64 ((IntKind.wrap .u64 (w64 (v116 + v117))).fdiv (2 ^ 1))) + 1)) v117)
        (slices_symMergeCmpFunc_Rank_l3 data m cmp k101 v116 (IntKind.wrap .i64 ((IntKind.wrap .u64 (w64 (v116 + v117))).fdiv (2 ^ 1)))))
      (some v116)
def slices_symMergeCmpFunc_Rank_l4 (v98 : Int) : Nat → List Rank → Int → Option ((List Rank))
  | 0, _, _ => none
  | k125 + 1, v140, v141 =>
    cond (decide (v141 > v98))
      ((getI v140 (w64 (v141 - 1))).bind fun x143 =>
      (getI v140 v141).bind fun x145 =>
      (getI (v140.set v141.toNat x143) (w64 (v141 - 1))).bind fun x147 =>
      slices_symMergeCmpFunc_Rank_l4 v98 k125 ((v140.set v141.toNat x143).set ((w64 (v141 - 1)).toNat) x145) (w64 (v141 - 1)))
      (some v140)
def slices_symMergeCmpFunc_Rank_l5 (data : List Rank) (a : Int) (m : Int) (b : Int) (cmp : Rank → Rank → Option Int) : Nat → Int → Int → Option Int
  | 0, _, _ => none
  | k175 + 1, v190, v191 =>
    cond (decide (v190 < v191))
      ((getI data (w64 ((w64 ((w64 ((IntKind.wrap .i64 ((IntKind.wrap .u64 (w64 (a + b))).fdiv (2 ^ 1))) + m)) - 1)) - (IntKind.wrap .i64 ((IntKind.wrap .u64 (w64 (v190 + v191))).fdiv (2 ^ 1)))))).bind fun x193 =>
      (getI data (IntKind.wrap .i64 ((IntKind.wrap .u64 (w64 (v190 + v191))).fdiv (2 ^ 1)))).bind fun x195 =>
      (cmp x193 x195).bind fun x197 =>
      cond (!(decide (x197 < 0)))
        (slices_symMergeCmpFunc_Rank_l5 data a m b cmp k175 (w64 ((IntKind.wrap .i64 ((IntKind.wrap .u64 (w64 (v190 + v191))).fdiv (2 ^ 1))) + 1)) v191)
        (slices_symMergeCmpFunc_Rank_l5 data a m b cmp k175 v190 (IntKind.wrap .i64 ((IntKind.wrap .u64 (w64 (v190 + v191))).fdiv (2 ^ 1)))))
      (some v190)
def slices_symMergeCmpFunc_Rank_l6 (data : List Rank) (a : Int) (m : Int) (b : Int) (cmp : Rank → Rank → Option Int) : Nat → Int → Int → Option Int
  | 0, _, _ => none
  | k239 + 1, v254, v255 =>
    cond (decide (v254 < v255))
      ((getI data (w64 ((w64 ((w64 ((IntKind.wrap .i64 ((IntKind.wrap .u64 (w64 (a + b))).fdiv (2 ^ 1))) + m)) - 1)) - (IntKind.wrap .i64 ((IntKind.wrap .u64 (w64 (v254 + v255))).fdiv (2 ^ 1)))))).bind fun x257 =>
      (getI data (IntKind.wrap .i64 ((IntKind.wrap .u64 (w64 (v254 + v255))).fdiv (2 ^ 1)))).bind fun x259 =>
      (cmp x257 x259).bind fun x261 =>
      cond (!(decide (x261 < 0)))
        (slices_symMergeCmpFunc_Rank_l6 data a m b cmp k239 (w64 ((IntKind.wrap .i64 ((IntKind.wrap .u64 (w64 (v254 + v255))).fdiv (2 ^ 1))) + 1)) v255)
        (slices_symMergeCmpFunc_Rank_l6 data a m b cmp k239 v254 (IntKind.wrap .i64 ((IntKind.wrap .u64 (w64 (v254 + v255))).fdiv (2 ^ 1)))))
      (some v254)
def slices_symMergeCmpFunc_Rank_p (fuel : Nat) : Nat → (List Rank) → Int → Int → Int → (Rank → Rank → Option Int) → Option (List Rank)
  | 0, _, _, _, _, _ => none
  | rf + 1, data, a, m, b, cmp =>
    cond ((w64 (m - a)) == 1)
      ((slices_symMergeCmpFunc_Rank_l1 data a cmp fuel m b).bind fun v24 =>
      slices_symMergeCmpFunc_Rank_l2 v24 fuel data a)
      (cond ((w64 (b - m)) == 1)
        ((slices_symMergeCmpFunc_Rank_l3 data m cmp fuel a m).bind fun v98 =>
        slices_symMergeCmpFunc_Rank_l4 v98 fuel data m)
        (cond (decide (m > (IntKind.wrap .i64 ((IntKind.wrap .u64 (w64 (a + b))).fdiv (2 ^ 1)))))
          ((slices_symMergeCmpFunc_Rank_l5 data a m b cmp fuel (w64 ((w64 ((IntKind.wrap .i64 ((IntKind.wrap .u64 (w64 (a + b))).fdiv (2 ^ 1))) + m)) - b)) (IntKind.wrap .i64 ((IntKind.wrap .u64 (w64 (a + b))).fdiv (2 ^ 1)))).bind fun v172 =>
          cond (decide (v172 < m) && decide (m < (w64 ((w64 ((IntKind.wrap .i64 ((IntKind.wrap .u64 (w64 (a + b))).fdiv (2 ^ 1))) + m)) - v172))))
            ((slices_rotateCmpFunc_Rank_p fuel data v172 m (w64 ((w64 ((IntKind.wrap .i64 ((IntKind.wrap .u64 (w64 (a + b))).fdiv (2 ^ 1))) + m)) - v172)) cmp).bind fun x199 =>
            cond (decide (a < v172) && decide (v172 < (IntKind.wrap .i64 ((IntKind.wrap .u64 (w64 (a + b))).fdiv (2 ^ 1)))))
              ((slices_symMergeCmpFunc_Rank_p fuel rf x199 a v172 (IntKind.wrap .i64 ((IntKind.wrap .u64 (w64 (a + b))).fdiv (2 ^ 1))) cmp).bind fun x201 =>
              cond (decide ((IntKind.wrap .i64 ((IntKind.wrap .u64 (w64 (a + b))).fdiv (2 ^ 1))) < (w64 ((w64 ((IntKind.wrap .i64 ((IntKind.wrap .u64 (w64 (a + b))).fdiv (2 ^ 1))) + m)) - v172))) && decide ((w64 ((w64 ((IntKind.wrap .i64 ((IntKind.wrap .u64 (w64 (a + b))).fdiv (2 ^ 1))) + m)) - v172)) < b))
                ((slices_symMergeCmpFunc_Rank_p fuel rf x201 (IntKind.wrap .i64 ((IntKind.wrap .u64 (w64 (a + b))).fdiv (2 ^ 1))) (w64 ((w64 ((IntKind.wrap .i64 ((IntKind.wrap .u64 (w64 (a + b))).fdiv (2 ^ 1))) + m)) - v172)) b cmp).bind fun x203 =>
                some x203)
                (some x201))
              (cond (decide ((IntKind.wrap .i64 ((IntKind.wrap .u64 (w64 (a + b))).fdiv (2 ^ 1))) < (w64 ((w64 ((IntKind.wrap .i64 ((IntKind.wrap .u64 (w64 (a + b))).fdiv (2 ^ 1))) + m)) - v172))) && decide ((w64 ((w64 ((IntKind.wrap .i64 ((IntKind.wrap .u64 (w64 (a + b))).fdiv (2 ^ 1))) + m)) - v172)) < b))
                ((slices_symMergeCmpFunc_Rank_p fuel rf x199 (IntKind.wrap .i64 ((IntKind.wrap .u64 (w64 (a + b))).fdiv (2 ^ 1))) (w64 ((w64 ((IntKind.wrap .i64 ((IntKind.wrap .u64 (w64 (a + b))).fdiv (2 ^ 1))) + m)) - v172)) b cmp).bind fun x205 =>
                some x205)
                (some x199)))
            (cond (decide (a < v172) && decide (v172 < (IntKind.wrap .i64 ((IntKind.wrap .u64 (w64 (a + b))).fdiv (2 ^ 1)))))
              ((slices_symMergeCmpFunc_Rank_p fuel rf data a v172 (IntKind.wrap .i64 ((IntKind.wrap .u64 (w64 (a + b))).fdiv (2 ^ 1))) cmp).bind fun x207 =>
              cond (decide ((IntKind.wrap .i64 ((IntKind.wrap .u64 (w64 (a + b))).fdiv (2 ^ 1))) < (w64 ((w64 ((IntKind.wrap .i64 ((IntKind.wrap .u64 (w64 (a + b))).fdiv (2 ^ 1))) + m)) - v172))) && decide ((w64 ((w64 ((IntKind.wrap .i64 ((IntKind.wrap .u64 (w64 (a + b))).fdiv (2 ^ 1))) + m)) - v172)) < b))
                ((slices_symMergeCmpFunc_Rank_p fuel rf x207 (IntKind.wrap .i64 ((IntKind.wrap .u64 (w64 (a + b))).fdiv (2 ^ 1))) (w64 ((w64 ((IntKind.wrap .i64 ((IntKind.wrap .u64 (w64 (a + b))).fdiv (2 ^ 1))) + m)) - v172)) b cmp).bind fun x209 =>
                some x209)
                (some x207))
              (cond (decide ((IntKind.wrap .i64 ((IntKind.wrap .u64 (w64 (a + b))).fdiv (2 ^ 1))) < (w64 ((w64 ((IntKind.wrap .i64 ((IntKind.wrap .u64 (w64 (a + b))).fdiv (2 ^ 1))) + m)) - v172))) && decide ((w64 ((w64 ((IntKind.wrap .i64 ((IntKind.wrap .u64 (w64 (a + b))).fdiv (2 ^ 1))) + m)) - v172)) < b))
                ((slices_symMergeCmpFunc_Rank_p fuel rf data (IntKind.wrap .i64 ((IntKind.wrap .u64 (w64 (a + b))).fdiv (2 ^ 1))) (w64 ((w64 ((IntKind.wrap .i64 ((IntKind.wrap .u64 (w64 (a + b))).fdiv (2 ^ 1))) + m)) - v172)) b cmp).bind fun x211 =>
                some x211)
                (some data))))
          ((slices_symMergeCmpFunc_Rank_l6 data a m b cmp fuel a m).bind fun v236 =>
          cond (decide (v236 < m) && decide (m < (w64 ((w64 ((IntKind.wrap .i64 ((IntKind.wrap .u64 (w64 (a + b))).fdiv (2 ^ 1))) + m)) - v236))))
            ((slices_rotateCmpFunc_Rank_p fuel data v236 m (w64 ((w64 ((IntKind.wrap .i64 ((IntKind.wrap .u64 (w64 (a + b))).fdiv (2 ^ 1))) + m)) - v236)) cmp).bind fun x263 =>
            cond (decide (a < v236) && decide (v236 < (IntKind.wrap .i64 ((IntKind.wrap .u64 (w64 (a + b))).fdiv (2 ^ 1)))))
              ((slices_symMergeCmpFunc_Rank_p fuel rf x263 a v236 (IntKind.wrap .i64 ((IntKind.wrap .u64 (w64 (a + b))).fdiv (2 ^ 1))) cmp).bind fun x265 =>
              cond (decide ((IntKind.wrap .i64 ((IntKind.wrap .u64 (w64 (a + b))).fdiv (2 ^ 1))) < (w64 ((w64 ((IntKind.wrap .i64 ((IntKind.wrap .u64 (w64 (a + b))).fdiv (2 ^ 1))) + m)) - v236))) && decide ((w64 ((w64 ((IntKind.wrap .i64 ((IntKind.wrap .u64 (w64 (a + b))).fdiv (2 ^ 1))) + m)) - v236)) < b))
                ((slices_symMergeCmpFunc_Rank_p fuel rf x265 (IntKind.wrap .i64 ((IntKind.wrap .u64 (w64 (a + b))).fdiv (2 ^ 1))) (w64 ((w64 ((IntKind.wrap .i64 ((IntKind.wrap .u64 (w64 (a + b))).fdiv (2 ^ 1))) + m)) - v236)) b cmp).bind fun x267 =>
                some x267)
                (some x265))
              (cond (decide ((IntKind.wrap .i64 ((IntKind.wrap .u64 (w64 (a + b))).fdiv (2 ^ 1))) < (w64 ((w64 ((IntKind.wrap .i64 ((IntKind.wrap .u64 (w64 (a + b))).fdiv (2 ^ 1))) + m)) - v236))) && decide ((w64 ((w64 ((IntKind.wrap .i64 ((IntKind.wrap .u64 (w64 (a + b))).fdiv (2 ^ 1))) + m)) - v236)) < b))
                ((slices_symMergeCmpFunc_Rank_p fuel rf x263 (IntKind.wrap .i64 ((IntKind.wrap .u64 (w64 (a + b))).fdiv (2 ^ 1))) (w64 ((w64 ((IntKind.wrap .i64 ((IntKind.wrap .u64 (w64 (a + b))).fdiv (2 ^ 1))) + m)) - v236)) b cmp).bind fun x269 =>
                some x269)
                (some x263)))
            (cond (decide (a < v236) && decide (v236 < (IntKind.wrap .i64 ((IntKind.wrap .u64 (w64 (a + b))).fdiv (2 ^ 1)))))
              ((slices_symMergeCmpFunc_Rank_p fuel rf data a v236 (IntKind.wrap .i64 ((IntKind.wrap .u64 (w64 (a + b))).fdiv (2 ^ 1))) cmp).bind fun x271 =>
              cond (decide ((IntKind.wrap .i64 ((IntKind.wrap .u64 (w64 (a + b))).fdiv (2 ^ 1))) < (w64 ((w64 ((IntKind.wrap .i64 ((IntKind.wrap .u64 (w64 (a + b))).fdiv (2 ^ 1))) + m)) - v236))) && decide ((w64 ((w64 ((IntKind.wrap .i64 ((IntKind.wrap .u64 (w64 (a + b))).fdiv (2 ^ 1))) + m)) - v236)) < b))
                ((slices_symMergeCmpFunc_Rank_p fuel rf x271 (IntKind.wrap .i64 ((IntKind.wrap .u64 (w64 (a + b))).fdiv (2 ^ 1))) (w64 ((w64 ((IntKind.wrap .i64 ((IntKind.wrap .u64 (w64 (a + b))).fdiv (2 ^ 1))) + m)) - v236)) b cmp).bind fun x273 =>
                some x273)
                (some x271))
              (cond (decide ((IntKind.wrap .i64 ((IntKind.wrap .u64 (w64 (a + b))).fdiv (2 ^ 1))) < (w64 ((w64 ((IntKind.wrap .i64 ((IntKind.wrap .u64 (w64 (a + b))).fdiv (2 ^ 1))) + m)) - v236))) && decide ((w64 ((w64 ((IntKind.wrap .i64 ((IntKind.wrap .u64 (w64 (a + b))).fdiv (2 ^ 1))) + m)) - v236)) < b))
                ((slices_symMergeCmpFunc_Rank_p fuel rf data (IntKind.wrap .i64 ((IntKind.wrap .u64 (w64 (a + b))).fdiv (2 ^ 1))) (w64 ((w64 ((IntKind.wrap .i64 ((IntKind.wrap .u64 (w64 (a + b))).fdiv (2 ^ 1))) + m)) - v236)) b cmp).bind fun x275 =>
                some x275)
                (some data))))))
theorem slices_symMergeCmpFunc_Rank_ok (fuel : Nat) : ∀ (rf : Nat) (data : List Rank) (a : Int) (m : Int) (b : Int) (cmp_f : Nat) (cmp_c : List D) (cmp_k : cmp_c.all D.capOk = true) (cmp : Rank → Rank → Option Int) (cmp_h : ∀ (a0 : Rank) (a1 : Rank) (q : Int), cmp a0 a1 = some q → SpecR Tryz.prog cmp_f ([.g (encRank a0), .g (encRank a1)] ++ cmp_c) (.v (.int .i64 q))) (r : (List Rank)) (hH : slices_symMergeCmpFunc_Rank_p fuel rf data a m b cmp = some r), SpecM Tryz.prog 139 [.w 3 (data.map encRank), .v (.int .i64 a), .v (.int .i64 m), .v (.int .i64 b), .f cmp_f cmp_c] [.w 3 (r.map encRank), .u, .u, .u, .u] (.t []) := by
  intro rf
  induction rf with
  | zero => intro data a m b cmp_f cmp_c cmp_k cmp cmp_h r hH; rw [slices_symMergeCmpFunc_Rank_p] at hH; cases hH
  | succ rf ih =>
  intro data a m b cmp_f cmp_c cmp_k cmp cmp_h r hH
  rw [slices_symMergeCmpFunc_Rank_p] at hH
  have cmp_r := cap_cfree cmp_k
  refine fn_okM T Tryz.func139 rfl (by decide) rfl (by simp [D.gOk, D.cellOk, cmp_k]) ?_
  intro L
  show AW _ _ _ (⟨[(0, .R 1), (1, .v (.int .i64 a)), (2, .v (.int .i64 m)), (3, .v (.int .i64 b)), (4, .f cmp_f cmp_c)], [(1, .row 3 (List.map encRank data))], 220, [(1, L 1)]⟩ : St)
  refine AW.seq ?_
  refine AW.seq ?_
  refine AW.region ?_
  refine AO.pure T rfl rfl rfl ?_
  refine AO.pure T rfl rfl rfl ?_
  refine AO.val rfl rfl (arw_ok rfl rfl rfl rfl) ?_
  refine AO.pure T rfl rfl rfl ?_
  refine AO.nil ?_
  refine AW.cond (b := ((w64 (m - a)) == 1)) rfl (fun hc => ?_) (fun hc => ?_)
  · replace hH := condT hc hH
    refine AW.seq ?_
    refine AW.region ?_
    refine AO.pure T rfl rfl rfl ?_
    refine AO.pure T rfl rfl rfl ?_
    refine AO.nil ?_
    refine AW.seq ?_
    refine AW.region ?_
    refine AO.pure T rfl rfl rfl ?_
    refine AO.pure T rfl rfl rfl ?_
    refine AO.nil ?_
    obtain ⟨o25, hH, hK26⟩ := bindE hH
    refine AW.seqJ (fun s : Int => (⟨[(0, .R 1), (1, .v (.int .i64 a)), (10, .v (.int .i64 s))], [(1, .row 3 (List.map encRank data))], 220, [(1, L 1)]⟩ : St)) (fun s => s = o25) ?_ ?_
    · refine AW.block ?_
      refine AW.loopS (fun s : Nat × Int × Int => (⟨[(0, .R 1), (1, .v (.int .i64 a)), (4, .f cmp_f cmp_c), (10, .v (.int .i64 s.2.1)), (11, .v (.int .i64 s.2.2))], [(1, .row 3 (List.map encRank data))], 220, [(1, L 1)]⟩ : St)) (fun s => slices_symMergeCmpFunc_Rank_l1 data a cmp s.1 s.2.1 s.2.2 = some o25) (fun s => s.1) (fuel, m, b) hH ?_ ?_
      · exact Le.cut 0 0 rfl ⟨⟨_, rfl, rfl⟩, ⟨_, rfl, rfl⟩, ⟨_, rfl, ren_fF cmp_r⟩, ⟨_, rfl, rfl⟩, ⟨_, rfl, rfl⟩, trivial⟩ (by repeat' (first | exact trivial | refine ⟨⟨_, rfl, rfl⟩, ?_⟩)) (andT (allC rfl (allC rfl (allC (known_fF cmp_r) (allC rfl (allC rfl allN))))) rfl) ⟨⟨rfl, rfl⟩, trivial⟩
      · rintro ⟨k27, v42, v43⟩ hH
        replace hH : slices_symMergeCmpFunc_Rank_l1 data a cmp k27 v42 v43 = some o25 := hH
        show AW _ _ _ (⟨[(0, .R 1), (1, .v (.int .i64 a)), (4, .f cmp_f cmp_c), (10, .v (.int .i64 v42)), (11, .v (.int .i64 v43))], [(1, .row 3 (List.map encRank data))], 220, [(1, L 1)]⟩ : St)
        cases k27 with
        | zero => cases (show none = some _ from hH)
        | succ k27 =>
          rw [slices_symMergeCmpFunc_Rank_l1] at hH
          refine AW.seq ?_
          refine AW.seq ?_
          refine AW.region ?_
          refine AO.pure T rfl rfl rfl ?_
          refine AO.pure T rfl rfl rfl ?_
          refine AO.pure T rfl rfl rfl ?_
          refine AO.nil ?_
          refine AW.cond (b := decide (v42 < v43)) rfl (fun hc => ?_) (fun hc => ?_)
          · replace hH := condT hc hH
            refine AW.skip ?_
            refine AW.block ?_
            refine AW.seq ?_
            refine AW.region ?_
            refine AO.pure T rfl rfl rfl ?_
            refine AO.pure T rfl rfl rfl ?_
            refine AO.val rfl rfl (arw_ok rfl rfl rfl rfl) ?_
            refine AO.val rfl rfl (convw_ok T rfl rfl rfl rfl) ?_
            refine AO.val rfl rfl (shr_ok rfl rfl rfl rfl rfl) ?_
            refine AO.val rfl rfl (convw_ok T rfl rfl rfl rfl) ?_
            refine AO.pure T rfl rfl rfl ?_
            refine AO.nil ?_
            refine AW.seq ?_
            obtain ⟨x45, hx46, hH⟩ := bindE hH
            obtain ⟨x47, hx48, hH⟩ := bindE hH
            obtain ⟨x49, hx50, hH⟩ := bindE hH
            refine AW.drawn 9 2 [] mix (by kernel_rfl) rfl ?_
            refine AD.pure T rfl rfl rfl ?_
            refine AD.pure T rfl rfl rfl ?_
            refine AD.pure T rfl rfl rfl ?_
            refine AD.val rfl rfl (ix_row_ok T rfl rfl rfl rfl rfl rfl (hx46)) ?_
            refine AD.val rfl rfl (load_row_ok T rfl rfl rfl rfl (getI_get (hx46)) rfl rfl rfl) ?_
            refine AD.pure T rfl rfl rfl ?_
            refine AD.pure T rfl rfl rfl ?_
            refine AD.val rfl rfl (ix_row_ok T rfl rfl rfl rfl rfl rfl (hx48)) ?_
            refine AD.val rfl rfl (load_row_ok T rfl rfl rfl rfl (getI_get (hx48)) rfl rfl rfl) ?_
            refine AD.nil ?_
            refine AO.val rfl rfl (callV_ok rfl rfl rfl (andT rfl (free_cfree cmp_r)) (cmp_h _ _ _ (hx50)) rfl) ?_
            refine AO.pure T rfl rfl rfl ?_
            refine AO.nil ?_
            refine AW.cond (b := decide (x49 < 0)) rfl (fun hc => ?_) (fun hc => ?_)
            · replace hH := condT hc hH
              refine AW.region ?_
              refine AO.pure T rfl rfl rfl ?_
              refine AO.val rfl rfl (arw_ok rfl rfl rfl rfl) ?_
              refine AO.pure T rfl rfl rfl ?_
              refine AO.nil ?_
              refine ⟨(k27, w64 ((IntKind.wrap .i64 ((IntKind.wrap .u64 (w64 (v42 + v43))).fdiv (2 ^ 1))) + 1), v43), hH, Nat.lt_succ_self _, ?_⟩
              exact Le.cut 0 0 rfl ⟨⟨_, rfl, rfl⟩, ⟨_, rfl, rfl⟩, ⟨_, rfl, ren_fF cmp_r⟩, ⟨_, rfl, rfl⟩, ⟨_, rfl, rfl⟩, trivial⟩ (by repeat' (first | exact trivial | refine ⟨⟨_, rfl, rfl⟩, ?_⟩)) (andT (allC rfl (allC rfl (allC (known_fF cmp_r) (allC rfl (allC rfl allN))))) rfl) ⟨⟨rfl, rfl⟩, trivial⟩
            · replace hH := condF hc hH
              refine AW.region ?_
              refine AO.pure T rfl rfl rfl ?_
              refine AO.pure T rfl rfl rfl ?_
              refine AO.nil ?_
              refine ⟨(k27, v42, IntKind.wrap .i64 ((IntKind.wrap .u64 (w64 (v42 + v43))).fdiv (2 ^ 1))), hH, Nat.lt_succ_self _, ?_⟩
              exact Le.cut 0 0 rfl ⟨⟨_, rfl, rfl⟩, ⟨_, rfl, rfl⟩, ⟨_, rfl, ren_fF cmp_r⟩, ⟨_, rfl, rfl⟩, ⟨_, rfl, rfl⟩, trivial⟩ (by repeat' (first | exact trivial | refine ⟨⟨_, rfl, rfl⟩, ?_⟩)) (andT (allC rfl (allC rfl (allC (known_fF cmp_r) (allC rfl (allC rfl allN))))) rfl) ⟨⟨rfl, rfl⟩, trivial⟩
          · replace hH := condF hc hH
            refine AW.exit ?_
            refine ⟨_, someE hH, ?_⟩
            exact Le.cut 0 0 rfl (by repeat' (first | exact trivial | refine ⟨⟨_, rfl, rfl⟩, ?_⟩)) (by repeat' (first | exact trivial | refine ⟨⟨_, rfl, rfl⟩, ?_⟩)) rfl ⟨⟨rfl, rfl⟩, trivial⟩
    · rintro v24 hs
      subst hs
      replace hH := hK26
      try dsimp only [flow, flowE] at hH
      show AW _ _ _ (⟨[(0, .R 1), (1, .v (.int .i64 a)), (10, .v (.int .i64 v24))], [(1, .row 3 (List.map encRank data))], 220, [(1, L 1)]⟩ : St)
      refine AW.seq ?_
      refine AW.seq ?_
      refine AW.region ?_
      refine AO.pure T rfl rfl rfl ?_
      refine AO.pure T rfl rfl rfl ?_
      refine AO.nil ?_
      refine AW.block ?_
      refine AW.loopS (fun s : Nat × (List Rank) × Int => (⟨[(0, .R 1), (10, .v (.int .i64 v24)), (13, .v (.int .i64 s.2.2))], [(1, .row 3 (List.map encRank s.2.1))], 220, [(1, L 1)]⟩ : St)) (fun s => slices_symMergeCmpFunc_Rank_l2 v24 s.1 s.2.1 s.2.2 = some r) (fun s => s.1) (fuel, data, a) hH ?_ ?_
      · exact Le.cut 0 0 rfl (by repeat' (first | exact trivial | refine ⟨⟨_, rfl, rfl⟩, ?_⟩)) (by repeat' (first | exact trivial | refine ⟨⟨_, rfl, rfl⟩, ?_⟩)) rfl ⟨⟨rfl, rfl⟩, trivial⟩
      · rintro ⟨k51, v66, v67⟩ hH
        replace hH : slices_symMergeCmpFunc_Rank_l2 v24 k51 v66 v67 = some r := hH
        show AW _ _ _ (⟨[(0, .R 1), (10, .v (.int .i64 v24)), (13, .v (.int .i64 v67))], [(1, .row 3 (List.map encRank v66))], 220, [(1, L 1)]⟩ : St)
        cases k51 with
        | zero => cases (show none = some _ from hH)
        | succ k51 =>
          rw [slices_symMergeCmpFunc_Rank_l2] at hH
          refine AW.seq ?_
          refine AW.seq ?_
          refine AW.region ?_
          refine AO.pure T rfl rfl rfl ?_
          refine AO.pure T rfl rfl rfl ?_
          refine AO.val rfl rfl (arw_ok rfl rfl rfl rfl) ?_
          refine AO.pure T rfl rfl rfl ?_
          refine AO.nil ?_
          refine AW.cond (b := decide (v67 < (w64 (v24 - 1)))) rfl (fun hc => ?_) (fun hc => ?_)
          · replace hH := condT hc hH
            refine AW.skip ?_
            refine AW.seq ?_
            refine AW.block ?_
            obtain ⟨x69, hx70, hH⟩ := bindE hH
            obtain ⟨x71, hx72, hH⟩ := bindE hH
            obtain ⟨x73, hx74, hH⟩ := bindE hH
            refine AW.drawn 16 2 [1] mix (by kernel_rfl) rfl ?_
            refine AD.pure T rfl rfl rfl ?_
            refine AD.pure T rfl rfl rfl ?_
            refine AD.pure T rfl rfl rfl ?_
            refine AD.pure T rfl rfl rfl ?_
            refine AD.val rfl rfl (arw_ok rfl rfl rfl rfl) ?_
            refine AD.pure T rfl rfl rfl ?_
            refine AD.pure T rfl rfl rfl ?_
            refine AD.val rfl rfl (arw_ok rfl rfl rfl rfl) ?_
            refine AD.vald rfl rfl rfl (ix_row_ok T rfl rfl rfl rfl rfl rfl (hx70)) ?_
            refine AD.vald rfl rfl rfl (load_row_ok T rfl rfl rfl rfl (getI_get (hx70)) rfl rfl rfl) ?_
            refine AD.pure T rfl rfl rfl ?_
            refine AD.pure T rfl rfl rfl ?_
            refine AD.vald rfl rfl rfl (ix_row_ok T rfl rfl rfl rfl rfl rfl (hx72)) ?_
            refine AD.vald rfl rfl rfl (load_row_ok T rfl rfl rfl rfl (getI_get (hx72)) rfl rfl rfl) ?_
            refine AD.vald rfl rfl rfl (ix_row_ok T rfl rfl rfl rfl rfl rfl (hx72)) ?_
            refine AD.k rfl rfl (FStep.store_row T rfl rfl rfl rfl rfl rfl (getI_get (hx72)) rfl rfl rfl rfl (u' := x69) rfl rfl rfl) rfl rfl rfl ?_
            refine AD.nil ?_
            refine AO.val rfl rfl (ix_row_ok T rfl rfl rfl rfl rfl rfl (hx74)) ?_
            refine AO.step rfl (store_row_ok T rfl rfl rfl rfl rfl (getI_get (hx74)) rfl rfl rfl rfl (u' := x71) rfl rfl) ?_
            refine AO.nil ?_
            refine AW.region ?_
            refine AO.pure T rfl rfl rfl ?_
            refine AO.val rfl rfl (arw_ok rfl rfl rfl rfl) ?_
            refine AO.pure T rfl rfl rfl ?_
            refine AO.nil ?_
            refine ⟨(k51, ((v66.set v67.toNat x69).set ((w64 (v67 + 1)).toNat) x71), w64 (v67 + 1)), hH, Nat.lt_succ_self _, ?_⟩
            exact Le.cut 0 0 rfl (by repeat' (first | exact trivial | refine ⟨⟨_, rfl, rfl⟩, ?_⟩)) (by repeat' (first | exact trivial | refine ⟨⟨_, rfl, rfl⟩, ?_⟩)) rfl ⟨⟨rfl, rfl⟩, trivial⟩
          · replace hH := condF hc hH
            refine AW.exit ?_
            refine AW.ret ?_
            cases someE hH
            exact ⟨trivial, rfl, _, [], [1], rfl, expLG_cons (.c (.rowR rfl)) (expLG_cons (.c .u) (expLG_cons (.c .u) (expLG_cons (.c .u) (expLG_cons (.c .u) (expLG_nil))))), .t expLG_nil, by decide⟩
  · replace hH := condF hc hH
    refine AW.skip ?_
    refine AW.seq ?_
    refine AW.seq ?_
    refine AW.region ?_
    refine AO.pure T rfl rfl rfl ?_
    refine AO.pure T rfl rfl rfl ?_
    refine AO.val rfl rfl (arw_ok rfl rfl rfl rfl) ?_
    refine AO.pure T rfl rfl rfl ?_
    refine AO.nil ?_
    refine AW.cond (b := ((w64 (b - m)) == 1)) rfl (fun hc => ?_) (fun hc => ?_)
    · replace hH := condT hc hH
      refine AW.seq ?_
      refine AW.region ?_
      refine AO.pure T rfl rfl rfl ?_
      refine AO.pure T rfl rfl rfl ?_
      refine AO.nil ?_
      refine AW.seq ?_
      refine AW.region ?_
      refine AO.pure T rfl rfl rfl ?_
      refine AO.pure T rfl rfl rfl ?_
      refine AO.nil ?_
      obtain ⟨o99, hH, hK100⟩ := bindE hH
      refine AW.seqJ (fun s : Int => (⟨[(0, .R 1), (2, .v (.int .i64 m)), (14, .v (.int .i64 s))], [(1, .row 3 (List.map encRank data))], 220, [(1, L 1)]⟩ : St)) (fun s => s = o99) ?_ ?_
      · refine AW.block ?_
        refine AW.loopS (fun s : Nat × Int × Int => (⟨[(0, .R 1), (2, .v (.int .i64 m)), (4, .f cmp_f cmp_c), (14, .v (.int .i64 s.2.1)), (15, .v (.int .i64 s.2.2))], [(1, .row 3 (List.map encRank data))], 220, [(1, L 1)]⟩ : St)) (fun s => slices_symMergeCmpFunc_Rank_l3 data m cmp s.1 s.2.1 s.2.2 = some o99) (fun s => s.1) (fuel, a, m) hH ?_ ?_
        · exact Le.cut 0 0 rfl ⟨⟨_, rfl, rfl⟩, ⟨_, rfl, rfl⟩, ⟨_, rfl, ren_fF cmp_r⟩, ⟨_, rfl, rfl⟩, ⟨_, rfl, rfl⟩, trivial⟩ (by repeat' (first | exact trivial | refine ⟨⟨_, rfl, rfl⟩, ?_⟩)) (andT (allC rfl (allC rfl (allC (known_fF cmp_r) (allC rfl (allC rfl allN))))) rfl) ⟨⟨rfl, rfl⟩, trivial⟩
        · rintro ⟨k101, v116, v117⟩ hH
          replace hH : slices_symMergeCmpFunc_Rank_l3 data m cmp k101 v116 v117 = some o99 := hH
          show AW _ _ _ (⟨[(0, .R 1), (2, .v (.int .i64 m)), (4, .f cmp_f cmp_c), (14, .v (.int .i64 v116)), (15, .v (.int .i64 v117))], [(1, .row 3 (List.map encRank data))], 220, [(1, L 1)]⟩ : St)
          cases k101 with
          | zero => cases (show none = some _ from hH)
          | succ k101 =>
            rw [slices_symMergeCmpFunc_Rank_l3] at hH
            refine AW.seq ?_
            refine AW.seq ?_
            refine AW.region ?_
            refine AO.pure T rfl rfl rfl ?_
            refine AO.pure T rfl rfl rfl ?_
            refine AO.pure T rfl rfl rfl ?_
            refine AO.nil ?_
            refine AW.cond (b := decide (v116 < v117)) rfl (fun hc => ?_) (fun hc => ?_)
            · replace hH := condT hc hH
              refine AW.skip ?_
              refine AW.block ?_
              refine AW.seq ?_
              refine AW.region ?_
              refine AO.pure T rfl rfl rfl ?_
              refine AO.pure T rfl rfl rfl ?_
              refine AO.val rfl rfl (arw_ok rfl rfl rfl rfl) ?_
              refine AO.val rfl rfl (convw_ok T rfl rfl rfl rfl) ?_
              refine AO.val rfl rfl (shr_ok rfl rfl rfl rfl rfl) ?_
              refine AO.val rfl rfl (convw_ok T rfl rfl rfl rfl) ?_
              refine AO.pure T rfl rfl rfl ?_
              refine AO.nil ?_
              refine AW.seq ?_
              obtain ⟨x119, hx120, hH⟩ := bindE hH
              obtain ⟨x121, hx122, hH⟩ := bindE hH
              obtain ⟨x123, hx124, hH⟩ := bindE hH
              refine AW.drawn 9 2 [] mix (by kernel_rfl) rfl ?_
              refine AD.pure T rfl rfl rfl ?_
              refine AD.pure T rfl rfl rfl ?_
              refine AD.pure T rfl rfl rfl ?_
              refine AD.val rfl rfl (ix_row_ok T rfl rfl rfl rfl rfl rfl (hx120)) ?_
              refine AD.val rfl rfl (load_row_ok T rfl rfl rfl rfl (getI_get (hx120)) rfl rfl rfl) ?_
              refine AD.pure T rfl rfl rfl ?_
              refine AD.pure T rfl rfl rfl ?_
              refine AD.val rfl rfl (ix_row_ok T rfl rfl rfl rfl rfl rfl (hx122)) ?_
              refine AD.val rfl rfl (load_row_ok T rfl rfl rfl rfl (getI_get (hx122)) rfl rfl rfl) ?_
              refine AD.nil ?_
              refine AO.val rfl rfl (callV_ok rfl rfl rfl (andT rfl (free_cfree cmp_r)) (cmp_h _ _ _ (hx124)) rfl) ?_
              refine AO.pure T rfl rfl rfl ?_
              refine AO.pure T rfl rfl rfl ?_
              refine AO.nil ?_
              refine AW.cond (b := (!(decide (x123 < 0)))) rfl (fun hc => ?_) (fun hc => ?_)
              · replace hH := condT hc hH
                refine AW.region ?_
                refine AO.pure T rfl rfl rfl ?_
                refine AO.val rfl rfl (arw_ok rfl rfl rfl rfl) ?_
                refine AO.pure T rfl rfl rfl ?_
                refine AO.nil ?_
                refine ⟨(k101, w64 ((IntKind.wrap .i64 ((IntKind.wrap .u64 (w64 (v116 + v117))).fdiv (2 ^ 1))) + 1), v117), hH, Nat.lt_succ_self _, ?_⟩
                exact Le.cut 0 0 rfl ⟨⟨_, rfl, rfl⟩, ⟨_, rfl, rfl⟩, ⟨_, rfl, ren_fF cmp_r⟩, ⟨_, rfl, rfl⟩, ⟨_, rfl, rfl⟩, trivial⟩ (by repeat' (first | exact trivial | refine ⟨⟨_, rfl, rfl⟩, ?_⟩)) (andT (allC rfl (allC rfl (allC (known_fF cmp_r) (allC rfl (allC rfl allN))))) rfl) ⟨⟨rfl, rfl⟩, trivial⟩
              · replace hH := condF hc hH
                refine AW.region ?_
                refine AO.pure T rfl rfl rfl ?_
                refine AO.pure T rfl rfl rfl ?_
                refine AO.nil ?_
                refine ⟨(k101, v116, IntKind.wrap .i64 ((IntKind.wrap .u64 (w64 (v116 + v117))).fdiv (2 ^ 1))), hH, Nat.lt_succ_self _, ?_⟩
                exact Le.cut 0 0 rfl ⟨⟨_, rfl, rfl⟩, ⟨_, rfl, rfl⟩, ⟨_, rfl, ren_fF cmp_r⟩, ⟨_, rfl, rfl⟩, ⟨_, rfl, rfl⟩, trivial⟩ (by repeat' (first | exact trivial | refine ⟨⟨_, rfl, rfl⟩, ?_⟩)) (andT (allC rfl (allC rfl (allC (known_fF cmp_r) (allC rfl (allC rfl allN))))) rfl) ⟨⟨rfl, rfl⟩, trivial⟩
            · replace hH := condF hc hH
              refine AW.exit ?_
              refine ⟨_, someE hH, ?_⟩
              exact Le.cut 0 0 rfl (by repeat' (first | exact trivial | refine ⟨⟨_, rfl, rfl⟩, ?_⟩)) (by repeat' (first | exact trivial | refine ⟨⟨_, rfl, rfl⟩, ?_⟩)) rfl ⟨⟨rfl, rfl⟩, trivial⟩
      · rintro v98 hs
        subst hs
        replace hH := hK100
        try dsimp only [flow, flowE] at hH
        show AW _ _ _ (⟨[(0, .R 1), (2, .v (.int .i64 m)), (14, .v (.int .i64 v98))], [(1, .row 3 (List.map encRank data))], 220, [(1, L 1)]⟩ : St)
        refine AW.seq ?_
        refine AW.seq ?_
        refine AW.region ?_
        refine AO.pure T rfl rfl rfl ?_
        refine AO.pure T rfl rfl rfl ?_
        refine AO.nil ?_
        refine AW.block ?_
        refine AW.loopS (fun s : Nat × (List Rank) × Int => (⟨[(0, .R 1), (14, .v (.int .i64 v98)), (17, .v (.int .i64 s.2.2))], [(1, .row 3 (List.map encRank s.2.1))], 220, [(1, L 1)]⟩ : St)) (fun s => slices_symMergeCmpFunc_Rank_l4 v98 s.1 s.2.1 s.2.2 = some r) (fun s => s.1) (fuel, data, m) hH ?_ ?_
        · exact Le.cut 0 0 rfl (by repeat' (first | exact trivial | refine ⟨⟨_, rfl, rfl⟩, ?_⟩)) (by repeat' (first | exact trivial | refine ⟨⟨_, rfl, rfl⟩, ?_⟩)) rfl ⟨⟨rfl, rfl⟩, trivial⟩
        · rintro ⟨k125, v140, v141⟩ hH
          replace hH : slices_symMergeCmpFunc_Rank_l4 v98 k125 v140 v141 = some r := hH
          show AW _ _ _ (⟨[(0, .R 1), (14, .v (.int .i64 v98)), (17, .v (.int .i64 v141))], [(1, .row 3 (List.map encRank v140))], 220, [(1, L 1)]⟩ : St)
          cases k125 with
          | zero => cases (show none = some _ from hH)
          | succ k125 =>
            rw [slices_symMergeCmpFunc_Rank_l4] at hH
            refine AW.seq ?_
            refine AW.seq ?_
            refine AW.region ?_
            refine AO.pure T rfl rfl rfl ?_
            refine AO.pure T rfl rfl rfl ?_
            refine AO.pure T rfl rfl rfl ?_
            refine AO.nil ?_
            refine AW.cond (b := decide (v141 > v98)) rfl (fun hc => ?_) (fun hc => ?_)
            · replace hH := condT hc hH
              refine AW.skip ?_
              refine AW.seq ?_
              refine AW.block ?_
              obtain ⟨x143, hx144, hH⟩ := bindE hH
              obtain ⟨x145, hx146, hH⟩ := bindE hH
              obtain ⟨x147, hx148, hH⟩ := bindE hH
              refine AW.drawn 16 2 [1] mix (by kernel_rfl) rfl ?_
              refine AD.pure T rfl rfl rfl ?_
              refine AD.pure T rfl rfl rfl ?_
              refine AD.pure T rfl rfl rfl ?_
              refine AD.pure T rfl rfl rfl ?_
              refine AD.val rfl rfl (arw_ok rfl rfl rfl rfl) ?_
              refine AD.pure T rfl rfl rfl ?_
              refine AD.pure T rfl rfl rfl ?_
              refine AD.val rfl rfl (arw_ok rfl rfl rfl rfl) ?_
              refine AD.vald rfl rfl rfl (ix_row_ok T rfl rfl rfl rfl rfl rfl (hx144)) ?_
              refine AD.vald rfl rfl rfl (load_row_ok T rfl rfl rfl rfl (getI_get (hx144)) rfl rfl rfl) ?_
              refine AD.pure T rfl rfl rfl ?_
              refine AD.pure T rfl rfl rfl ?_
              refine AD.vald rfl rfl rfl (ix_row_ok T rfl rfl rfl rfl rfl rfl (hx146)) ?_
              refine AD.vald rfl rfl rfl (load_row_ok T rfl rfl rfl rfl (getI_get (hx146)) rfl rfl rfl) ?_
              refine AD.vald rfl rfl rfl (ix_row_ok T rfl rfl rfl rfl rfl rfl (hx146)) ?_
              refine AD.k rfl rfl (FStep.store_row T rfl rfl rfl rfl rfl rfl (getI_get (hx146)) rfl rfl rfl rfl (u' := x143) rfl rfl rfl) rfl rfl rfl ?_
              refine AD.nil ?_
              refine AO.val rfl rfl (ix_row_ok T rfl rfl rfl rfl rfl rfl (hx148)) ?_
              refine AO.step rfl (store_row_ok T rfl rfl rfl rfl rfl (getI_get (hx148)) rfl rfl rfl rfl (u' := x145) rfl rfl) ?_
              refine AO.nil ?_
              refine AW.region ?_
              refine AO.pure T rfl rfl rfl ?_
              refine AO.val rfl rfl (arw_ok rfl rfl rfl rfl) ?_
              refine AO.pure T rfl rfl rfl ?_
              refine AO.nil ?_
              refine ⟨(k125, ((v140.set v141.toNat x143).set ((w64 (v141 - 1)).toNat) x145), w64 (v141 - 1)), hH, Nat.lt_succ_self _, ?_⟩
              exact Le.cut 0 0 rfl (by repeat' (first | exact trivial | refine ⟨⟨_, rfl, rfl⟩, ?_⟩)) (by repeat' (first | exact trivial | refine ⟨⟨_, rfl, rfl⟩, ?_⟩)) rfl ⟨⟨rfl, rfl⟩, trivial⟩
            · replace hH := condF hc hH
              refine AW.exit ?_
              refine AW.ret ?_
              cases someE hH
              exact ⟨trivial, rfl, _, [], [1], rfl, expLG_cons (.c (.rowR rfl)) (expLG_cons (.c .u) (expLG_cons (.c .u) (expLG_cons (.c .u) (expLG_cons (.c .u) (expLG_nil))))), .t expLG_nil, by decide⟩
    · replace hH := condF hc hH
      refine AW.skip ?_
      refine AW.seq ?_
      refine AW.region ?_
      refine AO.pure T rfl rfl rfl ?_
      refine AO.pure T rfl rfl rfl ?_
      refine AO.val rfl rfl (arw_ok rfl rfl rfl rfl) ?_
      refine AO.val rfl rfl (convw_ok T rfl rfl rfl rfl) ?_
      refine AO.val rfl rfl (shr_ok rfl rfl rfl rfl rfl) ?_
      refine AO.val rfl rfl (convw_ok T rfl rfl rfl rfl) ?_
      refine AO.pure T rfl rfl rfl ?_
      refine AO.nil ?_
      refine AW.seq ?_
      refine AW.region ?_
      refine AO.pure T rfl rfl rfl ?_
      refine AO.pure T rfl rfl rfl ?_
      refine AO.val rfl rfl (arw_ok rfl rfl rfl rfl) ?_
      refine AO.pure T rfl rfl rfl ?_
      refine AO.nil ?_
      refine AW.seq ?_
      refine AW.region ?_
      refine AO.pure T rfl rfl rfl ?_
      refine AO.pure T rfl rfl rfl ?_
      refine AO.nil ?_
      refine AW.seq ?_
      refine AW.seq ?_
      refine AW.region ?_
      refine AO.pure T rfl rfl rfl ?_
      refine AO.pure T rfl rfl rfl ?_
      refine AO.pure T rfl rfl rfl ?_
      refine AO.nil ?_
      refine AW.le (Le.cut 0 0 (σ' := (⟨[(0, .R 1), (1, .v (.int .i64 a)), (2, .v (.int .i64 m)), (3, .v (.int .i64 b)), (4, .f cmp_f cmp_c), (18, .v (.int .i64 (IntKind.wrap .i64 ((IntKind.wrap .u64 (w64 (a + b))).fdiv (2 ^ 1))))), (19, .v (.int .i64 (w64 ((IntKind.wrap .i64 ((IntKind.wrap .u64 (w64 (a + b))).fdiv (2 ^ 1))) + m)))), (140, .v (.bool (decide (m > (IntKind.wrap .i64 ((IntKind.wrap .u64 (w64 (a + b))).fdiv (2 ^ 1)))))))], [(1, .row 3 (List.map encRank data))], 220, [(1, L 1)]⟩ : St)) rfl ⟨⟨_, rfl, rfl⟩, ⟨_, rfl, rfl⟩, ⟨_, rfl, rfl⟩, ⟨_, rfl, rfl⟩, ⟨_, rfl, ren_fF cmp_r⟩, ⟨_, rfl, rfl⟩, ⟨_, rfl, rfl⟩, ⟨_, rfl, rfl⟩, trivial⟩ (by repeat' (first | exact trivial | refine ⟨⟨_, rfl, rfl⟩, ?_⟩)) (andT (allC rfl (allC rfl (allC rfl (allC rfl (allC (known_fF cmp_r) (allC rfl (allC rfl (allC rfl allN)))))))) rfl) ⟨⟨rfl, rfl⟩, trivial⟩) ?_
      refine AW.cond (b := decide (m > (IntKind.wrap .i64 ((IntKind.wrap .u64 (w64 (a + b))).fdiv (2 ^ 1))))) rfl (fun hc => ?_) (fun hc => ?_)
      · replace hH := condT hc hH
        refine AW.seq ?_
        refine AW.region ?_
        refine AO.pure T rfl rfl rfl ?_
        refine AO.pure T rfl rfl rfl ?_
        refine AO.val rfl rfl (arw_ok rfl rfl rfl rfl) ?_
        refine AO.pure T rfl rfl rfl ?_
        refine AO.nil ?_
        refine AW.region ?_
        refine AO.pure T rfl rfl rfl ?_
        refine AO.pure T rfl rfl rfl ?_
        refine AO.nil ?_
        refine AW.seq ?_
        refine AW.region ?_
        refine AO.pure T rfl rfl rfl ?_
        refine AO.val rfl rfl (arw_ok rfl rfl rfl rfl) ?_
        refine AO.pure T rfl rfl rfl ?_
        refine AO.nil ?_
        obtain ⟨o173, hH, hK174⟩ := bindE hH
        refine AW.seqJ (fun s : Int => (⟨[(0, .R 1), (1, .v (.int .i64 a)), (2, .v (.int .i64 m)), (3, .v (.int .i64 b)), (4, .f cmp_f cmp_c), (18, .v (.int .i64 (IntKind.wrap .i64 ((IntKind.wrap .u64 (w64 (a + b))).fdiv (2 ^ 1))))), (19, .v (.int .i64 (w64 ((IntKind.wrap .i64 ((IntKind.wrap .u64 (w64 (a + b))).fdiv (2 ^ 1))) + m)))), (20, .v (.int .i64 s))], [(1, .row 3 (List.map encRank data))], 220, [(1, L 1)]⟩ : St)) (fun s => s = o173) ?_ ?_
        · refine AW.block ?_
          refine AW.loopS (fun s : Nat × Int × Int => (⟨[(0, .R 1), (1, .v (.int .i64 a)), (2, .v (.int .i64 m)), (3, .v (.int .i64 b)), (4, .f cmp_f cmp_c), (18, .v (.int .i64 (IntKind.wrap .i64 ((IntKind.wrap .u64 (w64 (a + b))).fdiv (2 ^ 1))))), (19, .v (.int .i64 (w64 ((IntKind.wrap .i64 ((IntKind.wrap .u64 (w64 (a + b))).fdiv (2 ^ 1))) + m)))), (20, .v (.int .i64 s.2.1)), (21, .v (.int .i64 s.2.2)), (22, .v (.int .i64 (w64 ((w64 ((IntKind.wrap .i64 ((IntKind.wrap .u64 (w64 (a + b))).fdiv (2 ^ 1))) + m)) - 1))))], [(1, .row 3 (List.map encRank data))], 220, [(1, L 1)]⟩ : St)) (fun s => slices_symMergeCmpFunc_Rank_l5 data a m b cmp s.1 s.2.1 s.2.2 = some o173) (fun s => s.1) (fuel, w64 ((w64 ((IntKind.wrap .i64 ((IntKind.wrap .u64 (w64 (a + b))).fdiv (2 ^ 1))) + m)) - b), IntKind.wrap .i64 ((IntKind.wrap .u64 (w64 (a + b))).fdiv (2 ^ 1))) hH ?_ ?_
          · exact Le.cut 0 0 rfl ⟨⟨_, rfl, rfl⟩, ⟨_, rfl, rfl⟩, ⟨_, rfl, rfl⟩, ⟨_, rfl, rfl⟩, ⟨_, rfl, ren_fF cmp_r⟩, ⟨_, rfl, rfl⟩, ⟨_, rfl, rfl⟩, ⟨_, rfl, rfl⟩, ⟨_, rfl, rfl⟩, ⟨_, rfl, rfl⟩, trivial⟩ (by repeat' (first | exact trivial | refine ⟨⟨_, rfl, rfl⟩, ?_⟩)) (andT (allC rfl (allC rfl (allC rfl (allC rfl (allC (known_fF cmp_r) (allC rfl (allC rfl (allC rfl (allC rfl (allC rfl allN)))))))))) rfl) ⟨⟨rfl, rfl⟩, trivial⟩
          · rintro ⟨k175, v190, v191⟩ hH
            replace hH : slices_symMergeCmpFunc_Rank_l5 data a m b cmp k175 v190 v191 = some o173 := hH
            show AW _ _ _ (⟨[(0, .R 1), (1, .v (.int .i64 a)), (2, .v (.int .i64 m)), (3, .v (.int .i64 b)), (4, .f cmp_f cmp_c), (18, .v (.int .i64 (IntKind.wrap .i64 ((IntKind.wrap .u64 (w64 (a + b))).fdiv (2 ^ 1))))), (19, .v (.int .i64 (w64 ((IntKind.wrap .i64 ((IntKind.wrap .u64 (w64 (a + b))).fdiv (2 ^ 1))) + m)))), (20, .v (.int .i64 v190)), (21, .v (.int .i64 v191)), (22, .v (.int .i64 (w64 ((w64 ((IntKind.wrap .i64 ((IntKind.wrap .u64 (w64 (a + b))).fdiv (2 ^ 1))) + m)) - 1))))], [(1, .row 3 (List.map encRank data))], 220, [(1, L 1)]⟩ : St)
            cases k175 with
            | zero => cases (show none = some _ from hH)
            | succ k175 =>
              rw [slices_symMergeCmpFunc_Rank_l5] at hH
              refine AW.seq ?_
              refine AW.seq ?_
              refine AW.region ?_
              refine AO.pure T rfl rfl rfl ?_
              refine AO.pure T rfl rfl rfl ?_
              refine AO.pure T rfl rfl rfl ?_
              refine AO.nil ?_
              refine AW.cond (b := decide (v190 < v191)) rfl (fun hc => ?_) (fun hc => ?_)
              · replace hH := condT hc hH
                refine AW.skip ?_
                refine AW.block ?_
                refine AW.seq ?_
                refine AW.region ?_
                refine AO.pure T rfl rfl rfl ?_
                refine AO.pure T rfl rfl rfl ?_
                refine AO.val rfl rfl (arw_ok rfl rfl rfl rfl) ?_
                refine AO.val rfl rfl (convw_ok T rfl rfl rfl rfl) ?_
                refine AO.val rfl rfl (shr_ok rfl rfl rfl rfl rfl) ?_
                refine AO.val rfl rfl (convw_ok T rfl rfl rfl rfl) ?_
                refine AO.pure T rfl rfl rfl ?_
                refine AO.nil ?_
                refine AW.seq ?_
                obtain ⟨x193, hx194, hH⟩ := bindE hH
                obtain ⟨x195, hx196, hH⟩ := bindE hH
                obtain ⟨x197, hx198, hH⟩ := bindE hH
                refine AW.drawn 11 2 [] mix (by kernel_rfl) rfl ?_
                refine AD.pure T rfl rfl rfl ?_
                refine AD.pure T rfl rfl rfl ?_
                refine AD.pure T rfl rfl rfl ?_
                refine AD.pure T rfl rfl rfl ?_
                refine AD.val rfl rfl (arw_ok rfl rfl rfl rfl) ?_
                refine AD.val rfl rfl (ix_row_ok T rfl rfl rfl rfl rfl rfl (hx194)) ?_
                refine AD.val rfl rfl (load_row_ok T rfl rfl rfl rfl (getI_get (hx194)) rfl rfl rfl) ?_
                refine AD.pure T rfl rfl rfl ?_
                refine AD.pure T rfl rfl rfl ?_
                refine AD.val rfl rfl (ix_row_ok T rfl rfl rfl rfl rfl rfl (hx196)) ?_
                refine AD.val rfl rfl (load_row_ok T rfl rfl rfl rfl (getI_get (hx196)) rfl rfl rfl) ?_
                refine AD.nil ?_
                refine AO.val rfl rfl (callV_ok rfl rfl rfl (andT rfl (free_cfree cmp_r)) (cmp_h _ _ _ (hx198)) rfl) ?_
                refine AO.pure T rfl rfl rfl ?_
                refine AO.pure T rfl rfl rfl ?_
                refine AO.nil ?_
                refine AW.le (Le.cut 0 0 (σ' := (⟨[(0, .R 1), (1, .v (.int .i64 a)), (2, .v (.int .i64 m)), (3, .v (.int .i64 b)), (4, .f cmp_f cmp_c), (18, .v (.int .i64 (IntKind.wrap .i64 ((IntKind.wrap .u64 (w64 (a + b))).fdiv (2 ^ 1))))), (19, .v (.int .i64 (w64 ((IntKind.wrap .i64 ((IntKind.wrap .u64 (w64 (a + b))).fdiv (2 ^ 1))) + m)))), (20, .v (.int .i64 v190)), (21, .v (.int .i64 v191)), (22, .v (.int .i64 (w64 ((w64 ((IntKind.wrap .i64 ((IntKind.wrap .u64 (w64 (a + b))).fdiv (2 ^ 1))) + m)) - 1)))), (23, .v (.int .i64 (IntKind.wrap .i64 ((IntKind.wrap .u64 (w64 (v190 + v191))).fdiv (2 ^ 1))))), (171, .v (.bool (!(decide (x197 < 0)))))], [(1, .row 3 (List.map encRank data))], 220, [(1, L 1)]⟩ : St)) rfl ⟨⟨_, rfl, rfl⟩, ⟨_, rfl, rfl⟩, ⟨_, rfl, rfl⟩, ⟨_, rfl, rfl⟩, ⟨_, rfl, ren_fF cmp_r⟩, ⟨_, rfl, rfl⟩, ⟨_, rfl, rfl⟩, ⟨_, rfl, rfl⟩, ⟨_, rfl, rfl⟩, ⟨_, rfl, rfl⟩, ⟨_, rfl, rfl⟩, ⟨_, rfl, rfl⟩, trivial⟩ (by repeat' (first | exact trivial | refine ⟨⟨_, rfl, rfl⟩, ?_⟩)) (andT (allC rfl (allC rfl (allC rfl (allC rfl (allC (known_fF cmp_r) (allC rfl (allC rfl (allC rfl (allC rfl (allC rfl (allC rfl (allC rfl allN)))))))))))) rfl) ⟨⟨rfl, rfl⟩, trivial⟩) ?_
                refine AW.cond (b := (!(decide (x197 < 0)))) rfl (fun hc => ?_) (fun hc => ?_)
                · replace hH := condT hc hH
                  refine AW.region ?_
                  refine AO.pure T rfl rfl rfl ?_
                  refine AO.val rfl rfl (arw_ok rfl rfl rfl rfl) ?_
                  refine AO.pure T rfl rfl rfl ?_
                  refine AO.nil ?_
                  refine ⟨(k175, w64 ((IntKind.wrap .i64 ((IntKind.wrap .u64 (w64 (v190 + v191))).fdiv (2 ^ 1))) + 1), v191), hH, Nat.lt_succ_self _, ?_⟩
                  exact Le.cut 0 0 rfl ⟨⟨_, rfl, rfl⟩, ⟨_, rfl, rfl⟩, ⟨_, rfl, rfl⟩, ⟨_, rfl, rfl⟩, ⟨_, rfl, ren_fF cmp_r⟩, ⟨_, rfl, rfl⟩, ⟨_, rfl, rfl⟩, ⟨_, rfl, rfl⟩, ⟨_, rfl, rfl⟩, ⟨_, rfl, rfl⟩, trivial⟩ (by repeat' (first | exact trivial | refine ⟨⟨_, rfl, rfl⟩, ?_⟩)) (andT (allC rfl (allC rfl (allC rfl (allC rfl (allC (known_fF cmp_r) (allC rfl (allC rfl (allC rfl (allC rfl (allC rfl allN)))))))))) rfl) ⟨⟨rfl, rfl⟩, trivial⟩
                · replace hH := condF hc hH
                  refine AW.region ?_
                  refine AO.pure T rfl rfl rfl ?_
                  refine AO.pure T rfl rfl rfl ?_
                  refine AO.nil ?_
                  refine ⟨(k175, v190, IntKind.wrap .i64 ((IntKind.wrap .u64 (w64 (v190 + v191))).fdiv (2 ^ 1))), hH, Nat.lt_succ_self _, ?_⟩
                  exact Le.cut 0 0 rfl ⟨⟨_, rfl, rfl⟩, ⟨_, rfl, rfl⟩, ⟨_, rfl, rfl⟩, ⟨_, rfl, rfl⟩, ⟨_, rfl, ren_fF cmp_r⟩, ⟨_, rfl, rfl⟩, ⟨_, rfl, rfl⟩, ⟨_, rfl, rfl⟩, ⟨_, rfl, rfl⟩, ⟨_, rfl, rfl⟩, trivial⟩ (by repeat' (first | exact trivial | refine ⟨⟨_, rfl, rfl⟩, ?_⟩)) (andT (allC rfl (allC rfl (allC rfl (allC rfl (allC (known_fF cmp_r) (allC rfl (allC rfl (allC rfl (allC rfl (allC rfl allN)))))))))) rfl) ⟨⟨rfl, rfl⟩, trivial⟩
              · replace hH := condF hc hH
                refine AW.exit ?_
                refine ⟨_, someE hH, ?_⟩
                exact Le.cut 0 0 rfl ⟨⟨_, rfl, rfl⟩, ⟨_, rfl, rfl⟩, ⟨_, rfl, rfl⟩, ⟨_, rfl, rfl⟩, ⟨_, rfl, ren_fF cmp_r⟩, ⟨_, rfl, rfl⟩, ⟨_, rfl, rfl⟩, ⟨_, rfl, rfl⟩, trivial⟩ (by repeat' (first | exact trivial | refine ⟨⟨_, rfl, rfl⟩, ?_⟩)) (andT (allC rfl (allC rfl (allC rfl (allC rfl (allC (known_fF cmp_r) (allC rfl (allC rfl (allC rfl allN)))))))) rfl) ⟨⟨rfl, rfl⟩, trivial⟩
        · rintro v172 hs
          subst hs
          replace hH := hK174
          try dsimp only [flow, flowE] at hH
          show AW _ _ _ (⟨[(0, .R 1), (1, .v (.int .i64 a)), (2, .v (.int .i64 m)), (3, .v (.int .i64 b)), (4, .f cmp_f cmp_c), (18, .v (.int .i64 (IntKind.wrap .i64 ((IntKind.wrap .u64 (w64 (a + b))).fdiv (2 ^ 1))))), (19, .v (.int .i64 (w64 ((IntKind.wrap .i64 ((IntKind.wrap .u64 (w64 (a + b))).fdiv (2 ^ 1))) + m)))), (20, .v (.int .i64 v172))], [(1, .row 3 (List.map encRank data))], 220, [(1, L 1)]⟩ : St)
          refine AW.seq ?_
          refine AW.region ?_
          refine AO.pure T rfl rfl rfl ?_
          refine AO.pure T rfl rfl rfl ?_
          refine AO.val rfl rfl (arw_ok rfl rfl rfl rfl) ?_
          refine AO.pure T rfl rfl rfl ?_
          refine AO.nil ?_
          refine AW.seq ?_
          refine AW.seq ?_
          refine AW.region ?_
          refine AO.pure T rfl rfl rfl ?_
          refine AO.pure T rfl rfl rfl ?_
          refine AO.pure T rfl rfl rfl ?_
          refine AO.pure T rfl rfl rfl ?_
          refine AO.pureG T [] rfl trivial rfl rfl ?_
          refine AO.pureG T [] rfl trivial rfl rfl ?_
          refine AO.pureG T [182, 183] rfl ⟨fun h => h, fun h => h, trivial⟩ rfl rfl ?_
          refine AO.val rfl rfl (pick_and rfl rfl rfl rfl) ?_
          refine AO.nil ?_
          refine AW.cond (b := (decide (v172 < m) && decide (m < (w64 ((w64 ((IntKind.wrap .i64 ((IntKind.wrap .u64 (w64 (a + b))).fdiv (2 ^ 1))) + m)) - v172))))) rfl (fun hc => ?_) (fun hc => ?_)
          · replace hH := condT hc hH
            obtain ⟨x199, hx200, hH⟩ := bindE hH
            refine AW.region ?_
            refine AO.pure T rfl rfl rfl ?_
            refine AO.pure T rfl rfl rfl ?_
            refine AO.pure T rfl rfl rfl ?_
            refine AO.pure T rfl rfl rfl ?_
            refine AO.pure T rfl rfl rfl ?_
            refine AO.step rfl (callM_ok rfl 2 rfl rfl (es := [.w 3 (data.map encRank), .v (.int .i64 v172), .v (.int .i64 m), .v (.int .i64 (w64 ((w64 ((IntKind.wrap .i64 ((IntKind.wrap .u64 (w64 (a + b))).fdiv (2 ^ 1))) + m)) - v172))), .f cmp_f cmp_c]) (outs := [.w 3 (x199.map encRank), .u, .u, .u, .u]) (ids := [1]) (by exact expLG_cons (.c (.rowR rfl)) (expLG_cons (.c .v) (expLG_cons (.c .v) (expLG_cons (.c .v) (expLG_cons (.c (.f cmp_r)) (expLG_nil)))))) (by decide) (.inl (by rfl)) (by rfl) (slices_rotateCmpFunc_Rank_ok fuel _ _ _ _ cmp_f cmp_c cmp_k cmp cmp_h _ (hx200)) rfl (by rfl) rfl) ?_
            refine AO.nil ?_
            refine AW.seq ?_
            refine AW.seq ?_
            refine AW.region ?_
            refine AO.pure T rfl rfl rfl ?_
            refine AO.pure T rfl rfl rfl ?_
            refine AO.pure T rfl rfl rfl ?_
            refine AO.pure T rfl rfl rfl ?_
            refine AO.pureG T [] rfl trivial rfl rfl ?_
            refine AO.pureG T [] rfl trivial rfl rfl ?_
            refine AO.pureG T [196, 197] rfl ⟨fun h => h, fun h => h, trivial⟩ rfl rfl ?_
            refine AO.val rfl rfl (pick_and rfl rfl rfl rfl) ?_
            refine AO.nil ?_
            refine AW.le (Le.cut 0 0 (σ' := (⟨[(0, .R 1), (1, .v (.int .i64 a)), (3, .v (.int .i64 b)), (4, .f cmp_f cmp_c), (18, .v (.int .i64 (IntKind.wrap .i64 ((IntKind.wrap .u64 (w64 (a + b))).fdiv (2 ^ 1))))), (20, .v (.int .i64 v172)), (24, .v (.int .i64 (w64 ((w64 ((IntKind.wrap .i64 ((IntKind.wrap .u64 (w64 (a + b))).fdiv (2 ^ 1))) + m)) - v172)))), (199, .v (.bool (decide (a < v172) && decide (v172 < (IntKind.wrap .i64 ((IntKind.wrap .u64 (w64 (a + b))).fdiv (2 ^ 1)))))))], [(1, .row 3 (List.map encRank x199))], 220, [(1, L 1)]⟩ : St)) rfl ⟨⟨_, rfl, rfl⟩, ⟨_, rfl, rfl⟩, ⟨_, rfl, rfl⟩, ⟨_, rfl, ren_fF cmp_r⟩, ⟨_, rfl, rfl⟩, ⟨_, rfl, rfl⟩, ⟨_, rfl, rfl⟩, ⟨_, rfl, rfl⟩, trivial⟩ (by repeat' (first | exact trivial | refine ⟨⟨_, rfl, rfl⟩, ?_⟩)) (andT (allC rfl (allC rfl (allC rfl (allC (known_fF cmp_r) (allC rfl (allC rfl (allC rfl (allC rfl allN)))))))) rfl) ⟨⟨rfl, rfl⟩, trivial⟩) ?_
            refine AW.cond (b := (decide (a < v172) && decide (v172 < (IntKind.wrap .i64 ((IntKind.wrap .u64 (w64 (a + b))).fdiv (2 ^ 1)))))) rfl (fun hc => ?_) (fun hc => ?_)
            · replace hH := condT hc hH
              obtain ⟨x201, hx202, hH⟩ := bindE hH
              refine AW.region ?_
              refine AO.pure T rfl rfl rfl ?_
              refine AO.pure T rfl rfl rfl ?_
              refine AO.pure T rfl rfl rfl ?_
              refine AO.pure T rfl rfl rfl ?_
              refine AO.pure T rfl rfl rfl ?_
              refine AO.step rfl (callM_ok rfl 2 rfl rfl (es := [.w 3 (x199.map encRank), .v (.int .i64 a), .v (.int .i64 v172), .v (.int .i64 (IntKind.wrap .i64 ((IntKind.wrap .u64 (w64 (a + b))).fdiv (2 ^ 1)))), .f cmp_f cmp_c]) (outs := [.w 3 (x201.map encRank), .u, .u, .u, .u]) (ids := [1]) (by exact expLG_cons (.c (.rowR rfl)) (expLG_cons (.c .v) (expLG_cons (.c .v) (expLG_cons (.c .v) (expLG_cons (.c (.f cmp_r)) (expLG_nil)))))) (by decide) (.inl (by rfl)) (by rfl) (ih _ _ _ _ cmp_f cmp_c cmp_k cmp cmp_h _ (hx202)) rfl (by rfl) rfl) ?_
              refine AO.nil ?_
              refine AW.seq ?_
              refine AW.region ?_
              refine AO.pure T rfl rfl rfl ?_
              refine AO.pure T rfl rfl rfl ?_
              refine AO.pure T rfl rfl rfl ?_
              refine AO.pure T rfl rfl rfl ?_
              refine AO.pureG T [] rfl trivial rfl rfl ?_
              refine AO.pureG T [] rfl trivial rfl rfl ?_
              refine AO.pureG T [210, 211] rfl ⟨fun h => h, fun h => h, trivial⟩ rfl rfl ?_
              refine AO.val rfl rfl (pick_and rfl rfl rfl rfl) ?_
              refine AO.nil ?_
              refine AW.cond (b := (decide ((IntKind.wrap .i64 ((IntKind.wrap .u64 (w64 (a + b))).fdiv (2 ^ 1))) < (w64 ((w64 ((IntKind.wrap .i64 ((IntKind.wrap .u64 (w64 (a + b))).fdiv (2 ^ 1))) + m)) - v172))) && decide ((w64 ((w64 ((IntKind.wrap .i64 ((IntKind.wrap .u64 (w64 (a + b))).fdiv (2 ^ 1))) + m)) - v172)) < b))) rfl (fun hc => ?_) (fun hc => ?_)
              · replace hH := condT hc hH
                obtain ⟨x203, hx204, hH⟩ := bindE hH
                refine AW.region ?_
                refine AO.pure T rfl rfl rfl ?_
                refine AO.pure T rfl rfl rfl ?_
                refine AO.pure T rfl rfl rfl ?_
                refine AO.pure T rfl rfl rfl ?_
                refine AO.pure T rfl rfl rfl ?_
                refine AO.step rfl (callM_ok rfl 2 rfl rfl (es := [.w 3 (x201.map encRank), .v (.int .i64 (IntKind.wrap .i64 ((IntKind.wrap .u64 (w64 (a + b))).fdiv (2 ^ 1)))), .v (.int .i64 (w64 ((w64 ((IntKind.wrap .i64 ((IntKind.wrap .u64 (w64 (a + b))).fdiv (2 ^ 1))) + m)) - v172))), .v (.int .i64 b), .f cmp_f cmp_c]) (outs := [.w 3 (x203.map encRank), .u, .u, .u, .u]) (ids := [1]) (by exact expLG_cons (.c (.rowR rfl)) (expLG_cons (.c .v) (expLG_cons (.c .v) (expLG_cons (.c .v) (expLG_cons (.c (.f cmp_r)) (expLG_nil)))))) (by decide) (.inl (by rfl)) (by rfl) (ih _ _ _ _ cmp_f cmp_c cmp_k cmp cmp_h _ (hx204)) rfl (by rfl) rfl) ?_
                refine AO.nil ?_
                cases someE hH
                exact ⟨trivial, rfl, _, [], [1], rfl, expLG_cons (.c (.rowR rfl)) (expLG_cons (.c .u) (expLG_cons (.c .u) (expLG_cons (.c .u) (expLG_cons (.c .u) (expLG_nil))))), .t expLG_nil, by decide⟩
              · replace hH := condF hc hH
                refine AW.skip ?_
                cases someE hH
                exact ⟨trivial, rfl, _, [], [1], rfl, expLG_cons (.c (.rowR rfl)) (expLG_cons (.c .u) (expLG_cons (.c .u) (expLG_cons (.c .u) (expLG_cons (.c .u) (expLG_nil))))), .t expLG_nil, by decide⟩
            · replace hH := condF hc hH
              refine AW.skip ?_
              refine AW.seq ?_
              refine AW.region ?_
              refine AO.pure T rfl rfl rfl ?_
              refine AO.pure T rfl rfl rfl ?_
              refine AO.pure T rfl rfl rfl ?_
              refine AO.pure T rfl rfl rfl ?_
              refine AO.pureG T [] rfl trivial rfl rfl ?_
              refine AO.pureG T [] rfl trivial rfl rfl ?_
              refine AO.pureG T [210, 211] rfl ⟨fun h => h, fun h => h, trivial⟩ rfl rfl ?_
              refine AO.val rfl rfl (pick_and rfl rfl rfl rfl) ?_
              refine AO.nil ?_
              refine AW.cond (b := (decide ((IntKind.wrap .i64 ((IntKind.wrap .u64 (w64 (a + b))).fdiv (2 ^ 1))) < (w64 ((w64 ((IntKind.wrap .i64 ((IntKind.wrap .u64 (w64 (a + b))).fdiv (2 ^ 1))) + m)) - v172))) && decide ((w64 ((w64 ((IntKind.wrap .i64 ((IntKind.wrap .u64 (w64 (a + b))).fdiv (2 ^ 1))) + m)) - v172)) < b))) rfl (fun hc => ?_) (fun hc => ?_)
              · replace hH := condT hc hH
                obtain ⟨x205, hx206, hH⟩ := bindE hH
                refine AW.region ?_
                refine AO.pure T rfl rfl rfl ?_
                refine AO.pure T rfl rfl rfl ?_
                refine AO.pure T rfl rfl rfl ?_
                refine AO.pure T rfl rfl rfl ?_
                refine AO.pure T rfl rfl rfl ?_
                refine AO.step rfl (callM_ok rfl 2 rfl rfl (es := [.w 3 (x199.map encRank), .v (.int .i64 (IntKind.wrap .i64 ((IntKind.wrap .u64 (w64 (a + b))).fdiv (2 ^ 1)))), .v (.int .i64 (w64 ((w64 ((IntKind.wrap .i64 ((IntKind.wrap .u64 (w64 (a + b))).fdiv (2 ^ 1))) + m)) - v172))), .v (.int .i64 b), .f cmp_f cmp_c]) (outs := [.w 3 (x205.map encRank), .u, .u, .u, .u]) (ids := [1]) (by exact expLG_cons (.c (.rowR rfl)) (expLG_cons (.c .v) (expLG_cons (.c .v) (expLG_cons (.c .v) (expLG_cons (.c (.f cmp_r)) (expLG_nil)))))) (by decide) (.inl (by rfl)) (by rfl) (ih _ _ _ _ cmp_f cmp_c cmp_k cmp cmp_h _ (hx206)) rfl (by rfl) rfl) ?_
                refine AO.nil ?_
                cases someE hH
                exact ⟨trivial, rfl, _, [], [1], rfl, expLG_cons (.c (.rowR rfl)) (expLG_cons (.c .u) (expLG_cons (.c .u) (expLG_cons (.c .u) (expLG_cons (.c .u) (expLG_nil))))), .t expLG_nil, by decide⟩
              · replace hH := condF hc hH
                refine AW.skip ?_
                cases someE hH
                exact ⟨trivial, rfl, _, [], [1], rfl, expLG_cons (.c (.rowR rfl)) (expLG_cons (.c .u) (expLG_cons (.c .u) (expLG_cons (.c .u) (expLG_cons (.c .u) (expLG_nil))))), .t expLG_nil, by decide⟩
          · replace hH := condF hc hH
            refine AW.skip ?_
            refine AW.seq ?_
            refine AW.seq ?_
            refine AW.region ?_
            refine AO.pure T rfl rfl rfl ?_
            refine AO.pure T rfl rfl rfl ?_
            refine AO.pure T rfl rfl rfl ?_
            refine AO.pure T rfl rfl rfl ?_
            refine AO.pureG T [] rfl trivial rfl rfl ?_
            refine AO.pureG T [] rfl trivial rfl rfl ?_
            refine AO.pureG T [196, 197] rfl ⟨fun h => h, fun h => h, trivial⟩ rfl rfl ?_
            refine AO.val rfl rfl (pick_and rfl rfl rfl rfl) ?_
            refine AO.nil ?_
            refine AW.cond (b := (decide (a < v172) && decide (v172 < (IntKind.wrap .i64 ((IntKind.wrap .u64 (w64 (a + b))).fdiv (2 ^ 1)))))) rfl (fun hc => ?_) (fun hc => ?_)
            · replace hH := condT hc hH
              obtain ⟨x207, hx208, hH⟩ := bindE hH
              refine AW.region ?_
              refine AO.pure T rfl rfl rfl ?_
              refine AO.pure T rfl rfl rfl ?_
              refine AO.pure T rfl rfl rfl ?_
              refine AO.pure T rfl rfl rfl ?_
              refine AO.pure T rfl rfl rfl ?_
              refine AO.step rfl (callM_ok rfl 2 rfl rfl (es := [.w 3 (data.map encRank), .v (.int .i64 a), .v (.int .i64 v172), .v (.int .i64 (IntKind.wrap .i64 ((IntKind.wrap .u64 (w64 (a + b))).fdiv (2 ^ 1)))), .f cmp_f cmp_c]) (outs := [.w 3 (x207.map encRank), .u, .u, .u, .u]) (ids := [1]) (by exact expLG_cons (.c (.rowR rfl)) (expLG_cons (.c .v) (expLG_cons (.c .v) (expLG_cons (.c .v) (expLG_cons (.c (.f cmp_r)) (expLG_nil)))))) (by decide) (.inl (by rfl)) (by rfl) (ih _ _ _ _ cmp_f cmp_c cmp_k cmp cmp_h _ (hx208)) rfl (by rfl) rfl) ?_
              refine AO.nil ?_
              refine AW.le (Le.cut 0 0 (σ' := (⟨[(0, .R 1), (3, .v (.int .i64 b)), (4, .f cmp_f cmp_c), (18, .v (.int .i64 (IntKind.wrap .i64 ((IntKind.wrap .u64 (w64 (a + b))).fdiv (2 ^ 1))))), (24, .v (.int .i64 (w64 ((w64 ((IntKind.wrap .i64 ((IntKind.wrap .u64 (w64 (a + b))).fdiv (2 ^ 1))) + m)) - v172))))], [(1, .row 3 (List.map encRank x207))], 220, [(1, L 1)]⟩ : St)) rfl ⟨⟨_, rfl, rfl⟩, ⟨_, rfl, rfl⟩, ⟨_, rfl, ren_fF cmp_r⟩, ⟨_, rfl, rfl⟩, ⟨_, rfl, rfl⟩, trivial⟩ (by repeat' (first | exact trivial | refine ⟨⟨_, rfl, rfl⟩, ?_⟩)) (andT (allC rfl (allC rfl (allC (known_fF cmp_r) (allC rfl (allC rfl allN))))) rfl) ⟨⟨rfl, rfl⟩, trivial⟩) ?_
              refine AW.seq ?_
              refine AW.region ?_
              refine AO.pure T rfl rfl rfl ?_
              refine AO.pure T rfl rfl rfl ?_
              refine AO.pure T rfl rfl rfl ?_
              refine AO.pure T rfl rfl rfl ?_
              refine AO.pureG T [] rfl trivial rfl rfl ?_
              refine AO.pureG T [] rfl trivial rfl rfl ?_
              refine AO.pureG T [210, 211] rfl ⟨fun h => h, fun h => h, trivial⟩ rfl rfl ?_
              refine AO.val rfl rfl (pick_and rfl rfl rfl rfl) ?_
              refine AO.nil ?_
              refine AW.cond (b := (decide ((IntKind.wrap .i64 ((IntKind.wrap .u64 (w64 (a + b))).fdiv (2 ^ 1))) < (w64 ((w64 ((IntKind.wrap .i64 ((IntKind.wrap .u64 (w64 (a + b))).fdiv (2 ^ 1))) + m)) - v172))) && decide ((w64 ((w64 ((IntKind.wrap .i64 ((IntKind.wrap .u64 (w64 (a + b))).fdiv (2 ^ 1))) + m)) - v172)) < b))) rfl (fun hc => ?_) (fun hc => ?_)
              · replace hH := condT hc hH
                obtain ⟨x209, hx210, hH⟩ := bindE hH
                refine AW.region ?_
                refine AO.pure T rfl rfl rfl ?_
                refine AO.pure T rfl rfl rfl ?_
                refine AO.pure T rfl rfl rfl ?_
                refine AO.pure T rfl rfl rfl ?_
                refine AO.pure T rfl rfl rfl ?_
                refine AO.step rfl (callM_ok rfl 2 rfl rfl (es := [.w 3 (x207.map encRank), .v (.int .i64 (IntKind.wrap .i64 ((IntKind.wrap .u64 (w64 (a + b))).fdiv (2 ^ 1)))), .v (.int .i64 (w64 ((w64 ((IntKind.wrap .i64 ((IntKind.wrap .u64 (w64 (a + b))).fdiv (2 ^ 1))) + m)) - v172))), .v (.int .i64 b), .f cmp_f cmp_c]) (outs := [.w 3 (x209.map encRank), .u, .u, .u, .u]) (ids := [1]) (by exact expLG_cons (.c (.rowR rfl)) (expLG_cons (.c .v) (expLG_cons (.c .v) (expLG_cons (.c .v) (expLG_cons (.c (.f cmp_r)) (expLG_nil)))))) (by decide) (.inl (by rfl)) (by rfl) (ih _ _ _ _ cmp_f cmp_c cmp_k cmp cmp_h _ (hx210)) rfl (by rfl) rfl) ?_
                refine AO.nil ?_
                cases someE hH
                exact ⟨trivial, rfl, _, [], [1], rfl, expLG_cons (.c (.rowR rfl)) (expLG_cons (.c .u) (expLG_cons (.c .u) (expLG_cons (.c .u) (expLG_cons (.c .u) (expLG_nil))))), .t expLG_nil, by decide⟩
              · replace hH := condF hc hH
                refine AW.skip ?_
                cases someE hH
                exact ⟨trivial, rfl, _, [], [1], rfl, expLG_cons (.c (.rowR rfl)) (expLG_cons (.c .u) (expLG_cons (.c .u) (expLG_cons (.c .u) (expLG_cons (.c .u) (expLG_nil))))), .t expLG_nil, by decide⟩
            · replace hH := condF hc hH
              refine AW.skip ?_
              refine AW.seq ?_
              refine AW.region ?_
              refine AO.pure T rfl rfl rfl ?_
              refine AO.pure T rfl rfl rfl ?_
              refine AO.pure T rfl rfl rfl ?_
              refine AO.pure T rfl rfl rfl ?_
              refine AO.pureG T [] rfl trivial rfl rfl ?_
              refine AO.pureG T [] rfl trivial rfl rfl ?_
              refine AO.pureG T [210, 211] rfl ⟨fun h => h, fun h => h, trivial⟩ rfl rfl ?_
              refine AO.val rfl rfl (pick_and rfl rfl rfl rfl) ?_
              refine AO.nil ?_
              refine AW.le (Le.cut 0 0 (σ' := (⟨[(0, .R 1), (3, .v (.int .i64 b)), (4, .f cmp_f cmp_c), (18, .v (.int .i64 (IntKind.wrap .i64 ((IntKind.wrap .u64 (w64 (a + b))).fdiv (2 ^ 1))))), (24, .v (.int .i64 (w64 ((w64 ((IntKind.wrap .i64 ((IntKind.wrap .u64 (w64 (a + b))).fdiv (2 ^ 1))) + m)) - v172)))), (213, .v (.bool (decide ((IntKind.wrap .i64 ((IntKind.wrap .u64 (w64 (a + b))).fdiv (2 ^ 1))) < (w64 ((w64 ((IntKind.wrap .i64 ((IntKind.wrap .u64 (w64 (a + b))).fdiv (2 ^ 1))) + m)) - v172))) && decide ((w64 ((w64 ((IntKind.wrap .i64 ((IntKind.wrap .u64 (w64 (a + b))).fdiv (2 ^ 1))) + m)) - v172)) < b))))], [(1, .row 3 (List.map encRank data))], 220, [(1, L 1)]⟩ : St)) rfl ⟨⟨_, rfl, rfl⟩, ⟨_, rfl, rfl⟩, ⟨_, rfl, ren_fF cmp_r⟩, ⟨_, rfl, rfl⟩, ⟨_, rfl, rfl⟩, ⟨_, rfl, rfl⟩, trivial⟩ (by repeat' (first | exact trivial | refine ⟨⟨_, rfl, rfl⟩, ?_⟩)) (andT (allC rfl (allC rfl (allC (known_fF cmp_r) (allC rfl (allC rfl (allC rfl allN)))))) rfl) ⟨⟨rfl, rfl⟩, trivial⟩) ?_
              refine AW.cond (b := (decide ((IntKind.wrap .i64 ((IntKind.wrap .u64 (w64 (a + b))).fdiv (2 ^ 1))) < (w64 ((w64 ((IntKind.wrap .i64 ((IntKind.wrap .u64 (w64 (a + b))).fdiv (2 ^ 1))) + m)) - v172))) && decide ((w64 ((w64 ((IntKind.wrap .i64 ((IntKind.wrap .u64 (w64 (a + b))).fdiv (2 ^ 1))) + m)) - v172)) < b))) rfl (fun hc => ?_) (fun hc => ?_)
              · replace hH := condT hc hH
                obtain ⟨x211, hx212, hH⟩ := bindE hH
                refine AW.region ?_
                refine AO.pure T rfl rfl rfl ?_
                refine AO.pure T rfl rfl rfl ?_
                refine AO.pure T rfl rfl rfl ?_
                refine AO.pure T rfl rfl rfl ?_
                refine AO.pure T rfl rfl rfl ?_
                refine AO.step rfl (callM_ok rfl 2 rfl rfl (es := [.w 3 (data.map encRank), .v (.int .i64 (IntKind.wrap .i64 ((IntKind.wrap .u64 (w64 (a + b))).fdiv (2 ^ 1)))), .v (.int .i64 (w64 ((w64 ((IntKind.wrap .i64 ((IntKind.wrap .u64 (w64 (a + b))).fdiv (2 ^ 1))) + m)) - v172))), .v (.int .i64 b), .f cmp_f cmp_c]) (outs := [.w 3 (x211.map encRank), .u, .u, .u, .u]) (ids := [1]) (by exact expLG_cons (.c (.rowR rfl)) (expLG_cons (.c .v) (expLG_cons (.c .v) (expLG_cons (.c .v) (expLG_cons (.c (.f cmp_r)) (expLG_nil)))))) (by decide) (.inl (by rfl)) (by rfl) (ih _ _ _ _ cmp_f cmp_c cmp_k cmp cmp_h _ (hx212)) rfl (by rfl) rfl) ?_
                refine AO.nil ?_
                cases someE hH
                exact ⟨trivial, rfl, _, [], [1], rfl, expLG_cons (.c (.rowR rfl)) (expLG_cons (.c .u) (expLG_cons (.c .u) (expLG_cons (.c .u) (expLG_cons (.c .u) (expLG_nil))))), .t expLG_nil, by decide⟩
              · replace hH := condF hc hH
                refine AW.skip ?_
                cases someE hH
                exact ⟨trivial, rfl, _, [], [1], rfl, expLG_cons (.c (.rowR rfl)) (expLG_cons (.c .u) (expLG_cons (.c .u) (expLG_cons (.c .u) (expLG_cons (.c .u) (expLG_nil))))), .t expLG_nil, by decide⟩
      · replace hH := condF hc hH
        refine AW.seq ?_
        refine AW.region ?_
        refine AO.pure T rfl rfl rfl ?_
        refine AO.pure T rfl rfl rfl ?_
        refine AO.nil ?_
        refine AW.region ?_
        refine AO.pure T rfl rfl rfl ?_
        refine AO.pure T rfl rfl rfl ?_
        refine AO.nil ?_
        refine AW.seq ?_
        refine AW.region ?_
        refine AO.pure T rfl rfl rfl ?_
        refine AO.val rfl rfl (arw_ok rfl rfl rfl rfl) ?_
        refine AO.pure T rfl rfl rfl ?_
        refine AO.nil ?_
        obtain ⟨o237, hH, hK238⟩ := bindE hH
        refine AW.seqJ (fun s : Int => (⟨[(0, .R 1), (1, .v (.int .i64 a)), (2, .v (.int .i64 m)), (3, .v (.int .i64 b)), (4, .f cmp_f cmp_c), (18, .v (.int .i64 (IntKind.wrap .i64 ((IntKind.wrap .u64 (w64 (a + b))).fdiv (2 ^ 1))))), (19, .v (.int .i64 (w64 ((IntKind.wrap .i64 ((IntKind.wrap .u64 (w64 (a + b))).fdiv (2 ^ 1))) + m)))), (20, .v (.int .i64 s))], [(1, .row 3 (List.map encRank data))], 220, [(1, L 1)]⟩ : St)) (fun s => s = o237) ?_ ?_
        · refine AW.block ?_
          refine AW.loopS (fun s : Nat × Int × Int => (⟨[(0, .R 1), (1, .v (.int .i64 a)), (2, .v (.int .i64 m)), (3, .v (.int .i64 b)), (4, .f cmp_f cmp_c), (18, .v (.int .i64 (IntKind.wrap .i64 ((IntKind.wrap .u64 (w64 (a + b))).fdiv (2 ^ 1))))), (19, .v (.int .i64 (w64 ((IntKind.wrap .i64 ((IntKind.wrap .u64 (w64 (a + b))).fdiv (2 ^ 1))) + m)))), (20, .v (.int .i64 s.2.1)), (21, .v (.int .i64 s.2.2)), (22, .v (.int .i64 (w64 ((w64 ((IntKind.wrap .i64 ((IntKind.wrap .u64 (w64 (a + b))).fdiv (2 ^ 1))) + m)) - 1))))], [(1, .row 3 (List.map encRank data))], 220, [(1, L 1)]⟩ : St)) (fun s => slices_symMergeCmpFunc_Rank_l6 data a m b cmp s.1 s.2.1 s.2.2 = some o237) (fun s => s.1) (fuel, a, m) hH ?_ ?_
          · exact Le.cut 0 0 rfl ⟨⟨_, rfl, rfl⟩, ⟨_, rfl, rfl⟩, ⟨_, rfl, rfl⟩, ⟨_, rfl, rfl⟩, ⟨_, rfl, ren_fF cmp_r⟩, ⟨_, rfl, rfl⟩, ⟨_, rfl, rfl⟩, ⟨_, rfl, rfl⟩, ⟨_, rfl, rfl⟩, ⟨_, rfl, rfl⟩, trivial⟩ (by repeat' (first | exact trivial | refine ⟨⟨_, rfl, rfl⟩, ?_⟩)) (andT (allC rfl (allC rfl (allC rfl (allC rfl (allC (known_fF cmp_r) (allC rfl (allC rfl (allC rfl (allC rfl (allC rfl allN)))))))))) rfl) ⟨⟨rfl, rfl⟩, trivial⟩
          · rintro ⟨k239, v254, v255⟩ hH
            replace hH : slices_symMergeCmpFunc_Rank_l6 data a m b cmp k239 v254 v255 = some o237 := hH
            show AW _ _ _ (⟨[(0, .R 1), (1, .v (.int .i64 a)), (2, .v (.int .i64 m)), (3, .v (.int .i64 b)), (4, .f cmp_f cmp_c), (18, .v (.int .i64 (IntKind.wrap .i64 ((IntKind.wrap .u64 (w64 (a + b))).fdiv (2 ^ 1))))), (19, .v (.int .i64 (w64 ((IntKind.wrap .i64 ((IntKind.wrap .u64 (w64 (a + b))).fdiv (2 ^ 1))) + m)))), (20, .v (.int .i64 v254)), (21, .v (.int .i64 v255)), (22, .v (.int .i64 (w64 ((w64 ((IntKind.wrap .i64 ((IntKind.wrap .u64 (w64 (a + b))).fdiv (2 ^ 1))) + m)) - 1))))], [(1, .row 3 (List.map encRank data))], 220, [(1, L 1)]⟩ : St)
            cases k239 with
            | zero => cases (show none = some _ from hH)
            | succ k239 =>
              rw [slices_symMergeCmpFunc_Rank_l6] at hH
              refine AW.seq ?_
              refine AW.seq ?_
              refine AW.region ?_
              refine AO.pure T rfl rfl rfl ?_
              refine AO.pure T rfl rfl rfl ?_
              refine AO.pure T rfl rfl rfl ?_
              refine AO.nil ?_
              refine AW.cond (b := decide (v254 < v255)) rfl (fun hc => ?_) (fun hc => ?_)
              · replace hH := condT hc hH
                refine AW.skip ?_
                refine AW.block ?_
                refine AW.seq ?_
                refine AW.region ?_
                refine AO.pure T rfl rfl rfl ?_
                refine AO.pure T rfl rfl rfl ?_
                refine AO.val rfl rfl (arw_ok rfl rfl rfl rfl) ?_
                refine AO.val rfl rfl (convw_ok T rfl rfl rfl rfl) ?_
                refine AO.val rfl rfl (shr_ok rfl rfl rfl rfl rfl) ?_
                refine AO.val rfl rfl (convw_ok T rfl rfl rfl rfl) ?_
                refine AO.pure T rfl rfl rfl ?_
                refine AO.nil ?_
                refine AW.seq ?_
                obtain ⟨x257, hx258, hH⟩ := bindE hH
                obtain ⟨x259, hx260, hH⟩ := bindE hH
                obtain ⟨x261, hx262, hH⟩ := bindE hH
                refine AW.drawn 11 2 [] mix (by kernel_rfl) rfl ?_
                refine AD.pure T rfl rfl rfl ?_
                refine AD.pure T rfl rfl rfl ?_
                refine AD.pure T rfl rfl rfl ?_
                refine AD.pure T rfl rfl rfl ?_
                refine AD.val rfl rfl (arw_ok rfl rfl rfl rfl) ?_
                refine AD.val rfl rfl (ix_row_ok T rfl rfl rfl rfl rfl rfl (hx258)) ?_
                refine AD.val rfl rfl (load_row_ok T rfl rfl rfl rfl (getI_get (hx258)) rfl rfl rfl) ?_
                refine AD.pure T rfl rfl rfl ?_
                refine AD.pure T rfl rfl rfl ?_
                refine AD.val rfl rfl (ix_row_ok T rfl rfl rfl rfl rfl rfl (hx260)) ?_
                refine AD.val rfl rfl (load_row_ok T rfl rfl rfl rfl (getI_get (hx260)) rfl rfl rfl) ?_
                refine AD.nil ?_
                refine AO.val rfl rfl (callV_ok rfl rfl rfl (andT rfl (free_cfree cmp_r)) (cmp_h _ _ _ (hx262)) rfl) ?_
                refine AO.pure T rfl rfl rfl ?_
                refine AO.pure T rfl rfl rfl ?_
                refine AO.nil ?_
                refine AW.le (Le.cut 0 0 (σ' := (⟨[(0, .R 1), (1, .v (.int .i64 a)), (2, .v (.int .i64 m)), (3, .v (.int .i64 b)), (4, .f cmp_f cmp_c), (18, .v (.int .i64 (IntKind.wrap .i64 ((IntKind.wrap .u64 (w64 (a + b))).fdiv (2 ^ 1))))), (19, .v (.int .i64 (w64 ((IntKind.wrap .i64 ((IntKind.wrap .u64 (w64 (a + b))).fdiv (2 ^ 1))) + m)))), (20, .v (.int .i64 v254)), (21, .v (.int .i64 v255)), (22, .v (.int .i64 (w64 ((w64 ((IntKind.wrap .i64 ((IntKind.wrap .u64 (w64 (a + b))).fdiv (2 ^ 1))) + m)) - 1)))), (23, .v (.int .i64 (IntKind.wrap .i64 ((IntKind.wrap .u64 (w64 (v254 + v255))).fdiv (2 ^ 1))))), (171, .v (.bool (!(decide (x261 < 0)))))], [(1, .row 3 (List.map encRank data))], 220, [(1, L 1)]⟩ : St)) rfl ⟨⟨_, rfl, rfl⟩, ⟨_, rfl, rfl⟩, ⟨_, rfl, rfl⟩, ⟨_, rfl, rfl⟩, ⟨_, rfl, ren_fF cmp_r⟩, ⟨_, rfl, rfl⟩, ⟨_, rfl, rfl⟩, ⟨_, rfl, rfl⟩, ⟨_, rfl, rfl⟩, ⟨_, rfl, rfl⟩, ⟨_, rfl, rfl⟩, ⟨_, rfl, rfl⟩, trivial⟩ (by repeat' (first | exact trivial | refine ⟨⟨_, rfl, rfl⟩, ?_⟩)) (andT (allC rfl (allC rfl (allC rfl (allC rfl (allC (known_fF cmp_r) (allC rfl (allC rfl (allC rfl (allC rfl (allC rfl (allC rfl (allC rfl allN)))))))))))) rfl) ⟨⟨rfl, rfl⟩, trivial⟩) ?_
                refine AW.cond (b := (!(decide (x261 < 0)))) rfl (fun hc => ?_) (fun hc => ?_)
                · replace hH := condT hc hH
                  refine AW.region ?_
                  refine AO.pure T rfl rfl rfl ?_
                  refine AO.val rfl rfl (arw_ok rfl rfl rfl rfl) ?_
                  refine AO.pure T rfl rfl rfl ?_
                  refine AO.nil ?_
                  refine ⟨(k239, w64 ((IntKind.wrap .i64 ((IntKind.wrap .u64 (w64 (v254 + v255))).fdiv (2 ^ 1))) + 1), v255), hH, Nat.lt_succ_self _, ?_⟩
                  exact Le.cut 0 0 rfl ⟨⟨_, rfl, rfl⟩, ⟨_, rfl, rfl⟩, ⟨_, rfl, rfl⟩, ⟨_, rfl, rfl⟩, ⟨_, rfl, ren_fF cmp_r⟩, ⟨_, rfl, rfl⟩, ⟨_, rfl, rfl⟩, ⟨_, rfl, rfl⟩, ⟨_, rfl, rfl⟩, ⟨_, rfl, rfl⟩, trivial⟩ (by repeat' (first | exact trivial | refine ⟨⟨_, rfl, rfl⟩, ?_⟩)) (andT (allC rfl (allC rfl (allC rfl (allC rfl (allC (known_fF cmp_r) (allC rfl (allC rfl (allC rfl (allC rfl (allC rfl allN)))))))))) rfl) ⟨⟨rfl, rfl⟩, trivial⟩
                · replace hH := condF hc hH
                  refine AW.region ?_
                  refine AO.pure T rfl rfl rfl ?_
                  refine AO.pure T rfl rfl rfl ?_
                  refine AO.nil ?_
                  refine ⟨(k239, v254, IntKind.wrap .i64 ((IntKind.wrap .u64 (w64 (v254 + v255))).fdiv (2 ^ 1))), hH, Nat.lt_succ_self _, ?_⟩
                  exact Le.cut 0 0 rfl ⟨⟨_, rfl, rfl⟩, ⟨_, rfl, rfl⟩, ⟨_, rfl, rfl⟩, ⟨_, rfl, rfl⟩, ⟨_, rfl, ren_fF cmp_r⟩, ⟨_, rfl, rfl⟩, ⟨_, rfl, rfl⟩, ⟨_, rfl, rfl⟩, ⟨_, rfl, rfl⟩, ⟨_, rfl, rfl⟩, trivial⟩ (by repeat' (first | exact trivial | refine ⟨⟨_, rfl, rfl⟩, ?_⟩)) (andT (allC rfl (allC rfl (allC rfl (allC rfl (allC (known_fF cmp_r) (allC rfl (allC rfl (allC rfl (allC rfl (allC rfl allN)))))))))) rfl) ⟨⟨rfl, rfl⟩, trivial⟩
              · replace hH := condF hc hH
                refine AW.exit ?_
                refine ⟨_, someE hH, ?_⟩
                exact Le.cut 0 0 rfl ⟨⟨_, rfl, rfl⟩, ⟨_, rfl, rfl⟩, ⟨_, rfl, rfl⟩, ⟨_, rfl, rfl⟩, ⟨_, rfl, ren_fF cmp_r⟩, ⟨_, rfl, rfl⟩, ⟨_, rfl, rfl⟩, ⟨_, rfl, rfl⟩, trivial⟩ (by repeat' (first | exact trivial | refine ⟨⟨_, rfl, rfl⟩, ?_⟩)) (andT (allC rfl (allC rfl (allC rfl (allC rfl (allC (known_fF cmp_r) (allC rfl (allC rfl (allC rfl allN)))))))) rfl) ⟨⟨rfl, rfl⟩, trivial⟩
        · rintro v236 hs
          subst hs
          replace hH := hK238
          try dsimp only [flow, flowE] at hH
          show AW _ _ _ (⟨[(0, .R 1), (1, .v (.int .i64 a)), (2, .v (.int .i64 m)), (3, .v (.int .i64 b)), (4, .f cmp_f cmp_c), (18, .v (.int .i64 (IntKind.wrap .i64 ((IntKind.wrap .u64 (w64 (a + b))).fdiv (2 ^ 1))))), (19, .v (.int .i64 (w64 ((IntKind.wrap .i64 ((IntKind.wrap .u64 (w64 (a + b))).fdiv (2 ^ 1))) + m)))), (20, .v (.int .i64 v236))], [(1, .row 3 (List.map encRank data))], 220, [(1, L 1)]⟩ : St)
          refine AW.seq ?_
          refine AW.region ?_
          refine AO.pure T rfl rfl rfl ?_
          refine AO.pure T rfl rfl rfl ?_
          refine AO.val rfl rfl (arw_ok rfl rfl rfl rfl) ?_
          refine AO.pure T rfl rfl rfl ?_
          refine AO.nil ?_
          refine AW.seq ?_
          refine AW.seq ?_
          refine AW.region ?_
          refine AO.pure T rfl rfl rfl ?_
          refine AO.pure T rfl rfl rfl ?_
          refine AO.pure T rfl rfl rfl ?_
          refine AO.pure T rfl rfl rfl ?_
          refine AO.pureG T [] rfl trivial rfl rfl ?_
          refine AO.pureG T [] rfl trivial rfl rfl ?_
          refine AO.pureG T [182, 183] rfl ⟨fun h => h, fun h => h, trivial⟩ rfl rfl ?_
          refine AO.val rfl rfl (pick_and rfl rfl rfl rfl) ?_
          refine AO.nil ?_
          refine AW.cond (b := (decide (v236 < m) && decide (m < (w64 ((w64 ((IntKind.wrap .i64 ((IntKind.wrap .u64 (w64 (a + b))).fdiv (2 ^ 1))) + m)) - v236))))) rfl (fun hc => ?_) (fun hc => ?_)
          · replace hH := condT hc hH
            obtain ⟨x263, hx264, hH⟩ := bindE hH
            refine AW.region ?_
            refine AO.pure T rfl rfl rfl ?_
            refine AO.pure T rfl rfl rfl ?_
            refine AO.pure T rfl rfl rfl ?_
            refine AO.pure T rfl rfl rfl ?_
            refine AO.pure T rfl rfl rfl ?_
            refine AO.step rfl (callM_ok rfl 2 rfl rfl (es := [.w 3 (data.map encRank), .v (.int .i64 v236), .v (.int .i64 m), .v (.int .i64 (w64 ((w64 ((IntKind.wrap .i64 ((IntKind.wrap .u64 (w64 (a + b))).fdiv (2 ^ 1))) + m)) - v236))), .f cmp_f cmp_c]) (outs := [.w 3 (x263.map encRank), .u, .u, .u, .u]) (ids := [1]) (by exact expLG_cons (.c (.rowR rfl)) (expLG_cons (.c .v) (expLG_cons (.c .v) (expLG_cons (.c .v) (expLG_cons (.c (.f cmp_r)) (expLG_nil)))))) (by decide) (.inl (by rfl)) (by rfl) (slices_rotateCmpFunc_Rank_ok fuel _ _ _ _ cmp_f cmp_c cmp_k cmp cmp_h _ (hx264)) rfl (by rfl) rfl) ?_
            refine AO.nil ?_
            refine AW.seq ?_
            refine AW.seq ?_
            refine AW.region ?_
            refine AO.pure T rfl rfl rfl ?_
            refine AO.pure T rfl rfl rfl ?_
            refine AO.pure T rfl rfl rfl ?_
            refine AO.pure T rfl rfl rfl ?_
            refine AO.pureG T [] rfl trivial rfl rfl ?_
            refine AO.pureG T [] rfl trivial rfl rfl ?_
            refine AO.pureG T [196, 197] rfl ⟨fun h => h, fun h => h, trivial⟩ rfl rfl ?_
            refine AO.val rfl rfl (pick_and rfl rfl rfl rfl) ?_
            refine AO.nil ?_
            refine AW.le (Le.cut 0 0 (σ' := (⟨[(0, .R 1), (1, .v (.int .i64 a)), (3, .v (.int .i64 b)), (4, .f cmp_f cmp_c), (18, .v (.int .i64 (IntKind.wrap .i64 ((IntKind.wrap .u64 (w64 (a + b))).fdiv (2 ^ 1))))), (20, .v (.int .i64 v236)), (24, .v (.int .i64 (w64 ((w64 ((IntKind.wrap .i64 ((IntKind.wrap .u64 (w64 (a + b))).fdiv (2 ^ 1))) + m)) - v236)))), (199, .v (.bool (decide (a < v236) && decide (v236 < (IntKind.wrap .i64 ((IntKind.wrap .u64 (w64 (a + b))).fdiv (2 ^ 1)))))))], [(1, .row 3 (List.map encRank x263))], 220, [(1, L 1)]⟩ : St)) rfl ⟨⟨_, rfl, rfl⟩, ⟨_, rfl, rfl⟩, ⟨_, rfl, rfl⟩, ⟨_, rfl, ren_fF cmp_r⟩, ⟨_, rfl, rfl⟩, ⟨_, rfl, rfl⟩, ⟨_, rfl, rfl⟩, ⟨_, rfl, rfl⟩, trivial⟩ (by repeat' (first | exact trivial | refine ⟨⟨_, rfl, rfl⟩, ?_⟩)) (andT (allC rfl (allC rfl (allC rfl (allC (known_fF cmp_r) (allC rfl (allC rfl (allC rfl (allC rfl allN)))))))) rfl) ⟨⟨rfl, rfl⟩, trivial⟩) ?_
            refine AW.cond (b := (decide (a < v236) && decide (v236 < (IntKind.wrap .i64 ((IntKind.wrap .u64 (w64 (a + b))).fdiv (2 ^ 1)))))) rfl (fun hc => ?_) (fun hc => ?_)
            · replace hH := condT hc hH
              obtain ⟨x265, hx266, hH⟩ := bindE hH
              refine AW.region ?_
              refine AO.pure T rfl rfl rfl ?_
              refine AO.pure T rfl rfl rfl ?_
              refine AO.pure T rfl rfl rfl ?_
              refine AO.pure T rfl rfl rfl ?_
              refine AO.pure T rfl rfl rfl ?_
              refine AO.step rfl (callM_ok rfl 2 rfl rfl (es := [.w 3 (x263.map encRank), .v (.int .i64 a), .v (.int .i64 v236), .v (.int .i64 (IntKind.wrap .i64 ((IntKind.wrap .u64 (w64 (a + b))).fdiv (2 ^ 1)))), .f cmp_f cmp_c]) (outs := [.w 3 (x265.map encRank), .u, .u, .u, .u]) (ids := [1]) (by exact expLG_cons (.c (.rowR rfl)) (expLG_cons (.c .v) (expLG_cons (.c .v) (expLG_cons (.c .v) (expLG_cons (.c (.f cmp_r)) (expLG_nil)))))) (by decide) (.inl (by rfl)) (by rfl) (ih _ _ _ _ cmp_f cmp_c cmp_k cmp cmp_h _ (hx266)) rfl (by rfl) rfl) ?_
              refine AO.nil ?_
              refine AW.seq ?_
              refine AW.region ?_
              refine AO.pure T rfl rfl rfl ?_
              refine AO.pure T rfl rfl rfl ?_
              refine AO.pure T rfl rfl rfl ?_
              refine AO.pure T rfl rfl rfl ?_
              refine AO.pureG T [] rfl trivial rfl rfl ?_
              refine AO.pureG T [] rfl trivial rfl rfl ?_
              refine AO.pureG T [210, 211] rfl ⟨fun h => h, fun h => h, trivial⟩ rfl rfl ?_
              refine AO.val rfl rfl (pick_and rfl rfl rfl rfl) ?_
              refine AO.nil ?_
              refine AW.cond (b := (decide ((IntKind.wrap .i64 ((IntKind.wrap .u64 (w64 (a + b))).fdiv (2 ^ 1))) < (w64 ((w64 ((IntKind.wrap .i64 ((IntKind.wrap .u64 (w64 (a + b))).fdiv (2 ^ 1))) + m)) - v236))) && decide ((w64 ((w64 ((IntKind.wrap .i64 ((IntKind.wrap .u64 (w64 (a + b))).fdiv (2 ^ 1))) + m)) - v236)) < b))) rfl (fun hc => ?_) (fun hc => ?_)
              · replace hH := condT hc hH
                obtain ⟨x267, hx268, hH⟩ := bindE hH
                refine AW.region ?_
                refine AO.pure T rfl rfl rfl ?_
                refine AO.pure T rfl rfl rfl ?_
                refine AO.pure T rfl rfl rfl ?_
                refine AO.pure T rfl rfl rfl ?_
                refine AO.pure T rfl rfl rfl ?_
                refine AO.step rfl (callM_ok rfl 2 rfl rfl (es := [.w 3 (x265.map encRank), .v (.int .i64 (IntKind.wrap .i64 ((IntKind.wrap .u64 (w64 (a + b))).fdiv (2 ^ 1)))), .v (.int .i64 (w64 ((w64 ((IntKind.wrap .i64 ((IntKind.wrap .u64 (w64 (a + b))).fdiv (2 ^ 1))) + m)) - v236))), .v (.int .i64 b), .f cmp_f cmp_c]) (outs := [.w 3 (x267.map encRank), .u, .u, .u, .u]) (ids := [1]) (by exact expLG_cons (.c (.rowR rfl)) (expLG_cons (.c .v) (expLG_cons (.c .v) (expLG_cons (.c .v) (expLG_cons (.c (.f cmp_r)) (expLG_nil)))))) (by decide) (.inl (by rfl)) (by rfl) (ih _ _ _ _ cmp_f cmp_c cmp_k cmp cmp_h _ (hx268)) rfl (by rfl) rfl) ?_
                refine AO.nil ?_
                cases someE hH
                exact ⟨trivial, rfl, _, [], [1], rfl, expLG_cons (.c (.rowR rfl)) (expLG_cons (.c .u) (expLG_cons (.c .u) (expLG_cons (.c .u) (expLG_cons (.c .u) (expLG_nil))))), .t expLG_nil, by decide⟩
              · replace hH := condF hc hH
                refine AW.skip ?_
                cases someE hH
                exact ⟨trivial, rfl, _, [], [1], rfl, expLG_cons (.c (.rowR rfl)) (expLG_cons (.c .u) (expLG_cons (.c .u) (expLG_cons (.c .u) (expLG_cons (.c .u) (expLG_nil))))), .t expLG_nil, by decide⟩
            · replace hH := condF hc hH
              refine AW.skip ?_
              refine AW.seq ?_
              refine AW.region ?_
              refine AO.pure T rfl rfl rfl ?_
              refine AO.pure T rfl rfl rfl ?_
              refine AO.pure T rfl rfl rfl ?_
              refine AO.pure T rfl rfl rfl ?_
              refine AO.pureG T [] rfl trivial rfl rfl ?_
              refine AO.pureG T [] rfl trivial rfl rfl ?_
              refine AO.pureG T [210, 211] rfl ⟨fun h => h, fun h => h, trivial⟩ rfl rfl ?_
              refine AO.val rfl rfl (pick_and rfl rfl rfl rfl) ?_
              refine AO.nil ?_
              refine AW.cond (b := (decide ((IntKind.wrap .i64 ((IntKind.wrap .u64 (w64 (a + b))).fdiv (2 ^ 1))) < (w64 ((w64 ((IntKind.wrap .i64 ((IntKind.wrap .u64 (w64 (a + b))).fdiv (2 ^ 1))) + m)) - v236))) && decide ((w64 ((w64 ((IntKind.wrap .i64 ((IntKind.wrap .u64 (w64 (a + b))).fdiv (2 ^ 1))) + m)) - v236)) < b))) rfl (fun hc => ?_) (fun hc => ?_)
              · replace hH := condT hc hH
                obtain ⟨x269, hx270, hH⟩ := bindE hH
                refine AW.region ?_
                refine AO.pure T rfl rfl rfl ?_
                refine AO.pure T rfl rfl rfl ?_
                refine AO.pure T rfl rfl rfl ?_
                refine AO.pure T rfl rfl rfl ?_
                refine AO.pure T rfl rfl rfl ?_
                refine AO.step rfl (callM_ok rfl 2 rfl rfl (es := [.w 3 (x263.map encRank), .v (.int .i64 (IntKind.wrap .i64 ((IntKind.wrap .u64 (w64 (a + b))).fdiv (2 ^ 1)))), .v (.int .i64 (w64 ((w64 ((IntKind.wrap .i64 ((IntKind.wrap .u64 (w64 (a + b))).fdiv (2 ^ 1))) + m)) - v236))), .v (.int .i64 b), .f cmp_f cmp_c]) (outs := [.w 3 (x269.map encRank), .u, .u, .u, .u]) (ids := [1]) (by exact expLG_cons (.c (.rowR rfl)) (expLG_cons (.c .v) (expLG_cons (.c .v) (expLG_cons (.c .v) (expLG_cons (.c (.f cmp_r)) (expLG_nil)))))) (by decide) (.inl (by rfl)) (by rfl) (ih _ _ _ _ cmp_f cmp_c cmp_k cmp cmp_h _ (hx270)) rfl (by rfl) rfl) ?_
                refine AO.nil ?_
                cases someE hH
                exact ⟨trivial, rfl, _, [], [1], rfl, expLG_cons (.c (.rowR rfl)) (expLG_cons (.c .u) (expLG_cons (.c .u) (expLG_cons (.c .u) (expLG_cons (.c .u) (expLG_nil))))), .t expLG_nil, by decide⟩
              · replace hH := condF hc hH
                refine AW.skip ?_
                cases someE hH
                exact ⟨trivial, rfl, _, [], [1], rfl, expLG_cons (.c (.rowR rfl)) (expLG_cons (.c .u) (expLG_cons (.c .u) (expLG_cons (.c .u) (expLG_cons (.c .u) (expLG_nil))))), .t expLG_nil, by decide⟩
          · replace hH := condF hc hH
            refine AW.skip ?_
            refine AW.seq ?_
            refine AW.seq ?_
            refine AW.region ?_
            refine AO.pure T rfl rfl rfl ?_
            refine AO.pure T rfl rfl rfl ?_
            refine AO.pure T rfl rfl rfl ?_
            refine AO.pure T rfl rfl rfl ?_
            refine AO.pureG T [] rfl trivial rfl rfl ?_
            refine AO.pureG T [] rfl trivial rfl rfl ?_
            refine AO.pureG T [196, 197] rfl ⟨fun h => h, fun h => h, trivial⟩ rfl rfl ?_
            refine AO.val rfl rfl (pick_and rfl rfl rfl rfl) ?_
            refine AO.nil ?_
            refine AW.cond (b := (decide (a < v236) && decide (v236 < (IntKind.wrap .i64 ((IntKind.wrap .u64 (w64 (a + b))).fdiv (2 ^ 1)))))) rfl (fun hc => ?_) (fun hc => ?_)
            · replace hH := condT hc hH
              obtain ⟨x271, hx272, hH⟩ := bindE hH
              refine AW.region ?_
              refine AO.pure T rfl rfl rfl ?_
              refine AO.pure T rfl rfl rfl ?_
              refine AO.pure T rfl rfl rfl ?_
              refine AO.pure T rfl rfl rfl ?_
              refine AO.pure T rfl rfl rfl ?_
              refine AO.step rfl (callM_ok rfl 2 rfl rfl (es := [.w 3 (data.map encRank), .v (.int .i64 a), .v (.int .i64 v236), .v (.int .i64 (IntKind.wrap .i64 ((IntKind.wrap .u64 (w64 (a + b))).fdiv (2 ^ 1)))), .f cmp_f cmp_c]) (outs := [.w 3 (x271.map encRank), .u, .u, .u, .u]) (ids := [1]) (by exact expLG_cons (.c (.rowR rfl)) (expLG_cons (.c .v) (expLG_cons (.c .v) (expLG_cons (.c .v) (expLG_cons (.c (.f cmp_r)) (expLG_nil)))))) (by decide) (.inl (by rfl)) (by rfl) (ih _ _ _ _ cmp_f cmp_c cmp_k cmp cmp_h _ (hx272)) rfl (by rfl) rfl) ?_
              refine AO.nil ?_
              refine AW.le (Le.cut 0 0 (σ' := (⟨[(0, .R 1), (3, .v (.int .i64 b)), (4, .f cmp_f cmp_c), (18, .v (.int .i64 (IntKind.wrap .i64 ((IntKind.wrap .u64 (w64 (a + b))).fdiv (2 ^ 1))))), (24, .v (.int .i64 (w64 ((w64 ((IntKind.wrap .i64 ((IntKind.wrap .u64 (w64 (a + b))).fdiv (2 ^ 1))) + m)) - v236))))], [(1, .row 3 (List.map encRank x271))], 220, [(1, L 1)]⟩ : St)) rfl ⟨⟨_, rfl, rfl⟩, ⟨_, rfl, rfl⟩, ⟨_, rfl, ren_fF cmp_r⟩, ⟨_, rfl, rfl⟩, ⟨_, rfl, rfl⟩, trivial⟩ (by repeat' (first | exact trivial | refine ⟨⟨_, rfl, rfl⟩, ?_⟩)) (andT (allC rfl (allC rfl (allC (known_fF cmp_r) (allC rfl (allC rfl allN))))) rfl) ⟨⟨rfl, rfl⟩, trivial⟩) ?_
              refine AW.seq ?_
              refine AW.region ?_
              refine AO.pure T rfl rfl rfl ?_
              refine AO.pure T rfl rfl rfl ?_
              refine AO.pure T rfl rfl rfl ?_
              refine AO.pure T rfl rfl rfl ?_
              refine AO.pureG T [] rfl trivial rfl rfl ?_
              refine AO.pureG T [] rfl trivial rfl rfl ?_
              refine AO.pureG T [210, 211] rfl ⟨fun h => h, fun h => h, trivial⟩ rfl rfl ?_
              refine AO.val rfl rfl (pick_and rfl rfl rfl rfl) ?_
              refine AO.nil ?_
              refine AW.cond (b := (decide ((IntKind.wrap .i64 ((IntKind.wrap .u64 (w64 (a + b))).fdiv (2 ^ 1))) < (w64 ((w64 ((IntKind.wrap .i64 ((IntKind.wrap .u64 (w64 (a + b))).fdiv (2 ^ 1))) + m)) - v236))) && decide ((w64 ((w64 ((IntKind.wrap .i64 ((IntKind.wrap .u64 (w64 (a + b))).fdiv (2 ^ 1))) + m)) - v236)) < b))) rfl (fun hc => ?_) (fun hc => ?_)
              · replace hH := condT hc hH
                obtain ⟨x273, hx274, hH⟩ := bindE hH
                refine AW.region ?_
                refine AO.pure T rfl rfl rfl ?_
                refine AO.pure T rfl rfl rfl ?_
                refine AO.pure T rfl rfl rfl ?_
                refine AO.pure T rfl rfl rfl ?_
                refine AO.pure T rfl rfl rfl ?_
                refine AO.step rfl (callM_ok rfl 2 rfl rfl (es := [.w 3 (x271.map encRank), .v (.int .i64 (IntKind.wrap .i64 ((IntKind.wrap .u64 (w64 (a + b))).fdiv (2 ^ 1)))), .v (.int .i64 (w64 ((w64 ((IntKind.wrap .i64 ((IntKind.wrap .u64 (w64 (a + b))).fdiv (2 ^ 1))) + m)) - v236))), .v (.int .i64 b), .f cmp_f cmp_c]) (outs := [.w 3 (x273.map encRank), .u, .u, .u, .u]) (ids := [1]) (by exact expLG_cons (.c (.rowR rfl)) (expLG_cons (.c .v) (expLG_cons (.c .v) (expLG_cons (.c .v) (expLG_cons (.c (.f cmp_r)) (expLG_nil)))))) (by decide) (.inl (by rfl)) (by rfl) (ih _ _ _ _ cmp_f cmp_c cmp_k cmp cmp_h _ (hx274)) rfl (by rfl) rfl) ?_
                refine AO.nil ?_
                cases someE hH
                exact ⟨trivial, rfl, _, [], [1], rfl, expLG_cons (.c (.rowR rfl)) (expLG_cons (.c .u) (expLG_cons (.c .u) (expLG_cons (.c .u) (expLG_cons (.c .u) (expLG_nil))))), .t expLG_nil, by decide⟩
              · replace hH := condF hc hH
                refine AW.skip ?_
                cases someE hH
                exact ⟨trivial, rfl, _, [], [1], rfl, expLG_cons (.c (.rowR rfl)) (expLG_cons (.c .u) (expLG_cons (.c .u) (expLG_cons (.c .u) (expLG_cons (.c .u) (expLG_nil))))), .t expLG_nil, by decide⟩
            · replace hH := condF hc hH
              refine AW.skip ?_
              refine AW.seq ?_
              refine AW.region ?_
              refine AO.pure T rfl rfl rfl ?_
              refine AO.pure T rfl rfl rfl ?_
              refine AO.pure T rfl rfl rfl ?_
              refine AO.pure T rfl rfl rfl ?_
              refine AO.pureG T [] rfl trivial rfl rfl ?_
              refine AO.pureG T [] rfl trivial rfl rfl ?_
              refine AO.pureG T [210, 211] rfl ⟨fun h => h, fun h => h, trivial⟩ rfl rfl ?_
              refine AO.val rfl rfl (pick_and rfl rfl rfl rfl) ?_
              refine AO.nil ?_
              refine AW.le (Le.cut 0 0 (σ' := (⟨[(0, .R 1), (3, .v (.int .i64 b)), (4, .f cmp_f cmp_c), (18, .v (.int .i64 (IntKind.wrap .i64 ((IntKind.wrap .u64 (w64 (a + b))).fdiv (2 ^ 1))))), (24, .v (.int .i64 (w64 ((w64 ((IntKind.wrap .i64 ((IntKind.wrap .u64 (w64 (a + b))).fdiv (2 ^ 1))) + m)) - v236)))), (213, .v (.bool (decide ((IntKind.wrap .i64 ((IntKind.wrap .u64 (w64 (a + b))).fdiv (2 ^ 1))) < (w64 ((w64 ((IntKind.wrap .i64 ((IntKind.wrap .u64 (w64 (a + b))).fdiv (2 ^ 1))) + m)) - v236))) && decide ((w64 ((w64 ((IntKind.wrap .i64 ((IntKind.wrap .u64 (w64 (a + b))).fdiv (2 ^ 1))) + m)) - v236)) < b))))], [(1, .row 3 (List.map encRank data))], 220, [(1, L 1)]⟩ : St)) rfl ⟨⟨_, rfl, rfl⟩, ⟨_, rfl, rfl⟩, ⟨_, rfl, ren_fF cmp_r⟩, ⟨_, rfl, rfl⟩, ⟨_, rfl, rfl⟩, ⟨_, rfl, rfl⟩, trivial⟩ (by repeat' (first | exact trivial | refine ⟨⟨_, rfl, rfl⟩, ?_⟩)) (andT (allC rfl (allC rfl (allC (known_fF cmp_r) (allC rfl (allC rfl (allC rfl allN)))))) rfl) ⟨⟨rfl, rfl⟩, trivial⟩) ?_
              refine AW.cond (b := (decide ((IntKind.wrap .i64 ((IntKind.wrap .u64 (w64 (a + b))).fdiv (2 ^ 1))) < (w64 ((w64 ((IntKind.wrap .i64 ((IntKind.wrap .u64 (w64 (a + b))).fdiv (2 ^ 1))) + m)) - v236))) && decide ((w64 ((w64 ((IntKind.wrap .i64 ((IntKind.wrap .u64 (w64 (a + b))).fdiv (2 ^ 1))) + m)) - v236)) < b))) rfl (fun hc => ?_) (fun hc => ?_)
              · replace hH := condT hc hH
                obtain ⟨x275, hx276, hH⟩ := bindE hH
                refine AW.region ?_
                refine AO.pure T rfl rfl rfl ?_
                refine AO.pure T rfl rfl rfl ?_
                refine AO.pure T rfl rfl rfl ?_
                refine AO.pure T rfl rfl rfl ?_
                refine AO.pure T rfl rfl rfl ?_
                refine AO.step rfl (callM_ok rfl 2 rfl rfl (es := [.w 3 (data.map encRank), .v (.int .i64 (IntKind.wrap .i64 ((IntKind.wrap .u64 (w64 (a + b))).fdiv (2 ^ 1)))), .v (.int .i64 (w64 ((w64 ((IntKind.wrap .i64 ((IntKind.wrap .u64 (w64 (a + b))).fdiv (2 ^ 1))) + m)) - v236))), .v (.int .i64 b), .f cmp_f cmp_c]) (outs := [.w 3 (x275.map encRank), .u, .u, .u, .u]) (ids := [1]) (by exact expLG_cons (.c (.rowR rfl)) (expLG_cons (.c .v) (expLG_cons (.c .v) (expLG_cons (.c .v) (expLG_cons (.c (.f cmp_r)) (expLG_nil)))))) (by decide) (.inl (by rfl)) (by rfl) (ih _ _ _ _ cmp_f cmp_c cmp_k cmp cmp_h _ (hx276)) rfl (by rfl) rfl) ?_
                refine AO.nil ?_
                cases someE hH
                exact ⟨trivial, rfl, _, [], [1], rfl, expLG_cons (.c (.rowR rfl)) (expLG_cons (.c .u) (expLG_cons (.c .u) (expLG_cons (.c .u) (expLG_cons (.c .u) (expLG_nil))))), .t expLG_nil, by decide⟩
              · replace hH := condF hc hH
                refine AW.skip ?_
                cases someE hH
                exact ⟨trivial, rfl, _, [], [1], rfl, expLG_cons (.c (.rowR rfl)) (expLG_cons (.c .u) (expLG_cons (.c .u) (expLG_cons (.c .u) (expLG_cons (.c .u) (expLG_nil))))), .t expLG_nil, by decide⟩

def slices_stableCmpFunc_Rank_l1 (n : Int) (cmp : Rank → Rank → Option Int) (fuel : Nat) : Nat → List Rank → Int → Int → Option ((List Rank) × Int)
  | 0, _, _, _ => none
  | k18 + 1, v26, v27, v28 =>
    cond (decide (v28 ≤ n))
      ((slices_insertionSortCmpFunc_Rank_p fuel v26 v27 v28 cmp).bind fun x30 =>
      slices_stableCmpFunc_Rank_l1 n cmp fuel k18 x30 v28 (w64 (v28 + 20)))
      (some (v26, v27))
def slices_stableCmpFunc_Rank_l3 (n : Int) (cmp : Rank → Rank → Option Int) (fuel : Nat) (v102 : Int) : Nat → List Rank → Int → Int → Option ((List Rank) × Int)
  | 0, _, _, _ => none
  | k121 + 1, v129, v130, v131 =>
    cond (decide (v131 ≤ n))
      ((slices_symMergeCmpFunc_Rank_p fuel fuel v129 v130 (w64 (v130 + v102)) v131 cmp).bind fun x133 =>
      slices_stableCmpFunc_Rank_l3 n cmp fuel v102 k121 x133 v131 (w64 (v131 + (w64 (2 * v102)))))
      (some (v129, v130))
def slices_stableCmpFunc_Rank_l2 (n : Int) (cmp : Rank → Rank → Option Int) (fuel : Nat) : Nat → List Rank → Int → Option ((List Rank))
  | 0, _, _ => none
  | k34 + 1, v101, v102 =>
    cond (decide (v102 < n))
      ((slices_stableCmpFunc_Rank_l3 n cmp fuel v102 fuel v101 0 (w64 (2 * v102))).bind fun (v117, v118) =>
      cond (decide ((w64 (v118 + v102)) < n))
        ((slices_symMergeCmpFunc_Rank_p fuel fuel v117 v118 (w64 (v118 + v102)) n cmp).bind fun x135 =>
        slices_stableCmpFunc_Rank_l2 n cmp fuel k34 x135 (w64 (v102 * 2)))
        (slices_stableCmpFunc_Rank_l2 n cmp fuel k34 v117 (w64 (v102 * 2))))
      (some v101)
def slices_stableCmpFunc_Rank_p (fuel : Nat) (data : List Rank) (n : Int) (cmp : Rank → Rank → Option Int) : Option (List Rank) :=
  (slices_stableCmpFunc_Rank_l1 n cmp fuel fuel data 0 20).bind fun (v14, v15) =>
  (slices_insertionSortCmpFunc_Rank_p fuel v14 v15 n cmp).bind fun x32 =>
  slices_stableCmpFunc_Rank_l2 n cmp fuel fuel x32 20
theorem slices_stableCmpFunc_Rank_ok (fuel : Nat) (data : List Rank) (n : Int) (cmp_f : Nat) (cmp_c : List D) (cmp_k : cmp_c.all D.capOk = true) (cmp : Rank → Rank → Option Int) (cmp_h : ∀ (a0 : Rank) (a1 : Rank) (q : Int), cmp a0 a1 = some q → SpecR Tryz.prog cmp_f ([.g (encRank a0), .g (encRank a1)] ++ cmp_c) (.v (.int .i64 q))) (r : (List Rank)) (hH : slices_stableCmpFunc_Rank_p fuel data n cmp = some r) : SpecM Tryz.prog 120 [.w 3 (data.map encRank), .v (.int .i64 n), .f cmp_f cmp_c] [.w 3 (r.map encRank), .u, .u] (.t []) := by
  have cmp_r := cap_cfree cmp_k
  refine fn_okM T Tryz.func120 rfl (by decide) rfl (by simp [D.gOk, D.cellOk, cmp_k]) ?_
  intro L
  show AW _ _ _ (⟨[(0, .R 1), (1, .v (.int .i64 n)), (2, .f cmp_f cmp_c)], [(1, .row 3 (List.map encRank data))], 63, [(1, L 1)]⟩ : St)
  refine AW.seq ?_
  refine AW.region ?_
  refine AO.pure T rfl rfl rfl ?_
  refine AO.nil ?_
  refine AW.seq ?_
  refine AW.region ?_
  refine AO.pure T rfl rfl rfl ?_
  refine AO.pure T rfl rfl rfl ?_
  refine AO.pure T rfl rfl rfl ?_
  refine AO.nil ?_
  obtain ⟨o16, hH, hK17⟩ := bindE hH
  refine AW.seqJ (fun s : (List Rank) × Int => (⟨[(0, .R 1), (1, .v (.int .i64 n)), (2, .f cmp_f cmp_c), (6, .v (.int .i64 20)), (7, .v (.int .i64 s.2))], [(1, .row 3 (List.map encRank s.1))], 63, [(1, L 1)]⟩ : St)) (fun s => s = o16) ?_ ?_
  · refine AW.block ?_
    refine AW.loopS (fun s : Nat × (List Rank) × Int × Int => (⟨[(0, .R 1), (1, .v (.int .i64 n)), (2, .f cmp_f cmp_c), (6, .v (.int .i64 20)), (7, .v (.int .i64 s.2.2.1)), (8, .v (.int .i64 s.2.2.2))], [(1, .row 3 (List.map encRank s.2.1))], 63, [(1, L 1)]⟩ : St)) (fun s => slices_stableCmpFunc_Rank_l1 n cmp fuel s.1 s.2.1 s.2.2.1 s.2.2.2 = some o16) (fun s => s.1) (fuel, data, 0, 20) hH ?_ ?_
    · exact Le.cut 0 0 rfl ⟨⟨_, rfl, rfl⟩, ⟨_, rfl, rfl⟩, ⟨_, rfl, ren_fF cmp_r⟩, ⟨_, rfl, rfl⟩, ⟨_, rfl, rfl⟩, ⟨_, rfl, rfl⟩, trivial⟩ (by repeat' (first | exact trivial | refine ⟨⟨_, rfl, rfl⟩, ?_⟩)) (andT (allC rfl (allC rfl (allC (known_fF cmp_r) (allC rfl (allC rfl (allC rfl allN)))))) rfl) ⟨⟨rfl, rfl⟩, trivial⟩
    · rintro ⟨k18, v26, v27, v28⟩ hH
      replace hH : slices_stableCmpFunc_Rank_l1 n cmp fuel k18 v26 v27 v28 = some o16 := hH
      show AW _ _ _ (⟨[(0, .R 1), (1, .v (.int .i64 n)), (2, .f cmp_f cmp_c), (6, .v (.int .i64 20)), (7, .v (.int .i64 v27)), (8, .v (.int .i64 v28))], [(1, .row 3 (List.map encRank v26))], 63, [(1, L 1)]⟩ : St)
      cases k18 with
      | zero => cases (show none = some _ from hH)
      | succ k18 =>
        rw [slices_stableCmpFunc_Rank_l1] at hH
        refine AW.seq ?_
        refine AW.seq ?_
        refine AW.region ?_
        refine AO.pure T rfl rfl rfl ?_
        refine AO.pure T rfl rfl rfl ?_
        refine AO.pure T rfl rfl rfl ?_
        refine AO.nil ?_
        refine AW.cond (b := decide (v28 ≤ n)) rfl (fun hc => ?_) (fun hc => ?_)
        · replace hH := condT hc hH
          refine AW.skip ?_
          refine AW.block ?_
          refine AW.seq ?_
          obtain ⟨x30, hx31, hH⟩ := bindE hH
          refine AW.region ?_
          refine AO.pure T rfl rfl rfl ?_
          refine AO.pure T rfl rfl rfl ?_
          refine AO.pure T rfl rfl rfl ?_
          refine AO.pure T rfl rfl rfl ?_
          refine AO.step rfl (callM_ok rfl 2 rfl rfl (es := [.w 3 (v26.map encRank), .v (.int .i64 v27), .v (.int .i64 v28), .f cmp_f cmp_c]) (outs := [.w 3 (x30.map encRank), .u, .u, .u]) (ids := [1]) (by exact expLG_cons (.c (.rowR rfl)) (expLG_cons (.c .v) (expLG_cons (.c .v) (expLG_cons (.c (.f cmp_r)) (expLG_nil))))) (by decide) (.inl (by rfl)) (by rfl) (slices_insertionSortCmpFunc_Rank_ok fuel _ _ _ cmp_f cmp_c cmp_k cmp cmp_h _ (hx31)) rfl (by rfl) rfl) ?_
          refine AO.nil ?_
          refine AW.seq ?_
          refine AW.region ?_
          refine AO.pure T rfl rfl rfl ?_
          refine AO.pure T rfl rfl rfl ?_
          refine AO.nil ?_
          refine AW.region ?_
          refine AO.pure T rfl rfl rfl ?_
          refine AO.pure T rfl rfl rfl ?_
          refine AO.val rfl rfl (arw_ok rfl rfl rfl rfl) ?_
          refine AO.pure T rfl rfl rfl ?_
          refine AO.nil ?_
          refine ⟨(k18, x30, v28, w64 (v28 + 20)), hH, Nat.lt_succ_self _, ?_⟩
          exact Le.cut 0 0 rfl ⟨⟨_, rfl, rfl⟩, ⟨_, rfl, rfl⟩, ⟨_, rfl, ren_fF cmp_r⟩, ⟨_, rfl, rfl⟩, ⟨_, rfl, rfl⟩, ⟨_, rfl, rfl⟩, trivial⟩ (by repeat' (first | exact trivial | refine ⟨⟨_, rfl, rfl⟩, ?_⟩)) (andT (allC rfl (allC rfl (allC (known_fF cmp_r) (allC rfl (allC rfl (allC rfl allN)))))) rfl) ⟨⟨rfl, rfl⟩, trivial⟩
        · replace hH := condF hc hH
          refine AW.exit ?_
          refine ⟨_, someE hH, ?_⟩
          exact Le.cut 0 0 rfl ⟨⟨_, rfl, rfl⟩, ⟨_, rfl, rfl⟩, ⟨_, rfl, ren_fF cmp_r⟩, ⟨_, rfl, rfl⟩, ⟨_, rfl, rfl⟩, trivial⟩ (by repeat' (first | exact trivial | refine ⟨⟨_, rfl, rfl⟩, ?_⟩)) (andT (allC rfl (allC rfl (allC (known_fF cmp_r) (allC rfl (allC rfl allN))))) rfl) ⟨⟨rfl, rfl⟩, trivial⟩
  · rintro ⟨v14, v15⟩ hs
    subst hs
    replace hH := hK17
    try dsimp only [flow, flowE] at hH
    show AW _ _ _ (⟨[(0, .R 1), (1, .v (.int .i64 n)), (2, .f cmp_f cmp_c), (6, .v (.int .i64 20)), (7, .v (.int .i64 v15))], [(1, .row 3 (List.map encRank v14))], 63, [(1, L 1)]⟩ : St)
    refine AW.seq ?_
    obtain ⟨x32, hx33, hH⟩ := bindE hH
    refine AW.region ?_
    refine AO.pure T rfl rfl rfl ?_
    refine AO.pure T rfl rfl rfl ?_
    refine AO.pure T rfl rfl rfl ?_
    refine AO.pure T rfl rfl rfl ?_
    refine AO.step rfl (callM_ok rfl 2 rfl rfl (es := [.w 3 (v14.map encRank), .v (.int .i64 v15), .v (.int .i64 n), .f cmp_f cmp_c]) (outs := [.w 3 (x32.map encRank), .u, .u, .u]) (ids := [1]) (by exact expLG_cons (.c (.rowR rfl)) (expLG_cons (.c .v) (expLG_cons (.c .v) (expLG_cons (.c (.f cmp_r)) (expLG_nil))))) (by decide) (.inl (by rfl)) (by rfl) (slices_insertionSortCmpFunc_Rank_ok fuel _ _ _ cmp_f cmp_c cmp_k cmp cmp_h _ (hx33)) rfl (by rfl) rfl) ?_
    refine AO.nil ?_
    refine AW.block ?_
    refine AW.loopS (fun s : Nat × (List Rank) × Int => (⟨[(0, .R 1), (1, .v (.int .i64 n)), (2, .f cmp_f cmp_c), (6, .v (.int .i64 s.2.2))], [(1, .row 3 (List.map encRank s.2.1))], 63, [(1, L 1)]⟩ : St)) (fun s => slices_stableCmpFunc_Rank_l2 n cmp fuel s.1 s.2.1 s.2.2 = some r) (fun s => s.1) (fuel, x32, 20) hH ?_ ?_
    · exact Le.cut 0 0 rfl ⟨⟨_, rfl, rfl⟩, ⟨_, rfl, rfl⟩, ⟨_, rfl, ren_fF cmp_r⟩, ⟨_, rfl, rfl⟩, trivial⟩ (by repeat' (first | exact trivial | refine ⟨⟨_, rfl, rfl⟩, ?_⟩)) (andT (allC rfl (allC rfl (allC (known_fF cmp_r) (allC rfl allN)))) rfl) ⟨⟨rfl, rfl⟩, trivial⟩
    · rintro ⟨k34, v101, v102⟩ hH
      replace hH : slices_stableCmpFunc_Rank_l2 n cmp fuel k34 v101 v102 = some r := hH
      show AW _ _ _ (⟨[(0, .R 1), (1, .v (.int .i64 n)), (2, .f cmp_f cmp_c), (6, .v (.int .i64 v102))], [(1, .row 3 (List.map encRank v101))], 63, [(1, L 1)]⟩ : St)
      cases k34 with
      | zero => cases (show none = some _ from hH)
      | succ k34 =>
        rw [slices_stableCmpFunc_Rank_l2] at hH
        refine AW.seq ?_
        refine AW.seq ?_
        refine AW.region ?_
        refine AO.pure T rfl rfl rfl ?_
        refine AO.pure T rfl rfl rfl ?_
        refine AO.pure T rfl rfl rfl ?_
        refine AO.nil ?_
        refine AW.cond (b := decide (v102 < n)) rfl (fun hc => ?_) (fun hc => ?_)
        · replace hH := condT hc hH
          refine AW.skip ?_
          refine AW.block ?_
          refine AW.seq ?_
          refine AW.region ?_
          refine AO.pure T rfl rfl rfl ?_
          refine AO.val rfl rfl (arw_ok rfl rfl rfl rfl) ?_
          refine AO.pure T rfl rfl rfl ?_
          refine AO.pure T rfl rfl rfl ?_
          refine AO.nil ?_
          obtain ⟨o119, hH, hK120⟩ := bindE hH
          refine AW.seqJ (fun s : (List Rank) × Int => (⟨[(0, .R 1), (1, .v (.int .i64 n)), (2, .f cmp_f cmp_c), (6, .v (.int .i64 v102)), (7, .v (.int .i64 s.2))], [(1, .row 3 (List.map encRank s.1))], 63, [(1, L 1)]⟩ : St)) (fun s => s = o119) ?_ ?_
          · refine AW.block ?_
            refine AW.loopS (fun s : Nat × (List Rank) × Int × Int => (⟨[(0, .R 1), (1, .v (.int .i64 n)), (2, .f cmp_f cmp_c), (6, .v (.int .i64 v102)), (7, .v (.int .i64 s.2.2.1)), (8, .v (.int .i64 s.2.2.2))], [(1, .row 3 (List.map encRank s.2.1))], 63, [(1, L 1)]⟩ : St)) (fun s => slices_stableCmpFunc_Rank_l3 n cmp fuel v102 s.1 s.2.1 s.2.2.1 s.2.2.2 = some o119) (fun s => s.1) (fuel, v101, 0, w64 (2 * v102)) hH ?_ ?_
            · exact Le.cut 0 0 rfl ⟨⟨_, rfl, rfl⟩, ⟨_, rfl, rfl⟩, ⟨_, rfl, ren_fF cmp_r⟩, ⟨_, rfl, rfl⟩, ⟨_, rfl, rfl⟩, ⟨_, rfl, rfl⟩, trivial⟩ (by repeat' (first | exact trivial | refine ⟨⟨_, rfl, rfl⟩, ?_⟩)) (andT (allC rfl (allC rfl (allC (known_fF cmp_r) (allC rfl (allC rfl (allC rfl allN)))))) rfl) ⟨⟨rfl, rfl⟩, trivial⟩
            · rintro ⟨k121, v129, v130, v131⟩ hH
              replace hH : slices_stableCmpFunc_Rank_l3 n cmp fuel v102 k121 v129 v130 v131 = some o119 := hH
              show AW _ _ _ (⟨[(0, .R 1), (1, .v (.int .i64 n)), (2, .f cmp_f cmp_c), (6, .v (.int .i64 v102)), (7, .v (.int .i64 v130)), (8, .v (.int .i64 v131))], [(1, .row 3 (List.map encRank v129))], 63, [(1, L 1)]⟩ : St)
              cases k121 with
              | zero => cases (show none = some _ from hH)
              | succ k121 =>
                rw [slices_stableCmpFunc_Rank_l3] at hH
                refine AW.seq ?_
                refine AW.seq ?_
                refine AW.region ?_
                refine AO.pure T rfl rfl rfl ?_
                refine AO.pure T rfl rfl rfl ?_
                refine AO.pure T rfl rfl rfl ?_
                refine AO.nil ?_
                refine AW.cond (b := decide (v131 ≤ n)) rfl (fun hc => ?_) (fun hc => ?_)
                · replace hH := condT hc hH
                  refine AW.skip ?_
                  refine AW.block ?_
                  refine AW.seq ?_
                  obtain ⟨x133, hx134, hH⟩ := bindE hH
                  refine AW.region ?_
                  refine AO.pure T rfl rfl rfl ?_
                  refine AO.pure T rfl rfl rfl ?_
                  refine AO.pure T rfl rfl rfl ?_
                  refine AO.pure T rfl rfl rfl ?_
                  refine AO.val rfl rfl (arw_ok rfl rfl rfl rfl) ?_
                  refine AO.pure T rfl rfl rfl ?_
                  refine AO.pure T rfl rfl rfl ?_
                  refine AO.step rfl (callM_ok rfl 2 rfl rfl (es := [.w 3 (v129.map encRank), .v (.int .i64 v130), .v (.int .i64 (w64 (v130 + v102))), .v (.int .i64 v131), .f cmp_f cmp_c]) (outs := [.w 3 (x133.map encRank), .u, .u, .u, .u]) (ids := [1]) (by exact expLG_cons (.c (.rowR rfl)) (expLG_cons (.c .v) (expLG_cons (.c .v) (expLG_cons (.c .v) (expLG_cons (.c (.f cmp_r)) (expLG_nil)))))) (by decide) (.inl (by rfl)) (by rfl) (slices_symMergeCmpFunc_Rank_ok fuel fuel _ _ _ _ cmp_f cmp_c cmp_k cmp cmp_h _ (hx134)) rfl (by rfl) rfl) ?_
                  refine AO.nil ?_
                  refine AW.seq ?_
                  refine AW.region ?_
                  refine AO.pure T rfl rfl rfl ?_
                  refine AO.pure T rfl rfl rfl ?_
                  refine AO.nil ?_
                  refine AW.region ?_
                  refine AO.pure T rfl rfl rfl ?_
                  refine AO.pure T rfl rfl rfl ?_
                  refine AO.val rfl rfl (arw_ok rfl rfl rfl rfl) ?_
                  refine AO.val rfl rfl (arw_ok rfl rfl rfl rfl) ?_
                  refine AO.pure T rfl rfl rfl ?_
                  refine AO.nil ?_
                  refine ⟨(k121, x133, v131, w64 (v131 + (w64 (2 * v102)))), hH, Nat.lt_succ_self _, ?_⟩
                  exact Le.cut 0 0 rfl ⟨⟨_, rfl, rfl⟩, ⟨_, rfl, rfl⟩, ⟨_, rfl, ren_fF cmp_r⟩, ⟨_, rfl, rfl⟩, ⟨_, rfl, rfl⟩, ⟨_, rfl, rfl⟩, trivial⟩ (by repeat' (first | exact trivial | refine ⟨⟨_, rfl, rfl⟩, ?_⟩)) (andT (allC rfl (allC rfl (allC (known_fF cmp_r) (allC rfl (allC rfl (allC rfl allN)))))) rfl) ⟨⟨rfl, rfl⟩, trivial⟩
                · replace hH := condF hc hH
                  refine AW.exit ?_
                  refine ⟨_, someE hH, ?_⟩
                  exact Le.cut 0 0 rfl ⟨⟨_, rfl, rfl⟩, ⟨_, rfl, rfl⟩, ⟨_, rfl, ren_fF cmp_r⟩, ⟨_, rfl, rfl⟩, ⟨_, rfl, rfl⟩, trivial⟩ (by repeat' (first | exact trivial | refine ⟨⟨_, rfl, rfl⟩, ?_⟩)) (andT (allC rfl (allC rfl (allC (known_fF cmp_r) (allC rfl (allC rfl allN))))) rfl) ⟨⟨rfl, rfl⟩, trivial⟩
          · rintro ⟨v117, v118⟩ hs
            subst hs
            replace hH := hK120
            try dsimp only [flow, flowE] at hH
            show AW _ _ _ (⟨[(0, .R 1), (1, .v (.int .i64 n)), (2, .f cmp_f cmp_c), (6, .v (.int .i64 v102)), (7, .v (.int .i64 v118))], [(1, .row 3 (List.map encRank v117))], 63, [(1, L 1)]⟩ : St)
            refine AW.seq ?_
            refine AW.seq ?_
            refine AW.region ?_
            refine AO.pure T rfl rfl rfl ?_
            refine AO.pure T rfl rfl rfl ?_
            refine AO.val rfl rfl (arw_ok rfl rfl rfl rfl) ?_
            refine AO.pure T rfl rfl rfl ?_
            refine AO.nil ?_
            refine AW.seq ?_
            refine AW.region ?_
            refine AO.pure T rfl rfl rfl ?_
            refine AO.pure T rfl rfl rfl ?_
            refine AO.pure T rfl rfl rfl ?_
            refine AO.nil ?_
            refine AW.cond (b := decide ((w64 (v118 + v102)) < n)) rfl (fun hc => ?_) (fun hc => ?_)
            · replace hH := condT hc hH
              obtain ⟨x135, hx136, hH⟩ := bindE hH
              refine AW.region ?_
              refine AO.pure T rfl rfl rfl ?_
              refine AO.pure T rfl rfl rfl ?_
              refine AO.pure T rfl rfl rfl ?_
              refine AO.pure T rfl rfl rfl ?_
              refine AO.pure T rfl rfl rfl ?_
              refine AO.step rfl (callM_ok rfl 2 rfl rfl (es := [.w 3 (v117.map encRank), .v (.int .i64 v118), .v (.int .i64 (w64 (v118 + v102))), .v (.int .i64 n), .f cmp_f cmp_c]) (outs := [.w 3 (x135.map encRank), .u, .u, .u, .u]) (ids := [1]) (by exact expLG_cons (.c (.rowR rfl)) (expLG_cons (.c .v) (expLG_cons (.c .v) (expLG_cons (.c .v) (expLG_cons (.c (.f cmp_r)) (expLG_nil)))))) (by decide) (.inl (by rfl)) (by rfl) (slices_symMergeCmpFunc_Rank_ok fuel fuel _ _ _ _ cmp_f cmp_c cmp_k cmp cmp_h _ (hx136)) rfl (by rfl) rfl) ?_
              refine AO.nil ?_
              refine AW.region ?_
              refine AO.pure T rfl rfl rfl ?_
              refine AO.val rfl rfl (arw_ok rfl rfl rfl rfl) ?_
              refine AO.pure T rfl rfl rfl ?_
              refine AO.nil ?_
              refine ⟨(k34, x135, w64 (v102 * 2)), hH, Nat.lt_succ_self _, ?_⟩
              exact Le.cut 0 0 rfl ⟨⟨_, rfl, rfl⟩, ⟨_, rfl, rfl⟩, ⟨_, rfl, ren_fF cmp_r⟩, ⟨_, rfl, rfl⟩, trivial⟩ (by repeat' (first | exact trivial | refine ⟨⟨_, rfl, rfl⟩, ?_⟩)) (andT (allC rfl (allC rfl (allC (known_fF cmp_r) (allC rfl allN)))) rfl) ⟨⟨rfl, rfl⟩, trivial⟩
            · replace hH := condF hc hH
              refine AW.skip ?_
              refine AW.region ?_
              refine AO.pure T rfl rfl rfl ?_
              refine AO.val rfl rfl (arw_ok rfl rfl rfl rfl) ?_
              refine AO.pure T rfl rfl rfl ?_
              refine AO.nil ?_
              refine ⟨(k34, v117, w64 (v102 * 2)), hH, Nat.lt_succ_self _, ?_⟩
              exact Le.cut 0 0 rfl ⟨⟨_, rfl, rfl⟩, ⟨_, rfl, rfl⟩, ⟨_, rfl, ren_fF cmp_r⟩, ⟨_, rfl, rfl⟩, trivial⟩ (by repeat' (first | exact trivial | refine ⟨⟨_, rfl, rfl⟩, ?_⟩)) (andT (allC rfl (allC rfl (allC (known_fF cmp_r) (allC rfl allN)))) rfl) ⟨⟨rfl, rfl⟩, trivial⟩
        · replace hH := condF hc hH
          refine AW.exit ?_
          cases someE hH
          exact ⟨trivial, rfl, _, [], [1], rfl, expLG_cons (.c (.rowR rfl)) (expLG_cons (.c .u) (expLG_cons (.c .u) (expLG_nil))), .t expLG_nil, by decide⟩

def slices_SortStableFunc_Rank_p (fuel : Nat) (x : List Rank) (cmp : Rank → Rank → Option Int) : Option (List Rank) :=
  (slices_stableCmpFunc_Rank_p fuel x (x.length : Int) cmp).bind fun x1 =>
  some x1
theorem slices_SortStableFunc_Rank_ok (fuel : Nat) (x : List Rank) (cmp_f : Nat) (cmp_c : List D) (cmp_k : cmp_c.all D.capOk = true) (cmp : Rank → Rank → Option Int) (cmp_h : ∀ (a0 : Rank) (a1 : Rank) (q : Int), cmp a0 a1 = some q → SpecR Tryz.prog cmp_f ([.g (encRank a0), .g (encRank a1)] ++ cmp_c) (.v (.int .i64 q))) (r : (List Rank)) (hH : slices_SortStableFunc_Rank_p fuel x cmp = some r) : SpecM Tryz.prog 95 [.w 3 (x.map encRank), .f cmp_f cmp_c] [.w 3 (r.map encRank), .u] (.t []) := by
  have cmp_r := cap_cfree cmp_k
  refine fn_okM T Tryz.func95 rfl (by decide) rfl (by simp [D.gOk, D.cellOk, cmp_k]) ?_
  intro L
  show AW _ _ _ (⟨[(0, .R 1), (1, .f cmp_f cmp_c)], [(1, .row 3 (List.map encRank x))], 9, [(1, L 1)]⟩ : St)
  obtain ⟨x1, hx2, hH⟩ := bindE hH
  refine AW.region ?_
  refine AO.pure T rfl rfl rfl ?_
  refine AO.pure T rfl rfl rfl ?_
  refine AO.val rfl rfl (len_row_ok T rfl rfl rfl rfl) ?_
  refine AO.pure T rfl rfl rfl ?_
  refine AO.step rfl (callM_ok rfl 2 rfl rfl (es := [.w 3 (x.map encRank), .v (.int .i64 (x.length : Int)), .f cmp_f cmp_c]) (outs := [.w 3 (x1.map encRank), .u, .u]) (ids := [1]) (by exact expLG_cons (.c (.rowR rfl)) (expLG_cons (.c .v) (expLG_cons (.c (.f cmp_r)) (expLG_nil)))) (by decide) (.inl (by rfl)) (by rfl) (slices_stableCmpFunc_Rank_ok fuel _ _ cmp_f cmp_c cmp_k cmp cmp_h _ (hx2)) rfl (by rfl) rfl) ?_
  refine AO.nil ?_
  cases someE hH
  exact ⟨trivial, rfl, _, [], [1], rfl, expLG_cons (.c (.rowR rfl)) (expLG_cons (.c .u) (expLG_nil)), .t expLG_nil, by decide⟩

def impl_worldList_c1_p (a : Rank) (b : Rank) : Option Int :=
  some (w64 (a.place - b.place))
theorem impl_worldList_c1_ok (a : Rank) (b : Rank) (r : Int) (hH : impl_worldList_c1_p a b = some r) : SpecR Tryz.prog 96 [.g (encRank a), .g (encRank b)] (.v (.int .i64 r)) := by
  refine fn_ok T Tryz.func96 rfl (by decide) rfl ?_
  refine AW.seq ?_
  refine AW.region ?_
  refine AO.step rfl (box_ok T rfl 1 rfl rfl rfl rfl) ?_
  refine AO.step rfl (box_ok T rfl 2 rfl rfl rfl rfl) ?_
  refine AO.pure T rfl rfl rfl ?_
  refine AO.nil ?_
  refine AW.seq ?_
  refine AW.region ?_
  refine AO.pure T rfl rfl rfl ?_
  refine AO.pure T rfl rfl rfl ?_
  refine AO.pure T rfl rfl rfl ?_
  refine AO.pure T rfl rfl rfl ?_
  refine AO.val rfl rfl (arw_ok rfl rfl rfl rfl) ?_
  refine AO.pure T rfl rfl rfl ?_
  refine AO.nil ?_
  refine AW.ret ?_
  cases someE hH
  exact ⟨trivial, _, [], rfl, .c (.c .v), by decide⟩

def impl_worldList_l2 (fuel : Nat) : List Int → Nat → List Rank → Option ((List Rank))
  | [], k32, v43 =>
    (slices_SortStableFunc_Rank_p fuel v43 (fun a0 a1 => impl_worldList_c1_p a0 a1)).bind fun x45 =>
    some x45
  | y33 :: ys34, k32, v43 =>
    (getI v43 (k32 : Int)).bind fun x47 =>
    impl_worldList_l2 fuel ys34 (k32 + 1) (v43.set ((k32 : Int).toNat) (Rank.mk x47.skater x47.total y33))
def impl_worldList_l1 (w : World) (fuel : Nat) : List Int → Nat → List Rank → List Int → Option ((List Rank))
  | [], k3, v27, v28 =>
    (impl_placesOf_p v28).bind fun x30 =>
    impl_worldList_l2 fuel x30 0 v27
  | y4 :: ys5, k3, v27, v28 =>
    (impl_seasonParts_p w y4).bind fun x49 =>
    (impl_sumInts_p x49).bind fun x51 =>
    (need (fitsB 24 (v27.length + ([(Rank.mk y4 x51 0)]).length))).bind fun u53 =>
    (need (fitsB 8 (v28.length + ([x51]).length))).bind fun u55 =>
    impl_worldList_l1 w fuel ys5 (k3 + 1) (v27 ++ [(Rank.mk y4 x51 0)]) (v28 ++ [x51])
def impl_worldList_p (fuel : Nat) (w : World) : Option (List Rank) :=
  (impl_worldSkaters_p fuel w).bind fun x1 =>
  impl_worldList_l1 w fuel x1 0 [] []
theorem impl_worldList_ok (fuel : Nat) (w : World) (r : (List Rank)) (hH : impl_worldList_p fuel w = some r) : SpecR Tryz.prog 59 [.g (encWorld w)] (.w 3 (r.map encRank)) := by
  refine fn_ok T Tryz.func59 rfl (by decide) rfl ?_
  refine AW.seq ?_
  refine AW.region ?_
  refine AO.step rfl (box_ok T rfl 1 rfl rfl rfl rfl) ?_
  refine AO.pure T rfl rfl rfl ?_
  refine AO.nil ?_
  refine AW.seq ?_
  refine AW.region ?_
  refine AO.step rfl (mk0_ok T rfl rfl rfl rfl) ?_
  refine AO.step rfl (mk0_ok T rfl rfl rfl rfl) ?_
  refine AO.pure T rfl rfl rfl ?_
  refine AO.pure T rfl rfl rfl ?_
  refine AO.nil ?_
  refine AW.seq ?_
  refine AW.seq ?_
  obtain ⟨x1, hx2, hH⟩ := bindE hH
  refine AW.region ?_
  refine AO.pure T (d := .g [.s (List.map encSeason w.seasons), .s (List.map encInt w.weights)]) rfl rfl rfl ?_
  refine AO.step rfl (call_ok rfl 2 rfl rfl rfl (impl_worldSkaters_ok fuel _ _ (hx2)) rfl rfl rfl) ?_
  refine AO.val rfl rfl (len_row_ok T rfl rfl rfl rfl) ?_
  refine AO.pure T rfl rfl rfl ?_
  refine AO.nil ?_
  refine AW.block ?_
  refine AW.loopS (fun s : Nat × (List Rank) × (List Int) => (⟨[(1, .p 1 0), (3, .R 10), (4, .R 12), (13, .R 2), (14, .v (.int .i64 (x1.length : Int))), (15, .v (.int .i64 (s.1 : Int)))], [(1, .box [.s (List.map encSeason w.seasons), .s (List.map encInt w.weights)]), (2, .row 1 (List.map encInt x1)), (10, .row 3 (List.map encRank s.2.1)), (12, .row 1 (List.map encInt s.2.2))], 51, []⟩ : St)) (fun s => s.1 ≤ x1.length ∧ impl_worldList_l1 w fuel (x1.drop s.1) s.1 s.2.1 s.2.2 = some r) (fun s => x1.length - s.1) (0, [], []) ⟨Nat.zero_le _, hH⟩ ?_ ?_
  · refine Le.trans (Le.void 3 10 3 rfl rfl) ?_
    refine Le.trans (Le.void 4 12 1 rfl rfl) ?_
    exact Le.cut 0 0 rfl (by repeat' (first | exact trivial | refine ⟨⟨_, rfl, rfl⟩, ?_⟩)) (by repeat' (first | exact trivial | refine ⟨⟨_, rfl, rfl⟩, ?_⟩)) rfl
  · rintro ⟨k3, v27, v28⟩ ⟨hk, hH⟩
    replace hH : impl_worldList_l1 w fuel (x1.drop k3) k3 v27 v28 = some r := hH
    show AW _ _ _ (⟨[(1, .p 1 0), (3, .R 10), (4, .R 12), (13, .R 2), (14, .v (.int .i64 (x1.length : Int))), (15, .v (.int .i64 (k3 : Int)))], [(1, .box [.s (List.map encSeason w.seasons), .s (List.map encInt w.weights)]), (2, .row 1 (List.map encInt x1)), (10, .row 3 (List.map encRank v27)), (12, .row 1 (List.map encInt v28))], 51, []⟩ : St)
    refine AW.boundR (id := 2) (l := x1) rfl (fun hb7 => ?_)
    cases hd6 : x1.drop k3 with
    | nil =>
      rw [hd6] at hH
      rw [impl_worldList_l1] at hH
      have hlt8 := drop_ge hd6
      refine AW.seq ?_
      refine AW.region ?_
      refine AO.pure T rfl rfl rfl ?_
      refine AO.nil ?_
      refine AW.seq ?_
      refine AW.condF' (b := decide ((k3 : Int) < (x1.length : Int))) rfl (rngF hlt8) ?_
      refine AW.exit ?_
      refine AW.seq ?_
      refine AW.seq ?_
      obtain ⟨x30, hx31, hH⟩ := bindE hH
      refine AW.region ?_
      refine AO.pure T rfl rfl rfl ?_
      refine AO.step rfl (callL_ok rfl 13 rfl rfl (es := [.s (List.map encInt v28)]) (by exact ⟨(.rowR rfl (.map fun y => .vs rfl)), trivial⟩) (impl_placesOf_ok _ _ (hx31)) (zfree_map (fun y => (.cons (zfree_v _) .nil))) rfl rfl rfl) ?_
      refine AO.val rfl rfl (len_row_ok T rfl rfl rfl rfl) ?_
      refine AO.pure T rfl rfl rfl ?_
      refine AO.nil ?_
      refine AW.block ?_
      refine AW.loopS (fun s : Nat × (List Rank) => (⟨[(3, .R 10), (35, .R 13), (36, .v (.int .i64 (x30.length : Int))), (37, .v (.int .i64 (s.1 : Int)))], [(10, .row 3 (List.map encRank s.2)), (13, .row 1 (List.map encInt x30))], 51, []⟩ : St)) (fun s => s.1 ≤ x30.length ∧ impl_worldList_l2 fuel (x30.drop s.1) s.1 s.2 = some r) (fun s => x30.length - s.1) (0, v27) ⟨Nat.zero_le _, hH⟩ ?_ ?_
      · exact Le.cut 0 0 rfl (by repeat' (first | exact trivial | refine ⟨⟨_, rfl, rfl⟩, ?_⟩)) (by repeat' (first | exact trivial | refine ⟨⟨_, rfl, rfl⟩, ?_⟩)) rfl
      · rintro ⟨k32, v43⟩ ⟨hk, hH⟩
        replace hH : impl_worldList_l2 fuel (x30.drop k32) k32 v43 = some r := hH
        show AW _ _ _ (⟨[(3, .R 10), (35, .R 13), (36, .v (.int .i64 (x30.length : Int))), (37, .v (.int .i64 (k32 : Int)))], [(10, .row 3 (List.map encRank v43)), (13, .row 1 (List.map encInt x30))], 51, []⟩ : St)
        refine AW.boundR (id := 13) (l := x30) rfl (fun hb36 => ?_)
        cases hd35 : x30.drop k32 with
        | nil =>
          rw [hd35] at hH
          rw [impl_worldList_l2] at hH
          have hlt37 := drop_ge hd35
          refine AW.seq ?_
          refine AW.region ?_
          refine AO.pure T rfl rfl rfl ?_
          refine AO.nil ?_
          refine AW.seq ?_
          refine AW.condF' (b := decide ((k32 : Int) < (x30.length : Int))) rfl (rngF hlt37) ?_
          refine AW.exit ?_
          refine AW.seq ?_
          obtain ⟨x45, hx46, hH⟩ := bindE hH
          refine AW.region ?_
          refine AO.pure T rfl rfl rfl ?_
          refine AO.step rfl (callM_ok rfl 14 rfl rfl (es := [.w 3 (v43.map encRank), .f 96 []]) (outs := [.w 3 (x45.map encRank), .u]) (ids := [10]) (by exact expLG_cons (.c (.rowR rfl)) (expLG_cons (.c (.f rfl)) (expLG_nil))) (by decide) (.inl (by rfl)) (by rfl) (slices_SortStableFunc_Rank_ok fuel _ 96 [] rfl (fun a0 a1 => impl_worldList_c1_p a0 a1) (fun a0 a1 q h => impl_worldList_c1_ok a0 a1  q h) _ (hx46)) rfl (by rfl) rfl) ?_
          refine AO.nil ?_
          refine AW.seq ?_
          refine AW.region ?_
          refine AO.pure T rfl rfl rfl ?_
          refine AO.pure T rfl rfl rfl ?_
          refine AO.nil ?_
          refine AW.ret ?_
          cases someE hH
          exact ⟨trivial, _, [10], rfl, .c (.c (.rowR rfl)), by decide⟩
        | cons y33 ys34 =>
          rw [hd35] at hH
          rw [impl_worldList_l2] at hH
          have hlt37 := drop_lt hd35
          refine AW.seq ?_
          refine AW.region ?_
          refine AO.pure T rfl rfl rfl ?_
          refine AO.nil ?_
          refine AW.seq ?_
          refine AW.condT' (b := decide ((k32 : Int) < (x30.length : Int))) rfl (rngT hlt37) ?_
          refine AW.skip ?_
          refine AW.seq ?_
          refine AW.block ?_
          refine AW.seq ?_
          refine AW.region ?_
          refine AO.pure T rfl rfl rfl ?_
          refine AO.val rfl rfl (ix_row_ok T rfl rfl rfl rfl rfl rfl (getI_drop hd35)) ?_
          refine AO.val rfl rfl (load_row_ok T rfl rfl rfl rfl (getI_get (getI_drop hd35)) rfl rfl rfl) ?_
          refine AO.pure T rfl rfl rfl ?_
          refine AO.pure T rfl rfl rfl ?_
          refine AO.nil ?_
          obtain ⟨x47, hx48, hH⟩ := bindE hH
          refine AW.region ?_
          refine AO.pure T rfl rfl rfl ?_
          refine AO.pure T rfl rfl rfl ?_
          refine AO.pure T rfl rfl rfl ?_
          refine AO.val rfl rfl (ix_row_ok T rfl rfl rfl rfl rfl rfl (hx48)) ?_
          refine AO.pure T rfl rfl rfl ?_
          refine AO.step rfl (store_row_ok T rfl rfl rfl rfl rfl (getI_get (hx48)) rfl rfl rfl rfl (u' := (Rank.mk x47.skater x47.total y33)) rfl rfl) ?_
          refine AO.nil ?_
          refine AW.region ?_
          refine AO.val rfl rfl (ar_ok rfl rfl rfl rfl (inI_succ hlt37 hb36)) ?_
          refine AO.pure T rfl rfl rfl ?_
          refine AO.nil ?_
          refine ⟨(k32 + 1, (v43.set ((k32 : Int).toNat) (Rank.mk x47.skater x47.total y33))), ⟨Nat.succ_le_of_lt hlt37, (by rw [drop_succ_of hd35]; exact hH)⟩, (by have := hlt37; dsimp only; omega), ?_⟩
          exact Le.cut 0 0 rfl (by repeat' (first | exact trivial | refine ⟨⟨_, rfl, rfl⟩, ?_⟩)) (by repeat' (first | exact trivial | refine ⟨⟨_, rfl, rfl⟩, ?_⟩)) rfl
    | cons y4 ys5 =>
      rw [hd6] at hH
      rw [impl_worldList_l1] at hH
      have hlt8 := drop_lt hd6
      refine AW.seq ?_
      refine AW.region ?_
      refine AO.pure T rfl rfl rfl ?_
      refine AO.nil ?_
      refine AW.seq ?_
      refine AW.condT' (b := decide ((k3 : Int) < (x1.length : Int))) rfl (rngT hlt8) ?_
      refine AW.skip ?_
      refine AW.seq ?_
      refine AW.block ?_
      refine AW.seq ?_
      refine AW.region ?_
      refine AO.val rfl rfl (ix_row_ok T rfl rfl rfl rfl rfl rfl (getI_drop hd6)) ?_
      refine AO.val rfl rfl (load_row_ok T rfl rfl rfl rfl (getI_get (getI_drop hd6)) rfl rfl rfl) ?_
      refine AO.pure T rfl rfl rfl ?_
      refine AO.nil ?_
      refine AW.seq ?_
      obtain ⟨x49, hx50, hH⟩ := bindE hH
      obtain ⟨x51, hx52, hH⟩ := bindE hH
      refine AW.region ?_
      refine AO.pure T (d := .g [.s (List.map encSeason w.seasons), .s (List.map encInt w.weights)]) rfl rfl rfl ?_
      refine AO.pure T rfl rfl rfl ?_
      refine AO.step rfl (call_ok rfl 14 rfl rfl rfl (impl_seasonParts_ok _ _ _ (hx50)) rfl rfl rfl) ?_
      refine AO.val rfl rfl (callLV_ok rfl rfl rfl (es := [.s (List.map encInt x49)]) ⟨(.rowR rfl (.map fun y => .vs rfl)), trivial⟩ (impl_sumInts_ok _ _ (hx52)) (zfree_v _) rfl) ?_
      refine AO.pure T rfl rfl rfl ?_
      refine AO.nil ?_
      refine AW.seq ?_
      obtain ⟨u53, hx54, hH⟩ := bindE hH
      refine AW.region ?_
      refine AO.pure T rfl rfl rfl ?_
      refine AO.pure T rfl rfl rfl ?_
      refine AO.pure T rfl rfl rfl ?_
      refine AO.pure T (d := .g [.v (.int .i64 y4), .v (.int .i64 x51), .v (.int .i64 0)]) rfl rfl rfl ?_
      refine AO.step rfl (mk_map_ok T rfl 15 rfl rfl rfl rfl rfl (f := encRank) (l := [(Rank.mk y4 x51 0)]) rfl rfl (fun _ => rfl) rfl rfl rfl rfl rfl) ?_
      refine AO.step rfl (app_rv_map T rfl 16 rfl rfl rfl rfl rfl (by decide) rfl rfl rfl rfl (fun _ => rfl) (needT (hx54)) rfl rfl) ?_
      refine AO.pure T rfl rfl rfl ?_
      refine AO.nil ?_
      obtain ⟨u55, hx56, hH⟩ := bindE hH
      refine AW.region ?_
      refine AO.pure T rfl rfl rfl ?_
      refine AO.pure T rfl rfl rfl ?_
      refine AO.step rfl (mk_map_ok T rfl 17 rfl rfl rfl rfl rfl (f := encInt) (l := [x51]) rfl rfl (fun _ => rfl) rfl rfl rfl rfl rfl) ?_
      refine AO.step rfl (app_rv_map T rfl 18 rfl rfl rfl rfl rfl (by decide) rfl rfl rfl rfl (fun _ => rfl) (needT (hx56)) rfl rfl) ?_
      refine AO.pure T rfl rfl rfl ?_
      refine AO.nil ?_
      refine AW.region ?_
      refine AO.val rfl rfl (ar_ok rfl rfl rfl rfl (inI_succ hlt8 hb7)) ?_
      refine AO.pure T rfl rfl rfl ?_
      refine AO.nil ?_
      refine ⟨(k3 + 1, (v27 ++ [(Rank.mk y4 x51 0)]), (v28 ++ [x51])), ⟨Nat.succ_le_of_lt hlt8, (by rw [drop_succ_of hd6]; exact hH)⟩, (by have := hlt8; dsimp only; omega), ?_⟩
      refine Le.trans (Le.cut 16 10 (σ' := (⟨[(1, .p 1 0), (3, .R 10), (4, .R 18), (13, .R 2), (14, .v (.int .i64 (x1.length : Int))), (15, .v (.int .i64 (k3 + 1 : Nat)))], [(1, .box [.s (List.map encSeason w.seasons), .s (List.map encInt w.weights)]), (2, .row 1 (List.map encInt x1)), (10, .row 3 (List.map encRank (v27 ++ [(Rank.mk y4 x51 0)]))), (18, .row 1 (List.map encInt (v28 ++ [x51])))], 51, []⟩ : St)) rfl (by repeat' (first | exact trivial | refine ⟨⟨_, rfl, rfl⟩, ?_⟩)) (by repeat' (first | exact trivial | refine ⟨⟨_, rfl, rfl⟩, ?_⟩)) rfl) ?_
      exact Le.cut 18 12 rfl (by repeat' (first | exact trivial | refine ⟨⟨_, rfl, rfl⟩, ?_⟩)) (by repeat' (first | exact trivial | refine ⟨⟨_, rfl, rfl⟩, ?_⟩)) rfl

def impl_SeedsFor_l2 (skaters : List Int) : List Rank → Nat → List Entrant → Int → Option (((List Entrant) × Bool))
  | [], k20, v36, v37 =>
    some (v36, true)
  | y21 :: ys22, k20, v36, v37 =>
    (slices_Index_int_p skaters y21.skater).bind fun x39 =>
    cond (decide (x39 ≥ 0))
      ((getI v36 x39).bind fun x41 =>
      impl_SeedsFor_l2 skaters ys22 (k20 + 1) (v36.set x39.toNat (Entrant.mk x41.skater (w64 (v37 + 1)))) (w64 (v37 + 1)))
      (impl_SeedsFor_l2 skaters ys22 (k20 + 1) v36 v37)
def impl_SeedsFor_l1 (w : World) (skaters : List Int) (fuel : Nat) : List Int → Nat → List Entrant → Option (((List Entrant) × Bool))
  | [], k5, v16 =>
    (impl_worldList_p fuel w).bind fun x18 =>
    impl_SeedsFor_l2 skaters x18 0 v16 0
  | y6 :: ys7, k5, v16 =>
    (need (fitsB 16 (v16.length + ([(Entrant.mk y6 0)]).length))).bind fun u43 =>
    impl_SeedsFor_l1 w skaters fuel ys7 (k5 + 1) (v16 ++ [(Entrant.mk y6 0)])
def impl_SeedsFor_p (fuel : Nat) (w : World) (skaters : List Int) : Option ((List Entrant) × Bool) :=
  (impl_IsWorld_p fuel w).bind fun x1 =>
  (opt (!(!x1)) default (impl_isOrder_p skaters)).bind fun x3 =>
  cond ((!x1) || (!x3))
    (some ([], false))
    (impl_SeedsFor_l1 w skaters fuel skaters 0 [])
theorem impl_SeedsFor_ok (fuel : Nat) (w : World) (skaters : List Int) (r : ((List Entrant) × Bool)) (hH : impl_SeedsFor_p fuel w skaters = some r) : SpecR Tryz.prog 10 [.g (encWorld w), .s (List.map encInt skaters)] (.t [.w 2 (r.1.map encEntrant), .v (.bool r.2)]) := by
  refine fn_ok T Tryz.func10 rfl (by decide) rfl ?_
  refine AW.seq ?_
  refine AW.region ?_
  refine AO.step rfl (box_ok T rfl 1 rfl rfl rfl rfl) ?_
  refine AO.pure T rfl rfl rfl ?_
  refine AO.pure T rfl rfl rfl ?_
  refine AO.nil ?_
  refine AW.seq ?_
  refine AW.seq ?_
  obtain ⟨x1, hx2, hH⟩ := bindE hH
  obtain ⟨x3, hx4, hH⟩ := bindE hH
  refine AW.region ?_
  refine AO.pure T (d := .g [.s (List.map encSeason w.seasons), .s (List.map encInt w.weights)]) rfl rfl rfl ?_
  refine AO.val rfl rfl (callV_ok rfl rfl rfl rfl (impl_IsWorld_ok fuel _ _ (hx2)) rfl) ?_
  refine AO.pure T rfl rfl rfl ?_
  refine AO.pure T rfl rfl rfl ?_
  refine AO.pureG T [] rfl trivial rfl rfl ?_
  refine AO.guard [17] rfl ⟨fun h => h, trivial⟩ (fun hg => callV_ok rfl rfl rfl rfl (impl_isOrder_ok _ _ (optT hx4 hg)) rfl) rfl ?_
  refine AO.pureG T [18] rfl ⟨fun h => h, trivial⟩ rfl rfl ?_
  refine AO.val rfl rfl (pick_or rfl rfl rfl rfl) ?_
  refine AO.nil ?_
  refine AW.cond (b := ((!x1) || (!x3))) rfl (fun hc => ?_) (fun hc => ?_)
  · replace hH := condT hc hH
    refine AW.seq ?_
    refine AW.region ?_
    refine AO.pure T rfl rfl rfl ?_
    refine AO.pure T rfl rfl rfl ?_
    refine AO.nil ?_
    refine AW.ret ?_
    cases someE hH
    exact ⟨trivial, _, [], rfl, .t (expLG_cons (.c .nil) (expLG_cons (.c .v) (expLG_nil))), by decide⟩
  · replace hH := condF hc hH
    refine AW.skip ?_
    refine AW.seq ?_
    refine AW.region ?_
    refine AO.step rfl (mk0_ok T rfl rfl rfl rfl) ?_
    refine AO.pure T rfl rfl rfl ?_
    refine AO.nil ?_
    refine AW.seq ?_
    refine AW.seq ?_
    refine AW.region ?_
    refine AO.pure T rfl rfl rfl ?_
    refine AO.val rfl rfl (len_map_ok T rfl rfl rfl) ?_
    refine AO.pure T rfl rfl rfl ?_
    refine AO.nil ?_
    refine AW.block ?_
    refine AW.loopS (fun s : Nat × (List Entrant) => (⟨[(1, .s (List.map encInt skaters)), (2, .p 1 0), (6, .R 5), (22, .s (List.map encInt skaters)), (23, .v (.int .i64 (skaters.length : Int))), (24, .v (.int .i64 (s.1 : Int)))], [(1, .box [.s (List.map encSeason w.seasons), .s (List.map encInt w.weights)]), (5, .row 2 (List.map encEntrant s.2))], 56, []⟩ : St)) (fun s => s.1 ≤ skaters.length ∧ impl_SeedsFor_l1 w skaters fuel (skaters.drop s.1) s.1 s.2 = some r) (fun s => skaters.length - s.1) (0, []) ⟨Nat.zero_le _, hH⟩ ?_ ?_
    · refine Le.trans (Le.void 6 5 2 rfl rfl) ?_
      exact Le.cut 0 0 rfl (by repeat' (first | exact trivial | refine ⟨⟨_, rfl, rfl⟩, ?_⟩)) (by repeat' (first | exact trivial | refine ⟨⟨_, rfl, rfl⟩, ?_⟩)) rfl
    · rintro ⟨k5, v16⟩ ⟨hk, hH⟩
      replace hH : impl_SeedsFor_l1 w skaters fuel (skaters.drop k5) k5 v16 = some r := hH
      show AW _ _ _ (⟨[(1, .s (List.map encInt skaters)), (2, .p 1 0), (6, .R 5), (22, .s (List.map encInt skaters)), (23, .v (.int .i64 (skaters.length : Int))), (24, .v (.int .i64 (k5 : Int)))], [(1, .box [.s (List.map encSeason w.seasons), .s (List.map encInt w.weights)]), (5, .row 2 (List.map encEntrant v16))], 56, []⟩ : St)
      refine AW.boundM (t := 1) (l := skaters) rfl (fun hb9 => ?_)
      cases hd8 : skaters.drop k5 with
      | nil =>
        rw [hd8] at hH
        rw [impl_SeedsFor_l1] at hH
        have hlt10 := drop_ge hd8
        refine AW.seq ?_
        refine AW.region ?_
        refine AO.pure T rfl rfl rfl ?_
        refine AO.nil ?_
        refine AW.seq ?_
        refine AW.condF' (b := decide ((k5 : Int) < (skaters.length : Int))) rfl (rngF hlt10) ?_
        refine AW.exit ?_
        refine AW.seq ?_
        refine AW.region ?_
        refine AO.pure T rfl rfl rfl ?_
        refine AO.nil ?_
        refine AW.seq ?_
        refine AW.seq ?_
        obtain ⟨x18, hx19, hH⟩ := bindE hH
        refine AW.region ?_
        refine AO.pure T (d := .g [.s (List.map encSeason w.seasons), .s (List.map encInt w.weights)]) rfl rfl rfl ?_
        refine AO.step rfl (call_ok rfl 6 rfl rfl rfl (impl_worldList_ok fuel _ _ (hx19)) rfl rfl rfl) ?_
        refine AO.val rfl rfl (len_row_ok T rfl rfl rfl rfl) ?_
        refine AO.pure T rfl rfl rfl ?_
        refine AO.nil ?_
        refine AW.block ?_
        refine AW.loopS (fun s : Nat × (List Entrant) × Int => (⟨[(1, .s (List.map encInt skaters)), (6, .R 5), (9, .v (.int .i64 s.2.2)), (35, .R 6), (36, .v (.int .i64 (x18.length : Int))), (37, .v (.int .i64 (s.1 : Int)))], [(5, .row 2 (List.map encEntrant s.2.1)), (6, .row 3 (List.map encRank x18))], 56, []⟩ : St)) (fun s => s.1 ≤ x18.length ∧ impl_SeedsFor_l2 skaters (x18.drop s.1) s.1 s.2.1 s.2.2 = some r) (fun s => x18.length - s.1) (0, v16, 0) ⟨Nat.zero_le _, hH⟩ ?_ ?_
        · exact Le.cut 0 0 rfl (by repeat' (first | exact trivial | refine ⟨⟨_, rfl, rfl⟩, ?_⟩)) (by repeat' (first | exact trivial | refine ⟨⟨_, rfl, rfl⟩, ?_⟩)) rfl
        · rintro ⟨k20, v36, v37⟩ ⟨hk, hH⟩
          replace hH : impl_SeedsFor_l2 skaters (x18.drop k20) k20 v36 v37 = some r := hH
          show AW _ _ _ (⟨[(1, .s (List.map encInt skaters)), (6, .R 5), (9, .v (.int .i64 v37)), (35, .R 6), (36, .v (.int .i64 (x18.length : Int))), (37, .v (.int .i64 (k20 : Int)))], [(5, .row 2 (List.map encEntrant v36)), (6, .row 3 (List.map encRank x18))], 56, []⟩ : St)
          refine AW.boundR (id := 6) (l := x18) rfl (fun hb24 => ?_)
          cases hd23 : x18.drop k20 with
          | nil =>
            rw [hd23] at hH
            rw [impl_SeedsFor_l2] at hH
            have hlt25 := drop_ge hd23
            refine AW.seq ?_
            refine AW.region ?_
            refine AO.pure T rfl rfl rfl ?_
            refine AO.nil ?_
            refine AW.seq ?_
            refine AW.condF' (b := decide ((k20 : Int) < (x18.length : Int))) rfl (rngF hlt25) ?_
            refine AW.exit ?_
            refine AW.seq ?_
            refine AW.region ?_
            refine AO.pure T rfl rfl rfl ?_
            refine AO.pure T rfl rfl rfl ?_
            refine AO.pure T rfl rfl rfl ?_
            refine AO.nil ?_
            refine AW.ret ?_
            cases someE hH
            exact ⟨trivial, _, [5], rfl, .t (expLG_cons (.c (.rowR rfl)) (expLG_cons (.c .v) (expLG_nil))), by decide⟩
          | cons y21 ys22 =>
            rw [hd23] at hH
            rw [impl_SeedsFor_l2] at hH
            have hlt25 := drop_lt hd23
            refine AW.seq ?_
            refine AW.region ?_
            refine AO.pure T rfl rfl rfl ?_
            refine AO.nil ?_
            refine AW.seq ?_
            refine AW.condT' (b := decide ((k20 : Int) < (x18.length : Int))) rfl (rngT hlt25) ?_
            refine AW.skip ?_
            refine AW.seq ?_
            refine AW.block ?_
            refine AW.seq ?_
            refine AW.region ?_
            refine AO.val rfl rfl (ix_row_ok T rfl rfl rfl rfl rfl rfl (getI_drop hd23)) ?_
            refine AO.val rfl rfl (load_row_ok T rfl rfl rfl rfl (getI_get (getI_drop hd23)) rfl rfl rfl) ?_
            refine AO.step rfl (alloc_ok T rfl 9 rfl rfl rfl rfl rfl) ?_
            refine AO.step rfl (store_okE T rfl rfl rfl rfl rfl rfl rfl rfl rfl (ds' := [.v (.int .i64 y21.skater), .v (.int .i64 y21.total), .v (.int .i64 y21.place)]) rfl) ?_
            refine AO.nil ?_
            refine AW.seq ?_
            obtain ⟨x39, hx40, hH⟩ := bindE hH
            refine AW.region ?_
            refine AO.pure T rfl rfl rfl ?_
            refine AO.pure T rfl rfl rfl ?_
            refine AO.pure T rfl rfl rfl ?_
            refine AO.val rfl rfl (callV_ok rfl rfl rfl rfl (slices_Index_int_ok _ _ _ (hx40)) rfl) ?_
            refine AO.pure T rfl rfl rfl ?_
            refine AO.nil ?_
            refine AW.seq ?_
            refine AW.region ?_
            refine AO.pure T rfl rfl rfl ?_
            refine AO.pure T rfl rfl rfl ?_
            refine AO.nil ?_
            refine AW.cond (b := decide (x39 ≥ 0)) rfl (fun hc => ?_) (fun hc => ?_)
            · replace hH := condT hc hH
              refine AW.seq ?_
              refine AW.region ?_
              refine AO.pure T rfl rfl rfl ?_
              refine AO.val rfl rfl (arw_ok rfl rfl rfl rfl) ?_
              refine AO.pure T rfl rfl rfl ?_
              refine AO.nil ?_
              obtain ⟨x41, hx42, hH⟩ := bindE hH
              refine AW.region ?_
              refine AO.pure T rfl rfl rfl ?_
              refine AO.pure T rfl rfl rfl ?_
              refine AO.pure T rfl rfl rfl ?_
              refine AO.val rfl rfl (ix_row_ok T rfl rfl rfl rfl rfl rfl (hx42)) ?_
              refine AO.pure T rfl rfl rfl ?_
              refine AO.step rfl (store_row_ok T rfl rfl rfl rfl rfl (getI_get (hx42)) rfl rfl rfl rfl (u' := (Entrant.mk x41.skater (w64 (v37 + 1)))) rfl rfl) ?_
              refine AO.nil ?_
              refine AW.region ?_
              refine AO.val rfl rfl (ar_ok rfl rfl rfl rfl (inI_succ hlt25 hb24)) ?_
              refine AO.pure T rfl rfl rfl ?_
              refine AO.nil ?_
              refine ⟨(k20 + 1, (v36.set x39.toNat (Entrant.mk x41.skater (w64 (v37 + 1)))), w64 (v37 + 1)), ⟨Nat.succ_le_of_lt hlt25, (by rw [drop_succ_of hd23]; exact hH)⟩, (by have := hlt25; dsimp only; omega), ?_⟩
              exact Le.cut 0 0 rfl (by repeat' (first | exact trivial | refine ⟨⟨_, rfl, rfl⟩, ?_⟩)) (by repeat' (first | exact trivial | refine ⟨⟨_, rfl, rfl⟩, ?_⟩)) rfl
            · replace hH := condF hc hH
              refine AW.skip ?_
              refine AW.region ?_
              refine AO.val rfl rfl (ar_ok rfl rfl rfl rfl (inI_succ hlt25 hb24)) ?_
              refine AO.pure T rfl rfl rfl ?_
              refine AO.nil ?_
              refine ⟨(k20 + 1, v36, v37), ⟨Nat.succ_le_of_lt hlt25, (by rw [drop_succ_of hd23]; exact hH)⟩, (by have := hlt25; dsimp only; omega), ?_⟩
              exact Le.cut 0 0 rfl (by repeat' (first | exact trivial | refine ⟨⟨_, rfl, rfl⟩, ?_⟩)) (by repeat' (first | exact trivial | refine ⟨⟨_, rfl, rfl⟩, ?_⟩)) rfl
      | cons y6 ys7 =>
        rw [hd8] at hH
        rw [impl_SeedsFor_l1] at hH
        have hlt10 := drop_lt hd8
        refine AW.seq ?_
        refine AW.region ?_
        refine AO.pure T rfl rfl rfl ?_
        refine AO.nil ?_
        refine AW.seq ?_
        refine AW.condT' (b := decide ((k5 : Int) < (skaters.length : Int))) rfl (rngT hlt10) ?_
        refine AW.skip ?_
        refine AW.seq ?_
        refine AW.block ?_
        refine AW.seq ?_
        refine AW.region ?_
        refine AO.val rfl rfl (ix_map_ok T rfl rfl rfl rfl rfl (getI_drop hd8) rfl) ?_
        refine AO.pure T rfl rfl rfl ?_
        refine AO.pure T rfl rfl rfl ?_
        refine AO.nil ?_
        obtain ⟨u43, hx44, hH⟩ := bindE hH
        refine AW.region ?_
        refine AO.pure T rfl rfl rfl ?_
        refine AO.pure T rfl rfl rfl ?_
        refine AO.pure T (d := .g [.v (.int .i64 y6), .v (.int .i64 0)]) rfl rfl rfl ?_
        refine AO.step rfl (mk_map_ok T rfl 10 rfl rfl rfl rfl rfl (f := encEntrant) (l := [(Entrant.mk y6 0)]) rfl rfl (fun _ => rfl) rfl rfl rfl rfl rfl) ?_
        refine AO.step rfl (app_rv_map T rfl 11 rfl rfl rfl rfl rfl (by decide) rfl rfl rfl rfl (fun _ => rfl) (needT (hx44)) rfl rfl) ?_
        refine AO.pure T rfl rfl rfl ?_
        refine AO.nil ?_
        refine AW.region ?_
        refine AO.val rfl rfl (ar_ok rfl rfl rfl rfl (inI_succ hlt10 hb9)) ?_
        refine AO.pure T rfl rfl rfl ?_
        refine AO.nil ?_
        refine ⟨(k5 + 1, (v16 ++ [(Entrant.mk y6 0)])), ⟨Nat.succ_le_of_lt hlt10, (by rw [drop_succ_of hd8]; exact hH)⟩, (by have := hlt10; dsimp only; omega), ?_⟩
        exact Le.cut 11 5 rfl (by repeat' (first | exact trivial | refine ⟨⟨_, rfl, rfl⟩, ?_⟩)) (by repeat' (first | exact trivial | refine ⟨⟨_, rfl, rfl⟩, ?_⟩)) rfl

def laws_eqEntrant_p (a : Entrant) (b : Entrant) : Option Bool :=
  cond (a.skater != b.skater)
    (some false)
    (cond (a.rank != b.rank)
      (some false)
      (some true))
theorem laws_eqEntrant_ok (a : Entrant) (b : Entrant) (r : Bool) (hH : laws_eqEntrant_p a b = some r) : SpecR Tryz.prog 61 [.g (encEntrant a), .g (encEntrant b)] (.v (.bool r)) := by
  refine fn_ok T Tryz.func61 rfl (by decide) rfl ?_
  refine AW.seq ?_
  refine AW.region ?_
  refine AO.step rfl (box_ok T rfl 1 rfl rfl rfl rfl) ?_
  refine AO.step rfl (box_ok T rfl 2 rfl rfl rfl rfl) ?_
  refine AO.pure T rfl rfl rfl ?_
  refine AO.nil ?_
  refine AW.seq ?_
  refine AW.seq ?_
  refine AW.region ?_
  refine AO.pure T rfl rfl rfl ?_
  refine AO.pure T rfl rfl rfl ?_
  refine AO.pure T rfl rfl rfl ?_
  refine AO.pure T rfl rfl rfl ?_
  refine AO.pure T rfl rfl rfl ?_
  refine AO.nil ?_
  refine AW.cond (b := (a.skater != b.skater)) rfl (fun hc => ?_) (fun hc => ?_)
  · replace hH := condT hc hH
    refine AW.seq ?_
    refine AW.region ?_
    refine AO.pure T rfl rfl rfl ?_
    refine AO.nil ?_
    refine AW.ret ?_
    cases someE hH
    exact ⟨trivial, _, [], rfl, .c (.c .v), by decide⟩
  · replace hH := condF hc hH
    refine AW.skip ?_
    refine AW.seq ?_
    refine AW.seq ?_
    refine AW.region ?_
    refine AO.pure T rfl rfl rfl ?_
    refine AO.pure T rfl rfl rfl ?_
    refine AO.pure T rfl rfl rfl ?_
    refine AO.pure T rfl rfl rfl ?_
    refine AO.pure T rfl rfl rfl ?_
    refine AO.nil ?_
    refine AW.cond (b := (a.rank != b.rank)) rfl (fun hc => ?_) (fun hc => ?_)
    · replace hH := condT hc hH
      refine AW.seq ?_
      refine AW.region ?_
      refine AO.pure T rfl rfl rfl ?_
      refine AO.nil ?_
      refine AW.ret ?_
      cases someE hH
      exact ⟨trivial, _, [], rfl, .c (.c .v), by decide⟩
    · replace hH := condF hc hH
      refine AW.skip ?_
      refine AW.seq ?_
      refine AW.region ?_
      refine AO.pure T rfl rfl rfl ?_
      refine AO.nil ?_
      refine AW.ret ?_
      cases someE hH
      exact ⟨trivial, _, [], rfl, .c (.c .v), by decide⟩

def laws_eqEntrantS_l1 (b : List Entrant) : List Entrant → Nat → Option Bool
  | [], k1 =>
    some true
  | y2 :: ys3, k1 =>
    (getI b (k1 : Int)).bind fun x16 =>
    (laws_eqEntrant_p y2 x16).bind fun x18 =>
    cond (!x18)
      (some false)
      (laws_eqEntrantS_l1 b ys3 (k1 + 1))
def laws_eqEntrantS_p (a : List Entrant) (b : List Entrant) : Option Bool :=
  cond ((a.length : Int) != (b.length : Int))
    (some false)
    (laws_eqEntrantS_l1 b a 0)
theorem laws_eqEntrantS_ok (a : List Entrant) (b : List Entrant) (r : Bool) (hH : laws_eqEntrantS_p a b = some r) : SpecR Tryz.prog 11 [.s (List.map encEntrant a), .s (List.map encEntrant b)] (.v (.bool r)) := by
  refine fn_ok T Tryz.func11 rfl (by decide) rfl ?_
  refine AW.seq ?_
  refine AW.region ?_
  refine AO.pure T rfl rfl rfl ?_
  refine AO.nil ?_
  refine AW.seq ?_
  refine AW.seq ?_
  refine AW.region ?_
  refine AO.pure T rfl rfl rfl ?_
  refine AO.val rfl rfl (len_map_ok T rfl rfl rfl) ?_
  refine AO.pure T rfl rfl rfl ?_
  refine AO.val rfl rfl (len_map_ok T rfl rfl rfl) ?_
  refine AO.pure T rfl rfl rfl ?_
  refine AO.nil ?_
  refine AW.cond (b := ((a.length : Int) != (b.length : Int))) rfl (fun hc => ?_) (fun hc => ?_)
  · replace hH := condT hc hH
    refine AW.seq ?_
    refine AW.region ?_
    refine AO.pure T rfl rfl rfl ?_
    refine AO.nil ?_
    refine AW.ret ?_
    cases someE hH
    exact ⟨trivial, _, [], rfl, .c (.c .v), by decide⟩
  · replace hH := condF hc hH
    refine AW.skip ?_
    refine AW.seq ?_
    refine AW.seq ?_
    refine AW.region ?_
    refine AO.pure T rfl rfl rfl ?_
    refine AO.nil ?_
    refine AW.block ?_
    refine AW.loopS (fun s : Nat => (⟨[(0, .s (List.map encEntrant a)), (1, .s (List.map encEntrant b)), (5, .v (.int .i64 (s : Int)))], [], 27, []⟩ : St)) (fun s => s ≤ a.length ∧ laws_eqEntrantS_l1 b (a.drop s) s = some r) (fun s => a.length - s) 0 ⟨Nat.zero_le _, hH⟩ ?_ ?_
    · exact Le.cut 0 0 rfl (by repeat' (first | exact trivial | refine ⟨⟨_, rfl, rfl⟩, ?_⟩)) (by repeat' (first | exact trivial | refine ⟨⟨_, rfl, rfl⟩, ?_⟩)) rfl
    · rintro k1 ⟨hk, hH⟩
      replace hH : laws_eqEntrantS_l1 b (a.drop k1) k1 = some r := hH
      show AW _ _ _ (⟨[(0, .s (List.map encEntrant a)), (1, .s (List.map encEntrant b)), (5, .v (.int .i64 (k1 : Int)))], [], 27, []⟩ : St)
      refine AW.boundM (t := 0) (l := a) rfl (fun hb5 => ?_)
      cases hd4 : a.drop k1 with
      | nil =>
        rw [hd4] at hH
        rw [laws_eqEntrantS_l1] at hH
        have hlt6 := drop_ge hd4
        refine AW.seq ?_
        refine AW.seq ?_
        refine AW.region ?_
        refine AO.pure T rfl rfl rfl ?_
        refine AO.pure T rfl rfl rfl ?_
        refine AO.val rfl rfl (len_map_ok T rfl rfl rfl) ?_
        refine AO.pure T rfl rfl rfl ?_
        refine AO.nil ?_
        refine AW.condF' (b := decide ((k1 : Int) < (a.length : Int))) rfl (rngF hlt6) ?_
        refine AW.exit ?_
        refine AW.seq ?_
        refine AW.region ?_
        refine AO.pure T rfl rfl rfl ?_
        refine AO.nil ?_
        refine AW.ret ?_
        cases someE hH
        exact ⟨trivial, _, [], rfl, .c (.c .v), by decide⟩
      | cons y2 ys3 =>
        rw [hd4] at hH
        rw [laws_eqEntrantS_l1] at hH
        have hlt6 := drop_lt hd4
        refine AW.seq ?_
        refine AW.seq ?_
        refine AW.region ?_
        refine AO.pure T rfl rfl rfl ?_
        refine AO.pure T rfl rfl rfl ?_
        refine AO.val rfl rfl (len_map_ok T rfl rfl rfl) ?_
        refine AO.pure T rfl rfl rfl ?_
        refine AO.nil ?_
        refine AW.condT' (b := decide ((k1 : Int) < (a.length : Int))) rfl (rngT hlt6) ?_
        refine AW.skip ?_
        refine AW.seq ?_
        refine AW.block ?_
        refine AW.seq ?_
        obtain ⟨x16, hx17, hH⟩ := bindE hH
        obtain ⟨x18, hx19, hH⟩ := bindE hH
        refine AW.drawn 8 1 [] mix (by kernel_rfl) rfl ?_
        refine AD.pure T rfl rfl rfl ?_
        refine AD.pure T rfl rfl rfl ?_
        refine AD.val rfl rfl (ix_map_ok T rfl rfl rfl rfl rfl (getI_drop hd4) rfl) ?_
        refine AD.pure T (d := .g [.v (.int .i64 y2.skater), .v (.int .i64 y2.rank)]) rfl rfl rfl ?_
        refine AD.pure T rfl rfl rfl ?_
        refine AD.pure T rfl rfl rfl ?_
        refine AD.val rfl rfl (ix_map_ok T rfl rfl rfl rfl rfl (hx17) rfl) ?_
        refine AD.pure T (d := .g [.v (.int .i64 x16.skater), .v (.int .i64 x16.rank)]) rfl rfl rfl ?_
        refine AD.nil ?_
        refine AO.val rfl rfl (callV_ok rfl rfl rfl rfl (laws_eqEntrant_ok _ _ _ (hx19)) rfl) ?_
        refine AO.pure T rfl rfl rfl ?_
        refine AO.nil ?_
        refine AW.cond (b := (!x18)) rfl (fun hc => ?_) (fun hc => ?_)
        · replace hH := condT hc hH
          refine AW.seq ?_
          refine AW.region ?_
          refine AO.pure T rfl rfl rfl ?_
          refine AO.nil ?_
          refine AW.ret ?_
          cases someE hH
          exact ⟨trivial, _, [], rfl, .c (.c .v), by decide⟩
        · replace hH := condF hc hH
          refine AW.skip ?_
          refine AW.region ?_
          refine AO.pure T rfl rfl rfl ?_
          refine AO.val rfl rfl (ar_ok rfl rfl rfl rfl (inI_succ hlt6 hb5)) ?_
          refine AO.pure T rfl rfl rfl ?_
          refine AO.nil ?_
          refine ⟨k1 + 1, ⟨Nat.succ_le_of_lt hlt6, (by rw [drop_succ_of hd4]; exact hH)⟩, (by have := hlt6; dsimp only; omega), ?_⟩
          exact Le.cut 0 0 rfl (by repeat' (first | exact trivial | refine ⟨⟨_, rfl, rfl⟩, ?_⟩)) (by repeat' (first | exact trivial | refine ⟨⟨_, rfl, rfl⟩, ?_⟩)) rfl

def laws_eqIntS_l1 (b : List Int) : List Int → Nat → Option Bool
  | [], k1 =>
    some true
  | y2 :: ys3, k1 =>
    (getI b (k1 : Int)).bind fun x12 =>
    cond (y2 != x12)
      (some false)
      (laws_eqIntS_l1 b ys3 (k1 + 1))
def laws_eqIntS_p (a : List Int) (b : List Int) : Option Bool :=
  cond ((a.length : Int) != (b.length : Int))
    (some false)
    (laws_eqIntS_l1 b a 0)
theorem laws_eqIntS_ok (a : List Int) (b : List Int) (r : Bool) (hH : laws_eqIntS_p a b = some r) : SpecR Tryz.prog 13 [.s (List.map encInt a), .s (List.map encInt b)] (.v (.bool r)) := by
  refine fn_ok T Tryz.func13 rfl (by decide) rfl ?_
  refine AW.seq ?_
  refine AW.region ?_
  refine AO.pure T rfl rfl rfl ?_
  refine AO.nil ?_
  refine AW.seq ?_
  refine AW.seq ?_
  refine AW.region ?_
  refine AO.pure T rfl rfl rfl ?_
  refine AO.val rfl rfl (len_map_ok T rfl rfl rfl) ?_
  refine AO.pure T rfl rfl rfl ?_
  refine AO.val rfl rfl (len_map_ok T rfl rfl rfl) ?_
  refine AO.pure T rfl rfl rfl ?_
  refine AO.nil ?_
  refine AW.cond (b := ((a.length : Int) != (b.length : Int))) rfl (fun hc => ?_) (fun hc => ?_)
  · replace hH := condT hc hH
    refine AW.seq ?_
    refine AW.region ?_
    refine AO.pure T rfl rfl rfl ?_
    refine AO.nil ?_
    refine AW.ret ?_
    cases someE hH
    exact ⟨trivial, _, [], rfl, .c (.c .v), by decide⟩
  · replace hH := condF hc hH
    refine AW.skip ?_
    refine AW.seq ?_
    refine AW.seq ?_
    refine AW.region ?_
    refine AO.pure T rfl rfl rfl ?_
    refine AO.nil ?_
    refine AW.block ?_
    refine AW.loopS (fun s : Nat => (⟨[(0, .s (List.map encInt a)), (1, .s (List.map encInt b)), (5, .v (.int .i64 (s : Int)))], [], 26, []⟩ : St)) (fun s => s ≤ a.length ∧ laws_eqIntS_l1 b (a.drop s) s = some r) (fun s => a.length - s) 0 ⟨Nat.zero_le _, hH⟩ ?_ ?_
    · exact Le.cut 0 0 rfl (by repeat' (first | exact trivial | refine ⟨⟨_, rfl, rfl⟩, ?_⟩)) (by repeat' (first | exact trivial | refine ⟨⟨_, rfl, rfl⟩, ?_⟩)) rfl
    · rintro k1 ⟨hk, hH⟩
      replace hH : laws_eqIntS_l1 b (a.drop k1) k1 = some r := hH
      show AW _ _ _ (⟨[(0, .s (List.map encInt a)), (1, .s (List.map encInt b)), (5, .v (.int .i64 (k1 : Int)))], [], 26, []⟩ : St)
      refine AW.boundM (t := 0) (l := a) rfl (fun hb5 => ?_)
      cases hd4 : a.drop k1 with
      | nil =>
        rw [hd4] at hH
        rw [laws_eqIntS_l1] at hH
        have hlt6 := drop_ge hd4
        refine AW.seq ?_
        refine AW.seq ?_
        refine AW.region ?_
        refine AO.pure T rfl rfl rfl ?_
        refine AO.pure T rfl rfl rfl ?_
        refine AO.val rfl rfl (len_map_ok T rfl rfl rfl) ?_
        refine AO.pure T rfl rfl rfl ?_
        refine AO.nil ?_
        refine AW.condF' (b := decide ((k1 : Int) < (a.length : Int))) rfl (rngF hlt6) ?_
        refine AW.exit ?_
        refine AW.seq ?_
        refine AW.region ?_
        refine AO.pure T rfl rfl rfl ?_
        refine AO.nil ?_
        refine AW.ret ?_
        cases someE hH
        exact ⟨trivial, _, [], rfl, .c (.c .v), by decide⟩
      | cons y2 ys3 =>
        rw [hd4] at hH
        rw [laws_eqIntS_l1] at hH
        have hlt6 := drop_lt hd4
        refine AW.seq ?_
        refine AW.seq ?_
        refine AW.region ?_
        refine AO.pure T rfl rfl rfl ?_
        refine AO.pure T rfl rfl rfl ?_
        refine AO.val rfl rfl (len_map_ok T rfl rfl rfl) ?_
        refine AO.pure T rfl rfl rfl ?_
        refine AO.nil ?_
        refine AW.condT' (b := decide ((k1 : Int) < (a.length : Int))) rfl (rngT hlt6) ?_
        refine AW.skip ?_
        refine AW.seq ?_
        refine AW.block ?_
        refine AW.seq ?_
        obtain ⟨x12, hx13, hH⟩ := bindE hH
        refine AW.drawn 8 1 [] mix (by kernel_rfl) rfl ?_
        refine AD.pure T rfl rfl rfl ?_
        refine AD.pure T rfl rfl rfl ?_
        refine AD.val rfl rfl (ix_map_ok T rfl rfl rfl rfl rfl (getI_drop hd4) rfl) ?_
        refine AD.pure T rfl rfl rfl ?_
        refine AD.pure T rfl rfl rfl ?_
        refine AD.pure T rfl rfl rfl ?_
        refine AD.val rfl rfl (ix_map_ok T rfl rfl rfl rfl rfl (hx13) rfl) ?_
        refine AD.pure T rfl rfl rfl ?_
        refine AD.nil ?_
        refine AO.pure T rfl rfl rfl ?_
        refine AO.nil ?_
        refine AW.cond (b := (y2 != x12)) rfl (fun hc => ?_) (fun hc => ?_)
        · replace hH := condT hc hH
          refine AW.seq ?_
          refine AW.region ?_
          refine AO.pure T rfl rfl rfl ?_
          refine AO.nil ?_
          refine AW.ret ?_
          cases someE hH
          exact ⟨trivial, _, [], rfl, .c (.c .v), by decide⟩
        · replace hH := condF hc hH
          refine AW.skip ?_
          refine AW.region ?_
          refine AO.pure T rfl rfl rfl ?_
          refine AO.val rfl rfl (ar_ok rfl rfl rfl rfl (inI_succ hlt6 hb5)) ?_
          refine AO.pure T rfl rfl rfl ?_
          refine AO.nil ?_
          refine ⟨k1 + 1, ⟨Nat.succ_le_of_lt hlt6, (by rw [drop_succ_of hd4]; exact hH)⟩, (by have := hlt6; dsimp only; omega), ?_⟩
          exact Le.cut 0 0 rfl (by repeat' (first | exact trivial | refine ⟨⟨_, rfl, rfl⟩, ?_⟩)) (by repeat' (first | exact trivial | refine ⟨⟨_, rfl, rfl⟩, ?_⟩)) rfl

def laws_eqLine_p (a : Line) (b : Line) : Option Bool :=
  cond (a.skater != b.skater)
    (some false)
    ((laws_eqIntS_p a.events b.events).bind fun x1 =>
    cond (!x1)
      (some false)
      ((laws_eqIntS_p a.points b.points).bind fun x3 =>
      cond (!x3)
        (some false)
        (some true)))
theorem laws_eqLine_ok (a : Line) (b : Line) (r : Bool) (hH : laws_eqLine_p a b = some r) : SpecR Tryz.prog 140 [.g (encLine a), .g (encLine b)] (.v (.bool r)) := by
  refine fn_ok T Tryz.func140 rfl (by decide) rfl ?_
  refine AW.seq ?_
  refine AW.region ?_
  refine AO.step rfl (box_ok T rfl 1 rfl rfl rfl rfl) ?_
  refine AO.step rfl (box_ok T rfl 2 rfl rfl rfl rfl) ?_
  refine AO.pure T rfl rfl rfl ?_
  refine AO.nil ?_
  refine AW.seq ?_
  refine AW.seq ?_
  refine AW.region ?_
  refine AO.pure T rfl rfl rfl ?_
  refine AO.pure T rfl rfl rfl ?_
  refine AO.pure T rfl rfl rfl ?_
  refine AO.pure T rfl rfl rfl ?_
  refine AO.pure T rfl rfl rfl ?_
  refine AO.nil ?_
  refine AW.cond (b := (a.skater != b.skater)) rfl (fun hc => ?_) (fun hc => ?_)
  · replace hH := condT hc hH
    refine AW.seq ?_
    refine AW.region ?_
    refine AO.pure T rfl rfl rfl ?_
    refine AO.nil ?_
    refine AW.ret ?_
    cases someE hH
    exact ⟨trivial, _, [], rfl, .c (.c .v), by decide⟩
  · replace hH := condF hc hH
    refine AW.skip ?_
    refine AW.seq ?_
    refine AW.seq ?_
    obtain ⟨x1, hx2, hH⟩ := bindE hH
    refine AW.region ?_
    refine AO.pure T rfl rfl rfl ?_
    refine AO.pure T rfl rfl rfl ?_
    refine AO.pure T rfl rfl rfl ?_
    refine AO.pure T rfl rfl rfl ?_
    refine AO.val rfl rfl (callV_ok rfl rfl rfl rfl (laws_eqIntS_ok _ _ _ (hx2)) rfl) ?_
    refine AO.pure T rfl rfl rfl ?_
    refine AO.nil ?_
    refine AW.cond (b := (!x1)) rfl (fun hc => ?_) (fun hc => ?_)
    · replace hH := condT hc hH
      refine AW.seq ?_
      refine AW.region ?_
      refine AO.pure T rfl rfl rfl ?_
      refine AO.nil ?_
      refine AW.ret ?_
      cases someE hH
      exact ⟨trivial, _, [], rfl, .c (.c .v), by decide⟩
    · replace hH := condF hc hH
      refine AW.skip ?_
      refine AW.seq ?_
      refine AW.seq ?_
      obtain ⟨x3, hx4, hH⟩ := bindE hH
      refine AW.region ?_
      refine AO.pure T rfl rfl rfl ?_
      refine AO.pure T rfl rfl rfl ?_
      refine AO.pure T rfl rfl rfl ?_
      refine AO.pure T rfl rfl rfl ?_
      refine AO.val rfl rfl (callV_ok rfl rfl rfl rfl (laws_eqIntS_ok _ _ _ (hx4)) rfl) ?_
      refine AO.pure T rfl rfl rfl ?_
      refine AO.nil ?_
      refine AW.cond (b := (!x3)) rfl (fun hc => ?_) (fun hc => ?_)
      · replace hH := condT hc hH
        refine AW.seq ?_
        refine AW.region ?_
        refine AO.pure T rfl rfl rfl ?_
        refine AO.nil ?_
        refine AW.ret ?_
        cases someE hH
        exact ⟨trivial, _, [], rfl, .c (.c .v), by decide⟩
      · replace hH := condF hc hH
        refine AW.skip ?_
        refine AW.seq ?_
        refine AW.region ?_
        refine AO.pure T rfl rfl rfl ?_
        refine AO.nil ?_
        refine AW.ret ?_
        cases someE hH
        exact ⟨trivial, _, [], rfl, .c (.c .v), by decide⟩

def laws_eqLineS_l1 (b : List Line) : List Line → Nat → Option Bool
  | [], k1 =>
    some true
  | y2 :: ys3, k1 =>
    (getI b (k1 : Int)).bind fun x16 =>
    (laws_eqLine_p y2 x16).bind fun x18 =>
    cond (!x18)
      (some false)
      (laws_eqLineS_l1 b ys3 (k1 + 1))
def laws_eqLineS_p (a : List Line) (b : List Line) : Option Bool :=
  cond ((a.length : Int) != (b.length : Int))
    (some false)
    (laws_eqLineS_l1 b a 0)
theorem laws_eqLineS_ok (a : List Line) (b : List Line) (r : Bool) (hH : laws_eqLineS_p a b = some r) : SpecR Tryz.prog 121 [.s (List.map encLine a), .s (List.map encLine b)] (.v (.bool r)) := by
  refine fn_ok T Tryz.func121 rfl (by decide) rfl ?_
  refine AW.seq ?_
  refine AW.region ?_
  refine AO.pure T rfl rfl rfl ?_
  refine AO.nil ?_
  refine AW.seq ?_
  refine AW.seq ?_
  refine AW.region ?_
  refine AO.pure T rfl rfl rfl ?_
  refine AO.val rfl rfl (len_map_ok T rfl rfl rfl) ?_
  refine AO.pure T rfl rfl rfl ?_
  refine AO.val rfl rfl (len_map_ok T rfl rfl rfl) ?_
  refine AO.pure T rfl rfl rfl ?_
  refine AO.nil ?_
  refine AW.cond (b := ((a.length : Int) != (b.length : Int))) rfl (fun hc => ?_) (fun hc => ?_)
  · replace hH := condT hc hH
    refine AW.seq ?_
    refine AW.region ?_
    refine AO.pure T rfl rfl rfl ?_
    refine AO.nil ?_
    refine AW.ret ?_
    cases someE hH
    exact ⟨trivial, _, [], rfl, .c (.c .v), by decide⟩
  · replace hH := condF hc hH
    refine AW.skip ?_
    refine AW.seq ?_
    refine AW.seq ?_
    refine AW.region ?_
    refine AO.pure T rfl rfl rfl ?_
    refine AO.nil ?_
    refine AW.block ?_
    refine AW.loopS (fun s : Nat => (⟨[(0, .s (List.map encLine a)), (1, .s (List.map encLine b)), (5, .v (.int .i64 (s : Int)))], [], 27, []⟩ : St)) (fun s => s ≤ a.length ∧ laws_eqLineS_l1 b (a.drop s) s = some r) (fun s => a.length - s) 0 ⟨Nat.zero_le _, hH⟩ ?_ ?_
    · exact Le.cut 0 0 rfl (by repeat' (first | exact trivial | refine ⟨⟨_, rfl, rfl⟩, ?_⟩)) (by repeat' (first | exact trivial | refine ⟨⟨_, rfl, rfl⟩, ?_⟩)) rfl
    · rintro k1 ⟨hk, hH⟩
      replace hH : laws_eqLineS_l1 b (a.drop k1) k1 = some r := hH
      show AW _ _ _ (⟨[(0, .s (List.map encLine a)), (1, .s (List.map encLine b)), (5, .v (.int .i64 (k1 : Int)))], [], 27, []⟩ : St)
      refine AW.boundM (t := 0) (l := a) rfl (fun hb5 => ?_)
      cases hd4 : a.drop k1 with
      | nil =>
        rw [hd4] at hH
        rw [laws_eqLineS_l1] at hH
        have hlt6 := drop_ge hd4
        refine AW.seq ?_
        refine AW.seq ?_
        refine AW.region ?_
        refine AO.pure T rfl rfl rfl ?_
        refine AO.pure T rfl rfl rfl ?_
        refine AO.val rfl rfl (len_map_ok T rfl rfl rfl) ?_
        refine AO.pure T rfl rfl rfl ?_
        refine AO.nil ?_
        refine AW.condF' (b := decide ((k1 : Int) < (a.length : Int))) rfl (rngF hlt6) ?_
        refine AW.exit ?_
        refine AW.seq ?_
        refine AW.region ?_
        refine AO.pure T rfl rfl rfl ?_
        refine AO.nil ?_
        refine AW.ret ?_
        cases someE hH
        exact ⟨trivial, _, [], rfl, .c (.c .v), by decide⟩
      | cons y2 ys3 =>
        rw [hd4] at hH
        rw [laws_eqLineS_l1] at hH
        have hlt6 := drop_lt hd4
        refine AW.seq ?_
        refine AW.seq ?_
        refine AW.region ?_
        refine AO.pure T rfl rfl rfl ?_
        refine AO.pure T rfl rfl rfl ?_
        refine AO.val rfl rfl (len_map_ok T rfl rfl rfl) ?_
        refine AO.pure T rfl rfl rfl ?_
        refine AO.nil ?_
        refine AW.condT' (b := decide ((k1 : Int) < (a.length : Int))) rfl (rngT hlt6) ?_
        refine AW.skip ?_
        refine AW.seq ?_
        refine AW.block ?_
        refine AW.seq ?_
        obtain ⟨x16, hx17, hH⟩ := bindE hH
        obtain ⟨x18, hx19, hH⟩ := bindE hH
        refine AW.drawn 8 1 [] mix (by kernel_rfl) rfl ?_
        refine AD.pure T rfl rfl rfl ?_
        refine AD.pure T rfl rfl rfl ?_
        refine AD.val rfl rfl (ix_map_ok T rfl rfl rfl rfl rfl (getI_drop hd4) rfl) ?_
        refine AD.pure T (d := .g [.v (.int .i64 y2.skater), .s (List.map encInt y2.events), .s (List.map encInt y2.points)]) rfl rfl rfl ?_
        refine AD.pure T rfl rfl rfl ?_
        refine AD.pure T rfl rfl rfl ?_
        refine AD.val rfl rfl (ix_map_ok T rfl rfl rfl rfl rfl (hx17) rfl) ?_
        refine AD.pure T (d := .g [.v (.int .i64 x16.skater), .s (List.map encInt x16.events), .s (List.map encInt x16.points)]) rfl rfl rfl ?_
        refine AD.nil ?_
        refine AO.val rfl rfl (callV_ok rfl rfl rfl rfl (laws_eqLine_ok _ _ _ (hx19)) rfl) ?_
        refine AO.pure T rfl rfl rfl ?_
        refine AO.nil ?_
        refine AW.cond (b := (!x18)) rfl (fun hc => ?_) (fun hc => ?_)
        · replace hH := condT hc hH
          refine AW.seq ?_
          refine AW.region ?_
          refine AO.pure T rfl rfl rfl ?_
          refine AO.nil ?_
          refine AW.ret ?_
          cases someE hH
          exact ⟨trivial, _, [], rfl, .c (.c .v), by decide⟩
        · replace hH := condF hc hH
          refine AW.skip ?_
          refine AW.region ?_
          refine AO.pure T rfl rfl rfl ?_
          refine AO.val rfl rfl (ar_ok rfl rfl rfl rfl (inI_succ hlt6 hb5)) ?_
          refine AO.pure T rfl rfl rfl ?_
          refine AO.nil ?_
          refine ⟨k1 + 1, ⟨Nat.succ_le_of_lt hlt6, (by rw [drop_succ_of hd4]; exact hH)⟩, (by have := hlt6; dsimp only; omega), ?_⟩
          exact Le.cut 0 0 rfl (by repeat' (first | exact trivial | refine ⟨⟨_, rfl, rfl⟩, ?_⟩)) (by repeat' (first | exact trivial | refine ⟨⟨_, rfl, rfl⟩, ?_⟩)) rfl

def laws_eqSeason_p (a : Season) (b : Season) : Option Bool :=
  cond (a.best != b.best)
    (some false)
    ((laws_eqLineS_p a.lines b.lines).bind fun x1 =>
    cond (!x1)
      (some false)
      (some true))
theorem laws_eqSeason_ok (a : Season) (b : Season) (r : Bool) (hH : laws_eqSeason_p a b = some r) : SpecR Tryz.prog 97 [.g (encSeason a), .g (encSeason b)] (.v (.bool r)) := by
  refine fn_ok T Tryz.func97 rfl (by decide) rfl ?_
  refine AW.seq ?_
  refine AW.region ?_
  refine AO.step rfl (box_ok T rfl 1 rfl rfl rfl rfl) ?_
  refine AO.step rfl (box_ok T rfl 2 rfl rfl rfl rfl) ?_
  refine AO.pure T rfl rfl rfl ?_
  refine AO.nil ?_
  refine AW.seq ?_
  refine AW.seq ?_
  refine AW.region ?_
  refine AO.pure T rfl rfl rfl ?_
  refine AO.pure T rfl rfl rfl ?_
  refine AO.pure T rfl rfl rfl ?_
  refine AO.pure T rfl rfl rfl ?_
  refine AO.pure T rfl rfl rfl ?_
  refine AO.nil ?_
  refine AW.cond (b := (a.best != b.best)) rfl (fun hc => ?_) (fun hc => ?_)
  · replace hH := condT hc hH
    refine AW.seq ?_
    refine AW.region ?_
    refine AO.pure T rfl rfl rfl ?_
    refine AO.nil ?_
    refine AW.ret ?_
    cases someE hH
    exact ⟨trivial, _, [], rfl, .c (.c .v), by decide⟩
  · replace hH := condF hc hH
    refine AW.skip ?_
    refine AW.seq ?_
    refine AW.seq ?_
    obtain ⟨x1, hx2, hH⟩ := bindE hH
    refine AW.region ?_
    refine AO.pure T rfl rfl rfl ?_
    refine AO.pure T rfl rfl rfl ?_
    refine AO.pure T rfl rfl rfl ?_
    refine AO.pure T rfl rfl rfl ?_
    refine AO.val rfl rfl (callV_ok rfl rfl rfl rfl (laws_eqLineS_ok _ _ _ (hx2)) rfl) ?_
    refine AO.pure T rfl rfl rfl ?_
    refine AO.nil ?_
    refine AW.cond (b := (!x1)) rfl (fun hc => ?_) (fun hc => ?_)
    · replace hH := condT hc hH
      refine AW.seq ?_
      refine AW.region ?_
      refine AO.pure T rfl rfl rfl ?_
      refine AO.nil ?_
      refine AW.ret ?_
      cases someE hH
      exact ⟨trivial, _, [], rfl, .c (.c .v), by decide⟩
    · replace hH := condF hc hH
      refine AW.skip ?_
      refine AW.seq ?_
      refine AW.region ?_
      refine AO.pure T rfl rfl rfl ?_
      refine AO.nil ?_
      refine AW.ret ?_
      cases someE hH
      exact ⟨trivial, _, [], rfl, .c (.c .v), by decide⟩

def laws_eqSeasonS_l1 (b : List Season) : List Season → Nat → Option Bool
  | [], k1 =>
    some true
  | y2 :: ys3, k1 =>
    (getI b (k1 : Int)).bind fun x16 =>
    (laws_eqSeason_p y2 x16).bind fun x18 =>
    cond (!x18)
      (some false)
      (laws_eqSeasonS_l1 b ys3 (k1 + 1))
def laws_eqSeasonS_p (a : List Season) (b : List Season) : Option Bool :=
  cond ((a.length : Int) != (b.length : Int))
    (some false)
    (laws_eqSeasonS_l1 b a 0)
theorem laws_eqSeasonS_ok (a : List Season) (b : List Season) (r : Bool) (hH : laws_eqSeasonS_p a b = some r) : SpecR Tryz.prog 62 [.s (List.map encSeason a), .s (List.map encSeason b)] (.v (.bool r)) := by
  refine fn_ok T Tryz.func62 rfl (by decide) rfl ?_
  refine AW.seq ?_
  refine AW.region ?_
  refine AO.pure T rfl rfl rfl ?_
  refine AO.nil ?_
  refine AW.seq ?_
  refine AW.seq ?_
  refine AW.region ?_
  refine AO.pure T rfl rfl rfl ?_
  refine AO.val rfl rfl (len_map_ok T rfl rfl rfl) ?_
  refine AO.pure T rfl rfl rfl ?_
  refine AO.val rfl rfl (len_map_ok T rfl rfl rfl) ?_
  refine AO.pure T rfl rfl rfl ?_
  refine AO.nil ?_
  refine AW.cond (b := ((a.length : Int) != (b.length : Int))) rfl (fun hc => ?_) (fun hc => ?_)
  · replace hH := condT hc hH
    refine AW.seq ?_
    refine AW.region ?_
    refine AO.pure T rfl rfl rfl ?_
    refine AO.nil ?_
    refine AW.ret ?_
    cases someE hH
    exact ⟨trivial, _, [], rfl, .c (.c .v), by decide⟩
  · replace hH := condF hc hH
    refine AW.skip ?_
    refine AW.seq ?_
    refine AW.seq ?_
    refine AW.region ?_
    refine AO.pure T rfl rfl rfl ?_
    refine AO.nil ?_
    refine AW.block ?_
    refine AW.loopS (fun s : Nat => (⟨[(0, .s (List.map encSeason a)), (1, .s (List.map encSeason b)), (5, .v (.int .i64 (s : Int)))], [], 27, []⟩ : St)) (fun s => s ≤ a.length ∧ laws_eqSeasonS_l1 b (a.drop s) s = some r) (fun s => a.length - s) 0 ⟨Nat.zero_le _, hH⟩ ?_ ?_
    · exact Le.cut 0 0 rfl (by repeat' (first | exact trivial | refine ⟨⟨_, rfl, rfl⟩, ?_⟩)) (by repeat' (first | exact trivial | refine ⟨⟨_, rfl, rfl⟩, ?_⟩)) rfl
    · rintro k1 ⟨hk, hH⟩
      replace hH : laws_eqSeasonS_l1 b (a.drop k1) k1 = some r := hH
      show AW _ _ _ (⟨[(0, .s (List.map encSeason a)), (1, .s (List.map encSeason b)), (5, .v (.int .i64 (k1 : Int)))], [], 27, []⟩ : St)
      refine AW.boundM (t := 0) (l := a) rfl (fun hb5 => ?_)
      cases hd4 : a.drop k1 with
      | nil =>
        rw [hd4] at hH
        rw [laws_eqSeasonS_l1] at hH
        have hlt6 := drop_ge hd4
        refine AW.seq ?_
        refine AW.seq ?_
        refine AW.region ?_
        refine AO.pure T rfl rfl rfl ?_
        refine AO.pure T rfl rfl rfl ?_
        refine AO.val rfl rfl (len_map_ok T rfl rfl rfl) ?_
        refine AO.pure T rfl rfl rfl ?_
        refine AO.nil ?_
        refine AW.condF' (b := decide ((k1 : Int) < (a.length : Int))) rfl (rngF hlt6) ?_
        refine AW.exit ?_
        refine AW.seq ?_
        refine AW.region ?_
        refine AO.pure T rfl rfl rfl ?_
        refine AO.nil ?_
        refine AW.ret ?_
        cases someE hH
        exact ⟨trivial, _, [], rfl, .c (.c .v), by decide⟩
      | cons y2 ys3 =>
        rw [hd4] at hH
        rw [laws_eqSeasonS_l1] at hH
        have hlt6 := drop_lt hd4
        refine AW.seq ?_
        refine AW.seq ?_
        refine AW.region ?_
        refine AO.pure T rfl rfl rfl ?_
        refine AO.pure T rfl rfl rfl ?_
        refine AO.val rfl rfl (len_map_ok T rfl rfl rfl) ?_
        refine AO.pure T rfl rfl rfl ?_
        refine AO.nil ?_
        refine AW.condT' (b := decide ((k1 : Int) < (a.length : Int))) rfl (rngT hlt6) ?_
        refine AW.skip ?_
        refine AW.seq ?_
        refine AW.block ?_
        refine AW.seq ?_
        obtain ⟨x16, hx17, hH⟩ := bindE hH
        obtain ⟨x18, hx19, hH⟩ := bindE hH
        refine AW.drawn 8 1 [] mix (by kernel_rfl) rfl ?_
        refine AD.pure T rfl rfl rfl ?_
        refine AD.pure T rfl rfl rfl ?_
        refine AD.val rfl rfl (ix_map_ok T rfl rfl rfl rfl rfl (getI_drop hd4) rfl) ?_
        refine AD.pure T (d := .g [.v (.int .i64 y2.best), .s (List.map encLine y2.lines)]) rfl rfl rfl ?_
        refine AD.pure T rfl rfl rfl ?_
        refine AD.pure T rfl rfl rfl ?_
        refine AD.val rfl rfl (ix_map_ok T rfl rfl rfl rfl rfl (hx17) rfl) ?_
        refine AD.pure T (d := .g [.v (.int .i64 x16.best), .s (List.map encLine x16.lines)]) rfl rfl rfl ?_
        refine AD.nil ?_
        refine AO.val rfl rfl (callV_ok rfl rfl rfl rfl (laws_eqSeason_ok _ _ _ (hx19)) rfl) ?_
        refine AO.pure T rfl rfl rfl ?_
        refine AO.nil ?_
        refine AW.cond (b := (!x18)) rfl (fun hc => ?_) (fun hc => ?_)
        · replace hH := condT hc hH
          refine AW.seq ?_
          refine AW.region ?_
          refine AO.pure T rfl rfl rfl ?_
          refine AO.nil ?_
          refine AW.ret ?_
          cases someE hH
          exact ⟨trivial, _, [], rfl, .c (.c .v), by decide⟩
        · replace hH := condF hc hH
          refine AW.skip ?_
          refine AW.region ?_
          refine AO.pure T rfl rfl rfl ?_
          refine AO.val rfl rfl (ar_ok rfl rfl rfl rfl (inI_succ hlt6 hb5)) ?_
          refine AO.pure T rfl rfl rfl ?_
          refine AO.nil ?_
          refine ⟨k1 + 1, ⟨Nat.succ_le_of_lt hlt6, (by rw [drop_succ_of hd4]; exact hH)⟩, (by have := hlt6; dsimp only; omega), ?_⟩
          exact Le.cut 0 0 rfl (by repeat' (first | exact trivial | refine ⟨⟨_, rfl, rfl⟩, ?_⟩)) (by repeat' (first | exact trivial | refine ⟨⟨_, rfl, rfl⟩, ?_⟩)) rfl

def laws_eqWorld_p (a : World) (b : World) : Option Bool :=
  (laws_eqSeasonS_p a.seasons b.seasons).bind fun x1 =>
  cond (!x1)
    (some false)
    ((laws_eqIntS_p a.weights b.weights).bind fun x3 =>
    cond (!x3)
      (some false)
      (some true))
theorem laws_eqWorld_ok (a : World) (b : World) (r : Bool) (hH : laws_eqWorld_p a b = some r) : SpecR Tryz.prog 12 [.g (encWorld a), .g (encWorld b)] (.v (.bool r)) := by
  refine fn_ok T Tryz.func12 rfl (by decide) rfl ?_
  refine AW.seq ?_
  refine AW.region ?_
  refine AO.step rfl (box_ok T rfl 1 rfl rfl rfl rfl) ?_
  refine AO.step rfl (box_ok T rfl 2 rfl rfl rfl rfl) ?_
  refine AO.pure T rfl rfl rfl ?_
  refine AO.nil ?_
  refine AW.seq ?_
  refine AW.seq ?_
  obtain ⟨x1, hx2, hH⟩ := bindE hH
  refine AW.region ?_
  refine AO.pure T rfl rfl rfl ?_
  refine AO.pure T rfl rfl rfl ?_
  refine AO.pure T rfl rfl rfl ?_
  refine AO.pure T rfl rfl rfl ?_
  refine AO.val rfl rfl (callV_ok rfl rfl rfl rfl (laws_eqSeasonS_ok _ _ _ (hx2)) rfl) ?_
  refine AO.pure T rfl rfl rfl ?_
  refine AO.nil ?_
  refine AW.cond (b := (!x1)) rfl (fun hc => ?_) (fun hc => ?_)
  · replace hH := condT hc hH
    refine AW.seq ?_
    refine AW.region ?_
    refine AO.pure T rfl rfl rfl ?_
    refine AO.nil ?_
    refine AW.ret ?_
    cases someE hH
    exact ⟨trivial, _, [], rfl, .c (.c .v), by decide⟩
  · replace hH := condF hc hH
    refine AW.skip ?_
    refine AW.seq ?_
    refine AW.seq ?_
    obtain ⟨x3, hx4, hH⟩ := bindE hH
    refine AW.region ?_
    refine AO.pure T rfl rfl rfl ?_
    refine AO.pure T rfl rfl rfl ?_
    refine AO.pure T rfl rfl rfl ?_
    refine AO.pure T rfl rfl rfl ?_
    refine AO.val rfl rfl (callV_ok rfl rfl rfl rfl (laws_eqIntS_ok _ _ _ (hx4)) rfl) ?_
    refine AO.pure T rfl rfl rfl ?_
    refine AO.nil ?_
    refine AW.cond (b := (!x3)) rfl (fun hc => ?_) (fun hc => ?_)
    · replace hH := condT hc hH
      refine AW.seq ?_
      refine AW.region ?_
      refine AO.pure T rfl rfl rfl ?_
      refine AO.nil ?_
      refine AW.ret ?_
      cases someE hH
      exact ⟨trivial, _, [], rfl, .c (.c .v), by decide⟩
    · replace hH := condF hc hH
      refine AW.skip ?_
      refine AW.seq ?_
      refine AW.region ?_
      refine AO.pure T rfl rfl rfl ?_
      refine AO.nil ?_
      refine AW.ret ?_
      cases someE hH
      exact ⟨trivial, _, [], rfl, .c (.c .v), by decide⟩

def laws_markIntS_l1 : Nat → List Int → Int → Int → Option (((List Int) × Int))
  | 0, _, _, _ => none
  | k1 + 1, v9, v10, v11 =>
    cond (decide (v11 < (v9.length : Int)))
      ((getI v9 v11).bind fun x13 =>
      laws_markIntS_l1 k1 (v9.set v11.toNat v10) (w64 (v10 + 1)) (w64 (v11 + 1)))
      (some (v9, v10))
def laws_markIntS_p (fuel : Nat) (a : List Int) (k : Int) : Option ((List Int) × Int) :=
  laws_markIntS_l1 fuel a k 0
theorem laws_markIntS_ok (fuel : Nat) (a : List Int) (k : Int) (r : ((List Int) × Int)) (hH : laws_markIntS_p fuel a k = some r) : SpecM Tryz.prog 15 [.w 1 (a.map encInt), .v (.int .i64 k)] [.w 1 (r.1.map encInt), .u] (.v (.int .i64 r.2)) := by
  refine fn_okM T Tryz.func15 rfl (by decide) rfl rfl ?_
  intro L
  show AW _ _ _ (⟨[(0, .R 1), (1, .v (.int .i64 k))], [(1, .row 1 (List.map encInt a))], 19, [(1, L 1)]⟩ : St)
  refine AW.seq ?_
  refine AW.region ?_
  refine AO.pure T rfl rfl rfl ?_
  refine AO.nil ?_
  refine AW.seq ?_
  refine AW.seq ?_
  refine AW.region ?_
  refine AO.pure T rfl rfl rfl ?_
  refine AO.nil ?_
  refine AW.block ?_
  refine AW.loopS (fun s : Nat × (List Int) × Int × Int => (⟨[(0, .R 1), (1, .v (.int .i64 s.2.2.1)), (5, .v (.int .i64 s.2.2.2))], [(1, .row 1 (List.map encInt s.2.1))], 19, [(1, L 1)]⟩ : St)) (fun s => laws_markIntS_l1 s.1 s.2.1 s.2.2.1 s.2.2.2 = some r) (fun s => s.1) (fuel, a, k, 0) hH ?_ ?_
  · exact Le.cut 0 0 rfl (by repeat' (first | exact trivial | refine ⟨⟨_, rfl, rfl⟩, ?_⟩)) (by repeat' (first | exact trivial | refine ⟨⟨_, rfl, rfl⟩, ?_⟩)) rfl ⟨⟨rfl, rfl⟩, trivial⟩
  · rintro ⟨k1, v9, v10, v11⟩ hH
    replace hH : laws_markIntS_l1 k1 v9 v10 v11 = some r := hH
    show AW _ _ _ (⟨[(0, .R 1), (1, .v (.int .i64 v10)), (5, .v (.int .i64 v11))], [(1, .row 1 (List.map encInt v9))], 19, [(1, L 1)]⟩ : St)
    cases k1 with
    | zero => cases (show none = some _ from hH)
    | succ k1 =>
      rw [laws_markIntS_l1] at hH
      refine AW.seq ?_
      refine AW.seq ?_
      refine AW.region ?_
      refine AO.pure T rfl rfl rfl ?_
      refine AO.pure T rfl rfl rfl ?_
      refine AO.val rfl rfl (len_row_ok T rfl rfl rfl rfl) ?_
      refine AO.pure T rfl rfl rfl ?_
      refine AO.nil ?_
      refine AW.cond (b := decide (v11 < (v9.length : Int))) rfl (fun hc => ?_) (fun hc => ?_)
      · replace hH := condT hc hH
        refine AW.skip ?_
        refine AW.seq ?_
        refine AW.block ?_
        refine AW.seq ?_
        obtain ⟨x13, hx14, hH⟩ := bindE hH
        refine AW.region ?_
        refine AO.pure T rfl rfl rfl ?_
        refine AO.pure T rfl rfl rfl ?_
        refine AO.pure T rfl rfl rfl ?_
        refine AO.val rfl rfl (ix_row_ok T rfl rfl rfl rfl rfl rfl (hx14)) ?_
        refine AO.step rfl (store_row_ok T rfl rfl rfl rfl rfl (getI_get (hx14)) rfl rfl rfl rfl (u' := v10) rfl rfl) ?_
        refine AO.nil ?_
        refine AW.region ?_
        refine AO.pure T rfl rfl rfl ?_
        refine AO.val rfl rfl (arw_ok rfl rfl rfl rfl) ?_
        refine AO.pure T rfl rfl rfl ?_
        refine AO.nil ?_
        refine AW.region ?_
        refine AO.pure T rfl rfl rfl ?_
        refine AO.val rfl rfl (arw_ok rfl rfl rfl rfl) ?_
        refine AO.pure T rfl rfl rfl ?_
        refine AO.nil ?_
        refine ⟨(k1, (v9.set v11.toNat v10), w64 (v10 + 1), w64 (v11 + 1)), hH, Nat.lt_succ_self _, ?_⟩
        exact Le.cut 0 0 rfl (by repeat' (first | exact trivial | refine ⟨⟨_, rfl, rfl⟩, ?_⟩)) (by repeat' (first | exact trivial | refine ⟨⟨_, rfl, rfl⟩, ?_⟩)) rfl ⟨⟨rfl, rfl⟩, trivial⟩
      · replace hH := condF hc hH
        refine AW.exit ?_
        refine AW.seq ?_
        refine AW.region ?_
        refine AO.pure T rfl rfl rfl ?_
        refine AO.pure T rfl rfl rfl ?_
        refine AO.nil ?_
        refine AW.ret ?_
        cases someE hH
        exact ⟨trivial, rfl, _, [], [1], rfl, expLG_cons (.c (.rowR rfl)) (expLG_cons (.c .u) (expLG_nil)), .c (.c .v), by decide⟩

def laws_markLineS_l1 (fuel : Nat) : Nat → List Line → Int → Int → Option (((List Line) × Int))
  | 0, _, _, _ => none
  | k1 + 1, v25, v26, v27 =>
    cond (decide (v27 < (v25.length : Int)))
      ((getI v25 v27).bind fun x29 =>
      (getI (v25.set v27.toNat (Line.mk v26 x29.events x29.points)) v27).bind fun x31 =>
      (laws_markIntS_p fuel x31.events (w64 (v26 + 1))).bind fun x33 =>
      (getI ((v25.set v27.toNat (Line.mk v26 x29.events x29.points)).set v27.toNat (Line.mk x31.skater x33.1 x31.points)) v27).bind fun x35 =>
      (laws_markIntS_p fuel x35.points x33.2).bind fun x37 =>
      laws_markLineS_l1 fuel k1 (((v25.set v27.toNat (Line.mk v26 x29.events x29.points)).set v27.toNat (Line.mk x31.skater x33.1 x31.points)).set v27.toNat (Line.mk x35.skater x35.events x37.1)) x37.2 (w64 (v27 + 1)))
      (some (v25, v26))
def laws_markLineS_p (fuel : Nat) (a : List Line) (k : Int) : Option ((List Line) × Int) :=
  laws_markLineS_l1 fuel fuel a k 0
theorem laws_markLineS_ok (fuel : Nat) (a : List Line) (k : Int) (r : ((List Line) × Int)) (hH : laws_markLineS_p fuel a k = some r) : SpecM Tryz.prog 98 [.w 3 (a.map encLineO), .v (.int .i64 k)] [.w 3 (r.1.map encLineO), .u] (.v (.int .i64 r.2)) := by
  refine fn_okM T Tryz.func98 rfl (by decide) rfl rfl ?_
  intro L
  show AW _ _ _ (⟨[(0, .R 1), (1, .v (.int .i64 k))], [(1, .row 3 (List.map encLineO a))], 34, [(1, L 1)]⟩ : St)
  refine AW.seq ?_
  refine AW.region ?_
  refine AO.pure T rfl rfl rfl ?_
  refine AO.nil ?_
  refine AW.seq ?_
  refine AW.seq ?_
  refine AW.region ?_
  refine AO.pure T rfl rfl rfl ?_
  refine AO.nil ?_
  refine AW.block ?_
  refine AW.loopS (fun s : Nat × (List Line) × Int × Int => (⟨[(0, .R 1), (1, .v (.int .i64 s.2.2.1)), (5, .v (.int .i64 s.2.2.2))], [(1, .row 3 (List.map encLineO s.2.1))], 34, [(1, L 1)]⟩ : St)) (fun s => laws_markLineS_l1 fuel s.1 s.2.1 s.2.2.1 s.2.2.2 = some r) (fun s => s.1) (fuel, a, k, 0) hH ?_ ?_
  · exact Le.cut 0 0 rfl (by repeat' (first | exact trivial | refine ⟨⟨_, rfl, rfl⟩, ?_⟩)) (by repeat' (first | exact trivial | refine ⟨⟨_, rfl, rfl⟩, ?_⟩)) rfl ⟨⟨rfl, rfl⟩, trivial⟩
  · rintro ⟨k1, v25, v26, v27⟩ hH
    replace hH : laws_markLineS_l1 fuel k1 v25 v26 v27 = some r := hH
    show AW _ _ _ (⟨[(0, .R 1), (1, .v (.int .i64 v26)), (5, .v (.int .i64 v27))], [(1, .row 3 (List.map encLineO v25))], 34, [(1, L 1)]⟩ : St)
    cases k1 with
    | zero => cases (show none = some _ from hH)
    | succ k1 =>
      rw [laws_markLineS_l1] at hH
      refine AW.seq ?_
      refine AW.seq ?_
      refine AW.region ?_
      refine AO.pure T rfl rfl rfl ?_
      refine AO.pure T rfl rfl rfl ?_
      refine AO.val rfl rfl (len_row_ok T rfl rfl rfl rfl) ?_
      refine AO.pure T rfl rfl rfl ?_
      refine AO.nil ?_
      refine AW.cond (b := decide (v27 < (v25.length : Int))) rfl (fun hc => ?_) (fun hc => ?_)
      · replace hH := condT hc hH
        refine AW.skip ?_
        refine AW.seq ?_
        refine AW.block ?_
        refine AW.seq ?_
        obtain ⟨x29, hx30, hH⟩ := bindE hH
        refine AW.region ?_
        refine AO.pure T rfl rfl rfl ?_
        refine AO.pure T rfl rfl rfl ?_
        refine AO.pure T rfl rfl rfl ?_
        refine AO.val rfl rfl (ix_row_ok T rfl rfl rfl rfl rfl rfl (hx30)) ?_
        refine AO.pure T rfl rfl rfl ?_
        refine AO.step rfl (store_row_ok T rfl rfl rfl rfl rfl (getI_get (hx30)) rfl rfl rfl rfl (u' := (Line.mk v26 x29.events x29.points)) rfl rfl) ?_
        refine AO.nil ?_
        refine AW.seq ?_
        refine AW.region ?_
        refine AO.pure T rfl rfl rfl ?_
        refine AO.val rfl rfl (arw_ok rfl rfl rfl rfl) ?_
        refine AO.pure T rfl rfl rfl ?_
        refine AO.nil ?_
        refine AW.seq ?_
        obtain ⟨x31, hx32, hH⟩ := bindE hH
        obtain ⟨x33, hx34, hH⟩ := bindE hH
        refine AW.le (Le.openM 1 v27.toNat 1 6 rfl (getI_get (hx32)) rfl rfl) ?_
        refine AW.region ?_
        refine AO.pure T rfl rfl rfl ?_
        refine AO.pure T rfl rfl rfl ?_
        refine AO.val rfl rfl (ix_lent_ok T rfl rfl rfl rfl rfl rfl (hx32)) ?_
        refine AO.pure T rfl rfl rfl ?_
        refine AO.val rfl rfl (load_lent_ok T rfl rfl rfl rfl rfl) ?_
        refine AO.pure T rfl rfl rfl ?_
        refine AO.step rfl (callM_ok rfl 7 rfl rfl (es := [.w 1 (x31.events.map encInt), .v (.int .i64 (w64 (v26 + 1)))]) (outs := [.w 1 (x33.1.map encInt), .u]) (ids := [6]) (by exact expLG_cons (.c (.rowR rfl)) (expLG_cons (.c .v) (expLG_nil))) (by decide) (.inl (by rfl)) (by rfl) (laws_markIntS_ok fuel _ _ _ (hx34)) rfl (by rfl) rfl) ?_
        refine AO.pure T rfl rfl rfl ?_
        refine AO.le (Le.closeM 1 v27.toNat 1 6 rfl rfl (getI_get (hx32)) rfl (u' := (Line.mk x31.skater x33.1 x31.points)) rfl) ?_
        refine AO.nil ?_
        obtain ⟨x35, hx36, hH⟩ := bindE hH
        obtain ⟨x37, hx38, hH⟩ := bindE hH
        refine AW.le (Le.openM 1 v27.toNat 2 7 rfl (getI_get (hx36)) rfl rfl) ?_
        refine AW.region ?_
        refine AO.pure T rfl rfl rfl ?_
        refine AO.pure T rfl rfl rfl ?_
        refine AO.val rfl rfl (ix_lent_ok T rfl rfl rfl rfl rfl rfl (hx36)) ?_
        refine AO.pure T rfl rfl rfl ?_
        refine AO.val rfl rfl (load_lent_ok T rfl rfl rfl rfl rfl) ?_
        refine AO.pure T rfl rfl rfl ?_
        refine AO.step rfl (callM_ok rfl 8 rfl rfl (es := [.w 1 (x35.points.map encInt), .v (.int .i64 x33.2)]) (outs := [.w 1 (x37.1.map encInt), .u]) (ids := [7]) (by exact expLG_cons (.c (.rowR rfl)) (expLG_cons (.c .v) (expLG_nil))) (by decide) (.inl (by rfl)) (by rfl) (laws_markIntS_ok fuel _ _ _ (hx38)) rfl (by rfl) rfl) ?_
        refine AO.pure T rfl rfl rfl ?_
        refine AO.le (Le.closeM 1 v27.toNat 2 7 rfl rfl (getI_get (hx36)) rfl (u' := (Line.mk x35.skater x35.events x37.1)) rfl) ?_
        refine AO.nil ?_
        refine AW.le (Le.cut 0 0 (σ' := (⟨[(0, .R 1), (1, .v (.int .i64 x37.2)), (5, .v (.int .i64 v27))], [(1, .row 3 (List.map encLineO (((v25.set v27.toNat (Line.mk v26 x29.events x29.points)).set v27.toNat (Line.mk x31.skater x33.1 x31.points)).set v27.toNat (Line.mk x35.skater x35.events x37.1))))], 34, [(1, L 1)]⟩ : St)) rfl (by repeat' (first | exact trivial | refine ⟨⟨_, rfl, rfl⟩, ?_⟩)) (by repeat' (first | exact trivial | refine ⟨⟨_, rfl, rfl⟩, ?_⟩)) rfl ⟨⟨rfl, rfl⟩, trivial⟩) ?_
        refine AW.region ?_
        refine AO.pure T rfl rfl rfl ?_
        refine AO.val rfl rfl (arw_ok rfl rfl rfl rfl) ?_
        refine AO.pure T rfl rfl rfl ?_
        refine AO.nil ?_
        refine ⟨(k1, (((v25.set v27.toNat (Line.mk v26 x29.events x29.points)).set v27.toNat (Line.mk x31.skater x33.1 x31.points)).set v27.toNat (Line.mk x35.skater x35.events x37.1)), x37.2, w64 (v27 + 1)), hH, Nat.lt_succ_self _, ?_⟩
        exact Le.cut 0 0 rfl (by repeat' (first | exact trivial | refine ⟨⟨_, rfl, rfl⟩, ?_⟩)) (by repeat' (first | exact trivial | refine ⟨⟨_, rfl, rfl⟩, ?_⟩)) rfl ⟨⟨rfl, rfl⟩, trivial⟩
      · replace hH := condF hc hH
        refine AW.exit ?_
        refine AW.seq ?_
        refine AW.region ?_
        refine AO.pure T rfl rfl rfl ?_
        refine AO.pure T rfl rfl rfl ?_
        refine AO.nil ?_
        refine AW.ret ?_
        cases someE hH
        exact ⟨trivial, rfl, _, [], [1], rfl, expLG_cons (.c (.rowR rfl)) (expLG_cons (.c .u) (expLG_nil)), .c (.c .v), by decide⟩

def laws_markSeasonS_l1 (fuel : Nat) : Nat → List Season → Int → Int → Option (((List Season) × Int))
  | 0, _, _, _ => none
  | k1 + 1, v17, v18, v19 =>
    cond (decide (v19 < (v17.length : Int)))
      ((getI v17 v19).bind fun x21 =>
      (getI (v17.set v19.toNat (Season.mk v18 x21.lines)) v19).bind fun x23 =>
      (laws_markLineS_p fuel x23.lines (w64 (v18 + 1))).bind fun x25 =>
      laws_markSeasonS_l1 fuel k1 ((v17.set v19.toNat (Season.mk v18 x21.lines)).set v19.toNat (Season.mk x23.best x25.1)) x25.2 (w64 (v19 + 1)))
      (some (v17, v18))
def laws_markSeasonS_p (fuel : Nat) (a : List Season) (k : Int) : Option ((List Season) × Int) :=
  laws_markSeasonS_l1 fuel fuel a k 0
theorem laws_markSeasonS_ok (fuel : Nat) (a : List Season) (k : Int) (r : ((List Season) × Int)) (hH : laws_markSeasonS_p fuel a k = some r) : SpecM Tryz.prog 63 [.w 2 (a.map encSeasonO), .v (.int .i64 k)] [.w 2 (r.1.map encSeasonO), .u] (.v (.int .i64 r.2)) := by
  refine fn_okM T Tryz.func63 rfl (by decide) rfl rfl ?_
  intro L
  show AW _ _ _ (⟨[(0, .R 1), (1, .v (.int .i64 k))], [(1, .row 2 (List.map encSeasonO a))], 27, [(1, L 1)]⟩ : St)
  refine AW.seq ?_
  refine AW.region ?_
  refine AO.pure T rfl rfl rfl ?_
  refine AO.nil ?_
  refine AW.seq ?_
  refine AW.seq ?_
  refine AW.region ?_
  refine AO.pure T rfl rfl rfl ?_
  refine AO.nil ?_
  refine AW.block ?_
  refine AW.loopS (fun s : Nat × (List Season) × Int × Int => (⟨[(0, .R 1), (1, .v (.int .i64 s.2.2.1)), (5, .v (.int .i64 s.2.2.2))], [(1, .row 2 (List.map encSeasonO s.2.1))], 27, [(1, L 1)]⟩ : St)) (fun s => laws_markSeasonS_l1 fuel s.1 s.2.1 s.2.2.1 s.2.2.2 = some r) (fun s => s.1) (fuel, a, k, 0) hH ?_ ?_
  · exact Le.cut 0 0 rfl (by repeat' (first | exact trivial | refine ⟨⟨_, rfl, rfl⟩, ?_⟩)) (by repeat' (first | exact trivial | refine ⟨⟨_, rfl, rfl⟩, ?_⟩)) rfl ⟨⟨rfl, rfl⟩, trivial⟩
  · rintro ⟨k1, v17, v18, v19⟩ hH
    replace hH : laws_markSeasonS_l1 fuel k1 v17 v18 v19 = some r := hH
    show AW _ _ _ (⟨[(0, .R 1), (1, .v (.int .i64 v18)), (5, .v (.int .i64 v19))], [(1, .row 2 (List.map encSeasonO v17))], 27, [(1, L 1)]⟩ : St)
    cases k1 with
    | zero => cases (show none = some _ from hH)
    | succ k1 =>
      rw [laws_markSeasonS_l1] at hH
      refine AW.seq ?_
      refine AW.seq ?_
      refine AW.region ?_
      refine AO.pure T rfl rfl rfl ?_
      refine AO.pure T rfl rfl rfl ?_
      refine AO.val rfl rfl (len_row_ok T rfl rfl rfl rfl) ?_
      refine AO.pure T rfl rfl rfl ?_
      refine AO.nil ?_
      refine AW.cond (b := decide (v19 < (v17.length : Int))) rfl (fun hc => ?_) (fun hc => ?_)
      · replace hH := condT hc hH
        refine AW.skip ?_
        refine AW.seq ?_
        refine AW.block ?_
        refine AW.seq ?_
        obtain ⟨x21, hx22, hH⟩ := bindE hH
        refine AW.region ?_
        refine AO.pure T rfl rfl rfl ?_
        refine AO.pure T rfl rfl rfl ?_
        refine AO.pure T rfl rfl rfl ?_
        refine AO.val rfl rfl (ix_row_ok T rfl rfl rfl rfl rfl rfl (hx22)) ?_
        refine AO.pure T rfl rfl rfl ?_
        refine AO.step rfl (store_row_ok T rfl rfl rfl rfl rfl (getI_get (hx22)) rfl rfl rfl rfl (u' := (Season.mk v18 x21.lines)) rfl rfl) ?_
        refine AO.nil ?_
        refine AW.seq ?_
        refine AW.region ?_
        refine AO.pure T rfl rfl rfl ?_
        refine AO.val rfl rfl (arw_ok rfl rfl rfl rfl) ?_
        refine AO.pure T rfl rfl rfl ?_
        refine AO.nil ?_
        obtain ⟨x23, hx24, hH⟩ := bindE hH
        obtain ⟨x25, hx26, hH⟩ := bindE hH
        refine AW.le (Le.openM 1 v19.toNat 1 4 rfl (getI_get (hx24)) rfl rfl) ?_
        refine AW.region ?_
        refine AO.pure T rfl rfl rfl ?_
        refine AO.pure T rfl rfl rfl ?_
        refine AO.val rfl rfl (ix_lent_ok T rfl rfl rfl rfl rfl rfl (hx24)) ?_
        refine AO.pure T rfl rfl rfl ?_
        refine AO.val rfl rfl (load_lent_ok T rfl rfl rfl rfl rfl) ?_
        refine AO.pure T rfl rfl rfl ?_
        refine AO.step rfl (callM_ok rfl 5 rfl rfl (es := [.w 3 (x23.lines.map encLineO), .v (.int .i64 (w64 (v18 + 1)))]) (outs := [.w 3 (x25.1.map encLineO), .u]) (ids := [4]) (by exact expLG_cons (.c (.rowR rfl)) (expLG_cons (.c .v) (expLG_nil))) (by decide) (.inl (by rfl)) (by rfl) (laws_markLineS_ok fuel _ _ _ (hx26)) rfl (by rfl) rfl) ?_
        refine AO.pure T rfl rfl rfl ?_
        refine AO.le (Le.closeM 1 v19.toNat 1 4 rfl rfl (getI_get (hx24)) rfl (u' := (Season.mk x23.best x25.1)) rfl) ?_
        refine AO.nil ?_
        refine AW.region ?_
        refine AO.pure T rfl rfl rfl ?_
        refine AO.val rfl rfl (arw_ok rfl rfl rfl rfl) ?_
        refine AO.pure T rfl rfl rfl ?_
        refine AO.nil ?_
        refine ⟨(k1, ((v17.set v19.toNat (Season.mk v18 x21.lines)).set v19.toNat (Season.mk x23.best x25.1)), x25.2, w64 (v19 + 1)), hH, Nat.lt_succ_self _, ?_⟩
        exact Le.cut 0 0 rfl (by repeat' (first | exact trivial | refine ⟨⟨_, rfl, rfl⟩, ?_⟩)) (by repeat' (first | exact trivial | refine ⟨⟨_, rfl, rfl⟩, ?_⟩)) rfl ⟨⟨rfl, rfl⟩, trivial⟩
      · replace hH := condF hc hH
        refine AW.exit ?_
        refine AW.seq ?_
        refine AW.region ?_
        refine AO.pure T rfl rfl rfl ?_
        refine AO.pure T rfl rfl rfl ?_
        refine AO.nil ?_
        refine AW.ret ?_
        cases someE hH
        exact ⟨trivial, rfl, _, [], [1], rfl, expLG_cons (.c (.rowR rfl)) (expLG_cons (.c .u) (expLG_nil)), .c (.c .v), by decide⟩

def laws_markWorld_p (fuel : Nat) (a : World) (k : Int) : Option (World × Int) :=
  (laws_markSeasonS_p fuel a.seasons k).bind fun x1 =>
  (laws_markIntS_p fuel a.weights x1.2).bind fun x3 =>
  some ((World.mk x1.1 x3.1), x3.2)
theorem laws_markWorld_ok (fuel : Nat) (a : World) (k : Int) (r : (World × Int)) (hH : laws_markWorld_p fuel a k = some r) : SpecM Tryz.prog 14 [.g (encWorldO a), .v (.int .i64 k)] [.g [.w 2 (r.1.seasons.map encSeasonO), .w 1 (r.1.weights.map encInt)], .u] (.v (.int .i64 r.2)) := by
  refine fn_okM T Tryz.func14 rfl (by decide) rfl rfl ?_
  intro L
  show AW _ _ _ (⟨[(0, .g [.R 1, .R 2]), (1, .v (.int .i64 k))], [(2, .row 1 (List.map encInt a.weights)), (1, .row 2 (List.map encSeasonO a.seasons))], 14, [(2, L 2), (1, L 1)]⟩ : St)
  refine AW.seq ?_
  refine AW.region ?_
  refine AO.step rfl (box_ok T rfl 3 rfl rfl rfl rfl) ?_
  refine AO.pure T rfl rfl rfl ?_
  refine AO.nil ?_
  refine AW.seq ?_
  obtain ⟨x1, hx2, hH⟩ := bindE hH
  refine AW.region ?_
  refine AO.pure T rfl rfl rfl ?_
  refine AO.pure T rfl rfl rfl ?_
  refine AO.pure T rfl rfl rfl ?_
  refine AO.step rfl (callM_ok rfl 4 rfl rfl (es := [.w 2 (a.seasons.map encSeasonO), .v (.int .i64 k)]) (outs := [.w 2 (x1.1.map encSeasonO), .u]) (ids := [1]) (by exact expLG_cons (.c (.rowR rfl)) (expLG_cons (.c .v) (expLG_nil))) (by decide) (.inl (by rfl)) (by rfl) (laws_markSeasonS_ok fuel _ _ _ (hx2)) rfl (by rfl) rfl) ?_
  refine AO.pure T rfl rfl rfl ?_
  refine AO.nil ?_
  refine AW.seq ?_
  obtain ⟨x3, hx4, hH⟩ := bindE hH
  refine AW.region ?_
  refine AO.pure T rfl rfl rfl ?_
  refine AO.pure T rfl rfl rfl ?_
  refine AO.pure T rfl rfl rfl ?_
  refine AO.step rfl (callM_ok rfl 4 rfl rfl (es := [.w 1 (a.weights.map encInt), .v (.int .i64 x1.2)]) (outs := [.w 1 (x3.1.map encInt), .u]) (ids := [2]) (by exact expLG_cons (.c (.rowR rfl)) (expLG_cons (.c .v) (expLG_nil))) (by decide) (.inl (by rfl)) (by rfl) (laws_markIntS_ok fuel _ _ _ (hx4)) rfl (by rfl) rfl) ?_
  refine AO.pure T rfl rfl rfl ?_
  refine AO.nil ?_
  refine AW.seq ?_
  refine AW.region ?_
  refine AO.pure T rfl rfl rfl ?_
  refine AO.pure T rfl rfl rfl ?_
  refine AO.nil ?_
  refine AW.ret ?_
  cases someE hH
  exact ⟨trivial, rfl, _, [], [1, 2], rfl, expLG_cons (.g (expLC_cons (.rowR rfl) (expLC_cons (.rowR rfl) (expLC_nil)))) (expLG_cons (.c .u) (expLG_nil)), .c (.c .v), by decide⟩

def laws_markEntrantS_l1 : Nat → List Entrant → Int → Int → Option (((List Entrant) × Int))
  | 0, _, _, _ => none
  | k1 + 1, v13, v14, v15 =>
    cond (decide (v15 < (v13.length : Int)))
      ((getI v13 v15).bind fun x17 =>
      (getI (v13.set v15.toNat (Entrant.mk v14 x17.rank)) v15).bind fun x19 =>
      laws_markEntrantS_l1 k1 ((v13.set v15.toNat (Entrant.mk v14 x17.rank)).set v15.toNat (Entrant.mk x19.skater (w64 (v14 + 1)))) (w64 ((w64 (v14 + 1)) + 1)) (w64 (v15 + 1)))
      (some (v13, v14))
def laws_markEntrantS_p (fuel : Nat) (a : List Entrant) (k : Int) : Option ((List Entrant) × Int) :=
  laws_markEntrantS_l1 fuel a k 0
theorem laws_markEntrantS_ok (fuel : Nat) (a : List Entrant) (k : Int) (r : ((List Entrant) × Int)) (hH : laws_markEntrantS_p fuel a k = some r) : SpecM Tryz.prog 16 [.w 2 (a.map encEntrant), .v (.int .i64 k)] [.w 2 (r.1.map encEntrant), .u] (.v (.int .i64 r.2)) := by
  refine fn_okM T Tryz.func16 rfl (by decide) rfl rfl ?_
  intro L
  show AW _ _ _ (⟨[(0, .R 1), (1, .v (.int .i64 k))], [(1, .row 2 (List.map encEntrant a))], 27, [(1, L 1)]⟩ : St)
  refine AW.seq ?_
  refine AW.region ?_
  refine AO.pure T rfl rfl rfl ?_
  refine AO.nil ?_
  refine AW.seq ?_
  refine AW.seq ?_
  refine AW.region ?_
  refine AO.pure T rfl rfl rfl ?_
  refine AO.nil ?_
  refine AW.block ?_
  refine AW.loopS (fun s : Nat × (List Entrant) × Int × Int => (⟨[(0, .R 1), (1, .v (.int .i64 s.2.2.1)), (5, .v (.int .i64 s.2.2.2))], [(1, .row 2 (List.map encEntrant s.2.1))], 27, [(1, L 1)]⟩ : St)) (fun s => laws_markEntrantS_l1 s.1 s.2.1 s.2.2.1 s.2.2.2 = some r) (fun s => s.1) (fuel, a, k, 0) hH ?_ ?_
  · exact Le.cut 0 0 rfl (by repeat' (first | exact trivial | refine ⟨⟨_, rfl, rfl⟩, ?_⟩)) (by repeat' (first | exact trivial | refine ⟨⟨_, rfl, rfl⟩, ?_⟩)) rfl ⟨⟨rfl, rfl⟩, trivial⟩
  · rintro ⟨k1, v13, v14, v15⟩ hH
    replace hH : laws_markEntrantS_l1 k1 v13 v14 v15 = some r := hH
    show AW _ _ _ (⟨[(0, .R 1), (1, .v (.int .i64 v14)), (5, .v (.int .i64 v15))], [(1, .row 2 (List.map encEntrant v13))], 27, [(1, L 1)]⟩ : St)
    cases k1 with
    | zero => cases (show none = some _ from hH)
    | succ k1 =>
      rw [laws_markEntrantS_l1] at hH
      refine AW.seq ?_
      refine AW.seq ?_
      refine AW.region ?_
      refine AO.pure T rfl rfl rfl ?_
      refine AO.pure T rfl rfl rfl ?_
      refine AO.val rfl rfl (len_row_ok T rfl rfl rfl rfl) ?_
      refine AO.pure T rfl rfl rfl ?_
      refine AO.nil ?_
      refine AW.cond (b := decide (v15 < (v13.length : Int))) rfl (fun hc => ?_) (fun hc => ?_)
      · replace hH := condT hc hH
        refine AW.skip ?_
        refine AW.seq ?_
        refine AW.block ?_
        refine AW.seq ?_
        obtain ⟨x17, hx18, hH⟩ := bindE hH
        refine AW.region ?_
        refine AO.pure T rfl rfl rfl ?_
        refine AO.pure T rfl rfl rfl ?_
        refine AO.pure T rfl rfl rfl ?_
        refine AO.val rfl rfl (ix_row_ok T rfl rfl rfl rfl rfl rfl (hx18)) ?_
        refine AO.pure T rfl rfl rfl ?_
        refine AO.step rfl (store_row_ok T rfl rfl rfl rfl rfl (getI_get (hx18)) rfl rfl rfl rfl (u' := (Entrant.mk v14 x17.rank)) rfl rfl) ?_
        refine AO.nil ?_
        refine AW.seq ?_
        refine AW.region ?_
        refine AO.pure T rfl rfl rfl ?_
        refine AO.val rfl rfl (arw_ok rfl rfl rfl rfl) ?_
        refine AO.pure T rfl rfl rfl ?_
        refine AO.nil ?_
        refine AW.seq ?_
        obtain ⟨x19, hx20, hH⟩ := bindE hH
        refine AW.region ?_
        refine AO.pure T rfl rfl rfl ?_
        refine AO.pure T rfl rfl rfl ?_
        refine AO.pure T rfl rfl rfl ?_
        refine AO.val rfl rfl (ix_row_ok T rfl rfl rfl rfl rfl rfl (hx20)) ?_
        refine AO.pure T rfl rfl rfl ?_
        refine AO.step rfl (store_row_ok T rfl rfl rfl rfl rfl (getI_get (hx20)) rfl rfl rfl rfl (u' := (Entrant.mk x19.skater (w64 (v14 + 1)))) rfl rfl) ?_
        refine AO.nil ?_
        refine AW.region ?_
        refine AO.pure T rfl rfl rfl ?_
        refine AO.val rfl rfl (arw_ok rfl rfl rfl rfl) ?_
        refine AO.pure T rfl rfl rfl ?_
        refine AO.nil ?_
        refine AW.region ?_
        refine AO.pure T rfl rfl rfl ?_
        refine AO.val rfl rfl (arw_ok rfl rfl rfl rfl) ?_
        refine AO.pure T rfl rfl rfl ?_
        refine AO.nil ?_
        refine ⟨(k1, ((v13.set v15.toNat (Entrant.mk v14 x17.rank)).set v15.toNat (Entrant.mk x19.skater (w64 (v14 + 1)))), w64 ((w64 (v14 + 1)) + 1), w64 (v15 + 1)), hH, Nat.lt_succ_self _, ?_⟩
        exact Le.cut 0 0 rfl (by repeat' (first | exact trivial | refine ⟨⟨_, rfl, rfl⟩, ?_⟩)) (by repeat' (first | exact trivial | refine ⟨⟨_, rfl, rfl⟩, ?_⟩)) rfl ⟨⟨rfl, rfl⟩, trivial⟩
      · replace hH := condF hc hH
        refine AW.exit ?_
        refine AW.seq ?_
        refine AW.region ?_
        refine AO.pure T rfl rfl rfl ?_
        refine AO.pure T rfl rfl rfl ?_
        refine AO.nil ?_
        refine AW.ret ?_
        cases someE hH
        exact ⟨trivial, rfl, _, [], [1], rfl, expLG_cons (.c (.rowR rfl)) (expLG_cons (.c .u) (expLG_nil)), .c (.c .v), by decide⟩

end Go.Proofs.YtekdnjnefbkikaaGreat

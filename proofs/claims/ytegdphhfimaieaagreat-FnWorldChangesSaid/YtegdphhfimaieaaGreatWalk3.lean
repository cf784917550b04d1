/- The walk, part 3: what each function reached by the law FnWorldChanges computes. No condition. -/
import Derived.Test.YtegdphhfimaieaaGreatWalk2
set_option maxRecDepth 4000
set_option maxHeartbeats 1000000
set_option linter.unusedVariables false
set_option linter.unusedSimpArgs false
set_option linter.unusedSectionVars false

namespace Go.Proofs.YtegdphhfimaieaaGreat
open Go.AM

def slices_symMergeCmpFunc_Rank_l1 (data:List Rank) (a:Int) (cmp:Rank→Rank→Option Int):Nat→Int→Int→Option Int
  | 0,_,_=>none
  | k27+1,v42,v43 =>
    cond (decide (v42 < v43))
      ((getI data (IntKind.wrap .i64 ((IntKind.wrap .u64 (w64 (v42+v43))).fdiv (2 ^ 1)))).bind fun x45 =>
      (getI data a).bind fun x47 =>
      (cmp x45 x47).bind fun x49 =>
      cond (decide (x49 < 0))
        (slices_symMergeCmpFunc_Rank_l1 data a cmp k27 (w64 ((IntKind.wrap .i64 ((IntKind.wrap .u64 (w64 (v42+v43))).fdiv (2 ^ 1)))+1)) v43)
        (slices_symMergeCmpFunc_Rank_l1 data a cmp k27 v42 (IntKind.wrap .i64 ((IntKind.wrap .u64 (w64 (v42+v43))).fdiv (2 ^ 1)))))
      (some v42)
def slices_symMergeCmpFunc_Rank_l2 (v24:Int):Nat→List Rank→Int→Option ((List Rank))
  | 0,_,_=>none
  | k51+1,v66,v67 =>
    cond (decide (v67 < (w64 (v24 - 1))))
      ((getI v66 (w64 (v67+1))).bind fun x69 =>
      (getI v66 v67).bind fun x71 =>
      (getI (v66.set v67.toNat x69) (w64 (v67+1))).bind fun x73 =>
      slices_symMergeCmpFunc_Rank_l2 v24 k51 ((v66.set v67.toNat x69).set ((w64 (v67+1)).toNat) x71) (w64 (v67+1)))
      (some v66)
def slices_symMergeCmpFunc_Rank_l3 (data:List Rank) (m:Int) (cmp:Rank→Rank→Option Int):Nat→Int→Int→Option Int
  | 0,_,_=>none
  | k101+1,v116,v117 =>
    cond (decide (v116 < v117))
      ((getI data m).bind fun x119 =>
      (getI data (IntKind.wrap .i64 ((IntKind.wrap .u64 (w64 (v116+v117))).fdiv (2 ^ 1)))).bind fun x121 =>
      (cmp x119 x121).bind fun x123 =>
      cond (!(decide (x123 < 0)))
        (slices_symMergeCmpFunc_Rank_l3 data m cmp k101 (w64 ((IntKind.wrap .i64 ((IntKind.wrap .u64 (w64 (v116+v117))).fdiv (2 ^ 1)))+1)) v117)
        (slices_symMergeCmpFunc_Rank_l3 data m cmp k101 v116 (IntKind.wrap .i64 ((IntKind.wrap .u64 (w64 (v116+v117))).fdiv (2 ^ 1)))))
      (some v116)
def slices_symMergeCmpFunc_Rank_l4 (v98:Int):Nat→List Rank→Int→Option ((List Rank))
  | 0,_,_=>none
  | k125+1,v140,v141 =>
    cond (decide (v141 > v98))
      ((getI v140 (w64 (v141 - 1))).bind fun x143 =>
      (getI v140 v141).bind fun x145 =>
      (getI (v140.set v141.toNat x143) (w64 (v141 - 1))).bind fun x147 =>
      slices_symMergeCmpFunc_Rank_l4 v98 k125 ((v140.set v141.toNat x143).set ((w64 (v141 - 1)).toNat) x145) (w64 (v141 - 1)))
      (some v140)
def slices_symMergeCmpFunc_Rank_l5 (data:List Rank) (a:Int) (m:Int) (b:Int) (cmp:Rank→Rank→Option Int):Nat→Int→Int→Option Int
  | 0,_,_=>none
  | k175+1,v190,v191 =>
    cond (decide (v190 < v191))
      ((getI data (w64 ((w64 ((w64 ((IntKind.wrap .i64 ((IntKind.wrap .u64 (w64 (a+b))).fdiv (2 ^ 1)))+m)) - 1)) - (IntKind.wrap .i64 ((IntKind.wrap .u64 (w64 (v190+v191))).fdiv (2 ^ 1)))))).bind fun x193 =>
      (getI data (IntKind.wrap .i64 ((IntKind.wrap .u64 (w64 (v190+v191))).fdiv (2 ^ 1)))).bind fun x195 =>
      (cmp x193 x195).bind fun x197 =>
      cond (!(decide (x197 < 0)))
        (slices_symMergeCmpFunc_Rank_l5 data a m b cmp k175 (w64 ((IntKind.wrap .i64 ((IntKind.wrap .u64 (w64 (v190+v191))).fdiv (2 ^ 1)))+1)) v191)
        (slices_symMergeCmpFunc_Rank_l5 data a m b cmp k175 v190 (IntKind.wrap .i64 ((IntKind.wrap .u64 (w64 (v190+v191))).fdiv (2 ^ 1)))))
      (some v190)
def slices_symMergeCmpFunc_Rank_l6 (data:List Rank) (a:Int) (m:Int) (b:Int) (cmp:Rank→Rank→Option Int):Nat→Int→Int→Option Int
  | 0,_,_=>none
  | k239+1,v254,v255 =>
    cond (decide (v254 < v255))
      ((getI data (w64 ((w64 ((w64 ((IntKind.wrap .i64 ((IntKind.wrap .u64 (w64 (a+b))).fdiv (2 ^ 1)))+m)) - 1)) - (IntKind.wrap .i64 ((IntKind.wrap .u64 (w64 (v254+v255))).fdiv (2 ^ 1)))))).bind fun x257 =>
      (getI data (IntKind.wrap .i64 ((IntKind.wrap .u64 (w64 (v254+v255))).fdiv (2 ^ 1)))).bind fun x259 =>
      (cmp x257 x259).bind fun x261 =>
      cond (!(decide (x261 < 0)))
        (slices_symMergeCmpFunc_Rank_l6 data a m b cmp k239 (w64 ((IntKind.wrap .i64 ((IntKind.wrap .u64 (w64 (v254+v255))).fdiv (2 ^ 1)))+1)) v255)
        (slices_symMergeCmpFunc_Rank_l6 data a m b cmp k239 v254 (IntKind.wrap .i64 ((IntKind.wrap .u64 (w64 (v254+v255))).fdiv (2 ^ 1)))))
      (some v254)
def slices_symMergeCmpFunc_Rank_p (fuel:Nat):Nat→(List Rank)→Int→Int→Int→(Rank→Rank→Option Int)→Option (List Rank)
  | 0,_,_,_,_,_=>none
  | rf+1,data,a,m,b,cmp =>
    cond ((w64 (m - a)) == 1)
      ((slices_symMergeCmpFunc_Rank_l1 data a cmp fuel m b).bind fun v24 =>
      slices_symMergeCmpFunc_Rank_l2 v24 fuel data a)
      (cond ((w64 (b - m)) == 1)
        ((slices_symMergeCmpFunc_Rank_l3 data m cmp fuel a m).bind fun v98 =>
        slices_symMergeCmpFunc_Rank_l4 v98 fuel data m)
        (cond (decide (m > (IntKind.wrap .i64 ((IntKind.wrap .u64 (w64 (a+b))).fdiv (2 ^ 1)))))
          ((slices_symMergeCmpFunc_Rank_l5 data a m b cmp fuel (w64 ((w64 ((IntKind.wrap .i64 ((IntKind.wrap .u64 (w64 (a+b))).fdiv (2 ^ 1)))+m)) - b)) (IntKind.wrap .i64 ((IntKind.wrap .u64 (w64 (a+b))).fdiv (2 ^ 1)))).bind fun v172 =>
          cond (decide (v172 < m) && decide (m < (w64 ((w64 ((IntKind.wrap .i64 ((IntKind.wrap .u64 (w64 (a+b))).fdiv (2 ^ 1)))+m)) - v172))))
            ((slices_rotateCmpFunc_Rank_p fuel data v172 m (w64 ((w64 ((IntKind.wrap .i64 ((IntKind.wrap .u64 (w64 (a+b))).fdiv (2 ^ 1)))+m)) - v172)) cmp).bind fun x199 =>
            cond (decide (a < v172) && decide (v172 < (IntKind.wrap .i64 ((IntKind.wrap .u64 (w64 (a+b))).fdiv (2 ^ 1)))))
              ((slices_symMergeCmpFunc_Rank_p fuel rf x199 a v172 (IntKind.wrap .i64 ((IntKind.wrap .u64 (w64 (a+b))).fdiv (2 ^ 1))) cmp).bind fun x201 =>
              cond (decide ((IntKind.wrap .i64 ((IntKind.wrap .u64 (w64 (a+b))).fdiv (2 ^ 1))) < (w64 ((w64 ((IntKind.wrap .i64 ((IntKind.wrap .u64 (w64 (a+b))).fdiv (2 ^ 1)))+m)) - v172))) && decide ((w64 ((w64 ((IntKind.wrap .i64 ((IntKind.wrap .u64 (w64 (a+b))).fdiv (2 ^ 1)))+m)) - v172)) < b))
                ((slices_symMergeCmpFunc_Rank_p fuel rf x201 (IntKind.wrap .i64 ((IntKind.wrap .u64 (w64 (a+b))).fdiv (2 ^ 1))) (w64 ((w64 ((IntKind.wrap .i64 ((IntKind.wrap .u64 (w64 (a+b))).fdiv (2 ^ 1)))+m)) - v172)) b cmp).bind fun x203 =>
                some x203)
                (some x201))
              (cond (decide ((IntKind.wrap .i64 ((IntKind.wrap .u64 (w64 (a+b))).fdiv (2 ^ 1))) < (w64 ((w64 ((IntKind.wrap .i64 ((IntKind.wrap .u64 (w64 (a+b))).fdiv (2 ^ 1)))+m)) - v172))) && decide ((w64 ((w64 ((IntKind.wrap .i64 ((IntKind.wrap .u64 (w64 (a+b))).fdiv (2 ^ 1)))+m)) - v172)) < b))
                ((slices_symMergeCmpFunc_Rank_p fuel rf x199 (IntKind.wrap .i64 ((IntKind.wrap .u64 (w64 (a+b))).fdiv (2 ^ 1))) (w64 ((w64 ((IntKind.wrap .i64 ((IntKind.wrap .u64 (w64 (a+b))).fdiv (2 ^ 1)))+m)) - v172)) b cmp).bind fun x205 =>
                some x205)
                (some x199)))
            (cond (decide (a < v172) && decide (v172 < (IntKind.wrap .i64 ((IntKind.wrap .u64 (w64 (a+b))).fdiv (2 ^ 1)))))
              ((slices_symMergeCmpFunc_Rank_p fuel rf data a v172 (IntKind.wrap .i64 ((IntKind.wrap .u64 (w64 (a+b))).fdiv (2 ^ 1))) cmp).bind fun x207 =>
              cond (decide ((IntKind.wrap .i64 ((IntKind.wrap .u64 (w64 (a+b))).fdiv (2 ^ 1))) < (w64 ((w64 ((IntKind.wrap .i64 ((IntKind.wrap .u64 (w64 (a+b))).fdiv (2 ^ 1)))+m)) - v172))) && decide ((w64 ((w64 ((IntKind.wrap .i64 ((IntKind.wrap .u64 (w64 (a+b))).fdiv (2 ^ 1)))+m)) - v172)) < b))
                ((slices_symMergeCmpFunc_Rank_p fuel rf x207 (IntKind.wrap .i64 ((IntKind.wrap .u64 (w64 (a+b))).fdiv (2 ^ 1))) (w64 ((w64 ((IntKind.wrap .i64 ((IntKind.wrap .u64 (w64 (a+b))).fdiv (2 ^ 1)))+m)) - v172)) b cmp).bind fun x209 =>
                some x209)
                (some x207))
              (cond (decide ((IntKind.wrap .i64 ((IntKind.wrap .u64 (w64 (a+b))).fdiv (2 ^ 1))) < (w64 ((w64 ((IntKind.wrap .i64 ((IntKind.wrap .u64 (w64 (a+b))).fdiv (2 ^ 1)))+m)) - v172))) && decide ((w64 ((w64 ((IntKind.wrap .i64 ((IntKind.wrap .u64 (w64 (a+b))).fdiv (2 ^ 1)))+m)) - v172)) < b))
                ((slices_symMergeCmpFunc_Rank_p fuel rf data (IntKind.wrap .i64 ((IntKind.wrap .u64 (w64 (a+b))).fdiv (2 ^ 1))) (w64 ((w64 ((IntKind.wrap .i64 ((IntKind.wrap .u64 (w64 (a+b))).fdiv (2 ^ 1)))+m)) - v172)) b cmp).bind fun x211 =>
                some x211)
                (some data))))
          ((slices_symMergeCmpFunc_Rank_l6 data a m b cmp fuel a m).bind fun v236 =>
          cond (decide (v236 < m) && decide (m < (w64 ((w64 ((IntKind.wrap .i64 ((IntKind.wrap .u64 (w64 (a+b))).fdiv (2 ^ 1)))+m)) - v236))))
            ((slices_rotateCmpFunc_Rank_p fuel data v236 m (w64 ((w64 ((IntKind.wrap .i64 ((IntKind.wrap .u64 (w64 (a+b))).fdiv (2 ^ 1)))+m)) - v236)) cmp).bind fun x263 =>
            cond (decide (a < v236) && decide (v236 < (IntKind.wrap .i64 ((IntKind.wrap .u64 (w64 (a+b))).fdiv (2 ^ 1)))))
              ((slices_symMergeCmpFunc_Rank_p fuel rf x263 a v236 (IntKind.wrap .i64 ((IntKind.wrap .u64 (w64 (a+b))).fdiv (2 ^ 1))) cmp).bind fun x265 =>
              cond (decide ((IntKind.wrap .i64 ((IntKind.wrap .u64 (w64 (a+b))).fdiv (2 ^ 1))) < (w64 ((w64 ((IntKind.wrap .i64 ((IntKind.wrap .u64 (w64 (a+b))).fdiv (2 ^ 1)))+m)) - v236))) && decide ((w64 ((w64 ((IntKind.wrap .i64 ((IntKind.wrap .u64 (w64 (a+b))).fdiv (2 ^ 1)))+m)) - v236)) < b))
                ((slices_symMergeCmpFunc_Rank_p fuel rf x265 (IntKind.wrap .i64 ((IntKind.wrap .u64 (w64 (a+b))).fdiv (2 ^ 1))) (w64 ((w64 ((IntKind.wrap .i64 ((IntKind.wrap .u64 (w64 (a+b))).fdiv (2 ^ 1)))+m)) - v236)) b cmp).bind fun x267 =>
                some x267)
                (some x265))
              (cond (decide ((IntKind.wrap .i64 ((IntKind.wrap .u64 (w64 (a+b))).fdiv (2 ^ 1))) < (w64 ((w64 ((IntKind.wrap .i64 ((IntKind.wrap .u64 (w64 (a+b))).fdiv (2 ^ 1)))+m)) - v236))) && decide ((w64 ((w64 ((IntKind.wrap .i64 ((IntKind.wrap .u64 (w64 (a+b))).fdiv (2 ^ 1)))+m)) - v236)) < b))
                ((slices_symMergeCmpFunc_Rank_p fuel rf x263 (IntKind.wrap .i64 ((IntKind.wrap .u64 (w64 (a+b))).fdiv (2 ^ 1))) (w64 ((w64 ((IntKind.wrap .i64 ((IntKind.wrap .u64 (w64 (a+b))).fdiv (2 ^ 1)))+m)) - v236)) b cmp).bind fun x269 =>
                some x269)
                (some x263)))
            (cond (decide (a < v236) && decide (v236 < (IntKind.wrap .i64 ((IntKind.wrap .u64 (w64 (a+b))).fdiv (2 ^ 1)))))
              ((slices_symMergeCmpFunc_Rank_p fuel rf data a v236 (IntKind.wrap .i64 ((IntKind.wrap .u64 (w64 (a+b))).fdiv (2 ^ 1))) cmp).bind fun x271 =>
              cond (decide ((IntKind.wrap .i64 ((IntKind.wrap .u64 (w64 (a+b))).fdiv (2 ^ 1))) < (w64 ((w64 ((IntKind.wrap .i64 ((IntKind.wrap .u64 (w64 (a+b))).fdiv (2 ^ 1)))+m)) - v236))) && decide ((w64 ((w64 ((IntKind.wrap .i64 ((IntKind.wrap .u64 (w64 (a+b))).fdiv (2 ^ 1)))+m)) - v236)) < b))
                ((slices_symMergeCmpFunc_Rank_p fuel rf x271 (IntKind.wrap .i64 ((IntKind.wrap .u64 (w64 (a+b))).fdiv (2 ^ 1))) (w64 ((w64 ((IntKind.wrap .i64 ((IntKind.wrap .u64 (w64 (a+b))).fdiv (2 ^ 1)))+m)) - v236)) b cmp).bind fun x273 =>
                some x273)
                (some x271))
              (cond (decide ((IntKind.wrap .i64 ((IntKind.wrap .u64 (w64 (a+b))).fdiv (2 ^ 1))) < (w64 ((w64 ((IntKind.wrap .i64 ((IntKind.wrap .u64 (w64 (a+b))).fdiv (2 ^ 1)))+m)) - v236))) && decide ((w64 ((w64 ((IntKind.wrap .i64 ((IntKind.wrap .u64 (w64 (a+b))).fdiv (2 ^ 1)))+m)) - v236)) < b))
                ((slices_symMergeCmpFunc_Rank_p fuel rf data (IntKind.wrap .i64 ((IntKind.wrap .u64 (w64 (a+b))).fdiv (2 ^ 1))) (w64 ((w64 ((IntKind.wrap .i64 ((IntKind.wrap .u64 (w64 (a+b))).fdiv (2 ^ 1)))+m)) - v236)) b cmp).bind fun x275 =>
                some x275)
                (some data))))))
theorem slices_symMergeCmpFunc_Rank_ok (fuel:Nat):∀ (rf:Nat) (data:List Rank) (a:Int) (m:Int) (b:Int) (cmp_f:Nat) (cmp_c:List D) (cmp_k:cmp_c.all D.capOk=true) (cmp:Rank→Rank→Option Int) (cmp_h:∀ (a0:Rank) (a1:Rank) (q:Int),cmp a0 a1=some q→SpecR Tryz.prog cmp_f ([.g (encRank a0),.g (encRank a1)]++cmp_c) (.v (.int .i64 q))) (r:(List Rank)) (hH:slices_symMergeCmpFunc_Rank_p fuel rf data a m b cmp=some r),SpecM Tryz.prog 113 [.w 3 (data.map encRank),a,m,b,.f cmp_f cmp_c] [.w 3 (r.map encRank),.u,.u,.u,.u] (.t []):=by
 intro rf
 induction rf with
 | zero=>intro data a m b cmp_f cmp_c cmp_k cmp cmp_h r hH;rw [slices_symMergeCmpFunc_Rank_p] at hH;cases hH
 | succ rf ih =>
 intro data a m b cmp_f cmp_c cmp_k cmp cmp_h r hH
 rw [slices_symMergeCmpFunc_Rank_p] at hH
 have cmp_r:=cap_cfree cmp_k
 refine fn_okM T Tryz.func113 rfl (by decide) rfl (by simp [D.gOk,D.cellOk,cmp_k]) ?_
 intro L
 show AW _ _ _ (⟨[(0,.R 1),(1,a),(2,m),(3,b),(4,.f cmp_f cmp_c)],[(1,.row 3 (List.map encRank data))],220,[(1,L 1)]⟩:St)
 iterate 2 refine AW.seq ?_
 refine AW.region ?_
 iterate 2 refine AO.pu T ?_
 refine AO.val rfl rfl (arw_ok rfl rfl rfl rfl) ?_
 refine AO.pu T ?_
 refine AO.nil (AW.cond (b:=((w64 (m - a)) == 1)) rfl (fun hc=>?_) (fun hc=>?_))
 replace hH:=condT hc hH
 refine AW.seq (AW.region ?_)
 iterate 2 refine AO.pu T ?_
 refine AO.nil (AW.seq (AW.region ?_))
 iterate 2 refine AO.pu T ?_
 refine AO.nil ?_
 obtain ⟨o25,hH,hK26⟩:=bindE hH
 refine AW.seqJ (fun s:Int=>(⟨[(0,.R 1),(1,a),(10,s)],[(1,.row 3 (List.map encRank data))],220,[(1,L 1)]⟩:St)) (fun s=>s=o25) ?_ ?_
 refine AW.block (AW.loopS (fun s:Nat × Int × Int=>(⟨[(0,.R 1),(1,a),(4,.f cmp_f cmp_c),(10,s.2.1),(11,s.2.2)],[(1,.row 3 (List.map encRank data))],220,[(1,L 1)]⟩:St)) (fun s=>slices_symMergeCmpFunc_Rank_l1 data a cmp s.1 s.2.1 s.2.2=some o25) (fun s=>s.1) (fuel,m,b) hH ?_ ?_)
 exact Le.cut 0 0 rfl ⟨⟨_,rfl,rfl⟩,⟨_,rfl,rfl⟩,⟨_,rfl,ren_fF cmp_r⟩,⟨_,rfl,rfl⟩,⟨_,rfl,rfl⟩,trivial⟩ (by repeat' (first | exact trivial | refine ⟨⟨_,rfl,rfl⟩,?_⟩)) (andT (allC rfl (allC rfl (allC (known_fF cmp_r) (allC rfl (allC rfl allN))))) rfl) ⟨⟨rfl,rfl⟩,trivial⟩
 rintro ⟨k27,v42,v43⟩ hH
 replace hH:slices_symMergeCmpFunc_Rank_l1 data a cmp k27 v42 v43=some o25:=hH
 try dsimp only
 rcases k27 with _ | k27
 cases (show none=some _ from hH)
 rw [slices_symMergeCmpFunc_Rank_l1] at hH
 iterate 2 refine AW.seq ?_
 refine AW.region ?_
 iterate 3 refine AO.pu T ?_
 refine AO.nil (AW.cond (b:=decide (v42 < v43)) rfl (fun hc=>?_) (fun hc=>?_))
 replace hH:=condT hc hH
 refine AW.skip (AW.block ?_)
 refine AW.seq (AW.region ?_)
 iterate 2 refine AO.pu T ?_
 refine AO.val rfl rfl (arw_ok rfl rfl rfl rfl) ?_
 refine AO.val rfl rfl (convw_ok T rfl rfl rfl rfl) ?_
 refine AO.val rfl rfl (shr_ok rfl rfl rfl rfl rfl) ?_
 refine AO.val rfl rfl (convw_ok T rfl rfl rfl rfl) ?_
 refine AO.pu T ?_
 refine AO.nil (AW.seq ?_)
 obtain ⟨x45,hx46,hH⟩:=bindE hH
 obtain ⟨x47,hx48,hH⟩:=bindE hH
 obtain ⟨x49,hx50,hH⟩:=bindE hH
 refine AW.drawn 9 2 [] mix (by kernel_rfl) rfl ?_
 iterate 3 refine AD.pure T rfl rfl rfl ?_
 refine AD.val rfl rfl (ix_row_ok T rfl rfl rfl rfl rfl rfl (hx46)) ?_
 refine AD.val rfl rfl (load_row_ok T rfl rfl rfl rfl (getI_get (hx46)) rfl rfl rfl) ?_
 iterate 2 refine AD.pure T rfl rfl rfl ?_
 refine AD.val rfl rfl (ix_row_ok T rfl rfl rfl rfl rfl rfl (hx48)) ?_
 refine AD.val rfl rfl (load_row_ok T rfl rfl rfl rfl (getI_get (hx48)) rfl rfl rfl) ?_
 refine AD.nil (AO.val rfl rfl (callV_ok rfl rfl rfl (andT rfl (free_cfree cmp_r)) (cmp_h _ _ _ (hx50)) rfl) ?_)
 refine AO.pu T ?_
 refine AO.nil (AW.cond (b:=decide (x49 < 0)) rfl (fun hc=>?_) (fun hc=>?_))
 replace hH:=condT hc hH
 refine AW.region (AO.pu T ?_)
 refine AO.val rfl rfl (arw_ok rfl rfl rfl rfl) ?_
 refine AO.pu T ?_
 refine AO.nil ?_
 refine ⟨(k27,w64 ((IntKind.wrap .i64 ((IntKind.wrap .u64 (w64 (v42+v43))).fdiv (2 ^ 1)))+1),v43),hH,Nat.lt_succ_self _,?_⟩
 exact Le.cut 0 0 rfl ⟨⟨_,rfl,rfl⟩,⟨_,rfl,rfl⟩,⟨_,rfl,ren_fF cmp_r⟩,⟨_,rfl,rfl⟩,⟨_,rfl,rfl⟩,trivial⟩ (by repeat' (first | exact trivial | refine ⟨⟨_,rfl,rfl⟩,?_⟩)) (andT (allC rfl (allC rfl (allC (known_fF cmp_r) (allC rfl (allC rfl allN))))) rfl) ⟨⟨rfl,rfl⟩,trivial⟩
 replace hH:=condF hc hH
 refine AW.region ?_
 iterate 2 refine AO.pu T ?_
 refine AO.nil ?_
 refine ⟨(k27,v42,IntKind.wrap .i64 ((IntKind.wrap .u64 (w64 (v42+v43))).fdiv (2 ^ 1))),hH,Nat.lt_succ_self _,?_⟩
 exact Le.cut 0 0 rfl ⟨⟨_,rfl,rfl⟩,⟨_,rfl,rfl⟩,⟨_,rfl,ren_fF cmp_r⟩,⟨_,rfl,rfl⟩,⟨_,rfl,rfl⟩,trivial⟩ (by repeat' (first | exact trivial | refine ⟨⟨_,rfl,rfl⟩,?_⟩)) (andT (allC rfl (allC rfl (allC (known_fF cmp_r) (allC rfl (allC rfl allN))))) rfl) ⟨⟨rfl,rfl⟩,trivial⟩
 replace hH:=condF hc hH
 refine AW.exit ?_
 refine ⟨_,someE hH,?_⟩
 exact Le.ct 0 0 (hpin:=⟨⟨rfl,rfl⟩,trivial⟩)
 rintro v24 hs
 subst hs
 replace hH:=hK26
 try dsimp only [flow,flowE] at hH
 try dsimp only
 iterate 2 refine AW.seq ?_
 refine AW.region ?_
 iterate 2 refine AO.pu T ?_
 refine AO.nil (AW.block ?_)
 refine AW.loopS (fun s:Nat × (List Rank) × Int=>(⟨[(0,.R 1),(10,v24),(13,s.2.2)],[(1,.row 3 (List.map encRank s.2.1))],220,[(1,L 1)]⟩:St)) (fun s=>slices_symMergeCmpFunc_Rank_l2 v24 s.1 s.2.1 s.2.2=some r) (fun s=>s.1) (fuel,data,a) hH ?_ ?_
 exact Le.ct 0 0 (hpin:=⟨⟨rfl,rfl⟩,trivial⟩)
 rintro ⟨k51,v66,v67⟩ hH
 replace hH:slices_symMergeCmpFunc_Rank_l2 v24 k51 v66 v67=some r:=hH
 try dsimp only
 rcases k51 with _ | k51
 cases (show none=some _ from hH)
 rw [slices_symMergeCmpFunc_Rank_l2] at hH
 iterate 2 refine AW.seq ?_
 refine AW.region ?_
 iterate 2 refine AO.pu T ?_
 refine AO.val rfl rfl (arw_ok rfl rfl rfl rfl) ?_
 refine AO.pu T ?_
 refine AO.nil (AW.cond (b:=decide (v67 < (w64 (v24 - 1)))) rfl (fun hc=>?_) (fun hc=>?_))
 replace hH:=condT hc hH
 refine AW.skip (AW.seq ?_)
 refine AW.block ?_
 obtain ⟨x69,hx70,hH⟩:=bindE hH
 obtain ⟨x71,hx72,hH⟩:=bindE hH
 obtain ⟨x73,hx74,hH⟩:=bindE hH
 refine AW.drawn 16 2 [1] mix (by kernel_rfl) rfl ?_
 iterate 4 refine AD.pure T rfl rfl rfl ?_
 refine AD.val rfl rfl (arw_ok rfl rfl rfl rfl) ?_
 iterate 2 refine AD.pure T rfl rfl rfl ?_
 refine AD.val rfl rfl (arw_ok rfl rfl rfl rfl) ?_
 refine AD.vald rfl rfl rfl (ix_row_ok T rfl rfl rfl rfl rfl rfl (hx70)) ?_
 refine AD.vald rfl rfl rfl (load_row_ok T rfl rfl rfl rfl (getI_get (hx70)) rfl rfl rfl) ?_
 iterate 2 refine AD.pure T rfl rfl rfl ?_
 refine AD.vald rfl rfl rfl (ix_row_ok T rfl rfl rfl rfl rfl rfl (hx72)) ?_
 refine AD.vald rfl rfl rfl (load_row_ok T rfl rfl rfl rfl (getI_get (hx72)) rfl rfl rfl) ?_
 refine AD.vald rfl rfl rfl (ix_row_ok T rfl rfl rfl rfl rfl rfl (hx72)) ?_
 refine AD.k rfl rfl (FStep.store_row T rfl rfl rfl rfl rfl rfl (getI_get (hx72)) rfl rfl rfl rfl (u':=x69) rfl rfl rfl) rfl rfl rfl ?_
 refine AD.nil (AO.val rfl rfl (ix_row_ok T rfl rfl rfl rfl rfl rfl (hx74)) ?_)
 refine AO.step rfl (store_row_ok T rfl rfl rfl rfl rfl (getI_get (hx74)) rfl rfl rfl rfl (u':=x71) rfl rfl) ?_
 refine AO.nil (AW.region ?_)
 refine AO.pu T ?_
 refine AO.val rfl rfl (arw_ok rfl rfl rfl rfl) ?_
 refine AO.pu T ?_
 refine AO.nil ?_
 refine ⟨(k51,((v66.set v67.toNat x69).set ((w64 (v67+1)).toNat) x71),w64 (v67+1)),hH,Nat.lt_succ_self _,?_⟩
 exact Le.ct 0 0 (hpin:=⟨⟨rfl,rfl⟩,trivial⟩)
 replace hH:=condF hc hH
 refine AW.exit (AW.ret ?_)
 have hR:=someE hH;subst hR
 exact ⟨trivial,rfl,_,[],[1],rfl,expLG_cons (.c (.rowR rfl)) (expLG_cons (.c .u) (expLG_cons (.c .u) (expLG_cons (.c .u) (expLG_cons (.c .u) (expLG_nil))))),.t expLG_nil,by decide⟩
 replace hH:=condF hc hH
 refine AW.skip ?_
 iterate 2 refine AW.seq ?_
 refine AW.region ?_
 iterate 2 refine AO.pu T ?_
 refine AO.val rfl rfl (arw_ok rfl rfl rfl rfl) ?_
 refine AO.pu T ?_
 refine AO.nil (AW.cond (b:=((w64 (b - m)) == 1)) rfl (fun hc=>?_) (fun hc=>?_))
 replace hH:=condT hc hH
 refine AW.seq (AW.region ?_)
 iterate 2 refine AO.pu T ?_
 refine AO.nil (AW.seq (AW.region ?_))
 iterate 2 refine AO.pu T ?_
 refine AO.nil ?_
 obtain ⟨o99,hH,hK100⟩:=bindE hH
 refine AW.seqJ (fun s:Int=>(⟨[(0,.R 1),(2,m),(14,s)],[(1,.row 3 (List.map encRank data))],220,[(1,L 1)]⟩:St)) (fun s=>s=o99) ?_ ?_
 refine AW.block (AW.loopS (fun s:Nat × Int × Int=>(⟨[(0,.R 1),(2,m),(4,.f cmp_f cmp_c),(14,s.2.1),(15,s.2.2)],[(1,.row 3 (List.map encRank data))],220,[(1,L 1)]⟩:St)) (fun s=>slices_symMergeCmpFunc_Rank_l3 data m cmp s.1 s.2.1 s.2.2=some o99) (fun s=>s.1) (fuel,a,m) hH ?_ ?_)
 exact Le.cut 0 0 rfl ⟨⟨_,rfl,rfl⟩,⟨_,rfl,rfl⟩,⟨_,rfl,ren_fF cmp_r⟩,⟨_,rfl,rfl⟩,⟨_,rfl,rfl⟩,trivial⟩ (by repeat' (first | exact trivial | refine ⟨⟨_,rfl,rfl⟩,?_⟩)) (andT (allC rfl (allC rfl (allC (known_fF cmp_r) (allC rfl (allC rfl allN))))) rfl) ⟨⟨rfl,rfl⟩,trivial⟩
 rintro ⟨k101,v116,v117⟩ hH
 replace hH:slices_symMergeCmpFunc_Rank_l3 data m cmp k101 v116 v117=some o99:=hH
 try dsimp only
 rcases k101 with _ | k101
 cases (show none=some _ from hH)
 rw [slices_symMergeCmpFunc_Rank_l3] at hH
 iterate 2 refine AW.seq ?_
 refine AW.region ?_
 iterate 3 refine AO.pu T ?_
 refine AO.nil (AW.cond (b:=decide (v116 < v117)) rfl (fun hc=>?_) (fun hc=>?_))
 replace hH:=condT hc hH
 refine AW.skip (AW.block ?_)
 refine AW.seq (AW.region ?_)
 iterate 2 refine AO.pu T ?_
 refine AO.val rfl rfl (arw_ok rfl rfl rfl rfl) ?_
 refine AO.val rfl rfl (convw_ok T rfl rfl rfl rfl) ?_
 refine AO.val rfl rfl (shr_ok rfl rfl rfl rfl rfl) ?_
 refine AO.val rfl rfl (convw_ok T rfl rfl rfl rfl) ?_
 refine AO.pu T ?_
 refine AO.nil (AW.seq ?_)
 obtain ⟨x119,hx120,hH⟩:=bindE hH
 obtain ⟨x121,hx122,hH⟩:=bindE hH
 obtain ⟨x123,hx124,hH⟩:=bindE hH
 refine AW.drawn 9 2 [] mix (by kernel_rfl) rfl ?_
 iterate 3 refine AD.pure T rfl rfl rfl ?_
 refine AD.val rfl rfl (ix_row_ok T rfl rfl rfl rfl rfl rfl (hx120)) ?_
 refine AD.val rfl rfl (load_row_ok T rfl rfl rfl rfl (getI_get (hx120)) rfl rfl rfl) ?_
 iterate 2 refine AD.pure T rfl rfl rfl ?_
 refine AD.val rfl rfl (ix_row_ok T rfl rfl rfl rfl rfl rfl (hx122)) ?_
 refine AD.val rfl rfl (load_row_ok T rfl rfl rfl rfl (getI_get (hx122)) rfl rfl rfl) ?_
 refine AD.nil (AO.val rfl rfl (callV_ok rfl rfl rfl (andT rfl (free_cfree cmp_r)) (cmp_h _ _ _ (hx124)) rfl) ?_)
 iterate 2 refine AO.pu T ?_
 refine AO.nil (AW.cond (b:=(!(decide (x123 < 0)))) rfl (fun hc=>?_) (fun hc=>?_))
 replace hH:=condT hc hH
 refine AW.region (AO.pu T ?_)
 refine AO.val rfl rfl (arw_ok rfl rfl rfl rfl) ?_
 refine AO.pu T ?_
 refine AO.nil ?_
 refine ⟨(k101,w64 ((IntKind.wrap .i64 ((IntKind.wrap .u64 (w64 (v116+v117))).fdiv (2 ^ 1)))+1),v117),hH,Nat.lt_succ_self _,?_⟩
 exact Le.cut 0 0 rfl ⟨⟨_,rfl,rfl⟩,⟨_,rfl,rfl⟩,⟨_,rfl,ren_fF cmp_r⟩,⟨_,rfl,rfl⟩,⟨_,rfl,rfl⟩,trivial⟩ (by repeat' (first | exact trivial | refine ⟨⟨_,rfl,rfl⟩,?_⟩)) (andT (allC rfl (allC rfl (allC (known_fF cmp_r) (allC rfl (allC rfl allN))))) rfl) ⟨⟨rfl,rfl⟩,trivial⟩
 replace hH:=condF hc hH
 refine AW.region ?_
 iterate 2 refine AO.pu T ?_
 refine AO.nil ?_
 refine ⟨(k101,v116,IntKind.wrap .i64 ((IntKind.wrap .u64 (w64 (v116+v117))).fdiv (2 ^ 1))),hH,Nat.lt_succ_self _,?_⟩
 exact Le.cut 0 0 rfl ⟨⟨_,rfl,rfl⟩,⟨_,rfl,rfl⟩,⟨_,rfl,ren_fF cmp_r⟩,⟨_,rfl,rfl⟩,⟨_,rfl,rfl⟩,trivial⟩ (by repeat' (first | exact trivial | refine ⟨⟨_,rfl,rfl⟩,?_⟩)) (andT (allC rfl (allC rfl (allC (known_fF cmp_r) (allC rfl (allC rfl allN))))) rfl) ⟨⟨rfl,rfl⟩,trivial⟩
 replace hH:=condF hc hH
 refine AW.exit ?_
 refine ⟨_,someE hH,?_⟩
 exact Le.ct 0 0 (hpin:=⟨⟨rfl,rfl⟩,trivial⟩)
 rintro v98 hs
 subst hs
 replace hH:=hK100
 try dsimp only [flow,flowE] at hH
 try dsimp only
 iterate 2 refine AW.seq ?_
 refine AW.region ?_
 iterate 2 refine AO.pu T ?_
 refine AO.nil (AW.block ?_)
 refine AW.loopS (fun s:Nat × (List Rank) × Int=>(⟨[(0,.R 1),(14,v98),(17,s.2.2)],[(1,.row 3 (List.map encRank s.2.1))],220,[(1,L 1)]⟩:St)) (fun s=>slices_symMergeCmpFunc_Rank_l4 v98 s.1 s.2.1 s.2.2=some r) (fun s=>s.1) (fuel,data,m) hH ?_ ?_
 exact Le.ct 0 0 (hpin:=⟨⟨rfl,rfl⟩,trivial⟩)
 rintro ⟨k125,v140,v141⟩ hH
 replace hH:slices_symMergeCmpFunc_Rank_l4 v98 k125 v140 v141=some r:=hH
 try dsimp only
 rcases k125 with _ | k125
 cases (show none=some _ from hH)
 rw [slices_symMergeCmpFunc_Rank_l4] at hH
 iterate 2 refine AW.seq ?_
 refine AW.region ?_
 iterate 3 refine AO.pu T ?_
 refine AO.nil (AW.cond (b:=decide (v141 > v98)) rfl (fun hc=>?_) (fun hc=>?_))
 replace hH:=condT hc hH
 refine AW.skip (AW.seq ?_)
 refine AW.block ?_
 obtain ⟨x143,hx144,hH⟩:=bindE hH
 obtain ⟨x145,hx146,hH⟩:=bindE hH
 obtain ⟨x147,hx148,hH⟩:=bindE hH
 refine AW.drawn 16 2 [1] mix (by kernel_rfl) rfl ?_
 iterate 4 refine AD.pure T rfl rfl rfl ?_
 refine AD.val rfl rfl (arw_ok rfl rfl rfl rfl) ?_
 iterate 2 refine AD.pure T rfl rfl rfl ?_
 refine AD.val rfl rfl (arw_ok rfl rfl rfl rfl) ?_
 refine AD.vald rfl rfl rfl (ix_row_ok T rfl rfl rfl rfl rfl rfl (hx144)) ?_
 refine AD.vald rfl rfl rfl (load_row_ok T rfl rfl rfl rfl (getI_get (hx144)) rfl rfl rfl) ?_
 iterate 2 refine AD.pure T rfl rfl rfl ?_
 refine AD.vald rfl rfl rfl (ix_row_ok T rfl rfl rfl rfl rfl rfl (hx146)) ?_
 refine AD.vald rfl rfl rfl (load_row_ok T rfl rfl rfl rfl (getI_get (hx146)) rfl rfl rfl) ?_
 refine AD.vald rfl rfl rfl (ix_row_ok T rfl rfl rfl rfl rfl rfl (hx146)) ?_
 refine AD.k rfl rfl (FStep.store_row T rfl rfl rfl rfl rfl rfl (getI_get (hx146)) rfl rfl rfl rfl (u':=x143) rfl rfl rfl) rfl rfl rfl ?_
 refine AD.nil (AO.val rfl rfl (ix_row_ok T rfl rfl rfl rfl rfl rfl (hx148)) ?_)
 refine AO.step rfl (store_row_ok T rfl rfl rfl rfl rfl (getI_get (hx148)) rfl rfl rfl rfl (u':=x145) rfl rfl) ?_
 refine AO.nil (AW.region ?_)
 refine AO.pu T ?_
 refine AO.val rfl rfl (arw_ok rfl rfl rfl rfl) ?_
 refine AO.pu T ?_
 refine AO.nil ?_
 refine ⟨(k125,((v140.set v141.toNat x143).set ((w64 (v141 - 1)).toNat) x145),w64 (v141 - 1)),hH,Nat.lt_succ_self _,?_⟩
 exact Le.ct 0 0 (hpin:=⟨⟨rfl,rfl⟩,trivial⟩)
 replace hH:=condF hc hH
 refine AW.exit (AW.ret ?_)
 have hR:=someE hH;subst hR
 exact ⟨trivial,rfl,_,[],[1],rfl,expLG_cons (.c (.rowR rfl)) (expLG_cons (.c .u) (expLG_cons (.c .u) (expLG_cons (.c .u) (expLG_cons (.c .u) (expLG_nil))))),.t expLG_nil,by decide⟩
 replace hH:=condF hc hH
 refine AW.skip (AW.seq (AW.region ?_))
 iterate 2 refine AO.pu T ?_
 refine AO.val rfl rfl (arw_ok rfl rfl rfl rfl) ?_
 refine AO.val rfl rfl (convw_ok T rfl rfl rfl rfl) ?_
 refine AO.val rfl rfl (shr_ok rfl rfl rfl rfl rfl) ?_
 refine AO.val rfl rfl (convw_ok T rfl rfl rfl rfl) ?_
 refine AO.pu T ?_
 refine AO.nil (AW.seq (AW.region ?_))
 iterate 2 refine AO.pu T ?_
 refine AO.val rfl rfl (arw_ok rfl rfl rfl rfl) ?_
 refine AO.pu T ?_
 refine AO.nil (AW.seq (AW.region ?_))
 iterate 2 refine AO.pu T ?_
 refine AO.nil ?_
 iterate 2 refine AW.seq ?_
 refine AW.region ?_
 iterate 3 refine AO.pu T ?_
 refine AO.nil (AW.le (Le.cut 0 0 (σ':=(⟨[(0,.R 1),(1,a),(2,m),(3,b),(4,.f cmp_f cmp_c),(18,(IntKind.wrap .i64 ((IntKind.wrap .u64 (w64 (a+b))).fdiv (2 ^ 1)):Int)),(19,w64 ((IntKind.wrap .i64 ((IntKind.wrap .u64 (w64 (a+b))).fdiv (2 ^ 1)))+m)),(140,.v (.bool (decide (m > (IntKind.wrap .i64 ((IntKind.wrap .u64 (w64 (a+b))).fdiv (2 ^ 1)))))))],[(1,.row 3 (List.map encRank data))],220,[(1,L 1)]⟩:St)) rfl ⟨⟨_,rfl,rfl⟩,⟨_,rfl,rfl⟩,⟨_,rfl,rfl⟩,⟨_,rfl,rfl⟩,⟨_,rfl,ren_fF cmp_r⟩,⟨_,rfl,rfl⟩,⟨_,rfl,rfl⟩,⟨_,rfl,rfl⟩,trivial⟩ (by repeat' (first | exact trivial | refine ⟨⟨_,rfl,rfl⟩,?_⟩)) (andT (allC rfl (allC rfl (allC rfl (allC rfl (allC (known_fF cmp_r) (allC rfl (allC rfl (allC rfl allN)))))))) rfl) ⟨⟨rfl,rfl⟩,trivial⟩) ?_)
 refine AW.cond (b:=decide (m > (IntKind.wrap .i64 ((IntKind.wrap .u64 (w64 (a+b))).fdiv (2 ^ 1))))) rfl (fun hc=>?_) (fun hc=>?_)
 replace hH:=condT hc hH
 refine AW.seq (AW.region ?_)
 iterate 2 refine AO.pu T ?_
 refine AO.val rfl rfl (arw_ok rfl rfl rfl rfl) ?_
 refine AO.pu T ?_
 refine AO.nil (AW.region ?_)
 iterate 2 refine AO.pu T ?_
 refine AO.nil (AW.seq (AW.region ?_))
 refine AO.pu T ?_
 refine AO.val rfl rfl (arw_ok rfl rfl rfl rfl) ?_
 refine AO.pu T ?_
 refine AO.nil ?_
 obtain ⟨o173,hH,hK174⟩:=bindE hH
 refine AW.seqJ (fun s:Int=>(⟨[(0,.R 1),(1,a),(2,m),(3,b),(4,.f cmp_f cmp_c),(18,(IntKind.wrap .i64 ((IntKind.wrap .u64 (w64 (a+b))).fdiv (2 ^ 1)):Int)),(19,w64 ((IntKind.wrap .i64 ((IntKind.wrap .u64 (w64 (a+b))).fdiv (2 ^ 1)))+m)),(20,s)],[(1,.row 3 (List.map encRank data))],220,[(1,L 1)]⟩:St)) (fun s=>s=o173) ?_ ?_
 refine AW.block (AW.loopS (fun s:Nat × Int × Int=>(⟨[(0,.R 1),(1,a),(2,m),(3,b),(4,.f cmp_f cmp_c),(18,(IntKind.wrap .i64 ((IntKind.wrap .u64 (w64 (a+b))).fdiv (2 ^ 1)):Int)),(19,w64 ((IntKind.wrap .i64 ((IntKind.wrap .u64 (w64 (a+b))).fdiv (2 ^ 1)))+m)),(20,s.2.1),(21,s.2.2),(22,w64 ((w64 ((IntKind.wrap .i64 ((IntKind.wrap .u64 (w64 (a+b))).fdiv (2 ^ 1)))+m)) - 1))],[(1,.row 3 (List.map encRank data))],220,[(1,L 1)]⟩:St)) (fun s=>slices_symMergeCmpFunc_Rank_l5 data a m b cmp s.1 s.2.1 s.2.2=some o173) (fun s=>s.1) (fuel,w64 ((w64 ((IntKind.wrap .i64 ((IntKind.wrap .u64 (w64 (a+b))).fdiv (2 ^ 1)))+m)) - b),IntKind.wrap .i64 ((IntKind.wrap .u64 (w64 (a+b))).fdiv (2 ^ 1))) hH ?_ ?_)
 exact Le.cut 0 0 rfl ⟨⟨_,rfl,rfl⟩,⟨_,rfl,rfl⟩,⟨_,rfl,rfl⟩,⟨_,rfl,rfl⟩,⟨_,rfl,ren_fF cmp_r⟩,⟨_,rfl,rfl⟩,⟨_,rfl,rfl⟩,⟨_,rfl,rfl⟩,⟨_,rfl,rfl⟩,⟨_,rfl,rfl⟩,trivial⟩ (by repeat' (first | exact trivial | refine ⟨⟨_,rfl,rfl⟩,?_⟩)) (andT (allC rfl (allC rfl (allC rfl (allC rfl (allC (known_fF cmp_r) (allC rfl (allC rfl (allC rfl (allC rfl (allC rfl allN)))))))))) rfl) ⟨⟨rfl,rfl⟩,trivial⟩
 rintro ⟨k175,v190,v191⟩ hH
 replace hH:slices_symMergeCmpFunc_Rank_l5 data a m b cmp k175 v190 v191=some o173:=hH
 try dsimp only
 rcases k175 with _ | k175
 cases (show none=some _ from hH)
 rw [slices_symMergeCmpFunc_Rank_l5] at hH
 iterate 2 refine AW.seq ?_
 refine AW.region ?_
 iterate 3 refine AO.pu T ?_
 refine AO.nil (AW.cond (b:=decide (v190 < v191)) rfl (fun hc=>?_) (fun hc=>?_))
 replace hH:=condT hc hH
 refine AW.skip (AW.block ?_)
 refine AW.seq (AW.region ?_)
 iterate 2 refine AO.pu T ?_
 refine AO.val rfl rfl (arw_ok rfl rfl rfl rfl) ?_
 refine AO.val rfl rfl (convw_ok T rfl rfl rfl rfl) ?_
 refine AO.val rfl rfl (shr_ok rfl rfl rfl rfl rfl) ?_
 refine AO.val rfl rfl (convw_ok T rfl rfl rfl rfl) ?_
 refine AO.pu T ?_
 refine AO.nil (AW.seq ?_)
 obtain ⟨x193,hx194,hH⟩:=bindE hH
 obtain ⟨x195,hx196,hH⟩:=bindE hH
 obtain ⟨x197,hx198,hH⟩:=bindE hH
 refine AW.drawn 11 2 [] mix (by kernel_rfl) rfl ?_
 iterate 4 refine AD.pure T rfl rfl rfl ?_
 refine AD.val rfl rfl (arw_ok rfl rfl rfl rfl) ?_
 refine AD.val rfl rfl (ix_row_ok T rfl rfl rfl rfl rfl rfl (hx194)) ?_
 refine AD.val rfl rfl (load_row_ok T rfl rfl rfl rfl (getI_get (hx194)) rfl rfl rfl) ?_
 iterate 2 refine AD.pure T rfl rfl rfl ?_
 refine AD.val rfl rfl (ix_row_ok T rfl rfl rfl rfl rfl rfl (hx196)) ?_
 refine AD.val rfl rfl (load_row_ok T rfl rfl rfl rfl (getI_get (hx196)) rfl rfl rfl) ?_
 refine AD.nil (AO.val rfl rfl (callV_ok rfl rfl rfl (andT rfl (free_cfree cmp_r)) (cmp_h _ _ _ (hx198)) rfl) ?_)
 iterate 2 refine AO.pu T ?_
 refine AO.nil (AW.le (Le.cut 0 0 (σ':=(⟨[(0,.R 1),(1,a),(2,m),(3,b),(4,.f cmp_f cmp_c),(18,(IntKind.wrap .i64 ((IntKind.wrap .u64 (w64 (a+b))).fdiv (2 ^ 1)):Int)),(19,w64 ((IntKind.wrap .i64 ((IntKind.wrap .u64 (w64 (a+b))).fdiv (2 ^ 1)))+m)),(20,v190),(21,v191),(22,w64 ((w64 ((IntKind.wrap .i64 ((IntKind.wrap .u64 (w64 (a+b))).fdiv (2 ^ 1)))+m)) - 1)),(23,(IntKind.wrap .i64 ((IntKind.wrap .u64 (w64 (v190+v191))).fdiv (2 ^ 1)):Int)),(171,.v (.bool (!(decide (x197 < 0)))))],[(1,.row 3 (List.map encRank data))],220,[(1,L 1)]⟩:St)) rfl ⟨⟨_,rfl,rfl⟩,⟨_,rfl,rfl⟩,⟨_,rfl,rfl⟩,⟨_,rfl,rfl⟩,⟨_,rfl,ren_fF cmp_r⟩,⟨_,rfl,rfl⟩,⟨_,rfl,rfl⟩,⟨_,rfl,rfl⟩,⟨_,rfl,rfl⟩,⟨_,rfl,rfl⟩,⟨_,rfl,rfl⟩,⟨_,rfl,rfl⟩,trivial⟩ (by repeat' (first | exact trivial | refine ⟨⟨_,rfl,rfl⟩,?_⟩)) (andT (allC rfl (allC rfl (allC rfl (allC rfl (allC (known_fF cmp_r) (allC rfl (allC rfl (allC rfl (allC rfl (allC rfl (allC rfl (allC rfl allN)))))))))))) rfl) ⟨⟨rfl,rfl⟩,trivial⟩) ?_)
 refine AW.cond (b:=(!(decide (x197 < 0)))) rfl (fun hc=>?_) (fun hc=>?_)
 replace hH:=condT hc hH
 refine AW.region (AO.pu T ?_)
 refine AO.val rfl rfl (arw_ok rfl rfl rfl rfl) ?_
 refine AO.pu T ?_
 refine AO.nil ?_
 refine ⟨(k175,w64 ((IntKind.wrap .i64 ((IntKind.wrap .u64 (w64 (v190+v191))).fdiv (2 ^ 1)))+1),v191),hH,Nat.lt_succ_self _,?_⟩
 exact Le.cut 0 0 rfl ⟨⟨_,rfl,rfl⟩,⟨_,rfl,rfl⟩,⟨_,rfl,rfl⟩,⟨_,rfl,rfl⟩,⟨_,rfl,ren_fF cmp_r⟩,⟨_,rfl,rfl⟩,⟨_,rfl,rfl⟩,⟨_,rfl,rfl⟩,⟨_,rfl,rfl⟩,⟨_,rfl,rfl⟩,trivial⟩ (by repeat' (first | exact trivial | refine ⟨⟨_,rfl,rfl⟩,?_⟩)) (andT (allC rfl (allC rfl (allC rfl (allC rfl (allC (known_fF cmp_r) (allC rfl (allC rfl (allC rfl (allC rfl (allC rfl allN)))))))))) rfl) ⟨⟨rfl,rfl⟩,trivial⟩
 replace hH:=condF hc hH
 refine AW.region ?_
 iterate 2 refine AO.pu T ?_
 refine AO.nil ?_
 refine ⟨(k175,v190,IntKind.wrap .i64 ((IntKind.wrap .u64 (w64 (v190+v191))).fdiv (2 ^ 1))),hH,Nat.lt_succ_self _,?_⟩
 exact Le.cut 0 0 rfl ⟨⟨_,rfl,rfl⟩,⟨_,rfl,rfl⟩,⟨_,rfl,rfl⟩,⟨_,rfl,rfl⟩,⟨_,rfl,ren_fF cmp_r⟩,⟨_,rfl,rfl⟩,⟨_,rfl,rfl⟩,⟨_,rfl,rfl⟩,⟨_,rfl,rfl⟩,⟨_,rfl,rfl⟩,trivial⟩ (by repeat' (first | exact trivial | refine ⟨⟨_,rfl,rfl⟩,?_⟩)) (andT (allC rfl (allC rfl (allC rfl (allC rfl (allC (known_fF cmp_r) (allC rfl (allC rfl (allC rfl (allC rfl (allC rfl allN)))))))))) rfl) ⟨⟨rfl,rfl⟩,trivial⟩
 replace hH:=condF hc hH
 refine AW.exit ?_
 refine ⟨_,someE hH,?_⟩
 exact Le.cut 0 0 rfl ⟨⟨_,rfl,rfl⟩,⟨_,rfl,rfl⟩,⟨_,rfl,rfl⟩,⟨_,rfl,rfl⟩,⟨_,rfl,ren_fF cmp_r⟩,⟨_,rfl,rfl⟩,⟨_,rfl,rfl⟩,⟨_,rfl,rfl⟩,trivial⟩ (by repeat' (first | exact trivial | refine ⟨⟨_,rfl,rfl⟩,?_⟩)) (andT (allC rfl (allC rfl (allC rfl (allC rfl (allC (known_fF cmp_r) (allC rfl (allC rfl (allC rfl allN)))))))) rfl) ⟨⟨rfl,rfl⟩,trivial⟩
 rintro v172 hs
 subst hs
 replace hH:=hK174
 try dsimp only [flow,flowE] at hH
 try dsimp only
 refine AW.seq (AW.region ?_)
 iterate 2 refine AO.pu T ?_
 refine AO.val rfl rfl (arw_ok rfl rfl rfl rfl) ?_
 refine AO.pu T ?_
 refine AO.nil ?_
 iterate 2 refine AW.seq ?_
 refine AW.region ?_
 iterate 4 refine AO.pu T ?_
 iterate 2 refine AO.pureG T [] rfl trivial rfl rfl ?_
 refine AO.pureG T [182,183] rfl ⟨fun h=>h,fun h=>h,trivial⟩ rfl rfl ?_
 refine AO.val rfl rfl (pick_and rfl rfl rfl rfl) ?_
 refine AO.nil (AW.cond (b:=(decide (v172 < m) && decide (m < (w64 ((w64 ((IntKind.wrap .i64 ((IntKind.wrap .u64 (w64 (a+b))).fdiv (2 ^ 1)))+m)) - v172))))) rfl (fun hc=>?_) (fun hc=>?_))
 replace hH:=condT hc hH
 obtain ⟨x199,hx200,hH⟩:=bindE hH
 refine AW.region ?_
 iterate 5 refine AO.pu T ?_
 refine AO.step rfl (callM_ok rfl 2 rfl rfl (es:=[.w 3 (data.map encRank),.v (.int .i64 v172),.v (.int .i64 m),.v (.int .i64 (w64 ((w64 ((IntKind.wrap .i64 ((IntKind.wrap .u64 (w64 (a+b))).fdiv (2 ^ 1)))+m)) - v172))),.f cmp_f cmp_c]) (outs:=[.w 3 (x199.map encRank),.u,.u,.u,.u]) (ids:=[1]) (by exact expLG_cons (.c (.rowR rfl)) (expLG_cons (.c .v) (expLG_cons (.c .v) (expLG_cons (.c .v) (expLG_cons (.c (.f cmp_r)) (expLG_nil)))))) (by decide) (.inl (by rfl)) (by rfl) (slices_rotateCmpFunc_Rank_ok fuel _ _ _ _ cmp_f cmp_c cmp_k cmp cmp_h _ (hx200)) rfl (by rfl) rfl) ?_
 refine AO.nil ?_
 iterate 2 refine AW.seq ?_
 refine AW.region ?_
 iterate 4 refine AO.pu T ?_
 iterate 2 refine AO.pureG T [] rfl trivial rfl rfl ?_
 refine AO.pureG T [196,197] rfl ⟨fun h=>h,fun h=>h,trivial⟩ rfl rfl ?_
 refine AO.val rfl rfl (pick_and rfl rfl rfl rfl) ?_
 refine AO.nil (AW.le (Le.cut 0 0 (σ':=(⟨[(0,.R 1),(1,a),(3,b),(4,.f cmp_f cmp_c),(18,(IntKind.wrap .i64 ((IntKind.wrap .u64 (w64 (a+b))).fdiv (2 ^ 1)):Int)),(20,v172),(24,w64 ((w64 ((IntKind.wrap .i64 ((IntKind.wrap .u64 (w64 (a+b))).fdiv (2 ^ 1)))+m)) - v172)),(199,.v (.bool (decide (a < v172) && decide (v172 < (IntKind.wrap .i64 ((IntKind.wrap .u64 (w64 (a+b))).fdiv (2 ^ 1)))))))],[(1,.row 3 (List.map encRank x199))],220,[(1,L 1)]⟩:St)) rfl ⟨⟨_,rfl,rfl⟩,⟨_,rfl,rfl⟩,⟨_,rfl,rfl⟩,⟨_,rfl,ren_fF cmp_r⟩,⟨_,rfl,rfl⟩,⟨_,rfl,rfl⟩,⟨_,rfl,rfl⟩,⟨_,rfl,rfl⟩,trivial⟩ (by repeat' (first | exact trivial | refine ⟨⟨_,rfl,rfl⟩,?_⟩)) (andT (allC rfl (allC rfl (allC rfl (allC (known_fF cmp_r) (allC rfl (allC rfl (allC rfl (allC rfl allN)))))))) rfl) ⟨⟨rfl,rfl⟩,trivial⟩) ?_)
 refine AW.cond (b:=(decide (a < v172) && decide (v172 < (IntKind.wrap .i64 ((IntKind.wrap .u64 (w64 (a+b))).fdiv (2 ^ 1)))))) rfl (fun hc=>?_) (fun hc=>?_)
 replace hH:=condT hc hH
 obtain ⟨x201,hx202,hH⟩:=bindE hH
 refine AW.region ?_
 iterate 5 refine AO.pu T ?_
 refine AO.step rfl (callM_ok rfl 2 rfl rfl (es:=[.w 3 (x199.map encRank),.v (.int .i64 a),.v (.int .i64 v172),.v (.int .i64 (IntKind.wrap .i64 ((IntKind.wrap .u64 (w64 (a+b))).fdiv (2 ^ 1)))),.f cmp_f cmp_c]) (outs:=[.w 3 (x201.map encRank),.u,.u,.u,.u]) (ids:=[1]) (by exact expLG_cons (.c (.rowR rfl)) (expLG_cons (.c .v) (expLG_cons (.c .v) (expLG_cons (.c .v) (expLG_cons (.c (.f cmp_r)) (expLG_nil)))))) (by decide) (.inl (by rfl)) (by rfl) (ih _ _ _ _ cmp_f cmp_c cmp_k cmp cmp_h _ (hx202)) rfl (by rfl) rfl) ?_
 refine AO.nil (AW.seq (AW.region ?_))
 iterate 4 refine AO.pu T ?_
 iterate 2 refine AO.pureG T [] rfl trivial rfl rfl ?_
 refine AO.pureG T [210,211] rfl ⟨fun h=>h,fun h=>h,trivial⟩ rfl rfl ?_
 refine AO.val rfl rfl (pick_and rfl rfl rfl rfl) ?_
 refine AO.nil (AW.cond (b:=(decide ((IntKind.wrap .i64 ((IntKind.wrap .u64 (w64 (a+b))).fdiv (2 ^ 1))) < (w64 ((w64 ((IntKind.wrap .i64 ((IntKind.wrap .u64 (w64 (a+b))).fdiv (2 ^ 1)))+m)) - v172))) && decide ((w64 ((w64 ((IntKind.wrap .i64 ((IntKind.wrap .u64 (w64 (a+b))).fdiv (2 ^ 1)))+m)) - v172)) < b))) rfl (fun hc=>?_) (fun hc=>?_))
 replace hH:=condT hc hH
 obtain ⟨x203,hx204,hH⟩:=bindE hH
 refine AW.region ?_
 iterate 5 refine AO.pu T ?_
 refine AO.step rfl (callM_ok rfl 2 rfl rfl (es:=[.w 3 (x201.map encRank),.v (.int .i64 (IntKind.wrap .i64 ((IntKind.wrap .u64 (w64 (a+b))).fdiv (2 ^ 1)))),.v (.int .i64 (w64 ((w64 ((IntKind.wrap .i64 ((IntKind.wrap .u64 (w64 (a+b))).fdiv (2 ^ 1)))+m)) - v172))),.v (.int .i64 b),.f cmp_f cmp_c]) (outs:=[.w 3 (x203.map encRank),.u,.u,.u,.u]) (ids:=[1]) (by exact expLG_cons (.c (.rowR rfl)) (expLG_cons (.c .v) (expLG_cons (.c .v) (expLG_cons (.c .v) (expLG_cons (.c (.f cmp_r)) (expLG_nil)))))) (by decide) (.inl (by rfl)) (by rfl) (ih _ _ _ _ cmp_f cmp_c cmp_k cmp cmp_h _ (hx204)) rfl (by rfl) rfl) ?_
 refine AO.nil ?_
 have hR:=someE hH;subst hR
 exact ⟨trivial,rfl,_,[],[1],rfl,expLG_cons (.c (.rowR rfl)) (expLG_cons (.c .u) (expLG_cons (.c .u) (expLG_cons (.c .u) (expLG_cons (.c .u) (expLG_nil))))),.t expLG_nil,by decide⟩
 replace hH:=condF hc hH
 refine AW.skip ?_
 have hR:=someE hH;subst hR
 exact ⟨trivial,rfl,_,[],[1],rfl,expLG_cons (.c (.rowR rfl)) (expLG_cons (.c .u) (expLG_cons (.c .u) (expLG_cons (.c .u) (expLG_cons (.c .u) (expLG_nil))))),.t expLG_nil,by decide⟩
 replace hH:=condF hc hH
 refine AW.skip (AW.seq (AW.region ?_))
 iterate 4 refine AO.pu T ?_
 iterate 2 refine AO.pureG T [] rfl trivial rfl rfl ?_
 refine AO.pureG T [210,211] rfl ⟨fun h=>h,fun h=>h,trivial⟩ rfl rfl ?_
 refine AO.val rfl rfl (pick_and rfl rfl rfl rfl) ?_
 refine AO.nil (AW.cond (b:=(decide ((IntKind.wrap .i64 ((IntKind.wrap .u64 (w64 (a+b))).fdiv (2 ^ 1))) < (w64 ((w64 ((IntKind.wrap .i64 ((IntKind.wrap .u64 (w64 (a+b))).fdiv (2 ^ 1)))+m)) - v172))) && decide ((w64 ((w64 ((IntKind.wrap .i64 ((IntKind.wrap .u64 (w64 (a+b))).fdiv (2 ^ 1)))+m)) - v172)) < b))) rfl (fun hc=>?_) (fun hc=>?_))
 replace hH:=condT hc hH
 obtain ⟨x205,hx206,hH⟩:=bindE hH
 refine AW.region ?_
 iterate 5 refine AO.pu T ?_
 refine AO.step rfl (callM_ok rfl 2 rfl rfl (es:=[.w 3 (x199.map encRank),.v (.int .i64 (IntKind.wrap .i64 ((IntKind.wrap .u64 (w64 (a+b))).fdiv (2 ^ 1)))),.v (.int .i64 (w64 ((w64 ((IntKind.wrap .i64 ((IntKind.wrap .u64 (w64 (a+b))).fdiv (2 ^ 1)))+m)) - v172))),.v (.int .i64 b),.f cmp_f cmp_c]) (outs:=[.w 3 (x205.map encRank),.u,.u,.u,.u]) (ids:=[1]) (by exact expLG_cons (.c (.rowR rfl)) (expLG_cons (.c .v) (expLG_cons (.c .v) (expLG_cons (.c .v) (expLG_cons (.c (.f cmp_r)) (expLG_nil)))))) (by decide) (.inl (by rfl)) (by rfl) (ih _ _ _ _ cmp_f cmp_c cmp_k cmp cmp_h _ (hx206)) rfl (by rfl) rfl) ?_
 refine AO.nil ?_
 have hR:=someE hH;subst hR
 exact ⟨trivial,rfl,_,[],[1],rfl,expLG_cons (.c (.rowR rfl)) (expLG_cons (.c .u) (expLG_cons (.c .u) (expLG_cons (.c .u) (expLG_cons (.c .u) (expLG_nil))))),.t expLG_nil,by decide⟩
 replace hH:=condF hc hH
 refine AW.skip ?_
 have hR:=someE hH;subst hR
 exact ⟨trivial,rfl,_,[],[1],rfl,expLG_cons (.c (.rowR rfl)) (expLG_cons (.c .u) (expLG_cons (.c .u) (expLG_cons (.c .u) (expLG_cons (.c .u) (expLG_nil))))),.t expLG_nil,by decide⟩
 replace hH:=condF hc hH
 refine AW.skip ?_
 iterate 2 refine AW.seq ?_
 refine AW.region ?_
 iterate 4 refine AO.pu T ?_
 iterate 2 refine AO.pureG T [] rfl trivial rfl rfl ?_
 refine AO.pureG T [196,197] rfl ⟨fun h=>h,fun h=>h,trivial⟩ rfl rfl ?_
 refine AO.val rfl rfl (pick_and rfl rfl rfl rfl) ?_
 refine AO.nil (AW.cond (b:=(decide (a < v172) && decide (v172 < (IntKind.wrap .i64 ((IntKind.wrap .u64 (w64 (a+b))).fdiv (2 ^ 1)))))) rfl (fun hc=>?_) (fun hc=>?_))
 replace hH:=condT hc hH
 obtain ⟨x207,hx208,hH⟩:=bindE hH
 refine AW.region ?_
 iterate 5 refine AO.pu T ?_
 refine AO.step rfl (callM_ok rfl 2 rfl rfl (es:=[.w 3 (data.map encRank),.v (.int .i64 a),.v (.int .i64 v172),.v (.int .i64 (IntKind.wrap .i64 ((IntKind.wrap .u64 (w64 (a+b))).fdiv (2 ^ 1)))),.f cmp_f cmp_c]) (outs:=[.w 3 (x207.map encRank),.u,.u,.u,.u]) (ids:=[1]) (by exact expLG_cons (.c (.rowR rfl)) (expLG_cons (.c .v) (expLG_cons (.c .v) (expLG_cons (.c .v) (expLG_cons (.c (.f cmp_r)) (expLG_nil)))))) (by decide) (.inl (by rfl)) (by rfl) (ih _ _ _ _ cmp_f cmp_c cmp_k cmp cmp_h _ (hx208)) rfl (by rfl) rfl) ?_
 refine AO.nil (AW.le (Le.cut 0 0 (σ':=(⟨[(0,.R 1),(3,b),(4,.f cmp_f cmp_c),(18,(IntKind.wrap .i64 ((IntKind.wrap .u64 (w64 (a+b))).fdiv (2 ^ 1)):Int)),(24,w64 ((w64 ((IntKind.wrap .i64 ((IntKind.wrap .u64 (w64 (a+b))).fdiv (2 ^ 1)))+m)) - v172))],[(1,.row 3 (List.map encRank x207))],220,[(1,L 1)]⟩:St)) rfl ⟨⟨_,rfl,rfl⟩,⟨_,rfl,rfl⟩,⟨_,rfl,ren_fF cmp_r⟩,⟨_,rfl,rfl⟩,⟨_,rfl,rfl⟩,trivial⟩ (by repeat' (first | exact trivial | refine ⟨⟨_,rfl,rfl⟩,?_⟩)) (andT (allC rfl (allC rfl (allC (known_fF cmp_r) (allC rfl (allC rfl allN))))) rfl) ⟨⟨rfl,rfl⟩,trivial⟩) ?_)
 refine AW.seq (AW.region ?_)
 iterate 4 refine AO.pu T ?_
 iterate 2 refine AO.pureG T [] rfl trivial rfl rfl ?_
 refine AO.pureG T [210,211] rfl ⟨fun h=>h,fun h=>h,trivial⟩ rfl rfl ?_
 refine AO.val rfl rfl (pick_and rfl rfl rfl rfl) ?_
 refine AO.nil (AW.cond (b:=(decide ((IntKind.wrap .i64 ((IntKind.wrap .u64 (w64 (a+b))).fdiv (2 ^ 1))) < (w64 ((w64 ((IntKind.wrap .i64 ((IntKind.wrap .u64 (w64 (a+b))).fdiv (2 ^ 1)))+m)) - v172))) && decide ((w64 ((w64 ((IntKind.wrap .i64 ((IntKind.wrap .u64 (w64 (a+b))).fdiv (2 ^ 1)))+m)) - v172)) < b))) rfl (fun hc=>?_) (fun hc=>?_))
 replace hH:=condT hc hH
 obtain ⟨x209,hx210,hH⟩:=bindE hH
 refine AW.region ?_
 iterate 5 refine AO.pu T ?_
 refine AO.step rfl (callM_ok rfl 2 rfl rfl (es:=[.w 3 (x207.map encRank),.v (.int .i64 (IntKind.wrap .i64 ((IntKind.wrap .u64 (w64 (a+b))).fdiv (2 ^ 1)))),.v (.int .i64 (w64 ((w64 ((IntKind.wrap .i64 ((IntKind.wrap .u64 (w64 (a+b))).fdiv (2 ^ 1)))+m)) - v172))),.v (.int .i64 b),.f cmp_f cmp_c]) (outs:=[.w 3 (x209.map encRank),.u,.u,.u,.u]) (ids:=[1]) (by exact expLG_cons (.c (.rowR rfl)) (expLG_cons (.c .v) (expLG_cons (.c .v) (expLG_cons (.c .v) (expLG_cons (.c (.f cmp_r)) (expLG_nil)))))) (by decide) (.inl (by rfl)) (by rfl) (ih _ _ _ _ cmp_f cmp_c cmp_k cmp cmp_h _ (hx210)) rfl (by rfl) rfl) ?_
 refine AO.nil ?_
 have hR:=someE hH;subst hR
 exact ⟨trivial,rfl,_,[],[1],rfl,expLG_cons (.c (.rowR rfl)) (expLG_cons (.c .u) (expLG_cons (.c .u) (expLG_cons (.c .u) (expLG_cons (.c .u) (expLG_nil))))),.t expLG_nil,by decide⟩
 replace hH:=condF hc hH
 refine AW.skip ?_
 have hR:=someE hH;subst hR
 exact ⟨trivial,rfl,_,[],[1],rfl,expLG_cons (.c (.rowR rfl)) (expLG_cons (.c .u) (expLG_cons (.c .u) (expLG_cons (.c .u) (expLG_cons (.c .u) (expLG_nil))))),.t expLG_nil,by decide⟩
 replace hH:=condF hc hH
 refine AW.skip (AW.seq (AW.region ?_))
 iterate 4 refine AO.pu T ?_
 iterate 2 refine AO.pureG T [] rfl trivial rfl rfl ?_
 refine AO.pureG T [210,211] rfl ⟨fun h=>h,fun h=>h,trivial⟩ rfl rfl ?_
 refine AO.val rfl rfl (pick_and rfl rfl rfl rfl) ?_
 refine AO.nil (AW.le (Le.cut 0 0 (σ':=(⟨[(0,.R 1),(3,b),(4,.f cmp_f cmp_c),(18,(IntKind.wrap .i64 ((IntKind.wrap .u64 (w64 (a+b))).fdiv (2 ^ 1)):Int)),(24,w64 ((w64 ((IntKind.wrap .i64 ((IntKind.wrap .u64 (w64 (a+b))).fdiv (2 ^ 1)))+m)) - v172)),(213,.v (.bool (decide ((IntKind.wrap .i64 ((IntKind.wrap .u64 (w64 (a+b))).fdiv (2 ^ 1))) < (w64 ((w64 ((IntKind.wrap .i64 ((IntKind.wrap .u64 (w64 (a+b))).fdiv (2 ^ 1)))+m)) - v172))) && decide ((w64 ((w64 ((IntKind.wrap .i64 ((IntKind.wrap .u64 (w64 (a+b))).fdiv (2 ^ 1)))+m)) - v172)) < b))))],[(1,.row 3 (List.map encRank data))],220,[(1,L 1)]⟩:St)) rfl ⟨⟨_,rfl,rfl⟩,⟨_,rfl,rfl⟩,⟨_,rfl,ren_fF cmp_r⟩,⟨_,rfl,rfl⟩,⟨_,rfl,rfl⟩,⟨_,rfl,rfl⟩,trivial⟩ (by repeat' (first | exact trivial | refine ⟨⟨_,rfl,rfl⟩,?_⟩)) (andT (allC rfl (allC rfl (allC (known_fF cmp_r) (allC rfl (allC rfl (allC rfl allN)))))) rfl) ⟨⟨rfl,rfl⟩,trivial⟩) ?_)
 refine AW.cond (b:=(decide ((IntKind.wrap .i64 ((IntKind.wrap .u64 (w64 (a+b))).fdiv (2 ^ 1))) < (w64 ((w64 ((IntKind.wrap .i64 ((IntKind.wrap .u64 (w64 (a+b))).fdiv (2 ^ 1)))+m)) - v172))) && decide ((w64 ((w64 ((IntKind.wrap .i64 ((IntKind.wrap .u64 (w64 (a+b))).fdiv (2 ^ 1)))+m)) - v172)) < b))) rfl (fun hc=>?_) (fun hc=>?_)
 replace hH:=condT hc hH
 obtain ⟨x211,hx212,hH⟩:=bindE hH
 refine AW.region ?_
 iterate 5 refine AO.pu T ?_
 refine AO.step rfl (callM_ok rfl 2 rfl rfl (es:=[.w 3 (data.map encRank),.v (.int .i64 (IntKind.wrap .i64 ((IntKind.wrap .u64 (w64 (a+b))).fdiv (2 ^ 1)))),.v (.int .i64 (w64 ((w64 ((IntKind.wrap .i64 ((IntKind.wrap .u64 (w64 (a+b))).fdiv (2 ^ 1)))+m)) - v172))),.v (.int .i64 b),.f cmp_f cmp_c]) (outs:=[.w 3 (x211.map encRank),.u,.u,.u,.u]) (ids:=[1]) (by exact expLG_cons (.c (.rowR rfl)) (expLG_cons (.c .v) (expLG_cons (.c .v) (expLG_cons (.c .v) (expLG_cons (.c (.f cmp_r)) (expLG_nil)))))) (by decide) (.inl (by rfl)) (by rfl) (ih _ _ _ _ cmp_f cmp_c cmp_k cmp cmp_h _ (hx212)) rfl (by rfl) rfl) ?_
 refine AO.nil ?_
 have hR:=someE hH;subst hR
 exact ⟨trivial,rfl,_,[],[1],rfl,expLG_cons (.c (.rowR rfl)) (expLG_cons (.c .u) (expLG_cons (.c .u) (expLG_cons (.c .u) (expLG_cons (.c .u) (expLG_nil))))),.t expLG_nil,by decide⟩
 replace hH:=condF hc hH
 refine AW.skip ?_
 have hR:=someE hH;subst hR
 exact ⟨trivial,rfl,_,[],[1],rfl,expLG_cons (.c (.rowR rfl)) (expLG_cons (.c .u) (expLG_cons (.c .u) (expLG_cons (.c .u) (expLG_cons (.c .u) (expLG_nil))))),.t expLG_nil,by decide⟩
 replace hH:=condF hc hH
 refine AW.seq (AW.region ?_)
 iterate 2 refine AO.pu T ?_
 refine AO.nil (AW.region ?_)
 iterate 2 refine AO.pu T ?_
 refine AO.nil (AW.seq (AW.region ?_))
 refine AO.pu T ?_
 refine AO.val rfl rfl (arw_ok rfl rfl rfl rfl) ?_
 refine AO.pu T ?_
 refine AO.nil ?_
 obtain ⟨o237,hH,hK238⟩:=bindE hH
 refine AW.seqJ (fun s:Int=>(⟨[(0,.R 1),(1,a),(2,m),(3,b),(4,.f cmp_f cmp_c),(18,(IntKind.wrap .i64 ((IntKind.wrap .u64 (w64 (a+b))).fdiv (2 ^ 1)):Int)),(19,w64 ((IntKind.wrap .i64 ((IntKind.wrap .u64 (w64 (a+b))).fdiv (2 ^ 1)))+m)),(20,s)],[(1,.row 3 (List.map encRank data))],220,[(1,L 1)]⟩:St)) (fun s=>s=o237) ?_ ?_
 refine AW.block (AW.loopS (fun s:Nat × Int × Int=>(⟨[(0,.R 1),(1,a),(2,m),(3,b),(4,.f cmp_f cmp_c),(18,(IntKind.wrap .i64 ((IntKind.wrap .u64 (w64 (a+b))).fdiv (2 ^ 1)):Int)),(19,w64 ((IntKind.wrap .i64 ((IntKind.wrap .u64 (w64 (a+b))).fdiv (2 ^ 1)))+m)),(20,s.2.1),(21,s.2.2),(22,w64 ((w64 ((IntKind.wrap .i64 ((IntKind.wrap .u64 (w64 (a+b))).fdiv (2 ^ 1)))+m)) - 1))],[(1,.row 3 (List.map encRank data))],220,[(1,L 1)]⟩:St)) (fun s=>slices_symMergeCmpFunc_Rank_l6 data a m b cmp s.1 s.2.1 s.2.2=some o237) (fun s=>s.1) (fuel,a,m) hH ?_ ?_)
 exact Le.cut 0 0 rfl ⟨⟨_,rfl,rfl⟩,⟨_,rfl,rfl⟩,⟨_,rfl,rfl⟩,⟨_,rfl,rfl⟩,⟨_,rfl,ren_fF cmp_r⟩,⟨_,rfl,rfl⟩,⟨_,rfl,rfl⟩,⟨_,rfl,rfl⟩,⟨_,rfl,rfl⟩,⟨_,rfl,rfl⟩,trivial⟩ (by repeat' (first | exact trivial | refine ⟨⟨_,rfl,rfl⟩,?_⟩)) (andT (allC rfl (allC rfl (allC rfl (allC rfl (allC (known_fF cmp_r) (allC rfl (allC rfl (allC rfl (allC rfl (allC rfl allN)))))))))) rfl) ⟨⟨rfl,rfl⟩,trivial⟩
 rintro ⟨k239,v254,v255⟩ hH
 replace hH:slices_symMergeCmpFunc_Rank_l6 data a m b cmp k239 v254 v255=some o237:=hH
 try dsimp only
 rcases k239 with _ | k239
 cases (show none=some _ from hH)
 rw [slices_symMergeCmpFunc_Rank_l6] at hH
 iterate 2 refine AW.seq ?_
 refine AW.region ?_
 iterate 3 refine AO.pu T ?_
 refine AO.nil (AW.cond (b:=decide (v254 < v255)) rfl (fun hc=>?_) (fun hc=>?_))
 replace hH:=condT hc hH
 refine AW.skip (AW.block ?_)
 refine AW.seq (AW.region ?_)
 iterate 2 refine AO.pu T ?_
 refine AO.val rfl rfl (arw_ok rfl rfl rfl rfl) ?_
 refine AO.val rfl rfl (convw_ok T rfl rfl rfl rfl) ?_
 refine AO.val rfl rfl (shr_ok rfl rfl rfl rfl rfl) ?_
 refine AO.val rfl rfl (convw_ok T rfl rfl rfl rfl) ?_
 refine AO.pu T ?_
 refine AO.nil (AW.seq ?_)
 obtain ⟨x257,hx258,hH⟩:=bindE hH
 obtain ⟨x259,hx260,hH⟩:=bindE hH
 obtain ⟨x261,hx262,hH⟩:=bindE hH
 refine AW.drawn 11 2 [] mix (by kernel_rfl) rfl ?_
 iterate 4 refine AD.pure T rfl rfl rfl ?_
 refine AD.val rfl rfl (arw_ok rfl rfl rfl rfl) ?_
 refine AD.val rfl rfl (ix_row_ok T rfl rfl rfl rfl rfl rfl (hx258)) ?_
 refine AD.val rfl rfl (load_row_ok T rfl rfl rfl rfl (getI_get (hx258)) rfl rfl rfl) ?_
 iterate 2 refine AD.pure T rfl rfl rfl ?_
 refine AD.val rfl rfl (ix_row_ok T rfl rfl rfl rfl rfl rfl (hx260)) ?_
 refine AD.val rfl rfl (load_row_ok T rfl rfl rfl rfl (getI_get (hx260)) rfl rfl rfl) ?_
 refine AD.nil (AO.val rfl rfl (callV_ok rfl rfl rfl (andT rfl (free_cfree cmp_r)) (cmp_h _ _ _ (hx262)) rfl) ?_)
 iterate 2 refine AO.pu T ?_
 refine AO.nil (AW.le (Le.cut 0 0 (σ':=(⟨[(0,.R 1),(1,a),(2,m),(3,b),(4,.f cmp_f cmp_c),(18,(IntKind.wrap .i64 ((IntKind.wrap .u64 (w64 (a+b))).fdiv (2 ^ 1)):Int)),(19,w64 ((IntKind.wrap .i64 ((IntKind.wrap .u64 (w64 (a+b))).fdiv (2 ^ 1)))+m)),(20,v254),(21,v255),(22,w64 ((w64 ((IntKind.wrap .i64 ((IntKind.wrap .u64 (w64 (a+b))).fdiv (2 ^ 1)))+m)) - 1)),(23,(IntKind.wrap .i64 ((IntKind.wrap .u64 (w64 (v254+v255))).fdiv (2 ^ 1)):Int)),(171,.v (.bool (!(decide (x261 < 0)))))],[(1,.row 3 (List.map encRank data))],220,[(1,L 1)]⟩:St)) rfl ⟨⟨_,rfl,rfl⟩,⟨_,rfl,rfl⟩,⟨_,rfl,rfl⟩,⟨_,rfl,rfl⟩,⟨_,rfl,ren_fF cmp_r⟩,⟨_,rfl,rfl⟩,⟨_,rfl,rfl⟩,⟨_,rfl,rfl⟩,⟨_,rfl,rfl⟩,⟨_,rfl,rfl⟩,⟨_,rfl,rfl⟩,⟨_,rfl,rfl⟩,trivial⟩ (by repeat' (first | exact trivial | refine ⟨⟨_,rfl,rfl⟩,?_⟩)) (andT (allC rfl (allC rfl (allC rfl (allC rfl (allC (known_fF cmp_r) (allC rfl (allC rfl (allC rfl (allC rfl (allC rfl (allC rfl (allC rfl allN)))))))))))) rfl) ⟨⟨rfl,rfl⟩,trivial⟩) ?_)
 refine AW.cond (b:=(!(decide (x261 < 0)))) rfl (fun hc=>?_) (fun hc=>?_)
 replace hH:=condT hc hH
 refine AW.region (AO.pu T ?_)
 refine AO.val rfl rfl (arw_ok rfl rfl rfl rfl) ?_
 refine AO.pu T ?_
 refine AO.nil ?_
 refine ⟨(k239,w64 ((IntKind.wrap .i64 ((IntKind.wrap .u64 (w64 (v254+v255))).fdiv (2 ^ 1)))+1),v255),hH,Nat.lt_succ_self _,?_⟩
 exact Le.cut 0 0 rfl ⟨⟨_,rfl,rfl⟩,⟨_,rfl,rfl⟩,⟨_,rfl,rfl⟩,⟨_,rfl,rfl⟩,⟨_,rfl,ren_fF cmp_r⟩,⟨_,rfl,rfl⟩,⟨_,rfl,rfl⟩,⟨_,rfl,rfl⟩,⟨_,rfl,rfl⟩,⟨_,rfl,rfl⟩,trivial⟩ (by repeat' (first | exact trivial | refine ⟨⟨_,rfl,rfl⟩,?_⟩)) (andT (allC rfl (allC rfl (allC rfl (allC rfl (allC (known_fF cmp_r) (allC rfl (allC rfl (allC rfl (allC rfl (allC rfl allN)))))))))) rfl) ⟨⟨rfl,rfl⟩,trivial⟩
 replace hH:=condF hc hH
 refine AW.region ?_
 iterate 2 refine AO.pu T ?_
 refine AO.nil ?_
 refine ⟨(k239,v254,IntKind.wrap .i64 ((IntKind.wrap .u64 (w64 (v254+v255))).fdiv (2 ^ 1))),hH,Nat.lt_succ_self _,?_⟩
 exact Le.cut 0 0 rfl ⟨⟨_,rfl,rfl⟩,⟨_,rfl,rfl⟩,⟨_,rfl,rfl⟩,⟨_,rfl,rfl⟩,⟨_,rfl,ren_fF cmp_r⟩,⟨_,rfl,rfl⟩,⟨_,rfl,rfl⟩,⟨_,rfl,rfl⟩,⟨_,rfl,rfl⟩,⟨_,rfl,rfl⟩,trivial⟩ (by repeat' (first | exact trivial | refine ⟨⟨_,rfl,rfl⟩,?_⟩)) (andT (allC rfl (allC rfl (allC rfl (allC rfl (allC (known_fF cmp_r) (allC rfl (allC rfl (allC rfl (allC rfl (allC rfl allN)))))))))) rfl) ⟨⟨rfl,rfl⟩,trivial⟩
 replace hH:=condF hc hH
 refine AW.exit ?_
 refine ⟨_,someE hH,?_⟩
 exact Le.cut 0 0 rfl ⟨⟨_,rfl,rfl⟩,⟨_,rfl,rfl⟩,⟨_,rfl,rfl⟩,⟨_,rfl,rfl⟩,⟨_,rfl,ren_fF cmp_r⟩,⟨_,rfl,rfl⟩,⟨_,rfl,rfl⟩,⟨_,rfl,rfl⟩,trivial⟩ (by repeat' (first | exact trivial | refine ⟨⟨_,rfl,rfl⟩,?_⟩)) (andT (allC rfl (allC rfl (allC rfl (allC rfl (allC (known_fF cmp_r) (allC rfl (allC rfl (allC rfl allN)))))))) rfl) ⟨⟨rfl,rfl⟩,trivial⟩
 rintro v236 hs
 subst hs
 replace hH:=hK238
 try dsimp only [flow,flowE] at hH
 try dsimp only
 refine AW.seq (AW.region ?_)
 iterate 2 refine AO.pu T ?_
 refine AO.val rfl rfl (arw_ok rfl rfl rfl rfl) ?_
 refine AO.pu T ?_
 refine AO.nil ?_
 iterate 2 refine AW.seq ?_
 refine AW.region ?_
 iterate 4 refine AO.pu T ?_
 iterate 2 refine AO.pureG T [] rfl trivial rfl rfl ?_
 refine AO.pureG T [182,183] rfl ⟨fun h=>h,fun h=>h,trivial⟩ rfl rfl ?_
 refine AO.val rfl rfl (pick_and rfl rfl rfl rfl) ?_
 refine AO.nil (AW.cond (b:=(decide (v236 < m) && decide (m < (w64 ((w64 ((IntKind.wrap .i64 ((IntKind.wrap .u64 (w64 (a+b))).fdiv (2 ^ 1)))+m)) - v236))))) rfl (fun hc=>?_) (fun hc=>?_))
 replace hH:=condT hc hH
 obtain ⟨x263,hx264,hH⟩:=bindE hH
 refine AW.region ?_
 iterate 5 refine AO.pu T ?_
 refine AO.step rfl (callM_ok rfl 2 rfl rfl (es:=[.w 3 (data.map encRank),.v (.int .i64 v236),.v (.int .i64 m),.v (.int .i64 (w64 ((w64 ((IntKind.wrap .i64 ((IntKind.wrap .u64 (w64 (a+b))).fdiv (2 ^ 1)))+m)) - v236))),.f cmp_f cmp_c]) (outs:=[.w 3 (x263.map encRank),.u,.u,.u,.u]) (ids:=[1]) (by exact expLG_cons (.c (.rowR rfl)) (expLG_cons (.c .v) (expLG_cons (.c .v) (expLG_cons (.c .v) (expLG_cons (.c (.f cmp_r)) (expLG_nil)))))) (by decide) (.inl (by rfl)) (by rfl) (slices_rotateCmpFunc_Rank_ok fuel _ _ _ _ cmp_f cmp_c cmp_k cmp cmp_h _ (hx264)) rfl (by rfl) rfl) ?_
 refine AO.nil ?_
 iterate 2 refine AW.seq ?_
 refine AW.region ?_
 iterate 4 refine AO.pu T ?_
 iterate 2 refine AO.pureG T [] rfl trivial rfl rfl ?_
 refine AO.pureG T [196,197] rfl ⟨fun h=>h,fun h=>h,trivial⟩ rfl rfl ?_
 refine AO.val rfl rfl (pick_and rfl rfl rfl rfl) ?_
 refine AO.nil (AW.le (Le.cut 0 0 (σ':=(⟨[(0,.R 1),(1,a),(3,b),(4,.f cmp_f cmp_c),(18,(IntKind.wrap .i64 ((IntKind.wrap .u64 (w64 (a+b))).fdiv (2 ^ 1)):Int)),(20,v236),(24,w64 ((w64 ((IntKind.wrap .i64 ((IntKind.wrap .u64 (w64 (a+b))).fdiv (2 ^ 1)))+m)) - v236)),(199,.v (.bool (decide (a < v236) && decide (v236 < (IntKind.wrap .i64 ((IntKind.wrap .u64 (w64 (a+b))).fdiv (2 ^ 1)))))))],[(1,.row 3 (List.map encRank x263))],220,[(1,L 1)]⟩:St)) rfl ⟨⟨_,rfl,rfl⟩,⟨_,rfl,rfl⟩,⟨_,rfl,rfl⟩,⟨_,rfl,ren_fF cmp_r⟩,⟨_,rfl,rfl⟩,⟨_,rfl,rfl⟩,⟨_,rfl,rfl⟩,⟨_,rfl,rfl⟩,trivial⟩ (by repeat' (first | exact trivial | refine ⟨⟨_,rfl,rfl⟩,?_⟩)) (andT (allC rfl (allC rfl (allC rfl (allC (known_fF cmp_r) (allC rfl (allC rfl (allC rfl (allC rfl allN)))))))) rfl) ⟨⟨rfl,rfl⟩,trivial⟩) ?_)
 refine AW.cond (b:=(decide (a < v236) && decide (v236 < (IntKind.wrap .i64 ((IntKind.wrap .u64 (w64 (a+b))).fdiv (2 ^ 1)))))) rfl (fun hc=>?_) (fun hc=>?_)
 replace hH:=condT hc hH
 obtain ⟨x265,hx266,hH⟩:=bindE hH
 refine AW.region ?_
 iterate 5 refine AO.pu T ?_
 refine AO.step rfl (callM_ok rfl 2 rfl rfl (es:=[.w 3 (x263.map encRank),.v (.int .i64 a),.v (.int .i64 v236),.v (.int .i64 (IntKind.wrap .i64 ((IntKind.wrap .u64 (w64 (a+b))).fdiv (2 ^ 1)))),.f cmp_f cmp_c]) (outs:=[.w 3 (x265.map encRank),.u,.u,.u,.u]) (ids:=[1]) (by exact expLG_cons (.c (.rowR rfl)) (expLG_cons (.c .v) (expLG_cons (.c .v) (expLG_cons (.c .v) (expLG_cons (.c (.f cmp_r)) (expLG_nil)))))) (by decide) (.inl (by rfl)) (by rfl) (ih _ _ _ _ cmp_f cmp_c cmp_k cmp cmp_h _ (hx266)) rfl (by rfl) rfl) ?_
 refine AO.nil (AW.seq (AW.region ?_))
 iterate 4 refine AO.pu T ?_
 iterate 2 refine AO.pureG T [] rfl trivial rfl rfl ?_
 refine AO.pureG T [210,211] rfl ⟨fun h=>h,fun h=>h,trivial⟩ rfl rfl ?_
 refine AO.val rfl rfl (pick_and rfl rfl rfl rfl) ?_
 refine AO.nil (AW.cond (b:=(decide ((IntKind.wrap .i64 ((IntKind.wrap .u64 (w64 (a+b))).fdiv (2 ^ 1))) < (w64 ((w64 ((IntKind.wrap .i64 ((IntKind.wrap .u64 (w64 (a+b))).fdiv (2 ^ 1)))+m)) - v236))) && decide ((w64 ((w64 ((IntKind.wrap .i64 ((IntKind.wrap .u64 (w64 (a+b))).fdiv (2 ^ 1)))+m)) - v236)) < b))) rfl (fun hc=>?_) (fun hc=>?_))
 replace hH:=condT hc hH
 obtain ⟨x267,hx268,hH⟩:=bindE hH
 refine AW.region ?_
 iterate 5 refine AO.pu T ?_
 refine AO.step rfl (callM_ok rfl 2 rfl rfl (es:=[.w 3 (x265.map encRank),.v (.int .i64 (IntKind.wrap .i64 ((IntKind.wrap .u64 (w64 (a+b))).fdiv (2 ^ 1)))),.v (.int .i64 (w64 ((w64 ((IntKind.wrap .i64 ((IntKind.wrap .u64 (w64 (a+b))).fdiv (2 ^ 1)))+m)) - v236))),.v (.int .i64 b),.f cmp_f cmp_c]) (outs:=[.w 3 (x267.map encRank),.u,.u,.u,.u]) (ids:=[1]) (by exact expLG_cons (.c (.rowR rfl)) (expLG_cons (.c .v) (expLG_cons (.c .v) (expLG_cons (.c .v) (expLG_cons (.c (.f cmp_r)) (expLG_nil)))))) (by decide) (.inl (by rfl)) (by rfl) (ih _ _ _ _ cmp_f cmp_c cmp_k cmp cmp_h _ (hx268)) rfl (by rfl) rfl) ?_
 refine AO.nil ?_
 have hR:=someE hH;subst hR
 exact ⟨trivial,rfl,_,[],[1],rfl,expLG_cons (.c (.rowR rfl)) (expLG_cons (.c .u) (expLG_cons (.c .u) (expLG_cons (.c .u) (expLG_cons (.c .u) (expLG_nil))))),.t expLG_nil,by decide⟩
 replace hH:=condF hc hH
 refine AW.skip ?_
 have hR:=someE hH;subst hR
 exact ⟨trivial,rfl,_,[],[1],rfl,expLG_cons (.c (.rowR rfl)) (expLG_cons (.c .u) (expLG_cons (.c .u) (expLG_cons (.c .u) (expLG_cons (.c .u) (expLG_nil))))),.t expLG_nil,by decide⟩
 replace hH:=condF hc hH
 refine AW.skip (AW.seq (AW.region ?_))
 iterate 4 refine AO.pu T ?_
 iterate 2 refine AO.pureG T [] rfl trivial rfl rfl ?_
 refine AO.pureG T [210,211] rfl ⟨fun h=>h,fun h=>h,trivial⟩ rfl rfl ?_
 refine AO.val rfl rfl (pick_and rfl rfl rfl rfl) ?_
 refine AO.nil (AW.cond (b:=(decide ((IntKind.wrap .i64 ((IntKind.wrap .u64 (w64 (a+b))).fdiv (2 ^ 1))) < (w64 ((w64 ((IntKind.wrap .i64 ((IntKind.wrap .u64 (w64 (a+b))).fdiv (2 ^ 1)))+m)) - v236))) && decide ((w64 ((w64 ((IntKind.wrap .i64 ((IntKind.wrap .u64 (w64 (a+b))).fdiv (2 ^ 1)))+m)) - v236)) < b))) rfl (fun hc=>?_) (fun hc=>?_))
 replace hH:=condT hc hH
 obtain ⟨x269,hx270,hH⟩:=bindE hH
 refine AW.region ?_
 iterate 5 refine AO.pu T ?_
 refine AO.step rfl (callM_ok rfl 2 rfl rfl (es:=[.w 3 (x263.map encRank),.v (.int .i64 (IntKind.wrap .i64 ((IntKind.wrap .u64 (w64 (a+b))).fdiv (2 ^ 1)))),.v (.int .i64 (w64 ((w64 ((IntKind.wrap .i64 ((IntKind.wrap .u64 (w64 (a+b))).fdiv (2 ^ 1)))+m)) - v236))),.v (.int .i64 b),.f cmp_f cmp_c]) (outs:=[.w 3 (x269.map encRank),.u,.u,.u,.u]) (ids:=[1]) (by exact expLG_cons (.c (.rowR rfl)) (expLG_cons (.c .v) (expLG_cons (.c .v) (expLG_cons (.c .v) (expLG_cons (.c (.f cmp_r)) (expLG_nil)))))) (by decide) (.inl (by rfl)) (by rfl) (ih _ _ _ _ cmp_f cmp_c cmp_k cmp cmp_h _ (hx270)) rfl (by rfl) rfl) ?_
 refine AO.nil ?_
 have hR:=someE hH;subst hR
 exact ⟨trivial,rfl,_,[],[1],rfl,expLG_cons (.c (.rowR rfl)) (expLG_cons (.c .u) (expLG_cons (.c .u) (expLG_cons (.c .u) (expLG_cons (.c .u) (expLG_nil))))),.t expLG_nil,by decide⟩
 replace hH:=condF hc hH
 refine AW.skip ?_
 have hR:=someE hH;subst hR
 exact ⟨trivial,rfl,_,[],[1],rfl,expLG_cons (.c (.rowR rfl)) (expLG_cons (.c .u) (expLG_cons (.c .u) (expLG_cons (.c .u) (expLG_cons (.c .u) (expLG_nil))))),.t expLG_nil,by decide⟩
 replace hH:=condF hc hH
 refine AW.skip ?_
 iterate 2 refine AW.seq ?_
 refine AW.region ?_
 iterate 4 refine AO.pu T ?_
 iterate 2 refine AO.pureG T [] rfl trivial rfl rfl ?_
 refine AO.pureG T [196,197] rfl ⟨fun h=>h,fun h=>h,trivial⟩ rfl rfl ?_
 refine AO.val rfl rfl (pick_and rfl rfl rfl rfl) ?_
 refine AO.nil (AW.cond (b:=(decide (a < v236) && decide (v236 < (IntKind.wrap .i64 ((IntKind.wrap .u64 (w64 (a+b))).fdiv (2 ^ 1)))))) rfl (fun hc=>?_) (fun hc=>?_))
 replace hH:=condT hc hH
 obtain ⟨x271,hx272,hH⟩:=bindE hH
 refine AW.region ?_
 iterate 5 refine AO.pu T ?_
 refine AO.step rfl (callM_ok rfl 2 rfl rfl (es:=[.w 3 (data.map encRank),.v (.int .i64 a),.v (.int .i64 v236),.v (.int .i64 (IntKind.wrap .i64 ((IntKind.wrap .u64 (w64 (a+b))).fdiv (2 ^ 1)))),.f cmp_f cmp_c]) (outs:=[.w 3 (x271.map encRank),.u,.u,.u,.u]) (ids:=[1]) (by exact expLG_cons (.c (.rowR rfl)) (expLG_cons (.c .v) (expLG_cons (.c .v) (expLG_cons (.c .v) (expLG_cons (.c (.f cmp_r)) (expLG_nil)))))) (by decide) (.inl (by rfl)) (by rfl) (ih _ _ _ _ cmp_f cmp_c cmp_k cmp cmp_h _ (hx272)) rfl (by rfl) rfl) ?_
 refine AO.nil (AW.le (Le.cut 0 0 (σ':=(⟨[(0,.R 1),(3,b),(4,.f cmp_f cmp_c),(18,(IntKind.wrap .i64 ((IntKind.wrap .u64 (w64 (a+b))).fdiv (2 ^ 1)):Int)),(24,w64 ((w64 ((IntKind.wrap .i64 ((IntKind.wrap .u64 (w64 (a+b))).fdiv (2 ^ 1)))+m)) - v236))],[(1,.row 3 (List.map encRank x271))],220,[(1,L 1)]⟩:St)) rfl ⟨⟨_,rfl,rfl⟩,⟨_,rfl,rfl⟩,⟨_,rfl,ren_fF cmp_r⟩,⟨_,rfl,rfl⟩,⟨_,rfl,rfl⟩,trivial⟩ (by repeat' (first | exact trivial | refine ⟨⟨_,rfl,rfl⟩,?_⟩)) (andT (allC rfl (allC rfl (allC (known_fF cmp_r) (allC rfl (allC rfl allN))))) rfl) ⟨⟨rfl,rfl⟩,trivial⟩) ?_)
 refine AW.seq (AW.region ?_)
 iterate 4 refine AO.pu T ?_
 iterate 2 refine AO.pureG T [] rfl trivial rfl rfl ?_
 refine AO.pureG T [210,211] rfl ⟨fun h=>h,fun h=>h,trivial⟩ rfl rfl ?_
 refine AO.val rfl rfl (pick_and rfl rfl rfl rfl) ?_
 refine AO.nil (AW.cond (b:=(decide ((IntKind.wrap .i64 ((IntKind.wrap .u64 (w64 (a+b))).fdiv (2 ^ 1))) < (w64 ((w64 ((IntKind.wrap .i64 ((IntKind.wrap .u64 (w64 (a+b))).fdiv (2 ^ 1)))+m)) - v236))) && decide ((w64 ((w64 ((IntKind.wrap .i64 ((IntKind.wrap .u64 (w64 (a+b))).fdiv (2 ^ 1)))+m)) - v236)) < b))) rfl (fun hc=>?_) (fun hc=>?_))
 replace hH:=condT hc hH
 obtain ⟨x273,hx274,hH⟩:=bindE hH
 refine AW.region ?_
 iterate 5 refine AO.pu T ?_
 refine AO.step rfl (callM_ok rfl 2 rfl rfl (es:=[.w 3 (x271.map encRank),.v (.int .i64 (IntKind.wrap .i64 ((IntKind.wrap .u64 (w64 (a+b))).fdiv (2 ^ 1)))),.v (.int .i64 (w64 ((w64 ((IntKind.wrap .i64 ((IntKind.wrap .u64 (w64 (a+b))).fdiv (2 ^ 1)))+m)) - v236))),.v (.int .i64 b),.f cmp_f cmp_c]) (outs:=[.w 3 (x273.map encRank),.u,.u,.u,.u]) (ids:=[1]) (by exact expLG_cons (.c (.rowR rfl)) (expLG_cons (.c .v) (expLG_cons (.c .v) (expLG_cons (.c .v) (expLG_cons (.c (.f cmp_r)) (expLG_nil)))))) (by decide) (.inl (by rfl)) (by rfl) (ih _ _ _ _ cmp_f cmp_c cmp_k cmp cmp_h _ (hx274)) rfl (by rfl) rfl) ?_
 refine AO.nil ?_
 have hR:=someE hH;subst hR
 exact ⟨trivial,rfl,_,[],[1],rfl,expLG_cons (.c (.rowR rfl)) (expLG_cons (.c .u) (expLG_cons (.c .u) (expLG_cons (.c .u) (expLG_cons (.c .u) (expLG_nil))))),.t expLG_nil,by decide⟩
 replace hH:=condF hc hH
 refine AW.skip ?_
 have hR:=someE hH;subst hR
 exact ⟨trivial,rfl,_,[],[1],rfl,expLG_cons (.c (.rowR rfl)) (expLG_cons (.c .u) (expLG_cons (.c .u) (expLG_cons (.c .u) (expLG_cons (.c .u) (expLG_nil))))),.t expLG_nil,by decide⟩
 replace hH:=condF hc hH
 refine AW.skip (AW.seq (AW.region ?_))
 iterate 4 refine AO.pu T ?_
 iterate 2 refine AO.pureG T [] rfl trivial rfl rfl ?_
 refine AO.pureG T [210,211] rfl ⟨fun h=>h,fun h=>h,trivial⟩ rfl rfl ?_
 refine AO.val rfl rfl (pick_and rfl rfl rfl rfl) ?_
 refine AO.nil (AW.le (Le.cut 0 0 (σ':=(⟨[(0,.R 1),(3,b),(4,.f cmp_f cmp_c),(18,(IntKind.wrap .i64 ((IntKind.wrap .u64 (w64 (a+b))).fdiv (2 ^ 1)):Int)),(24,w64 ((w64 ((IntKind.wrap .i64 ((IntKind.wrap .u64 (w64 (a+b))).fdiv (2 ^ 1)))+m)) - v236)),(213,.v (.bool (decide ((IntKind.wrap .i64 ((IntKind.wrap .u64 (w64 (a+b))).fdiv (2 ^ 1))) < (w64 ((w64 ((IntKind.wrap .i64 ((IntKind.wrap .u64 (w64 (a+b))).fdiv (2 ^ 1)))+m)) - v236))) && decide ((w64 ((w64 ((IntKind.wrap .i64 ((IntKind.wrap .u64 (w64 (a+b))).fdiv (2 ^ 1)))+m)) - v236)) < b))))],[(1,.row 3 (List.map encRank data))],220,[(1,L 1)]⟩:St)) rfl ⟨⟨_,rfl,rfl⟩,⟨_,rfl,rfl⟩,⟨_,rfl,ren_fF cmp_r⟩,⟨_,rfl,rfl⟩,⟨_,rfl,rfl⟩,⟨_,rfl,rfl⟩,trivial⟩ (by repeat' (first | exact trivial | refine ⟨⟨_,rfl,rfl⟩,?_⟩)) (andT (allC rfl (allC rfl (allC (known_fF cmp_r) (allC rfl (allC rfl (allC rfl allN)))))) rfl) ⟨⟨rfl,rfl⟩,trivial⟩) ?_)
 refine AW.cond (b:=(decide ((IntKind.wrap .i64 ((IntKind.wrap .u64 (w64 (a+b))).fdiv (2 ^ 1))) < (w64 ((w64 ((IntKind.wrap .i64 ((IntKind.wrap .u64 (w64 (a+b))).fdiv (2 ^ 1)))+m)) - v236))) && decide ((w64 ((w64 ((IntKind.wrap .i64 ((IntKind.wrap .u64 (w64 (a+b))).fdiv (2 ^ 1)))+m)) - v236)) < b))) rfl (fun hc=>?_) (fun hc=>?_)
 replace hH:=condT hc hH
 obtain ⟨x275,hx276,hH⟩:=bindE hH
 refine AW.region ?_
 iterate 5 refine AO.pu T ?_
 refine AO.step rfl (callM_ok rfl 2 rfl rfl (es:=[.w 3 (data.map encRank),.v (.int .i64 (IntKind.wrap .i64 ((IntKind.wrap .u64 (w64 (a+b))).fdiv (2 ^ 1)))),.v (.int .i64 (w64 ((w64 ((IntKind.wrap .i64 ((IntKind.wrap .u64 (w64 (a+b))).fdiv (2 ^ 1)))+m)) - v236))),.v (.int .i64 b),.f cmp_f cmp_c]) (outs:=[.w 3 (x275.map encRank),.u,.u,.u,.u]) (ids:=[1]) (by exact expLG_cons (.c (.rowR rfl)) (expLG_cons (.c .v) (expLG_cons (.c .v) (expLG_cons (.c .v) (expLG_cons (.c (.f cmp_r)) (expLG_nil)))))) (by decide) (.inl (by rfl)) (by rfl) (ih _ _ _ _ cmp_f cmp_c cmp_k cmp cmp_h _ (hx276)) rfl (by rfl) rfl) ?_
 refine AO.nil ?_
 have hR:=someE hH;subst hR
 exact ⟨trivial,rfl,_,[],[1],rfl,expLG_cons (.c (.rowR rfl)) (expLG_cons (.c .u) (expLG_cons (.c .u) (expLG_cons (.c .u) (expLG_cons (.c .u) (expLG_nil))))),.t expLG_nil,by decide⟩
 replace hH:=condF hc hH
 refine AW.skip ?_
 have hR:=someE hH;subst hR
 exact ⟨trivial,rfl,_,[],[1],rfl,expLG_cons (.c (.rowR rfl)) (expLG_cons (.c .u) (expLG_cons (.c .u) (expLG_cons (.c .u) (expLG_cons (.c .u) (expLG_nil))))),.t expLG_nil,by decide⟩

def slices_stableCmpFunc_Rank_l1 (n:Int) (cmp:Rank→Rank→Option Int) (fuel:Nat):Nat→List Rank→Int→Int→Option ((List Rank) × Int)
  | 0,_,_,_=>none
  | k18+1,v26,v27,v28 =>
    cond (decide (v28 ≤ n))
      ((slices_insertionSortCmpFunc_Rank_p fuel v26 v27 v28 cmp).bind fun x30 =>
      slices_stableCmpFunc_Rank_l1 n cmp fuel k18 x30 v28 (w64 (v28+20)))
      (some (v26,v27))
def slices_stableCmpFunc_Rank_l3 (n:Int) (cmp:Rank→Rank→Option Int) (fuel:Nat) (v102:Int):Nat→List Rank→Int→Int→Option ((List Rank) × Int)
  | 0,_,_,_=>none
  | k121+1,v129,v130,v131 =>
    cond (decide (v131 ≤ n))
      ((slices_symMergeCmpFunc_Rank_p fuel fuel v129 v130 (w64 (v130+v102)) v131 cmp).bind fun x133 =>
      slices_stableCmpFunc_Rank_l3 n cmp fuel v102 k121 x133 v131 (w64 (v131+(w64 (2 * v102)))))
      (some (v129,v130))
def slices_stableCmpFunc_Rank_l2 (n:Int) (cmp:Rank→Rank→Option Int) (fuel:Nat):Nat→List Rank→Int→Option ((List Rank))
  | 0,_,_=>none
  | k34+1,v101,v102 =>
    cond (decide (v102 < n))
      ((slices_stableCmpFunc_Rank_l3 n cmp fuel v102 fuel v101 0 (w64 (2 * v102))).bind fun (v117,v118) =>
      cond (decide ((w64 (v118+v102)) < n))
        ((slices_symMergeCmpFunc_Rank_p fuel fuel v117 v118 (w64 (v118+v102)) n cmp).bind fun x135 =>
        slices_stableCmpFunc_Rank_l2 n cmp fuel k34 x135 (w64 (v102 * 2)))
        (slices_stableCmpFunc_Rank_l2 n cmp fuel k34 v117 (w64 (v102 * 2))))
      (some v101)
def slices_stableCmpFunc_Rank_p (fuel:Nat) (data:List Rank) (n:Int) (cmp:Rank→Rank→Option Int):Option (List Rank) :=
  (slices_stableCmpFunc_Rank_l1 n cmp fuel fuel data 0 20).bind fun (v14,v15) =>
  (slices_insertionSortCmpFunc_Rank_p fuel v14 v15 n cmp).bind fun x32 =>
  slices_stableCmpFunc_Rank_l2 n cmp fuel fuel x32 20
theorem slices_stableCmpFunc_Rank_ok (fuel:Nat) (data:List Rank) (n:Int) (cmp_f:Nat) (cmp_c:List D) (cmp_k:cmp_c.all D.capOk=true) (cmp:Rank→Rank→Option Int) (cmp_h:∀ (a0:Rank) (a1:Rank) (q:Int),cmp a0 a1=some q→SpecR Tryz.prog cmp_f ([.g (encRank a0),.g (encRank a1)]++cmp_c) (.v (.int .i64 q))) (r:(List Rank)) (hH:slices_stableCmpFunc_Rank_p fuel data n cmp=some r):SpecM Tryz.prog 96 [.w 3 (data.map encRank),n,.f cmp_f cmp_c] [.w 3 (r.map encRank),.u,.u] (.t []):=by
 have cmp_r:=cap_cfree cmp_k
 refine fn_okM T Tryz.func96 rfl (by decide) rfl (by simp [D.gOk,D.cellOk,cmp_k]) ?_
 intro L
 show AW _ _ _ (⟨[(0,.R 1),(1,n),(2,.f cmp_f cmp_c)],[(1,.row 3 (List.map encRank data))],63,[(1,L 1)]⟩:St)
 refine AW.seq (AW.region (AO.pu T ?_))
 refine AO.nil (AW.seq (AW.region ?_))
 iterate 3 refine AO.pu T ?_
 refine AO.nil ?_
 obtain ⟨o16,hH,hK17⟩:=bindE hH
 refine AW.seqJ (fun s:(List Rank) × Int=>(⟨[(0,.R 1),(1,n),(2,.f cmp_f cmp_c),(6,(20:Int)),(7,s.2)],[(1,.row 3 (List.map encRank s.1))],63,[(1,L 1)]⟩:St)) (fun s=>s=o16) ?_ ?_
 refine AW.block (AW.loopS (fun s:Nat × (List Rank) × Int × Int=>(⟨[(0,.R 1),(1,n),(2,.f cmp_f cmp_c),(6,(20:Int)),(7,s.2.2.1),(8,s.2.2.2)],[(1,.row 3 (List.map encRank s.2.1))],63,[(1,L 1)]⟩:St)) (fun s=>slices_stableCmpFunc_Rank_l1 n cmp fuel s.1 s.2.1 s.2.2.1 s.2.2.2=some o16) (fun s=>s.1) (fuel,data,0,20) hH ?_ ?_)
 exact Le.cut 0 0 rfl ⟨⟨_,rfl,rfl⟩,⟨_,rfl,rfl⟩,⟨_,rfl,ren_fF cmp_r⟩,⟨_,rfl,rfl⟩,⟨_,rfl,rfl⟩,⟨_,rfl,rfl⟩,trivial⟩ (by repeat' (first | exact trivial | refine ⟨⟨_,rfl,rfl⟩,?_⟩)) (andT (allC rfl (allC rfl (allC (known_fF cmp_r) (allC rfl (allC rfl (allC rfl allN)))))) rfl) ⟨⟨rfl,rfl⟩,trivial⟩
 rintro ⟨k18,v26,v27,v28⟩ hH
 replace hH:slices_stableCmpFunc_Rank_l1 n cmp fuel k18 v26 v27 v28=some o16:=hH
 try dsimp only
 rcases k18 with _ | k18
 cases (show none=some _ from hH)
 rw [slices_stableCmpFunc_Rank_l1] at hH
 iterate 2 refine AW.seq ?_
 refine AW.region ?_
 iterate 3 refine AO.pu T ?_
 refine AO.nil (AW.cond (b:=decide (v28 ≤ n)) rfl (fun hc=>?_) (fun hc=>?_))
 replace hH:=condT hc hH
 refine AW.skip (AW.block ?_)
 refine AW.seq ?_
 obtain ⟨x30,hx31,hH⟩:=bindE hH
 refine AW.region ?_
 iterate 4 refine AO.pu T ?_
 refine AO.step rfl (callM_ok rfl 2 rfl rfl (es:=[.w 3 (v26.map encRank),.v (.int .i64 v27),.v (.int .i64 v28),.f cmp_f cmp_c]) (outs:=[.w 3 (x30.map encRank),.u,.u,.u]) (ids:=[1]) (by exact expLG_cons (.c (.rowR rfl)) (expLG_cons (.c .v) (expLG_cons (.c .v) (expLG_cons (.c (.f cmp_r)) (expLG_nil))))) (by decide) (.inl (by rfl)) (by rfl) (slices_insertionSortCmpFunc_Rank_ok fuel _ _ _ cmp_f cmp_c cmp_k cmp cmp_h _ (hx31)) rfl (by rfl) rfl) ?_
 refine AO.nil (AW.seq (AW.region ?_))
 iterate 2 refine AO.pu T ?_
 refine AO.nil (AW.region ?_)
 iterate 2 refine AO.pu T ?_
 refine AO.val rfl rfl (arw_ok rfl rfl rfl rfl) ?_
 refine AO.pu T ?_
 refine AO.nil ?_
 refine ⟨(k18,x30,v28,w64 (v28+20)),hH,Nat.lt_succ_self _,?_⟩
 exact Le.cut 0 0 rfl ⟨⟨_,rfl,rfl⟩,⟨_,rfl,rfl⟩,⟨_,rfl,ren_fF cmp_r⟩,⟨_,rfl,rfl⟩,⟨_,rfl,rfl⟩,⟨_,rfl,rfl⟩,trivial⟩ (by repeat' (first | exact trivial | refine ⟨⟨_,rfl,rfl⟩,?_⟩)) (andT (allC rfl (allC rfl (allC (known_fF cmp_r) (allC rfl (allC rfl (allC rfl allN)))))) rfl) ⟨⟨rfl,rfl⟩,trivial⟩
 replace hH:=condF hc hH
 refine AW.exit ?_
 refine ⟨_,someE hH,?_⟩
 exact Le.cut 0 0 rfl ⟨⟨_,rfl,rfl⟩,⟨_,rfl,rfl⟩,⟨_,rfl,ren_fF cmp_r⟩,⟨_,rfl,rfl⟩,⟨_,rfl,rfl⟩,trivial⟩ (by repeat' (first | exact trivial | refine ⟨⟨_,rfl,rfl⟩,?_⟩)) (andT (allC rfl (allC rfl (allC (known_fF cmp_r) (allC rfl (allC rfl allN))))) rfl) ⟨⟨rfl,rfl⟩,trivial⟩
 rintro ⟨v14,v15⟩ hs
 subst hs
 replace hH:=hK17
 try dsimp only [flow,flowE] at hH
 try dsimp only
 refine AW.seq ?_
 obtain ⟨x32,hx33,hH⟩:=bindE hH
 refine AW.region ?_
 iterate 4 refine AO.pu T ?_
 refine AO.step rfl (callM_ok rfl 2 rfl rfl (es:=[.w 3 (v14.map encRank),.v (.int .i64 v15),.v (.int .i64 n),.f cmp_f cmp_c]) (outs:=[.w 3 (x32.map encRank),.u,.u,.u]) (ids:=[1]) (by exact expLG_cons (.c (.rowR rfl)) (expLG_cons (.c .v) (expLG_cons (.c .v) (expLG_cons (.c (.f cmp_r)) (expLG_nil))))) (by decide) (.inl (by rfl)) (by rfl) (slices_insertionSortCmpFunc_Rank_ok fuel _ _ _ cmp_f cmp_c cmp_k cmp cmp_h _ (hx33)) rfl (by rfl) rfl) ?_
 refine AO.nil (AW.block ?_)
 refine AW.loopS (fun s:Nat × (List Rank) × Int=>(⟨[(0,.R 1),(1,n),(2,.f cmp_f cmp_c),(6,s.2.2)],[(1,.row 3 (List.map encRank s.2.1))],63,[(1,L 1)]⟩:St)) (fun s=>slices_stableCmpFunc_Rank_l2 n cmp fuel s.1 s.2.1 s.2.2=some r) (fun s=>s.1) (fuel,x32,20) hH ?_ ?_
 exact Le.cut 0 0 rfl ⟨⟨_,rfl,rfl⟩,⟨_,rfl,rfl⟩,⟨_,rfl,ren_fF cmp_r⟩,⟨_,rfl,rfl⟩,trivial⟩ (by repeat' (first | exact trivial | refine ⟨⟨_,rfl,rfl⟩,?_⟩)) (andT (allC rfl (allC rfl (allC (known_fF cmp_r) (allC rfl allN)))) rfl) ⟨⟨rfl,rfl⟩,trivial⟩
 rintro ⟨k34,v101,v102⟩ hH
 replace hH:slices_stableCmpFunc_Rank_l2 n cmp fuel k34 v101 v102=some r:=hH
 try dsimp only
 rcases k34 with _ | k34
 cases (show none=some _ from hH)
 rw [slices_stableCmpFunc_Rank_l2] at hH
 iterate 2 refine AW.seq ?_
 refine AW.region ?_
 iterate 3 refine AO.pu T ?_
 refine AO.nil (AW.cond (b:=decide (v102 < n)) rfl (fun hc=>?_) (fun hc=>?_))
 replace hH:=condT hc hH
 refine AW.skip (AW.block ?_)
 refine AW.seq (AW.region (AO.pu T ?_))
 refine AO.val rfl rfl (arw_ok rfl rfl rfl rfl) ?_
 iterate 2 refine AO.pu T ?_
 refine AO.nil ?_
 obtain ⟨o119,hH,hK120⟩:=bindE hH
 refine AW.seqJ (fun s:(List Rank) × Int=>(⟨[(0,.R 1),(1,n),(2,.f cmp_f cmp_c),(6,v102),(7,s.2)],[(1,.row 3 (List.map encRank s.1))],63,[(1,L 1)]⟩:St)) (fun s=>s=o119) ?_ ?_
 refine AW.block (AW.loopS (fun s:Nat × (List Rank) × Int × Int=>(⟨[(0,.R 1),(1,n),(2,.f cmp_f cmp_c),(6,v102),(7,s.2.2.1),(8,s.2.2.2)],[(1,.row 3 (List.map encRank s.2.1))],63,[(1,L 1)]⟩:St)) (fun s=>slices_stableCmpFunc_Rank_l3 n cmp fuel v102 s.1 s.2.1 s.2.2.1 s.2.2.2=some o119) (fun s=>s.1) (fuel,v101,0,w64 (2 * v102)) hH ?_ ?_)
 exact Le.cut 0 0 rfl ⟨⟨_,rfl,rfl⟩,⟨_,rfl,rfl⟩,⟨_,rfl,ren_fF cmp_r⟩,⟨_,rfl,rfl⟩,⟨_,rfl,rfl⟩,⟨_,rfl,rfl⟩,trivial⟩ (by repeat' (first | exact trivial | refine ⟨⟨_,rfl,rfl⟩,?_⟩)) (andT (allC rfl (allC rfl (allC (known_fF cmp_r) (allC rfl (allC rfl (allC rfl allN)))))) rfl) ⟨⟨rfl,rfl⟩,trivial⟩
 rintro ⟨k121,v129,v130,v131⟩ hH
 replace hH:slices_stableCmpFunc_Rank_l3 n cmp fuel v102 k121 v129 v130 v131=some o119:=hH
 try dsimp only
 rcases k121 with _ | k121
 cases (show none=some _ from hH)
 rw [slices_stableCmpFunc_Rank_l3] at hH
 iterate 2 refine AW.seq ?_
 refine AW.region ?_
 iterate 3 refine AO.pu T ?_
 refine AO.nil (AW.cond (b:=decide (v131 ≤ n)) rfl (fun hc=>?_) (fun hc=>?_))
 replace hH:=condT hc hH
 refine AW.skip (AW.block ?_)
 refine AW.seq ?_
 obtain ⟨x133,hx134,hH⟩:=bindE hH
 refine AW.region ?_
 iterate 4 refine AO.pu T ?_
 refine AO.val rfl rfl (arw_ok rfl rfl rfl rfl) ?_
 iterate 2 refine AO.pu T ?_
 refine AO.step rfl (callM_ok rfl 2 rfl rfl (es:=[.w 3 (v129.map encRank),.v (.int .i64 v130),.v (.int .i64 (w64 (v130+v102))),.v (.int .i64 v131),.f cmp_f cmp_c]) (outs:=[.w 3 (x133.map encRank),.u,.u,.u,.u]) (ids:=[1]) (by exact expLG_cons (.c (.rowR rfl)) (expLG_cons (.c .v) (expLG_cons (.c .v) (expLG_cons (.c .v) (expLG_cons (.c (.f cmp_r)) (expLG_nil)))))) (by decide) (.inl (by rfl)) (by rfl) (slices_symMergeCmpFunc_Rank_ok fuel fuel _ _ _ _ cmp_f cmp_c cmp_k cmp cmp_h _ (hx134)) rfl (by rfl) rfl) ?_
 refine AO.nil (AW.seq (AW.region ?_))
 iterate 2 refine AO.pu T ?_
 refine AO.nil (AW.region ?_)
 iterate 2 refine AO.pu T ?_
 iterate 2 refine AO.val rfl rfl (arw_ok rfl rfl rfl rfl) ?_
 refine AO.pu T ?_
 refine AO.nil ?_
 refine ⟨(k121,x133,v131,w64 (v131+(w64 (2 * v102)))),hH,Nat.lt_succ_self _,?_⟩
 exact Le.cut 0 0 rfl ⟨⟨_,rfl,rfl⟩,⟨_,rfl,rfl⟩,⟨_,rfl,ren_fF cmp_r⟩,⟨_,rfl,rfl⟩,⟨_,rfl,rfl⟩,⟨_,rfl,rfl⟩,trivial⟩ (by repeat' (first | exact trivial | refine ⟨⟨_,rfl,rfl⟩,?_⟩)) (andT (allC rfl (allC rfl (allC (known_fF cmp_r) (allC rfl (allC rfl (allC rfl allN)))))) rfl) ⟨⟨rfl,rfl⟩,trivial⟩
 replace hH:=condF hc hH
 refine AW.exit ?_
 refine ⟨_,someE hH,?_⟩
 exact Le.cut 0 0 rfl ⟨⟨_,rfl,rfl⟩,⟨_,rfl,rfl⟩,⟨_,rfl,ren_fF cmp_r⟩,⟨_,rfl,rfl⟩,⟨_,rfl,rfl⟩,trivial⟩ (by repeat' (first | exact trivial | refine ⟨⟨_,rfl,rfl⟩,?_⟩)) (andT (allC rfl (allC rfl (allC (known_fF cmp_r) (allC rfl (allC rfl allN))))) rfl) ⟨⟨rfl,rfl⟩,trivial⟩
 rintro ⟨v117,v118⟩ hs
 subst hs
 replace hH:=hK120
 try dsimp only [flow,flowE] at hH
 try dsimp only
 iterate 2 refine AW.seq ?_
 refine AW.region ?_
 iterate 2 refine AO.pu T ?_
 refine AO.val rfl rfl (arw_ok rfl rfl rfl rfl) ?_
 refine AO.pu T ?_
 refine AO.nil (AW.seq (AW.region ?_))
 iterate 3 refine AO.pu T ?_
 refine AO.nil (AW.cond (b:=decide ((w64 (v118+v102)) < n)) rfl (fun hc=>?_) (fun hc=>?_))
 replace hH:=condT hc hH
 obtain ⟨x135,hx136,hH⟩:=bindE hH
 refine AW.region ?_
 iterate 5 refine AO.pu T ?_
 refine AO.step rfl (callM_ok rfl 2 rfl rfl (es:=[.w 3 (v117.map encRank),.v (.int .i64 v118),.v (.int .i64 (w64 (v118+v102))),.v (.int .i64 n),.f cmp_f cmp_c]) (outs:=[.w 3 (x135.map encRank),.u,.u,.u,.u]) (ids:=[1]) (by exact expLG_cons (.c (.rowR rfl)) (expLG_cons (.c .v) (expLG_cons (.c .v) (expLG_cons (.c .v) (expLG_cons (.c (.f cmp_r)) (expLG_nil)))))) (by decide) (.inl (by rfl)) (by rfl) (slices_symMergeCmpFunc_Rank_ok fuel fuel _ _ _ _ cmp_f cmp_c cmp_k cmp cmp_h _ (hx136)) rfl (by rfl) rfl) ?_
 refine AO.nil (AW.region ?_)
 refine AO.pu T ?_
 refine AO.val rfl rfl (arw_ok rfl rfl rfl rfl) ?_
 refine AO.pu T ?_
 refine AO.nil ?_
 refine ⟨(k34,x135,w64 (v102 * 2)),hH,Nat.lt_succ_self _,?_⟩
 exact Le.cut 0 0 rfl ⟨⟨_,rfl,rfl⟩,⟨_,rfl,rfl⟩,⟨_,rfl,ren_fF cmp_r⟩,⟨_,rfl,rfl⟩,trivial⟩ (by repeat' (first | exact trivial | refine ⟨⟨_,rfl,rfl⟩,?_⟩)) (andT (allC rfl (allC rfl (allC (known_fF cmp_r) (allC rfl allN)))) rfl) ⟨⟨rfl,rfl⟩,trivial⟩
 replace hH:=condF hc hH
 refine AW.skip (AW.region ?_)
 refine AO.pu T ?_
 refine AO.val rfl rfl (arw_ok rfl rfl rfl rfl) ?_
 refine AO.pu T ?_
 refine AO.nil ?_
 refine ⟨(k34,v117,w64 (v102 * 2)),hH,Nat.lt_succ_self _,?_⟩
 exact Le.cut 0 0 rfl ⟨⟨_,rfl,rfl⟩,⟨_,rfl,rfl⟩,⟨_,rfl,ren_fF cmp_r⟩,⟨_,rfl,rfl⟩,trivial⟩ (by repeat' (first | exact trivial | refine ⟨⟨_,rfl,rfl⟩,?_⟩)) (andT (allC rfl (allC rfl (allC (known_fF cmp_r) (allC rfl allN)))) rfl) ⟨⟨rfl,rfl⟩,trivial⟩
 replace hH:=condF hc hH
 refine AW.exit ?_
 have hR:=someE hH;subst hR
 exact ⟨trivial,rfl,_,[],[1],rfl,expLG_cons (.c (.rowR rfl)) (expLG_cons (.c .u) (expLG_cons (.c .u) (expLG_nil))),.t expLG_nil,by decide⟩

def slices_SortStableFunc_Rank_p (fuel:Nat) (x:List Rank) (cmp:Rank→Rank→Option Int):Option (List Rank) :=
  (slices_stableCmpFunc_Rank_p fuel x (x.length:Int) cmp).bind fun x1 =>
  some x1
theorem slices_SortStableFunc_Rank_ok (fuel:Nat) (x:List Rank) (cmp_f:Nat) (cmp_c:List D) (cmp_k:cmp_c.all D.capOk=true) (cmp:Rank→Rank→Option Int) (cmp_h:∀ (a0:Rank) (a1:Rank) (q:Int),cmp a0 a1=some q→SpecR Tryz.prog cmp_f ([.g (encRank a0),.g (encRank a1)]++cmp_c) (.v (.int .i64 q))) (r:(List Rank)) (hH:slices_SortStableFunc_Rank_p fuel x cmp=some r):SpecM Tryz.prog 75 [.w 3 (x.map encRank),.f cmp_f cmp_c] [.w 3 (r.map encRank),.u] (.t []):=by
 have cmp_r:=cap_cfree cmp_k
 refine fn_okM T Tryz.func75 rfl (by decide) rfl (by simp [D.gOk,D.cellOk,cmp_k]) ?_
 intro L
 show AW _ _ _ (⟨[(0,.R 1),(1,.f cmp_f cmp_c)],[(1,.row 3 (List.map encRank x))],9,[(1,L 1)]⟩:St)
 obtain ⟨x1,hx2,hH⟩:=bindE hH
 refine AW.region ?_
 iterate 2 refine AO.pu T ?_
 refine AO.val rfl rfl (len_row_ok T rfl rfl rfl rfl) ?_
 refine AO.pu T ?_
 refine AO.step rfl (callM_ok rfl 2 rfl rfl (es:=[.w 3 (x.map encRank),.v (.int .i64 (x.length:Int)),.f cmp_f cmp_c]) (outs:=[.w 3 (x1.map encRank),.u,.u]) (ids:=[1]) (by exact expLG_cons (.c (.rowR rfl)) (expLG_cons (.c .v) (expLG_cons (.c (.f cmp_r)) (expLG_nil)))) (by decide) (.inl (by rfl)) (by rfl) (slices_stableCmpFunc_Rank_ok fuel _ _ cmp_f cmp_c cmp_k cmp cmp_h _ (hx2)) rfl (by rfl) rfl) ?_
 refine AO.nil ?_
 have hR:=someE hH;subst hR
 exact ⟨trivial,rfl,_,[],[1],rfl,expLG_cons (.c (.rowR rfl)) (expLG_cons (.c .u) (expLG_nil)),.t expLG_nil,by decide⟩

def impl_worldList_c1_p (a:Rank) (b:Rank):Option Int :=
  some (w64 (a.place - b.place))
theorem impl_worldList_c1_ok (a:Rank) (b:Rank) (r:Int) (hH:impl_worldList_c1_p a b=some r):SpecR Tryz.prog 76 [.g (encRank a),.g (encRank b)] (.v (.int .i64 r)):=by
 refine fn_ok T Tryz.func76 rfl (by decide) rfl ?_
 refine AW.seq (AW.region (AO.step rfl (box_ok T rfl 1 rfl rfl rfl rfl) ?_))
 refine AO.step rfl (box_ok T rfl 2 rfl rfl rfl rfl) ?_
 refine AO.pu T ?_
 refine AO.nil (AW.seq (AW.region ?_))
 iterate 4 refine AO.pu T ?_
 refine AO.val rfl rfl (arw_ok rfl rfl rfl rfl) ?_
 refine AO.pu T ?_
 refine AO.nil (AW.ret ?_)
 have hR:=someE hH;subst hR
 exact retQ.i [] rfl (.c (.c .v))

def impl_worldList_l2 (fuel:Nat):List Int→Nat→List Rank→Option ((List Rank))
  | [],k32,v43 =>
    (slices_SortStableFunc_Rank_p fuel v43 (fun a0 a1=>impl_worldList_c1_p a0 a1)).bind fun x45 =>
    some x45
  | y33::ys34,k32,v43 =>
    (getI v43 (k32:Int)).bind fun x47 =>
    impl_worldList_l2 fuel ys34 (k32+1) (v43.set ((k32:Int).toNat) (Rank.mk x47.skater x47.total y33))
def impl_worldList_l1 (w:World) (fuel:Nat):List Int→Nat→List Rank→List Int→Option ((List Rank))
  | [],k3,v27,v28 =>
    (impl_placesOf_p v28).bind fun x30 =>
    impl_worldList_l2 fuel x30 0 v27
  | y4::ys5,k3,v27,v28 =>
    (impl_seasonParts_p w y4).bind fun x49 =>
    (impl_sumInts_p x49).bind fun x51 =>
    (need (fitsB 24 (v27.length+([(Rank.mk y4 x51 0)]).length))).bind fun u53 =>
    (need (fitsB 8 (v28.length+([x51]).length))).bind fun u55 =>
    impl_worldList_l1 w fuel ys5 (k3+1) (v27++[(Rank.mk y4 x51 0)]) (v28++[x51])
def impl_worldList_p (fuel:Nat) (w:World):Option (List Rank) :=
  (impl_worldSkaters_p fuel w).bind fun x1 =>
  impl_worldList_l1 w fuel x1 0 [] []
theorem impl_worldList_ok (fuel:Nat) (w:World) (r:(List Rank)) (hH:impl_worldList_p fuel w=some r):SpecR Tryz.prog 40 [.g (encWorld w)] (.w 3 (r.map encRank)):=by
 refine fn_ok T Tryz.func40 rfl (by decide) rfl ?_
 refine AW.seq (AW.region (AO.step rfl (box_ok T rfl 1 rfl rfl rfl rfl) ?_))
 refine AO.pu T ?_
 refine AO.nil (AW.seq (AW.region ?_))
 iterate 2 refine AO.step rfl (mk0_ok T rfl rfl rfl rfl) ?_
 iterate 2 refine AO.pu T ?_
 refine AO.nil ?_
 iterate 2 refine AW.seq ?_
 obtain ⟨x1,hx2,hH⟩:=bindE hH
 refine AW.region (AO.pu T (d:=.g [.s (List.map encSeason w.seasons),.s (List.map encInt w.weights)]) ?_)
 refine AO.step rfl (call_ok rfl 2 rfl rfl rfl (impl_worldSkaters_ok fuel _ _ (hx2)) rfl rfl rfl) ?_
 refine AO.val rfl rfl (len_row_ok T rfl rfl rfl rfl) ?_
 refine AO.pu T ?_
 refine AO.nil (AW.block ?_)
 refine AW.loopS (fun s:Nat × (List Rank) × (List Int)=>(⟨[(1,.p 1 0),(3,.R 10),(4,.R 12),(13,.R 2),(14,(x1.length:Int)),(15,(s.1:Int))],[(1,.box [.s (List.map encSeason w.seasons),.s (List.map encInt w.weights)]),(2,.row 1 (List.map encInt x1)),(10,.row 3 (List.map encRank s.2.1)),(12,.row 1 (List.map encInt s.2.2))],51,[]⟩:St)) (fun s=>s.1 ≤ x1.length∧impl_worldList_l1 w fuel (x1.drop s.1) s.1 s.2.1 s.2.2=some r) (fun s=>x1.length - s.1) (0,[],[]) ⟨Nat.zero_le _,hH⟩ ?_ ?_
 refine Le.trans (Le.void 3 10 3 rfl rfl) ?_
 refine Le.trans (Le.void 4 12 1 rfl rfl) ?_
 exact Le.ct 0 0
 rintro ⟨k3,v27,v28⟩ ⟨hk,hH⟩
 replace hH:impl_worldList_l1 w fuel (x1.drop k3) k3 v27 v28=some r:=hH
 try dsimp only
 refine AW.boundR (id:=2) (l:=x1) rfl (fun hb7=>?_)
 rcases hd6:x1.drop k3 with _ | ⟨y4,ys5⟩
 rw [hd6,impl_worldList_l1] at hH
 have hlt8:=drop_ge hd6
 refine AW.seq (AW.region (AO.pu T ?_))
 refine AO.nil (AW.seq (AW.condF' (b:=decide ((k3:Int) < (x1.length:Int))) rfl (rngF hlt8) ?_))
 refine AW.exit ?_
 iterate 2 refine AW.seq ?_
 obtain ⟨x30,hx31,hH⟩:=bindE hH
 refine AW.region (AO.pu T ?_)
 refine AO.step rfl (callL_ok rfl 13 rfl rfl (es:=[.s (List.map encInt v28)]) (by exact ⟨(.rowR rfl (.map fun y=>.vs rfl)),trivial⟩) (impl_placesOf_ok _ _ (hx31)) (zfree_map (fun y=>(.cons (zfree_v _) .nil))) rfl rfl rfl) ?_
 refine AO.val rfl rfl (len_row_ok T rfl rfl rfl rfl) ?_
 refine AO.pu T ?_
 refine AO.nil (AW.block ?_)
 refine AW.loopS (fun s:Nat × (List Rank)=>(⟨[(3,.R 10),(35,.R 13),(36,(x30.length:Int)),(37,(s.1:Int))],[(10,.row 3 (List.map encRank s.2)),(13,.row 1 (List.map encInt x30))],51,[]⟩:St)) (fun s=>s.1 ≤ x30.length∧impl_worldList_l2 fuel (x30.drop s.1) s.1 s.2=some r) (fun s=>x30.length - s.1) (0,v27) ⟨Nat.zero_le _,hH⟩ ?_ ?_
 exact Le.ct 0 0
 rintro ⟨k32,v43⟩ ⟨hk,hH⟩
 replace hH:impl_worldList_l2 fuel (x30.drop k32) k32 v43=some r:=hH
 try dsimp only
 refine AW.boundR (id:=13) (l:=x30) rfl (fun hb36=>?_)
 rcases hd35:x30.drop k32 with _ | ⟨y33,ys34⟩
 rw [hd35,impl_worldList_l2] at hH
 have hlt37:=drop_ge hd35
 refine AW.seq (AW.region (AO.pu T ?_))
 refine AO.nil (AW.seq (AW.condF' (b:=decide ((k32:Int) < (x30.length:Int))) rfl (rngF hlt37) ?_))
 refine AW.exit (AW.seq ?_)
 obtain ⟨x45,hx46,hH⟩:=bindE hH
 refine AW.region (AO.pu T ?_)
 refine AO.step rfl (callM_ok rfl 14 rfl rfl (es:=[.w 3 (v43.map encRank),.f 76 []]) (outs:=[.w 3 (x45.map encRank),.u]) (ids:=[10]) (by exact expLG_cons (.c (.rowR rfl)) (expLG_cons (.c (.f rfl)) (expLG_nil))) (by decide) (.inl (by rfl)) (by rfl) (slices_SortStableFunc_Rank_ok fuel _ 76 [] rfl (fun a0 a1=>impl_worldList_c1_p a0 a1) (fun a0 a1 q h=>impl_worldList_c1_ok a0 a1  q h) _ (hx46)) rfl (by rfl) rfl) ?_
 refine AO.nil (AW.seq (AW.region ?_))
 iterate 2 refine AO.pu T ?_
 refine AO.nil (AW.ret ?_)
 have hR:=someE hH;subst hR
 exact retQ.i [10] rfl (.c (.c (.rowR rfl)))
 rw [hd35,impl_worldList_l2] at hH
 have hlt37:=drop_lt hd35
 refine AW.seq (AW.region (AO.pu T ?_))
 refine AO.nil (AW.seq (AW.condT' (b:=decide ((k32:Int) < (x30.length:Int))) rfl (rngT hlt37) ?_))
 refine AW.skip (AW.seq ?_)
 refine AW.block (AW.seq (AW.region ?_))
 refine AO.pu T ?_
 refine AO.val rfl rfl (ix_row_ok T rfl rfl rfl rfl rfl rfl (getI_drop hd35)) ?_
 refine AO.val rfl rfl (load_row_ok T rfl rfl rfl rfl (getI_get (getI_drop hd35)) rfl rfl rfl) ?_
 iterate 2 refine AO.pu T ?_
 refine AO.nil ?_
 obtain ⟨x47,hx48,hH⟩:=bindE hH
 refine AW.region ?_
 iterate 3 refine AO.pu T ?_
 refine AO.val rfl rfl (ix_row_ok T rfl rfl rfl rfl rfl rfl (hx48)) ?_
 refine AO.pu T ?_
 refine AO.step rfl (store_row_ok T rfl rfl rfl rfl rfl (getI_get (hx48)) rfl rfl rfl rfl (u':=(Rank.mk x47.skater x47.total y33)) rfl rfl) ?_
 refine AO.nil (AW.region ?_)
 refine AO.val rfl rfl (ar_ok rfl rfl rfl rfl (inI_succ hlt37 hb36)) ?_
 refine AO.pu T ?_
 refine AO.nil ?_
 refine ⟨(k32+1,(v43.set ((k32:Int).toNat) (Rank.mk x47.skater x47.total y33))),⟨Nat.succ_le_of_lt hlt37,(by rw [drop_succ_of hd35];exact hH)⟩,(by have:=hlt37;dsimp only;omega),?_⟩
 exact Le.ct 0 0
 rw [hd6,impl_worldList_l1] at hH
 have hlt8:=drop_lt hd6
 refine AW.seq (AW.region (AO.pu T ?_))
 refine AO.nil (AW.seq (AW.condT' (b:=decide ((k3:Int) < (x1.length:Int))) rfl (rngT hlt8) ?_))
 refine AW.skip (AW.seq ?_)
 refine AW.block (AW.seq (AW.region ?_))
 refine AO.val rfl rfl (ix_row_ok T rfl rfl rfl rfl rfl rfl (getI_drop hd6)) ?_
 refine AO.val rfl rfl (load_row_ok T rfl rfl rfl rfl (getI_get (getI_drop hd6)) rfl rfl rfl) ?_
 refine AO.pu T ?_
 refine AO.nil (AW.seq ?_)
 obtain ⟨x49,hx50,hH⟩:=bindE hH
 obtain ⟨x51,hx52,hH⟩:=bindE hH
 refine AW.region (AO.pu T (d:=.g [.s (List.map encSeason w.seasons),.s (List.map encInt w.weights)]) ?_)
 refine AO.pu T ?_
 refine AO.step rfl (call_ok rfl 14 rfl rfl rfl (impl_seasonParts_ok _ _ _ (hx50)) rfl rfl rfl) ?_
 refine AO.val rfl rfl (callLV_ok rfl rfl rfl (es:=[.s (List.map encInt x49)]) ⟨(.rowR rfl (.map fun y=>.vs rfl)),trivial⟩ (impl_sumInts_ok _ _ (hx52)) (zfree_v _) rfl) ?_
 refine AO.pu T ?_
 refine AO.nil (AW.seq ?_)
 obtain ⟨u53,hx54,hH⟩:=bindE hH
 refine AW.region ?_
 iterate 3 refine AO.pu T ?_
 refine AO.pu T (d:=.g [y4,x51,(0:Int)]) ?_
 refine AO.step rfl (mk_map_ok T rfl 15 rfl rfl rfl rfl rfl (f:=encRank) (l:=[(Rank.mk y4 x51 0)]) rfl rfl (fun _=>rfl) rfl rfl rfl rfl rfl) ?_
 refine AO.step rfl (app_rv_map T rfl 16 rfl rfl rfl rfl rfl (by decide) rfl rfl rfl rfl (fun _=>rfl) (needT (hx54)) rfl rfl) ?_
 refine AO.pu T ?_
 refine AO.nil ?_
 obtain ⟨u55,hx56,hH⟩:=bindE hH
 refine AW.region ?_
 iterate 2 refine AO.pu T ?_
 refine AO.step rfl (mk_map_ok T rfl 17 rfl rfl rfl rfl rfl (f:=encInt) (l:=[x51]) rfl rfl (fun _=>rfl) rfl rfl rfl rfl rfl) ?_
 refine AO.step rfl (app_rv_map T rfl 18 rfl rfl rfl rfl rfl (by decide) rfl rfl rfl rfl (fun _=>rfl) (needT (hx56)) rfl rfl) ?_
 refine AO.pu T ?_
 refine AO.nil (AW.region ?_)
 refine AO.val rfl rfl (ar_ok rfl rfl rfl rfl (inI_succ hlt8 hb7)) ?_
 refine AO.pu T ?_
 refine AO.nil ?_
 refine ⟨(k3+1,(v27++[(Rank.mk y4 x51 0)]),(v28++[x51])),⟨Nat.succ_le_of_lt hlt8,(by rw [drop_succ_of hd6];exact hH)⟩,(by have:=hlt8;dsimp only;omega),?_⟩
 refine Le.trans (Le.ct 16 10 (σ':=(⟨[(1,.p 1 0),(3,.R 10),(4,.R 18),(13,.R 2),(14,(x1.length:Int)),(15,((k3+1:Nat):Int))],[(1,.box [.s (List.map encSeason w.seasons),.s (List.map encInt w.weights)]),(2,.row 1 (List.map encInt x1)),(10,.row 3 (List.map encRank (v27++[(Rank.mk y4 x51 0)]))),(18,.row 1 (List.map encInt (v28++[x51])))],51,[]⟩:St))) ?_
 exact Le.ct 18 12

def impl_worldPlace_l1 (skater:Int):List Rank→Nat→Option Int
  | [],k3 =>
    some 0
  | y4::ys5,k3 =>
    cond (y4.skater == skater)
      (some y4.place)
      (impl_worldPlace_l1 skater ys5 (k3+1))
def impl_worldPlace_p (fuel:Nat) (w:World) (skater:Int):Option Int :=
  (impl_worldList_p fuel w).bind fun x1 =>
  impl_worldPlace_l1 skater x1 0
theorem impl_worldPlace_ok (fuel:Nat) (w:World) (skater:Int) (r:Int) (hH:impl_worldPlace_p fuel w skater=some r):SpecR Tryz.prog 53 [.g (encWorld w),skater] (.v (.int .i64 r)):=by
 refine fn_ok T Tryz.func53 rfl (by decide) rfl ?_
 refine AW.seq (AW.region (AO.step rfl (box_ok T rfl 1 rfl rfl rfl rfl) ?_))
 refine AO.pu T ?_
 refine AO.nil ?_
 iterate 2 refine AW.seq ?_
 obtain ⟨x1,hx2,hH⟩:=bindE hH
 refine AW.region (AO.pu T (d:=.g [.s (List.map encSeason w.seasons),.s (List.map encInt w.weights)]) ?_)
 refine AO.step rfl (call_ok rfl 2 rfl rfl rfl (impl_worldList_ok fuel _ _ (hx2)) rfl rfl rfl) ?_
 refine AO.val rfl rfl (len_row_ok T rfl rfl rfl rfl) ?_
 refine AO.pu T ?_
 refine AO.nil (AW.block ?_)
 refine AW.loopS (fun s:Nat=>(⟨[(1,skater),(8,.R 2),(9,(x1.length:Int)),(10,(s:Int))],[(2,.row 3 (List.map encRank x1))],21,[]⟩:St)) (fun s=>s ≤ x1.length∧impl_worldPlace_l1 skater (x1.drop s) s=some r) (fun s=>x1.length - s) 0 ⟨Nat.zero_le _,hH⟩ ?_ ?_
 exact Le.ct 0 0
 rintro k3 ⟨hk,hH⟩
 replace hH:impl_worldPlace_l1 skater (x1.drop k3) k3=some r:=hH
 try dsimp only
 refine AW.boundR (id:=2) (l:=x1) rfl (fun hb7=>?_)
 rcases hd6:x1.drop k3 with _ | ⟨y4,ys5⟩
 rw [hd6,impl_worldPlace_l1] at hH
 have hlt8:=drop_ge hd6
 refine AW.seq (AW.region (AO.pu T ?_))
 refine AO.nil (AW.seq (AW.condF' (b:=decide ((k3:Int) < (x1.length:Int))) rfl (rngF hlt8) ?_))
 refine AW.exit (AW.seq (AW.region ?_))
 refine AO.pu T ?_
 refine AO.nil (AW.ret ?_)
 have hR:=someE hH;subst hR
 exact retQ.i [] rfl (.c (.c .v))
 rw [hd6,impl_worldPlace_l1] at hH
 have hlt8:=drop_lt hd6
 refine AW.seq (AW.region (AO.pu T ?_))
 refine AO.nil (AW.seq (AW.condT' (b:=decide ((k3:Int) < (x1.length:Int))) rfl (rngT hlt8) ?_))
 refine AW.skip (AW.seq ?_)
 refine AW.block (AW.seq (AW.region ?_))
 refine AO.val rfl rfl (ix_row_ok T rfl rfl rfl rfl rfl rfl (getI_drop hd6)) ?_
 refine AO.val rfl rfl (load_row_ok T rfl rfl rfl rfl (getI_get (getI_drop hd6)) rfl rfl rfl) ?_
 refine AO.step rfl (alloc_ok T rfl 5 rfl rfl rfl rfl rfl) ?_
 refine AO.se T [y4.skater,y4.total,y4.place] ?_
 refine AO.nil (AW.seq (AW.region ?_))
 iterate 4 refine AO.pu T ?_
 refine AO.nil (AW.cond (b:=(y4.skater == skater)) rfl (fun hc=>?_) (fun hc=>?_))
 replace hH:=condT hc hH
 refine AW.seq (AW.region ?_)
 iterate 3 refine AO.pu T ?_
 refine AO.nil (AW.ret ?_)
 have hR:=someE hH;subst hR
 exact retQ.i [] rfl (.c (.c .v))
 replace hH:=condF hc hH
 refine AW.skip (AW.region ?_)
 refine AO.val rfl rfl (ar_ok rfl rfl rfl rfl (inI_succ hlt8 hb7)) ?_
 refine AO.pu T ?_
 refine AO.nil ?_
 refine ⟨k3+1,⟨Nat.succ_le_of_lt hlt8,(by rw [drop_succ_of hd6];exact hH)⟩,(by have:=hlt8;dsimp only;omega),?_⟩
 exact Le.ct 0 0

def impl_RankChanges_l1 (a:World) (b:World) (fuel:Nat):List Int→Nat→List (List Int)→Option (((List (List Int)) × Bool))
  | [],k7,v26 =>
    some (v26,true)
  | y8::ys9,k7,v26 =>
    (impl_worldPlace_p fuel a y8).bind fun x28 =>
    (impl_worldPlace_p fuel b y8).bind fun x30 =>
    cond (decide (x30 > 0) && (x28 != x30))
      ((need (fitsB 24 (v26.length+([[y8,x28,x30]]).length))).bind fun u32 =>
      impl_RankChanges_l1 a b fuel ys9 (k7+1) (v26++[[y8,x28,x30]]))
      (impl_RankChanges_l1 a b fuel ys9 (k7+1) v26)
def impl_RankChanges_p (fuel:Nat) (a:World) (b:World):Option ((List (List Int)) × Bool) :=
  (impl_IsWorld_p fuel a).bind fun x1 =>
  (opt (!(!x1)) default (impl_IsWorld_p fuel b)).bind fun x3 =>
  cond ((!x1) || (!x3))
    (some ([],false))
    ((impl_worldSkaters_p fuel a).bind fun x5 =>
    impl_RankChanges_l1 a b fuel x5 0 [])
theorem impl_RankChanges_ok (fuel:Nat) (a:World) (b:World) (r:((List (List Int)) × Bool)) (hH:impl_RankChanges_p fuel a b=some r):SpecR Tryz.prog 27 [.g (encWorld a),.g (encWorld b)] (.t [.w 1 (r.1.map encLIntO),.v (.bool r.2)]):=by
 refine fn_ok T Tryz.func27 rfl (by decide) rfl ?_
 refine AW.seq (AW.region (AO.step rfl (box_ok T rfl 1 rfl rfl rfl rfl) ?_))
 refine AO.step rfl (box_ok T rfl 2 rfl rfl rfl rfl) ?_
 iterate 2 refine AO.pu T ?_
 refine AO.nil ?_
 iterate 2 refine AW.seq ?_
 obtain ⟨x1,hx2,hH⟩:=bindE hH
 obtain ⟨x3,hx4,hH⟩:=bindE hH
 refine AW.region (AO.pu T (d:=.g [.s (List.map encSeason a.seasons),.s (List.map encInt a.weights)]) ?_)
 refine AO.val rfl rfl (callV_ok rfl rfl rfl rfl (impl_IsWorld_ok fuel _ _ (hx2)) rfl) ?_
 iterate 2 refine AO.pu T ?_
 refine AO.pureG T (d:=.g [.s (List.map encSeason b.seasons),.s (List.map encInt b.weights)]) [] rfl trivial rfl rfl ?_
 refine AO.guard [15] rfl ⟨fun h=>h,trivial⟩ (fun hg=>callV_ok rfl rfl rfl rfl (impl_IsWorld_ok fuel _ _ (optT hx4 hg)) rfl) rfl ?_
 refine AO.pureG T [16] rfl ⟨fun h=>h,trivial⟩ rfl rfl ?_
 refine AO.val rfl rfl (pick_or rfl rfl rfl rfl) ?_
 refine AO.nil (AW.cond (b:=((!x1) || (!x3))) rfl (fun hc=>?_) (fun hc=>?_))
 replace hH:=condT hc hH
 refine AW.seq (AW.region ?_)
 iterate 2 refine AO.pu T ?_
 refine AO.nil (AW.ret ?_)
 have hR:=someE hH;subst hR
 exact retQ.i [] rfl (.t (expLG_cons (.c .nil) (expLG_cons (.c .v) (expLG_nil))))
 replace hH:=condF hc hH
 refine AW.skip (AW.seq (AW.region ?_))
 refine AO.step rfl (mk0_ok T rfl rfl rfl rfl) ?_
 refine AO.pu T ?_
 refine AO.nil ?_
 iterate 2 refine AW.seq ?_
 obtain ⟨x5,hx6,hH⟩:=bindE hH
 refine AW.region (AO.pu T (d:=.g [.s (List.map encSeason a.seasons),.s (List.map encInt a.weights)]) ?_)
 refine AO.step rfl (call_ok rfl 3 rfl rfl rfl (impl_worldSkaters_ok fuel _ _ (hx6)) rfl rfl rfl) ?_
 refine AO.val rfl rfl (len_row_ok T rfl rfl rfl rfl) ?_
 refine AO.pu T ?_
 refine AO.nil (AW.block ?_)
 refine AW.loopS (fun s:Nat × (List (List Int))=>(⟨[(2,.p 1 0),(3,.p 2 0),(6,.R 9),(21,.R 3),(22,(x5.length:Int)),(23,(s.1:Int))],[(1,.box [.s (List.map encSeason a.seasons),.s (List.map encInt a.weights)]),(2,.box [.s (List.map encSeason b.seasons),.s (List.map encInt b.weights)]),(3,.row 1 (List.map encInt x5)),(9,.row 1 (List.map encLIntO s.2))],49,[]⟩:St)) (fun s=>s.1 ≤ x5.length∧impl_RankChanges_l1 a b fuel (x5.drop s.1) s.1 s.2=some r) (fun s=>x5.length - s.1) (0,[]) ⟨Nat.zero_le _,hH⟩ ?_ ?_
 refine Le.trans (Le.void 6 9 1 rfl rfl) ?_
 exact Le.ct 0 0
 rintro ⟨k7,v26⟩ ⟨hk,hH⟩
 replace hH:impl_RankChanges_l1 a b fuel (x5.drop k7) k7 v26=some r:=hH
 try dsimp only
 refine AW.boundR (id:=3) (l:=x5) rfl (fun hb11=>?_)
 rcases hd10:x5.drop k7 with _ | ⟨y8,ys9⟩
 rw [hd10,impl_RankChanges_l1] at hH
 have hlt12:=drop_ge hd10
 refine AW.seq (AW.region (AO.pu T ?_))
 refine AO.nil (AW.seq (AW.condF' (b:=decide ((k7:Int) < (x5.length:Int))) rfl (rngF hlt12) ?_))
 refine AW.exit (AW.seq (AW.region ?_))
 iterate 3 refine AO.pu T ?_
 refine AO.nil (AW.ret ?_)
 have hR:=someE hH;subst hR
 exact retQ.i [9] rfl (.t (expLG_cons (.c (.rowR rfl)) (expLG_cons (.c .v) (expLG_nil))))
 rw [hd10,impl_RankChanges_l1] at hH
 have hlt12:=drop_lt hd10
 refine AW.seq (AW.region (AO.pu T ?_))
 refine AO.nil (AW.seq (AW.condT' (b:=decide ((k7:Int) < (x5.length:Int))) rfl (rngT hlt12) ?_))
 refine AW.skip (AW.seq ?_)
 refine AW.block (AW.seq (AW.region ?_))
 refine AO.val rfl rfl (ix_row_ok T rfl rfl rfl rfl rfl rfl (getI_drop hd10)) ?_
 refine AO.val rfl rfl (load_row_ok T rfl rfl rfl rfl (getI_get (getI_drop hd10)) rfl rfl rfl) ?_
 refine AO.pu T ?_
 refine AO.nil (AW.seq ?_)
 obtain ⟨x28,hx29,hH⟩:=bindE hH
 obtain ⟨x30,hx31,hH⟩:=bindE hH
 refine AW.drawn 5 10 [] mix (by kernel_rfl) rfl ?_
 refine AD.pure T (d:=.g [.s (List.map encSeason a.seasons),.s (List.map encInt a.weights)]) rfl rfl rfl ?_
 refine AD.pure T rfl rfl rfl ?_
 refine AD.val rfl rfl (callV_ok rfl rfl rfl rfl (impl_worldPlace_ok fuel _ _ _ (hx29)) rfl) ?_
 refine AD.pure T (d:=.g [.s (List.map encSeason b.seasons),.s (List.map encInt b.weights)]) rfl rfl rfl ?_
 refine AD.pure T rfl rfl rfl ?_
 refine AD.nil (AO.val rfl rfl (callV_ok rfl rfl rfl rfl (impl_worldPlace_ok fuel _ _ _ (hx31)) rfl) ?_)
 iterate 2 refine AO.pu T ?_
 refine AO.nil (AW.seq (AW.region ?_))
 iterate 3 refine AO.pu T ?_
 iterate 2 refine AO.pureG T [] rfl trivial rfl rfl ?_
 refine AO.pureG T [36,37] rfl ⟨fun h=>h,fun h=>h,trivial⟩ rfl rfl ?_
 refine AO.val rfl rfl (pick_and rfl rfl rfl rfl) ?_
 refine AO.nil (AW.cond (b:=(decide (x30 > 0) && (x28 != x30))) rfl (fun hc=>?_) (fun hc=>?_))
 replace hH:=condT hc hH
 obtain ⟨u32,hx33,hH⟩:=bindE hH
 refine AW.region ?_
 iterate 4 refine AO.pu T ?_
 refine AO.step rfl (mk_map_ok T rfl 10 rfl rfl rfl rfl rfl (f:=encInt) (l:=[y8,x28,x30]) rfl rfl (fun _=>rfl) rfl rfl rfl rfl rfl) ?_
 refine AO.step rfl (mk_o_ok T rfl 11 rfl rfl rfl rfl rfl rfl (f:=encLIntO) (l:=[[y8,x28,x30]]) (ids:=[10]) rfl rfl (fun _=>rfl) (by exact expLC_cons (.rowR rfl) (expLC_nil)) (by decide) rfl rfl rfl rfl rfl) ?_
 refine AO.step rfl (app_rr_map T rfl 12 rfl rfl rfl rfl rfl (by decide) rfl rfl rfl rfl rfl (needT (hx33)) rfl rfl) ?_
 refine AO.pu T ?_
 refine AO.nil (AW.le (Le.ct 0 0 (σ':=(⟨[(2,.p 1 0),(3,.p 2 0),(6,.R 12),(21,.R 3),(22,(x5.length:Int)),(23,(k7:Int))],[(1,.box [.s (List.map encSeason a.seasons),.s (List.map encInt a.weights)]),(2,.box [.s (List.map encSeason b.seasons),.s (List.map encInt b.weights)]),(3,.row 1 (List.map encInt x5)),(12,.row 1 (List.map encLIntO (v26++[[y8,x28,x30]])))],49,[]⟩:St))) ?_)
 refine AW.region (AO.val rfl rfl (ar_ok rfl rfl rfl rfl (inI_succ hlt12 hb11)) ?_)
 refine AO.pu T ?_
 refine AO.nil ?_
 refine ⟨(k7+1,(v26++[[y8,x28,x30]])),⟨Nat.succ_le_of_lt hlt12,(by rw [drop_succ_of hd10];exact hH)⟩,(by have:=hlt12;dsimp only;omega),?_⟩
 exact Le.ct 12 9
 replace hH:=condF hc hH
 refine AW.skip (AW.region ?_)
 refine AO.val rfl rfl (ar_ok rfl rfl rfl rfl (inI_succ hlt12 hb11)) ?_
 refine AO.pu T ?_
 refine AO.nil ?_
 refine ⟨(k7+1,v26),⟨Nat.succ_le_of_lt hlt12,(by rw [drop_succ_of hd10];exact hH)⟩,(by have:=hlt12;dsimp only;omega),?_⟩
 exact Le.ct 0 0

def spec_l1Put_l1 (l:List Int) (n:Int):Nat→Int→Option Int
  | 0,_=>none
  | k13+1,v19 =>
    (opt (decide (v19 < (l.length:Int))) default (getI l v19)).bind fun x21 =>
    cond (decide (v19 < (l.length:Int)) && decide (x21 < n))
      (spec_l1Put_l1 l n k13 (w64 (v19+1)))
      (some v19)
def spec_l1Put_p (fuel:Nat) (l:List Int) (n:Int):Option (List Int) :=
  (spec_l1Put_l1 l n fuel 0).bind fun v10 =>
  (opt (decide (v10 < (l.length:Int))) default (getI l v10)).bind fun x23 =>
  cond (decide (v10 < (l.length:Int)) && (x23 == n))
    (some l)
    ((sliceHi l v10).bind fun x25 =>
    (need (fitsB 8 x25.length)).bind fun u27 =>
    (need (fitsB 8 (x25.length+([n]).length))).bind fun u29 =>
    (sliceLo l v10).bind fun x31 =>
    (need (fitsB 8 (((x25++[n])).length+x31.length))).bind fun u33 =>
    some ((x25++[n])++x31))
theorem spec_l1Put_ok (fuel:Nat) (l:List Int) (n:Int) (r:(List Int)) (hH:spec_l1Put_p fuel l n=some r):SpecR Tryz.prog 64 [.s (List.map encInt l),n] (.s (r.map encInt)):=by
 refine fn_ok T Tryz.func64 rfl (by decide) rfl ?_
 refine AW.seq (AW.region (AO.pu T ?_))
 refine AO.nil (AW.seq (AW.region ?_))
 refine AO.pu T ?_
 refine AO.nil ?_
 obtain ⟨o11,hH,hK12⟩:=bindE hH
 refine AW.seqJ (fun s:Int=>(⟨[(0,.s (List.map encInt l)),(1,n),(5,s)],[],48,[]⟩:St)) (fun s=>s=o11) ?_ ?_
 refine AW.block (AW.loopS (fun s:Nat × Int=>(⟨[(0,.s (List.map encInt l)),(1,n),(5,s.2)],[],48,[]⟩:St)) (fun s=>spec_l1Put_l1 l n s.1 s.2=some o11) (fun s=>s.1) (fuel,0) hH ?_ ?_)
 exact Le.ct 0 0
 rintro ⟨k13,v19⟩ hH
 replace hH:spec_l1Put_l1 l n k13 v19=some o11:=hH
 try dsimp only
 rcases k13 with _ | k13
 cases (show none=some _ from hH)
 rw [spec_l1Put_l1] at hH
 iterate 2 refine AW.seq ?_
 obtain ⟨x21,hx22,hH⟩:=bindE hH
 refine AW.region ?_
 iterate 2 refine AO.pu T ?_
 refine AO.val rfl rfl (len_map_ok T rfl rfl rfl) ?_
 iterate 2 refine AO.pu T ?_
 iterate 2 refine AO.pureG T [] rfl trivial rfl rfl ?_
 refine AO.guard [12,13] rfl ⟨fun h=>h,fun h=>h,trivial⟩ (fun hg=>ix_map_ok T rfl rfl rfl rfl rfl (optT hx22 hg) rfl) rfl ?_
 refine AO.pureG T [14] rfl ⟨fun h=>h,trivial⟩ rfl rfl ?_
 refine AO.pureG T [] rfl trivial rfl rfl ?_
 refine AO.pureG T [15,16] rfl ⟨fun h=>h,fun h=>h,trivial⟩ rfl rfl ?_
 refine AO.val rfl rfl (pick_and rfl rfl rfl rfl) ?_
 refine AO.nil (AW.cond (b:=(decide (v19 < (l.length:Int)) && decide (x21 < n))) rfl (fun hc=>?_) (fun hc=>?_))
 replace hH:=condT hc hH
 refine AW.skip (AW.block ?_)
 refine AW.region (AO.pu T ?_)
 refine AO.val rfl rfl (arw_ok rfl rfl rfl rfl) ?_
 refine AO.pu T ?_
 refine AO.nil ?_
 refine ⟨(k13,w64 (v19+1)),hH,Nat.lt_succ_self _,?_⟩
 exact Le.ct 0 0
 replace hH:=condF hc hH
 refine AW.exit ?_
 refine ⟨_,someE hH,?_⟩
 exact Le.ct 0 0
 rintro v10 hs
 subst hs
 replace hH:=hK12
 try dsimp only [flow,flowE] at hH
 try dsimp only
 iterate 2 refine AW.seq ?_
 obtain ⟨x23,hx24,hH⟩:=bindE hH
 refine AW.region ?_
 iterate 2 refine AO.pu T ?_
 refine AO.val rfl rfl (len_map_ok T rfl rfl rfl) ?_
 iterate 2 refine AO.pu T ?_
 iterate 2 refine AO.pureG T [] rfl trivial rfl rfl ?_
 refine AO.guard [26,27] rfl ⟨fun h=>h,fun h=>h,trivial⟩ (fun hg=>ix_map_ok T rfl rfl rfl rfl rfl (optT hx24 hg) rfl) rfl ?_
 refine AO.pureG T [28] rfl ⟨fun h=>h,trivial⟩ rfl rfl ?_
 refine AO.pureG T [] rfl trivial rfl rfl ?_
 refine AO.pureG T [29,30] rfl ⟨fun h=>h,fun h=>h,trivial⟩ rfl rfl ?_
 refine AO.val rfl rfl (pick_and rfl rfl rfl rfl) ?_
 refine AO.nil (AW.cond (b:=(decide (v10 < (l.length:Int)) && (x23 == n))) rfl (fun hc=>?_) (fun hc=>?_))
 replace hH:=condT hc hH
 refine AW.seq (AW.region ?_)
 iterate 2 refine AO.pu T ?_
 refine AO.nil (AW.ret ?_)
 have hR:=someE hH;subst hR
 exact retQ.i [] rfl (.c (.c .s))
 replace hH:=condF hc hH
 refine AW.skip (AW.seq ?_)
 obtain ⟨x25,hx26,hH⟩:=bindE hH
 obtain ⟨u27,hx28,hH⟩:=bindE hH
 refine AW.region (AO.step rfl (mk0_ok T rfl rfl rfl rfl) ?_)
 iterate 2 refine AO.pu T ?_
 refine AO.val rfl rfl (slice_hi_map_ok T rfl rfl rfl rfl rfl (hx26) (fun _=>rfl)) ?_
 refine AO.step rfl (app_ws_map T rfl 1 rfl rfl rfl rfl rfl (by decide) (by decide) rfl rfl (fun _=>rfl) (needT (hx28)) rfl rfl) ?_
 refine AO.pu T ?_
 refine AO.nil (AW.seq ?_)
 obtain ⟨u29,hx30,hH⟩:=bindE hH
 refine AW.region ?_
 iterate 2 refine AO.pu T ?_
 refine AO.step rfl (mk_map_ok T rfl 2 rfl rfl rfl rfl rfl (f:=encInt) (l:=[n]) rfl rfl (fun _=>rfl) rfl rfl rfl rfl rfl) ?_
 refine AO.step rfl (app_rv_map T rfl 3 rfl rfl rfl rfl rfl (by decide) rfl rfl rfl rfl (fun _=>rfl) (needT (hx30)) rfl rfl) ?_
 refine AO.pu T ?_
 refine AO.nil (AW.seq ?_)
 obtain ⟨x31,hx32,hH⟩:=bindE hH
 obtain ⟨u33,hx34,hH⟩:=bindE hH
 refine AW.region ?_
 iterate 3 refine AO.pu T ?_
 refine AO.val rfl rfl (slice_lo_map_ok T rfl rfl rfl rfl rfl (hx32) (fun _=>rfl)) ?_
 refine AO.step rfl (app_rs_map T rfl 4 rfl rfl rfl rfl rfl (by decide) (by decide) rfl rfl rfl (fun _=>rfl) (needT (hx34)) rfl rfl) ?_
 refine AO.pu T ?_
 refine AO.nil (AW.le (Le.ct 0 0 (σ':=(⟨[(4,.R 4)],[(4,.row 1 (List.map encInt ((x25++[n])++x31)))],48,[]⟩:St))) ?_)
 refine AW.le (Le.freezeM 4 (g:=encInt) rfl (fun y=>.vs rfl)) ?_
 refine AW.ret ?_
 have hR:=someE hH;subst hR
 exact retQ.i [] rfl (.c (.c .s))

def spec_wlList_l3 (v193:List Rank):Nat→List Rank→Int→Option ((List Rank))
  | 0,_,_=>none
  | k195+1,v218,v219 =>
    cond (decide (v219 < (v193.length:Int)))
      ((getI v218 v219).bind fun x221 =>
      (opt (decide (v219 > 0)) default (getI (v218.set v219.toNat (Rank.mk x221.skater x221.total (w64 (v219+1)))) (w64 (v219 - 1)))).bind fun x223 =>
      (opt (decide (v219 > 0)) default (getI (v218.set v219.toNat (Rank.mk x221.skater x221.total (w64 (v219+1)))) v219)).bind fun x225 =>
      cond (decide (v219 > 0) && (x223.total == x225.total))
        ((getI (v218.set v219.toNat (Rank.mk x221.skater x221.total (w64 (v219+1)))) (w64 (v219 - 1))).bind fun x227 =>
        (getI (v218.set v219.toNat (Rank.mk x221.skater x221.total (w64 (v219+1)))) v219).bind fun x229 =>
        spec_wlList_l3 v193 k195 ((v218.set v219.toNat (Rank.mk x221.skater x221.total (w64 (v219+1)))).set v219.toNat (Rank.mk x229.skater x229.total x227.place)) (w64 (v219+1)))
        (spec_wlList_l3 v193 k195 (v218.set v219.toNat (Rank.mk x221.skater x221.total (w64 (v219+1)))) (w64 (v219+1))))
      (some v218)
def spec_wlList_l4 (v193:List Rank) (x271:Int):Nat→Int→Option Int
  | 0,_=>none
  | k285+1,v291 =>
    (opt (decide (v291 > 0)) default (getI v193 (w64 (v291 - 1)))).bind fun x293 =>
    cond (decide (v291 > 0) && decide (x293.total < x271))
      (spec_wlList_l4 v193 x271 k285 (w64 (v291 - 1)))
      (some v291)
def spec_wlList_l2 (w:World) (fuel:Nat):List Int→Nat→List Rank→Option ((List Rank))
  | [],k72,v193 =>
    spec_wlList_l3 v193 fuel v193 0
  | y73::ys74,k72,v193 =>
    ((spec_wlParts_p fuel w y73).bind fun x269 =>
    (spec_poSum_p x269.1).bind fun x271 =>
    (spec_wlList_l4 v193 x271 fuel (v193.length:Int)).bind fun v282 =>
    (sliceHi v193 v282).bind fun x295 =>
    (need (fitsB 24 x295.length)).bind fun u297 =>
    (need (fitsB 24 (x295.length+([(Rank.mk y73 x271 0)]).length))).bind fun u299 =>
    (sliceLo v193 v282).bind fun x301 =>
    (need (fitsB 24 (((x295++[(Rank.mk y73 x271 0)])).length+x301.length))).bind fun u303 =>
    some ((x295++[(Rank.mk y73 x271 0)])++x301)).bind fun v266 =>
    spec_wlList_l2 w fuel ys74 (k72+1) v266
def spec_wlList_l5 (fuel:Nat):List Line→Nat→List Int→Option (List Int)
  | [],k322,v333 =>
    some v333
  | y323::ys324,k322,v333 =>
    (spec_l1Put_p fuel v333 y323.skater).bind fun x335 =>
    spec_wlList_l5 fuel ys324 (k322+1) x335
def spec_wlList_l1 (w:World) (fuel:Nat):List Season→Nat→List Int→Option ((List Rank))
  | [],k1,v70 =>
    spec_wlList_l2 w fuel v70 0 []
  | y2::ys3,k1,v70 =>
    (spec_wlList_l5 fuel y2.lines 0 v70).bind fun v319 =>
    spec_wlList_l1 w fuel ys3 (k1+1) v319
def spec_wlList_p (fuel:Nat) (w:World):Option (List Rank) :=
  spec_wlList_l1 w fuel w.seasons 0 []
theorem spec_wlList_ok (fuel:Nat) (w:World) (r:(List Rank)) (hH:spec_wlList_p fuel w=some r):SpecR Tryz.prog 42 [.g (encWorld w)] (.w 3 (r.map encRank)):=by
 refine fn_ok T Tryz.func42 rfl (by decide) rfl ?_
 refine AW.seq (AW.region (AO.step rfl (box_ok T rfl 1 rfl rfl rfl rfl) ?_))
 refine AO.pu T ?_
 refine AO.nil (AW.seq (AW.region ?_))
 refine AO.pu T ?_
 refine AO.nil ?_
 iterate 2 refine AW.seq ?_
 refine AW.region ?_
 iterate 2 refine AO.pu T ?_
 refine AO.val rfl rfl (len_map_ok T rfl rfl rfl) ?_
 refine AO.pu T ?_
 refine AO.nil (AW.block ?_)
 refine AW.loopS (fun s:Nat × (List Int)=>(⟨[(1,.p 1 0),(3,.s (List.map encInt s.2)),(17,.s (List.map encSeason w.seasons)),(18,(w.seasons.length:Int)),(19,(s.1:Int))],[(1,.box [.s (List.map encSeason w.seasons),.s (List.map encInt w.weights)])],121,[]⟩:St)) (fun s=>s.1 ≤ w.seasons.length∧spec_wlList_l1 w fuel (w.seasons.drop s.1) s.1 s.2=some r) (fun s=>w.seasons.length - s.1) (0,[]) ⟨Nat.zero_le _,hH⟩ ?_ ?_
 refine Le.trans (Le.nilS 3 rfl) ?_
 exact Le.ct 0 0
 rintro ⟨k1,v70⟩ ⟨hk,hH⟩
 replace hH:spec_wlList_l1 w fuel (w.seasons.drop k1) k1 v70=some r:=hH
 try dsimp only
 refine AW.boundM (t:=17) (l:=w.seasons) rfl (fun hb5=>?_)
 rcases hd4:w.seasons.drop k1 with _ | ⟨y2,ys3⟩
 rw [hd4,spec_wlList_l1] at hH
 have hlt6:=drop_ge hd4
 refine AW.seq (AW.region (AO.pu T ?_))
 refine AO.nil (AW.seq (AW.condF' (b:=decide ((k1:Int) < (w.seasons.length:Int))) rfl (rngF hlt6) ?_))
 refine AW.exit (AW.seq (AW.region ?_))
 refine AO.pu T ?_
 refine AO.nil ?_
 iterate 2 refine AW.seq ?_
 refine AW.region (AO.pu T ?_)
 refine AO.val rfl rfl (len_map_ok T rfl rfl rfl) ?_
 refine AO.pu T ?_
 refine AO.nil (AW.block ?_)
 refine AW.loopS (fun s:Nat × (List Rank)=>(⟨[(1,.p 1 0),(8,.R 35),(36,.s (List.map encInt v70)),(37,(v70.length:Int)),(38,(s.1:Int))],[(1,.box [.s (List.map encSeason w.seasons),.s (List.map encInt w.weights)]),(35,.row 3 (List.map encRank s.2))],121,[]⟩:St)) (fun s=>s.1 ≤ v70.length∧spec_wlList_l2 w fuel (v70.drop s.1) s.1 s.2=some r) (fun s=>v70.length - s.1) (0,[]) ⟨Nat.zero_le _,hH⟩ ?_ ?_
 refine Le.trans (Le.void 8 35 3 rfl rfl) ?_
 exact Le.ct 0 0
 rintro ⟨k72,v193⟩ ⟨hk,hH⟩
 replace hH:spec_wlList_l2 w fuel (v70.drop k72) k72 v193=some r:=hH
 try dsimp only
 refine AW.boundM (t:=36) (l:=v70) rfl (fun hb76=>?_)
 rcases hd75:v70.drop k72 with _ | ⟨y73,ys74⟩
 rw [hd75,spec_wlList_l2] at hH
 have hlt77:=drop_ge hd75
 refine AW.seq (AW.region (AO.pu T ?_))
 refine AO.nil (AW.seq (AW.condF' (b:=decide ((k72:Int) < (v70.length:Int))) rfl (rngF hlt77) ?_))
 refine AW.exit ?_
 iterate 2 refine AW.seq ?_
 refine AW.region (AO.pu T ?_)
 refine AO.val rfl rfl (len_row_ok T rfl rfl rfl rfl) ?_
 refine AO.pu T ?_
 refine AO.nil (AW.block ?_)
 refine AW.loopS (fun s:Nat × (List Rank) × Int=>(⟨[(8,.R 35),(83,(v193.length:Int)),(84,s.2.2)],[(35,.row 3 (List.map encRank s.2.1))],121,[]⟩:St)) (fun s=>spec_wlList_l3 v193 s.1 s.2.1 s.2.2=some r) (fun s=>s.1) (fuel,v193,0) hH ?_ ?_
 exact Le.ct 0 0
 rintro ⟨k195,v218,v219⟩ hH
 replace hH:spec_wlList_l3 v193 k195 v218 v219=some r:=hH
 try dsimp only
 rcases k195 with _ | k195
 cases (show none=some _ from hH)
 rw [spec_wlList_l3] at hH
 refine AW.seq (AW.region (AO.pu T ?_))
 refine AO.nil (AW.seq (AW.cond (b:=decide (v219 < (v193.length:Int))) rfl (fun hc=>?_) (fun hc=>?_)))
 replace hH:=condT hc hH
 refine AW.skip (AW.seq ?_)
 refine AW.block (AW.seq (AW.region ?_))
 iterate 2 refine AO.pu T ?_
 refine AO.nil (AW.seq ?_)
 obtain ⟨x221,hx222,hH⟩:=bindE hH
 refine AW.region ?_
 iterate 3 refine AO.pu T ?_
 refine AO.val rfl rfl (arw_ok rfl rfl rfl rfl) ?_
 refine AO.val rfl rfl (ix_row_ok T rfl rfl rfl rfl rfl rfl (hx222)) ?_
 refine AO.pu T ?_
 refine AO.step rfl (store_row_ok T rfl rfl rfl rfl rfl (getI_get (hx222)) rfl rfl rfl rfl (u':=(Rank.mk x221.skater x221.total (w64 (v219+1)))) rfl rfl) ?_
 refine AO.nil (AW.seq ?_)
 obtain ⟨x223,hx224,hH⟩:=bindE hH
 obtain ⟨x225,hx226,hH⟩:=bindE hH
 refine AW.drawn 14 42 [] mix (by kernel_rfl) rfl ?_
 iterate 3 refine AD.pure T rfl rfl rfl ?_
 iterate 2 refine AD.pureG T [] rfl trivial rfl rfl ?_
 refine AD.guard [97] rfl ⟨fun h=>h,trivial⟩ (fun hg=>arw_ok rfl rfl rfl rfl) rfl ?_
 refine AD.guard [96,98] rfl ⟨fun h=>h,fun h=>h,trivial⟩ (fun hg=>ix_row_ok T rfl rfl rfl rfl rfl rfl (optT hx224 hg)) rfl ?_
 refine AD.pureG T [99] rfl ⟨fun h=>h,trivial⟩ rfl rfl ?_
 refine AD.guard [100] rfl ⟨fun h=>h,trivial⟩ (fun hg=>load_row_ok T rfl rfl rfl rfl (getI_get (optT hx224 hg)) rfl rfl rfl) rfl ?_
 iterate 2 refine AD.pureG T [] rfl trivial rfl rfl ?_
 refine AD.guard [102,103] rfl ⟨fun h=>h,fun h=>h,trivial⟩ (fun hg=>ix_row_ok T rfl rfl rfl rfl rfl rfl (optT hx226 hg)) rfl ?_
 refine AD.pureG T [104] rfl ⟨fun h=>h,trivial⟩ rfl rfl ?_
 refine AD.guard [105] rfl ⟨fun h=>h,trivial⟩ (fun hg=>load_row_ok T rfl rfl rfl rfl (getI_get (optT hx226 hg)) rfl rfl rfl) rfl ?_
 refine AD.nil (AO.pureG T [101,106] rfl ⟨fun h=>h,fun h=>h,trivial⟩ rfl rfl ?_)
 refine AO.val rfl rfl (pick_and rfl rfl rfl rfl) ?_
 refine AO.nil (AW.le (Le.ct 0 0 (σ':=(⟨[(8,.R 35),(15,v219),(83,(v193.length:Int)),(84,v219),(108,.v (.bool (decide (v219 > 0) && (x223.total == x225.total))))],[(35,.row 3 (List.map encRank (v218.set v219.toNat (Rank.mk x221.skater x221.total (w64 (v219+1))))))],121,[]⟩:St))) ?_)
 refine AW.cond (b:=(decide (v219 > 0) && (x223.total == x225.total))) rfl (fun hc=>?_) (fun hc=>?_)
 replace hH:=condT hc hH
 obtain ⟨x227,hx228,hH⟩:=bindE hH
 obtain ⟨x229,hx230,hH⟩:=bindE hH
 refine AW.region ?_
 iterate 4 refine AO.pu T ?_
 refine AO.val rfl rfl (arw_ok rfl rfl rfl rfl) ?_
 refine AO.val rfl rfl (ix_row_ok T rfl rfl rfl rfl rfl rfl (hx228)) ?_
 refine AO.pu T ?_
 refine AO.val rfl rfl (load_row_ok T rfl rfl rfl rfl (getI_get (hx228)) rfl rfl rfl) ?_
 refine AO.val rfl rfl (ix_row_ok T rfl rfl rfl rfl rfl rfl (hx230)) ?_
 refine AO.pu T ?_
 refine AO.step rfl (store_row_ok T rfl rfl rfl rfl rfl (getI_get (hx230)) rfl rfl rfl rfl (u':=(Rank.mk x229.skater x229.total x227.place)) rfl rfl) ?_
 refine AO.nil (AW.region ?_)
 refine AO.val rfl rfl (arw_ok rfl rfl rfl rfl) ?_
 refine AO.pu T ?_
 refine AO.nil ?_
 refine ⟨(k195,((v218.set v219.toNat (Rank.mk x221.skater x221.total (w64 (v219+1)))).set v219.toNat (Rank.mk x229.skater x229.total x227.place)),w64 (v219+1)),hH,Nat.lt_succ_self _,?_⟩
 exact Le.ct 0 0
 replace hH:=condF hc hH
 refine AW.skip (AW.region ?_)
 refine AO.val rfl rfl (arw_ok rfl rfl rfl rfl) ?_
 refine AO.pu T ?_
 refine AO.nil ?_
 refine ⟨(k195,(v218.set v219.toNat (Rank.mk x221.skater x221.total (w64 (v219+1)))),w64 (v219+1)),hH,Nat.lt_succ_self _,?_⟩
 exact Le.ct 0 0
 replace hH:=condF hc hH
 refine AW.exit (AW.seq (AW.region ?_))
 iterate 2 refine AO.pu T ?_
 refine AO.nil (AW.ret ?_)
 have hR:=someE hH;subst hR
 exact retQ.i [35] rfl (.c (.c (.rowR rfl)))
 rw [hd75,spec_wlList_l2] at hH
 have hlt77:=drop_lt hd75
 refine AW.seq (AW.region (AO.pu T ?_))
 refine AO.nil (AW.seq (AW.condT' (b:=decide ((k72:Int) < (v70.length:Int))) rfl (rngT hlt77) ?_))
 refine AW.skip ?_
 obtain ⟨o267,hH,hK268⟩:=bindE hH
 refine AW.seqJ (fun s:List Rank=>(⟨[(1,.p 1 0),(8,.R 47),(36,.s (List.map encInt v70)),(37,(v70.length:Int)),(38,(k72:Int))],[(1,.box [.s (List.map encSeason w.seasons),.s (List.map encInt w.weights)]),(47,.row 3 (List.map encRank s))],121,[]⟩:St)) (fun s=>s=o267) ?_ ?_
 refine AW.block (AW.seq (AW.region ?_))
 refine AO.val rfl rfl (ix_map_ok T rfl rfl rfl rfl rfl (getI_drop hd75) rfl) ?_
 iterate 2 refine AO.pu T ?_
 refine AO.nil (AW.seq ?_)
 obtain ⟨x269,hx270,hH⟩:=bindE hH
 refine AW.region (AO.pu T (d:=.g [.s (List.map encSeason w.seasons),.s (List.map encInt w.weights)]) ?_)
 refine AO.pu T ?_
 refine AO.step rfl (call_ok rfl 48 rfl rfl rfl (spec_wlParts_ok fuel _ _ _ (hx270)) rfl rfl rfl) ?_
 iterate 5 refine AO.pu T ?_
 refine AO.nil (AW.seq ?_)
 obtain ⟨x271,hx272,hH⟩:=bindE hH
 refine AW.region ?_
 iterate 2 refine AO.pu T ?_
 refine AO.val rfl rfl (callLV_ok rfl rfl rfl (es:=[.s (List.map encInt x269.1)]) ⟨(.rowR rfl (.map fun y=>.vs rfl)),trivial⟩ (spec_poSum_ok _ _ (hx272)) (zfree_v _) rfl) ?_
 refine AO.pu T (d:=.g [y73,x271,(0:Int)]) ?_
 refine AO.step rfl (alloc_ok T rfl 49 rfl rfl rfl rfl rfl) ?_
 refine AO.se T [y73,x271,(0:Int)] ?_
 refine AO.nil (AW.seq (AW.region ?_))
 refine AO.pu T ?_
 refine AO.val rfl rfl (len_row_ok T rfl rfl rfl rfl) ?_
 refine AO.pu T ?_
 refine AO.nil ?_
 obtain ⟨o283,hH,hK284⟩:=bindE hH
 refine AW.seqJ (fun s:Int=>(⟨[(1,.p 1 0),(8,.R 35),(13,.p 49 0),(14,s),(36,.s (List.map encInt v70)),(37,(v70.length:Int)),(38,(k72:Int))],[(1,.box [.s (List.map encSeason w.seasons),.s (List.map encInt w.weights)]),(35,.row 3 (List.map encRank v193)),(49,.box [y73,x271,(0:Int)])],121,[]⟩:St)) (fun s=>s=o283) ?_ ?_
 refine AW.block (AW.loopS (fun s:Nat × Int=>(⟨[(1,.p 1 0),(8,.R 35),(13,.p 49 0),(14,s.2),(36,.s (List.map encInt v70)),(37,(v70.length:Int)),(38,(k72:Int))],[(1,.box [.s (List.map encSeason w.seasons),.s (List.map encInt w.weights)]),(35,.row 3 (List.map encRank v193)),(49,.box [y73,x271,(0:Int)])],121,[]⟩:St)) (fun s=>spec_wlList_l4 v193 x271 s.1 s.2=some o283) (fun s=>s.1) (fuel,(v193.length:Int)) hH ?_ ?_)
 exact Le.ct 0 0
 rintro ⟨k285,v291⟩ hH
 replace hH:spec_wlList_l4 v193 x271 k285 v291=some o283:=hH
 try dsimp only
 rcases k285 with _ | k285
 cases (show none=some _ from hH)
 rw [spec_wlList_l4] at hH
 iterate 2 refine AW.seq ?_
 obtain ⟨x293,hx294,hH⟩:=bindE hH
 refine AW.drawn 11 50 [] mix (by kernel_rfl) rfl ?_
 iterate 3 refine AD.pure T rfl rfl rfl ?_
 iterate 2 refine AD.pureG T [] rfl trivial rfl rfl ?_
 refine AD.guard [58] rfl ⟨fun h=>h,trivial⟩ (fun hg=>arw_ok rfl rfl rfl rfl) rfl ?_
 refine AD.guard [57,59] rfl ⟨fun h=>h,fun h=>h,trivial⟩ (fun hg=>ix_row_ok T rfl rfl rfl rfl rfl rfl (optT hx294 hg)) rfl ?_
 refine AD.pureG T [60] rfl ⟨fun h=>h,trivial⟩ rfl rfl ?_
 refine AD.guard [61] rfl ⟨fun h=>h,trivial⟩ (fun hg=>load_row_ok T rfl rfl rfl rfl (getI_get (optT hx294 hg)) rfl rfl rfl) rfl ?_
 refine AD.pureG T [] rfl trivial rfl rfl ?_
 refine AD.pureG T [63] rfl ⟨fun h=>h,trivial⟩ rfl rfl ?_
 refine AD.nil (AO.pureG T [62,64] rfl ⟨fun h=>h,fun h=>h,trivial⟩ rfl rfl ?_)
 refine AO.val rfl rfl (pick_and rfl rfl rfl rfl) ?_
 refine AO.nil (AW.cond (b:=(decide (v291 > 0) && decide (x293.total < x271))) rfl (fun hc=>?_) (fun hc=>?_))
 replace hH:=condT hc hH
 refine AW.skip (AW.block ?_)
 refine AW.region (AO.pu T ?_)
 refine AO.val rfl rfl (arw_ok rfl rfl rfl rfl) ?_
 refine AO.pu T ?_
 refine AO.nil ?_
 refine ⟨(k285,w64 (v291 - 1)),hH,Nat.lt_succ_self _,?_⟩
 exact Le.ct 0 0
 replace hH:=condF hc hH
 refine AW.exit ?_
 refine ⟨_,someE hH,?_⟩
 exact Le.ct 0 0
 rintro v282 hs
 subst hs
 replace hH:=hK284
 try dsimp only [flow,flowE] at hH
 try dsimp only
 obtain ⟨x295,hx296,hH⟩:=bindE hH
 obtain ⟨u297,hx298,hH⟩:=bindE hH
 obtain ⟨u299,hx300,hH⟩:=bindE hH
 obtain ⟨x301,hx302,hH⟩:=bindE hH
 obtain ⟨u303,hx304,hH⟩:=bindE hH
 refine AW.le (Le.freezeM 35 (g:=encRank) rfl (fun y=>.vs rfl)) ?_
 refine AW.drawn 11 50 [] mix (by kernel_rfl) rfl ?_
 refine AD.v (FStep.mk0 T rfl rfl rfl rfl rfl) ?_
 iterate 2 refine AD.pure T rfl rfl rfl ?_
 refine AD.val rfl rfl (slice_hi_map_ok T rfl rfl rfl rfl rfl (hx296) (fun _=>rfl)) ?_
 refine AD.q (FStep.app_ws T rfl rfl rfl rfl rfl rfl rfl (by decide) (by decide) rfl rfl (fun _=>rfl) (needT (hx298)) rfl) (by simp [namesIn]) (Nat.le_succ _) rfl ?_
 refine AD.pure T (d:=.g [y73,x271,(0:Int)]) rfl rfl rfl ?_
 refine AD.q (FStep.mk T (f:=encRank) (l:=[(Rank.mk y73 x271 0)]) rfl rfl rfl rfl rfl rfl rfl rfl rfl (fun _=>rfl) rfl rfl rfl rfl) (by simp [namesIn]) (Nat.le_succ _) rfl ?_
 refine AD.k rfl rfl (FStep.app_rv T rfl rfl rfl rfl rfl rfl rfl (by decide) rfl rfl rfl rfl (fun _=>rfl) (needT (hx300)) rfl) rfl rfl rfl ?_
 iterate 2 refine AD.pure T rfl rfl rfl ?_
 refine AD.val rfl rfl (slice_lo_map_ok T rfl rfl rfl rfl rfl (hx302) (fun _=>rfl)) ?_
 refine AD.nil (AO.step rfl (app_rs_map T rfl 53 rfl rfl rfl rfl rfl (by decide) (by decide) rfl rfl rfl (fun _=>rfl) (needT (hx304)) rfl rfl) ?_)
 refine AO.pu T ?_
 refine AO.nil ?_
 refine ⟨_,someE hH,?_⟩
 exact Le.ct 53 47
 rintro v266 hs
 subst hs
 replace hH:=hK268
 try dsimp only [flow,flowE] at hH
 try dsimp only
 refine AW.region (AO.val rfl rfl (ar_ok rfl rfl rfl rfl (inI_succ hlt77 hb76)) ?_)
 refine AO.pu T ?_
 refine AO.nil ?_
 refine ⟨(k72+1,v266),⟨Nat.succ_le_of_lt hlt77,(by rw [drop_succ_of hd75];exact hH)⟩,(by have:=hlt77;dsimp only;omega),?_⟩
 exact Le.ct 47 35
 rw [hd4,spec_wlList_l1] at hH
 have hlt6:=drop_lt hd4
 refine AW.seq (AW.region (AO.pu T ?_))
 refine AO.nil (AW.seq (AW.condT' (b:=decide ((k1:Int) < (w.seasons.length:Int))) rfl (rngT hlt6) ?_))
 refine AW.skip ?_
 obtain ⟨o320,hH,hK321⟩:=bindE hH
 refine AW.seqJ (fun s:List Int=>(⟨[(1,.p 1 0),(3,.s (List.map encInt s)),(17,.s (List.map encSeason w.seasons)),(18,(w.seasons.length:Int)),(19,(k1:Int))],[(1,.box [.s (List.map encSeason w.seasons),.s (List.map encInt w.weights)])],121,[]⟩:St)) (fun s=>s=o320) ?_ ?_
 refine AW.block (AW.seq (AW.region ?_))
 refine AO.val rfl rfl (ix_map_ok T rfl rfl rfl rfl rfl (getI_drop hd4) rfl) ?_
 refine AO.pu T (d:=.g [y2.best,.s (List.map encLine y2.lines)]) ?_
 refine AO.step rfl (alloc_ok T rfl 58 rfl rfl rfl rfl rfl) ?_
 refine AO.se T [y2.best,.s (List.map encLine y2.lines)] ?_
 refine AO.nil (AW.seq (AW.region ?_))
 iterate 2 refine AO.pu T ?_
 refine AO.val rfl rfl (len_map_ok T rfl rfl rfl) ?_
 refine AO.pu T ?_
 refine AO.nil (AW.block ?_)
 refine AW.loopS (fun s:Nat × (List Int)=>(⟨[(1,.p 1 0),(3,.s (List.map encInt s.2)),(17,.s (List.map encSeason w.seasons)),(18,(w.seasons.length:Int)),(19,(k1:Int)),(24,.s (List.map encLine y2.lines)),(25,(y2.lines.length:Int)),(26,(s.1:Int))],[(1,.box [.s (List.map encSeason w.seasons),.s (List.map encInt w.weights)])],121,[]⟩:St)) (fun s=>s.1 ≤ y2.lines.length∧spec_wlList_l5 fuel (y2.lines.drop s.1) s.1 s.2=some o320) (fun s=>y2.lines.length - s.1) (0,v70) ⟨Nat.zero_le _,hH⟩ ?_ ?_
 exact Le.ct 0 0
 rintro ⟨k322,v333⟩ ⟨hk,hH⟩
 replace hH:spec_wlList_l5 fuel (y2.lines.drop k322) k322 v333=some o320:=hH
 try dsimp only
 refine AW.boundM (t:=24) (l:=y2.lines) rfl (fun hb326=>?_)
 rcases hd325:y2.lines.drop k322 with _ | ⟨y323,ys324⟩
 rw [hd325,spec_wlList_l5] at hH
 have hlt327:=drop_ge hd325
 refine AW.seq (AW.region (AO.pu T ?_))
 refine AO.nil (AW.seq (AW.condF' (b:=decide ((k322:Int) < (y2.lines.length:Int))) rfl (rngF hlt327) ?_))
 refine AW.exit ?_
 refine ⟨_,someE hH,?_⟩
 exact Le.ct 0 0
 rw [hd325,spec_wlList_l5] at hH
 have hlt327:=drop_lt hd325
 refine AW.seq (AW.region (AO.pu T ?_))
 refine AO.nil (AW.seq (AW.condT' (b:=decide ((k322:Int) < (y2.lines.length:Int))) rfl (rngT hlt327) ?_))
 refine AW.skip (AW.seq ?_)
 refine AW.block (AW.seq (AW.region ?_))
 refine AO.val rfl rfl (ix_map_ok T rfl rfl rfl rfl rfl (getI_drop hd325) rfl) ?_
 refine AO.pu T (d:=.g [y323.skater,.s (List.map encInt y323.events),.s (List.map encInt y323.points)]) ?_
 refine AO.step rfl (alloc_ok T rfl 61 rfl rfl rfl rfl rfl) ?_
 refine AO.se T [y323.skater,.s (List.map encInt y323.events),.s (List.map encInt y323.points)] ?_
 refine AO.nil ?_
 obtain ⟨x335,hx336,hH⟩:=bindE hH
 refine AW.region ?_
 iterate 3 refine AO.pu T ?_
 refine AO.val rfl rfl (callV_ok rfl rfl rfl rfl (spec_l1Put_ok fuel _ _ _ (hx336)) rfl) ?_
 refine AO.pu T ?_
 refine AO.nil (AW.region ?_)
 refine AO.val rfl rfl (ar_ok rfl rfl rfl rfl (inI_succ hlt327 hb326)) ?_
 refine AO.pu T ?_
 refine AO.nil ?_
 refine ⟨(k322+1,x335),⟨Nat.succ_le_of_lt hlt327,(by rw [drop_succ_of hd325];exact hH)⟩,(by have:=hlt327;dsimp only;omega),?_⟩
 exact Le.ct 0 0
 rintro v319 hs
 subst hs
 replace hH:=hK321
 try dsimp only [flow,flowE] at hH
 try dsimp only
 refine AW.region (AO.val rfl rfl (ar_ok rfl rfl rfl rfl (inI_succ hlt6 hb5)) ?_)
 refine AO.pu T ?_
 refine AO.nil ?_
 refine ⟨(k1+1,v319),⟨Nat.succ_le_of_lt hlt6,(by rw [drop_succ_of hd4];exact hH)⟩,(by have:=hlt6;dsimp only;omega),?_⟩
 exact Le.ct 0 0

def spec_wlPlace_l1 (skater:Int):List Rank→Nat→Option Int
  | [],k1 =>
    some 0
  | y2::ys3,k1 =>
    cond (y2.skater == skater)
      (some y2.place)
      (spec_wlPlace_l1 skater ys3 (k1+1))
def spec_wlPlace_p (l:List Rank) (skater:Int):Option Int :=
  spec_wlPlace_l1 skater l 0
theorem spec_wlPlace_ok (l:List Rank) (skater:Int) (r:Int) (hH:spec_wlPlace_p l skater=some r):SpecR Tryz.prog 57 [.s (List.map encRank l),skater] (.v (.int .i64 r)):=by
 refine fn_ok T Tryz.func57 rfl (by decide) rfl ?_
 refine AW.seq (AW.region (AO.pu T ?_))
 refine AO.nil ?_
 iterate 2 refine AW.seq ?_
 refine AW.region (AO.pu T ?_)
 refine AO.val rfl rfl (len_map_ok T rfl rfl rfl) ?_
 refine AO.pu T ?_
 refine AO.nil (AW.block ?_)
 refine AW.loopS (fun s:Nat=>(⟨[(1,skater),(7,.s (List.map encRank l)),(8,(l.length:Int)),(9,(s:Int))],[],20,[]⟩:St)) (fun s=>s ≤ l.length∧spec_wlPlace_l1 skater (l.drop s) s=some r) (fun s=>l.length - s) 0 ⟨Nat.zero_le _,hH⟩ ?_ ?_
 exact Le.ct 0 0
 rintro k1 ⟨hk,hH⟩
 replace hH:spec_wlPlace_l1 skater (l.drop k1) k1=some r:=hH
 try dsimp only
 refine AW.boundM (t:=7) (l:=l) rfl (fun hb5=>?_)
 rcases hd4:l.drop k1 with _ | ⟨y2,ys3⟩
 rw [hd4,spec_wlPlace_l1] at hH
 have hlt6:=drop_ge hd4
 refine AW.seq (AW.region (AO.pu T ?_))
 refine AO.nil (AW.seq (AW.condF' (b:=decide ((k1:Int) < (l.length:Int))) rfl (rngF hlt6) ?_))
 refine AW.exit (AW.seq (AW.region ?_))
 refine AO.pu T ?_
 refine AO.nil (AW.ret ?_)
 have hR:=someE hH;subst hR
 exact retQ.i [] rfl (.c (.c .v))
 rw [hd4,spec_wlPlace_l1] at hH
 have hlt6:=drop_lt hd4
 refine AW.seq (AW.region (AO.pu T ?_))
 refine AO.nil (AW.seq (AW.condT' (b:=decide ((k1:Int) < (l.length:Int))) rfl (rngT hlt6) ?_))
 refine AW.skip (AW.seq ?_)
 refine AW.block (AW.seq (AW.region ?_))
 refine AO.val rfl rfl (ix_map_ok T rfl rfl rfl rfl rfl (getI_drop hd4) rfl) ?_
 refine AO.pu T (d:=.g [y2.skater,y2.total,y2.place]) ?_
 refine AO.step rfl (alloc_ok T rfl 3 rfl rfl rfl rfl rfl) ?_
 refine AO.se T [y2.skater,y2.total,y2.place] ?_
 refine AO.nil (AW.seq (AW.region ?_))
 iterate 4 refine AO.pu T ?_
 refine AO.nil (AW.cond (b:=(y2.skater == skater)) rfl (fun hc=>?_) (fun hc=>?_))
 replace hH:=condT hc hH
 refine AW.seq (AW.region ?_)
 iterate 3 refine AO.pu T ?_
 refine AO.nil (AW.ret ?_)
 have hR:=someE hH;subst hR
 exact retQ.i [] rfl (.c (.c .v))
 replace hH:=condF hc hH
 refine AW.skip (AW.region ?_)
 refine AO.val rfl rfl (ar_ok rfl rfl rfl rfl (inI_succ hlt6 hb5)) ?_
 refine AO.pu T ?_
 refine AO.nil ?_
 refine ⟨k1+1,⟨Nat.succ_le_of_lt hlt6,(by rw [drop_succ_of hd4];exact hH)⟩,(by have:=hlt6;dsimp only;omega),?_⟩
 exact Le.ct 0 0

def spec_RankChanges_l2 (x5:(List Rank)) (x7:(List Rank)):List Int→Nat→List (List Int)→Option (((List (List Int)) × Bool))
  | [],k22,v41 =>
    some (v41,true)
  | y23::ys24,k22,v41 =>
    (spec_wlPlace_p x5 y23).bind fun x43 =>
    (spec_wlPlace_p x7 y23).bind fun x45 =>
    cond (decide (x45 > 0) && (x43 != x45))
      ((need (fitsB 24 (v41.length+([[y23,x43,x45]]).length))).bind fun u47 =>
      spec_RankChanges_l2 x5 x7 ys24 (k22+1) (v41++[[y23,x43,x45]]))
      (spec_RankChanges_l2 x5 x7 ys24 (k22+1) v41)
def spec_RankChanges_l1 (fuel:Nat) (x5:(List Rank)) (x7:(List Rank)):List Rank→Nat→List Int→Option (((List (List Int)) × Bool))
  | [],k9,v20 =>
    spec_RankChanges_l2 x5 x7 v20 0 []
  | y10::ys11,k9,v20 =>
    (spec_l1Put_p fuel v20 y10.skater).bind fun x49 =>
    spec_RankChanges_l1 fuel x5 x7 ys11 (k9+1) x49
def spec_RankChanges_p (fuel:Nat) (a:World) (b:World):Option ((List (List Int)) × Bool) :=
  (spec_wlGood_p a).bind fun x1 =>
  (opt (!(!x1)) default (spec_wlGood_p b)).bind fun x3 =>
  cond ((!x1) || (!x3))
    (some ([],false))
    ((spec_wlList_p fuel a).bind fun x5 =>
    (spec_wlList_p fuel b).bind fun x7 =>
    spec_RankChanges_l1 fuel x5 x7 x5 0 [])
theorem spec_RankChanges_ok (fuel:Nat) (a:World) (b:World) (r:((List (List Int)) × Bool)) (hH:spec_RankChanges_p fuel a b=some r):SpecR Tryz.prog 28 [.g (encWorld a),.g (encWorld b)] (.t [.w 1 (r.1.map encLInt),.v (.bool r.2)]):=by
 refine fn_ok T Tryz.func28 rfl (by decide) rfl ?_
 refine AW.seq (AW.region (AO.step rfl (box_ok T rfl 1 rfl rfl rfl rfl) ?_))
 refine AO.step rfl (box_ok T rfl 2 rfl rfl rfl rfl) ?_
 iterate 2 refine AO.pu T ?_
 refine AO.nil ?_
 iterate 2 refine AW.seq ?_
 obtain ⟨x1,hx2,hH⟩:=bindE hH
 obtain ⟨x3,hx4,hH⟩:=bindE hH
 refine AW.region (AO.pu T (d:=.g [.s (List.map encSeason a.seasons),.s (List.map encInt a.weights)]) ?_)
 refine AO.val rfl rfl (callV_ok rfl rfl rfl rfl (spec_wlGood_ok _ _ (hx2)) rfl) ?_
 iterate 2 refine AO.pu T ?_
 refine AO.pureG T (d:=.g [.s (List.map encSeason b.seasons),.s (List.map encInt b.weights)]) [] rfl trivial rfl rfl ?_
 refine AO.guard [20] rfl ⟨fun h=>h,trivial⟩ (fun hg=>callV_ok rfl rfl rfl rfl (spec_wlGood_ok _ _ (optT hx4 hg)) rfl) rfl ?_
 refine AO.pureG T [21] rfl ⟨fun h=>h,trivial⟩ rfl rfl ?_
 refine AO.val rfl rfl (pick_or rfl rfl rfl rfl) ?_
 refine AO.nil (AW.cond (b:=((!x1) || (!x3))) rfl (fun hc=>?_) (fun hc=>?_))
 replace hH:=condT hc hH
 refine AW.seq (AW.region ?_)
 iterate 2 refine AO.pu T ?_
 refine AO.nil (AW.ret ?_)
 have hR:=someE hH;subst hR
 exact retQ.i [] rfl (.t (expLG_cons (.c .nil) (expLG_cons (.c .v) (expLG_nil))))
 replace hH:=condF hc hH
 refine AW.skip (AW.seq ?_)
 obtain ⟨x5,hx6,hH⟩:=bindE hH
 obtain ⟨x7,hx8,hH⟩:=bindE hH
 refine AW.drawn 3 3 [] mix (by kernel_rfl) rfl ?_
 refine AD.pure T (d:=.g [.s (List.map encSeason a.seasons),.s (List.map encInt a.weights)]) rfl rfl rfl ?_
 refine AD.q (FStep.call rfl rfl rfl rfl rfl (spec_wlList_ok fuel _ _ (hx6)) rfl rfl) (impT_names _ _) (impT_le _ _) rfl ?_
 refine AD.pure T (d:=.g [.s (List.map encSeason b.seasons),.s (List.map encInt b.weights)]) rfl rfl rfl ?_
 refine AD.nil (AO.step rfl (call_ok rfl 4 rfl rfl rfl (spec_wlList_ok fuel _ _ (hx8)) rfl rfl rfl) ?_)
 iterate 2 refine AO.pu T ?_
 refine AO.nil (AW.seq (AW.region ?_))
 refine AO.pu T ?_
 refine AO.nil ?_
 iterate 2 refine AW.seq ?_
 refine AW.region (AO.pu T ?_)
 refine AO.val rfl rfl (len_row_ok T rfl rfl rfl rfl) ?_
 refine AO.pu T ?_
 refine AO.nil (AW.block ?_)
 refine AW.loopS (fun s:Nat × (List Int)=>(⟨[(6,.R 3),(7,.R 4),(8,.s (List.map encInt s.2)),(28,.R 3),(29,(x5.length:Int)),(30,(s.1:Int))],[(3,.row 3 (List.map encRank x5)),(4,.row 3 (List.map encRank x7))],67,[]⟩:St)) (fun s=>s.1 ≤ x5.length∧spec_RankChanges_l1 fuel x5 x7 (x5.drop s.1) s.1 s.2=some r) (fun s=>x5.length - s.1) (0,[]) ⟨Nat.zero_le _,hH⟩ ?_ ?_
 refine Le.trans (Le.nilS 8 rfl) ?_
 exact Le.ct 0 0
 rintro ⟨k9,v20⟩ ⟨hk,hH⟩
 replace hH:spec_RankChanges_l1 fuel x5 x7 (x5.drop k9) k9 v20=some r:=hH
 try dsimp only
 refine AW.boundR (id:=3) (l:=x5) rfl (fun hb13=>?_)
 rcases hd12:x5.drop k9 with _ | ⟨y10,ys11⟩
 rw [hd12,spec_RankChanges_l1] at hH
 have hlt14:=drop_ge hd12
 refine AW.seq (AW.region (AO.pu T ?_))
 refine AO.nil (AW.seq (AW.condF' (b:=decide ((k9:Int) < (x5.length:Int))) rfl (rngF hlt14) ?_))
 refine AW.exit (AW.seq (AW.region ?_))
 refine AO.pu T ?_
 refine AO.nil ?_
 iterate 2 refine AW.seq ?_
 refine AW.region (AO.pu T ?_)
 refine AO.val rfl rfl (len_map_ok T rfl rfl rfl) ?_
 refine AO.pu T ?_
 refine AO.nil (AW.block ?_)
 refine AW.loopS (fun s:Nat × (List (List Int))=>(⟨[(6,.R 3),(7,.R 4),(11,.R 12),(39,.s (List.map encInt v20)),(40,(v20.length:Int)),(41,(s.1:Int))],[(3,.row 3 (List.map encRank x5)),(4,.row 3 (List.map encRank x7)),(12,.row 1 (List.map encLInt s.2))],67,[]⟩:St)) (fun s=>s.1 ≤ v20.length∧spec_RankChanges_l2 x5 x7 (v20.drop s.1) s.1 s.2=some r) (fun s=>v20.length - s.1) (0,[]) ⟨Nat.zero_le _,hH⟩ ?_ ?_
 refine Le.trans (Le.void 11 12 1 rfl rfl) ?_
 exact Le.ct 0 0
 rintro ⟨k22,v41⟩ ⟨hk,hH⟩
 replace hH:spec_RankChanges_l2 x5 x7 (v20.drop k22) k22 v41=some r:=hH
 try dsimp only
 refine AW.boundM (t:=39) (l:=v20) rfl (fun hb26=>?_)
 rcases hd25:v20.drop k22 with _ | ⟨y23,ys24⟩
 rw [hd25,spec_RankChanges_l2] at hH
 have hlt27:=drop_ge hd25
 refine AW.seq (AW.region (AO.pu T ?_))
 refine AO.nil (AW.seq (AW.condF' (b:=decide ((k22:Int) < (v20.length:Int))) rfl (rngF hlt27) ?_))
 refine AW.exit (AW.seq (AW.region ?_))
 iterate 3 refine AO.pu T ?_
 refine AO.nil (AW.ret ?_)
 have hR:=someE hH;subst hR
 exact retQ.i [12] rfl (.t (expLG_cons (.c (.rowR rfl)) (expLG_cons (.c .v) (expLG_nil))))
 rw [hd25,spec_RankChanges_l2] at hH
 have hlt27:=drop_lt hd25
 refine AW.seq (AW.region (AO.pu T ?_))
 refine AO.nil (AW.seq (AW.condT' (b:=decide ((k22:Int) < (v20.length:Int))) rfl (rngT hlt27) ?_))
 refine AW.skip (AW.seq ?_)
 refine AW.block (AW.seq (AW.region ?_))
 refine AO.val rfl rfl (ix_map_ok T rfl rfl rfl rfl rfl (getI_drop hd25) rfl) ?_
 iterate 2 refine AO.pu T ?_
 refine AO.nil (AW.seq ?_)
 obtain ⟨x43,hx44,hH⟩:=bindE hH
 obtain ⟨x45,hx46,hH⟩:=bindE hH
 refine AW.region ?_
 iterate 2 refine AO.pu T ?_
 refine AO.val rfl rfl (callLV_ok rfl rfl rfl (es:=[.s (List.map encRank x5),y23]) ⟨(.rowR rfl (.map fun y=>.vs rfl)),.free rfl,trivial⟩ (spec_wlPlace_ok _ _ _ (hx44)) (zfree_v _) rfl) ?_
 iterate 2 refine AO.pu T ?_
 refine AO.val rfl rfl (callLV_ok rfl rfl rfl (es:=[.s (List.map encRank x7),y23]) ⟨(.rowR rfl (.map fun y=>.vs rfl)),.free rfl,trivial⟩ (spec_wlPlace_ok _ _ _ (hx46)) (zfree_v _) rfl) ?_
 iterate 2 refine AO.pu T ?_
 refine AO.nil (AW.seq (AW.region ?_))
 iterate 3 refine AO.pu T ?_
 iterate 2 refine AO.pureG T [] rfl trivial rfl rfl ?_
 refine AO.pureG T [54,55] rfl ⟨fun h=>h,fun h=>h,trivial⟩ rfl rfl ?_
 refine AO.val rfl rfl (pick_and rfl rfl rfl rfl) ?_
 refine AO.nil (AW.cond (b:=(decide (x45 > 0) && (x43 != x45))) rfl (fun hc=>?_) (fun hc=>?_))
 replace hH:=condT hc hH
 obtain ⟨u47,hx48,hH⟩:=bindE hH
 refine AW.region ?_
 iterate 4 refine AO.pu T ?_
 refine AO.step rfl (mk_map_ok T rfl 13 rfl rfl rfl rfl rfl (f:=encInt) (l:=[y23,x43,x45]) rfl rfl (fun _=>rfl) rfl rfl rfl rfl rfl) ?_
 refine AO.le (Le.freezeM 13 (g:=encInt) rfl (fun y=>.vs rfl)) ?_
 refine AO.step rfl (mk_map_ok T rfl 14 rfl rfl rfl rfl rfl (f:=encLInt) (l:=[[y23,x43,x45]]) rfl rfl (fun _=>rfl) rfl rfl rfl rfl rfl) ?_
 refine AO.step rfl (app_rv_map T rfl 15 rfl rfl rfl rfl rfl (by decide) rfl rfl rfl rfl (fun _=>rfl) (needT (hx48)) rfl rfl) ?_
 refine AO.pu T ?_
 refine AO.nil (AW.le (Le.ct 0 0 (σ':=(⟨[(6,.R 3),(7,.R 4),(11,.R 15),(39,.s (List.map encInt v20)),(40,(v20.length:Int)),(41,(k22:Int))],[(3,.row 3 (List.map encRank x5)),(4,.row 3 (List.map encRank x7)),(15,.row 1 (List.map encLInt (v41++[[y23,x43,x45]])))],67,[]⟩:St))) ?_)
 refine AW.region (AO.val rfl rfl (ar_ok rfl rfl rfl rfl (inI_succ hlt27 hb26)) ?_)
 refine AO.pu T ?_
 refine AO.nil ?_
 refine ⟨(k22+1,(v41++[[y23,x43,x45]])),⟨Nat.succ_le_of_lt hlt27,(by rw [drop_succ_of hd25];exact hH)⟩,(by have:=hlt27;dsimp only;omega),?_⟩
 exact Le.ct 15 12
 replace hH:=condF hc hH
 refine AW.skip (AW.region ?_)
 refine AO.val rfl rfl (ar_ok rfl rfl rfl rfl (inI_succ hlt27 hb26)) ?_
 refine AO.pu T ?_
 refine AO.nil ?_
 refine ⟨(k22+1,v41),⟨Nat.succ_le_of_lt hlt27,(by rw [drop_succ_of hd25];exact hH)⟩,(by have:=hlt27;dsimp only;omega),?_⟩
 exact Le.ct 0 0
 rw [hd12,spec_RankChanges_l1] at hH
 have hlt14:=drop_lt hd12
 refine AW.seq (AW.region (AO.pu T ?_))
 refine AO.nil (AW.seq (AW.condT' (b:=decide ((k9:Int) < (x5.length:Int))) rfl (rngT hlt14) ?_))
 refine AW.skip (AW.seq ?_)
 refine AW.block (AW.seq (AW.region ?_))
 refine AO.val rfl rfl (ix_row_ok T rfl rfl rfl rfl rfl rfl (getI_drop hd12)) ?_
 refine AO.val rfl rfl (load_row_ok T rfl rfl rfl rfl (getI_get (getI_drop hd12)) rfl rfl rfl) ?_
 refine AO.step rfl (alloc_ok T rfl 16 rfl rfl rfl rfl rfl) ?_
 refine AO.se T [y10.skater,y10.total,y10.place] ?_
 refine AO.nil ?_
 obtain ⟨x49,hx50,hH⟩:=bindE hH
 refine AW.region ?_
 iterate 3 refine AO.pu T ?_
 refine AO.val rfl rfl (callV_ok rfl rfl rfl rfl (spec_l1Put_ok fuel _ _ _ (hx50)) rfl) ?_
 refine AO.pu T ?_
 refine AO.nil (AW.region ?_)
 refine AO.val rfl rfl (ar_ok rfl rfl rfl rfl (inI_succ hlt14 hb13)) ?_
 refine AO.pu T ?_
 refine AO.nil ?_
 refine ⟨(k9+1,x49),⟨Nat.succ_le_of_lt hlt14,(by rw [drop_succ_of hd12];exact hH)⟩,(by have:=hlt14;dsimp only;omega),?_⟩
 exact Le.ct 0 0

def laws_sameLists_l1 (b:List (List Int)):List (List Int)→Nat→Option Bool
  | [],k1 =>
    some true
  | y2::ys3,k1 =>
    (getI b (k1:Int)).bind fun x16 =>
    (laws_sameInts_p y2 x16).bind fun x18 =>
    cond (!x18)
      (some false)
      (laws_sameLists_l1 b ys3 (k1+1))
def laws_sameLists_p (a:List (List Int)) (b:List (List Int)):Option Bool :=
  cond ((a.length:Int) != (b.length:Int))
    (some false)
    (laws_sameLists_l1 b a 0)
theorem laws_sameLists_ok (a:List (List Int)) (b:List (List Int)) (r:Bool) (hH:laws_sameLists_p a b=some r):SpecR Tryz.prog 29 [.s (List.map encLInt a),.s (List.map encLInt b)] (.v (.bool r)):=by
 refine fn_ok T Tryz.func29 rfl (by decide) rfl ?_
 refine AW.seq (AW.region (AO.pu T ?_))
 refine AO.nil ?_
 iterate 2 refine AW.seq ?_
 refine AW.region (AO.pu T ?_)
 refine AO.val rfl rfl (len_map_ok T rfl rfl rfl) ?_
 refine AO.pu T ?_
 refine AO.val rfl rfl (len_map_ok T rfl rfl rfl) ?_
 refine AO.pu T ?_
 refine AO.nil (AW.cond (b:=((a.length:Int) != (b.length:Int))) rfl (fun hc=>?_) (fun hc=>?_))
 replace hH:=condT hc hH
 refine AW.seq (AW.region (AO.pu T ?_))
 refine AO.nil (AW.ret ?_)
 have hR:=someE hH;subst hR
 exact retQ.i [] rfl (.c (.c .v))
 replace hH:=condF hc hH
 refine AW.skip ?_
 iterate 2 refine AW.seq ?_
 refine AW.region (AO.pu T ?_)
 refine AO.val rfl rfl (len_map_ok T rfl rfl rfl) ?_
 refine AO.pu T ?_
 refine AO.nil (AW.block ?_)
 refine AW.loopS (fun s:Nat=>(⟨[(0,.s (List.map encLInt a)),(1,.s (List.map encLInt b)),(12,(a.length:Int)),(13,(s:Int))],[],27,[]⟩:St)) (fun s=>s ≤ a.length∧laws_sameLists_l1 b (a.drop s) s=some r) (fun s=>a.length - s) 0 ⟨Nat.zero_le _,hH⟩ ?_ ?_
 exact Le.ct 0 0
 rintro k1 ⟨hk,hH⟩
 replace hH:laws_sameLists_l1 b (a.drop k1) k1=some r:=hH
 try dsimp only
 refine AW.boundM (t:=0) (l:=a) rfl (fun hb5=>?_)
 rcases hd4:a.drop k1 with _ | ⟨y2,ys3⟩
 rw [hd4,laws_sameLists_l1] at hH
 have hlt6:=drop_ge hd4
 refine AW.seq (AW.region (AO.pu T ?_))
 refine AO.nil (AW.seq (AW.condF' (b:=decide ((k1:Int) < (a.length:Int))) rfl (rngF hlt6) ?_))
 refine AW.exit (AW.seq (AW.region ?_))
 refine AO.pu T ?_
 refine AO.nil (AW.ret ?_)
 have hR:=someE hH;subst hR
 exact retQ.i [] rfl (.c (.c .v))
 rw [hd4,laws_sameLists_l1] at hH
 have hlt6:=drop_lt hd4
 refine AW.seq (AW.region (AO.pu T ?_))
 refine AO.nil (AW.seq (AW.condT' (b:=decide ((k1:Int) < (a.length:Int))) rfl (rngT hlt6) ?_))
 refine AW.skip (AW.seq ?_)
 refine AW.block (AW.seq (AW.region ?_))
 iterate 2 refine AO.pu T ?_
 refine AO.nil (AW.seq ?_)
 obtain ⟨x16,hx17,hH⟩:=bindE hH
 obtain ⟨x18,hx19,hH⟩:=bindE hH
 refine AW.drawn 8 1 [] mix (by kernel_rfl) rfl ?_
 iterate 2 refine AD.pure T rfl rfl rfl ?_
 refine AD.val rfl rfl (ix_map_ok T rfl rfl rfl rfl rfl (getI_drop hd4) rfl) ?_
 iterate 3 refine AD.pure T rfl rfl rfl ?_
 refine AD.val rfl rfl (ix_map_ok T rfl rfl rfl rfl rfl (hx17) rfl) ?_
 refine AD.pure T rfl rfl rfl ?_
 refine AD.nil (AO.val rfl rfl (callV_ok rfl rfl rfl rfl (laws_sameInts_ok _ _ _ (hx19)) rfl) ?_)
 refine AO.pu T ?_
 refine AO.nil (AW.cond (b:=(!x18)) rfl (fun hc=>?_) (fun hc=>?_))
 replace hH:=condT hc hH
 refine AW.seq (AW.region (AO.pu T ?_))
 refine AO.nil (AW.ret ?_)
 have hR:=someE hH;subst hR
 exact retQ.i [] rfl (.c (.c .v))
 replace hH:=condF hc hH
 refine AW.skip (AW.region ?_)
 refine AO.val rfl rfl (ar_ok rfl rfl rfl rfl (inI_succ hlt6 hb5)) ?_
 refine AO.pu T ?_
 refine AO.nil ?_
 refine ⟨k1+1,⟨Nat.succ_le_of_lt hlt6,(by rw [drop_succ_of hd4];exact hH)⟩,(by have:=hlt6;dsimp only;omega),?_⟩
 exact Le.ct 0 0

def spec_DrawNewSeason_p (fuel:Nat) (code:List Int):Option (World × Int) :=
  (spec_l1Cur_world_p fuel (L1Cur.mk code 0 0)).bind fun x1 =>
  (spec_l1Cur_among_p (L1Cur.mk x1.1.code x1.1.at' x1.1.seed) ([1,2,9,10,0]:List Int)).bind fun x3 =>
  some ((World.mk x1.2.seasons x1.2.weights),x3.2)
theorem spec_DrawNewSeason_ok (fuel:Nat) (code:List Int) (r:(World × Int)) (hH:spec_DrawNewSeason_p fuel code=some r):SpecR Tryz.prog 30 [.s (List.map encInt_u8 code)] (.t [.g (encWorld r.1),.v (.int .i64 r.2)]):=by
 refine fn_ok T Tryz.func30 rfl (by decide) rfl ?_
 refine AW.seq (AW.region (AO.step rfl (alloc_ok T rfl 1 rfl rfl rfl rfl rfl) ?_))
 refine AO.pu T ?_
 refine AO.nil (AW.seq (AW.region ?_))
 refine AO.pu T ?_
 refine AO.pu T (d:=.g [.s (List.map encInt_u8 code),(0:Int),.v (.int .u64 0)]) ?_
 refine AO.step rfl (box_ok T rfl 2 rfl rfl rfl rfl) ?_
 refine AO.pu T ?_
 refine AO.nil (AW.seq ?_)
 obtain ⟨x1,hx2,hH⟩:=bindE hH
 obtain ⟨x3,hx4,hH⟩:=bindE hH
 refine AW.region (AO.pu T ?_)
 refine AO.step rfl (callM_ok rfl 3 rfl rfl (es:=[.pw (encL1Cur (L1Cur.mk code 0 0))]) (outs:=[.pw (encL1Cur x1.1)]) (ids:=[2]) (by exact expLG_cons (.c (.box rfl rfl)) (expLG_nil)) (by decide) (.inl (by rfl)) (by rfl) (spec_l1Cur_world_ok fuel _ _ (hx2)) rfl (by rfl) rfl) ?_
 refine AO.pu T ?_
 refine AO.step rfl (mk_map_ok T rfl 3 rfl rfl rfl rfl rfl (f:=encInt) (l:=([1,2,9,10,0]:List Int)) rfl rfl (fun _=>rfl) rfl rfl rfl rfl rfl) ?_
 refine AO.le (Le.freezeM 3 (g:=encInt) rfl (fun y=>.vs rfl)) ?_
 refine AO.step rfl (callM_ok rfl 4 rfl rfl (es:=[.pw (encL1Cur (L1Cur.mk x1.1.code x1.1.at' x1.1.seed)),.s (([1,2,9,10,0]:List Int).map encInt)]) (outs:=[.pw (encL1Cur x3.1),.u]) (ids:=[2]) (by exact expLG_cons (.c (.box rfl rfl)) (expLG_cons (.c .s) (expLG_nil))) (by decide) (.inl (by rfl)) (by rfl) (spec_l1Cur_among_ok _ _ _ (hx4)) rfl (by rfl) rfl) ?_
 refine AO.se T [.s (List.map encSeason x1.2.seasons),.s (List.map encInt x1.2.weights)] ?_
 refine AO.pu T ?_
 refine AO.nil (AW.ret ?_)
 have hR:=someE hH;subst hR
 exact retQ.i [] rfl (.t (expLG_cons (.g (expLC_cons .s (expLC_cons .s (expLC_nil)))) (expLG_cons (.c .v) (expLG_nil))))

def impl_NewSeason_l1 (w:World) (x5:(List Int)):List Season→Nat→List Season→Option ((World × Bool))
  | [],k9,v24 =>
    cond (decide ((w.seasons.length:Int) < 3))
      ((getI w.weights (w64 ((w.weights.length:Int) - 1))).bind fun x26 =>
      (need (fitsB 8 (x5.length+([x26]).length))).bind fun u28 =>
      some ((World.mk v24 (x5++[x26])),true))
      (some ((World.mk v24 x5),true))
  | y10::ys11,k9,v24 =>
    (impl_copySeason_p y10).bind fun x30 =>
    (need (fitsB 32 (v24.length+([x30]).length))).bind fun u32 =>
    impl_NewSeason_l1 w x5 ys11 (k9+1) (v24++[x30])
def impl_NewSeason_p (fuel:Nat) (w:World) (best:Int):Option (World × Bool) :=
  (impl_IsWorld_p fuel w).bind fun x1 =>
  (opt (!(!x1)) default (impl_isBest_p best)).bind fun x3 =>
  cond ((!x1) || (!x3))
    (some ((World.mk [] []),false))
    ((impl_copyInts_p w.weights).bind fun x5 =>
    (sliceHi w.seasons (min (w.seasons.length:Int) 2)).bind fun x7 =>
    impl_NewSeason_l1 w x5 x7 0 [(Season.mk best [])])
theorem impl_NewSeason_ok (fuel:Nat) (w:World) (best:Int) (r:(World × Bool)) (hH:impl_NewSeason_p fuel w best=some r):SpecR Tryz.prog 31 [.g (encWorld w),best] (.t [.g (encWorldO r.1),.v (.bool r.2)]):=by
 refine fn_ok T Tryz.func31 rfl (by decide) rfl ?_
 refine AW.seq (AW.region (AO.step rfl (box_ok T rfl 1 rfl rfl rfl rfl) ?_))
 refine AO.step rfl (alloc_ok T rfl 2 rfl rfl rfl rfl rfl) ?_
 refine AO.pu T ?_
 refine AO.nil ?_
 iterate 2 refine AW.seq ?_
 obtain ⟨x1,hx2,hH⟩:=bindE hH
 obtain ⟨x3,hx4,hH⟩:=bindE hH
 refine AW.region (AO.pu T (d:=.g [.s (List.map encSeason w.seasons),.s (List.map encInt w.weights)]) ?_)
 refine AO.val rfl rfl (callV_ok rfl rfl rfl rfl (impl_IsWorld_ok fuel _ _ (hx2)) rfl) ?_
 iterate 2 refine AO.pu T ?_
 refine AO.pureG T [] rfl trivial rfl rfl ?_
 refine AO.guard [13] rfl ⟨fun h=>h,trivial⟩ (fun hg=>callV_ok rfl rfl rfl rfl (impl_isBest_ok _ _ (optT hx4 hg)) rfl) rfl ?_
 refine AO.pureG T [14] rfl ⟨fun h=>h,trivial⟩ rfl rfl ?_
 refine AO.val rfl rfl (pick_or rfl rfl rfl rfl) ?_
 refine AO.nil (AW.cond (b:=((!x1) || (!x3))) rfl (fun hc=>?_) (fun hc=>?_))
 replace hH:=condT hc hH
 refine AW.seq (AW.region (AO.pu T (d:=.g [.w 0 [],.w 0 []]) ?_))
 refine AO.se T [.w 0 [],.w 0 []] ?_
 refine AO.pu T ?_
 refine AO.nil (AW.ret ?_)
 have hR:=someE hH;subst hR
 exact retQ.i [] rfl (.t (expLG_cons (.g (expLC_cons .nil (expLC_cons .nil (expLC_nil)))) (expLG_cons (.c .v) (expLG_nil))))
 replace hH:=condF hc hH
 refine AW.skip (AW.seq ?_)
 obtain ⟨x5,hx6,hH⟩:=bindE hH
 refine AW.region (AO.pu T ?_)
 refine AO.step rfl (mk0_ok T rfl rfl rfl rfl) ?_
 refine AO.pu T (d:=.g [best,.w 3 []]) ?_
 refine AO.step rfl (mk_o_ok T rfl 3 rfl rfl rfl rfl rfl rfl (f:=encSeasonO) (l:=[(Season.mk best [])]) (ids:=[]) rfl rfl (fun _=>rfl) (by exact expLC_cons .v (expLC_cons .nil (expLC_nil))) (by decide) rfl rfl rfl rfl rfl) ?_
 iterate 2 refine AO.pu T ?_
 refine AO.step rfl (call_ok rfl 4 rfl rfl rfl (impl_copyInts_ok _ _ (hx6)) rfl rfl rfl) ?_
 refine AO.pu T (d:=.g [.R 3,.R 4]) ?_
 refine AO.step rfl (alloc_ok T rfl 5 rfl rfl rfl rfl rfl) ?_
 refine AO.se T [.R 3,.R 4] ?_
 refine AO.nil ?_
 iterate 2 refine AW.seq ?_
 obtain ⟨x7,hx8,hH⟩:=bindE hH
 refine AW.region ?_
 iterate 4 refine AO.pu T ?_
 refine AO.val rfl rfl (len_map_ok T rfl rfl rfl) ?_
 refine AO.val rfl rfl (min_ok rfl rfl rfl) ?_
 refine AO.val rfl rfl (slice_hi_map_ok T rfl rfl rfl rfl rfl (hx8) (fun _=>rfl)) ?_
 refine AO.val rfl rfl (len_map_ok T rfl rfl rfl) ?_
 refine AO.pu T ?_
 refine AO.nil (AW.le (Le.ct 0 0 (σ':=(⟨[(2,.p 1 0),(4,.p 2 0),(6,.p 5 0),(32,.s (List.map encSeason x7)),(33,(x7.length:Int)),(34,(0:Int))],[(1,.box [.s (List.map encSeason w.seasons),.s (List.map encInt w.weights)]),(2,.box [.w 0 [],.w 0 []]),(3,.row 2 (List.map encSeasonO [(Season.mk best [])])),(4,.row 1 (List.map encInt x5)),(5,.box [.R 3,.R 4])],64,[]⟩:St))) ?_)
 refine AW.block (AW.loopS (fun s:Nat × (List Season)=>(⟨[(2,.p 1 0),(4,.p 2 0),(6,.p 5 0),(32,.s (List.map encSeason x7)),(33,(x7.length:Int)),(34,(s.1:Int))],[(1,.box [.s (List.map encSeason w.seasons),.s (List.map encInt w.weights)]),(2,.box [.w 0 [],.w 0 []]),(3,.row 2 (List.map encSeasonO s.2)),(4,.row 1 (List.map encInt x5)),(5,.box [.R 3,.R 4])],64,[]⟩:St)) (fun s=>s.1 ≤ x7.length∧impl_NewSeason_l1 w x5 (x7.drop s.1) s.1 s.2=some r) (fun s=>x7.length - s.1) (0,[(Season.mk best [])]) ⟨Nat.zero_le _,hH⟩ ?_ ?_)
 exact Le.ct 0 0
 rintro ⟨k9,v24⟩ ⟨hk,hH⟩
 replace hH:impl_NewSeason_l1 w x5 (x7.drop k9) k9 v24=some r:=hH
 try dsimp only
 refine AW.boundM (t:=32) (l:=x7) rfl (fun hb13=>?_)
 rcases hd12:x7.drop k9 with _ | ⟨y10,ys11⟩
 rw [hd12,impl_NewSeason_l1] at hH
 have hlt14:=drop_ge hd12
 refine AW.seq (AW.region (AO.pu T ?_))
 refine AO.nil (AW.seq (AW.condF' (b:=decide ((k9:Int) < (x7.length:Int))) rfl (rngF hlt14) ?_))
 refine AW.exit ?_
 iterate 2 refine AW.seq ?_
 refine AW.region ?_
 iterate 2 refine AO.pu T ?_
 refine AO.val rfl rfl (len_map_ok T rfl rfl rfl) ?_
 refine AO.pu T ?_
 refine AO.nil (AW.cond (b:=decide ((w.seasons.length:Int) < 3)) rfl (fun hc=>?_) (fun hc=>?_))
 replace hH:=condT hc hH
 obtain ⟨x26,hx27,hH⟩:=bindE hH
 obtain ⟨u28,hx29,hH⟩:=bindE hH
 refine AW.drawn 11 14 [] mix (by kernel_rfl) rfl ?_
 iterate 6 refine AD.pure T rfl rfl rfl ?_
 refine AD.val rfl rfl (len_map_ok T rfl rfl rfl) ?_
 refine AD.val rfl rfl (arw_ok rfl rfl rfl rfl) ?_
 refine AD.val rfl rfl (ix_map_ok T rfl rfl rfl rfl rfl (hx27) rfl) ?_
 refine AD.pure T rfl rfl rfl ?_
 refine AD.q (FStep.mk T (f:=encInt) (l:=[x26]) rfl rfl rfl rfl rfl rfl rfl rfl rfl (fun _=>rfl) rfl rfl rfl rfl) (by simp [namesIn]) (Nat.le_succ _) rfl ?_
 refine AD.nil (AO.step rfl (app_rv_map T rfl 15 rfl rfl rfl rfl rfl (by decide) rfl rfl rfl rfl (fun _=>rfl) (needT (hx29)) rfl rfl) ?_)
 refine AO.pu T ?_
 refine AO.se T [.R 3,.R 15] ?_
 refine AO.nil (AW.seq (AW.region ?_))
 refine AO.pu T (d:=.g [.R 3,.R 15]) ?_
 refine AO.se T [.R 3,.R 15] ?_
 refine AO.pu T ?_
 refine AO.nil (AW.ret ?_)
 have hR:=someE hH;subst hR
 exact retQ.i [3,15] rfl (.t (expLG_cons (.g (expLC_cons (.rowR rfl) (expLC_cons (.rowR rfl) (expLC_nil)))) (expLG_cons (.c .v) (expLG_nil))))
 replace hH:=condF hc hH
 refine AW.skip (AW.seq (AW.region ?_))
 refine AO.pu T (d:=.g [.R 3,.R 4]) ?_
 refine AO.se T [.R 3,.R 4] ?_
 refine AO.pu T ?_
 refine AO.nil (AW.ret ?_)
 have hR:=someE hH;subst hR
 exact retQ.i [3,4] rfl (.t (expLG_cons (.g (expLC_cons (.rowR rfl) (expLC_cons (.rowR rfl) (expLC_nil)))) (expLG_cons (.c .v) (expLG_nil))))
 rw [hd12,impl_NewSeason_l1] at hH
 have hlt14:=drop_lt hd12
 refine AW.seq (AW.region (AO.pu T ?_))
 refine AO.nil (AW.seq (AW.condT' (b:=decide ((k9:Int) < (x7.length:Int))) rfl (rngT hlt14) ?_))
 refine AW.skip (AW.seq ?_)
 refine AW.block (AW.seq (AW.region ?_))
 refine AO.val rfl rfl (ix_map_ok T rfl rfl rfl rfl rfl (getI_drop hd12) rfl) ?_
 refine AO.pu T (d:=.g [y10.best,.s (List.map encLine y10.lines)]) ?_
 refine AO.step rfl (alloc_ok T rfl 16 rfl rfl rfl rfl rfl) ?_
 refine AO.se T [y10.best,.s (List.map encLine y10.lines)] ?_
 refine AO.nil ?_
 obtain ⟨x30,hx31,hH⟩:=bindE hH
 obtain ⟨u32,hx33,hH⟩:=bindE hH
 refine AW.drawn 5 17 [] mix (by kernel_rfl) rfl ?_
 iterate 2 refine AD.pure T rfl rfl rfl ?_
 refine AD.pure T (d:=.g [y10.best,.s (List.map encLine y10.lines)]) rfl rfl rfl ?_
 refine AD.q (FStep.call rfl rfl rfl rfl rfl (impl_copySeason_ok _ _ (hx31)) rfl rfl) (impT_names _ _) (impT_le _ _) rfl ?_
 refine AD.k rfl rfl (FStep.mk_o T rfl rfl rfl rfl rfl rfl rfl rfl (f:=encSeasonO) (l:=[x30]) (ids:=[17]) rfl rfl (fun _=>rfl) (by exact expLC_cons .v (expLC_cons (.rowR rfl) (expLC_nil))) (by decide) rfl rfl rfl rfl) rfl rfl rfl ?_
 refine AD.nil (AO.step rfl (app_rr_map T rfl 19 rfl rfl rfl rfl rfl (by decide) rfl rfl rfl rfl rfl (needT (hx33)) rfl rfl) ?_)
 refine AO.pu T ?_
 refine AO.se T [.R 19,.R 4] ?_
 refine AO.nil (AW.region ?_)
 refine AO.val rfl rfl (ar_ok rfl rfl rfl rfl (inI_succ hlt14 hb13)) ?_
 refine AO.pu T ?_
 refine AO.nil ?_
 refine ⟨(k9+1,(v24++[x30])),⟨Nat.succ_le_of_lt hlt14,(by rw [drop_succ_of hd12];exact hH)⟩,(by have:=hlt14;dsimp only;omega),?_⟩
 exact Le.ct 19 3

def spec_NewSeason_p (w:World) (best:Int):Option (World × Bool) :=
  (spec_wlGood_p w).bind fun x1 =>
  (opt (!(!x1)) default (spec_l1In_p best 1 9)).bind fun x3 =>
  cond ((!x1) || (!x3))
    (some ((World.mk [] []),false))
    ((need (fitsB 32 (([(Season.mk best [])]).length+w.seasons.length))).bind fun u5 =>
    (spec_l1Own_p w.weights).bind fun x7 =>
    cond (decide (((([(Season.mk best [])]++w.seasons)).length:Int) > 3))
      ((sliceHi ([(Season.mk best [])]++w.seasons) 3).bind fun x9 =>
      (spec_wlWith_p x9 x7).bind fun x11 =>
      some (x11,true))
      ((getI x7 (w64 ((x7.length:Int) - 1))).bind fun x13 =>
      (need (fitsB 8 (x7.length+([x13]).length))).bind fun u15 =>
      (spec_wlWith_p ([(Season.mk best [])]++w.seasons) (x7++[x13])).bind fun x17 =>
      some (x17,true)))
theorem spec_NewSeason_ok (w:World) (best:Int) (r:(World × Bool)) (hH:spec_NewSeason_p w best=some r):SpecR Tryz.prog 32 [.g (encWorld w),best] (.t [.g (encWorldH r.1),.v (.bool r.2)]):=by
 refine fn_ok T Tryz.func32 rfl (by decide) rfl ?_
 refine AW.seq (AW.region (AO.step rfl (box_ok T rfl 1 rfl rfl rfl rfl) ?_))
 refine AO.step rfl (alloc_ok T rfl 2 rfl rfl rfl rfl rfl) ?_
 refine AO.pu T ?_
 refine AO.nil ?_
 iterate 2 refine AW.seq ?_
 obtain ⟨x1,hx2,hH⟩:=bindE hH
 obtain ⟨x3,hx4,hH⟩:=bindE hH
 refine AW.region (AO.pu T (d:=.g [.s (List.map encSeason w.seasons),.s (List.map encInt w.weights)]) ?_)
 refine AO.val rfl rfl (callV_ok rfl rfl rfl rfl (spec_wlGood_ok _ _ (hx2)) rfl) ?_
 iterate 2 refine AO.pu T ?_
 refine AO.pureG T [] rfl trivial rfl rfl ?_
 refine AO.guard [12] rfl ⟨fun h=>h,trivial⟩ (fun hg=>callV_ok rfl rfl rfl rfl (spec_l1In_ok _ _ _ _ (optT hx4 hg)) rfl) rfl ?_
 refine AO.pureG T [13] rfl ⟨fun h=>h,trivial⟩ rfl rfl ?_
 refine AO.val rfl rfl (pick_or rfl rfl rfl rfl) ?_
 refine AO.nil (AW.cond (b:=((!x1) || (!x3))) rfl (fun hc=>?_) (fun hc=>?_))
 replace hH:=condT hc hH
 refine AW.seq (AW.region (AO.pu T (d:=.g [.w 0 [],.w 0 []]) ?_))
 refine AO.se T [.w 0 [],.w 0 []] ?_
 refine AO.pu T ?_
 refine AO.nil (AW.ret ?_)
 have hR:=someE hH;subst hR
 exact retQ.i [] rfl (.t (expLG_cons (.g (expLC_cons .nil (expLC_cons .nil (expLC_nil)))) (expLG_cons (.c .v) (expLG_nil))))
 replace hH:=condF hc hH
 refine AW.skip (AW.seq ?_)
 obtain ⟨u5,hx6,hH⟩:=bindE hH
 refine AW.region (AO.pu T ?_)
 refine AO.pu T (d:=.g [best,.w 0 []]) ?_
 refine AO.step rfl (mk_o_ok T rfl 3 rfl rfl rfl rfl rfl rfl (f:=encSeason) (l:=[(Season.mk best [])]) (ids:=[]) rfl rfl (fun _=>rfl) (by exact expLC_cons .v (expLC_cons .nilS (expLC_nil))) (by decide) rfl rfl rfl rfl rfl) ?_
 iterate 2 refine AO.pu T ?_
 refine AO.step rfl (app_rs_map T rfl 4 rfl rfl rfl rfl rfl (by decide) (by decide) rfl rfl rfl (fun _=>rfl) (needT (hx6)) rfl rfl) ?_
 refine AO.pu T ?_
 refine AO.nil (AW.seq ?_)
 obtain ⟨x7,hx8,hH⟩:=bindE hH
 refine AW.region ?_
 iterate 2 refine AO.pu T ?_
 refine AO.step rfl (call_ok rfl 5 rfl rfl rfl (spec_l1Own_ok _ _ (hx8)) rfl rfl rfl) ?_
 refine AO.pu T ?_
 refine AO.nil ?_
 iterate 2 refine AW.seq ?_
 refine AW.region (AO.pu T ?_)
 refine AO.val rfl rfl (len_row_ok T rfl rfl rfl rfl) ?_
 refine AO.pu T ?_
 refine AO.nil (AW.le (Le.ct 0 0 (σ':=(⟨[(4,.p 2 0),(6,.R 4),(7,.R 5),(28,.v (.bool (decide (((([(Season.mk best [])]++w.seasons)).length:Int) > 3))))],[(2,.box [.w 0 [],.w 0 []]),(4,.row 2 (List.map encSeason ([(Season.mk best [])]++w.seasons))),(5,.row 1 (List.map encInt x7))],43,[]⟩:St))) ?_)
 refine AW.cond (b:=decide (((([(Season.mk best [])]++w.seasons)).length:Int) > 3)) rfl (fun hc=>?_) (fun hc=>?_)
 replace hH:=condT hc hH
 obtain ⟨x9,hx10,hH⟩:=bindE hH
 refine AW.le (Le.freezeM 4 (g:=encSeason) rfl (fun y=>.vs rfl)) ?_
 refine AW.region (AO.pu T ?_)
 refine AO.val rfl rfl (slice_hi_map_ok T rfl rfl rfl rfl rfl (hx10) (fun _=>rfl)) ?_
 refine AO.pu T ?_
 refine AO.nil (AW.seq ?_)
 obtain ⟨x11,hx12,hH⟩:=bindE hH
 refine AW.le (Le.freezeM 5 (g:=encInt) rfl (fun y=>.vs rfl)) ?_
 refine AW.region ?_
 iterate 2 refine AO.pu T ?_
 refine AO.step rfl (call_ok rfl 6 rfl rfl rfl (spec_wlWith_ok _ _ _ (hx12)) rfl rfl rfl) ?_
 refine AO.se T [.R 6,.R 7] ?_
 refine AO.pu T ?_
 refine AO.nil (AW.ret ?_)
 have hR:=someE hH;subst hR
 exact retQ.i [6,7] rfl (.t (expLG_cons (.g (expLC_cons (.rowR rfl) (expLC_cons (.rowR rfl) (expLC_nil)))) (expLG_cons (.c .v) (expLG_nil))))
 replace hH:=condF hc hH
 obtain ⟨x13,hx14,hH⟩:=bindE hH
 obtain ⟨u15,hx16,hH⟩:=bindE hH
 refine AW.region ?_
 iterate 3 refine AO.pu T ?_
 refine AO.val rfl rfl (len_row_ok T rfl rfl rfl rfl) ?_
 refine AO.val rfl rfl (arw_ok rfl rfl rfl rfl) ?_
 refine AO.val rfl rfl (ix_row_ok T rfl rfl rfl rfl rfl rfl (hx14)) ?_
 refine AO.val rfl rfl (load_row_ok T rfl rfl rfl rfl (getI_get (hx14)) rfl rfl rfl) ?_
 refine AO.step rfl (mk_map_ok T rfl 8 rfl rfl rfl rfl rfl (f:=encInt) (l:=[x13]) rfl rfl (fun _=>rfl) rfl rfl rfl rfl rfl) ?_
 refine AO.step rfl (app_rv_map T rfl 9 rfl rfl rfl rfl rfl (by decide) rfl rfl rfl rfl (fun _=>rfl) (needT (hx16)) rfl rfl) ?_
 refine AO.pu T ?_
 refine AO.nil (AW.seq ?_)
 obtain ⟨x17,hx18,hH⟩:=bindE hH
 refine AW.le (Le.freezeM 4 (g:=encSeason) rfl (fun y=>.vs rfl)) ?_
 refine AW.le (Le.freezeM 9 (g:=encInt) rfl (fun y=>.vs rfl)) ?_
 refine AW.region ?_
 iterate 2 refine AO.pu T ?_
 refine AO.step rfl (call_ok rfl 10 rfl rfl rfl (spec_wlWith_ok _ _ _ (hx18)) rfl rfl rfl) ?_
 refine AO.se T [.R 10,.R 11] ?_
 refine AO.pu T ?_
 refine AO.nil (AW.ret ?_)
 have hR:=someE hH;subst hR
 exact retQ.i [10,11] rfl (.t (expLG_cons (.g (expLC_cons (.rowR rfl) (expLC_cons (.rowR rfl) (expLC_nil)))) (expLG_cons (.c .v) (expLG_nil))))

def spec_l1Cur_skaters_l2 (x45:(L1Cur × Int)):Nat→List Int→Option ((L1Cur × (List Int)))
  | 0,_=>none
  | k47+1,v53 =>
    cond (decide ((v53.length:Int) < (w64 (40+x45.2))))
      ((need (fitsB 8 (v53.length+([w64 ((v53.length:Int)+1)]).length))).bind fun u55 =>
      spec_l1Cur_skaters_l2 x45 k47 (v53++[w64 ((v53.length:Int)+1)]))
      (some ((L1Cur.mk x45.1.code x45.1.at' x45.1.seed),v53))
def spec_l1Cur_skaters_l1 (fuel:Nat):Nat→List Int→Int→Int→List Int→Int→Option ((L1Cur × (List Int)))
  | 0,_,_,_,_,_=>none
  | k3+1,v25,v26,v27,v28,v29 =>
    cond (decide (v29 > 0))
      ((spec_l1Cur_pick_p (L1Cur.mk v25 v26 v27) 12).bind fun x31 =>
      (spec_l1Has_p v28 (w64 (1+x31.2))).bind fun x33 =>
      (opt (!(!x33)) ((L1Cur.mk x31.1.code x31.1.at' x31.1.seed),default) (spec_l1Cur_one_p (L1Cur.mk x31.1.code x31.1.at' x31.1.seed) 24)).bind fun x35 =>
      cond ((!x33) || x35.2)
        ((need (fitsB 8 (v28.length+([w64 (1+x31.2)]).length))).bind fun u37 =>
        spec_l1Cur_skaters_l1 fuel k3 x35.1.code x35.1.at' x35.1.seed (v28++[w64 (1+x31.2)]) (w64 (v29 - 1)))
        (spec_l1Cur_skaters_l1 fuel k3 x35.1.code x35.1.at' x35.1.seed v28 (w64 (v29 - 1))))
      ((spec_l1Cur_pick_p (L1Cur.mk v25 v26 v27) 24).bind fun x39 =>
      cond (x39.2 == 0)
        ((spec_l1Cur_among_p (L1Cur.mk x39.1.code x39.1.at' x39.1.seed) ([0,999,1000]:List Int)).bind fun x41 =>
        (need (fitsB 8 (v28.length+([x41.2]).length))).bind fun u43 =>
        some ((L1Cur.mk x41.1.code x41.1.at' x41.1.seed),(v28++[x41.2])))
        (cond (x39.2 == 1)
          ((spec_l1Cur_pick_p (L1Cur.mk x39.1.code x39.1.at' x39.1.seed) 2).bind fun x45 =>
          spec_l1Cur_skaters_l2 x45 fuel [])
          (some ((L1Cur.mk x39.1.code x39.1.at' x39.1.seed),v28))))
def spec_l1Cur_skaters_p (fuel:Nat) (c:L1Cur):Option (L1Cur × (List Int)) :=
  (spec_l1Cur_pick_p c 8).bind fun x1 =>
  spec_l1Cur_skaters_l1 fuel fuel x1.1.code x1.1.at' x1.1.seed [] x1.2
theorem spec_l1Cur_skaters_ok (fuel:Nat) (c:L1Cur) (r:(L1Cur × (List Int))) (hH:spec_l1Cur_skaters_p fuel c=some r):SpecM Tryz.prog 67 [.pw (encL1Cur c)] [.pw (encL1Cur r.1)] (.w 1 (r.2.map encInt)):=by
 refine fn_okM T Tryz.func67 rfl (by decide) rfl rfl ?_
 intro L
 show AW _ _ _ (⟨[(0,.p 1 0)],[(1,.box [.s (List.map encInt_u8 c.code),c.at',.v (.int .u64 c.seed)])],54,[(1,L 1)]⟩:St)
 refine AW.seq (AW.region (AO.pu T ?_))
 refine AO.nil (AW.seq (AW.region ?_))
 refine AO.pu T ?_
 refine AO.nil ?_
 iterate 2 refine AW.seq ?_
 obtain ⟨x1,hx2,hH⟩:=bindE hH
 refine AW.region (AO.pu T ?_)
 refine AO.step rfl (callM_ok rfl 2 rfl rfl (es:=[.pw (encL1Cur c),.v (.int .i64 8)]) (outs:=[.pw (encL1Cur x1.1),.u]) (ids:=[1]) (by exact expLG_cons (.c (.box rfl rfl)) (expLG_cons (.c .v) (expLG_nil))) (by decide) (.inl (by rfl)) (by rfl) (spec_l1Cur_pick_ok _ _ _ (hx2)) rfl (by rfl) rfl) ?_
 refine AO.pu T ?_
 refine AO.nil (AW.block ?_)
 refine AW.loopS (fun s:Nat × (List Int) × Int × Int × (List Int) × Int=>(⟨[(0,.p 1 0),(3,.R 5),(4,s.2.2.2.2.2)],[(1,.box [.s (List.map encInt_u8 s.2.1),s.2.2.1,.v (.int .u64 s.2.2.2.1)]),(5,.row 1 (List.map encInt s.2.2.2.2.1))],54,[(1,L 1)]⟩:St)) (fun s=>spec_l1Cur_skaters_l1 fuel s.1 s.2.1 s.2.2.1 s.2.2.2.1 s.2.2.2.2.1 s.2.2.2.2.2=some r) (fun s=>s.1) (fuel,x1.1.code,x1.1.at',x1.1.seed,[],x1.2) hH ?_ ?_
 refine Le.trans (Le.void 3 5 1 rfl rfl) ?_
 exact Le.ct 0 0 (hpin:=⟨⟨rfl,rfl⟩,trivial⟩)
 rintro ⟨k3,v25,v26,v27,v28,v29⟩ hH
 replace hH:spec_l1Cur_skaters_l1 fuel k3 v25 v26 v27 v28 v29=some r:=hH
 try dsimp only
 rcases k3 with _ | k3
 cases (show none=some _ from hH)
 rw [spec_l1Cur_skaters_l1] at hH
 iterate 2 refine AW.seq ?_
 refine AW.region ?_
 iterate 2 refine AO.pu T ?_
 refine AO.nil (AW.cond (b:=decide (v29 > 0)) rfl (fun hc=>?_) (fun hc=>?_))
 replace hH:=condT hc hH
 refine AW.skip (AW.seq ?_)
 refine AW.block (AW.seq ?_)
 obtain ⟨x31,hx32,hH⟩:=bindE hH
 refine AW.region (AO.pu T ?_)
 refine AO.step rfl (callM_ok rfl 6 rfl rfl (es:=[.pw (encL1Cur (L1Cur.mk v25 v26 v27)),.v (.int .i64 12)]) (outs:=[.pw (encL1Cur x31.1),.u]) (ids:=[1]) (by exact expLG_cons (.c (.box rfl rfl)) (expLG_cons (.c .v) (expLG_nil))) (by decide) (.inl (by rfl)) (by rfl) (spec_l1Cur_pick_ok _ _ _ (hx32)) rfl (by rfl) rfl) ?_
 refine AO.val rfl rfl (arw_ok rfl rfl rfl rfl) ?_
 refine AO.pu T ?_
 refine AO.nil (AW.seq ?_)
 obtain ⟨x33,hx34,hH⟩:=bindE hH
 obtain ⟨x35,hx36,hH⟩:=bindE hH
 refine AW.region ?_
 iterate 2 refine AO.pu T ?_
 refine AO.val rfl rfl (callLV_ok rfl rfl rfl (es:=[.s (List.map encInt v28),w64 (1+x31.2)]) ⟨(.rowR rfl (.map fun y=>.vs rfl)),.free rfl,trivial⟩ (spec_l1Has_ok _ _ _ (hx34)) (zfree_v _) rfl) ?_
 iterate 2 refine AO.pu T ?_
 refine AO.pureG T [] rfl trivial rfl rfl ?_
 refine AO.guardP (id:=1) (cs':=[.s (List.map encInt_u8 x35.1.code),x35.1.at',.v (.int .u64 x35.1.seed)]) (r:=.v (.bool x35.2)) [21] rfl ⟨fun h=>h,trivial⟩ (fun hg=>callM_ok rfl 6 rfl rfl (es:=[.pw (encL1Cur (L1Cur.mk x31.1.code x31.1.at' x31.1.seed)),.v (.int .i64 24)]) (outs:=[.pw (encL1Cur x35.1),.u]) (ids:=[1]) (by exact expLG_cons (.c (.box rfl rfl)) (expLG_cons (.c .v) (expLG_nil))) (by decide) (.inl (by rfl)) (by rfl) (spec_l1Cur_one_ok _ _ _ (optT hx36 hg)) rfl (by rfl) rfl) rfl (fun hg=>by have q:=optF hx36 hg;subst q;rfl) rfl ?_
 refine AO.val rfl rfl (pick_or rfl rfl rfl rfl) ?_
 refine AO.nil (AW.cond (b:=((!x33) || x35.2)) rfl (fun hc=>?_) (fun hc=>?_))
 replace hH:=condT hc hH
 obtain ⟨u37,hx38,hH⟩:=bindE hH
 refine AW.region ?_
 iterate 2 refine AO.pu T ?_
 refine AO.step rfl (mk_map_ok T rfl 6 rfl rfl rfl rfl rfl (f:=encInt) (l:=[w64 (1+x31.2)]) rfl rfl (fun _=>rfl) rfl rfl rfl rfl rfl) ?_
 refine AO.step rfl (app_rv_map T rfl 7 rfl rfl rfl rfl rfl (by decide) rfl rfl rfl rfl (fun _=>rfl) (needT (hx38)) rfl rfl) ?_
 refine AO.pu T ?_
 refine AO.nil (AW.region ?_)
 refine AO.pu T ?_
 refine AO.val rfl rfl (arw_ok rfl rfl rfl rfl) ?_
 refine AO.pu T ?_
 refine AO.nil ?_
 refine ⟨(k3,x35.1.code,x35.1.at',x35.1.seed,(v28++[w64 (1+x31.2)]),w64 (v29 - 1)),hH,Nat.lt_succ_self _,?_⟩
 exact Le.ct 7 5 (hpin:=⟨⟨rfl,rfl⟩,trivial⟩)
 replace hH:=condF hc hH
 refine AW.skip (AW.region ?_)
 refine AO.pu T ?_
 refine AO.val rfl rfl (arw_ok rfl rfl rfl rfl) ?_
 refine AO.pu T ?_
 refine AO.nil ?_
 refine ⟨(k3,x35.1.code,x35.1.at',x35.1.seed,v28,w64 (v29 - 1)),hH,Nat.lt_succ_self _,?_⟩
 exact Le.ct 0 0 (hpin:=⟨⟨rfl,rfl⟩,trivial⟩)
 replace hH:=condF hc hH
 refine AW.exit ?_
 iterate 2 refine AW.seq ?_
 obtain ⟨x39,hx40,hH⟩:=bindE hH
 refine AW.region (AO.pu T ?_)
 refine AO.step rfl (callM_ok rfl 8 rfl rfl (es:=[.pw (encL1Cur (L1Cur.mk v25 v26 v27)),.v (.int .i64 24)]) (outs:=[.pw (encL1Cur x39.1),.u]) (ids:=[1]) (by exact expLG_cons (.c (.box rfl rfl)) (expLG_cons (.c .v) (expLG_nil))) (by decide) (.inl (by rfl)) (by rfl) (spec_l1Cur_pick_ok _ _ _ (hx40)) rfl (by rfl) rfl) ?_
 refine AO.nil (AW.block ?_)
 refine AW.seq (AW.region ?_)
 iterate 2 refine AO.pu T ?_
 refine AO.nil (AW.cond (b:=(x39.2 == 0)) rfl (fun hc=>?_) (fun hc=>?_))
 replace hH:=condT hc hH
 obtain ⟨x41,hx42,hH⟩:=bindE hH
 obtain ⟨u43,hx44,hH⟩:=bindE hH
 refine AW.region ?_
 iterate 2 refine AO.pu T ?_
 refine AO.step rfl (mk_map_ok T rfl 8 rfl rfl rfl rfl rfl (f:=encInt) (l:=([0,999,1000]:List Int)) rfl rfl (fun _=>rfl) rfl rfl rfl rfl rfl) ?_
 refine AO.le (Le.freezeM 8 (g:=encInt) rfl (fun y=>.vs rfl)) ?_
 refine AO.step rfl (callM_ok rfl 9 rfl rfl (es:=[.pw (encL1Cur (L1Cur.mk x39.1.code x39.1.at' x39.1.seed)),.s (([0,999,1000]:List Int).map encInt)]) (outs:=[.pw (encL1Cur x41.1),.u]) (ids:=[1]) (by exact expLG_cons (.c (.box rfl rfl)) (expLG_cons (.c .s) (expLG_nil))) (by decide) (.inl (by rfl)) (by rfl) (spec_l1Cur_among_ok _ _ _ (hx42)) rfl (by rfl) rfl) ?_
 refine AO.step rfl (mk_map_ok T rfl 9 rfl rfl rfl rfl rfl (f:=encInt) (l:=[x41.2]) rfl rfl (fun _=>rfl) rfl rfl rfl rfl rfl) ?_
 refine AO.step rfl (app_rv_map T rfl 10 rfl rfl rfl rfl rfl (by decide) rfl rfl rfl rfl (fun _=>rfl) (needT (hx44)) rfl rfl) ?_
 refine AO.pu T ?_
 refine AO.nil (AW.seq (AW.region ?_))
 iterate 2 refine AO.pu T ?_
 refine AO.nil (AW.ret ?_)
 have hR:=someE hH;subst hR
 exact ⟨trivial,rfl,_,[10],[1],rfl,expLG_cons (.c (.box rfl rfl)) (expLG_nil),.c (.c (.rowR rfl)),by decide⟩
 replace hH:=condF hc hH
 refine AW.seq (AW.region ?_)
 iterate 2 refine AO.pu T ?_
 refine AO.nil (AW.cond (b:=(x39.2 == 1)) rfl (fun hc=>?_) (fun hc=>?_))
 replace hH:=condT hc hH
 refine AW.seq (AW.region (AO.pu T ?_))
 refine AO.nil (AW.seq ?_)
 obtain ⟨x45,hx46,hH⟩:=bindE hH
 refine AW.region (AO.pu T ?_)
 refine AO.step rfl (callM_ok rfl 11 rfl rfl (es:=[.pw (encL1Cur (L1Cur.mk x39.1.code x39.1.at' x39.1.seed)),.v (.int .i64 2)]) (outs:=[.pw (encL1Cur x45.1),.u]) (ids:=[1]) (by exact expLG_cons (.c (.box rfl rfl)) (expLG_cons (.c .v) (expLG_nil))) (by decide) (.inl (by rfl)) (by rfl) (spec_l1Cur_pick_ok _ _ _ (hx46)) rfl (by rfl) rfl) ?_
 refine AO.val rfl rfl (arw_ok rfl rfl rfl rfl) ?_
 refine AO.pu T ?_
 refine AO.nil (AW.block ?_)
 refine AW.loopS (fun s:Nat × (List Int)=>(⟨[(3,.R 14),(6,w64 (40+x45.2))],[(1,.box [.s (List.map encInt_u8 x45.1.code),x45.1.at',.v (.int .u64 x45.1.seed)]),(14,.row 1 (List.map encInt s.2))],54,[(1,L 1)]⟩:St)) (fun s=>spec_l1Cur_skaters_l2 x45 s.1 s.2=some r) (fun s=>s.1) (fuel,[]) hH ?_ ?_
 refine Le.trans (Le.void 3 14 1 rfl rfl) ?_
 exact Le.ct 0 0 (hpin:=⟨⟨rfl,rfl⟩,trivial⟩)
 rintro ⟨k47,v53⟩ hH
 replace hH:spec_l1Cur_skaters_l2 x45 k47 v53=some r:=hH
 try dsimp only
 rcases k47 with _ | k47
 cases (show none=some _ from hH)
 rw [spec_l1Cur_skaters_l2] at hH
 iterate 2 refine AW.seq ?_
 refine AW.region (AO.pu T ?_)
 refine AO.val rfl rfl (len_row_ok T rfl rfl rfl rfl) ?_
 iterate 2 refine AO.pu T ?_
 refine AO.nil (AW.cond (b:=decide ((v53.length:Int) < (w64 (40+x45.2)))) rfl (fun hc=>?_) (fun hc=>?_))
 replace hH:=condT hc hH
 refine AW.skip (AW.block ?_)
 obtain ⟨u55,hx56,hH⟩:=bindE hH
 refine AW.region ?_
 iterate 2 refine AO.pu T ?_
 refine AO.val rfl rfl (len_row_ok T rfl rfl rfl rfl) ?_
 refine AO.val rfl rfl (arw_ok rfl rfl rfl rfl) ?_
 refine AO.step rfl (mk_map_ok T rfl 15 rfl rfl rfl rfl rfl (f:=encInt) (l:=[w64 ((v53.length:Int)+1)]) rfl rfl (fun _=>rfl) rfl rfl rfl rfl rfl) ?_
 refine AO.step rfl (app_rv_map T rfl 16 rfl rfl rfl rfl rfl (by decide) rfl rfl rfl rfl (fun _=>rfl) (needT (hx56)) rfl rfl) ?_
 refine AO.pu T ?_
 refine AO.nil ?_
 refine ⟨(k47,(v53++[w64 ((v53.length:Int)+1)])),hH,Nat.lt_succ_self _,?_⟩
 exact Le.ct 16 14 (hpin:=⟨⟨rfl,rfl⟩,trivial⟩)
 replace hH:=condF hc hH
 refine AW.exit (AW.seq (AW.region ?_))
 iterate 2 refine AO.pu T ?_
 refine AO.nil (AW.ret ?_)
 have hR:=someE hH;subst hR
 exact ⟨trivial,rfl,_,[14],[1],rfl,expLG_cons (.c (.box rfl rfl)) (expLG_nil),.c (.c (.rowR rfl)),by decide⟩
 replace hH:=condF hc hH
 refine AW.skip (AW.seq (AW.region ?_))
 iterate 2 refine AO.pu T ?_
 refine AO.nil (AW.ret ?_)
 have hR:=someE hH;subst hR
 exact ⟨trivial,rfl,_,[5],[1],rfl,expLG_cons (.c (.box rfl rfl)) (expLG_nil),.c (.c (.rowR rfl)),by decide⟩

def spec_DrawSeedsFor_p (fuel:Nat) (code:List Int):Option (World × (List Int)) :=
  (spec_l1Cur_world_p fuel (L1Cur.mk code 0 0)).bind fun x1 =>
  (spec_l1Cur_skaters_p fuel (L1Cur.mk x1.1.code x1.1.at' x1.1.seed)).bind fun x3 =>
  some ((World.mk x1.2.seasons x1.2.weights),x3.2)
theorem spec_DrawSeedsFor_ok (fuel:Nat) (code:List Int) (r:(World × (List Int))) (hH:spec_DrawSeedsFor_p fuel code=some r):SpecR Tryz.prog 33 [.s (List.map encInt_u8 code)] (.t [.g (encWorld r.1),.w 1 (r.2.map encInt)]):=by
 refine fn_ok T Tryz.func33 rfl (by decide) rfl ?_
 refine AW.seq (AW.region (AO.step rfl (alloc_ok T rfl 1 rfl rfl rfl rfl rfl) ?_))
 refine AO.pu T ?_
 refine AO.nil (AW.seq (AW.region ?_))
 refine AO.pu T ?_
 refine AO.pu T (d:=.g [.s (List.map encInt_u8 code),(0:Int),.v (.int .u64 0)]) ?_
 refine AO.step rfl (box_ok T rfl 2 rfl rfl rfl rfl) ?_
 refine AO.pu T ?_
 refine AO.nil (AW.seq ?_)
 obtain ⟨x1,hx2,hH⟩:=bindE hH
 obtain ⟨x3,hx4,hH⟩:=bindE hH
 refine AW.region (AO.pu T ?_)
 refine AO.step rfl (callM_ok rfl 3 rfl rfl (es:=[.pw (encL1Cur (L1Cur.mk code 0 0))]) (outs:=[.pw (encL1Cur x1.1)]) (ids:=[2]) (by exact expLG_cons (.c (.box rfl rfl)) (expLG_nil)) (by decide) (.inl (by rfl)) (by rfl) (spec_l1Cur_world_ok fuel _ _ (hx2)) rfl (by rfl) rfl) ?_
 refine AO.pu T ?_
 refine AO.step rfl (callM_ok rfl 3 rfl rfl (es:=[.pw (encL1Cur (L1Cur.mk x1.1.code x1.1.at' x1.1.seed))]) (outs:=[.pw (encL1Cur x3.1)]) (ids:=[2]) (by exact expLG_cons (.c (.box rfl rfl)) (expLG_nil)) (by decide) (.inl (by rfl)) (by rfl) (spec_l1Cur_skaters_ok fuel _ _ (hx4)) rfl (by rfl) rfl) ?_
 refine AO.se T [.s (List.map encSeason x1.2.seasons),.s (List.map encInt x1.2.weights)] ?_
 refine AO.pu T ?_
 refine AO.nil (AW.ret ?_)
 have hR:=someE hH;subst hR
 exact retQ.i [3] rfl (.t (expLG_cons (.g (expLC_cons .s (expLC_cons .s (expLC_nil)))) (expLG_cons (.c (.rowR rfl)) (expLG_nil))))

def impl_isOrder_l1 (order:List Int):List Int→Nat→Option Bool
  | [],k1 =>
    some (decide ((order.length:Int) ≤ 40))
  | y2::ys3,k1 =>
    (impl_isSkater_p y2).bind fun x20 =>
    (opt (!(!x20)) default (sliceHi order (k1:Int))).bind fun x22 =>
    (opt (!(!x20)) default (slices_Contains_int_p x22 y2)).bind fun x24 =>
    cond ((!x20) || x24)
      (some false)
      (impl_isOrder_l1 order ys3 (k1+1))
def impl_isOrder_p (order:List Int):Option Bool :=
  impl_isOrder_l1 order order 0
theorem impl_isOrder_ok (order:List Int) (r:Bool) (hH:impl_isOrder_p order=some r):SpecR Tryz.prog 68 [.s (List.map encInt order)] (.v (.bool r)):=by
 refine fn_ok T Tryz.func68 rfl (by decide) rfl ?_
 refine AW.seq (AW.region (AO.pu T ?_))
 refine AO.nil ?_
 iterate 2 refine AW.seq ?_
 refine AW.region (AO.pu T ?_)
 refine AO.val rfl rfl (len_map_ok T rfl rfl rfl) ?_
 refine AO.pu T ?_
 refine AO.nil (AW.block ?_)
 refine AW.loopS (fun s:Nat=>(⟨[(0,.s (List.map encInt order)),(5,.s (List.map encInt order)),(6,(order.length:Int)),(7,(s:Int))],[],26,[]⟩:St)) (fun s=>s ≤ order.length∧impl_isOrder_l1 order (order.drop s) s=some r) (fun s=>order.length - s) 0 ⟨Nat.zero_le _,hH⟩ ?_ ?_
 exact Le.ct 0 0
 rintro k1 ⟨hk,hH⟩
 replace hH:impl_isOrder_l1 order (order.drop k1) k1=some r:=hH
 try dsimp only
 refine AW.boundM (t:=0) (l:=order) rfl (fun hb5=>?_)
 rcases hd4:order.drop k1 with _ | ⟨y2,ys3⟩
 rw [hd4,impl_isOrder_l1] at hH
 have hlt6:=drop_ge hd4
 refine AW.seq (AW.region (AO.pu T ?_))
 refine AO.nil (AW.seq (AW.condF' (b:=decide ((k1:Int) < (order.length:Int))) rfl (rngF hlt6) ?_))
 refine AW.exit (AW.seq (AW.region ?_))
 refine AO.pu T ?_
 refine AO.val rfl rfl (len_map_ok T rfl rfl rfl) ?_
 iterate 2 refine AO.pu T ?_
 refine AO.nil (AW.ret ?_)
 have hR:=someE hH;subst hR
 exact retQ.i [] rfl (.c (.c .v))
 rw [hd4,impl_isOrder_l1] at hH
 have hlt6:=drop_lt hd4
 refine AW.seq (AW.region (AO.pu T ?_))
 refine AO.nil (AW.seq (AW.condT' (b:=decide ((k1:Int) < (order.length:Int))) rfl (rngT hlt6) ?_))
 refine AW.skip (AW.seq ?_)
 refine AW.block (AW.seq (AW.region ?_))
 refine AO.pu T ?_
 refine AO.val rfl rfl (ix_map_ok T rfl rfl rfl rfl rfl (getI_drop hd4) rfl) ?_
 iterate 3 refine AO.pu T ?_
 refine AO.nil (AW.seq ?_)
 obtain ⟨x20,hx21,hH⟩:=bindE hH
 obtain ⟨x22,hx23,hH⟩:=bindE hH
 obtain ⟨x24,hx25,hH⟩:=bindE hH
 refine AW.region (AO.pu T ?_)
 refine AO.val rfl rfl (callV_ok rfl rfl rfl rfl (impl_isSkater_ok _ _ (hx21)) rfl) ?_
 iterate 2 refine AO.pu T ?_
 iterate 2 refine AO.pureG T [] rfl trivial rfl rfl ?_
 refine AO.guard [16,17] rfl ⟨fun h=>h,fun h=>h,trivial⟩ (fun hg=>slice_hi_map_ok T rfl rfl rfl rfl rfl (optT hx23 hg) (fun _=>rfl)) rfl ?_
 refine AO.pureG T [] rfl trivial rfl rfl ?_
 refine AO.guard [18,19] rfl ⟨fun h=>h,fun h=>h,trivial⟩ (fun hg=>callV_ok rfl rfl rfl rfl (slices_Contains_int_ok _ _ _ (optT hx25 hg)) rfl) rfl ?_
 refine AO.val rfl rfl (pick_or rfl rfl rfl rfl) ?_
 refine AO.nil (AW.cond (b:=((!x20) || x24)) rfl (fun hc=>?_) (fun hc=>?_))
 replace hH:=condT hc hH
 refine AW.seq (AW.region (AO.pu T ?_))
 refine AO.nil (AW.ret ?_)
 have hR:=someE hH;subst hR
 exact retQ.i [] rfl (.c (.c .v))
 replace hH:=condF hc hH
 refine AW.skip (AW.region ?_)
 refine AO.val rfl rfl (ar_ok rfl rfl rfl rfl (inI_succ hlt6 hb5)) ?_
 refine AO.pu T ?_
 refine AO.nil ?_
 refine ⟨k1+1,⟨Nat.succ_le_of_lt hlt6,(by rw [drop_succ_of hd4];exact hH)⟩,(by have:=hlt6;dsimp only;omega),?_⟩
 exact Le.ct 0 0

def impl_SeedsFor_l2 (skaters:List Int):List Rank→Nat→List Entrant→Int→Option (((List Entrant) × Bool))
  | [],k20,v36,v37 =>
    some (v36,true)
  | y21::ys22,k20,v36,v37 =>
    (slices_Index_int_p skaters y21.skater).bind fun x39 =>
    cond (decide (x39 ≥ 0))
      ((getI v36 x39).bind fun x41 =>
      impl_SeedsFor_l2 skaters ys22 (k20+1) (v36.set x39.toNat (Entrant.mk x41.skater (w64 (v37+1)))) (w64 (v37+1)))
      (impl_SeedsFor_l2 skaters ys22 (k20+1) v36 v37)
def impl_SeedsFor_l1 (w:World) (skaters:List Int) (fuel:Nat):List Int→Nat→List Entrant→Option (((List Entrant) × Bool))
  | [],k5,v16 =>
    (impl_worldList_p fuel w).bind fun x18 =>
    impl_SeedsFor_l2 skaters x18 0 v16 0
  | y6::ys7,k5,v16 =>
    (need (fitsB 16 (v16.length+([(Entrant.mk y6 0)]).length))).bind fun u43 =>
    impl_SeedsFor_l1 w skaters fuel ys7 (k5+1) (v16++[(Entrant.mk y6 0)])
def impl_SeedsFor_p (fuel:Nat) (w:World) (skaters:List Int):Option ((List Entrant) × Bool) :=
  (impl_IsWorld_p fuel w).bind fun x1 =>
  (opt (!(!x1)) default (impl_isOrder_p skaters)).bind fun x3 =>
  cond ((!x1) || (!x3))
    (some ([],false))
    (impl_SeedsFor_l1 w skaters fuel skaters 0 [])
theorem impl_SeedsFor_ok (fuel:Nat) (w:World) (skaters:List Int) (r:((List Entrant) × Bool)) (hH:impl_SeedsFor_p fuel w skaters=some r):SpecR Tryz.prog 34 [.g (encWorld w),.s (List.map encInt skaters)] (.t [.w 2 (r.1.map encEntrant),.v (.bool r.2)]):=by
 refine fn_ok T Tryz.func34 rfl (by decide) rfl ?_
 refine AW.seq (AW.region (AO.step rfl (box_ok T rfl 1 rfl rfl rfl rfl) ?_))
 iterate 2 refine AO.pu T ?_
 refine AO.nil ?_
 iterate 2 refine AW.seq ?_
 obtain ⟨x1,hx2,hH⟩:=bindE hH
 obtain ⟨x3,hx4,hH⟩:=bindE hH
 refine AW.region (AO.pu T (d:=.g [.s (List.map encSeason w.seasons),.s (List.map encInt w.weights)]) ?_)
 refine AO.val rfl rfl (callV_ok rfl rfl rfl rfl (impl_IsWorld_ok fuel _ _ (hx2)) rfl) ?_
 iterate 2 refine AO.pu T ?_
 refine AO.pureG T [] rfl trivial rfl rfl ?_
 refine AO.guard [17] rfl ⟨fun h=>h,trivial⟩ (fun hg=>callV_ok rfl rfl rfl rfl (impl_isOrder_ok _ _ (optT hx4 hg)) rfl) rfl ?_
 refine AO.pureG T [18] rfl ⟨fun h=>h,trivial⟩ rfl rfl ?_
 refine AO.val rfl rfl (pick_or rfl rfl rfl rfl) ?_
 refine AO.nil (AW.cond (b:=((!x1) || (!x3))) rfl (fun hc=>?_) (fun hc=>?_))
 replace hH:=condT hc hH
 refine AW.seq (AW.region ?_)
 iterate 2 refine AO.pu T ?_
 refine AO.nil (AW.ret ?_)
 have hR:=someE hH;subst hR
 exact retQ.i [] rfl (.t (expLG_cons (.c .nil) (expLG_cons (.c .v) (expLG_nil))))
 replace hH:=condF hc hH
 refine AW.skip (AW.seq (AW.region ?_))
 refine AO.step rfl (mk0_ok T rfl rfl rfl rfl) ?_
 refine AO.pu T ?_
 refine AO.nil ?_
 iterate 2 refine AW.seq ?_
 refine AW.region (AO.pu T ?_)
 refine AO.val rfl rfl (len_map_ok T rfl rfl rfl) ?_
 refine AO.pu T ?_
 refine AO.nil (AW.block ?_)
 refine AW.loopS (fun s:Nat × (List Entrant)=>(⟨[(1,.s (List.map encInt skaters)),(2,.p 1 0),(6,.R 5),(22,.s (List.map encInt skaters)),(23,(skaters.length:Int)),(24,(s.1:Int))],[(1,.box [.s (List.map encSeason w.seasons),.s (List.map encInt w.weights)]),(5,.row 2 (List.map encEntrant s.2))],56,[]⟩:St)) (fun s=>s.1 ≤ skaters.length∧impl_SeedsFor_l1 w skaters fuel (skaters.drop s.1) s.1 s.2=some r) (fun s=>skaters.length - s.1) (0,[]) ⟨Nat.zero_le _,hH⟩ ?_ ?_
 refine Le.trans (Le.void 6 5 2 rfl rfl) ?_
 exact Le.ct 0 0
 rintro ⟨k5,v16⟩ ⟨hk,hH⟩
 replace hH:impl_SeedsFor_l1 w skaters fuel (skaters.drop k5) k5 v16=some r:=hH
 try dsimp only
 refine AW.boundM (t:=1) (l:=skaters) rfl (fun hb9=>?_)
 rcases hd8:skaters.drop k5 with _ | ⟨y6,ys7⟩
 rw [hd8,impl_SeedsFor_l1] at hH
 have hlt10:=drop_ge hd8
 refine AW.seq (AW.region (AO.pu T ?_))
 refine AO.nil (AW.seq (AW.condF' (b:=decide ((k5:Int) < (skaters.length:Int))) rfl (rngF hlt10) ?_))
 refine AW.exit (AW.seq (AW.region ?_))
 refine AO.pu T ?_
 refine AO.nil ?_
 iterate 2 refine AW.seq ?_
 obtain ⟨x18,hx19,hH⟩:=bindE hH
 refine AW.region (AO.pu T (d:=.g [.s (List.map encSeason w.seasons),.s (List.map encInt w.weights)]) ?_)
 refine AO.step rfl (call_ok rfl 6 rfl rfl rfl (impl_worldList_ok fuel _ _ (hx19)) rfl rfl rfl) ?_
 refine AO.val rfl rfl (len_row_ok T rfl rfl rfl rfl) ?_
 refine AO.pu T ?_
 refine AO.nil (AW.block ?_)
 refine AW.loopS (fun s:Nat × (List Entrant) × Int=>(⟨[(1,.s (List.map encInt skaters)),(6,.R 5),(9,s.2.2),(35,.R 6),(36,(x18.length:Int)),(37,(s.1:Int))],[(5,.row 2 (List.map encEntrant s.2.1)),(6,.row 3 (List.map encRank x18))],56,[]⟩:St)) (fun s=>s.1 ≤ x18.length∧impl_SeedsFor_l2 skaters (x18.drop s.1) s.1 s.2.1 s.2.2=some r) (fun s=>x18.length - s.1) (0,v16,0) ⟨Nat.zero_le _,hH⟩ ?_ ?_
 exact Le.ct 0 0
 rintro ⟨k20,v36,v37⟩ ⟨hk,hH⟩
 replace hH:impl_SeedsFor_l2 skaters (x18.drop k20) k20 v36 v37=some r:=hH
 try dsimp only
 refine AW.boundR (id:=6) (l:=x18) rfl (fun hb24=>?_)
 rcases hd23:x18.drop k20 with _ | ⟨y21,ys22⟩
 rw [hd23,impl_SeedsFor_l2] at hH
 have hlt25:=drop_ge hd23
 refine AW.seq (AW.region (AO.pu T ?_))
 refine AO.nil (AW.seq (AW.condF' (b:=decide ((k20:Int) < (x18.length:Int))) rfl (rngF hlt25) ?_))
 refine AW.exit (AW.seq (AW.region ?_))
 iterate 3 refine AO.pu T ?_
 refine AO.nil (AW.ret ?_)
 have hR:=someE hH;subst hR
 exact retQ.i [5] rfl (.t (expLG_cons (.c (.rowR rfl)) (expLG_cons (.c .v) (expLG_nil))))
 rw [hd23,impl_SeedsFor_l2] at hH
 have hlt25:=drop_lt hd23
 refine AW.seq (AW.region (AO.pu T ?_))
 refine AO.nil (AW.seq (AW.condT' (b:=decide ((k20:Int) < (x18.length:Int))) rfl (rngT hlt25) ?_))
 refine AW.skip (AW.seq ?_)
 refine AW.block (AW.seq (AW.region ?_))
 refine AO.val rfl rfl (ix_row_ok T rfl rfl rfl rfl rfl rfl (getI_drop hd23)) ?_
 refine AO.val rfl rfl (load_row_ok T rfl rfl rfl rfl (getI_get (getI_drop hd23)) rfl rfl rfl) ?_
 refine AO.step rfl (alloc_ok T rfl 9 rfl rfl rfl rfl rfl) ?_
 refine AO.se T [y21.skater,y21.total,y21.place] ?_
 refine AO.nil (AW.seq ?_)
 obtain ⟨x39,hx40,hH⟩:=bindE hH
 refine AW.region ?_
 iterate 3 refine AO.pu T ?_
 refine AO.val rfl rfl (callV_ok rfl rfl rfl rfl (slices_Index_int_ok _ _ _ (hx40)) rfl) ?_
 refine AO.pu T ?_
 refine AO.nil (AW.seq (AW.region ?_))
 iterate 2 refine AO.pu T ?_
 refine AO.nil (AW.cond (b:=decide (x39 ≥ 0)) rfl (fun hc=>?_) (fun hc=>?_))
 replace hH:=condT hc hH
 refine AW.seq (AW.region (AO.pu T ?_))
 refine AO.val rfl rfl (arw_ok rfl rfl rfl rfl) ?_
 refine AO.pu T ?_
 refine AO.nil ?_
 obtain ⟨x41,hx42,hH⟩:=bindE hH
 refine AW.region ?_
 iterate 3 refine AO.pu T ?_
 refine AO.val rfl rfl (ix_row_ok T rfl rfl rfl rfl rfl rfl (hx42)) ?_
 refine AO.pu T ?_
 refine AO.step rfl (store_row_ok T rfl rfl rfl rfl rfl (getI_get (hx42)) rfl rfl rfl rfl (u':=(Entrant.mk x41.skater (w64 (v37+1)))) rfl rfl) ?_
 refine AO.nil (AW.region ?_)
 refine AO.val rfl rfl (ar_ok rfl rfl rfl rfl (inI_succ hlt25 hb24)) ?_
 refine AO.pu T ?_
 refine AO.nil ?_
 refine ⟨(k20+1,(v36.set x39.toNat (Entrant.mk x41.skater (w64 (v37+1)))),w64 (v37+1)),⟨Nat.succ_le_of_lt hlt25,(by rw [drop_succ_of hd23];exact hH)⟩,(by have:=hlt25;dsimp only;omega),?_⟩
 exact Le.ct 0 0
 replace hH:=condF hc hH
 refine AW.skip (AW.region ?_)
 refine AO.val rfl rfl (ar_ok rfl rfl rfl rfl (inI_succ hlt25 hb24)) ?_
 refine AO.pu T ?_
 refine AO.nil ?_
 refine ⟨(k20+1,v36,v37),⟨Nat.succ_le_of_lt hlt25,(by rw [drop_succ_of hd23];exact hH)⟩,(by have:=hlt25;dsimp only;omega),?_⟩
 exact Le.ct 0 0
 rw [hd8,impl_SeedsFor_l1] at hH
 have hlt10:=drop_lt hd8
 refine AW.seq (AW.region (AO.pu T ?_))
 refine AO.nil (AW.seq (AW.condT' (b:=decide ((k5:Int) < (skaters.length:Int))) rfl (rngT hlt10) ?_))
 refine AW.skip (AW.seq ?_)
 refine AW.block (AW.seq (AW.region ?_))
 refine AO.val rfl rfl (ix_map_ok T rfl rfl rfl rfl rfl (getI_drop hd8) rfl) ?_
 iterate 2 refine AO.pu T ?_
 refine AO.nil ?_
 obtain ⟨u43,hx44,hH⟩:=bindE hH
 refine AW.region ?_
 iterate 2 refine AO.pu T ?_
 refine AO.pu T (d:=.g [y6,(0:Int)]) ?_
 refine AO.step rfl (mk_map_ok T rfl 10 rfl rfl rfl rfl rfl (f:=encEntrant) (l:=[(Entrant.mk y6 0)]) rfl rfl (fun _=>rfl) rfl rfl rfl rfl rfl) ?_
 refine AO.step rfl (app_rv_map T rfl 11 rfl rfl rfl rfl rfl (by decide) rfl rfl rfl rfl (fun _=>rfl) (needT (hx44)) rfl rfl) ?_
 refine AO.pu T ?_
 refine AO.nil (AW.region ?_)
 refine AO.val rfl rfl (ar_ok rfl rfl rfl rfl (inI_succ hlt10 hb9)) ?_
 refine AO.pu T ?_
 refine AO.nil ?_
 refine ⟨(k5+1,(v16++[(Entrant.mk y6 0)])),⟨Nat.succ_le_of_lt hlt10,(by rw [drop_succ_of hd8];exact hH)⟩,(by have:=hlt10;dsimp only;omega),?_⟩
 exact Le.ct 11 5

def spec_soOrder_l1 (order:List Int):List Int→Nat→Option Bool
  | [],k1 =>
    some (decide ((order.length:Int) ≤ 40))
  | y2::ys3,k1 =>
    (spec_l1In_p y2 1 999).bind fun x20 =>
    (opt (!(!x20)) default (sliceHi order (k1:Int))).bind fun x22 =>
    (opt (!(!x20)) default (spec_l1Has_p x22 y2)).bind fun x24 =>
    cond ((!x20) || x24)
      (some false)
      (spec_soOrder_l1 order ys3 (k1+1))
def spec_soOrder_p (order:List Int):Option Bool :=
  spec_soOrder_l1 order order 0
theorem spec_soOrder_ok (order:List Int) (r:Bool) (hH:spec_soOrder_p order=some r):SpecR Tryz.prog 70 [.s (List.map encInt order)] (.v (.bool r)):=by
 refine fn_ok T Tryz.func70 rfl (by decide) rfl ?_
 refine AW.seq (AW.region (AO.pu T ?_))
 refine AO.nil ?_
 iterate 2 refine AW.seq ?_
 refine AW.region (AO.pu T ?_)
 refine AO.val rfl rfl (len_map_ok T rfl rfl rfl) ?_
 refine AO.pu T ?_
 refine AO.nil (AW.block ?_)
 refine AW.loopS (fun s:Nat=>(⟨[(0,.s (List.map encInt order)),(5,.s (List.map encInt order)),(6,(order.length:Int)),(7,(s:Int))],[],26,[]⟩:St)) (fun s=>s ≤ order.length∧spec_soOrder_l1 order (order.drop s) s=some r) (fun s=>order.length - s) 0 ⟨Nat.zero_le _,hH⟩ ?_ ?_
 exact Le.ct 0 0
 rintro k1 ⟨hk,hH⟩
 replace hH:spec_soOrder_l1 order (order.drop k1) k1=some r:=hH
 try dsimp only
 refine AW.boundM (t:=0) (l:=order) rfl (fun hb5=>?_)
 rcases hd4:order.drop k1 with _ | ⟨y2,ys3⟩
 rw [hd4,spec_soOrder_l1] at hH
 have hlt6:=drop_ge hd4
 refine AW.seq (AW.region (AO.pu T ?_))
 refine AO.nil (AW.seq (AW.condF' (b:=decide ((k1:Int) < (order.length:Int))) rfl (rngF hlt6) ?_))
 refine AW.exit (AW.seq (AW.region ?_))
 refine AO.pu T ?_
 refine AO.val rfl rfl (len_map_ok T rfl rfl rfl) ?_
 iterate 2 refine AO.pu T ?_
 refine AO.nil (AW.ret ?_)
 have hR:=someE hH;subst hR
 exact retQ.i [] rfl (.c (.c .v))
 rw [hd4,spec_soOrder_l1] at hH
 have hlt6:=drop_lt hd4
 refine AW.seq (AW.region (AO.pu T ?_))
 refine AO.nil (AW.seq (AW.condT' (b:=decide ((k1:Int) < (order.length:Int))) rfl (rngT hlt6) ?_))
 refine AW.skip (AW.seq ?_)
 refine AW.block (AW.seq (AW.region ?_))
 refine AO.pu T ?_
 refine AO.val rfl rfl (ix_map_ok T rfl rfl rfl rfl rfl (getI_drop hd4) rfl) ?_
 iterate 3 refine AO.pu T ?_
 refine AO.nil (AW.seq ?_)
 obtain ⟨x20,hx21,hH⟩:=bindE hH
 obtain ⟨x22,hx23,hH⟩:=bindE hH
 obtain ⟨x24,hx25,hH⟩:=bindE hH
 refine AW.region (AO.pu T ?_)
 refine AO.val rfl rfl (callV_ok rfl rfl rfl rfl (spec_l1In_ok _ _ _ _ (hx21)) rfl) ?_
 iterate 2 refine AO.pu T ?_
 iterate 2 refine AO.pureG T [] rfl trivial rfl rfl ?_
 refine AO.guard [16,17] rfl ⟨fun h=>h,fun h=>h,trivial⟩ (fun hg=>slice_hi_map_ok T rfl rfl rfl rfl rfl (optT hx23 hg) (fun _=>rfl)) rfl ?_
 refine AO.pureG T [] rfl trivial rfl rfl ?_
 refine AO.guard [18,19] rfl ⟨fun h=>h,fun h=>h,trivial⟩ (fun hg=>callV_ok rfl rfl rfl rfl (spec_l1Has_ok _ _ _ (optT hx25 hg)) rfl) rfl ?_
 refine AO.val rfl rfl (pick_or rfl rfl rfl rfl) ?_
 refine AO.nil (AW.cond (b:=((!x20) || x24)) rfl (fun hc=>?_) (fun hc=>?_))
 replace hH:=condT hc hH
 refine AW.seq (AW.region (AO.pu T ?_))
 refine AO.nil (AW.ret ?_)
 have hR:=someE hH;subst hR
 exact retQ.i [] rfl (.c (.c .v))
 replace hH:=condF hc hH
 refine AW.skip (AW.region ?_)
 refine AO.val rfl rfl (ar_ok rfl rfl rfl rfl (inI_succ hlt6 hb5)) ?_
 refine AO.pu T ?_
 refine AO.nil ?_
 refine ⟨k1+1,⟨Nat.succ_le_of_lt hlt6,(by rw [drop_succ_of hd4];exact hH)⟩,(by have:=hlt6;dsimp only;omega),?_⟩
 exact Le.ct 0 0

def spec_soPlace_l1 (skater:Int):List Int→Nat→Option Int
  | [],k1 =>
    some (-1)
  | y2::ys3,k1 =>
    cond (y2 == skater)
      (some (k1:Int))
      (spec_soPlace_l1 skater ys3 (k1+1))
def spec_soPlace_p (order:List Int) (skater:Int):Option Int :=
  spec_soPlace_l1 skater order 0
theorem spec_soPlace_ok (order:List Int) (skater:Int) (r:Int) (hH:spec_soPlace_p order skater=some r):SpecR Tryz.prog 72 [.s (List.map encInt order),skater] (.v (.int .i64 r)):=by
 refine fn_ok T Tryz.func72 rfl (by decide) rfl ?_
 refine AW.seq (AW.region (AO.pu T ?_))
 refine AO.nil ?_
 iterate 2 refine AW.seq ?_
 refine AW.region (AO.pu T ?_)
 refine AO.val rfl rfl (len_map_ok T rfl rfl rfl) ?_
 refine AO.pu T ?_
 refine AO.nil (AW.block ?_)
 refine AW.loopS (fun s:Nat=>(⟨[(1,skater),(7,.s (List.map encInt order)),(8,(order.length:Int)),(9,(s:Int))],[],19,[]⟩:St)) (fun s=>s ≤ order.length∧spec_soPlace_l1 skater (order.drop s) s=some r) (fun s=>order.length - s) 0 ⟨Nat.zero_le _,hH⟩ ?_ ?_
 exact Le.ct 0 0
 rintro k1 ⟨hk,hH⟩
 replace hH:spec_soPlace_l1 skater (order.drop k1) k1=some r:=hH
 try dsimp only
 refine AW.boundM (t:=7) (l:=order) rfl (fun hb5=>?_)
 rcases hd4:order.drop k1 with _ | ⟨y2,ys3⟩
 rw [hd4,spec_soPlace_l1] at hH
 have hlt6:=drop_ge hd4
 refine AW.seq (AW.region (AO.pu T ?_))
 refine AO.nil (AW.seq (AW.condF' (b:=decide ((k1:Int) < (order.length:Int))) rfl (rngF hlt6) ?_))
 refine AW.exit (AW.seq (AW.region ?_))
 refine AO.pu T ?_
 refine AO.nil (AW.ret ?_)
 have hR:=someE hH;subst hR
 exact retQ.i [] rfl (.c (.c .v))
 rw [hd4,spec_soPlace_l1] at hH
 have hlt6:=drop_lt hd4
 refine AW.seq (AW.region (AO.pu T ?_))
 refine AO.nil (AW.seq (AW.condT' (b:=decide ((k1:Int) < (order.length:Int))) rfl (rngT hlt6) ?_))
 refine AW.skip (AW.seq ?_)
 refine AW.block (AW.seq (AW.region ?_))
 refine AO.pu T ?_
 refine AO.val rfl rfl (ix_map_ok T rfl rfl rfl rfl rfl (getI_drop hd4) rfl) ?_
 iterate 3 refine AO.pu T ?_
 refine AO.nil (AW.seq (AW.region ?_))
 iterate 3 refine AO.pu T ?_
 refine AO.nil (AW.cond (b:=(y2 == skater)) rfl (fun hc=>?_) (fun hc=>?_))
 replace hH:=condT hc hH
 refine AW.seq (AW.region ?_)
 iterate 2 refine AO.pu T ?_
 refine AO.nil (AW.ret ?_)
 have hR:=someE hH;subst hR
 exact retQ.i [] rfl (.c (.c .v))
 replace hH:=condF hc hH
 refine AW.skip (AW.region ?_)
 refine AO.val rfl rfl (ar_ok rfl rfl rfl rfl (inI_succ hlt6 hb5)) ?_
 refine AO.pu T ?_
 refine AO.nil ?_
 refine ⟨k1+1,⟨Nat.succ_le_of_lt hlt6,(by rw [drop_succ_of hd4];exact hH)⟩,(by have:=hlt6;dsimp only;omega),?_⟩
 exact Le.ct 0 0

def spec_SeedsFor_l2 (v22:List Int):List Int→Nat→List Entrant→Option (((List Entrant) × Bool))
  | [],k24,v39 =>
    some (v39,true)
  | y25::ys26,k24,v39 =>
    (spec_soPlace_p v22 y25).bind fun x41 =>
    (need (fitsB 16 (v39.length+([(Entrant.mk y25 (w64 (x41+1)))]).length))).bind fun u43 =>
    spec_SeedsFor_l2 v22 ys26 (k24+1) (v39++[(Entrant.mk y25 (w64 (x41+1)))])
def spec_SeedsFor_l1 (skaters:List Int):List Rank→Nat→List Int→Option (((List Entrant) × Bool))
  | [],k7,v22 =>
    spec_SeedsFor_l2 v22 skaters 0 []
  | y8::ys9,k7,v22 =>
    (spec_l1Has_p skaters y8.skater).bind fun x45 =>
    cond x45
      ((need (fitsB 8 (v22.length+([y8.skater]).length))).bind fun u47 =>
      spec_SeedsFor_l1 skaters ys9 (k7+1) (v22++[y8.skater]))
      (spec_SeedsFor_l1 skaters ys9 (k7+1) v22)
def spec_SeedsFor_p (fuel:Nat) (w:World) (skaters:List Int):Option ((List Entrant) × Bool) :=
  (spec_wlGood_p w).bind fun x1 =>
  (opt (!(!x1)) default (spec_soOrder_p skaters)).bind fun x3 =>
  cond ((!x1) || (!x3))
    (some ([],false))
    ((spec_wlList_p fuel w).bind fun x5 =>
    spec_SeedsFor_l1 skaters x5 0 [])
theorem spec_SeedsFor_ok (fuel:Nat) (w:World) (skaters:List Int) (r:((List Entrant) × Bool)) (hH:spec_SeedsFor_p fuel w skaters=some r):SpecR Tryz.prog 35 [.g (encWorld w),.s (List.map encInt skaters)] (.t [.w 2 (r.1.map encEntrant),.v (.bool r.2)]):=by
 refine fn_ok T Tryz.func35 rfl (by decide) rfl ?_
 refine AW.seq (AW.region (AO.step rfl (box_ok T rfl 1 rfl rfl rfl rfl) ?_))
 iterate 2 refine AO.pu T ?_
 refine AO.nil ?_
 iterate 2 refine AW.seq ?_
 obtain ⟨x1,hx2,hH⟩:=bindE hH
 obtain ⟨x3,hx4,hH⟩:=bindE hH
 refine AW.region (AO.pu T (d:=.g [.s (List.map encSeason w.seasons),.s (List.map encInt w.weights)]) ?_)
 refine AO.val rfl rfl (callV_ok rfl rfl rfl rfl (spec_wlGood_ok _ _ (hx2)) rfl) ?_
 iterate 2 refine AO.pu T ?_
 refine AO.pureG T [] rfl trivial rfl rfl ?_
 refine AO.guard [16] rfl ⟨fun h=>h,trivial⟩ (fun hg=>callV_ok rfl rfl rfl rfl (spec_soOrder_ok _ _ (optT hx4 hg)) rfl) rfl ?_
 refine AO.pureG T [17] rfl ⟨fun h=>h,trivial⟩ rfl rfl ?_
 refine AO.val rfl rfl (pick_or rfl rfl rfl rfl) ?_
 refine AO.nil (AW.cond (b:=((!x1) || (!x3))) rfl (fun hc=>?_) (fun hc=>?_))
 replace hH:=condT hc hH
 refine AW.seq (AW.region ?_)
 iterate 2 refine AO.pu T ?_
 refine AO.nil (AW.ret ?_)
 have hR:=someE hH;subst hR
 exact retQ.i [] rfl (.t (expLG_cons (.c .nil) (expLG_cons (.c .v) (expLG_nil))))
 replace hH:=condF hc hH
 refine AW.skip (AW.seq (AW.region ?_))
 refine AO.pu T ?_
 refine AO.nil ?_
 iterate 2 refine AW.seq ?_
 obtain ⟨x5,hx6,hH⟩:=bindE hH
 refine AW.region (AO.pu T (d:=.g [.s (List.map encSeason w.seasons),.s (List.map encInt w.weights)]) ?_)
 refine AO.step rfl (call_ok rfl 2 rfl rfl rfl (spec_wlList_ok fuel _ _ (hx6)) rfl rfl rfl) ?_
 refine AO.val rfl rfl (len_row_ok T rfl rfl rfl rfl) ?_
 refine AO.pu T ?_
 refine AO.nil (AW.block ?_)
 refine AW.loopS (fun s:Nat × (List Int)=>(⟨[(1,.s (List.map encInt skaters)),(6,.R 8),(21,.R 2),(22,(x5.length:Int)),(23,(s.1:Int))],[(2,.row 3 (List.map encRank x5)),(8,.row 1 (List.map encInt s.2))],54,[]⟩:St)) (fun s=>s.1 ≤ x5.length∧spec_SeedsFor_l1 skaters (x5.drop s.1) s.1 s.2=some r) (fun s=>x5.length - s.1) (0,[]) ⟨Nat.zero_le _,hH⟩ ?_ ?_
 refine Le.trans (Le.void 6 8 1 rfl rfl) ?_
 exact Le.ct 0 0
 rintro ⟨k7,v22⟩ ⟨hk,hH⟩
 replace hH:spec_SeedsFor_l1 skaters (x5.drop k7) k7 v22=some r:=hH
 try dsimp only
 refine AW.boundR (id:=2) (l:=x5) rfl (fun hb11=>?_)
 rcases hd10:x5.drop k7 with _ | ⟨y8,ys9⟩
 rw [hd10,spec_SeedsFor_l1] at hH
 have hlt12:=drop_ge hd10
 refine AW.seq (AW.region (AO.pu T ?_))
 refine AO.nil (AW.seq (AW.condF' (b:=decide ((k7:Int) < (x5.length:Int))) rfl (rngF hlt12) ?_))
 refine AW.exit (AW.seq (AW.region ?_))
 refine AO.pu T ?_
 refine AO.nil ?_
 iterate 2 refine AW.seq ?_
 refine AW.region (AO.pu T ?_)
 refine AO.val rfl rfl (len_map_ok T rfl rfl rfl) ?_
 refine AO.pu T ?_
 refine AO.nil (AW.block ?_)
 refine AW.loopS (fun s:Nat × (List Entrant)=>(⟨[(6,.R 8),(9,.R 12),(37,.s (List.map encInt skaters)),(38,(skaters.length:Int)),(39,(s.1:Int))],[(8,.row 1 (List.map encInt v22)),(12,.row 2 (List.map encEntrant s.2))],54,[]⟩:St)) (fun s=>s.1 ≤ skaters.length∧spec_SeedsFor_l2 v22 (skaters.drop s.1) s.1 s.2=some r) (fun s=>skaters.length - s.1) (0,[]) ⟨Nat.zero_le _,hH⟩ ?_ ?_
 refine Le.trans (Le.void 9 12 2 rfl rfl) ?_
 exact Le.ct 0 0
 rintro ⟨k24,v39⟩ ⟨hk,hH⟩
 replace hH:spec_SeedsFor_l2 v22 (skaters.drop k24) k24 v39=some r:=hH
 try dsimp only
 refine AW.boundM (t:=37) (l:=skaters) rfl (fun hb28=>?_)
 rcases hd27:skaters.drop k24 with _ | ⟨y25,ys26⟩
 rw [hd27,spec_SeedsFor_l2] at hH
 have hlt29:=drop_ge hd27
 refine AW.seq (AW.region (AO.pu T ?_))
 refine AO.nil (AW.seq (AW.condF' (b:=decide ((k24:Int) < (skaters.length:Int))) rfl (rngF hlt29) ?_))
 refine AW.exit (AW.seq (AW.region ?_))
 iterate 3 refine AO.pu T ?_
 refine AO.nil (AW.ret ?_)
 have hR:=someE hH;subst hR
 exact retQ.i [12] rfl (.t (expLG_cons (.c (.rowR rfl)) (expLG_cons (.c .v) (expLG_nil))))
 rw [hd27,spec_SeedsFor_l2] at hH
 have hlt29:=drop_lt hd27
 refine AW.seq (AW.region (AO.pu T ?_))
 refine AO.nil (AW.seq (AW.condT' (b:=decide ((k24:Int) < (skaters.length:Int))) rfl (rngT hlt29) ?_))
 refine AW.skip (AW.seq ?_)
 refine AW.block (AW.seq (AW.region ?_))
 refine AO.val rfl rfl (ix_map_ok T rfl rfl rfl rfl rfl (getI_drop hd27) rfl) ?_
 iterate 2 refine AO.pu T ?_
 refine AO.nil ?_
 obtain ⟨x41,hx42,hH⟩:=bindE hH
 obtain ⟨u43,hx44,hH⟩:=bindE hH
 refine AW.region ?_
 iterate 4 refine AO.pu T ?_
 refine AO.val rfl rfl (callLV_ok rfl rfl rfl (es:=[.s (List.map encInt v22),y25]) ⟨(.rowR rfl (.map fun y=>.vs rfl)),.free rfl,trivial⟩ (spec_soPlace_ok _ _ _ (hx42)) (zfree_v _) rfl) ?_
 refine AO.val rfl rfl (arw_ok rfl rfl rfl rfl) ?_
 refine AO.pu T (d:=.g [y25,w64 (x41+1)]) ?_
 refine AO.step rfl (mk_map_ok T rfl 13 rfl rfl rfl rfl rfl (f:=encEntrant) (l:=[(Entrant.mk y25 (w64 (x41+1)))]) rfl rfl (fun _=>rfl) rfl rfl rfl rfl rfl) ?_
 refine AO.step rfl (app_rv_map T rfl 14 rfl rfl rfl rfl rfl (by decide) rfl rfl rfl rfl (fun _=>rfl) (needT (hx44)) rfl rfl) ?_
 refine AO.pu T ?_
 refine AO.nil (AW.region ?_)
 refine AO.val rfl rfl (ar_ok rfl rfl rfl rfl (inI_succ hlt29 hb28)) ?_
 refine AO.pu T ?_
 refine AO.nil ?_
 refine ⟨(k24+1,(v39++[(Entrant.mk y25 (w64 (x41+1)))])),⟨Nat.succ_le_of_lt hlt29,(by rw [drop_succ_of hd27];exact hH)⟩,(by have:=hlt29;dsimp only;omega),?_⟩
 exact Le.ct 14 12
 rw [hd10,spec_SeedsFor_l1] at hH
 have hlt12:=drop_lt hd10
 refine AW.seq (AW.region (AO.pu T ?_))
 refine AO.nil (AW.seq (AW.condT' (b:=decide ((k7:Int) < (x5.length:Int))) rfl (rngT hlt12) ?_))
 refine AW.skip (AW.seq ?_)
 refine AW.block (AW.seq (AW.region ?_))
 refine AO.val rfl rfl (ix_row_ok T rfl rfl rfl rfl rfl rfl (getI_drop hd10)) ?_
 refine AO.val rfl rfl (load_row_ok T rfl rfl rfl rfl (getI_get (getI_drop hd10)) rfl rfl rfl) ?_
 refine AO.step rfl (alloc_ok T rfl 15 rfl rfl rfl rfl rfl) ?_
 refine AO.se T [y8.skater,y8.total,y8.place] ?_
 refine AO.nil (AW.seq ?_)
 obtain ⟨x45,hx46,hH⟩:=bindE hH
 refine AW.region ?_
 iterate 3 refine AO.pu T ?_
 refine AO.val rfl rfl (callV_ok rfl rfl rfl rfl (spec_l1Has_ok _ _ _ (hx46)) rfl) ?_
 refine AO.nil (AW.cond (b:=x45) rfl (fun hc=>?_) (fun hc=>?_))
 replace hH:=condT hc hH
 obtain ⟨u47,hx48,hH⟩:=bindE hH
 refine AW.region ?_
 iterate 3 refine AO.pu T ?_
 refine AO.step rfl (mk_map_ok T rfl 16 rfl rfl rfl rfl rfl (f:=encInt) (l:=[y8.skater]) rfl rfl (fun _=>rfl) rfl rfl rfl rfl rfl) ?_
 refine AO.step rfl (app_rv_map T rfl 17 rfl rfl rfl rfl rfl (by decide) rfl rfl rfl rfl (fun _=>rfl) (needT (hx48)) rfl rfl) ?_
 refine AO.pu T ?_
 refine AO.nil (AW.region ?_)
 refine AO.val rfl rfl (ar_ok rfl rfl rfl rfl (inI_succ hlt12 hb11)) ?_
 refine AO.pu T ?_
 refine AO.nil ?_
 refine ⟨(k7+1,(v22++[y8.skater])),⟨Nat.succ_le_of_lt hlt12,(by rw [drop_succ_of hd10];exact hH)⟩,(by have:=hlt12;dsimp only;omega),?_⟩
 exact Le.ct 17 8
 replace hH:=condF hc hH
 refine AW.skip (AW.region ?_)
 refine AO.val rfl rfl (ar_ok rfl rfl rfl rfl (inI_succ hlt12 hb11)) ?_
 refine AO.pu T ?_
 refine AO.nil ?_
 refine ⟨(k7+1,v22),⟨Nat.succ_le_of_lt hlt12,(by rw [drop_succ_of hd10];exact hH)⟩,(by have:=hlt12;dsimp only;omega),?_⟩
 exact Le.ct 0 0

def laws_pSameEntrants_l1 (b:List Entrant):List Entrant→Nat→Option Bool
  | [],k1 =>
    some true
  | y2::ys3,k1 =>
    (getI b (k1:Int)).bind fun x12 =>
    cond (!decide (y2=x12))
      (some false)
      (laws_pSameEntrants_l1 b ys3 (k1+1))
def laws_pSameEntrants_p (a:List Entrant) (b:List Entrant):Option Bool :=
  cond ((a.length:Int) != (b.length:Int))
    (some false)
    (laws_pSameEntrants_l1 b a 0)
theorem laws_pSameEntrants_ok (a:List Entrant) (b:List Entrant) (r:Bool) (hH:laws_pSameEntrants_p a b=some r):SpecR Tryz.prog 36 [.s (List.map encEntrant a),.s (List.map encEntrant b)] (.v (.bool r)):=by
 refine fn_ok T Tryz.func36 rfl (by decide) rfl ?_
 refine AW.seq (AW.region (AO.pu T ?_))
 refine AO.nil ?_
 iterate 2 refine AW.seq ?_
 refine AW.region (AO.pu T ?_)
 refine AO.val rfl rfl (len_map_ok T rfl rfl rfl) ?_
 refine AO.pu T ?_
 refine AO.val rfl rfl (len_map_ok T rfl rfl rfl) ?_
 refine AO.pu T ?_
 refine AO.nil (AW.cond (b:=((a.length:Int) != (b.length:Int))) rfl (fun hc=>?_) (fun hc=>?_))
 replace hH:=condT hc hH
 refine AW.seq (AW.region (AO.pu T ?_))
 refine AO.nil (AW.ret ?_)
 have hR:=someE hH;subst hR
 exact retQ.i [] rfl (.c (.c .v))
 replace hH:=condF hc hH
 refine AW.skip ?_
 iterate 2 refine AW.seq ?_
 refine AW.region (AO.pu T ?_)
 refine AO.val rfl rfl (len_map_ok T rfl rfl rfl) ?_
 refine AO.pu T ?_
 refine AO.nil (AW.block ?_)
 refine AW.loopS (fun s:Nat=>(⟨[(0,.s (List.map encEntrant a)),(1,.s (List.map encEntrant b)),(12,(a.length:Int)),(13,(s:Int))],[],26,[]⟩:St)) (fun s=>s ≤ a.length∧laws_pSameEntrants_l1 b (a.drop s) s=some r) (fun s=>a.length - s) 0 ⟨Nat.zero_le _,hH⟩ ?_ ?_
 exact Le.ct 0 0
 rintro k1 ⟨hk,hH⟩
 replace hH:laws_pSameEntrants_l1 b (a.drop k1) k1=some r:=hH
 try dsimp only
 refine AW.boundM (t:=0) (l:=a) rfl (fun hb5=>?_)
 rcases hd4:a.drop k1 with _ | ⟨y2,ys3⟩
 rw [hd4,laws_pSameEntrants_l1] at hH
 have hlt6:=drop_ge hd4
 refine AW.seq (AW.region (AO.pu T ?_))
 refine AO.nil (AW.seq (AW.condF' (b:=decide ((k1:Int) < (a.length:Int))) rfl (rngF hlt6) ?_))
 refine AW.exit (AW.seq (AW.region ?_))
 refine AO.pu T ?_
 refine AO.nil (AW.ret ?_)
 have hR:=someE hH;subst hR
 exact retQ.i [] rfl (.c (.c .v))
 rw [hd4,laws_pSameEntrants_l1] at hH
 have hlt6:=drop_lt hd4
 refine AW.seq (AW.region (AO.pu T ?_))
 refine AO.nil (AW.seq (AW.condT' (b:=decide ((k1:Int) < (a.length:Int))) rfl (rngT hlt6) ?_))
 refine AW.skip (AW.seq ?_)
 refine AW.block (AW.seq (AW.region ?_))
 iterate 2 refine AO.pu T ?_
 refine AO.nil (AW.seq ?_)
 obtain ⟨x12,hx13,hH⟩:=bindE hH
 refine AW.drawn 8 1 [] mix (by kernel_rfl) rfl ?_
 iterate 2 refine AD.pure T rfl rfl rfl ?_
 refine AD.val rfl rfl (ix_map_ok T rfl rfl rfl rfl rfl (getI_drop hd4) rfl) ?_
 refine AD.pure T (d:=.g [y2.skater,y2.rank]) rfl rfl rfl ?_
 iterate 2 refine AD.pure T rfl rfl rfl ?_
 refine AD.val rfl rfl (ix_map_ok T rfl rfl rfl rfl rfl (hx13) rfl) ?_
 refine AD.pure T (d:=.g [x12.skater,x12.rank]) rfl rfl rfl ?_
 refine AD.nil (AO.val rfl rfl (neqg_ok rfl ekTEntrant rfl rfl rfl rfl (eqVEntrant _ _)) ?_)
 refine AO.nil (AW.cond (b:=(!decide (y2=x12))) rfl (fun hc=>?_) (fun hc=>?_))
 replace hH:=condT hc hH
 refine AW.seq (AW.region (AO.pu T ?_))
 refine AO.nil (AW.ret ?_)
 have hR:=someE hH;subst hR
 exact retQ.i [] rfl (.c (.c .v))
 replace hH:=condF hc hH
 refine AW.skip (AW.region ?_)
 refine AO.val rfl rfl (ar_ok rfl rfl rfl rfl (inI_succ hlt6 hb5)) ?_
 refine AO.pu T ?_
 refine AO.nil ?_
 refine ⟨k1+1,⟨Nat.succ_le_of_lt hlt6,(by rw [drop_succ_of hd4];exact hH)⟩,(by have:=hlt6;dsimp only;omega),?_⟩
 exact Le.ct 0 0

def impl_AreEntrants_l2 (y2:Entrant):List Entrant→Nat→Option (Except Bool Unit)
  | [],k80 =>
    some (.ok ())
  | y81::ys82,k80 =>
    cond ((y81.skater == y2.skater) || ((y81.rank == y2.rank) && decide (y2.rank > 0)))
      (some (.error false))
      (impl_AreEntrants_l2 y2 ys82 (k80+1))
def impl_AreEntrants_l1 (l:List Entrant):List Entrant→Nat→Option Bool
  | [],k1 =>
    some (decide ((l.length:Int) ≤ 40))
  | y2::ys3,k1 =>
    ((impl_isSkater_p y2.skater).bind fun x74 =>
    (opt (!(!x74)) default (impl_within_p y2.rank 0 999)).bind fun x76 =>
    cond ((!x74) || (!x76))
      (some (.error false))
      ((sliceHi l (k1:Int)).bind fun x78 =>
      impl_AreEntrants_l2 y2 x78 0)).bind fun o72=>flow o72 fun _ =>
    impl_AreEntrants_l1 l ys3 (k1+1)
def impl_AreEntrants_p (l:List Entrant):Option Bool :=
  impl_AreEntrants_l1 l l 0
theorem impl_AreEntrants_ok (l:List Entrant) (r:Bool) (hH:impl_AreEntrants_p l=some r):SpecR Tryz.prog 37 [.s (List.map encEntrant l)] (.v (.bool r)):=by
 refine fn_ok T Tryz.func37 rfl (by decide) rfl ?_
 refine AW.seq (AW.region (AO.pu T ?_))
 refine AO.nil ?_
 iterate 2 refine AW.seq ?_
 refine AW.region (AO.pu T ?_)
 refine AO.val rfl rfl (len_map_ok T rfl rfl rfl) ?_
 refine AO.pu T ?_
 refine AO.nil (AW.block ?_)
 refine AW.loopS (fun s:Nat=>(⟨[(0,.s (List.map encEntrant l)),(7,.s (List.map encEntrant l)),(8,(l.length:Int)),(9,(s:Int))],[],54,[]⟩:St)) (fun s=>s ≤ l.length∧impl_AreEntrants_l1 l (l.drop s) s=some r) (fun s=>l.length - s) 0 ⟨Nat.zero_le _,hH⟩ ?_ ?_
 exact Le.ct 0 0
 rintro k1 ⟨hk,hH⟩
 replace hH:impl_AreEntrants_l1 l (l.drop k1) k1=some r:=hH
 try dsimp only
 refine AW.boundM (t:=0) (l:=l) rfl (fun hb5=>?_)
 rcases hd4:l.drop k1 with _ | ⟨y2,ys3⟩
 rw [hd4,impl_AreEntrants_l1] at hH
 have hlt6:=drop_ge hd4
 refine AW.seq (AW.region (AO.pu T ?_))
 refine AO.nil (AW.seq (AW.condF' (b:=decide ((k1:Int) < (l.length:Int))) rfl (rngF hlt6) ?_))
 refine AW.exit (AW.seq (AW.region ?_))
 refine AO.pu T ?_
 refine AO.val rfl rfl (len_map_ok T rfl rfl rfl) ?_
 iterate 2 refine AO.pu T ?_
 refine AO.nil (AW.ret ?_)
 have hR:=someE hH;subst hR
 exact retQ.i [] rfl (.c (.c .v))
 rw [hd4,impl_AreEntrants_l1] at hH
 have hlt6:=drop_lt hd4
 refine AW.seq (AW.region (AO.pu T ?_))
 refine AO.nil (AW.seq (AW.condT' (b:=decide ((k1:Int) < (l.length:Int))) rfl (rngT hlt6) ?_))
 refine AW.skip ?_
 obtain ⟨o72,hH,hK73⟩:=bindE hH
 refine AW.seqJ (fun s:Unit=>(⟨[(0,.s (List.map encEntrant l)),(7,.s (List.map encEntrant l)),(8,(l.length:Int)),(9,(k1:Int))],[],54,[]⟩:St)) (fun s=>.ok s=o72) ?_ ?_
 refine AW.block (AW.seq (AW.region ?_))
 refine AO.pu T ?_
 refine AO.val rfl rfl (ix_map_ok T rfl rfl rfl rfl rfl (getI_drop hd4) rfl) ?_
 refine AO.pu T (d:=.g [y2.skater,y2.rank]) ?_
 refine AO.step rfl (alloc_ok T rfl 21 rfl rfl rfl rfl rfl) ?_
 refine AO.pu T ?_
 refine AO.se T [y2.skater,y2.rank] ?_
 refine AO.nil ?_
 iterate 2 refine AW.seq ?_
 obtain ⟨x74,hx75,hH⟩:=bindE hH
 obtain ⟨x76,hx77,hH⟩:=bindE hH
 refine AW.region ?_
 iterate 2 refine AO.pu T ?_
 refine AO.val rfl rfl (callV_ok rfl rfl rfl rfl (impl_isSkater_ok _ _ (hx75)) rfl) ?_
 iterate 2 refine AO.pu T ?_
 refine AO.pureG T [] rfl trivial rfl rfl ?_
 refine AO.pureG T [19] rfl ⟨fun h=>h,trivial⟩ rfl rfl ?_
 refine AO.guard [20] rfl ⟨fun h=>h,trivial⟩ (fun hg=>callV_ok rfl rfl rfl rfl (impl_within_ok _ _ _ _ (optT hx77 hg)) rfl) rfl ?_
 refine AO.pureG T [21] rfl ⟨fun h=>h,trivial⟩ rfl rfl ?_
 refine AO.val rfl rfl (pick_or rfl rfl rfl rfl) ?_
 refine AO.nil (AW.cond (b:=((!x74) || (!x76))) rfl (fun hc=>?_) (fun hc=>?_))
 replace hH:=condT hc hH
 refine AW.seq (AW.region (AO.pu T ?_))
 refine AO.nil (AW.ret ?_)
 obtain rfl:=someE hH
 replace hH:=hK73
 have hR:=someE hH;subst hR
 exact retQ.i [] rfl (.c (.c .v))
 replace hH:=condF hc hH
 refine AW.skip (AW.seq ?_)
 obtain ⟨x78,hx79,hH⟩:=bindE hH
 refine AW.region ?_
 iterate 2 refine AO.pu T ?_
 refine AO.val rfl rfl (slice_hi_map_ok T rfl rfl rfl rfl rfl (hx79) (fun _=>rfl)) ?_
 refine AO.val rfl rfl (len_map_ok T rfl rfl rfl) ?_
 refine AO.pu T ?_
 refine AO.nil (AW.block ?_)
 refine AW.loopS (fun s:Nat=>(⟨[(0,.s (List.map encEntrant l)),(4,.p 21 0),(7,.s (List.map encEntrant l)),(8,(l.length:Int)),(9,(k1:Int)),(26,.s (List.map encEntrant x78)),(27,(x78.length:Int)),(28,(s:Int))],[(21,.box [y2.skater,y2.rank])],54,[]⟩:St)) (fun s=>s ≤ x78.length∧impl_AreEntrants_l2 y2 (x78.drop s) s=some o72) (fun s=>x78.length - s) 0 ⟨Nat.zero_le _,hH⟩ ?_ ?_
 exact Le.ct 0 0
 rintro k80 ⟨hk,hH⟩
 replace hH:impl_AreEntrants_l2 y2 (x78.drop k80) k80=some o72:=hH
 try dsimp only
 refine AW.boundM (t:=26) (l:=x78) rfl (fun hb84=>?_)
 rcases hd83:x78.drop k80 with _ | ⟨y81,ys82⟩
 rw [hd83,impl_AreEntrants_l2] at hH
 have hlt85:=drop_ge hd83
 refine AW.seq (AW.region (AO.pu T ?_))
 refine AO.nil (AW.seq (AW.condF' (b:=decide ((k80:Int) < (x78.length:Int))) rfl (rngF hlt85) ?_))
 refine AW.exit ?_
 refine ⟨_,someE hH,?_⟩
 exact Le.ct 0 0
 rw [hd83,impl_AreEntrants_l2] at hH
 have hlt85:=drop_lt hd83
 refine AW.seq (AW.region (AO.pu T ?_))
 refine AO.nil (AW.seq (AW.condT' (b:=decide ((k80:Int) < (x78.length:Int))) rfl (rngT hlt85) ?_))
 refine AW.skip (AW.seq ?_)
 refine AW.block (AW.seq (AW.region ?_))
 refine AO.val rfl rfl (ix_map_ok T rfl rfl rfl rfl rfl (getI_drop hd83) rfl) ?_
 refine AO.pu T (d:=.g [y81.skater,y81.rank]) ?_
 refine AO.step rfl (alloc_ok T rfl 24 rfl rfl rfl rfl rfl) ?_
 refine AO.se T [y81.skater,y81.rank] ?_
 refine AO.nil (AW.seq (AW.region ?_))
 iterate 6 refine AO.pu T ?_
 refine AO.pureG T [] rfl trivial rfl rfl ?_
 refine AO.pureG T [38] rfl ⟨fun h=>h,trivial⟩ rfl rfl ?_
 refine AO.pureG T [] rfl trivial rfl rfl ?_
 refine AO.pureG T [40] rfl ⟨fun h=>h,trivial⟩ rfl rfl ?_
 refine AO.pureG T [39,41] rfl ⟨fun h=>h,fun h=>h,trivial⟩ rfl rfl ?_
 refine AO.pureG T [42] rfl ⟨fun h=>h,trivial⟩ rfl rfl ?_
 refine AO.pureG T [] rfl trivial rfl rfl ?_
 refine AO.pureG T [44] rfl ⟨fun h=>h,trivial⟩ rfl rfl ?_
 refine AO.pureG T [45] rfl ⟨fun h=>h,trivial⟩ rfl rfl ?_
 refine AO.guard [43] rfl ⟨fun h=>h,trivial⟩ (fun hg=>pick_and rfl rfl rfl (by rw [hg];exact Bool.true_and _)) rfl ?_
 refine AO.val rfl rfl (pick_or rfl rfl rfl rfl) ?_
 refine AO.nil (AW.cond (b:=((y81.skater == y2.skater) || ((y81.rank == y2.rank) && decide (y2.rank > 0)))) rfl (fun hc=>?_) (fun hc=>?_))
 replace hH:=condT hc hH
 refine AW.seq (AW.region (AO.pu T ?_))
 refine AO.nil (AW.ret ?_)
 obtain rfl:=someE hH
 replace hH:=hK73
 have hR:=someE hH;subst hR
 exact retQ.i [] rfl (.c (.c .v))
 replace hH:=condF hc hH
 refine AW.skip (AW.region ?_)
 refine AO.val rfl rfl (ar_ok rfl rfl rfl rfl (inI_succ hlt85 hb84)) ?_
 refine AO.pu T ?_
 refine AO.nil ?_
 refine ⟨k80+1,⟨Nat.succ_le_of_lt hlt85,(by rw [drop_succ_of hd83];exact hH)⟩,(by have:=hlt85;dsimp only;omega),?_⟩
 exact Le.ct 0 0
 rintro _ hs
 subst hs
 replace hH:=hK73
 try dsimp only [flow,flowE] at hH
 try dsimp only
 refine AW.region (AO.val rfl rfl (ar_ok rfl rfl rfl rfl (inI_succ hlt6 hb5)) ?_)
 refine AO.pu T ?_
 refine AO.nil ?_
 refine ⟨k1+1,⟨Nat.succ_le_of_lt hlt6,(by rw [drop_succ_of hd4];exact hH)⟩,(by have:=hlt6;dsimp only;omega),?_⟩
 exact Le.ct 0 0

end Go.Proofs.YtegdphhfimaieaaGreat

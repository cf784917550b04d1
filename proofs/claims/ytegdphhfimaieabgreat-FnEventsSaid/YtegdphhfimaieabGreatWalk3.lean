/- The walk, part 3: what each function reached by the law FnEvents computes. No condition. -/
import Derived.Test.YtegdphhfimaieabGreatWalk2
set_option maxRecDepth 4000
set_option maxHeartbeats 1000000
set_option linter.unusedVariables false
set_option linter.unusedSimpArgs false
set_option linter.unusedSectionVars false

namespace Go.Proofs.YtegdphhfimaieabGreat
open Go.AM

def impl_compareBehind_p (x:Entrant) (y:Entrant):Option Int :=
 cond ((x.rank == 0) && (y.rank == 0))
  (some (w64 (y.skater - x.skater)))
  (cond (x.rank == 0)
   (some (-1))
   (cond (y.rank == 0)
    (some 1)
    (some (w64 (y.rank - x.rank)))))
theorem impl_compareBehind_ok (x:Entrant) (y:Entrant) (r:Int) (hH:impl_compareBehind_p x y=some r):SpecR Tryz.prog 175 [.g (ze1 x),.g (ze1 y)] (.v (.int .i64 r)):=by
 refine zFn T Tryz.func175 rfl (by decide) rfl ?_
 refine AW.q (AW.r (AO.s rfl (zBx T rfl 1 rfl rfl rfl rfl) ?_))
 refine AO.s rfl (zBx T rfl 2 rfl rfl rfl rfl) ?_
 refine AO.pu T ?_
 refine AO.n (AW.q (AW.b ?_))
 refine AW.q (AW.r ?_)
 iterate 4 refine AO.pu T ?_
 refine AO.g T [] rfl trivial rfl rfl ?_
 refine AO.g T [10] rfl ⟨fun h=>h,trivial⟩ rfl rfl ?_
 refine AO.g T [11] rfl ⟨fun h=>h,trivial⟩ rfl rfl ?_
 refine AO.v rfl rfl (zN rfl rfl rfl rfl) ?_
 refine AO.pu T ?_
 refine AO.n (AW.c (b:=((x.rank == 0) && (y.rank == 0))) rfl (fun hc=>?_) (fun hc=>?_))
 replace hH:=condT hc hH
 refine AW.q (AW.r ?_)
 iterate 4 refine AO.pu T ?_
 refine AO.v rfl rfl (zW rfl rfl rfl rfl) ?_
 refine AO.pu T ?_
 refine AO.n (AW.t ?_)
 have hR:=zS hH;subst hR
 exact retQ.i [] rfl (.c (.c .v))
 replace hH:=condF hc hH
 refine AW.q (AW.r ?_)
 iterate 4 refine AO.pu T ?_
 refine AO.n (AW.c (b:=(x.rank == 0)) rfl (fun hc=>?_) (fun hc=>?_))
 replace hH:=condT hc hH
 refine AW.q (AW.r (AO.pu T ?_))
 refine AO.n (AW.t ?_)
 have hR:=zS hH;subst hR
 exact retQ.i [] rfl (.c (.c .v))
 replace hH:=condF hc hH
 refine AW.q (AW.r ?_)
 iterate 4 refine AO.pu T ?_
 refine AO.n (AW.c (b:=(y.rank == 0)) rfl (fun hc=>?_) (fun hc=>?_))
 replace hH:=condT hc hH
 refine AW.q (AW.r (AO.pu T ?_))
 refine AO.n (AW.t ?_)
 have hR:=zS hH;subst hR
 exact retQ.i [] rfl (.c (.c .v))
 replace hH:=condF hc hH
 refine AW.k (AW.q (AW.r ?_))
 iterate 4 refine AO.pu T ?_
 refine AO.v rfl rfl (zW rfl rfl rfl rfl) ?_
 refine AO.pu T ?_
 refine AO.n (AW.le (Le.ct 0 0 (σ':=(⟨[(4,w64 (y.rank - x.rank))],[],32,[]⟩:St))) ?_)
 refine AW.t ?_
 have hR:=zS hH;subst hR
 exact retQ.i [] rfl (.c (.c .v))

def impl_evenSizes_l1 (n:Int) (groups:Int):Nat→List Int→Int→Option ((List Int))
 | 0,_,_=>none
 | k1+1,v16,v17 =>
  cond (decide (v17 < groups))
   ((need (groups != 0)).bind fun u19 =>
   cond (decide (v17 < (n.tmod groups)))
    ((need (fitsB 8 (v16.length+([w64 ((w64 (n.tdiv groups))+1)]).length))).bind fun u21 =>
    impl_evenSizes_l1 n groups k1 (v16++[w64 ((w64 (n.tdiv groups))+1)]) (w64 (v17+1)))
    ((need (fitsB 8 (v16.length+([w64 (n.tdiv groups)]).length))).bind fun u23 =>
    impl_evenSizes_l1 n groups k1 (v16++[w64 (n.tdiv groups)]) (w64 (v17+1))))
   (some v16)
def impl_evenSizes_p (fuel:Nat) (n:Int) (groups:Int):Option (List Int) :=
 impl_evenSizes_l1 n groups fuel [] 0
theorem impl_evenSizes_ok (fuel:Nat) (n:Int) (groups:Int) (r:(List Int)) (hH:impl_evenSizes_p fuel n groups=some r):SpecR Tryz.prog 176 [n,groups] (.w 1 (r.map ze0)):=by
 refine zFn T Tryz.func176 rfl (by decide) rfl ?_
 refine AW.q (AW.r (AO.pu T ?_))
 refine AO.n (AW.q (AW.r ?_))
 refine AO.s rfl (mk0_ok T rfl rfl rfl rfl) ?_
 refine AO.pu T ?_
 refine AO.n ?_
 iterate 2 refine AW.q ?_
 refine AW.r ?_
 iterate 2 refine AO.pu T ?_
 refine AO.n (AW.b ?_)
 refine AW.loopS (fun s:Nat × (List Int) × Int=>(⟨[(0,n),(1,groups),(5,.R 6),(9,groups),(10,s.2.2)],[(6,.row 1 (List.map ze0 s.2.1))],29,[]⟩:St)) (fun s=>impl_evenSizes_l1 n groups s.1 s.2.1 s.2.2=some r) (fun s=>s.1) (fuel,[],0) hH ?_ ?_
 refine Le.trans (Le.void 5 6 1 rfl rfl) ?_
 exact Le.ct 0 0
 rintro ⟨k1,v16,v17⟩ hH
 replace hH:impl_evenSizes_l1 n groups k1 v16 v17=some r:=hH
 try dsimp only
 rcases k1 with _ | k1
 cases (show none=some _ from hH)
 rw [impl_evenSizes_l1] at hH
 refine AW.q (AW.r (AO.pu T ?_))
 refine AO.n (AW.q (AW.c (b:=decide (v17 < groups)) rfl (fun hc=>?_) (fun hc=>?_)))
 replace hH:=condT hc hH
 refine AW.k (AW.q ?_)
 refine AW.b (AW.q (AW.r ?_))
 iterate 2 refine AO.pu T ?_
 refine AO.n (AW.q ?_)
 obtain ⟨u19,hx20,hH⟩:=zB hH
 refine AW.r ?_
 iterate 2 refine AO.pu T ?_
 refine AO.v rfl rfl (quow_ok rfl rfl rfl (neZ (needT (hx20)))) ?_
 refine AO.pu T ?_
 refine AO.n ?_
 iterate 2 refine AW.q ?_
 refine AW.r ?_
 iterate 3 refine AO.pu T ?_
 refine AO.v rfl rfl (rem_ok rfl rfl rfl (neZ (needT (hx20)))) ?_
 refine AO.pu T ?_
 refine AO.n (AW.c (b:=decide (v17 < (n.tmod groups))) rfl (fun hc=>?_) (fun hc=>?_))
 replace hH:=condT hc hH
 refine AW.r (AO.pu T ?_)
 refine AO.v rfl rfl (zW rfl rfl rfl rfl) ?_
 refine AO.pu T ?_
 refine AO.n ?_
 obtain ⟨u21,hx22,hH⟩:=zB hH
 refine AW.r ?_
 iterate 2 refine AO.pu T ?_
 refine AO.s rfl (mk_map_ok T rfl 9 rfl rfl rfl rfl rfl (f:=ze0) (l:=[w64 ((w64 (n.tdiv groups))+1)]) rfl rfl (fun _=>rfl) rfl rfl rfl rfl rfl) ?_
 refine AO.s rfl (zAr T rfl 10 rfl rfl rfl rfl rfl (by decide) rfl rfl rfl rfl (fun _=>rfl) (needT (hx22)) rfl rfl) ?_
 refine AO.pu T ?_
 refine AO.n (AW.r ?_)
 refine AO.v rfl rfl (zW rfl rfl rfl rfl) ?_
 refine AO.pu T ?_
 refine AO.n ?_
 refine ⟨(k1,(v16++[w64 ((w64 (n.tdiv groups))+1)]),w64 (v17+1)),hH,Nat.lt_succ_self _,?_⟩
 exact Le.ct 10 6
 replace hH:=condF hc hH
 refine AW.k ?_
 obtain ⟨u23,hx24,hH⟩:=zB hH
 refine AW.r ?_
 iterate 2 refine AO.pu T ?_
 refine AO.s rfl (mk_map_ok T rfl 11 rfl rfl rfl rfl rfl (f:=ze0) (l:=[w64 (n.tdiv groups)]) rfl rfl (fun _=>rfl) rfl rfl rfl rfl rfl) ?_
 refine AO.s rfl (zAr T rfl 12 rfl rfl rfl rfl rfl (by decide) rfl rfl rfl rfl (fun _=>rfl) (needT (hx24)) rfl rfl) ?_
 refine AO.pu T ?_
 refine AO.n (AW.r ?_)
 refine AO.v rfl rfl (zW rfl rfl rfl rfl) ?_
 refine AO.pu T ?_
 refine AO.n ?_
 refine ⟨(k1,(v16++[w64 (n.tdiv groups)]),w64 (v17+1)),hH,Nat.lt_succ_self _,?_⟩
 exact Le.ct 12 6
 replace hH:=condF hc hH
 refine AW.exit (AW.q (AW.r ?_))
 iterate 2 refine AO.pu T ?_
 refine AO.n (AW.t ?_)
 have hR:=zS hH;subst hR
 exact retQ.i [6] rfl (.c (.c (.rowR rfl)))

def impl_cutInto_l1:List Int→Nat→List Int→List (List Int)→Option ((List (List Int)))
 | [],k1,v25,v26 =>
  some v26
 | y2::ys3,k1,v25,v26 =>
  (sliceHi v25 y2).bind fun x28 =>
  (impl_copyInts_p x28).bind fun x30 =>
  (need (fitsB 24 (v26.length+([x30]).length))).bind fun u32 =>
  (sliceLo v25 y2).bind fun x34 =>
  impl_cutInto_l1 ys3 (k1+1) x34 (v26++[x30])
def impl_cutInto_p (l:List Int) (sizes:List Int):Option (List (List Int)) :=
 impl_cutInto_l1 sizes 0 l []
theorem impl_cutInto_ok (l:List Int) (sizes:List Int) (r:(List (List Int))) (hH:impl_cutInto_p l sizes=some r):SpecR Tryz.prog 133 [.s (List.map ze0 l),.s (List.map ze0 sizes)] (.w 1 (r.map ze11)):=by
 refine zFn T Tryz.func133 rfl (by decide) rfl ?_
 refine AW.q (AW.r (AO.pu T ?_))
 refine AO.n (AW.q (AW.r ?_))
 refine AO.s rfl (mk0_ok T rfl rfl rfl rfl) ?_
 refine AO.pu T ?_
 refine AO.n ?_
 iterate 2 refine AW.q ?_
 refine AW.r (AO.pu T ?_)
 refine AO.v rfl rfl (zL T rfl rfl rfl) ?_
 refine AO.pu T ?_
 refine AO.n (AW.b ?_)
 refine AW.loopS (fun s:Nat × (List Int) × (List (List Int))=>(⟨[(0,.s (List.map ze0 s.2.1)),(5,.R 6),(9,.s (List.map ze0 sizes)),(10,(sizes.length:Int)),(11,(s.1:Int))],[(6,.row 1 (List.map ze11 s.2.2))],27,[]⟩:St)) (fun s=>s.1 ≤ sizes.length∧impl_cutInto_l1 (sizes.drop s.1) s.1 s.2.1 s.2.2=some r) (fun s=>sizes.length - s.1) (0,l,[]) ⟨Nat.zero_le _,hH⟩ ?_ ?_
 refine Le.trans (Le.void 5 6 1 rfl rfl) ?_
 exact Le.ct 0 0
 rintro ⟨k1,v25,v26⟩ ⟨hk,hH⟩
 replace hH:impl_cutInto_l1 (sizes.drop k1) k1 v25 v26=some r:=hH
 try dsimp only
 refine AW.boundM (t:=9) (l:=sizes) rfl (fun hb5=>?_)
 rcases hd4:sizes.drop k1 with _ | ⟨y2,ys3⟩
 rw [hd4,impl_cutInto_l1] at hH
 have hlt6:=drop_ge hd4
 refine AW.q (AW.r (AO.pu T ?_))
 refine AO.n (AW.q (AW.condF' (b:=decide ((k1:Int) < (sizes.length:Int))) rfl (rngF hlt6) ?_))
 refine AW.exit (AW.q (AW.r ?_))
 iterate 2 refine AO.pu T ?_
 refine AO.n (AW.t ?_)
 have hR:=zS hH;subst hR
 exact retQ.i [6] rfl (.c (.c (.rowR rfl)))
 rw [hd4,impl_cutInto_l1] at hH
 have hlt6:=drop_lt hd4
 refine AW.q (AW.r (AO.pu T ?_))
 refine AO.n (AW.q (AW.condT' (b:=decide ((k1:Int) < (sizes.length:Int))) rfl (rngT hlt6) ?_))
 refine AW.k (AW.q ?_)
 refine AW.b (AW.q (AW.r ?_))
 refine AO.v rfl rfl (zX T rfl rfl rfl rfl rfl (zgD hd4) rfl) ?_
 iterate 2 refine AO.pu T ?_
 refine AO.n (AW.q ?_)
 obtain ⟨x28,hx29,hH⟩:=zB hH
 obtain ⟨x30,hx31,hH⟩:=zB hH
 obtain ⟨u32,hx33,hH⟩:=zB hH
 refine AW.r ?_
 iterate 3 refine AO.pu T ?_
 refine AO.v rfl rfl (slice_hi_map_ok T rfl rfl rfl rfl rfl (hx29) (fun _=>rfl)) ?_
 refine AO.s rfl (call_ok rfl 7 rfl rfl rfl (impl_copyInts_ok _ _ (hx31)) rfl rfl rfl) ?_
 refine AO.s rfl (mk_o_ok T rfl 8 rfl rfl rfl rfl rfl rfl (f:=ze11) (l:=[x30]) (ids:=[7]) rfl rfl (fun _=>rfl) (by exact zC (.rowR rfl) (zCn)) (by decide) rfl rfl rfl rfl rfl) ?_
 refine AO.s rfl (app_rr_map T rfl 9 rfl rfl rfl rfl rfl (by decide) rfl rfl rfl rfl rfl (needT (hx33)) rfl rfl) ?_
 refine AO.pu T ?_
 refine AO.n ?_
 obtain ⟨x34,hx35,hH⟩:=zB hH
 refine AW.r ?_
 iterate 2 refine AO.pu T ?_
 refine AO.v rfl rfl (slice_lo_map_ok T rfl rfl rfl rfl rfl (hx35) (fun _=>rfl)) ?_
 refine AO.pu T ?_
 refine AO.n (AW.r ?_)
 refine AO.v rfl rfl (zR rfl rfl rfl rfl (zK hlt6 hb5)) ?_
 refine AO.pu T ?_
 refine AO.n ?_
 refine ⟨(k1+1,x34,(v26++[x30])),⟨Nat.succ_le_of_lt hlt6,(by rw [zds hd4];exact hH)⟩,(by have:=hlt6;dsimp only;omega),?_⟩
 exact Le.ct 9 6

def impl_rankGroups_l2 (x22:(List (List Int))):Nat→List (List Int)→List (List Int)→Int→Option (((List (List Int)) × Bool))
 | 0,_,_,_=>none
 | k24+1,v36,v37,v38 =>
  cond (decide (v38 < (x22.length:Int)))
   ((getI v37 v38).bind fun x40 =>
   (slices_Sort_int_p x40).bind fun x42 =>
   impl_rankGroups_l2 x22 k24 (v37.set v38.toNat x42) (v37.set v38.toNat x42) (w64 (v38+1)))
   (some (v37,true))
def impl_rankGroups_l1 (l:List Entrant) (size:Int) (fuel:Nat):List Entrant→Nat→List Int→Option (((List (List Int)) × Bool))
 | [],k7,v18 =>
  (impl_evenSizes_p fuel (l.length:Int) (w64 ((w64 ((w64 ((l.length:Int)+size)) - 1)).tdiv size))).bind fun x20 =>
  (impl_cutInto_p v18 x20).bind fun x22 =>
  impl_rankGroups_l2 x22 fuel x22 x22 0
 | y8::ys9,k7,v18 =>
  (need (fitsB 8 (v18.length+([y8.skater]).length))).bind fun u44 =>
  impl_rankGroups_l1 l size fuel ys9 (k7+1) (v18++[y8.skater])
def impl_rankGroups_p (fuel:Nat) (l:List Entrant) (size:Int):Option ((List (List Int)) × Bool) :=
 (need (size != 0)).bind fun u1 =>
 cond (decide ((w64 ((w64 ((w64 ((l.length:Int)+size)) - 1)).tdiv size)) > 8))
  (some ([],false))
  ((need (fitsB 16 l.length)).bind fun u3 =>
  (slices_SortFunc_Entrant_p l (fun a0 a1=>impl_compareBehind_p a0 a1)).bind fun x5 =>
  impl_rankGroups_l1 l size fuel x5 0 [])
theorem impl_rankGroups_ok (fuel:Nat) (l:List Entrant) (size:Int) (r:((List (List Int)) × Bool)) (hH:impl_rankGroups_p fuel l size=some r):SpecR Tryz.prog 156 [.s (List.map ze1 l),size] (.t [.w 1 (r.1.map ze11),.v (.bool r.2)]):=by
 refine zFn T Tryz.func156 rfl (by decide) rfl ?_
 refine AW.q (AW.r ?_)
 iterate 2 refine AO.pu T ?_
 refine AO.n (AW.q ?_)
 obtain ⟨u1,hx2,hH⟩:=zB hH
 refine AW.r (AO.pu T ?_)
 refine AO.v rfl rfl (zL T rfl rfl rfl) ?_
 refine AO.pu T ?_
 iterate 2 refine AO.v rfl rfl (zW rfl rfl rfl rfl) ?_
 refine AO.pu T ?_
 refine AO.v rfl rfl (quow_ok rfl rfl rfl (neZ (needT (hx2)))) ?_
 refine AO.pu T ?_
 refine AO.n ?_
 iterate 2 refine AW.q ?_
 refine AW.r ?_
 iterate 2 refine AO.pu T ?_
 refine AO.n (AW.c (b:=decide ((w64 ((w64 ((w64 ((l.length:Int)+size)) - 1)).tdiv size)) > 8)) rfl (fun hc=>?_) (fun hc=>?_))
 replace hH:=condT hc hH
 refine AW.q (AW.r ?_)
 iterate 2 refine AO.pu T ?_
 refine AO.n (AW.t ?_)
 have hR:=zS hH;subst hR
 exact retQ.i [] rfl (.t (zG (.c .nil) (zG (.c .v) (zGn))))
 replace hH:=condF hc hH
 refine AW.k (AW.q ?_)
 obtain ⟨u3,hx4,hH⟩:=zB hH
 refine AW.r (AO.s rfl (mk0_ok T rfl rfl rfl rfl) ?_)
 refine AO.pu T ?_
 refine AO.s rfl (app_ws_map T rfl 1 rfl rfl rfl rfl rfl (by decide) (by decide) rfl rfl (fun _=>rfl) (needT (hx4)) rfl rfl) ?_
 refine AO.s rfl (mk0_ok T rfl rfl rfl rfl) ?_
 iterate 2 refine AO.pu T ?_
 refine AO.n (AW.q ?_)
 obtain ⟨x5,hx6,hH⟩:=zB hH
 refine AW.r (AO.pu T ?_)
 refine AO.s rfl (zM rfl 2 rfl rfl (es:=[.w 2 (l.map ze1),.f 175 []]) (outs:=[.w 2 (x5.map ze1),.u]) (ids:=[1]) (by exact zG (.c (.rowR rfl)) (zG (.c (.f rfl)) (zGn))) (by decide) (.inl (by rfl)) (by rfl) (slices_SortFunc_Entrant_ok _ 175 [] rfl (fun a0 a1=>impl_compareBehind_p a0 a1) (fun a0 a1 q h=>impl_compareBehind_ok a0 a1  q h) _ (hx6)) rfl (by rfl) rfl) ?_
 refine AO.n ?_
 iterate 2 refine AW.q ?_
 refine AW.r (AO.pu T ?_)
 refine AO.v rfl rfl (len_row_ok T rfl rfl rfl rfl) ?_
 refine AO.pu T ?_
 refine AO.n (AW.b ?_)
 refine AW.loopS (fun s:Nat × (List Int)=>(⟨[(0,.s (List.map ze1 l)),(6,w64 ((w64 ((w64 ((l.length:Int)+size)) - 1)).tdiv size)),(8,.R 7),(29,.R 1),(30,(x5.length:Int)),(31,(s.1:Int))],[(1,.row 2 (List.map ze1 x5)),(7,.row 1 (List.map ze0 s.2))],57,[]⟩:St)) (fun s=>s.1 ≤ x5.length∧impl_rankGroups_l1 l size fuel (x5.drop s.1) s.1 s.2=some r) (fun s=>x5.length - s.1) (0,[]) ⟨Nat.zero_le _,hH⟩ ?_ ?_
 refine Le.trans (Le.void 8 7 1 rfl rfl) ?_
 exact Le.ct 0 0
 rintro ⟨k7,v18⟩ ⟨hk,hH⟩
 replace hH:impl_rankGroups_l1 l size fuel (x5.drop k7) k7 v18=some r:=hH
 try dsimp only
 refine AW.boundR (id:=1) (l:=x5) rfl (fun hb11=>?_)
 rcases hd10:x5.drop k7 with _ | ⟨y8,ys9⟩
 rw [hd10,impl_rankGroups_l1] at hH
 have hlt12:=drop_ge hd10
 refine AW.q (AW.r (AO.pu T ?_))
 refine AO.n (AW.q (AW.condF' (b:=decide ((k7:Int) < (x5.length:Int))) rfl (rngF hlt12) ?_))
 refine AW.exit (AW.q ?_)
 obtain ⟨x20,hx21,hH⟩:=zB hH
 obtain ⟨x22,hx23,hH⟩:=zB hH
 refine AW.r ?_
 iterate 2 refine AO.pu T ?_
 refine AO.v rfl rfl (zL T rfl rfl rfl) ?_
 refine AO.pu T ?_
 refine AO.s rfl (call_ok rfl 8 rfl rfl rfl (impl_evenSizes_ok fuel _ _ _ (hx21)) rfl rfl rfl) ?_
 refine AO.s rfl (callL_ok rfl 9 rfl rfl (es:=[.s (List.map ze0 v18),.s (List.map ze0 x20)]) (by exact ⟨(.rowR rfl (.map fun y=>.vs rfl)),(.rowR rfl (.map fun y=>.vs rfl)),trivial⟩) (impl_cutInto_ok _ _ _ (hx23)) (zfree_map (fun y=>(.cons (zfree_map (fun y=>(.cons (zfree_v _) .nil))) .nil))) rfl rfl rfl) ?_
 refine AO.pu T ?_
 refine AO.n ?_
 iterate 2 refine AW.q ?_
 refine AW.r (AO.pu T ?_)
 refine AO.v rfl rfl (len_row_ok T rfl rfl rfl rfl) ?_
 refine AO.pu T ?_
 refine AO.n (AW.b ?_)
 refine AW.loopS (fun s:Nat × (List (List Int)) × (List (List Int)) × Int=>(⟨[(11,.R 9),(47,.R 9),(48,(x22.length:Int)),(49,s.2.2.2)],[(9,.row 1 (List.map ze11 s.2.2.1))],57,[]⟩:St)) (fun s=>impl_rankGroups_l2 x22 s.1 s.2.1 s.2.2.1 s.2.2.2=some r) (fun s=>s.1) (fuel,x22,x22,0) hH ?_ ?_
 exact Le.ct 0 0
 rintro ⟨k24,v36,v37,v38⟩ hH
 replace hH:impl_rankGroups_l2 x22 k24 v36 v37 v38=some r:=hH
 try dsimp only
 rcases k24 with _ | k24
 cases (show none=some _ from hH)
 rw [impl_rankGroups_l2] at hH
 refine AW.q (AW.r (AO.pu T ?_))
 refine AO.n (AW.q (AW.c (b:=decide (v38 < (x22.length:Int))) rfl (fun hc=>?_) (fun hc=>?_)))
 replace hH:=condT hc hH
 refine AW.k (AW.q ?_)
 refine AW.b (AW.q ?_)
 obtain ⟨x40,hx41,hH⟩:=zB hH
 refine AW.le (Le.openM 9 v38.toNat 0 12 rfl (zgG (hx41)) rfl rfl) ?_
 refine AW.r (AO.v rfl rfl (ix_lent_ok T rfl rfl rfl rfl rfl rfl (hx41)) ?_)
 refine AO.v rfl rfl (load_lent_ok T rfl rfl rfl rfl rfl) ?_
 refine AO.pu T ?_
 refine AO.n ?_
 obtain ⟨x42,hx43,hH⟩:=zB hH
 refine AW.r (AO.pu T ?_)
 refine AO.s rfl (zM rfl 13 rfl rfl (es:=[.w 1 (x40.map ze0)]) (outs:=[.w 1 (x42.map ze0)]) (ids:=[12]) (by exact zG (.c (.rowR rfl)) (zGn)) (by decide) (.inl (by rfl)) (by rfl) (slices_Sort_int_ok _ _ (hx43)) rfl (by rfl) rfl) ?_
 refine AO.le (Le.closeM 9 v38.toNat 0 12 rfl rfl (zgG (hx41)) rfl (u':=x42) rfl) ?_
 refine AO.n (AW.r ?_)
 refine AO.v rfl rfl (zW rfl rfl rfl rfl) ?_
 refine AO.pu T ?_
 refine AO.n ?_
 refine ⟨(k24,(v37.set v38.toNat x42),(v37.set v38.toNat x42),w64 (v38+1)),hH,Nat.lt_succ_self _,?_⟩
 exact Le.ct 0 0
 replace hH:=condF hc hH
 refine AW.exit (AW.q (AW.r ?_))
 iterate 3 refine AO.pu T ?_
 refine AO.n (AW.t ?_)
 have hR:=zS hH;subst hR
 exact retQ.i [9] rfl (.t (zG (.c (.rowR rfl)) (zG (.c .v) (zGn))))
 rw [hd10,impl_rankGroups_l1] at hH
 have hlt12:=drop_lt hd10
 refine AW.q (AW.r (AO.pu T ?_))
 refine AO.n (AW.q (AW.condT' (b:=decide ((k7:Int) < (x5.length:Int))) rfl (rngT hlt12) ?_))
 refine AW.k (AW.q ?_)
 refine AW.b (AW.q (AW.r ?_))
 refine AO.v rfl rfl (zXr T rfl rfl rfl rfl rfl rfl (zgD hd10)) ?_
 refine AO.v rfl rfl (zLr T rfl rfl rfl rfl (zgG (zgD hd10)) rfl rfl rfl) ?_
 refine AO.s rfl (zA T rfl 13 rfl rfl rfl rfl rfl) ?_
 refine AO.se T [y8.skater,y8.rank] ?_
 refine AO.n ?_
 obtain ⟨u44,hx45,hH⟩:=zB hH
 refine AW.r ?_
 iterate 3 refine AO.pu T ?_
 refine AO.s rfl (mk_map_ok T rfl 14 rfl rfl rfl rfl rfl (f:=ze0) (l:=[y8.skater]) rfl rfl (fun _=>rfl) rfl rfl rfl rfl rfl) ?_
 refine AO.s rfl (zAr T rfl 15 rfl rfl rfl rfl rfl (by decide) rfl rfl rfl rfl (fun _=>rfl) (needT (hx45)) rfl rfl) ?_
 refine AO.pu T ?_
 refine AO.n (AW.r ?_)
 refine AO.v rfl rfl (zR rfl rfl rfl rfl (zK hlt12 hb11)) ?_
 refine AO.pu T ?_
 refine AO.n ?_
 refine ⟨(k7+1,(v18++[y8.skater])),⟨Nat.succ_le_of_lt hlt12,(by rw [zds hd10];exact hH)⟩,(by have:=hlt12;dsimp only;omega),?_⟩
 exact Le.ct 15 7

def impl_RankGroups_p (fuel:Nat) (l:List Entrant) (size:Int):Option ((List (List Int)) × Bool) :=
 (impl_AreEntrants_p l).bind fun x1 =>
 (opt (!(!x1)) default (impl_isGroupSize_p size)).bind fun x3 =>
 cond ((!x1) || (!x3))
  (some ([],false))
  ((impl_rankGroups_p fuel l size).bind fun x5 =>
  some (x5.1,x5.2))
theorem impl_RankGroups_ok (fuel:Nat) (l:List Entrant) (size:Int) (r:((List (List Int)) × Bool)) (hH:impl_RankGroups_p fuel l size=some r):SpecR Tryz.prog 129 [.s (List.map ze1 l),size] (.t [.w 1 (r.1.map ze11),.v (.bool r.2)]):=by
 refine zFn T Tryz.func129 rfl (by decide) rfl ?_
 refine AW.q (AW.r ?_)
 iterate 2 refine AO.pu T ?_
 refine AO.n ?_
 iterate 2 refine AW.q ?_
 obtain ⟨x1,hx2,hH⟩:=zB hH
 obtain ⟨x3,hx4,hH⟩:=zB hH
 refine AW.r (AO.pu T ?_)
 refine AO.v rfl rfl (zV rfl rfl rfl rfl (impl_AreEntrants_ok _ _ (hx2)) rfl) ?_
 iterate 2 refine AO.pu T ?_
 refine AO.g T [] rfl trivial rfl rfl ?_
 refine AO.d [10] rfl ⟨fun h=>h,trivial⟩ (fun hg=>zV rfl rfl rfl rfl (impl_isGroupSize_ok _ _ (optT hx4 hg)) rfl) rfl ?_
 refine AO.g T [11] rfl ⟨fun h=>h,trivial⟩ rfl rfl ?_
 refine AO.v rfl rfl (zO rfl rfl rfl rfl) ?_
 refine AO.n (AW.c (b:=((!x1) || (!x3))) rfl (fun hc=>?_) (fun hc=>?_))
 replace hH:=condT hc hH
 refine AW.q (AW.r ?_)
 iterate 2 refine AO.pu T ?_
 refine AO.n (AW.t ?_)
 have hR:=zS hH;subst hR
 exact retQ.i [] rfl (.t (zG (.c .nil) (zG (.c .v) (zGn))))
 replace hH:=condF hc hH
 refine AW.k (AW.q ?_)
 obtain ⟨x5,hx6,hH⟩:=zB hH
 refine AW.r ?_
 iterate 2 refine AO.pu T ?_
 refine AO.s rfl (call_ok rfl 1 rfl rfl rfl (impl_rankGroups_ok fuel _ _ _ (hx6)) rfl rfl rfl) ?_
 iterate 4 refine AO.pu T ?_
 refine AO.n (AW.t ?_)
 have hR:=zS hH;subst hR
 exact retQ.i [1] rfl (.t (zG (.c (.rowR rfl)) (zG (.c .v) (zGn))))

def impl_withKeys_p (keys:List Int) (more:List Int):Option (List Int) :=
 (impl_copyInts_p keys).bind fun x1 =>
 (need (fitsB 8 (x1.length+more.length))).bind fun u3 =>
 some (x1++more)
theorem impl_withKeys_ok (keys:List Int) (more:List Int) (r:(List Int)) (hH:impl_withKeys_p keys more=some r):SpecR Tryz.prog 131 [.s (List.map ze0 keys),.s (List.map ze0 more)] (.w 1 (r.map ze0)):=by
 refine zFn T Tryz.func131 rfl (by decide) rfl ?_
 refine AW.q (AW.r (AO.pu T ?_))
 refine AO.n (AW.q ?_)
 obtain ⟨x1,hx2,hH⟩:=zB hH
 obtain ⟨u3,hx4,hH⟩:=zB hH
 refine AW.r (AO.pu T ?_)
 refine AO.s rfl (call_ok rfl 1 rfl rfl rfl (impl_copyInts_ok _ _ (hx2)) rfl rfl rfl) ?_
 refine AO.pu T ?_
 refine AO.s rfl (app_rs_map T rfl 2 rfl rfl rfl rfl rfl (by decide) (by decide) rfl rfl rfl (fun _=>rfl) (needT (hx4)) rfl rfl) ?_
 refine AO.pu T ?_
 refine AO.n (AW.t ?_)
 have hR:=zS hH;subst hR
 exact retQ.i [2] rfl (.c (.c (.rowR rfl)))

def impl_keyMix_l1 (x1:(List Int)):Nat→Int→Int→Option Int
 | 0,_,_=>none
 | k5+1,v20,v21 =>
  cond (decide (v21 < (((x1++([4,1]:List Int))).length:Int)))
   ((getI (x1++([4,1]:List Int)) v21).bind fun x23 =>
   (need (1000003 != 0)).bind fun u25 =>
   (need (16 != 0)).bind fun u27 =>
   impl_keyMix_l1 x1 k5 ((w64 (((w64 ((w64 ((w64 (29 * v20))+x23))+13)).tmod 1000003) * (w64 ((w64 (((w64 ((w64 ((w64 (29 * v20))+x23))+13)).tmod 1000003).tdiv 16))+5)))).tmod 1000003) (w64 (v21+1)))
   (some v20)
def impl_keyMix_p (fuel:Nat) (keys:List Int):Option Int :=
 (impl_copyInts_p keys).bind fun x1 =>
 (need (fitsB 8 (x1.length+(([4,1]:List Int)).length))).bind fun u3 =>
 impl_keyMix_l1 x1 fuel (w64 (5231+(keys.length:Int))) 0
theorem impl_keyMix_ok (fuel:Nat) (keys:List Int) (r:Int) (hH:impl_keyMix_p fuel keys=some r):SpecR Tryz.prog 184 [.s (List.map ze0 keys)] (.v (.int .i64 r)):=by
 refine zFn T Tryz.func184 rfl (by decide) rfl ?_
 refine AW.q (AW.r (AO.pu T ?_))
 refine AO.n (AW.q (AW.r ?_))
 refine AO.pu T ?_
 refine AO.v rfl rfl (zL T rfl rfl rfl) ?_
 refine AO.v rfl rfl (zW rfl rfl rfl rfl) ?_
 refine AO.pu T ?_
 refine AO.n ?_
 iterate 2 refine AW.q ?_
 obtain ⟨x1,hx2,hH⟩:=zB hH
 obtain ⟨u3,hx4,hH⟩:=zB hH
 refine AW.r (AO.pu T ?_)
 refine AO.s rfl (call_ok rfl 1 rfl rfl rfl (impl_copyInts_ok _ _ (hx2)) rfl rfl rfl) ?_
 refine AO.s rfl (mk_map_ok T rfl 2 rfl rfl rfl rfl rfl (f:=ze0) (l:=([4,1]:List Int)) rfl rfl (fun _=>rfl) rfl rfl rfl rfl rfl) ?_
 refine AO.s rfl (zAr T rfl 3 rfl rfl rfl rfl rfl (by decide) rfl rfl rfl rfl (fun _=>rfl) (needT (hx4)) rfl rfl) ?_
 refine AO.v rfl rfl (len_row_ok T rfl rfl rfl rfl) ?_
 refine AO.pu T ?_
 refine AO.n (AW.b ?_)
 refine AW.loopS (fun s:Nat × Int × Int=>(⟨[(3,s.2.1),(12,.R 3),(13,(((x1++([4,1]:List Int))).length:Int)),(14,s.2.2)],[(3,.row 1 (List.map ze0 (x1++([4,1]:List Int))))],32,[]⟩:St)) (fun s=>impl_keyMix_l1 x1 s.1 s.2.1 s.2.2=some r) (fun s=>s.1) (fuel,w64 (5231+(keys.length:Int)),0) hH ?_ ?_
 exact Le.ct 0 0
 rintro ⟨k5,v20,v21⟩ hH
 replace hH:impl_keyMix_l1 x1 k5 v20 v21=some r:=hH
 try dsimp only
 rcases k5 with _ | k5
 cases (show none=some _ from hH)
 rw [impl_keyMix_l1] at hH
 refine AW.q (AW.r (AO.pu T ?_))
 refine AO.n (AW.q (AW.c (b:=decide (v21 < (((x1++([4,1]:List Int))).length:Int))) rfl (fun hc=>?_) (fun hc=>?_)))
 replace hH:=condT hc hH
 refine AW.k (AW.q ?_)
 refine AW.b (AW.q ?_)
 obtain ⟨x23,hx24,hH⟩:=zB hH
 refine AW.r (AO.v rfl rfl (zXr T rfl rfl rfl rfl rfl rfl (hx24)) ?_)
 refine AO.v rfl rfl (zLr T rfl rfl rfl rfl (zgG (hx24)) rfl rfl rfl) ?_
 refine AO.pu T ?_
 refine AO.n (AW.q ?_)
 obtain ⟨u25,hx26,hH⟩:=zB hH
 refine AW.r (AO.pu T ?_)
 refine AO.v rfl rfl (zW rfl rfl rfl rfl) ?_
 refine AO.pu T ?_
 iterate 2 refine AO.v rfl rfl (zW rfl rfl rfl rfl) ?_
 refine AO.v rfl rfl (rem_ok rfl rfl rfl (neZ (needT (hx26)))) ?_
 refine AO.pu T ?_
 refine AO.n ?_
 obtain ⟨u27,hx28,hH⟩:=zB hH
 refine AW.r ?_
 iterate 2 refine AO.pu T ?_
 refine AO.v rfl rfl (quow_ok rfl rfl rfl (neZ (needT (hx28)))) ?_
 iterate 2 refine AO.v rfl rfl (zW rfl rfl rfl rfl) ?_
 refine AO.v rfl rfl (rem_ok rfl rfl rfl (neZ (needT (hx26)))) ?_
 refine AO.pu T ?_
 refine AO.n (AW.r ?_)
 refine AO.v rfl rfl (zW rfl rfl rfl rfl) ?_
 refine AO.pu T ?_
 refine AO.n ?_
 refine ⟨(k5,((w64 (((w64 ((w64 ((w64 (29 * v20))+x23))+13)).tmod 1000003) * (w64 ((w64 (((w64 ((w64 ((w64 (29 * v20))+x23))+13)).tmod 1000003).tdiv 16))+5)))).tmod 1000003),w64 (v21+1)),hH,Nat.lt_succ_self _,?_⟩
 exact Le.ct 0 0
 replace hH:=condF hc hH
 refine AW.exit (AW.q (AW.r ?_))
 iterate 2 refine AO.pu T ?_
 refine AO.n (AW.t ?_)
 have hR:=zS hH;subst hR
 exact retQ.i [] rfl (.c (.c .v))

def impl_keyBelow_p (fuel:Nat) (keys:List Int) (n:Int):Option Int :=
 (impl_withKeys_p keys [n]).bind fun x1 =>
 (impl_keyMix_p fuel x1).bind fun x3 =>
 (need (n != 0)).bind fun u5 =>
 some (x3.tmod n)
theorem impl_keyBelow_ok (fuel:Nat) (keys:List Int) (n:Int) (r:Int) (hH:impl_keyBelow_p fuel keys n=some r):SpecR Tryz.prog 177 [.s (List.map ze0 keys),n] (.v (.int .i64 r)):=by
 refine zFn T Tryz.func177 rfl (by decide) rfl ?_
 refine AW.q (AW.r (AO.pu T ?_))
 refine AO.n (AW.q ?_)
 obtain ⟨x1,hx2,hH⟩:=zB hH
 obtain ⟨x3,hx4,hH⟩:=zB hH
 obtain ⟨u5,hx6,hH⟩:=zB hH
 refine AW.r ?_
 iterate 2 refine AO.pu T ?_
 refine AO.s rfl (mk_map_ok T rfl 1 rfl rfl rfl rfl rfl (f:=ze0) (l:=[n]) rfl rfl (fun _=>rfl) rfl rfl rfl rfl rfl) ?_
 refine AO.s rfl (callL_ok rfl 2 rfl rfl (es:=[.s (List.map ze0 keys),.s (List.map ze0 [n])]) (by exact ⟨.free rfl,(.rowR rfl (.map fun y=>.vs rfl)),trivial⟩) (impl_withKeys_ok _ _ _ (hx2)) (zfree_map (fun y=>(.cons (zfree_v _) .nil))) rfl rfl rfl) ?_
 refine AO.v rfl rfl (zLV rfl rfl rfl (es:=[.s (List.map ze0 x1)]) ⟨(.rowR rfl (.map fun y=>.vs rfl)),trivial⟩ (impl_keyMix_ok fuel _ _ (hx4)) (zfree_v _) rfl) ?_
 refine AO.pu T ?_
 refine AO.v rfl rfl (rem_ok rfl rfl rfl (neZ (needT (hx6)))) ?_
 refine AO.pu T ?_
 refine AO.n (AW.t ?_)
 have hR:=zS hH;subst hR
 exact retQ.i [] rfl (.c (.c .v))

def impl_shuffleOf_l2 (keys:List Int) (fuel:Nat):Nat→List Int→Int→Option ((List Int))
 | 0,_,_=>none
 | k13+1,v36,v37 =>
  cond (decide (v37 ≥ 1))
   ((impl_withKeys_p keys [v37]).bind fun x39 =>
   (impl_keyBelow_p fuel x39 (w64 (v37+1))).bind fun x41 =>
   (getI v36 x41).bind fun x43 =>
   (getI v36 v37).bind fun x45 =>
   (getI (v36.set v37.toNat x43) x41).bind fun x47 =>
   impl_shuffleOf_l2 keys fuel k13 ((v36.set v37.toNat x43).set x41.toNat x45) (w64 (v37 - 1)))
   (some v36)
def impl_shuffleOf_l1 (keys:List Int) (n:Int) (fuel:Nat):Nat→List Int→Int→Option ((List Int))
 | 0,_,_=>none
 | k1+1,v8,v9 =>
  cond (decide (v9 < n))
   ((need (fitsB 8 (v8.length+([v9]).length))).bind fun u11 =>
   impl_shuffleOf_l1 keys n fuel k1 (v8++[v9]) (w64 (v9+1)))
   (impl_shuffleOf_l2 keys fuel fuel v8 (w64 (n - 1)))
def impl_shuffleOf_p (fuel:Nat) (keys:List Int) (n:Int):Option (List Int) :=
 impl_shuffleOf_l1 keys n fuel fuel [] 0
theorem impl_shuffleOf_ok (fuel:Nat) (keys:List Int) (n:Int) (r:(List Int)) (hH:impl_shuffleOf_p fuel keys n=some r):SpecR Tryz.prog 157 [.s (List.map ze0 keys),n] (.w 1 (r.map ze0)):=by
 refine zFn T Tryz.func157 rfl (by decide) rfl ?_
 refine AW.q (AW.r (AO.pu T ?_))
 refine AO.n (AW.q (AW.r ?_))
 refine AO.s rfl (mk0_ok T rfl rfl rfl rfl) ?_
 refine AO.pu T ?_
 refine AO.n ?_
 iterate 2 refine AW.q ?_
 refine AW.r ?_
 iterate 2 refine AO.pu T ?_
 refine AO.n (AW.b ?_)
 refine AW.loopS (fun s:Nat × (List Int) × Int=>(⟨[(0,.s (List.map ze0 keys)),(1,n),(5,.R 4),(10,n),(11,s.2.2)],[(4,.row 1 (List.map ze0 s.2.1))],47,[]⟩:St)) (fun s=>impl_shuffleOf_l1 keys n fuel s.1 s.2.1 s.2.2=some r) (fun s=>s.1) (fuel,[],0) hH ?_ ?_
 refine Le.trans (Le.void 5 4 1 rfl rfl) ?_
 exact Le.ct 0 0
 rintro ⟨k1,v8,v9⟩ hH
 replace hH:impl_shuffleOf_l1 keys n fuel k1 v8 v9=some r:=hH
 try dsimp only
 rcases k1 with _ | k1
 cases (show none=some _ from hH)
 rw [impl_shuffleOf_l1] at hH
 refine AW.q (AW.r (AO.pu T ?_))
 refine AO.n (AW.q (AW.c (b:=decide (v9 < n)) rfl (fun hc=>?_) (fun hc=>?_)))
 replace hH:=condT hc hH
 refine AW.k (AW.q ?_)
 refine AW.b (AW.q (AW.r ?_))
 iterate 2 refine AO.pu T ?_
 refine AO.n ?_
 obtain ⟨u11,hx12,hH⟩:=zB hH
 refine AW.r ?_
 iterate 2 refine AO.pu T ?_
 refine AO.s rfl (mk_map_ok T rfl 5 rfl rfl rfl rfl rfl (f:=ze0) (l:=[v9]) rfl rfl (fun _=>rfl) rfl rfl rfl rfl rfl) ?_
 refine AO.s rfl (zAr T rfl 6 rfl rfl rfl rfl rfl (by decide) rfl rfl rfl rfl (fun _=>rfl) (needT (hx12)) rfl rfl) ?_
 refine AO.pu T ?_
 refine AO.n (AW.r ?_)
 refine AO.v rfl rfl (zW rfl rfl rfl rfl) ?_
 refine AO.pu T ?_
 refine AO.n ?_
 refine ⟨(k1,(v8++[v9]),w64 (v9+1)),hH,Nat.lt_succ_self _,?_⟩
 exact Le.ct 6 4
 replace hH:=condF hc hH
 refine AW.exit ?_
 iterate 2 refine AW.q ?_
 refine AW.r (AO.pu T ?_)
 refine AO.v rfl rfl (zW rfl rfl rfl rfl) ?_
 refine AO.pu T ?_
 refine AO.n (AW.b ?_)
 refine AW.loopS (fun s:Nat × (List Int) × Int=>(⟨[(0,.s (List.map ze0 keys)),(5,.R 4),(7,s.2.2)],[(4,.row 1 (List.map ze0 s.2.1))],47,[]⟩:St)) (fun s=>impl_shuffleOf_l2 keys fuel s.1 s.2.1 s.2.2=some r) (fun s=>s.1) (fuel,v8,w64 (n - 1)) hH ?_ ?_
 exact Le.ct 0 0
 rintro ⟨k13,v36,v37⟩ hH
 replace hH:impl_shuffleOf_l2 keys fuel k13 v36 v37=some r:=hH
 try dsimp only
 rcases k13 with _ | k13
 cases (show none=some _ from hH)
 rw [impl_shuffleOf_l2] at hH
 iterate 2 refine AW.q ?_
 refine AW.r ?_
 iterate 2 refine AO.pu T ?_
 refine AO.n (AW.c (b:=decide (v37 ≥ 1)) rfl (fun hc=>?_) (fun hc=>?_))
 replace hH:=condT hc hH
 refine AW.k (AW.q ?_)
 refine AW.b (AW.q ?_)
 obtain ⟨x39,hx40,hH⟩:=zB hH
 obtain ⟨x41,hx42,hH⟩:=zB hH
 refine AW.r ?_
 iterate 2 refine AO.pu T ?_
 refine AO.s rfl (mk_map_ok T rfl 11 rfl rfl rfl rfl rfl (f:=ze0) (l:=[v37]) rfl rfl (fun _=>rfl) rfl rfl rfl rfl rfl) ?_
 refine AO.s rfl (callL_ok rfl 12 rfl rfl (es:=[.s (List.map ze0 keys),.s (List.map ze0 [v37])]) (by exact ⟨.free rfl,(.rowR rfl (.map fun y=>.vs rfl)),trivial⟩) (impl_withKeys_ok _ _ _ (hx40)) (zfree_map (fun y=>(.cons (zfree_v _) .nil))) rfl rfl rfl) ?_
 refine AO.pu T ?_
 refine AO.v rfl rfl (zW rfl rfl rfl rfl) ?_
 refine AO.v rfl rfl (zLV rfl rfl rfl (es:=[.s (List.map ze0 x39),w64 (v37+1)]) ⟨(.rowR rfl (.map fun y=>.vs rfl)),.free rfl,trivial⟩ (impl_keyBelow_ok fuel _ _ _ (hx42)) (zfree_v _) rfl) ?_
 refine AO.pu T ?_
 refine AO.n ?_
 obtain ⟨x43,hx44,hH⟩:=zB hH
 obtain ⟨x45,hx46,hH⟩:=zB hH
 obtain ⟨x47,hx48,hH⟩:=zB hH
 refine AW.drawn 14 13 [4] mix (by kernel_rfl) rfl ?_
 iterate 6 refine AD.p T rfl rfl rfl ?_
 refine AD.vald rfl rfl rfl (zXr T rfl rfl rfl rfl rfl rfl (hx44)) ?_
 refine AD.vald rfl rfl rfl (zLr T rfl rfl rfl rfl (zgG (hx44)) rfl rfl rfl) ?_
 iterate 2 refine AD.p T rfl rfl rfl ?_
 refine AD.vald rfl rfl rfl (zXr T rfl rfl rfl rfl rfl rfl (hx46)) ?_
 refine AD.vald rfl rfl rfl (zLr T rfl rfl rfl rfl (zgG (hx46)) rfl rfl rfl) ?_
 refine AD.vald rfl rfl rfl (zXr T rfl rfl rfl rfl rfl rfl (hx46)) ?_
 refine AD.k rfl rfl (FStep.store_row T rfl rfl rfl rfl rfl rfl (zgG (hx46)) rfl rfl rfl rfl (u':=x43) rfl rfl rfl) rfl rfl rfl ?_
 refine AD.nil (AO.v rfl rfl (zXr T rfl rfl rfl rfl rfl rfl (hx48)) ?_)
 refine AO.s rfl (zSr T rfl rfl rfl rfl rfl (zgG (hx48)) rfl rfl rfl rfl (u':=x45) rfl rfl) ?_
 refine AO.n (AW.le (Le.ct 0 0 (σ':=(⟨[(0,.s (List.map ze0 keys)),(5,.R 4),(7,v37)],[(4,.row 1 (List.map ze0 ((v36.set v37.toNat x43).set x41.toNat x45)))],47,[]⟩:St))) ?_)
 refine AW.r (AO.pu T ?_)
 refine AO.v rfl rfl (zW rfl rfl rfl rfl) ?_
 refine AO.pu T ?_
 refine AO.n ?_
 refine ⟨(k13,((v36.set v37.toNat x43).set x41.toNat x45),w64 (v37 - 1)),hH,Nat.lt_succ_self _,?_⟩
 exact Le.ct 0 0
 replace hH:=condF hc hH
 refine AW.exit (AW.q (AW.r ?_))
 iterate 2 refine AO.pu T ?_
 refine AO.n (AW.t ?_)
 have hR:=zS hH;subst hR
 exact retQ.i [4] rfl (.c (.c (.rowR rfl)))

def impl_shuffledNumbers_l1 (l:List Int):List Int→Nat→List Int→Option ((List Int))
 | [],k3,v18 =>
  some v18
 | y4::ys5,k3,v18 =>
  (getI l y4).bind fun x20 =>
  (need (fitsB 8 (v18.length+([x20]).length))).bind fun u22 =>
  impl_shuffledNumbers_l1 l ys5 (k3+1) (v18++[x20])
def impl_shuffledNumbers_p (fuel:Nat) (keys:List Int) (l:List Int):Option (List Int) :=
 (impl_shuffleOf_p fuel keys (l.length:Int)).bind fun x1 =>
 impl_shuffledNumbers_l1 l x1 0 []
theorem impl_shuffledNumbers_ok (fuel:Nat) (keys:List Int) (l:List Int) (r:(List Int)) (hH:impl_shuffledNumbers_p fuel keys l=some r):SpecR Tryz.prog 130 [.s (List.map ze0 keys),.s (List.map ze0 l)] (.w 1 (r.map ze0)):=by
 refine zFn T Tryz.func130 rfl (by decide) rfl ?_
 refine AW.q (AW.r (AO.pu T ?_))
 refine AO.n (AW.q (AW.r ?_))
 refine AO.s rfl (mk0_ok T rfl rfl rfl rfl) ?_
 refine AO.pu T ?_
 refine AO.n ?_
 iterate 2 refine AW.q ?_
 obtain ⟨x1,hx2,hH⟩:=zB hH
 refine AW.r ?_
 iterate 2 refine AO.pu T ?_
 refine AO.v rfl rfl (zL T rfl rfl rfl) ?_
 refine AO.s rfl (call_ok rfl 1 rfl rfl rfl (impl_shuffleOf_ok fuel _ _ _ (hx2)) rfl rfl rfl) ?_
 refine AO.v rfl rfl (len_row_ok T rfl rfl rfl rfl) ?_
 refine AO.pu T ?_
 refine AO.n (AW.b ?_)
 refine AW.loopS (fun s:Nat × (List Int)=>(⟨[(1,.s (List.map ze0 l)),(5,.R 5),(12,.R 1),(13,(x1.length:Int)),(14,(s.1:Int))],[(1,.row 1 (List.map ze0 x1)),(5,.row 1 (List.map ze0 s.2))],27,[]⟩:St)) (fun s=>s.1 ≤ x1.length∧impl_shuffledNumbers_l1 l (x1.drop s.1) s.1 s.2=some r) (fun s=>x1.length - s.1) (0,[]) ⟨Nat.zero_le _,hH⟩ ?_ ?_
 refine Le.trans (Le.void 5 5 1 rfl rfl) ?_
 exact Le.ct 0 0
 rintro ⟨k3,v18⟩ ⟨hk,hH⟩
 replace hH:impl_shuffledNumbers_l1 l (x1.drop k3) k3 v18=some r:=hH
 try dsimp only
 refine AW.boundR (id:=1) (l:=x1) rfl (fun hb7=>?_)
 rcases hd6:x1.drop k3 with _ | ⟨y4,ys5⟩
 rw [hd6,impl_shuffledNumbers_l1] at hH
 have hlt8:=drop_ge hd6
 refine AW.q (AW.r (AO.pu T ?_))
 refine AO.n (AW.q (AW.condF' (b:=decide ((k3:Int) < (x1.length:Int))) rfl (rngF hlt8) ?_))
 refine AW.exit (AW.q (AW.r ?_))
 iterate 2 refine AO.pu T ?_
 refine AO.n (AW.t ?_)
 have hR:=zS hH;subst hR
 exact retQ.i [5] rfl (.c (.c (.rowR rfl)))
 rw [hd6,impl_shuffledNumbers_l1] at hH
 have hlt8:=drop_lt hd6
 refine AW.q (AW.r (AO.pu T ?_))
 refine AO.n (AW.q (AW.condT' (b:=decide ((k3:Int) < (x1.length:Int))) rfl (rngT hlt8) ?_))
 refine AW.k (AW.q ?_)
 refine AW.b (AW.q (AW.r ?_))
 refine AO.v rfl rfl (zXr T rfl rfl rfl rfl rfl rfl (zgD hd6)) ?_
 refine AO.v rfl rfl (zLr T rfl rfl rfl rfl (zgG (zgD hd6)) rfl rfl rfl) ?_
 refine AO.pu T ?_
 refine AO.n ?_
 obtain ⟨x20,hx21,hH⟩:=zB hH
 obtain ⟨u22,hx23,hH⟩:=zB hH
 refine AW.r ?_
 iterate 3 refine AO.pu T ?_
 refine AO.v rfl rfl (zX T rfl rfl rfl rfl rfl (hx21) rfl) ?_
 refine AO.pu T ?_
 refine AO.s rfl (mk_map_ok T rfl 6 rfl rfl rfl rfl rfl (f:=ze0) (l:=[x20]) rfl rfl (fun _=>rfl) rfl rfl rfl rfl rfl) ?_
 refine AO.s rfl (zAr T rfl 7 rfl rfl rfl rfl rfl (by decide) rfl rfl rfl rfl (fun _=>rfl) (needT (hx23)) rfl rfl) ?_
 refine AO.pu T ?_
 refine AO.n (AW.r ?_)
 refine AO.v rfl rfl (zR rfl rfl rfl rfl (zK hlt8 hb7)) ?_
 refine AO.pu T ?_
 refine AO.n ?_
 refine ⟨(k3+1,(v18++[x20])),⟨Nat.succ_le_of_lt hlt8,(by rw [zds hd6];exact hH)⟩,(by have:=hlt8;dsimp only;omega),?_⟩
 exact Le.ct 7 5

def impl_StartOrder_l1 (keys:List Int) (fuel:Nat) (x1:((List (List Int)) × Bool)):Nat→List Int→List (List Int)→Int→Option (((List Int) × Bool))
 | 0,_,_,_=>none
 | k5+1,v25,v26,v27 =>
  cond (decide (v27 < (x1.1.length:Int)))
   ((getI v26 v27).bind fun x29 =>
   (impl_withKeys_p keys [v27]).bind fun x31 =>
   (impl_shuffledNumbers_p fuel x31 x29).bind fun x33 =>
   (need (fitsB 8 (v25.length+x33.length))).bind fun u35 =>
   impl_StartOrder_l1 keys fuel x1 k5 (v25++x33) (v26.set v27.toNat x29) (w64 (v27+1)))
   (some (v25,true))
def impl_StartOrder_p (fuel:Nat) (keys:List Int) (l:List Entrant) (size:Int):Option ((List Int) × Bool) :=
 (impl_RankGroups_p fuel l size).bind fun x1 =>
 (opt (!(!x1.2)) default (impl_areKeys_p keys 4)).bind fun x3 =>
 cond ((!x1.2) || (!x3))
  (some ([],false))
  (impl_StartOrder_l1 keys fuel x1 fuel [] x1.1 0)
theorem impl_StartOrder_ok (fuel:Nat) (keys:List Int) (l:List Entrant) (size:Int) (r:((List Int) × Bool)) (hH:impl_StartOrder_p fuel keys l size=some r):SpecR Tryz.prog 91 [.s (List.map ze0 keys),.s (List.map ze1 l),size] (.t [.w 1 (r.1.map ze0),.v (.bool r.2)]):=by
 refine zFn T Tryz.func91 rfl (by decide) rfl ?_
 refine AW.q (AW.r ?_)
 iterate 2 refine AO.pu T ?_
 refine AO.n (AW.q ?_)
 obtain ⟨x1,hx2,hH⟩:=zB hH
 refine AW.r ?_
 iterate 2 refine AO.pu T ?_
 refine AO.s rfl (call_ok rfl 1 rfl rfl rfl (impl_RankGroups_ok fuel _ _ _ (hx2)) rfl rfl rfl) ?_
 iterate 5 refine AO.pu T ?_
 refine AO.n ?_
 iterate 2 refine AW.q ?_
 obtain ⟨x3,hx4,hH⟩:=zB hH
 refine AW.r ?_
 iterate 3 refine AO.pu T ?_
 refine AO.g T [] rfl trivial rfl rfl ?_
 refine AO.d [22] rfl ⟨fun h=>h,trivial⟩ (fun hg=>zV rfl rfl rfl rfl (impl_areKeys_ok _ _ _ (optT hx4 hg)) rfl) rfl ?_
 refine AO.g T [23] rfl ⟨fun h=>h,trivial⟩ rfl rfl ?_
 refine AO.v rfl rfl (zO rfl rfl rfl rfl) ?_
 refine AO.n (AW.c (b:=((!x1.2) || (!x3))) rfl (fun hc=>?_) (fun hc=>?_))
 replace hH:=condT hc hH
 refine AW.q (AW.r ?_)
 iterate 2 refine AO.pu T ?_
 refine AO.n (AW.t ?_)
 have hR:=zS hH;subst hR
 exact retQ.i [] rfl (.t (zG (.c .nil) (zG (.c .v) (zGn))))
 replace hH:=condF hc hH
 refine AW.k (AW.q (AW.r ?_))
 refine AO.s rfl (mk0_ok T rfl rfl rfl rfl) ?_
 refine AO.pu T ?_
 refine AO.n ?_
 iterate 2 refine AW.q ?_
 refine AW.r (AO.pu T ?_)
 refine AO.v rfl rfl (len_row_ok T rfl rfl rfl rfl) ?_
 refine AO.pu T ?_
 refine AO.n (AW.b ?_)
 refine AW.loopS (fun s:Nat × (List Int) × (List (List Int)) × Int=>(⟨[(0,.s (List.map ze0 keys)),(10,.R 11),(27,.R 1),(28,(x1.1.length:Int)),(29,s.2.2.2)],[(1,.row 1 (List.map ze11 s.2.2.1)),(11,.row 1 (List.map ze0 s.2.1))],44,[]⟩:St)) (fun s=>impl_StartOrder_l1 keys fuel x1 s.1 s.2.1 s.2.2.1 s.2.2.2=some r) (fun s=>s.1) (fuel,[],x1.1,0) hH ?_ ?_
 refine Le.trans (Le.void 10 11 1 rfl rfl) ?_
 exact Le.ct 0 0
 rintro ⟨k5,v25,v26,v27⟩ hH
 replace hH:impl_StartOrder_l1 keys fuel x1 k5 v25 v26 v27=some r:=hH
 try dsimp only
 rcases k5 with _ | k5
 cases (show none=some _ from hH)
 rw [impl_StartOrder_l1] at hH
 refine AW.q (AW.r (AO.pu T ?_))
 refine AO.n (AW.q (AW.c (b:=decide (v27 < (x1.1.length:Int))) rfl (fun hc=>?_) (fun hc=>?_)))
 replace hH:=condT hc hH
 refine AW.k (AW.q ?_)
 refine AW.b (AW.q ?_)
 obtain ⟨x29,hx30,hH⟩:=zB hH
 refine AW.le (Le.openM 1 v27.toNat 0 12 rfl (zgG (hx30)) rfl rfl) ?_
 refine AW.r (AO.pu T ?_)
 refine AO.v rfl rfl (ix_lent_ok T rfl rfl rfl rfl rfl rfl (hx30)) ?_
 refine AO.v rfl rfl (load_lent_ok T rfl rfl rfl rfl rfl) ?_
 iterate 2 refine AO.pu T ?_
 refine AO.n ?_
 obtain ⟨x31,hx32,hH⟩:=zB hH
 obtain ⟨x33,hx34,hH⟩:=zB hH
 obtain ⟨u35,hx36,hH⟩:=zB hH
 refine AW.r ?_
 iterate 3 refine AO.pu T ?_
 refine AO.s rfl (mk_map_ok T rfl 13 rfl rfl rfl rfl rfl (f:=ze0) (l:=[v27]) rfl rfl (fun _=>rfl) rfl rfl rfl rfl rfl) ?_
 refine AO.s rfl (callL_ok rfl 14 rfl rfl (es:=[.s (List.map ze0 keys),.s (List.map ze0 [v27])]) (by exact ⟨.free rfl,(.rowR rfl (.map fun y=>.vs rfl)),trivial⟩) (impl_withKeys_ok _ _ _ (hx32)) (zfree_map (fun y=>(.cons (zfree_v _) .nil))) rfl rfl rfl) ?_
 refine AO.pu T ?_
 refine AO.s rfl (callL_ok rfl 15 rfl rfl (es:=[.s (List.map ze0 x31),.s (List.map ze0 x29)]) (by exact ⟨(.rowR rfl (.map fun y=>.vs rfl)),(.rowR rfl (.map fun y=>.vs rfl)),trivial⟩) (impl_shuffledNumbers_ok fuel _ _ _ (hx34)) (zfree_map (fun y=>(.cons (zfree_v _) .nil))) rfl rfl rfl) ?_
 refine AO.s rfl (zAr T rfl 16 rfl rfl rfl rfl rfl (by decide) rfl rfl rfl rfl (fun _=>rfl) (needT (hx36)) rfl rfl) ?_
 refine AO.pu T ?_
 refine AO.le (Le.closeM 1 v27.toNat 0 12 rfl rfl (zgG (hx30)) rfl (u':=x29) rfl) ?_
 refine AO.n (AW.r ?_)
 refine AO.v rfl rfl (zW rfl rfl rfl rfl) ?_
 refine AO.pu T ?_
 refine AO.n ?_
 refine ⟨(k5,(v25++x33),(v26.set v27.toNat x29),w64 (v27+1)),hH,Nat.lt_succ_self _,?_⟩
 exact Le.ct 16 11
 replace hH:=condF hc hH
 refine AW.exit (AW.q (AW.r ?_))
 iterate 3 refine AO.pu T ?_
 refine AO.n (AW.t ?_)
 have hR:=zS hH;subst hR
 exact retQ.i [11] rfl (.t (zG (.c (.rowR rfl)) (zG (.c .v) (zGn))))

def impl_OrderByPlaces_l2 (keys:List Int) (places:List Int) (fuel:Nat) (v122:List Int) (v123:Int):List Int→Nat→List Int→Option (List Int)
 | [],k154,v169 =>
  (impl_withKeys_p keys [90,v123]).bind fun x171 =>
  (impl_shuffledNumbers_p fuel x171 v169).bind fun x173 =>
  (need (fitsB 8 (v122.length+x173.length))).bind fun u175 =>
  some (v122++x173)
 | y155::ys156,k154,v169 =>
  (getI places (k154:Int)).bind fun x177 =>
  cond (x177 == v123)
   ((need (fitsB 8 (v169.length+([y155]).length))).bind fun u179 =>
   impl_OrderByPlaces_l2 keys places fuel v122 v123 ys156 (k154+1) (v169++[y155]))
   (impl_OrderByPlaces_l2 keys places fuel v122 v123 ys156 (k154+1) v169)
def impl_OrderByPlaces_l4 (keys:List Int) (fuel:Nat) (x197:(List (List Int))):Nat→List Int→List (List Int)→Int→Option (((List Int) × Bool))
 | 0,_,_,_=>none
 | k199+1,v219,v220,v221 =>
  cond (decide (v221 < (x197.length:Int)))
   ((getI v220 v221).bind fun x223 =>
   (impl_withKeys_p keys [v221]).bind fun x225 =>
   (impl_shuffledNumbers_p fuel x225 x223).bind fun x227 =>
   (need (fitsB 8 (v219.length+x227.length))).bind fun u229 =>
   impl_OrderByPlaces_l4 keys fuel x197 k199 (v219++x227) (v220.set v221.toNat x223) (w64 (v221+1)))
   (some (v219,true))
def impl_OrderByPlaces_l3 (keys:List Int) (size:Int) (fuel:Nat) (v122:List Int):Nat→List Int→Int→Option (((List Int) × Bool))
 | 0,_,_=>none
 | k185+1,v192,v193 =>
  cond (decide (v193 < (w64 ((v122.length:Int).tdiv size))))
   ((need (fitsB 8 (v192.length+([size]).length))).bind fun u195 =>
   impl_OrderByPlaces_l3 keys size fuel v122 k185 (v192++[size]) (w64 (v193+1)))
   ((impl_cutInto_p v122 v192).bind fun x197 =>
   impl_OrderByPlaces_l4 keys fuel x197 fuel [] x197 0)
def impl_OrderByPlaces_l6 (keys:List Int) (fuel:Nat) (x243:(List (List Int))):Nat→List Int→List (List Int)→Int→Option (((List Int) × Bool))
 | 0,_,_,_=>none
 | k245+1,v265,v266,v267 =>
  cond (decide (v267 < (x243.length:Int)))
   ((getI v266 v267).bind fun x269 =>
   (impl_withKeys_p keys [v267]).bind fun x271 =>
   (impl_shuffledNumbers_p fuel x271 x269).bind fun x273 =>
   (need (fitsB 8 (v265.length+x273.length))).bind fun u275 =>
   impl_OrderByPlaces_l6 keys fuel x243 k245 (v265++x273) (v266.set v267.toNat x269) (w64 (v267+1)))
   (some (v265,true))
def impl_OrderByPlaces_l5 (keys:List Int) (size:Int) (fuel:Nat) (v122:List Int):Nat→List Int→Int→Option (((List Int) × Bool))
 | 0,_,_=>none
 | k231+1,v238,v239 =>
  cond (decide (v239 < (w64 ((v122.length:Int).tdiv size))))
   ((need (fitsB 8 (v238.length+([size]).length))).bind fun u241 =>
   impl_OrderByPlaces_l5 keys size fuel v122 k231 (v238++[size]) (w64 (v239+1)))
   ((impl_cutInto_p v122 v238).bind fun x243 =>
   impl_OrderByPlaces_l6 keys fuel x243 fuel [] x243 0)
def impl_OrderByPlaces_l1 (keys:List Int) (skaters:List Int) (places:List Int) (size:Int) (fuel:Nat):Nat→List Int→Int→Option (((List Int) × Bool))
 | 0,_,_=>none
 | k9+1,v122,v123 =>
  cond (decide (v123 ≥ 1))
   ((impl_OrderByPlaces_l2 keys places fuel v122 v123 skaters 0 []).bind fun v151 =>
   impl_OrderByPlaces_l1 keys skaters places size fuel k9 v151 (w64 (v123 - 1)))
   ((need (size != 0)).bind fun u181 =>
   cond (decide (((v122.length:Int).tmod size) > 0))
    ((need (fitsB 8 (([((v122.length:Int).tmod size)]).length))).bind fun u183 =>
    impl_OrderByPlaces_l3 keys size fuel v122 fuel [((v122.length:Int).tmod size)] 0)
    (impl_OrderByPlaces_l5 keys size fuel v122 fuel [] 0))
def impl_OrderByPlaces_p (fuel:Nat) (keys:List Int) (skaters:List Int) (places:List Int) (size:Int):Option ((List Int) × Bool) :=
 (impl_areKeys_p keys 4).bind fun x1 =>
 (opt (!(!x1)) default (impl_isOrder_p skaters)).bind fun x3 =>
 (opt (!(((!x1) || (!x3)) || ((places.length:Int) != (skaters.length:Int)))) default (impl_allWithin_p places 1 99)).bind fun x5 =>
 (opt (!((((!x1) || (!x3)) || ((places.length:Int) != (skaters.length:Int))) || (!x5))) default (impl_isGroupSize_p size)).bind fun x7 =>
 cond (((((!x1) || (!x3)) || ((places.length:Int) != (skaters.length:Int))) || (!x5)) || (!x7))
  (some ([],false))
  (impl_OrderByPlaces_l1 keys skaters places size fuel fuel [] 99)
theorem impl_OrderByPlaces_ok (fuel:Nat) (keys:List Int) (skaters:List Int) (places:List Int) (size:Int) (r:((List Int) × Bool)) (hH:impl_OrderByPlaces_p fuel keys skaters places size=some r):SpecR Tryz.prog 92 [.s (List.map ze0 keys),.s (List.map ze0 skaters),.s (List.map ze0 places),size] (.t [.w 1 (r.1.map ze0),.v (.bool r.2)]):=by
 refine zFn T Tryz.func92 rfl (by decide) rfl ?_
 refine AW.q (AW.r ?_)
 iterate 2 refine AO.pu T ?_
 refine AO.n ?_
 iterate 2 refine AW.q ?_
 obtain ⟨x1,hx2,hH⟩:=zB hH
 obtain ⟨x3,hx4,hH⟩:=zB hH
 obtain ⟨x5,hx6,hH⟩:=zB hH
 obtain ⟨x7,hx8,hH⟩:=zB hH
 refine AW.r (AO.pu T ?_)
 refine AO.v rfl rfl (zV rfl rfl rfl rfl (impl_areKeys_ok _ _ _ (hx2)) rfl) ?_
 iterate 2 refine AO.pu T ?_
 refine AO.g T [] rfl trivial rfl rfl ?_
 refine AO.d [24] rfl ⟨fun h=>h,trivial⟩ (fun hg=>zV rfl rfl rfl rfl (impl_isOrder_ok _ _ (optT hx4 hg)) rfl) rfl ?_
 refine AO.g T [25] rfl ⟨fun h=>h,trivial⟩ rfl rfl ?_
 refine AO.v rfl rfl (zO rfl rfl rfl rfl) ?_
 refine AO.pu T ?_
 refine AO.g T [] rfl trivial rfl rfl ?_
 refine AO.d [29] rfl ⟨fun h=>h,trivial⟩ (fun hg=>zL T rfl rfl rfl) rfl ?_
 refine AO.g T [] rfl trivial rfl rfl ?_
 refine AO.d [31] rfl ⟨fun h=>h,trivial⟩ (fun hg=>zL T rfl rfl rfl) rfl ?_
 refine AO.g T [30,32] rfl ⟨fun h=>h,fun h=>h,trivial⟩ rfl rfl ?_
 refine AO.v rfl rfl (zO rfl rfl rfl rfl) ?_
 refine AO.pu T ?_
 refine AO.g T [] rfl trivial rfl rfl ?_
 refine AO.d [36] rfl ⟨fun h=>h,trivial⟩ (fun hg=>zV rfl rfl rfl rfl (impl_allWithin_ok _ _ _ _ (optT hx6 hg)) rfl) rfl ?_
 refine AO.g T [37] rfl ⟨fun h=>h,trivial⟩ rfl rfl ?_
 refine AO.v rfl rfl (zO rfl rfl rfl rfl) ?_
 refine AO.pu T ?_
 refine AO.g T [] rfl trivial rfl rfl ?_
 refine AO.d [41] rfl ⟨fun h=>h,trivial⟩ (fun hg=>zV rfl rfl rfl rfl (impl_isGroupSize_ok _ _ (optT hx8 hg)) rfl) rfl ?_
 refine AO.g T [42] rfl ⟨fun h=>h,trivial⟩ rfl rfl ?_
 refine AO.v rfl rfl (zO rfl rfl rfl rfl) ?_
 refine AO.n (AW.le (Le.ct 0 0 (σ':=(⟨[(0,.s (List.map ze0 keys)),(1,.s (List.map ze0 skaters)),(2,.s (List.map ze0 places)),(3,size),(44,.v (.bool (((((!x1) || (!x3)) || ((places.length:Int) != (skaters.length:Int))) || (!x5)) || (!x7))))],[],119,[]⟩:St))) ?_)
 refine AW.c (b:=(((((!x1) || (!x3)) || ((places.length:Int) != (skaters.length:Int))) || (!x5)) || (!x7))) rfl (fun hc=>?_) (fun hc=>?_)
 replace hH:=condT hc hH
 refine AW.q (AW.r ?_)
 iterate 2 refine AO.pu T ?_
 refine AO.n (AW.t ?_)
 have hR:=zS hH;subst hR
 exact retQ.i [] rfl (.t (zG (.c .nil) (zG (.c .v) (zGn))))
 replace hH:=condF hc hH
 refine AW.k (AW.q (AW.r ?_))
 refine AO.s rfl (mk0_ok T rfl rfl rfl rfl) ?_
 refine AO.pu T ?_
 refine AO.n ?_
 iterate 2 refine AW.q ?_
 refine AW.r (AO.pu T ?_)
 refine AO.n (AW.b ?_)
 refine AW.loopS (fun s:Nat × (List Int) × Int=>(⟨[(0,.s (List.map ze0 keys)),(1,.s (List.map ze0 skaters)),(2,.s (List.map ze0 places)),(3,size),(10,.R 28),(11,s.2.2)],[(28,.row 1 (List.map ze0 s.2.1))],119,[]⟩:St)) (fun s=>impl_OrderByPlaces_l1 keys skaters places size fuel s.1 s.2.1 s.2.2=some r) (fun s=>s.1) (fuel,[],99) hH ?_ ?_
 refine Le.trans (Le.void 10 28 1 rfl rfl) ?_
 exact Le.ct 0 0
 rintro ⟨k9,v122,v123⟩ hH
 replace hH:impl_OrderByPlaces_l1 keys skaters places size fuel k9 v122 v123=some r:=hH
 try dsimp only
 rcases k9 with _ | k9
 cases (show none=some _ from hH)
 rw [impl_OrderByPlaces_l1] at hH
 iterate 2 refine AW.q ?_
 refine AW.r ?_
 iterate 2 refine AO.pu T ?_
 refine AO.n (AW.c (b:=decide (v123 ≥ 1)) rfl (fun hc=>?_) (fun hc=>?_))
 replace hH:=condT hc hH
 refine AW.k ?_
 obtain ⟨o152,hH,hK153⟩:=zB hH
 refine AW.seqJ (fun s:List Int=>(⟨[(0,.s (List.map ze0 keys)),(1,.s (List.map ze0 skaters)),(2,.s (List.map ze0 places)),(3,size),(10,.R 48),(11,v123)],[(48,.row 1 (List.map ze0 s))],119,[]⟩:St)) (fun s=>s=o152) ?_ ?_
 refine AW.b (AW.q (AW.r ?_))
 refine AO.s rfl (mk0_ok T rfl rfl rfl rfl) ?_
 refine AO.pu T ?_
 refine AO.n ?_
 iterate 2 refine AW.q ?_
 refine AW.r (AO.pu T ?_)
 refine AO.v rfl rfl (zL T rfl rfl rfl) ?_
 refine AO.pu T ?_
 refine AO.n (AW.b ?_)
 refine AW.loopS (fun s:Nat × (List Int)=>(⟨[(0,.s (List.map ze0 keys)),(1,.s (List.map ze0 skaters)),(2,.s (List.map ze0 places)),(3,size),(10,.R 28),(11,v123),(12,.R 54),(51,.s (List.map ze0 skaters)),(52,(skaters.length:Int)),(53,(s.1:Int))],[(28,.row 1 (List.map ze0 v122)),(54,.row 1 (List.map ze0 s.2))],119,[]⟩:St)) (fun s=>s.1 ≤ skaters.length∧impl_OrderByPlaces_l2 keys places fuel v122 v123 (skaters.drop s.1) s.1 s.2=some o152) (fun s=>skaters.length - s.1) (0,[]) ⟨Nat.zero_le _,hH⟩ ?_ ?_
 refine Le.trans (Le.void 12 54 1 rfl rfl) ?_
 exact Le.ct 0 0
 rintro ⟨k154,v169⟩ ⟨hk,hH⟩
 replace hH:impl_OrderByPlaces_l2 keys places fuel v122 v123 (skaters.drop k154) k154 v169=some o152:=hH
 try dsimp only
 refine AW.boundM (t:=1) (l:=skaters) rfl (fun hb158=>?_)
 rcases hd157:skaters.drop k154 with _ | ⟨y155,ys156⟩
 rw [hd157,impl_OrderByPlaces_l2] at hH
 have hlt159:=drop_ge hd157
 refine AW.q (AW.r (AO.pu T ?_))
 refine AO.n (AW.q (AW.condF' (b:=decide ((k154:Int) < (skaters.length:Int))) rfl (rngF hlt159) ?_))
 refine AW.exit ?_
 obtain ⟨x171,hx172,hH⟩:=zB hH
 obtain ⟨x173,hx174,hH⟩:=zB hH
 obtain ⟨u175,hx176,hH⟩:=zB hH
 refine AW.r ?_
 iterate 3 refine AO.pu T ?_
 refine AO.s rfl (mk_map_ok T rfl 55 rfl rfl rfl rfl rfl (f:=ze0) (l:=[90,v123]) rfl rfl (fun _=>rfl) rfl rfl rfl rfl rfl) ?_
 refine AO.s rfl (callL_ok rfl 56 rfl rfl (es:=[.s (List.map ze0 keys),.s (List.map ze0 [90,v123])]) (by exact ⟨.free rfl,(.rowR rfl (.map fun y=>.vs rfl)),trivial⟩) (impl_withKeys_ok _ _ _ (hx172)) (zfree_map (fun y=>(.cons (zfree_v _) .nil))) rfl rfl rfl) ?_
 refine AO.pu T ?_
 refine AO.s rfl (callL_ok rfl 57 rfl rfl (es:=[.s (List.map ze0 x171),.s (List.map ze0 v169)]) (by exact ⟨(.rowR rfl (.map fun y=>.vs rfl)),(.rowR rfl (.map fun y=>.vs rfl)),trivial⟩) (impl_shuffledNumbers_ok fuel _ _ _ (hx174)) (zfree_map (fun y=>(.cons (zfree_v _) .nil))) rfl rfl rfl) ?_
 refine AO.s rfl (zAr T rfl 58 rfl rfl rfl rfl rfl (by decide) rfl rfl rfl rfl (fun _=>rfl) (needT (hx176)) rfl rfl) ?_
 refine AO.pu T ?_
 refine AO.n ?_
 refine ⟨_,zS hH,?_⟩
 exact Le.ct 58 48
 rw [hd157,impl_OrderByPlaces_l2] at hH
 have hlt159:=drop_lt hd157
 refine AW.q (AW.r (AO.pu T ?_))
 refine AO.n (AW.q (AW.condT' (b:=decide ((k154:Int) < (skaters.length:Int))) rfl (rngT hlt159) ?_))
 refine AW.k (AW.q ?_)
 refine AW.b (AW.q (AW.r ?_))
 refine AO.pu T ?_
 refine AO.v rfl rfl (zX T rfl rfl rfl rfl rfl (zgD hd157) rfl) ?_
 iterate 3 refine AO.pu T ?_
 refine AO.n (AW.q ?_)
 obtain ⟨x177,hx178,hH⟩:=zB hH
 refine AW.r ?_
 iterate 2 refine AO.pu T ?_
 refine AO.v rfl rfl (zX T rfl rfl rfl rfl rfl (hx178) rfl) ?_
 iterate 3 refine AO.pu T ?_
 refine AO.n (AW.c (b:=(x177 == v123)) rfl (fun hc=>?_) (fun hc=>?_))
 replace hH:=condT hc hH
 obtain ⟨u179,hx180,hH⟩:=zB hH
 refine AW.r ?_
 iterate 2 refine AO.pu T ?_
 refine AO.s rfl (mk_map_ok T rfl 59 rfl rfl rfl rfl rfl (f:=ze0) (l:=[y155]) rfl rfl (fun _=>rfl) rfl rfl rfl rfl rfl) ?_
 refine AO.s rfl (zAr T rfl 60 rfl rfl rfl rfl rfl (by decide) rfl rfl rfl rfl (fun _=>rfl) (needT (hx180)) rfl rfl) ?_
 refine AO.pu T ?_
 refine AO.n (AW.r ?_)
 refine AO.v rfl rfl (zR rfl rfl rfl rfl (zK hlt159 hb158)) ?_
 refine AO.pu T ?_
 refine AO.n ?_
 refine ⟨(k154+1,(v169++[y155])),⟨Nat.succ_le_of_lt hlt159,(by rw [zds hd157];exact hH)⟩,(by have:=hlt159;dsimp only;omega),?_⟩
 exact Le.ct 60 54
 replace hH:=condF hc hH
 refine AW.k (AW.r ?_)
 refine AO.v rfl rfl (zR rfl rfl rfl rfl (zK hlt159 hb158)) ?_
 refine AO.pu T ?_
 refine AO.n ?_
 refine ⟨(k154+1,v169),⟨Nat.succ_le_of_lt hlt159,(by rw [zds hd157];exact hH)⟩,(by have:=hlt159;dsimp only;omega),?_⟩
 exact Le.ct 0 0
 rintro v151 hs
 subst hs
 replace hH:=hK153
 try dsimp only [flow,flowE] at hH
 try dsimp only
 refine AW.r (AO.pu T ?_)
 refine AO.v rfl rfl (zW rfl rfl rfl rfl) ?_
 refine AO.pu T ?_
 refine AO.n ?_
 refine ⟨(k9,v151,w64 (v123 - 1)),hH,Nat.lt_succ_self _,?_⟩
 exact Le.ct 48 28
 replace hH:=condF hc hH
 refine AW.exit (AW.q (AW.r ?_))
 refine AO.s rfl (mk0_ok T rfl rfl rfl rfl) ?_
 refine AO.pu T ?_
 refine AO.n ?_
 iterate 2 refine AW.q ?_
 obtain ⟨u181,hx182,hH⟩:=zB hH
 refine AW.r (AO.pu T ?_)
 refine AO.v rfl rfl (len_row_ok T rfl rfl rfl rfl) ?_
 refine AO.pu T ?_
 refine AO.v rfl rfl (rem_ok rfl rfl rfl (neZ (needT (hx182)))) ?_
 refine AO.pu T ?_
 refine AO.n (AW.q (AW.r ?_))
 iterate 2 refine AO.pu T ?_
 refine AO.n (AW.c (b:=decide (((v122.length:Int).tmod size) > 0)) rfl (fun hc=>?_) (fun hc=>?_))
 replace hH:=condT hc hH
 obtain ⟨u183,hx184,hH⟩:=zB hH
 refine AW.r ?_
 iterate 2 refine AO.pu T ?_
 refine AO.s rfl (mk_map_ok T rfl 61 rfl rfl rfl rfl rfl (f:=ze0) (l:=[((v122.length:Int).tmod size)]) rfl rfl (fun _=>rfl) rfl rfl rfl rfl rfl) ?_
 refine AO.s rfl (app_wv_map T rfl 62 rfl rfl rfl rfl rfl (by decide) rfl rfl rfl (fun _=>rfl) (needT (hx184)) rfl rfl) ?_
 refine AO.pu T ?_
 refine AO.n ?_
 iterate 2 refine AW.q ?_
 refine AW.r (AO.pu T ?_)
 refine AO.v rfl rfl (len_row_ok T rfl rfl rfl rfl) ?_
 refine AO.pu T ?_
 refine AO.v rfl rfl (quow_ok rfl rfl rfl (neZ (needT (hx182)))) ?_
 refine AO.pu T ?_
 refine AO.n (AW.b ?_)
 refine AW.loopS (fun s:Nat × (List Int) × Int=>(⟨[(0,.s (List.map ze0 keys)),(3,size),(10,.R 28),(15,.R 62),(91,w64 ((v122.length:Int).tdiv size)),(92,s.2.2)],[(28,.row 1 (List.map ze0 v122)),(62,.row 1 (List.map ze0 s.2.1))],119,[]⟩:St)) (fun s=>impl_OrderByPlaces_l3 keys size fuel v122 s.1 s.2.1 s.2.2=some r) (fun s=>s.1) (fuel,[((v122.length:Int).tmod size)],0) hH ?_ ?_
 exact Le.ct 0 0
 rintro ⟨k185,v192,v193⟩ hH
 replace hH:impl_OrderByPlaces_l3 keys size fuel v122 k185 v192 v193=some r:=hH
 try dsimp only
 rcases k185 with _ | k185
 cases (show none=some _ from hH)
 rw [impl_OrderByPlaces_l3] at hH
 refine AW.q (AW.r (AO.pu T ?_))
 refine AO.n (AW.q (AW.c (b:=decide (v193 < (w64 ((v122.length:Int).tdiv size)))) rfl (fun hc=>?_) (fun hc=>?_)))
 replace hH:=condT hc hH
 refine AW.k (AW.q ?_)
 refine AW.b ?_
 obtain ⟨u195,hx196,hH⟩:=zB hH
 refine AW.r ?_
 iterate 2 refine AO.pu T ?_
 refine AO.s rfl (mk_map_ok T rfl 67 rfl rfl rfl rfl rfl (f:=ze0) (l:=[size]) rfl rfl (fun _=>rfl) rfl rfl rfl rfl rfl) ?_
 refine AO.s rfl (zAr T rfl 68 rfl rfl rfl rfl rfl (by decide) rfl rfl rfl rfl (fun _=>rfl) (needT (hx196)) rfl rfl) ?_
 refine AO.pu T ?_
 refine AO.n (AW.r ?_)
 refine AO.v rfl rfl (zW rfl rfl rfl rfl) ?_
 refine AO.pu T ?_
 refine AO.n ?_
 refine ⟨(k185,(v192++[size]),w64 (v193+1)),hH,Nat.lt_succ_self _,?_⟩
 exact Le.ct 68 62
 replace hH:=condF hc hH
 refine AW.exit (AW.q (AW.r ?_))
 refine AO.s rfl (mk0_ok T rfl rfl rfl rfl) ?_
 refine AO.pu T ?_
 refine AO.n ?_
 iterate 2 refine AW.q ?_
 obtain ⟨x197,hx198,hH⟩:=zB hH
 refine AW.r ?_
 iterate 2 refine AO.pu T ?_
 refine AO.s rfl (callL_ok rfl 69 rfl rfl (es:=[.s (List.map ze0 v122),.s (List.map ze0 v192)]) (by exact ⟨(.rowR rfl (.map fun y=>.vs rfl)),(.rowR rfl (.map fun y=>.vs rfl)),trivial⟩) (impl_cutInto_ok _ _ _ (hx198)) (zfree_map (fun y=>(.cons (zfree_map (fun y=>(.cons (zfree_v _) .nil))) .nil))) rfl rfl rfl) ?_
 refine AO.v rfl rfl (len_row_ok T rfl rfl rfl rfl) ?_
 refine AO.pu T ?_
 refine AO.n (AW.b ?_)
 refine AW.loopS (fun s:Nat × (List Int) × (List (List Int)) × Int=>(⟨[(0,.s (List.map ze0 keys)),(17,.R 79),(102,.R 69),(103,(x197.length:Int)),(104,s.2.2.2)],[(69,.row 1 (List.map ze11 s.2.2.1)),(79,.row 1 (List.map ze0 s.2.1))],119,[]⟩:St)) (fun s=>impl_OrderByPlaces_l4 keys fuel x197 s.1 s.2.1 s.2.2.1 s.2.2.2=some r) (fun s=>s.1) (fuel,[],x197,0) hH ?_ ?_
 refine Le.trans (Le.void 17 79 1 rfl rfl) ?_
 exact Le.ct 0 0
 rintro ⟨k199,v219,v220,v221⟩ hH
 replace hH:impl_OrderByPlaces_l4 keys fuel x197 k199 v219 v220 v221=some r:=hH
 try dsimp only
 rcases k199 with _ | k199
 cases (show none=some _ from hH)
 rw [impl_OrderByPlaces_l4] at hH
 refine AW.q (AW.r (AO.pu T ?_))
 refine AO.n (AW.q (AW.c (b:=decide (v221 < (x197.length:Int))) rfl (fun hc=>?_) (fun hc=>?_)))
 replace hH:=condT hc hH
 refine AW.k (AW.q ?_)
 refine AW.b (AW.q ?_)
 obtain ⟨x223,hx224,hH⟩:=zB hH
 refine AW.le (Le.openM 69 v221.toNat 0 80 rfl (zgG (hx224)) rfl rfl) ?_
 refine AW.r (AO.pu T ?_)
 refine AO.v rfl rfl (ix_lent_ok T rfl rfl rfl rfl rfl rfl (hx224)) ?_
 refine AO.v rfl rfl (load_lent_ok T rfl rfl rfl rfl rfl) ?_
 iterate 2 refine AO.pu T ?_
 refine AO.n ?_
 obtain ⟨x225,hx226,hH⟩:=zB hH
 obtain ⟨x227,hx228,hH⟩:=zB hH
 obtain ⟨u229,hx230,hH⟩:=zB hH
 refine AW.r ?_
 iterate 3 refine AO.pu T ?_
 refine AO.s rfl (mk_map_ok T rfl 81 rfl rfl rfl rfl rfl (f:=ze0) (l:=[v221]) rfl rfl (fun _=>rfl) rfl rfl rfl rfl rfl) ?_
 refine AO.s rfl (callL_ok rfl 82 rfl rfl (es:=[.s (List.map ze0 keys),.s (List.map ze0 [v221])]) (by exact ⟨.free rfl,(.rowR rfl (.map fun y=>.vs rfl)),trivial⟩) (impl_withKeys_ok _ _ _ (hx226)) (zfree_map (fun y=>(.cons (zfree_v _) .nil))) rfl rfl rfl) ?_
 refine AO.pu T ?_
 refine AO.s rfl (callL_ok rfl 83 rfl rfl (es:=[.s (List.map ze0 x225),.s (List.map ze0 x223)]) (by exact ⟨(.rowR rfl (.map fun y=>.vs rfl)),(.rowR rfl (.map fun y=>.vs rfl)),trivial⟩) (impl_shuffledNumbers_ok fuel _ _ _ (hx228)) (zfree_map (fun y=>(.cons (zfree_v _) .nil))) rfl rfl rfl) ?_
 refine AO.s rfl (zAr T rfl 84 rfl rfl rfl rfl rfl (by decide) rfl rfl rfl rfl (fun _=>rfl) (needT (hx230)) rfl rfl) ?_
 refine AO.pu T ?_
 refine AO.le (Le.closeM 69 v221.toNat 0 80 rfl rfl (zgG (hx224)) rfl (u':=x223) rfl) ?_
 refine AO.n (AW.r ?_)
 refine AO.v rfl rfl (zW rfl rfl rfl rfl) ?_
 refine AO.pu T ?_
 refine AO.n ?_
 refine ⟨(k199,(v219++x227),(v220.set v221.toNat x223),w64 (v221+1)),hH,Nat.lt_succ_self _,?_⟩
 exact Le.ct 84 79
 replace hH:=condF hc hH
 refine AW.exit (AW.q (AW.r ?_))
 iterate 3 refine AO.pu T ?_
 refine AO.n (AW.t ?_)
 have hR:=zS hH;subst hR
 exact retQ.i [79] rfl (.t (zG (.c (.rowR rfl)) (zG (.c .v) (zGn))))
 replace hH:=condF hc hH
 refine AW.k ?_
 iterate 2 refine AW.q ?_
 refine AW.r (AO.pu T ?_)
 refine AO.v rfl rfl (len_row_ok T rfl rfl rfl rfl) ?_
 refine AO.pu T ?_
 refine AO.v rfl rfl (quow_ok rfl rfl rfl (neZ (needT (hx182)))) ?_
 refine AO.pu T ?_
 refine AO.n (AW.b ?_)
 refine AW.loopS (fun s:Nat × (List Int) × Int=>(⟨[(0,.s (List.map ze0 keys)),(3,size),(10,.R 28),(15,.R 88),(91,w64 ((v122.length:Int).tdiv size)),(92,s.2.2)],[(28,.row 1 (List.map ze0 v122)),(88,.row 1 (List.map ze0 s.2.1))],119,[]⟩:St)) (fun s=>impl_OrderByPlaces_l5 keys size fuel v122 s.1 s.2.1 s.2.2=some r) (fun s=>s.1) (fuel,[],0) hH ?_ ?_
 refine Le.trans (Le.void 15 88 1 rfl rfl) ?_
 exact Le.ct 0 0
 rintro ⟨k231,v238,v239⟩ hH
 replace hH:impl_OrderByPlaces_l5 keys size fuel v122 k231 v238 v239=some r:=hH
 try dsimp only
 rcases k231 with _ | k231
 cases (show none=some _ from hH)
 rw [impl_OrderByPlaces_l5] at hH
 refine AW.q (AW.r (AO.pu T ?_))
 refine AO.n (AW.q (AW.c (b:=decide (v239 < (w64 ((v122.length:Int).tdiv size)))) rfl (fun hc=>?_) (fun hc=>?_)))
 replace hH:=condT hc hH
 refine AW.k (AW.q ?_)
 refine AW.b ?_
 obtain ⟨u241,hx242,hH⟩:=zB hH
 refine AW.r ?_
 iterate 2 refine AO.pu T ?_
 refine AO.s rfl (mk_map_ok T rfl 89 rfl rfl rfl rfl rfl (f:=ze0) (l:=[size]) rfl rfl (fun _=>rfl) rfl rfl rfl rfl rfl) ?_
 refine AO.s rfl (zAr T rfl 90 rfl rfl rfl rfl rfl (by decide) rfl rfl rfl rfl (fun _=>rfl) (needT (hx242)) rfl rfl) ?_
 refine AO.pu T ?_
 refine AO.n (AW.r ?_)
 refine AO.v rfl rfl (zW rfl rfl rfl rfl) ?_
 refine AO.pu T ?_
 refine AO.n ?_
 refine ⟨(k231,(v238++[size]),w64 (v239+1)),hH,Nat.lt_succ_self _,?_⟩
 exact Le.ct 90 88
 replace hH:=condF hc hH
 refine AW.exit (AW.q (AW.r ?_))
 refine AO.s rfl (mk0_ok T rfl rfl rfl rfl) ?_
 refine AO.pu T ?_
 refine AO.n ?_
 iterate 2 refine AW.q ?_
 obtain ⟨x243,hx244,hH⟩:=zB hH
 refine AW.r ?_
 iterate 2 refine AO.pu T ?_
 refine AO.s rfl (callL_ok rfl 91 rfl rfl (es:=[.s (List.map ze0 v122),.s (List.map ze0 v238)]) (by exact ⟨(.rowR rfl (.map fun y=>.vs rfl)),(.rowR rfl (.map fun y=>.vs rfl)),trivial⟩) (impl_cutInto_ok _ _ _ (hx244)) (zfree_map (fun y=>(.cons (zfree_map (fun y=>(.cons (zfree_v _) .nil))) .nil))) rfl rfl rfl) ?_
 refine AO.v rfl rfl (len_row_ok T rfl rfl rfl rfl) ?_
 refine AO.pu T ?_
 refine AO.n (AW.b ?_)
 refine AW.loopS (fun s:Nat × (List Int) × (List (List Int)) × Int=>(⟨[(0,.s (List.map ze0 keys)),(17,.R 101),(102,.R 91),(103,(x243.length:Int)),(104,s.2.2.2)],[(91,.row 1 (List.map ze11 s.2.2.1)),(101,.row 1 (List.map ze0 s.2.1))],119,[]⟩:St)) (fun s=>impl_OrderByPlaces_l6 keys fuel x243 s.1 s.2.1 s.2.2.1 s.2.2.2=some r) (fun s=>s.1) (fuel,[],x243,0) hH ?_ ?_
 refine Le.trans (Le.void 17 101 1 rfl rfl) ?_
 exact Le.ct 0 0
 rintro ⟨k245,v265,v266,v267⟩ hH
 replace hH:impl_OrderByPlaces_l6 keys fuel x243 k245 v265 v266 v267=some r:=hH
 try dsimp only
 rcases k245 with _ | k245
 cases (show none=some _ from hH)
 rw [impl_OrderByPlaces_l6] at hH
 refine AW.q (AW.r (AO.pu T ?_))
 refine AO.n (AW.q (AW.c (b:=decide (v267 < (x243.length:Int))) rfl (fun hc=>?_) (fun hc=>?_)))
 replace hH:=condT hc hH
 refine AW.k (AW.q ?_)
 refine AW.b (AW.q ?_)
 obtain ⟨x269,hx270,hH⟩:=zB hH
 refine AW.le (Le.openM 91 v267.toNat 0 102 rfl (zgG (hx270)) rfl rfl) ?_
 refine AW.r (AO.pu T ?_)
 refine AO.v rfl rfl (ix_lent_ok T rfl rfl rfl rfl rfl rfl (hx270)) ?_
 refine AO.v rfl rfl (load_lent_ok T rfl rfl rfl rfl rfl) ?_
 iterate 2 refine AO.pu T ?_
 refine AO.n ?_
 obtain ⟨x271,hx272,hH⟩:=zB hH
 obtain ⟨x273,hx274,hH⟩:=zB hH
 obtain ⟨u275,hx276,hH⟩:=zB hH
 refine AW.r ?_
 iterate 3 refine AO.pu T ?_
 refine AO.s rfl (mk_map_ok T rfl 103 rfl rfl rfl rfl rfl (f:=ze0) (l:=[v267]) rfl rfl (fun _=>rfl) rfl rfl rfl rfl rfl) ?_
 refine AO.s rfl (callL_ok rfl 104 rfl rfl (es:=[.s (List.map ze0 keys),.s (List.map ze0 [v267])]) (by exact ⟨.free rfl,(.rowR rfl (.map fun y=>.vs rfl)),trivial⟩) (impl_withKeys_ok _ _ _ (hx272)) (zfree_map (fun y=>(.cons (zfree_v _) .nil))) rfl rfl rfl) ?_
 refine AO.pu T ?_
 refine AO.s rfl (callL_ok rfl 105 rfl rfl (es:=[.s (List.map ze0 x271),.s (List.map ze0 x269)]) (by exact ⟨(.rowR rfl (.map fun y=>.vs rfl)),(.rowR rfl (.map fun y=>.vs rfl)),trivial⟩) (impl_shuffledNumbers_ok fuel _ _ _ (hx274)) (zfree_map (fun y=>(.cons (zfree_v _) .nil))) rfl rfl rfl) ?_
 refine AO.s rfl (zAr T rfl 106 rfl rfl rfl rfl rfl (by decide) rfl rfl rfl rfl (fun _=>rfl) (needT (hx276)) rfl rfl) ?_
 refine AO.pu T ?_
 refine AO.le (Le.closeM 91 v267.toNat 0 102 rfl rfl (zgG (hx270)) rfl (u':=x269) rfl) ?_
 refine AO.n (AW.r ?_)
 refine AO.v rfl rfl (zW rfl rfl rfl rfl) ?_
 refine AO.pu T ?_
 refine AO.n ?_
 refine ⟨(k245,(v265++x273),(v266.set v267.toNat x269),w64 (v267+1)),hH,Nat.lt_succ_self _,?_⟩
 exact Le.ct 106 101
 replace hH:=condF hc hH
 refine AW.exit (AW.q (AW.r ?_))
 iterate 3 refine AO.pu T ?_
 refine AO.n (AW.t ?_)
 have hR:=zS hH;subst hR
 exact retQ.i [101] rfl (.t (zG (.c (.rowR rfl)) (zG (.c .v) (zGn))))

def impl_drawOf_l1 (e:Event) (fuel:Nat):List Entrant→Nat→List Entrant→List Int→List Int→Option (((List Int) × Bool))
 | [],k1,v30,v31,v32 =>
  cond ((v30.length:Int) == 0)
   (some ([],false))
   (cond (e.segment == 0)
    ((impl_StartOrder_p fuel [e.key,0] v30 e.size).bind fun x34 =>
    some (x34.1,x34.2))
    ((impl_OrderByPlaces_p fuel [e.key,e.segment] v31 v32 e.size).bind fun x36 =>
    some (x36.1,x36.2)))
 | y2::ys3,k1,v30,v31,v32 =>
  (impl_isThere_p e y2.skater).bind fun x38 =>
  cond x38
   ((need (fitsB 16 (v30.length+([y2]).length))).bind fun u40 =>
   (need (fitsB 8 (v31.length+([y2.skater]).length))).bind fun u42 =>
   (impl_placeOf_p fuel e.results (k1:Int)).bind fun x44 =>
   (need (fitsB 8 (v32.length+([x44]).length))).bind fun u46 =>
   impl_drawOf_l1 e fuel ys3 (k1+1) (v30++[y2]) (v31++[y2.skater]) (v32++[x44]))
   (impl_drawOf_l1 e fuel ys3 (k1+1) v30 v31 v32)
def impl_drawOf_p (fuel:Nat) (e:Event):Option ((List Int) × Bool) :=
 impl_drawOf_l1 e fuel e.entrants 0 [] [] []
theorem impl_drawOf_ok (fuel:Nat) (e:Event) (r:((List Int) × Bool)) (hH:impl_drawOf_p fuel e=some r):SpecR Tryz.prog 47 [.g (ze4 e)] (.t [.w 1 (r.1.map ze0),.v (.bool r.2)]):=by
 refine zFn T Tryz.func47 rfl (by decide) rfl ?_
 refine AW.q (AW.r (AO.s rfl (zBx T rfl 1 rfl rfl rfl rfl) ?_))
 iterate 2 refine AO.pu T ?_
 refine AO.n (AW.q (AW.r ?_))
 iterate 3 refine AO.s rfl (mk0_ok T rfl rfl rfl rfl) ?_
 iterate 3 refine AO.pu T ?_
 refine AO.n ?_
 iterate 2 refine AW.q ?_
 refine AW.r ?_
 iterate 2 refine AO.pu T ?_
 refine AO.v rfl rfl (zL T rfl rfl rfl) ?_
 refine AO.pu T ?_
 refine AO.n (AW.b ?_)
 refine AW.loopS (fun s:Nat × (List Entrant) × (List Int) × (List Int)=>(⟨[(1,.p 1 0),(4,.R 11),(5,.R 13),(6,.R 15),(13,.s (List.map ze1 e.entrants)),(14,(e.entrants.length:Int)),(15,(s.1:Int))],[(1,.box [e.segments,e.size,e.key,.s (List.map ze1 e.entrants),.s (List.map ze0 e.gone),e.segment,.s (List.map ze0 e.order),.s (List.map ze2 e.results)]),(11,.row 2 (List.map ze1 s.2.1)),(13,.row 1 (List.map ze0 s.2.2.1)),(15,.row 1 (List.map ze0 s.2.2.2))],68,[]⟩:St)) (fun s=>s.1 ≤ e.entrants.length∧impl_drawOf_l1 e fuel (e.entrants.drop s.1) s.1 s.2.1 s.2.2.1 s.2.2.2=some r) (fun s=>e.entrants.length - s.1) (0,[],[],[]) ⟨Nat.zero_le _,hH⟩ ?_ ?_
 refine Le.trans (Le.void 4 11 2 rfl rfl) ?_
 refine Le.trans (Le.void 5 13 1 rfl rfl) ?_
 refine Le.trans (Le.void 6 15 1 rfl rfl) ?_
 exact Le.ct 0 0
 rintro ⟨k1,v30,v31,v32⟩ ⟨hk,hH⟩
 replace hH:impl_drawOf_l1 e fuel (e.entrants.drop k1) k1 v30 v31 v32=some r:=hH
 try dsimp only
 refine AW.boundM (t:=13) (l:=e.entrants) rfl (fun hb5=>?_)
 rcases hd4:e.entrants.drop k1 with _ | ⟨y2,ys3⟩
 rw [hd4,impl_drawOf_l1] at hH
 have hlt6:=drop_ge hd4
 refine AW.q (AW.r (AO.pu T ?_))
 refine AO.n (AW.q (AW.condF' (b:=decide ((k1:Int) < (e.entrants.length:Int))) rfl (rngF hlt6) ?_))
 refine AW.exit ?_
 iterate 2 refine AW.q ?_
 refine AW.r (AO.pu T ?_)
 refine AO.v rfl rfl (len_row_ok T rfl rfl rfl rfl) ?_
 refine AO.pu T ?_
 refine AO.n (AW.c (b:=((v30.length:Int) == 0)) rfl (fun hc=>?_) (fun hc=>?_))
 replace hH:=condT hc hH
 refine AW.q (AW.r ?_)
 iterate 2 refine AO.pu T ?_
 refine AO.n (AW.t ?_)
 have hR:=zS hH;subst hR
 exact retQ.i [] rfl (.t (zG (.c .nil) (zG (.c .v) (zGn))))
 replace hH:=condF hc hH
 refine AW.k ?_
 iterate 2 refine AW.q ?_
 refine AW.r ?_
 iterate 3 refine AO.pu T ?_
 refine AO.n (AW.c (b:=(e.segment == 0)) rfl (fun hc=>?_) (fun hc=>?_))
 replace hH:=condT hc hH
 refine AW.q ?_
 obtain ⟨x34,hx35,hH⟩:=zB hH
 refine AW.r ?_
 iterate 2 refine AO.pu T ?_
 refine AO.s rfl (mk_map_ok T rfl 16 rfl rfl rfl rfl rfl (f:=ze0) (l:=[e.key,0]) rfl rfl (fun _=>rfl) rfl rfl rfl rfl rfl) ?_
 iterate 3 refine AO.pu T ?_
 refine AO.s rfl (callL_ok rfl 17 rfl rfl (es:=[.s (List.map ze0 [e.key,0]),.s (List.map ze1 v30),e.size]) (by exact ⟨(.rowR rfl (.map fun y=>.vs rfl)),(.rowR rfl (.map fun y=>.vs rfl)),.free rfl,trivial⟩) (impl_StartOrder_ok fuel _ _ _ _ (hx35)) (zfree_t (zfl (.cons (zfree_map (fun y=>(.cons (zfree_v _) .nil))) (.cons (zfree_v _) .nil)))) rfl rfl rfl) ?_
 iterate 4 refine AO.pu T ?_
 refine AO.n (AW.t ?_)
 have hR:=zS hH;subst hR
 exact retQ.i [17] rfl (.t (zG (.c (.rowR rfl)) (zG (.c .v) (zGn))))
 replace hH:=condF hc hH
 refine AW.k (AW.q ?_)
 obtain ⟨x36,hx37,hH⟩:=zB hH
 refine AW.r ?_
 iterate 4 refine AO.pu T ?_
 refine AO.s rfl (mk_map_ok T rfl 18 rfl rfl rfl rfl rfl (f:=ze0) (l:=[e.key,e.segment]) rfl rfl (fun _=>rfl) rfl rfl rfl rfl rfl) ?_
 iterate 4 refine AO.pu T ?_
 refine AO.s rfl (callL_ok rfl 19 rfl rfl (es:=[.s (List.map ze0 [e.key,e.segment]),.s (List.map ze0 v31),.s (List.map ze0 v32),e.size]) (by exact ⟨(.rowR rfl (.map fun y=>.vs rfl)),(.rowR rfl (.map fun y=>.vs rfl)),(.rowR rfl (.map fun y=>.vs rfl)),.free rfl,trivial⟩) (impl_OrderByPlaces_ok fuel _ _ _ _ _ (hx37)) (zfree_t (zfl (.cons (zfree_map (fun y=>(.cons (zfree_v _) .nil))) (.cons (zfree_v _) .nil)))) rfl rfl rfl) ?_
 iterate 4 refine AO.pu T ?_
 refine AO.n (AW.t ?_)
 have hR:=zS hH;subst hR
 exact retQ.i [19] rfl (.t (zG (.c (.rowR rfl)) (zG (.c .v) (zGn))))
 rw [hd4,impl_drawOf_l1] at hH
 have hlt6:=drop_lt hd4
 refine AW.q (AW.r (AO.pu T ?_))
 refine AO.n (AW.q (AW.condT' (b:=decide ((k1:Int) < (e.entrants.length:Int))) rfl (rngT hlt6) ?_))
 refine AW.k (AW.q ?_)
 refine AW.b (AW.q (AW.r ?_))
 refine AO.pu T ?_
 refine AO.v rfl rfl (zX T rfl rfl rfl rfl rfl (zgD hd4) rfl) ?_
 refine AO.pu T (d:=.g [y2.skater,y2.rank]) ?_
 refine AO.s rfl (zA T rfl 20 rfl rfl rfl rfl rfl) ?_
 refine AO.pu T ?_
 refine AO.se T [y2.skater,y2.rank] ?_
 refine AO.n (AW.q ?_)
 obtain ⟨x38,hx39,hH⟩:=zB hH
 refine AW.r (AO.pu T (d:=.g [e.segments,e.size,e.key,.s (List.map ze1 e.entrants),.s (List.map ze0 e.gone),e.segment,.s (List.map ze0 e.order),.s (List.map ze2 e.results)]) ?_)
 iterate 2 refine AO.pu T ?_
 refine AO.v rfl rfl (zV rfl rfl rfl rfl (impl_isThere_ok _ _ _ (hx39)) rfl) ?_
 refine AO.n (AW.c (b:=x38) rfl (fun hc=>?_) (fun hc=>?_))
 replace hH:=condT hc hH
 refine AW.q ?_
 obtain ⟨u40,hx41,hH⟩:=zB hH
 refine AW.r (AO.pu T ?_)
 refine AO.pu T (d:=.g [y2.skater,y2.rank]) ?_
 refine AO.s rfl (mk_map_ok T rfl 21 rfl rfl rfl rfl rfl (f:=ze1) (l:=[y2]) rfl rfl (fun _=>rfl) rfl rfl rfl rfl rfl) ?_
 refine AO.s rfl (zAr T rfl 22 rfl rfl rfl rfl rfl (by decide) rfl rfl rfl rfl (fun _=>rfl) (needT (hx41)) rfl rfl) ?_
 refine AO.pu T ?_
 refine AO.n (AW.q ?_)
 obtain ⟨u42,hx43,hH⟩:=zB hH
 refine AW.r ?_
 iterate 3 refine AO.pu T ?_
 refine AO.s rfl (mk_map_ok T rfl 23 rfl rfl rfl rfl rfl (f:=ze0) (l:=[y2.skater]) rfl rfl (fun _=>rfl) rfl rfl rfl rfl rfl) ?_
 refine AO.s rfl (zAr T rfl 24 rfl rfl rfl rfl rfl (by decide) rfl rfl rfl rfl (fun _=>rfl) (needT (hx43)) rfl rfl) ?_
 refine AO.pu T ?_
 refine AO.n ?_
 obtain ⟨x44,hx45,hH⟩:=zB hH
 obtain ⟨u46,hx47,hH⟩:=zB hH
 refine AW.r ?_
 iterate 4 refine AO.pu T ?_
 refine AO.v rfl rfl (zV rfl rfl rfl rfl (impl_placeOf_ok fuel _ _ _ (hx45)) rfl) ?_
 refine AO.s rfl (mk_map_ok T rfl 25 rfl rfl rfl rfl rfl (f:=ze0) (l:=[x44]) rfl rfl (fun _=>rfl) rfl rfl rfl rfl rfl) ?_
 refine AO.s rfl (zAr T rfl 26 rfl rfl rfl rfl rfl (by decide) rfl rfl rfl rfl (fun _=>rfl) (needT (hx47)) rfl rfl) ?_
 refine AO.pu T ?_
 refine AO.n (AW.le (Le.ct 0 0 (σ':=(⟨[(1,.p 1 0),(4,.R 22),(5,.R 24),(6,.R 26),(13,.s (List.map ze1 e.entrants)),(14,(e.entrants.length:Int)),(15,(k1:Int))],[(1,.box [e.segments,e.size,e.key,.s (List.map ze1 e.entrants),.s (List.map ze0 e.gone),e.segment,.s (List.map ze0 e.order),.s (List.map ze2 e.results)]),(22,.row 2 (List.map ze1 (v30++[y2]))),(24,.row 1 (List.map ze0 (v31++[y2.skater]))),(26,.row 1 (List.map ze0 (v32++[x44])))],68,[]⟩:St))) ?_)
 refine AW.r (AO.v rfl rfl (zR rfl rfl rfl rfl (zK hlt6 hb5)) ?_)
 refine AO.pu T ?_
 refine AO.n ?_
 refine ⟨(k1+1,(v30++[y2]),(v31++[y2.skater]),(v32++[x44])),⟨Nat.succ_le_of_lt hlt6,(by rw [zds hd4];exact hH)⟩,(by have:=hlt6;dsimp only;omega),?_⟩
 refine Le.trans (Le.ct 22 11 (σ':=(⟨[(1,.p 1 0),(4,.R 11),(5,.R 24),(6,.R 26),(13,.s (List.map ze1 e.entrants)),(14,(e.entrants.length:Int)),(15,((k1+1:Nat):Int))],[(1,.box [e.segments,e.size,e.key,.s (List.map ze1 e.entrants),.s (List.map ze0 e.gone),e.segment,.s (List.map ze0 e.order),.s (List.map ze2 e.results)]),(11,.row 2 (List.map ze1 (v30++[y2]))),(24,.row 1 (List.map ze0 (v31++[y2.skater]))),(26,.row 1 (List.map ze0 (v32++[x44])))],68,[]⟩:St))) ?_
 refine Le.trans (Le.ct 24 13 (σ':=(⟨[(1,.p 1 0),(4,.R 11),(5,.R 13),(6,.R 26),(13,.s (List.map ze1 e.entrants)),(14,(e.entrants.length:Int)),(15,((k1+1:Nat):Int))],[(1,.box [e.segments,e.size,e.key,.s (List.map ze1 e.entrants),.s (List.map ze0 e.gone),e.segment,.s (List.map ze0 e.order),.s (List.map ze2 e.results)]),(11,.row 2 (List.map ze1 (v30++[y2]))),(13,.row 1 (List.map ze0 (v31++[y2.skater]))),(26,.row 1 (List.map ze0 (v32++[x44])))],68,[]⟩:St))) ?_
 exact Le.ct 26 15
 replace hH:=condF hc hH
 refine AW.k (AW.r ?_)
 refine AO.v rfl rfl (zR rfl rfl rfl rfl (zK hlt6 hb5)) ?_
 refine AO.pu T ?_
 refine AO.n ?_
 refine ⟨(k1+1,v30,v31,v32),⟨Nat.succ_le_of_lt hlt6,(by rw [zds hd4];exact hH)⟩,(by have:=hlt6;dsimp only;omega),?_⟩
 exact Le.ct 0 0

def impl_BeginSegment_p (fuel:Nat) (e:Event):Option (Event × Bool) :=
 (impl_isRunning_p e).bind fun x1 =>
 cond ((!x1) || decide ((e.order.length:Int) > 0))
  (some ((Event.mk 0 0 0 [] [] 0 [] []),false))
  ((impl_drawOf_p fuel e).bind fun x3 =>
  cond (!x3.2)
   (some ((Event.mk 0 0 0 [] [] 0 [] []),false))
   ((impl_copyEvent_p e).bind fun x5 =>
   some ((Event.mk x5.segments x5.size x5.key x5.entrants x5.gone x5.segment x3.1 x5.results),true)))
theorem impl_BeginSegment_ok (fuel:Nat) (e:Event) (r:(Event × Bool)) (hH:impl_BeginSegment_p fuel e=some r):SpecR Tryz.prog 11 [.g (ze4 e)] (.t [.g (ze10 r.1),.v (.bool r.2)]):=by
 refine zFn T Tryz.func11 rfl (by decide) rfl ?_
 refine AW.q (AW.r (AO.s rfl (zBx T rfl 1 rfl rfl rfl rfl) ?_))
 refine AO.s rfl (zA T rfl 2 rfl rfl rfl rfl rfl) ?_
 refine AO.pu T ?_
 refine AO.n ?_
 iterate 2 refine AW.q ?_
 obtain ⟨x1,hx2,hH⟩:=zB hH
 refine AW.r (AO.pu T (d:=.g [e.segments,e.size,e.key,.s (List.map ze1 e.entrants),.s (List.map ze0 e.gone),e.segment,.s (List.map ze0 e.order),.s (List.map ze2 e.results)]) ?_)
 refine AO.v rfl rfl (zV rfl rfl rfl rfl (impl_isRunning_ok _ _ (hx2)) rfl) ?_
 iterate 2 refine AO.pu T ?_
 refine AO.g T [] rfl trivial rfl rfl ?_
 refine AO.g T [11] rfl ⟨fun h=>h,trivial⟩ rfl rfl ?_
 refine AO.d [12] rfl ⟨fun h=>h,trivial⟩ (fun hg=>zL T rfl rfl rfl) rfl ?_
 refine AO.g T [13] rfl ⟨fun h=>h,trivial⟩ rfl rfl ?_
 refine AO.v rfl rfl (zO rfl rfl rfl rfl) ?_
 refine AO.n (AW.c (b:=((!x1) || decide ((e.order.length:Int) > 0))) rfl (fun hc=>?_) (fun hc=>?_))
 replace hH:=condT hc hH
 refine AW.q (AW.r (AO.pu T (d:=.g [(0:Int),(0:Int),(0:Int),.w 0 [],.w 0 [],(0:Int),.w 0 [],.w 0 []]) ?_))
 refine AO.se T [(0:Int),(0:Int),(0:Int),.w 0 [],.w 0 [],(0:Int),.w 0 [],.w 0 []] ?_
 refine AO.pu T ?_
 refine AO.n (AW.t ?_)
 have hR:=zS hH;subst hR
 exact retQ.i [] rfl (.t (zG (.g (zC .v (zC .v (zC .v (zC .nil (zC .nil (zC .v (zC .nil (zC .nil (zCn)))))))))) (zG (.c .v) (zGn))))
 replace hH:=condF hc hH
 refine AW.k (AW.q ?_)
 obtain ⟨x3,hx4,hH⟩:=zB hH
 refine AW.r (AO.pu T (d:=.g [e.segments,e.size,e.key,.s (List.map ze1 e.entrants),.s (List.map ze0 e.gone),e.segment,.s (List.map ze0 e.order),.s (List.map ze2 e.results)]) ?_)
 refine AO.s rfl (call_ok rfl 3 rfl rfl rfl (impl_drawOf_ok fuel _ _ (hx4)) rfl rfl rfl) ?_
 iterate 5 refine AO.pu T ?_
 refine AO.n ?_
 iterate 2 refine AW.q ?_
 refine AW.r ?_
 iterate 2 refine AO.pu T ?_
 refine AO.n (AW.c (b:=(!x3.2)) rfl (fun hc=>?_) (fun hc=>?_))
 replace hH:=condT hc hH
 refine AW.q (AW.r (AO.pu T (d:=.g [(0:Int),(0:Int),(0:Int),.w 0 [],.w 0 [],(0:Int),.w 0 [],.w 0 []]) ?_))
 refine AO.se T [(0:Int),(0:Int),(0:Int),.w 0 [],.w 0 [],(0:Int),.w 0 [],.w 0 []] ?_
 refine AO.pu T ?_
 refine AO.n (AW.le (Le.ct 0 0 (σ':=(⟨[(2,.p 2 0),(3,.v (.bool false))],[(2,.box [(0:Int),(0:Int),(0:Int),.w 0 [],.w 0 [],(0:Int),.w 0 [],.w 0 []])],30,[]⟩:St))) ?_)
 refine AW.t ?_
 have hR:=zS hH;subst hR
 exact retQ.i [] rfl (.t (zG (.g (zC .v (zC .v (zC .v (zC .nil (zC .nil (zC .v (zC .nil (zC .nil (zCn)))))))))) (zG (.c .v) (zGn))))
 replace hH:=condF hc hH
 refine AW.k (AW.q ?_)
 obtain ⟨x5,hx6,hH⟩:=zB hH
 refine AW.r (AO.pu T (d:=.g [e.segments,e.size,e.key,.s (List.map ze1 e.entrants),.s (List.map ze0 e.gone),e.segment,.s (List.map ze0 e.order),.s (List.map ze2 e.results)]) ?_)
 refine AO.s rfl (call_ok rfl 4 rfl rfl rfl (impl_copyEvent_ok _ _ (hx6)) rfl rfl rfl) ?_
 refine AO.s rfl (zA T rfl 8 rfl rfl rfl rfl rfl) ?_
 refine AO.se T [x5.segments,x5.size,x5.key,.R 4,.R 5,x5.segment,.R 6,.R 7] ?_
 refine AO.n (AW.le (Le.ct 0 0 (σ':=(⟨[(2,.p 2 0),(4,.R 3),(6,.p 8 0)],[(2,.box [(0:Int),(0:Int),(0:Int),.w 0 [],.w 0 [],(0:Int),.w 0 [],.w 0 []]),(3,.row 1 (List.map ze0 x3.1)),(4,.row 2 (List.map ze1 x5.entrants)),(5,.row 1 (List.map ze0 x5.gone)),(6,.row 1 (List.map ze0 x5.order)),(7,.row 2 (List.map ze6 x5.results)),(8,.box [x5.segments,x5.size,x5.key,.R 4,.R 5,x5.segment,.R 6,.R 7])],30,[]⟩:St))) ?_)
 refine AW.q (AW.r ?_)
 iterate 2 refine AO.pu T ?_
 refine AO.se T [x5.segments,x5.size,x5.key,.R 4,.R 5,x5.segment,.R 3,.R 7] ?_
 refine AO.n (AW.q (AW.r ?_))
 refine AO.pu T (d:=.g [x5.segments,x5.size,x5.key,.R 4,.R 5,x5.segment,.R 3,.R 7]) ?_
 refine AO.se T [x5.segments,x5.size,x5.key,.R 4,.R 5,x5.segment,.R 3,.R 7] ?_
 refine AO.pu T ?_
 refine AO.n (AW.t ?_)
 have hR:=zS hH;subst hR
 exact retQ.i [4,5,3,7] rfl (.t (zG (.g (zC .v (zC .v (zC .v (zC (.rowR rfl) (zC (.rowR rfl) (zC .v (zC (.rowR rfl) (zC (.rowR rfl) (zCn)))))))))) (zG (.c .v) (zGn))))

def impl_nextSkater_l1 (e:Event):List Int→Nat→Option Int
 | [],k1 =>
  some 0
 | y2::ys3,k1 =>
  (impl_isScored_p e y2).bind fun x12 =>
  cond (!x12)
   (some y2)
   (impl_nextSkater_l1 e ys3 (k1+1))
def impl_nextSkater_p (e:Event):Option Int :=
 impl_nextSkater_l1 e e.order 0
theorem impl_nextSkater_ok (e:Event) (r:Int) (hH:impl_nextSkater_p e=some r):SpecR Tryz.prog 45 [.g (ze4 e)] (.v (.int .i64 r)):=by
 refine zFn T Tryz.func45 rfl (by decide) rfl ?_
 refine AW.q (AW.r (AO.s rfl (zBx T rfl 1 rfl rfl rfl rfl) ?_))
 refine AO.pu T ?_
 refine AO.n ?_
 iterate 2 refine AW.q ?_
 refine AW.r ?_
 iterate 2 refine AO.pu T ?_
 refine AO.v rfl rfl (zL T rfl rfl rfl) ?_
 refine AO.pu T ?_
 refine AO.n (AW.b ?_)
 refine AW.loopS (fun s:Nat=>(⟨[(1,.p 1 0),(6,.s (List.map ze0 e.order)),(7,(e.order.length:Int)),(8,(s:Int))],[(1,.box [e.segments,e.size,e.key,.s (List.map ze1 e.entrants),.s (List.map ze0 e.gone),e.segment,.s (List.map ze0 e.order),.s (List.map ze2 e.results)])],18,[]⟩:St)) (fun s=>s ≤ e.order.length∧impl_nextSkater_l1 e (e.order.drop s) s=some r) (fun s=>e.order.length - s) 0 ⟨Nat.zero_le _,hH⟩ ?_ ?_
 exact Le.ct 0 0
 rintro k1 ⟨hk,hH⟩
 replace hH:impl_nextSkater_l1 e (e.order.drop k1) k1=some r:=hH
 try dsimp only
 refine AW.boundM (t:=6) (l:=e.order) rfl (fun hb5=>?_)
 rcases hd4:e.order.drop k1 with _ | ⟨y2,ys3⟩
 rw [hd4,impl_nextSkater_l1] at hH
 have hlt6:=drop_ge hd4
 refine AW.q (AW.r (AO.pu T ?_))
 refine AO.n (AW.q (AW.condF' (b:=decide ((k1:Int) < (e.order.length:Int))) rfl (rngF hlt6) ?_))
 refine AW.exit (AW.q (AW.r ?_))
 refine AO.pu T ?_
 refine AO.n (AW.t ?_)
 have hR:=zS hH;subst hR
 exact retQ.i [] rfl (.c (.c .v))
 rw [hd4,impl_nextSkater_l1] at hH
 have hlt6:=drop_lt hd4
 refine AW.q (AW.r (AO.pu T ?_))
 refine AO.n (AW.q (AW.condT' (b:=decide ((k1:Int) < (e.order.length:Int))) rfl (rngT hlt6) ?_))
 refine AW.k (AW.q ?_)
 refine AW.b (AW.q (AW.r ?_))
 refine AO.v rfl rfl (zX T rfl rfl rfl rfl rfl (zgD hd4) rfl) ?_
 iterate 2 refine AO.pu T ?_
 refine AO.n (AW.q ?_)
 obtain ⟨x12,hx13,hH⟩:=zB hH
 refine AW.r (AO.pu T (d:=.g [e.segments,e.size,e.key,.s (List.map ze1 e.entrants),.s (List.map ze0 e.gone),e.segment,.s (List.map ze0 e.order),.s (List.map ze2 e.results)]) ?_)
 refine AO.pu T ?_
 refine AO.v rfl rfl (zV rfl rfl rfl rfl (impl_isScored_ok _ _ _ (hx13)) rfl) ?_
 refine AO.pu T ?_
 refine AO.n (AW.c (b:=(!x12)) rfl (fun hc=>?_) (fun hc=>?_))
 replace hH:=condT hc hH
 refine AW.q (AW.r ?_)
 iterate 2 refine AO.pu T ?_
 refine AO.n (AW.t ?_)
 have hR:=zS hH;subst hR
 exact retQ.i [] rfl (.c (.c .v))
 replace hH:=condF hc hH
 refine AW.k (AW.r ?_)
 refine AO.v rfl rfl (zR rfl rfl rfl rfl (zK hlt6 hb5)) ?_
 refine AO.pu T ?_
 refine AO.n ?_
 refine ⟨k1+1,⟨Nat.succ_le_of_lt hlt6,(by rw [zds hd4];exact hH)⟩,(by have:=hlt6;dsimp only;omega),?_⟩
 exact Le.ct 0 0

def impl_GiveScore_l1 (e:Event) (score:Int) (x5:Event) (x7:Int):Nat→List Result→List Result→Int→Option ((Event × Bool))
 | 0,_,_,_=>none
 | k9+1,v25,v26,v27 =>
  cond (decide (v27 < (x5.results.length:Int)))
   ((getI v26 v27).bind fun x29 =>
   cond (x29.skater == x7)
    ((getI (v26.set v27.toNat x29) v27).bind fun x31 =>
    (getI x31.scores e.segment).bind fun x33 =>
    impl_GiveScore_l1 e score x5 x7 k9 ((v26.set v27.toNat x29).set v27.toNat (Result.mk x31.skater (x31.scores.set e.segment.toNat score))) ((v26.set v27.toNat x29).set v27.toNat (Result.mk x31.skater (x31.scores.set e.segment.toNat score))) (w64 (v27+1)))
    (impl_GiveScore_l1 e score x5 x7 k9 (v26.set v27.toNat x29) (v26.set v27.toNat x29) (w64 (v27+1))))
   ((impl_behindStep_p (Event.mk x5.segments x5.size x5.key x5.entrants x5.gone x5.segment x5.order v26)).bind fun x35 =>
   some (x35,true))
def impl_GiveScore_p (fuel:Nat) (e:Event) (score:Int):Option (Event × Bool) :=
 (impl_isRunning_p e).bind fun x1 =>
 (opt (!((!x1) || ((e.order.length:Int) == 0))) default (impl_within_p score 0 100000)).bind fun x3 =>
 cond (((!x1) || ((e.order.length:Int) == 0)) || (!x3))
  (some ((Event.mk 0 0 0 [] [] 0 [] []),false))
  ((impl_copyEvent_p e).bind fun x5 =>
  (impl_nextSkater_p e).bind fun x7 =>
  impl_GiveScore_l1 e score x5 x7 fuel x5.results x5.results 0)
theorem impl_GiveScore_ok (fuel:Nat) (e:Event) (score:Int) (r:(Event × Bool)) (hH:impl_GiveScore_p fuel e score=some r):SpecR Tryz.prog 18 [.g (ze4 e),score] (.t [.g (ze10 r.1),.v (.bool r.2)]):=by
 refine zFn T Tryz.func18 rfl (by decide) rfl ?_
 refine AW.q (AW.r (AO.s rfl (zBx T rfl 1 rfl rfl rfl rfl) ?_))
 refine AO.s rfl (zA T rfl 2 rfl rfl rfl rfl rfl) ?_
 refine AO.pu T ?_
 refine AO.n ?_
 iterate 2 refine AW.q ?_
 obtain ⟨x1,hx2,hH⟩:=zB hH
 obtain ⟨x3,hx4,hH⟩:=zB hH
 refine AW.r (AO.pu T (d:=.g [e.segments,e.size,e.key,.s (List.map ze1 e.entrants),.s (List.map ze0 e.gone),e.segment,.s (List.map ze0 e.order),.s (List.map ze2 e.results)]) ?_)
 refine AO.v rfl rfl (zV rfl rfl rfl rfl (impl_isRunning_ok _ _ (hx2)) rfl) ?_
 iterate 2 refine AO.pu T ?_
 refine AO.g T [] rfl trivial rfl rfl ?_
 refine AO.g T [14] rfl ⟨fun h=>h,trivial⟩ rfl rfl ?_
 refine AO.d [15] rfl ⟨fun h=>h,trivial⟩ (fun hg=>zL T rfl rfl rfl) rfl ?_
 refine AO.g T [16] rfl ⟨fun h=>h,trivial⟩ rfl rfl ?_
 refine AO.v rfl rfl (zO rfl rfl rfl rfl) ?_
 refine AO.pu T ?_
 refine AO.g T [] rfl trivial rfl rfl ?_
 refine AO.d [20] rfl ⟨fun h=>h,trivial⟩ (fun hg=>zV rfl rfl rfl rfl (impl_within_ok _ _ _ _ (optT hx4 hg)) rfl) rfl ?_
 refine AO.g T [21] rfl ⟨fun h=>h,trivial⟩ rfl rfl ?_
 refine AO.v rfl rfl (zO rfl rfl rfl rfl) ?_
 refine AO.n (AW.c (b:=(((!x1) || ((e.order.length:Int) == 0)) || (!x3))) rfl (fun hc=>?_) (fun hc=>?_))
 replace hH:=condT hc hH
 refine AW.q (AW.r (AO.pu T (d:=.g [(0:Int),(0:Int),(0:Int),.w 0 [],.w 0 [],(0:Int),.w 0 [],.w 0 []]) ?_))
 refine AO.se T [(0:Int),(0:Int),(0:Int),.w 0 [],.w 0 [],(0:Int),.w 0 [],.w 0 []] ?_
 refine AO.pu T ?_
 refine AO.n (AW.t ?_)
 have hR:=zS hH;subst hR
 exact retQ.i [] rfl (.t (zG (.g (zC .v (zC .v (zC .v (zC .nil (zC .nil (zC .v (zC .nil (zC .nil (zCn)))))))))) (zG (.c .v) (zGn))))
 replace hH:=condF hc hH
 refine AW.k (AW.q ?_)
 obtain ⟨x5,hx6,hH⟩:=zB hH
 obtain ⟨x7,hx8,hH⟩:=zB hH
 refine AW.drawn 5 3 [] mix (by kernel_rfl) rfl ?_
 refine AD.p T (d:=.g [e.segments,e.size,e.key,.s (List.map ze1 e.entrants),.s (List.map ze0 e.gone),e.segment,.s (List.map ze0 e.order),.s (List.map ze2 e.results)]) rfl rfl rfl ?_
 refine AD.q (FStep.call rfl rfl rfl rfl rfl (impl_copyEvent_ok _ _ (hx6)) rfl rfl) (impT_names _ _) (impT_le _ _) rfl ?_
 refine AD.p T (d:=.g [e.segments,e.size,e.key,.s (List.map ze1 e.entrants),.s (List.map ze0 e.gone),e.segment,.s (List.map ze0 e.order),.s (List.map ze2 e.results)]) rfl rfl rfl ?_
 refine AD.w rfl rfl (zV rfl rfl rfl rfl (impl_nextSkater_ok _ _ (hx8)) rfl) ?_
 refine AD.q (FStep.alloc T rfl rfl rfl rfl rfl rfl) (by simp [namesIn]) (Nat.le_succ _) rfl ?_
 refine AD.nil (AO.se T [x5.segments,x5.size,x5.key,.R 3,.R 4,x5.segment,.R 5,.R 6] ?_)
 refine AO.pu T ?_
 refine AO.n (AW.le (Le.ct 0 0 (σ':=(⟨[(1,score),(2,.p 1 0),(4,.p 2 0),(6,.p 7 0),(7,x7)],[(1,.box [e.segments,e.size,e.key,.s (List.map ze1 e.entrants),.s (List.map ze0 e.gone),e.segment,.s (List.map ze0 e.order),.s (List.map ze2 e.results)]),(2,.box [(0:Int),(0:Int),(0:Int),.w 0 [],.w 0 [],(0:Int),.w 0 [],.w 0 []]),(3,.row 2 (List.map ze1 x5.entrants)),(4,.row 1 (List.map ze0 x5.gone)),(5,.row 1 (List.map ze0 x5.order)),(6,.row 2 (List.map ze6 x5.results)),(7,.box [x5.segments,x5.size,x5.key,.R 3,.R 4,x5.segment,.R 5,.R 6])],54,[]⟩:St))) ?_)
 iterate 2 refine AW.q ?_
 refine AW.r ?_
 iterate 2 refine AO.pu T ?_
 refine AO.v rfl rfl (len_row_ok T rfl rfl rfl rfl) ?_
 refine AO.pu T ?_
 refine AO.n (AW.b ?_)
 refine AW.loopS (fun s:Nat × (List Result) × (List Result) × Int=>(⟨[(1,score),(2,.p 1 0),(4,.p 2 0),(6,.p 7 0),(7,x7),(30,.R 6),(31,(x5.results.length:Int)),(32,s.2.2.2)],[(1,.box [e.segments,e.size,e.key,.s (List.map ze1 e.entrants),.s (List.map ze0 e.gone),e.segment,.s (List.map ze0 e.order),.s (List.map ze2 e.results)]),(2,.box [(0:Int),(0:Int),(0:Int),.w 0 [],.w 0 [],(0:Int),.w 0 [],.w 0 []]),(3,.row 2 (List.map ze1 x5.entrants)),(4,.row 1 (List.map ze0 x5.gone)),(5,.row 1 (List.map ze0 x5.order)),(6,.row 2 (List.map ze6 s.2.2.1)),(7,.box [x5.segments,x5.size,x5.key,.R 3,.R 4,x5.segment,.R 5,.R 6])],54,[]⟩:St)) (fun s=>impl_GiveScore_l1 e score x5 x7 s.1 s.2.1 s.2.2.1 s.2.2.2=some r) (fun s=>s.1) (fuel,x5.results,x5.results,0) hH ?_ ?_
 exact Le.ct 0 0
 rintro ⟨k9,v25,v26,v27⟩ hH
 replace hH:impl_GiveScore_l1 e score x5 x7 k9 v25 v26 v27=some r:=hH
 try dsimp only
 rcases k9 with _ | k9
 cases (show none=some _ from hH)
 rw [impl_GiveScore_l1] at hH
 refine AW.q (AW.r (AO.pu T ?_))
 refine AO.n (AW.q (AW.c (b:=decide (v27 < (x5.results.length:Int))) rfl (fun hc=>?_) (fun hc=>?_)))
 replace hH:=condT hc hH
 refine AW.k (AW.q ?_)
 refine AW.b (AW.q ?_)
 obtain ⟨x29,hx30,hH⟩:=zB hH
 refine AW.le (Le.openM 6 v27.toNat 1 14 rfl (zgG (hx30)) rfl rfl) ?_
 refine AW.r (AO.pu T ?_)
 refine AO.v rfl rfl (ix_lent_ok T rfl rfl rfl rfl rfl rfl (hx30)) ?_
 refine AO.v rfl rfl (load_lentS_ok T rfl rfl rfl rfl rfl (zgG (hx30)) rfl rfl rfl) ?_
 refine AO.s rfl (zA T rfl 15 rfl rfl rfl rfl rfl) ?_
 refine AO.pu T ?_
 refine AO.se T [x29.skater,.R 14] ?_
 refine AO.n (AW.q (AW.r ?_))
 iterate 4 refine AO.pu T ?_
 refine AO.le (Le.closeM 6 v27.toNat 1 14 rfl rfl (zgG (hx30)) rfl (u':=x29) rfl) ?_
 refine AO.n (AW.c (b:=(x29.skater == x7)) rfl (fun hc=>?_) (fun hc=>?_))
 replace hH:=condT hc hH
 obtain ⟨x31,hx32,hH⟩:=zB hH
 obtain ⟨x33,hx34,hH⟩:=zB hH
 refine AW.le (Le.openM 6 v27.toNat 1 16 rfl (zgG (hx32)) rfl rfl) ?_
 refine AW.drawn 9 17 [] mix (by kernel_rfl) rfl ?_
 iterate 3 refine AD.p T rfl rfl rfl ?_
 refine AD.w rfl rfl (ix_lent_ok T rfl rfl rfl rfl rfl rfl (hx32)) ?_
 refine AD.p T rfl rfl rfl ?_
 refine AD.w rfl rfl (load_lent_ok T rfl rfl rfl rfl rfl) ?_
 iterate 3 refine AD.p T rfl rfl rfl ?_
 refine AD.nil (AO.v rfl rfl (zXr T rfl rfl rfl rfl rfl rfl (hx34)) ?_)
 refine AO.s rfl (zSr T rfl rfl rfl rfl rfl (zgG (hx34)) rfl rfl rfl rfl (u':=score) rfl rfl) ?_
 refine AO.le (Le.closeM 6 v27.toNat 1 16 rfl rfl (zgG (hx32)) rfl (u':=(Result.mk x31.skater (x31.scores.set e.segment.toNat score))) rfl) ?_
 refine AO.n (AW.r ?_)
 refine AO.v rfl rfl (zW rfl rfl rfl rfl) ?_
 refine AO.pu T ?_
 refine AO.n ?_
 refine ⟨(k9,((v26.set v27.toNat x29).set v27.toNat (Result.mk x31.skater (x31.scores.set e.segment.toNat score))),((v26.set v27.toNat x29).set v27.toNat (Result.mk x31.skater (x31.scores.set e.segment.toNat score))),w64 (v27+1)),hH,Nat.lt_succ_self _,?_⟩
 exact Le.ct 0 0
 replace hH:=condF hc hH
 refine AW.k (AW.r ?_)
 refine AO.v rfl rfl (zW rfl rfl rfl rfl) ?_
 refine AO.pu T ?_
 refine AO.n ?_
 refine ⟨(k9,(v26.set v27.toNat x29),(v26.set v27.toNat x29),w64 (v27+1)),hH,Nat.lt_succ_self _,?_⟩
 exact Le.ct 0 0
 replace hH:=condF hc hH
 refine AW.exit (AW.q ?_)
 obtain ⟨x35,hx36,hH⟩:=zB hH
 refine AW.r (AO.pu T (d:=.g [x5.segments,x5.size,x5.key,.R 3,.R 4,x5.segment,.R 5,.R 6]) ?_)
 refine AO.s rfl (zM rfl 17 rfl rfl (es:=[.g (ze10 (Event.mk x5.segments x5.size x5.key x5.entrants x5.gone x5.segment x5.order v26))]) (outs:=[.u]) (ids:=[3,4,5,6]) (by exact zG (.g (zC .v (zC .v (zC .v (zC (.rowR rfl) (zC (.rowR rfl) (zC .v (zC (.rowR rfl) (zC (.rowR rfl) (zCn)))))))))) (zGn)) (by decide) (.inr (by exact (show ([]:List Nat).Nodup∧∀ i ∈ ([]:List Nat),i ∈ ([3,4,5,6]:List Nat) from by decide))) (by rfl) (impl_behindStep_ok _ _ (hx36)) rfl (by rfl) rfl) ?_
 refine AO.se T [x35.segments,x35.size,x35.key,.R 17,.R 18,x35.segment,.R 19,.R 20] ?_
 refine AO.pu T ?_
 refine AO.n (AW.t ?_)
 have hR:=zS hH;subst hR
 exact retQ.i [17,18,19,20] rfl (.t (zG (.g (zC .v (zC .v (zC .v (zC (.rowR rfl) (zC (.rowR rfl) (zC .v (zC (.rowR rfl) (zC (.rowR rfl) (zCn)))))))))) (zG (.c .v) (zGn))))

def impl_doStep_p (fuel:Nat) (e:Event) (x:Step):Option (Event × Bool) :=
 cond (x.kind == 1)
  ((impl_EnterSkater_p fuel e (Entrant.mk x.skater x.number)).bind fun x1 =>
  some ((Event.mk x1.1.segments x1.1.size x1.1.key x1.1.entrants x1.1.gone x1.1.segment x1.1.order x1.1.results),x1.2))
  (cond (x.kind == 2)
   ((impl_LeaveEvent_p e x.skater).bind fun x3 =>
   some ((Event.mk x3.1.segments x3.1.size x3.1.key x3.1.entrants x3.1.gone x3.1.segment x3.1.order x3.1.results),x3.2))
   (cond (x.kind == 3)
    ((impl_BeginSegment_p fuel e).bind fun x5 =>
    some ((Event.mk x5.1.segments x5.1.size x5.1.key x5.1.entrants x5.1.gone x5.1.segment x5.1.order x5.1.results),x5.2))
    (cond (x.kind == 4)
     ((impl_GiveScore_p fuel e x.number).bind fun x7 =>
     some ((Event.mk x7.1.segments x7.1.size x7.1.key x7.1.entrants x7.1.gone x7.1.segment x7.1.order x7.1.results),x7.2))
     (some ((Event.mk 0 0 0 [] [] 0 [] []),false)))))
theorem impl_doStep_ok (fuel:Nat) (e:Event) (x:Step) (r:(Event × Bool)) (hH:impl_doStep_p fuel e x=some r):SpecR Tryz.prog 69 [.g (ze4 e),.g (ze7 x)] (.t [.g (ze10 r.1),.v (.bool r.2)]):=by
 refine zFn T Tryz.func69 rfl (by decide) rfl ?_
 refine AW.q (AW.r (AO.s rfl (zBx T rfl 1 rfl rfl rfl rfl) ?_))
 refine AO.s rfl (zBx T rfl 2 rfl rfl rfl rfl) ?_
 refine AO.s rfl (zA T rfl 3 rfl rfl rfl rfl rfl) ?_
 refine AO.pu T ?_
 refine AO.n ?_
 iterate 2 refine AW.q ?_
 refine AW.r ?_
 iterate 2 refine AO.pu T ?_
 refine AO.n (AW.b ?_)
 refine AW.q (AW.r ?_)
 iterate 2 refine AO.pu T ?_
 refine AO.n (AW.c (b:=(x.kind == 1)) rfl (fun hc=>?_) (fun hc=>?_))
 replace hH:=condT hc hH
 refine AW.q ?_
 obtain ⟨x1,hx2,hH⟩:=zB hH
 refine AW.r (AO.pu T (d:=.g [e.segments,e.size,e.key,.s (List.map ze1 e.entrants),.s (List.map ze0 e.gone),e.segment,.s (List.map ze0 e.order),.s (List.map ze2 e.results)]) ?_)
 iterate 4 refine AO.pu T ?_
 refine AO.pu T (d:=.g [x.skater,x.number]) ?_
 refine AO.s rfl (call_ok rfl 4 rfl rfl rfl (impl_EnterSkater_ok fuel _ _ _ (hx2)) rfl rfl rfl) ?_
 refine AO.pu T (d:=.g [x1.1.segments,x1.1.size,x1.1.key,.R 4,.R 5,x1.1.segment,.R 6,.R 7]) ?_
 refine AO.pu T ?_
 refine AO.se T [x1.1.segments,x1.1.size,x1.1.key,.R 4,.R 5,x1.1.segment,.R 6,.R 7] ?_
 refine AO.pu T ?_
 refine AO.n (AW.t ?_)
 have hR:=zS hH;subst hR
 exact retQ.i [4,5,6,7] rfl (.t (zG (.g (zC .v (zC .v (zC .v (zC (.rowR rfl) (zC (.rowR rfl) (zC .v (zC (.rowR rfl) (zC (.rowR rfl) (zCn)))))))))) (zG (.c .v) (zGn))))
 replace hH:=condF hc hH
 refine AW.q (AW.r ?_)
 iterate 2 refine AO.pu T ?_
 refine AO.n (AW.c (b:=(x.kind == 2)) rfl (fun hc=>?_) (fun hc=>?_))
 replace hH:=condT hc hH
 refine AW.q ?_
 obtain ⟨x3,hx4,hH⟩:=zB hH
 refine AW.r (AO.pu T (d:=.g [e.segments,e.size,e.key,.s (List.map ze1 e.entrants),.s (List.map ze0 e.gone),e.segment,.s (List.map ze0 e.order),.s (List.map ze2 e.results)]) ?_)
 iterate 2 refine AO.pu T ?_
 refine AO.s rfl (call_ok rfl 8 rfl rfl rfl (impl_LeaveEvent_ok _ _ _ (hx4)) rfl rfl rfl) ?_
 refine AO.pu T (d:=.g [x3.1.segments,x3.1.size,x3.1.key,.R 8,.R 9,x3.1.segment,.R 10,.R 11]) ?_
 refine AO.pu T ?_
 refine AO.se T [x3.1.segments,x3.1.size,x3.1.key,.R 8,.R 9,x3.1.segment,.R 10,.R 11] ?_
 refine AO.pu T ?_
 refine AO.n (AW.t ?_)
 have hR:=zS hH;subst hR
 exact retQ.i [8,9,10,11] rfl (.t (zG (.g (zC .v (zC .v (zC .v (zC (.rowR rfl) (zC (.rowR rfl) (zC .v (zC (.rowR rfl) (zC (.rowR rfl) (zCn)))))))))) (zG (.c .v) (zGn))))
 replace hH:=condF hc hH
 refine AW.q (AW.r ?_)
 iterate 2 refine AO.pu T ?_
 refine AO.n (AW.c (b:=(x.kind == 3)) rfl (fun hc=>?_) (fun hc=>?_))
 replace hH:=condT hc hH
 refine AW.q ?_
 obtain ⟨x5,hx6,hH⟩:=zB hH
 refine AW.r (AO.pu T (d:=.g [e.segments,e.size,e.key,.s (List.map ze1 e.entrants),.s (List.map ze0 e.gone),e.segment,.s (List.map ze0 e.order),.s (List.map ze2 e.results)]) ?_)
 refine AO.s rfl (call_ok rfl 12 rfl rfl rfl (impl_BeginSegment_ok fuel _ _ (hx6)) rfl rfl rfl) ?_
 refine AO.pu T (d:=.g [x5.1.segments,x5.1.size,x5.1.key,.R 12,.R 13,x5.1.segment,.R 14,.R 15]) ?_
 refine AO.pu T ?_
 refine AO.se T [x5.1.segments,x5.1.size,x5.1.key,.R 12,.R 13,x5.1.segment,.R 14,.R 15] ?_
 refine AO.pu T ?_
 refine AO.n (AW.t ?_)
 have hR:=zS hH;subst hR
 exact retQ.i [12,13,14,15] rfl (.t (zG (.g (zC .v (zC .v (zC .v (zC (.rowR rfl) (zC (.rowR rfl) (zC .v (zC (.rowR rfl) (zC (.rowR rfl) (zCn)))))))))) (zG (.c .v) (zGn))))
 replace hH:=condF hc hH
 refine AW.q (AW.r ?_)
 iterate 2 refine AO.pu T ?_
 refine AO.n (AW.c (b:=(x.kind == 4)) rfl (fun hc=>?_) (fun hc=>?_))
 replace hH:=condT hc hH
 refine AW.q ?_
 obtain ⟨x7,hx8,hH⟩:=zB hH
 refine AW.r (AO.pu T (d:=.g [e.segments,e.size,e.key,.s (List.map ze1 e.entrants),.s (List.map ze0 e.gone),e.segment,.s (List.map ze0 e.order),.s (List.map ze2 e.results)]) ?_)
 iterate 2 refine AO.pu T ?_
 refine AO.s rfl (call_ok rfl 16 rfl rfl rfl (impl_GiveScore_ok fuel _ _ _ (hx8)) rfl rfl rfl) ?_
 refine AO.pu T (d:=.g [x7.1.segments,x7.1.size,x7.1.key,.R 16,.R 17,x7.1.segment,.R 18,.R 19]) ?_
 refine AO.pu T ?_
 refine AO.se T [x7.1.segments,x7.1.size,x7.1.key,.R 16,.R 17,x7.1.segment,.R 18,.R 19] ?_
 refine AO.pu T ?_
 refine AO.n (AW.t ?_)
 have hR:=zS hH;subst hR
 exact retQ.i [16,17,18,19] rfl (.t (zG (.g (zC .v (zC .v (zC .v (zC (.rowR rfl) (zC (.rowR rfl) (zC .v (zC (.rowR rfl) (zC (.rowR rfl) (zCn)))))))))) (zG (.c .v) (zGn))))
 replace hH:=condF hc hH
 refine AW.k (AW.q (AW.r ?_))
 refine AO.pu T (d:=.g [(0:Int),(0:Int),(0:Int),.w 0 [],.w 0 [],(0:Int),.w 0 [],.w 0 []]) ?_
 refine AO.se T [(0:Int),(0:Int),(0:Int),.w 0 [],.w 0 [],(0:Int),.w 0 [],.w 0 []] ?_
 refine AO.pu T ?_
 refine AO.n (AW.t ?_)
 have hR:=zS hH;subst hR
 exact retQ.i [] rfl (.t (zG (.g (zC .v (zC .v (zC .v (zC .nil (zC .nil (zC .v (zC .nil (zC .nil (zCn)))))))))) (zG (.c .v) (zGn))))

def impl_RunSteps_l1 (l:List Step) (fuel:Nat):List Step→Nat→Int→Int→Int→List Entrant→List Int→Int→List Int→List Result→Option ((Event × Int × Bool))
 | [],k5,v23,v24,v25,v26,v27,v28,v29,v30 =>
  some ((Event.mk v23 v24 v25 v26 v27 v28 v29 v30),(l.length:Int),true)
 | y6::ys7,k5,v23,v24,v25,v26,v27,v28,v29,v30 =>
  (impl_doStep_p fuel (Event.mk v23 v24 v25 v26 v27 v28 v29 v30) y6).bind fun x32 =>
  cond (!x32.2)
   (some ((Event.mk v23 v24 v25 v26 v27 v28 v29 v30),(k5:Int),true))
   (impl_RunSteps_l1 l fuel ys7 (k5+1) x32.1.segments x32.1.size x32.1.key x32.1.entrants x32.1.gone x32.1.segment x32.1.order x32.1.results)
def impl_RunSteps_p (fuel:Nat) (e:Event) (l:List Step):Option (Event × Int × Bool) :=
 (impl_IsEvent_p e).bind fun x1 =>
 cond ((!x1) || decide ((l.length:Int) > 120))
  (some ((Event.mk 0 0 0 [] [] 0 [] []),0,false))
  ((impl_copyEvent_p e).bind fun x3 =>
  impl_RunSteps_l1 l fuel l 0 x3.segments x3.size x3.key x3.entrants x3.gone x3.segment x3.order x3.results)
theorem impl_RunSteps_ok (fuel:Nat) (e:Event) (l:List Step) (r:(Event × Int × Bool)) (hH:impl_RunSteps_p fuel e l=some r):SpecR Tryz.prog 27 [.g (ze4 e),.s (List.map ze7 l)] (.t [.g (ze10 r.1),.v (.int .i64 r.2.1),.v (.bool r.2.2)]):=by
 refine zFn T Tryz.func27 rfl (by decide) rfl ?_
 refine AW.q (AW.r (AO.s rfl (zBx T rfl 1 rfl rfl rfl rfl) ?_))
 refine AO.s rfl (zA T rfl 2 rfl rfl rfl rfl rfl) ?_
 iterate 2 refine AO.pu T ?_
 refine AO.n ?_
 iterate 2 refine AW.q ?_
 obtain ⟨x1,hx2,hH⟩:=zB hH
 refine AW.r (AO.pu T (d:=.g [e.segments,e.size,e.key,.s (List.map ze1 e.entrants),.s (List.map ze0 e.gone),e.segment,.s (List.map ze0 e.order),.s (List.map ze2 e.results)]) ?_)
 refine AO.v rfl rfl (zV rfl rfl rfl rfl (impl_IsEvent_ok _ _ (hx2)) rfl) ?_
 iterate 2 refine AO.pu T ?_
 refine AO.g T [] rfl trivial rfl rfl ?_
 refine AO.d [16] rfl ⟨fun h=>h,trivial⟩ (fun hg=>zL T rfl rfl rfl) rfl ?_
 refine AO.g T [17] rfl ⟨fun h=>h,trivial⟩ rfl rfl ?_
 refine AO.v rfl rfl (zO rfl rfl rfl rfl) ?_
 refine AO.n (AW.c (b:=((!x1) || decide ((l.length:Int) > 120))) rfl (fun hc=>?_) (fun hc=>?_))
 replace hH:=condT hc hH
 refine AW.q (AW.r (AO.pu T (d:=.g [(0:Int),(0:Int),(0:Int),.w 0 [],.w 0 [],(0:Int),.w 0 [],.w 0 []]) ?_))
 refine AO.se T [(0:Int),(0:Int),(0:Int),.w 0 [],.w 0 [],(0:Int),.w 0 [],.w 0 []] ?_
 iterate 2 refine AO.pu T ?_
 refine AO.n (AW.t ?_)
 have hR:=zS hH;subst hR
 exact retQ.i [] rfl (.t (zG (.g (zC .v (zC .v (zC .v (zC .nil (zC .nil (zC .v (zC .nil (zC .nil (zCn)))))))))) (zG (.c .v) (zG (.c .v) (zGn)))))
 replace hH:=condF hc hH
 refine AW.k (AW.q ?_)
 obtain ⟨x3,hx4,hH⟩:=zB hH
 refine AW.r (AO.pu T (d:=.g [e.segments,e.size,e.key,.s (List.map ze1 e.entrants),.s (List.map ze0 e.gone),e.segment,.s (List.map ze0 e.order),.s (List.map ze2 e.results)]) ?_)
 refine AO.s rfl (call_ok rfl 3 rfl rfl rfl (impl_copyEvent_ok _ _ (hx4)) rfl rfl rfl) ?_
 refine AO.s rfl (zA T rfl 7 rfl rfl rfl rfl rfl) ?_
 refine AO.se T [x3.segments,x3.size,x3.key,.R 3,.R 4,x3.segment,.R 5,.R 6] ?_
 refine AO.n ?_
 iterate 2 refine AW.q ?_
 refine AW.r (AO.pu T ?_)
 refine AO.v rfl rfl (zL T rfl rfl rfl) ?_
 refine AO.pu T ?_
 refine AO.n (AW.b ?_)
 refine AW.loopS (fun s:Nat × Int × Int × Int × (List Entrant) × (List Int) × Int × (List Int) × (List Result)=>(⟨[(1,.s (List.map ze7 l)),(4,.p 2 0),(7,.p 7 0),(23,.s (List.map ze7 l)),(24,(l.length:Int)),(25,(s.1:Int))],[(2,.box [(0:Int),(0:Int),(0:Int),.w 0 [],.w 0 [],(0:Int),.w 0 [],.w 0 []]),(3,.row 2 (List.map ze1 s.2.2.2.2.1)),(4,.row 1 (List.map ze0 s.2.2.2.2.2.1)),(5,.row 1 (List.map ze0 s.2.2.2.2.2.2.2.1)),(6,.row 2 (List.map ze6 s.2.2.2.2.2.2.2.2)),(7,.box [s.2.1,s.2.2.1,s.2.2.2.1,.R 3,.R 4,s.2.2.2.2.2.2.1,.R 5,.R 6])],45,[]⟩:St)) (fun s=>s.1 ≤ l.length∧impl_RunSteps_l1 l fuel (l.drop s.1) s.1 s.2.1 s.2.2.1 s.2.2.2.1 s.2.2.2.2.1 s.2.2.2.2.2.1 s.2.2.2.2.2.2.1 s.2.2.2.2.2.2.2.1 s.2.2.2.2.2.2.2.2=some r) (fun s=>l.length - s.1) (0,x3.segments,x3.size,x3.key,x3.entrants,x3.gone,x3.segment,x3.order,x3.results) ⟨Nat.zero_le _,hH⟩ ?_ ?_
 exact Le.ct 0 0
 rintro ⟨k5,v23,v24,v25,v26,v27,v28,v29,v30⟩ ⟨hk,hH⟩
 replace hH:impl_RunSteps_l1 l fuel (l.drop k5) k5 v23 v24 v25 v26 v27 v28 v29 v30=some r:=hH
 try dsimp only
 refine AW.boundM (t:=1) (l:=l) rfl (fun hb9=>?_)
 rcases hd8:l.drop k5 with _ | ⟨y6,ys7⟩
 rw [hd8,impl_RunSteps_l1] at hH
 have hlt10:=drop_ge hd8
 refine AW.q (AW.r (AO.pu T ?_))
 refine AO.n (AW.q (AW.condF' (b:=decide ((k5:Int) < (l.length:Int))) rfl (rngF hlt10) ?_))
 refine AW.exit (AW.q (AW.r ?_))
 refine AO.pu T (d:=.g [v23,v24,v25,.R 3,.R 4,v28,.R 5,.R 6]) ?_
 refine AO.pu T ?_
 refine AO.v rfl rfl (zL T rfl rfl rfl) ?_
 refine AO.se T [v23,v24,v25,.R 3,.R 4,v28,.R 5,.R 6] ?_
 iterate 2 refine AO.pu T ?_
 refine AO.n (AW.t ?_)
 have hR:=zS hH;subst hR
 exact retQ.i [3,4,5,6] rfl (.t (zG (.g (zC .v (zC .v (zC .v (zC (.rowR rfl) (zC (.rowR rfl) (zC .v (zC (.rowR rfl) (zC (.rowR rfl) (zCn)))))))))) (zG (.c .v) (zG (.c .v) (zGn)))))
 rw [hd8,impl_RunSteps_l1] at hH
 have hlt10:=drop_lt hd8
 refine AW.q (AW.r (AO.pu T ?_))
 refine AO.n (AW.q (AW.condT' (b:=decide ((k5:Int) < (l.length:Int))) rfl (rngT hlt10) ?_))
 refine AW.k (AW.q ?_)
 refine AW.b (AW.q (AW.r ?_))
 refine AO.pu T ?_
 refine AO.v rfl rfl (zX T rfl rfl rfl rfl rfl (zgD hd8) rfl) ?_
 refine AO.pu T (d:=.g [y6.kind,y6.skater,y6.number]) ?_
 refine AO.s rfl (zA T rfl 20 rfl rfl rfl rfl rfl) ?_
 refine AO.pu T ?_
 refine AO.se T [y6.kind,y6.skater,y6.number] ?_
 refine AO.n (AW.q ?_)
 obtain ⟨x32,hx33,hH⟩:=zB hH
 refine AW.r (AO.pu T (d:=.g [v23,v24,v25,.R 3,.R 4,v28,.R 5,.R 6]) ?_)
 refine AO.pu T (d:=.g [y6.kind,y6.skater,y6.number]) ?_
 refine AO.s rfl (callL_ok rfl 21 rfl rfl (es:=[.g (ze4 (Event.mk v23 v24 v25 v26 v27 v28 v29 v30)),.g (ze7 y6)]) (by exact ⟨lend_g (LendL.cons (.free rfl) (LendL.cons (.free rfl) (LendL.cons (.free rfl) (LendL.cons ((.rowR rfl (.map fun y=>.vs rfl))) (LendL.cons ((.rowR rfl (.map fun y=>.vs rfl))) (LendL.cons (.free rfl) (LendL.cons ((.rowR rfl (.map fun y=>.vs rfl))) (LendL.cons ((.rowR rfl (.map fun y=>frzResult y))) LendL.nil)))))))),.free rfl,trivial⟩) (impl_doStep_ok fuel _ _ _ (hx33)) (zfree_t (zfl (.cons (zfree_g (zfl (.cons (zfree_v _) (.cons (zfree_v _) (.cons (zfree_v _) (.cons (zfree_map (fun y=>(.cons (zfree_v _) (.cons (zfree_v _) .nil)))) (.cons (zfree_map (fun y=>(.cons (zfree_v _) .nil))) (.cons (zfree_v _) (.cons (zfree_map (fun y=>(.cons (zfree_v _) .nil))) (.cons (zfree_map (fun y=>(.cons (zfree_v _) (.cons (zfree_map (fun y=>(.cons (zfree_v _) .nil))) .nil)))) .nil)))))))))) (.cons (zfree_v _) .nil)))) rfl rfl rfl) ?_
 refine AO.pu T ?_
 refine AO.pu T (d:=.g [x32.1.segments,x32.1.size,x32.1.key,.R 21,.R 22,x32.1.segment,.R 23,.R 24]) ?_
 refine AO.pu T ?_
 refine AO.s rfl (zA T rfl 25 rfl rfl rfl rfl rfl) ?_
 refine AO.se T [x32.1.segments,x32.1.size,x32.1.key,.R 21,.R 22,x32.1.segment,.R 23,.R 24] ?_
 refine AO.pu T ?_
 refine AO.n ?_
 iterate 2 refine AW.q ?_
 refine AW.r ?_
 iterate 2 refine AO.pu T ?_
 refine AO.n (AW.c (b:=(!x32.2)) rfl (fun hc=>?_) (fun hc=>?_))
 replace hH:=condT hc hH
 refine AW.q (AW.r (AO.pu T (d:=.g [v23,v24,v25,.R 3,.R 4,v28,.R 5,.R 6]) ?_))
 refine AO.pu T ?_
 refine AO.se T [v23,v24,v25,.R 3,.R 4,v28,.R 5,.R 6] ?_
 iterate 2 refine AO.pu T ?_
 refine AO.n (AW.t ?_)
 have hR:=zS hH;subst hR
 exact retQ.i [3,4,5,6] rfl (.t (zG (.g (zC .v (zC .v (zC .v (zC (.rowR rfl) (zC (.rowR rfl) (zC .v (zC (.rowR rfl) (zC (.rowR rfl) (zCn)))))))))) (zG (.c .v) (zG (.c .v) (zGn)))))
 replace hH:=condF hc hH
 refine AW.k (AW.r ?_)
 refine AO.pu T (d:=.g [x32.1.segments,x32.1.size,x32.1.key,.R 21,.R 22,x32.1.segment,.R 23,.R 24]) ?_
 refine AO.se T [x32.1.segments,x32.1.size,x32.1.key,.R 21,.R 22,x32.1.segment,.R 23,.R 24] ?_
 refine AO.n (AW.r ?_)
 refine AO.v rfl rfl (zR rfl rfl rfl rfl (zK hlt10 hb9)) ?_
 refine AO.pu T ?_
 refine AO.n ?_
 refine ⟨(k5+1,x32.1.segments,x32.1.size,x32.1.key,x32.1.entrants,x32.1.gone,x32.1.segment,x32.1.order,x32.1.results),⟨Nat.succ_le_of_lt hlt10,(by rw [zds hd8];exact hH)⟩,(by have:=hlt10;dsimp only;omega),?_⟩
 refine Le.trans (Le.ct 21 3 (σ':=(⟨[(1,.s (List.map ze7 l)),(4,.p 2 0),(7,.p 7 0),(23,.s (List.map ze7 l)),(24,(l.length:Int)),(25,((k5+1:Nat):Int))],[(2,.box [(0:Int),(0:Int),(0:Int),.w 0 [],.w 0 [],(0:Int),.w 0 [],.w 0 []]),(3,.row 2 (List.map ze1 x32.1.entrants)),(7,.box [x32.1.segments,x32.1.size,x32.1.key,.R 3,.R 22,x32.1.segment,.R 23,.R 24]),(22,.row 1 (List.map ze0 x32.1.gone)),(23,.row 1 (List.map ze0 x32.1.order)),(24,.row 2 (List.map ze6 x32.1.results))],45,[]⟩:St))) ?_
 refine Le.trans (Le.ct 22 4 (σ':=(⟨[(1,.s (List.map ze7 l)),(4,.p 2 0),(7,.p 7 0),(23,.s (List.map ze7 l)),(24,(l.length:Int)),(25,((k5+1:Nat):Int))],[(2,.box [(0:Int),(0:Int),(0:Int),.w 0 [],.w 0 [],(0:Int),.w 0 [],.w 0 []]),(3,.row 2 (List.map ze1 x32.1.entrants)),(4,.row 1 (List.map ze0 x32.1.gone)),(7,.box [x32.1.segments,x32.1.size,x32.1.key,.R 3,.R 4,x32.1.segment,.R 23,.R 24]),(23,.row 1 (List.map ze0 x32.1.order)),(24,.row 2 (List.map ze6 x32.1.results))],45,[]⟩:St))) ?_
 refine Le.trans (Le.ct 23 5 (σ':=(⟨[(1,.s (List.map ze7 l)),(4,.p 2 0),(7,.p 7 0),(23,.s (List.map ze7 l)),(24,(l.length:Int)),(25,((k5+1:Nat):Int))],[(2,.box [(0:Int),(0:Int),(0:Int),.w 0 [],.w 0 [],(0:Int),.w 0 [],.w 0 []]),(3,.row 2 (List.map ze1 x32.1.entrants)),(4,.row 1 (List.map ze0 x32.1.gone)),(5,.row 1 (List.map ze0 x32.1.order)),(7,.box [x32.1.segments,x32.1.size,x32.1.key,.R 3,.R 4,x32.1.segment,.R 5,.R 24]),(24,.row 2 (List.map ze6 x32.1.results))],45,[]⟩:St))) ?_
 exact Le.ct 24 6

def spec_l1Rising_l1 (l:List Int) (lo:Int) (hi:Int):List Int→Nat→Option Bool
 | [],k1 =>
  some true
 | y2::ys3,k1 =>
  (spec_l1In_p y2 lo hi).bind fun x16 =>
  (opt ((!(!x16)) && decide ((k1:Int) > 0)) default (getI l (w64 ((k1:Int) - 1)))).bind fun x18 =>
  cond ((!x16) || (decide ((k1:Int) > 0) && decide (x18 ≥ y2)))
   (some false)
   (spec_l1Rising_l1 l lo hi ys3 (k1+1))
def spec_l1Rising_p (l:List Int) (lo:Int) (hi:Int):Option Bool :=
 spec_l1Rising_l1 l lo hi l 0
theorem spec_l1Rising_ok (l:List Int) (lo:Int) (hi:Int) (r:Bool) (hH:spec_l1Rising_p l lo hi=some r):SpecR Tryz.prog 121 [.s (List.map ze0 l),lo,hi] (.v (.bool r)):=by
 refine zFn T Tryz.func121 rfl (by decide) rfl ?_
 refine AW.q (AW.r (AO.pu T ?_))
 refine AO.n ?_
 iterate 2 refine AW.q ?_
 refine AW.r (AO.pu T ?_)
 refine AO.v rfl rfl (zL T rfl rfl rfl) ?_
 refine AO.pu T ?_
 refine AO.n (AW.b ?_)
 refine AW.loopS (fun s:Nat=>(⟨[(0,.s (List.map ze0 l)),(1,lo),(2,hi),(9,.s (List.map ze0 l)),(10,(l.length:Int)),(11,(s:Int))],[],35,[]⟩:St)) (fun s=>s ≤ l.length∧spec_l1Rising_l1 l lo hi (l.drop s) s=some r) (fun s=>l.length - s) 0 ⟨Nat.zero_le _,hH⟩ ?_ ?_
 exact Le.ct 0 0
 rintro k1 ⟨hk,hH⟩
 replace hH:spec_l1Rising_l1 l lo hi (l.drop k1) k1=some r:=hH
 try dsimp only
 refine AW.boundM (t:=0) (l:=l) rfl (fun hb5=>?_)
 rcases hd4:l.drop k1 with _ | ⟨y2,ys3⟩
 rw [hd4,spec_l1Rising_l1] at hH
 have hlt6:=drop_ge hd4
 refine AW.q (AW.r (AO.pu T ?_))
 refine AO.n (AW.q (AW.condF' (b:=decide ((k1:Int) < (l.length:Int))) rfl (rngF hlt6) ?_))
 refine AW.exit (AW.q (AW.r ?_))
 refine AO.pu T ?_
 refine AO.n (AW.t ?_)
 have hR:=zS hH;subst hR
 exact retQ.i [] rfl (.c (.c .v))
 rw [hd4,spec_l1Rising_l1] at hH
 have hlt6:=drop_lt hd4
 refine AW.q (AW.r (AO.pu T ?_))
 refine AO.n (AW.q (AW.condT' (b:=decide ((k1:Int) < (l.length:Int))) rfl (rngT hlt6) ?_))
 refine AW.k (AW.q ?_)
 refine AW.b (AW.q (AW.r ?_))
 refine AO.pu T ?_
 refine AO.v rfl rfl (zX T rfl rfl rfl rfl rfl (zgD hd4) rfl) ?_
 iterate 3 refine AO.pu T ?_
 refine AO.n (AW.q ?_)
 obtain ⟨x16,hx17,hH⟩:=zB hH
 obtain ⟨x18,hx19,hH⟩:=zB hH
 refine AW.r ?_
 iterate 3 refine AO.pu T ?_
 refine AO.v rfl rfl (zV rfl rfl rfl rfl (spec_l1In_ok _ _ _ _ (hx17)) rfl) ?_
 iterate 2 refine AO.pu T ?_
 refine AO.g T [] rfl trivial rfl rfl ?_
 refine AO.g T [22] rfl ⟨fun h=>h,trivial⟩ rfl rfl ?_
 refine AO.g T [23] rfl ⟨fun h=>h,trivial⟩ rfl rfl ?_
 iterate 2 refine AO.g T [] rfl trivial rfl rfl ?_
 refine AO.d [26] rfl ⟨fun h=>h,trivial⟩ (fun hg=>zW rfl rfl rfl rfl) rfl ?_
 refine AO.d [25,27] rfl ⟨fun h=>h,fun h=>h,trivial⟩ (fun hg=>zX T rfl rfl rfl rfl rfl (optT hx19 hg) rfl) rfl ?_
 refine AO.g T [28] rfl ⟨fun h=>h,trivial⟩ rfl rfl ?_
 refine AO.g T [] rfl trivial rfl rfl ?_
 refine AO.g T [29,30] rfl ⟨fun h=>h,fun h=>h,trivial⟩ rfl rfl ?_
 refine AO.d [24] rfl ⟨fun h=>h,trivial⟩ (fun hg=>zN rfl rfl rfl (by rw [hg];exact Bool.true_and _)) rfl ?_
 refine AO.v rfl rfl (zO rfl rfl rfl rfl) ?_
 refine AO.n (AW.le (Le.ct 0 0 (σ':=(⟨[(0,.s (List.map ze0 l)),(1,lo),(2,hi),(9,.s (List.map ze0 l)),(10,(l.length:Int)),(11,(k1:Int)),(33,.v (.bool ((!x16) || (decide ((k1:Int) > 0) && decide (x18 ≥ y2)))))],[],35,[]⟩:St))) ?_)
 refine AW.c (b:=((!x16) || (decide ((k1:Int) > 0) && decide (x18 ≥ y2)))) rfl (fun hc=>?_) (fun hc=>?_)
 replace hH:=condT hc hH
 refine AW.q (AW.r (AO.pu T ?_))
 refine AO.n (AW.t ?_)
 have hR:=zS hH;subst hR
 exact retQ.i [] rfl (.c (.c .v))
 replace hH:=condF hc hH
 refine AW.k (AW.r ?_)
 refine AO.v rfl rfl (zR rfl rfl rfl rfl (zK hlt6 hb5)) ?_
 refine AO.pu T ?_
 refine AO.n ?_
 refine ⟨k1+1,⟨Nat.succ_le_of_lt hlt6,(by rw [zds hd4];exact hH)⟩,(by have:=hlt6;dsimp only;omega),?_⟩
 exact Le.ct 0 0

def spec_rkResult_l1 (rA:Result):List Int→Nat→Bool→Option Bool
 | [],k1,v12 =>
  (spec_l1In_p rA.skater 1 999).bind fun x14 =>
  (opt x14 default (spec_l1In_p (rA.scores.length:Int) 1 3)).bind fun x16 =>
  some (x14 && x16)
 | y2::ys3,k1,v12 =>
  (spec_l1In_p y2 (-1) 100000).bind fun x18 =>
  cond ((!x18) || (v12 && decide (y2 ≥ 0)))
   (some false)
   (spec_rkResult_l1 rA ys3 (k1+1) (decide (y2 < 0)))
def spec_rkResult_p (rA:Result):Option Bool :=
 spec_rkResult_l1 rA rA.scores 0 false
theorem spec_rkResult_ok (rA:Result) (r:Bool) (hH:spec_rkResult_p rA=some r):SpecR Tryz.prog 117 [.g (ze2 rA)] (.v (.bool r)):=by
 refine zFn T Tryz.func117 rfl (by decide) rfl ?_
 refine AW.q (AW.r (AO.s rfl (zBx T rfl 1 rfl rfl rfl rfl) ?_))
 refine AO.pu T ?_
 refine AO.n (AW.q (AW.r ?_))
 refine AO.pu T ?_
 refine AO.n ?_
 iterate 2 refine AW.q ?_
 refine AW.r ?_
 iterate 2 refine AO.pu T ?_
 refine AO.v rfl rfl (zL T rfl rfl rfl) ?_
 refine AO.pu T ?_
 refine AO.n (AW.b ?_)
 refine AW.loopS (fun s:Nat × Bool=>(⟨[(1,.p 1 0),(3,.v (.bool s.2)),(7,.s (List.map ze0 rA.scores)),(8,(rA.scores.length:Int)),(9,(s.1:Int))],[(1,.box [rA.skater,.s (List.map ze0 rA.scores)])],35,[]⟩:St)) (fun s=>s.1 ≤ rA.scores.length∧spec_rkResult_l1 rA (rA.scores.drop s.1) s.1 s.2=some r) (fun s=>rA.scores.length - s.1) (0,false) ⟨Nat.zero_le _,hH⟩ ?_ ?_
 exact Le.ct 0 0
 rintro ⟨k1,v12⟩ ⟨hk,hH⟩
 replace hH:spec_rkResult_l1 rA (rA.scores.drop k1) k1 v12=some r:=hH
 try dsimp only
 refine AW.boundM (t:=7) (l:=rA.scores) rfl (fun hb5=>?_)
 rcases hd4:rA.scores.drop k1 with _ | ⟨y2,ys3⟩
 rw [hd4,spec_rkResult_l1] at hH
 have hlt6:=drop_ge hd4
 refine AW.q (AW.r (AO.pu T ?_))
 refine AO.n (AW.q (AW.condF' (b:=decide ((k1:Int) < (rA.scores.length:Int))) rfl (rngF hlt6) ?_))
 refine AW.exit (AW.q ?_)
 obtain ⟨x14,hx15,hH⟩:=zB hH
 obtain ⟨x16,hx17,hH⟩:=zB hH
 refine AW.r ?_
 iterate 2 refine AO.pu T ?_
 refine AO.v rfl rfl (zV rfl rfl rfl rfl (spec_l1In_ok _ _ _ _ (hx15)) rfl) ?_
 refine AO.pu T ?_
 refine AO.g T [] rfl trivial rfl rfl ?_
 refine AO.g T [30] rfl ⟨fun h=>h,trivial⟩ rfl rfl ?_
 refine AO.d [31] rfl ⟨fun h=>h,trivial⟩ (fun hg=>zL T rfl rfl rfl) rfl ?_
 refine AO.d [32] rfl ⟨fun h=>h,trivial⟩ (fun hg=>zV rfl rfl rfl rfl (spec_l1In_ok _ _ _ _ (optT hx17 hg)) rfl) rfl ?_
 refine AO.v rfl rfl (zN rfl rfl rfl rfl) ?_
 refine AO.pu T ?_
 refine AO.n (AW.t ?_)
 have hR:=zS hH;subst hR
 exact retQ.i [] rfl (.c (.c .v))
 rw [hd4,spec_rkResult_l1] at hH
 have hlt6:=drop_lt hd4
 refine AW.q (AW.r (AO.pu T ?_))
 refine AO.n (AW.q (AW.condT' (b:=decide ((k1:Int) < (rA.scores.length:Int))) rfl (rngT hlt6) ?_))
 refine AW.k (AW.q ?_)
 refine AW.b (AW.q (AW.r ?_))
 refine AO.v rfl rfl (zX T rfl rfl rfl rfl rfl (zgD hd4) rfl) ?_
 iterate 2 refine AO.pu T ?_
 refine AO.n ?_
 iterate 2 refine AW.q ?_
 obtain ⟨x18,hx19,hH⟩:=zB hH
 refine AW.r (AO.pu T ?_)
 refine AO.v rfl rfl (zV rfl rfl rfl rfl (spec_l1In_ok _ _ _ _ (hx19)) rfl) ?_
 iterate 2 refine AO.pu T ?_
 refine AO.g T [] rfl trivial rfl rfl ?_
 refine AO.g T [17] rfl ⟨fun h=>h,trivial⟩ rfl rfl ?_
 refine AO.g T [] rfl trivial rfl rfl ?_
 refine AO.g T [19] rfl ⟨fun h=>h,trivial⟩ rfl rfl ?_
 refine AO.d [18] rfl ⟨fun h=>h,trivial⟩ (fun hg=>zN rfl rfl rfl (by rw [hg];exact Bool.true_and _)) rfl ?_
 refine AO.v rfl rfl (zO rfl rfl rfl rfl) ?_
 refine AO.n (AW.c (b:=((!x18) || (v12 && decide (y2 ≥ 0)))) rfl (fun hc=>?_) (fun hc=>?_))
 replace hH:=condT hc hH
 refine AW.q (AW.r (AO.pu T ?_))
 refine AO.n (AW.t ?_)
 have hR:=zS hH;subst hR
 exact retQ.i [] rfl (.c (.c .v))
 replace hH:=condF hc hH
 refine AW.k (AW.r ?_)
 iterate 3 refine AO.pu T ?_
 refine AO.n (AW.r ?_)
 refine AO.v rfl rfl (zR rfl rfl rfl rfl (zK hlt6 hb5)) ?_
 refine AO.pu T ?_
 refine AO.n ?_
 refine ⟨(k1+1,decide (y2 < 0)),⟨Nat.succ_le_of_lt hlt6,(by rw [zds hd4];exact hH)⟩,(by have:=hlt6;dsimp only;omega),?_⟩
 exact Le.ct 0 0

def spec_rkGood_l1 (l:List Result):List Result→Nat→List Int→Option Bool
 | [],k1,v24 =>
  some (decide ((l.length:Int) ≤ 40))
 | y2::ys3,k1,v24 =>
  (spec_rkResult_p y2).bind fun x26 =>
  (opt (!(!x26)) default (spec_l1Has_p v24 y2.skater)).bind fun x28 =>
  (opt (!((!x26) || x28)) default (getI l 0)).bind fun x30 =>
  cond (((!x26) || x28) || ((y2.scores.length:Int) != (x30.scores.length:Int)))
   (some false)
   ((need (fitsB 8 (v24.length+([y2.skater]).length))).bind fun u32 =>
   spec_rkGood_l1 l ys3 (k1+1) (v24++[y2.skater]))
def spec_rkGood_p (l:List Result):Option Bool :=
 spec_rkGood_l1 l l 0 []
theorem spec_rkGood_ok (l:List Result) (r:Bool) (hH:spec_rkGood_p l=some r):SpecR Tryz.prog 78 [.s (List.map ze2 l)] (.v (.bool r)):=by
 refine zFn T Tryz.func78 rfl (by decide) rfl ?_
 refine AW.q (AW.r (AO.pu T ?_))
 refine AO.n (AW.q (AW.r ?_))
 refine AO.pu T ?_
 refine AO.n ?_
 iterate 2 refine AW.q ?_
 refine AW.r (AO.pu T ?_)
 refine AO.v rfl rfl (zL T rfl rfl rfl) ?_
 refine AO.pu T ?_
 refine AO.n (AW.b ?_)
 refine AW.loopS (fun s:Nat × (List Int)=>(⟨[(0,.s (List.map ze2 l)),(3,.R 6),(6,.s (List.map ze2 l)),(7,(l.length:Int)),(8,(s.1:Int))],[(6,.row 1 (List.map ze0 s.2))],41,[]⟩:St)) (fun s=>s.1 ≤ l.length∧spec_rkGood_l1 l (l.drop s.1) s.1 s.2=some r) (fun s=>l.length - s.1) (0,[]) ⟨Nat.zero_le _,hH⟩ ?_ ?_
 refine Le.trans (Le.void 3 6 1 rfl rfl) ?_
 exact Le.ct 0 0
 rintro ⟨k1,v24⟩ ⟨hk,hH⟩
 replace hH:spec_rkGood_l1 l (l.drop k1) k1 v24=some r:=hH
 try dsimp only
 refine AW.boundM (t:=0) (l:=l) rfl (fun hb5=>?_)
 rcases hd4:l.drop k1 with _ | ⟨y2,ys3⟩
 rw [hd4,spec_rkGood_l1] at hH
 have hlt6:=drop_ge hd4
 refine AW.q (AW.r (AO.pu T ?_))
 refine AO.n (AW.q (AW.condF' (b:=decide ((k1:Int) < (l.length:Int))) rfl (rngF hlt6) ?_))
 refine AW.exit (AW.q (AW.r ?_))
 refine AO.pu T ?_
 refine AO.v rfl rfl (zL T rfl rfl rfl) ?_
 iterate 2 refine AO.pu T ?_
 refine AO.n (AW.t ?_)
 have hR:=zS hH;subst hR
 exact retQ.i [] rfl (.c (.c .v))
 rw [hd4,spec_rkGood_l1] at hH
 have hlt6:=drop_lt hd4
 refine AW.q (AW.r (AO.pu T ?_))
 refine AO.n (AW.q (AW.condT' (b:=decide ((k1:Int) < (l.length:Int))) rfl (rngT hlt6) ?_))
 refine AW.k (AW.q ?_)
 refine AW.b (AW.q (AW.r ?_))
 refine AO.v rfl rfl (zX T rfl rfl rfl rfl rfl (zgD hd4) rfl) ?_
 refine AO.pu T (d:=.g [y2.skater,.s (List.map ze0 y2.scores)]) ?_
 refine AO.s rfl (zA T rfl 7 rfl rfl rfl rfl rfl) ?_
 refine AO.se T [y2.skater,.s (List.map ze0 y2.scores)] ?_
 refine AO.n ?_
 iterate 2 refine AW.q ?_
 obtain ⟨x26,hx27,hH⟩:=zB hH
 obtain ⟨x28,hx29,hH⟩:=zB hH
 obtain ⟨x30,hx31,hH⟩:=zB hH
 refine AW.drawn 18 8 [] mix (by kernel_rfl) rfl ?_
 refine AD.p T (d:=.g [y2.skater,.s (List.map ze0 y2.scores)]) rfl rfl rfl ?_
 refine AD.w rfl rfl (zV rfl rfl rfl rfl (spec_rkResult_ok _ _ (hx27)) rfl) ?_
 iterate 2 refine AD.p T rfl rfl rfl ?_
 iterate 2 refine AD.pureG T [] rfl trivial rfl rfl ?_
 refine AD.pureG T [17] rfl ⟨fun h=>h,trivial⟩ rfl rfl ?_
 refine AD.guard [16,18] rfl ⟨fun h=>h,fun h=>h,trivial⟩ (fun hg=>zLV rfl rfl rfl (es:=[.s (List.map ze0 v24),y2.skater]) ⟨(.rowR rfl (.map fun y=>.vs rfl)),.free rfl,trivial⟩ (spec_l1Has_ok _ _ _ (optT hx29 hg)) (zfree_v _) rfl) rfl ?_
 refine AD.w rfl rfl (zO rfl rfl rfl rfl) ?_
 refine AD.p T rfl rfl rfl ?_
 refine AD.pureG T [] rfl trivial rfl rfl ?_
 refine AD.pureG T [22] rfl ⟨fun h=>h,trivial⟩ rfl rfl ?_
 refine AD.guard [23] rfl ⟨fun h=>h,trivial⟩ (fun hg=>zL T rfl rfl rfl) rfl ?_
 refine AD.pureG T [] rfl trivial rfl rfl ?_
 refine AD.guard [25] rfl ⟨fun h=>h,trivial⟩ (fun hg=>zX T rfl rfl rfl rfl rfl (optT hx31 hg) rfl) rfl ?_
 refine AD.pureG T [26] rfl ⟨fun h=>h,trivial⟩ rfl rfl ?_
 refine AD.pureG T [27] rfl ⟨fun h=>h,trivial⟩ rfl rfl ?_
 refine AD.guard [28] rfl ⟨fun h=>h,trivial⟩ (fun hg=>zL T rfl rfl rfl) rfl ?_
 refine AD.nil (AO.g T [24,29] rfl ⟨fun h=>h,fun h=>h,trivial⟩ rfl rfl ?_)
 refine AO.v rfl rfl (zO rfl rfl rfl rfl) ?_
 refine AO.n (AW.le (Le.ct 0 0 (σ':=(⟨[(0,.s (List.map ze2 l)),(3,.R 6),(5,.p 7 0),(6,.s (List.map ze2 l)),(7,(l.length:Int)),(8,(k1:Int)),(31,.v (.bool (((!x26) || x28) || ((y2.scores.length:Int) != (x30.scores.length:Int)))))],[(6,.row 1 (List.map ze0 v24)),(7,.box [y2.skater,.s (List.map ze0 y2.scores)])],41,[]⟩:St))) ?_)
 refine AW.c (b:=(((!x26) || x28) || ((y2.scores.length:Int) != (x30.scores.length:Int)))) rfl (fun hc=>?_) (fun hc=>?_)
 replace hH:=condT hc hH
 refine AW.q (AW.r (AO.pu T ?_))
 refine AO.n (AW.t ?_)
 have hR:=zS hH;subst hR
 exact retQ.i [] rfl (.c (.c .v))
 replace hH:=condF hc hH
 refine AW.k ?_
 obtain ⟨u32,hx33,hH⟩:=zB hH
 refine AW.r ?_
 iterate 3 refine AO.pu T ?_
 refine AO.s rfl (mk_map_ok T rfl 8 rfl rfl rfl rfl rfl (f:=ze0) (l:=[y2.skater]) rfl rfl (fun _=>rfl) rfl rfl rfl rfl rfl) ?_
 refine AO.s rfl (zAr T rfl 9 rfl rfl rfl rfl rfl (by decide) rfl rfl rfl rfl (fun _=>rfl) (needT (hx33)) rfl rfl) ?_
 refine AO.pu T ?_
 refine AO.n (AW.r ?_)
 refine AO.v rfl rfl (zR rfl rfl rfl rfl (zK hlt6 hb5)) ?_
 refine AO.pu T ?_
 refine AO.n ?_
 refine ⟨(k1+1,(v24++[y2.skater])),⟨Nat.succ_le_of_lt hlt6,(by rw [zds hd4];exact hH)⟩,(by have:=hlt6;dsimp only;omega),?_⟩
 exact Le.ct 9 6

def spec_evHead_l2 (e:Event) (v32:List Int) (x34:(List Int)):Nat→Int→Option Bool
 | 0,_=>none
 | k38+1,v48 =>
  cond (decide (v48 < (((x34++e.order)).length:Int)))
   ((getI (x34++e.order) v48).bind fun x50 =>
   (spec_l1Has_p v32 x50).bind fun x52 =>
   cond (!x52)
    (some false)
    (spec_evHead_l2 e v32 x34 k38 (w64 (v48+1))))
   (some true)
def spec_evHead_l1 (e:Event) (fuel:Nat):List Entrant→Nat→List Int→Option Bool
 | [],k17,v32 =>
  (spec_l1Own_p e.gone).bind fun x34 =>
  (need (fitsB 8 (x34.length+e.order.length))).bind fun u36 =>
  spec_evHead_l2 e v32 x34 fuel 0
 | y18::ys19,k17,v32 =>
  (getI e.results (k17:Int)).bind fun x54 =>
  cond ((x54.skater != y18.skater) || ((x54.scores.length:Int) != e.segments))
   (some false)
   ((need (fitsB 8 (v32.length+([y18.skater]).length))).bind fun u56 =>
   spec_evHead_l1 e fuel ys19 (k17+1) (v32++[y18.skater]))
def spec_evHead_p (fuel:Nat) (e:Event):Option Bool :=
 (spec_l1In_p e.segments 1 3).bind fun x1 =>
 (opt (!(!x1)) default (spec_soSize_p e.size)).bind fun x3 =>
 (opt (!((!x1) || (!x3))) default (spec_l1In_p e.key 0 1000000000)).bind fun x5 =>
 (opt (!(((!x1) || (!x3)) || (!x5))) default (spec_soEntrants_p e.entrants)).bind fun x7 =>
 (opt (!((((!x1) || (!x3)) || (!x5)) || (!x7))) default (spec_l1Rising_p e.gone 1 999)).bind fun x9 =>
 (opt (!(((((!x1) || (!x3)) || (!x5)) || (!x7)) || (!x9))) default (spec_l1In_p e.segment 0 e.segments)).bind fun x11 =>
 (opt (!((((((!x1) || (!x3)) || (!x5)) || (!x7)) || (!x9)) || (!x11))) default (spec_soOrder_p e.order)).bind fun x13 =>
 (opt (!(((((((!x1) || (!x3)) || (!x5)) || (!x7)) || (!x9)) || (!x11)) || (!x13))) default (spec_rkGood_p e.results)).bind fun x15 =>
 cond (((((((((!x1) || (!x3)) || (!x5)) || (!x7)) || (!x9)) || (!x11)) || (!x13)) || (!x15)) || ((e.results.length:Int) != (e.entrants.length:Int)))
  (some false)
  (spec_evHead_l1 e fuel e.entrants 0 [])
theorem spec_evHead_ok (fuel:Nat) (e:Event) (r:Bool) (hH:spec_evHead_p fuel e=some r):SpecR Tryz.prog 83 [.g (ze4 e)] (.v (.bool r)):=by
 refine zFn T Tryz.func83 rfl (by decide) rfl ?_
 refine AW.q (AW.r (AO.s rfl (zBx T rfl 1 rfl rfl rfl rfl) ?_))
 refine AO.pu T ?_
 refine AO.n ?_
 iterate 2 refine AW.q ?_
 obtain ⟨x1,hx2,hH⟩:=zB hH
 obtain ⟨x3,hx4,hH⟩:=zB hH
 obtain ⟨x5,hx6,hH⟩:=zB hH
 obtain ⟨x7,hx8,hH⟩:=zB hH
 obtain ⟨x9,hx10,hH⟩:=zB hH
 obtain ⟨x11,hx12,hH⟩:=zB hH
 obtain ⟨x13,hx14,hH⟩:=zB hH
 obtain ⟨x15,hx16,hH⟩:=zB hH
 refine AW.r ?_
 iterate 2 refine AO.pu T ?_
 refine AO.v rfl rfl (zV rfl rfl rfl rfl (spec_l1In_ok _ _ _ _ (hx2)) rfl) ?_
 iterate 2 refine AO.pu T ?_
 refine AO.g T [] rfl trivial rfl rfl ?_
 refine AO.g T [13] rfl ⟨fun h=>h,trivial⟩ rfl rfl ?_
 refine AO.d [14] rfl ⟨fun h=>h,trivial⟩ (fun hg=>zV rfl rfl rfl rfl (spec_soSize_ok _ _ (optT hx4 hg)) rfl) rfl ?_
 refine AO.g T [15] rfl ⟨fun h=>h,trivial⟩ rfl rfl ?_
 refine AO.v rfl rfl (zO rfl rfl rfl rfl) ?_
 refine AO.pu T ?_
 refine AO.g T [] rfl trivial rfl rfl ?_
 refine AO.g T [19] rfl ⟨fun h=>h,trivial⟩ rfl rfl ?_
 refine AO.d [20] rfl ⟨fun h=>h,trivial⟩ (fun hg=>zV rfl rfl rfl rfl (spec_l1In_ok _ _ _ _ (optT hx6 hg)) rfl) rfl ?_
 refine AO.g T [21] rfl ⟨fun h=>h,trivial⟩ rfl rfl ?_
 refine AO.v rfl rfl (zO rfl rfl rfl rfl) ?_
 refine AO.pu T ?_
 refine AO.g T [] rfl trivial rfl rfl ?_
 refine AO.g T [25] rfl ⟨fun h=>h,trivial⟩ rfl rfl ?_
 refine AO.d [26] rfl ⟨fun h=>h,trivial⟩ (fun hg=>zV rfl rfl rfl rfl (spec_soEntrants_ok _ _ (optT hx8 hg)) rfl) rfl ?_
 refine AO.g T [27] rfl ⟨fun h=>h,trivial⟩ rfl rfl ?_
 refine AO.v rfl rfl (zO rfl rfl rfl rfl) ?_
 refine AO.pu T ?_
 refine AO.g T [] rfl trivial rfl rfl ?_
 refine AO.g T [31] rfl ⟨fun h=>h,trivial⟩ rfl rfl ?_
 refine AO.d [32] rfl ⟨fun h=>h,trivial⟩ (fun hg=>zV rfl rfl rfl rfl (spec_l1Rising_ok _ _ _ _ (optT hx10 hg)) rfl) rfl ?_
 refine AO.g T [33] rfl ⟨fun h=>h,trivial⟩ rfl rfl ?_
 refine AO.v rfl rfl (zO rfl rfl rfl rfl) ?_
 refine AO.pu T ?_
 refine AO.g T [] rfl trivial rfl rfl ?_
 refine AO.g T [37] rfl ⟨fun h=>h,trivial⟩ rfl rfl ?_
 refine AO.g T [] rfl trivial rfl rfl ?_
 refine AO.g T [39] rfl ⟨fun h=>h,trivial⟩ rfl rfl ?_
 refine AO.d [38,40] rfl ⟨fun h=>h,fun h=>h,trivial⟩ (fun hg=>zV rfl rfl rfl rfl (spec_l1In_ok _ _ _ _ (optT hx12 hg)) rfl) rfl ?_
 refine AO.g T [41] rfl ⟨fun h=>h,trivial⟩ rfl rfl ?_
 refine AO.v rfl rfl (zO rfl rfl rfl rfl) ?_
 refine AO.pu T ?_
 refine AO.g T [] rfl trivial rfl rfl ?_
 refine AO.g T [45] rfl ⟨fun h=>h,trivial⟩ rfl rfl ?_
 refine AO.d [46] rfl ⟨fun h=>h,trivial⟩ (fun hg=>zV rfl rfl rfl rfl (spec_soOrder_ok _ _ (optT hx14 hg)) rfl) rfl ?_
 refine AO.g T [47] rfl ⟨fun h=>h,trivial⟩ rfl rfl ?_
 refine AO.v rfl rfl (zO rfl rfl rfl rfl) ?_
 refine AO.pu T ?_
 refine AO.g T [] rfl trivial rfl rfl ?_
 refine AO.g T [51] rfl ⟨fun h=>h,trivial⟩ rfl rfl ?_
 refine AO.d [52] rfl ⟨fun h=>h,trivial⟩ (fun hg=>zV rfl rfl rfl rfl (spec_rkGood_ok _ _ (optT hx16 hg)) rfl) rfl ?_
 refine AO.g T [53] rfl ⟨fun h=>h,trivial⟩ rfl rfl ?_
 refine AO.v rfl rfl (zO rfl rfl rfl rfl) ?_
 refine AO.pu T ?_
 refine AO.g T [] rfl trivial rfl rfl ?_
 refine AO.g T [57] rfl ⟨fun h=>h,trivial⟩ rfl rfl ?_
 refine AO.d [58] rfl ⟨fun h=>h,trivial⟩ (fun hg=>zL T rfl rfl rfl) rfl ?_
 refine AO.g T [] rfl trivial rfl rfl ?_
 refine AO.g T [60] rfl ⟨fun h=>h,trivial⟩ rfl rfl ?_
 refine AO.d [61] rfl ⟨fun h=>h,trivial⟩ (fun hg=>zL T rfl rfl rfl) rfl ?_
 refine AO.g T [59,62] rfl ⟨fun h=>h,fun h=>h,trivial⟩ rfl rfl ?_
 refine AO.v rfl rfl (zO rfl rfl rfl rfl) ?_
 refine AO.n (AW.le (Le.ct 0 0 (σ':=(⟨[(1,.p 1 0),(64,.v (.bool (((((((((!x1) || (!x3)) || (!x5)) || (!x7)) || (!x9)) || (!x11)) || (!x13)) || (!x15)) || ((e.results.length:Int) != (e.entrants.length:Int)))))],[(1,.box [e.segments,e.size,e.key,.s (List.map ze1 e.entrants),.s (List.map ze0 e.gone),e.segment,.s (List.map ze0 e.order),.s (List.map ze2 e.results)])],116,[]⟩:St))) ?_)
 refine AW.c (b:=(((((((((!x1) || (!x3)) || (!x5)) || (!x7)) || (!x9)) || (!x11)) || (!x13)) || (!x15)) || ((e.results.length:Int) != (e.entrants.length:Int)))) rfl (fun hc=>?_) (fun hc=>?_)
 replace hH:=condT hc hH
 refine AW.q (AW.r (AO.pu T ?_))
 refine AO.n (AW.t ?_)
 have hR:=zS hH;subst hR
 exact retQ.i [] rfl (.c (.c .v))
 replace hH:=condF hc hH
 refine AW.k (AW.q (AW.r ?_))
 refine AO.pu T ?_
 refine AO.n ?_
 iterate 2 refine AW.q ?_
 refine AW.r ?_
 iterate 2 refine AO.pu T ?_
 refine AO.v rfl rfl (zL T rfl rfl rfl) ?_
 refine AO.pu T ?_
 refine AO.n (AW.b ?_)
 refine AW.loopS (fun s:Nat × (List Int)=>(⟨[(1,.p 1 0),(3,.R 7),(66,.s (List.map ze1 e.entrants)),(67,(e.entrants.length:Int)),(68,(s.1:Int))],[(1,.box [e.segments,e.size,e.key,.s (List.map ze1 e.entrants),.s (List.map ze0 e.gone),e.segment,.s (List.map ze0 e.order),.s (List.map ze2 e.results)]),(7,.row 1 (List.map ze0 s.2))],116,[]⟩:St)) (fun s=>s.1 ≤ e.entrants.length∧spec_evHead_l1 e fuel (e.entrants.drop s.1) s.1 s.2=some r) (fun s=>e.entrants.length - s.1) (0,[]) ⟨Nat.zero_le _,hH⟩ ?_ ?_
 refine Le.trans (Le.void 3 7 1 rfl rfl) ?_
 exact Le.ct 0 0
 rintro ⟨k17,v32⟩ ⟨hk,hH⟩
 replace hH:spec_evHead_l1 e fuel (e.entrants.drop k17) k17 v32=some r:=hH
 try dsimp only
 refine AW.boundM (t:=66) (l:=e.entrants) rfl (fun hb21=>?_)
 rcases hd20:e.entrants.drop k17 with _ | ⟨y18,ys19⟩
 rw [hd20,spec_evHead_l1] at hH
 have hlt22:=drop_ge hd20
 refine AW.q (AW.r (AO.pu T ?_))
 refine AO.n (AW.q (AW.condF' (b:=decide ((k17:Int) < (e.entrants.length:Int))) rfl (rngF hlt22) ?_))
 refine AW.exit ?_
 iterate 2 refine AW.q ?_
 obtain ⟨x34,hx35,hH⟩:=zB hH
 obtain ⟨u36,hx37,hH⟩:=zB hH
 refine AW.drawn 8 8 [] mix (by kernel_rfl) rfl ?_
 iterate 2 refine AD.p T rfl rfl rfl ?_
 refine AD.q (FStep.call rfl rfl rfl rfl rfl (spec_l1Own_ok _ _ (hx35)) rfl rfl) (impT_names _ _) (impT_le _ _) rfl ?_
 iterate 2 refine AD.p T rfl rfl rfl ?_
 refine AD.k rfl rfl (FStep.app_rs T rfl rfl rfl rfl rfl rfl rfl (by decide) (by decide) rfl rfl rfl (fun _=>rfl) (needT (hx37)) rfl) rfl rfl rfl ?_
 refine AD.vald rfl rfl rfl (len_row_ok T rfl rfl rfl rfl) ?_
 refine AD.p T rfl rfl rfl ?_
 refine AD.nil (AO.n ?_)
 refine AW.b (AW.loopS (fun s:Nat × Int=>(⟨[(3,.R 7),(105,.R 9),(106,(((x34++e.order)).length:Int)),(107,s.2)],[(7,.row 1 (List.map ze0 v32)),(9,.row 1 (List.map ze0 (x34++e.order)))],116,[]⟩:St)) (fun s=>spec_evHead_l2 e v32 x34 s.1 s.2=some r) (fun s=>s.1) (fuel,0) hH ?_ ?_)
 exact Le.ct 0 0
 rintro ⟨k38,v48⟩ hH
 replace hH:spec_evHead_l2 e v32 x34 k38 v48=some r:=hH
 try dsimp only
 rcases k38 with _ | k38
 cases (show none=some _ from hH)
 rw [spec_evHead_l2] at hH
 refine AW.q (AW.r (AO.pu T ?_))
 refine AO.n (AW.q (AW.c (b:=decide (v48 < (((x34++e.order)).length:Int))) rfl (fun hc=>?_) (fun hc=>?_)))
 replace hH:=condT hc hH
 refine AW.k (AW.q ?_)
 refine AW.b (AW.q ?_)
 obtain ⟨x50,hx51,hH⟩:=zB hH
 refine AW.r (AO.v rfl rfl (zXr T rfl rfl rfl rfl rfl rfl (hx51)) ?_)
 refine AO.v rfl rfl (zLr T rfl rfl rfl rfl (zgG (hx51)) rfl rfl rfl) ?_
 refine AO.pu T ?_
 refine AO.n (AW.q ?_)
 obtain ⟨x52,hx53,hH⟩:=zB hH
 refine AW.r ?_
 iterate 2 refine AO.pu T ?_
 refine AO.v rfl rfl (zLV rfl rfl rfl (es:=[.s (List.map ze0 v32),x50]) ⟨(.rowR rfl (.map fun y=>.vs rfl)),.free rfl,trivial⟩ (spec_l1Has_ok _ _ _ (hx53)) (zfree_v _) rfl) ?_
 refine AO.pu T ?_
 refine AO.n (AW.c (b:=(!x52)) rfl (fun hc=>?_) (fun hc=>?_))
 replace hH:=condT hc hH
 refine AW.q (AW.r (AO.pu T ?_))
 refine AO.n (AW.t ?_)
 have hR:=zS hH;subst hR
 exact retQ.i [] rfl (.c (.c .v))
 replace hH:=condF hc hH
 refine AW.k (AW.r ?_)
 refine AO.v rfl rfl (zW rfl rfl rfl rfl) ?_
 refine AO.pu T ?_
 refine AO.n ?_
 refine ⟨(k38,w64 (v48+1)),hH,Nat.lt_succ_self _,?_⟩
 exact Le.ct 0 0
 replace hH:=condF hc hH
 refine AW.exit (AW.q (AW.r ?_))
 refine AO.pu T ?_
 refine AO.n (AW.t ?_)
 have hR:=zS hH;subst hR
 exact retQ.i [] rfl (.c (.c .v))
 rw [hd20,spec_evHead_l1] at hH
 have hlt22:=drop_lt hd20
 refine AW.q (AW.r (AO.pu T ?_))
 refine AO.n (AW.q (AW.condT' (b:=decide ((k17:Int) < (e.entrants.length:Int))) rfl (rngT hlt22) ?_))
 refine AW.k (AW.q ?_)
 refine AW.b (AW.q (AW.r ?_))
 refine AO.pu T ?_
 refine AO.v rfl rfl (zX T rfl rfl rfl rfl rfl (zgD hd20) rfl) ?_
 refine AO.pu T (d:=.g [y18.skater,y18.rank]) ?_
 refine AO.s rfl (zA T rfl 10 rfl rfl rfl rfl rfl) ?_
 refine AO.pu T ?_
 refine AO.se T [y18.skater,y18.rank] ?_
 refine AO.n ?_
 iterate 2 refine AW.q ?_
 obtain ⟨x54,hx55,hH⟩:=zB hH
 refine AW.drawn 19 11 [] mix (by kernel_rfl) rfl ?_
 iterate 3 refine AD.p T rfl rfl rfl ?_
 refine AD.w rfl rfl (zX T rfl rfl rfl rfl rfl (hx55) rfl) ?_
 iterate 6 refine AD.p T rfl rfl rfl ?_
 refine AD.pureG T [] rfl trivial rfl rfl ?_
 refine AD.pureG T [83] rfl ⟨fun h=>h,trivial⟩ rfl rfl ?_
 refine AD.pureG T [] rfl trivial rfl rfl ?_
 refine AD.guard [84,85] rfl ⟨fun h=>h,fun h=>h,trivial⟩ (fun hg=>zX T rfl rfl rfl rfl rfl (hx55) rfl) rfl ?_
 refine AD.pureG T [86] rfl ⟨fun h=>h,trivial⟩ rfl rfl ?_
 refine AD.pureG T [87] rfl ⟨fun h=>h,trivial⟩ rfl rfl ?_
 refine AD.guard [88] rfl ⟨fun h=>h,trivial⟩ (fun hg=>zL T rfl rfl rfl) rfl ?_
 refine AD.pureG T [] rfl trivial rfl rfl ?_
 refine AD.pureG T [90] rfl ⟨fun h=>h,trivial⟩ rfl rfl ?_
 refine AD.nil (AO.g T [89,91] rfl ⟨fun h=>h,fun h=>h,trivial⟩ rfl rfl ?_)
 refine AO.v rfl rfl (zO rfl rfl rfl rfl) ?_
 refine AO.n (AW.le (Le.ct 0 0 (σ':=(⟨[(1,.p 1 0),(3,.R 7),(5,.p 10 0),(66,.s (List.map ze1 e.entrants)),(67,(e.entrants.length:Int)),(68,(k17:Int)),(93,.v (.bool ((x54.skater != y18.skater) || ((x54.scores.length:Int) != e.segments))))],[(1,.box [e.segments,e.size,e.key,.s (List.map ze1 e.entrants),.s (List.map ze0 e.gone),e.segment,.s (List.map ze0 e.order),.s (List.map ze2 e.results)]),(7,.row 1 (List.map ze0 v32)),(10,.box [y18.skater,y18.rank])],116,[]⟩:St))) ?_)
 refine AW.c (b:=((x54.skater != y18.skater) || ((x54.scores.length:Int) != e.segments))) rfl (fun hc=>?_) (fun hc=>?_)
 replace hH:=condT hc hH
 refine AW.q (AW.r (AO.pu T ?_))
 refine AO.n (AW.t ?_)
 have hR:=zS hH;subst hR
 exact retQ.i [] rfl (.c (.c .v))
 replace hH:=condF hc hH
 refine AW.k ?_
 obtain ⟨u56,hx57,hH⟩:=zB hH
 refine AW.r ?_
 iterate 3 refine AO.pu T ?_
 refine AO.s rfl (mk_map_ok T rfl 11 rfl rfl rfl rfl rfl (f:=ze0) (l:=[y18.skater]) rfl rfl (fun _=>rfl) rfl rfl rfl rfl rfl) ?_
 refine AO.s rfl (zAr T rfl 12 rfl rfl rfl rfl rfl (by decide) rfl rfl rfl rfl (fun _=>rfl) (needT (hx57)) rfl rfl) ?_
 refine AO.pu T ?_
 refine AO.n (AW.r ?_)
 refine AO.v rfl rfl (zR rfl rfl rfl rfl (zK hlt22 hb21)) ?_
 refine AO.pu T ?_
 refine AO.n ?_
 refine ⟨(k17+1,(v32++[y18.skater])),⟨Nat.succ_le_of_lt hlt22,(by rw [zds hd20];exact hH)⟩,(by have:=hlt22;dsimp only;omega),?_⟩
 exact Le.ct 12 7

def spec_evResult_p (e:Event) (rA:Result):Option Bool :=
 (spec_evScores_p rA).bind fun x1 =>
 (opt (decide (x1 > e.segment)) default (spec_l1Has_p e.order rA.skater)).bind fun x3 =>
 cond (decide (x1 > e.segment) && (!x3))
  (some false)
  ((spec_l1Has_p e.gone rA.skater).bind fun x5 =>
  cond x5
   ((opt (decide (x1 ≤ (w64 (e.segment+1))) && (!(decide (x1 > e.segment)))) default (spec_l1Has_p e.order rA.skater)).bind fun x7 =>
   some (decide (x1 ≤ (w64 (e.segment+1))) && (decide (x1 > e.segment) || (!x7))))
   ((spec_l1In_p x1 e.segment (w64 (e.segment+1))).bind fun x9 =>
   (opt (x9 && (!((e.order.length:Int) == 0))) default (spec_l1Has_p e.order rA.skater)).bind fun x11 =>
   some (x9 && (((e.order.length:Int) == 0) || x11))))
theorem spec_evResult_ok (e:Event) (rA:Result) (r:Bool) (hH:spec_evResult_p e rA=some r):SpecR Tryz.prog 84 [.g (ze4 e),.g (ze2 rA)] (.v (.bool r)):=by
 refine zFn T Tryz.func84 rfl (by decide) rfl ?_
 refine AW.q (AW.r (AO.s rfl (zBx T rfl 1 rfl rfl rfl rfl) ?_))
 refine AO.s rfl (zBx T rfl 2 rfl rfl rfl rfl) ?_
 refine AO.pu T ?_
 refine AO.n (AW.q ?_)
 obtain ⟨x1,hx2,hH⟩:=zB hH
 refine AW.r (AO.pu T (d:=.g [rA.skater,.s (List.map ze0 rA.scores)]) ?_)
 refine AO.v rfl rfl (zV rfl rfl rfl rfl (spec_evScores_ok _ _ (hx2)) rfl) ?_
 refine AO.pu T ?_
 refine AO.n ?_
 iterate 2 refine AW.q ?_
 obtain ⟨x3,hx4,hH⟩:=zB hH
 refine AW.r ?_
 iterate 5 refine AO.pu T ?_
 refine AO.g T [] rfl trivial rfl rfl ?_
 refine AO.g T [13] rfl ⟨fun h=>h,trivial⟩ rfl rfl ?_
 refine AO.g T [] rfl trivial rfl rfl ?_
 refine AO.g T [15] rfl ⟨fun h=>h,trivial⟩ rfl rfl ?_
 refine AO.d [14,16] rfl ⟨fun h=>h,fun h=>h,trivial⟩ (fun hg=>zV rfl rfl rfl rfl (spec_l1Has_ok _ _ _ (optT hx4 hg)) rfl) rfl ?_
 refine AO.g T [17] rfl ⟨fun h=>h,trivial⟩ rfl rfl ?_
 refine AO.v rfl rfl (zN rfl rfl rfl rfl) ?_
 refine AO.n (AW.c (b:=(decide (x1 > e.segment) && (!x3))) rfl (fun hc=>?_) (fun hc=>?_))
 replace hH:=condT hc hH
 refine AW.q (AW.r (AO.pu T ?_))
 refine AO.n (AW.t ?_)
 have hR:=zS hH;subst hR
 exact retQ.i [] rfl (.c (.c .v))
 replace hH:=condF hc hH
 refine AW.k ?_
 iterate 2 refine AW.q ?_
 obtain ⟨x5,hx6,hH⟩:=zB hH
 refine AW.r ?_
 iterate 4 refine AO.pu T ?_
 refine AO.v rfl rfl (zV rfl rfl rfl rfl (spec_l1Has_ok _ _ _ (hx6)) rfl) ?_
 refine AO.n (AW.c (b:=x5) rfl (fun hc=>?_) (fun hc=>?_))
 replace hH:=condT hc hH
 refine AW.q ?_
 obtain ⟨x7,hx8,hH⟩:=zB hH
 refine AW.r ?_
 iterate 3 refine AO.pu T ?_
 refine AO.v rfl rfl (zW rfl rfl rfl rfl) ?_
 iterate 2 refine AO.pu T ?_
 iterate 2 refine AO.g T [] rfl trivial rfl rfl ?_
 refine AO.g T [32] rfl ⟨fun h=>h,trivial⟩ rfl rfl ?_
 refine AO.g T [31,33] rfl ⟨fun h=>h,fun h=>h,trivial⟩ rfl rfl ?_
 refine AO.g T [34] rfl ⟨fun h=>h,trivial⟩ rfl rfl ?_
 refine AO.g T [] rfl trivial rfl rfl ?_
 refine AO.g T [36] rfl ⟨fun h=>h,trivial⟩ rfl rfl ?_
 refine AO.g T [] rfl trivial rfl rfl ?_
 refine AO.g T [38] rfl ⟨fun h=>h,trivial⟩ rfl rfl ?_
 refine AO.d [37,39] rfl ⟨fun h=>h,fun h=>h,trivial⟩ (fun hg=>zV rfl rfl rfl rfl (spec_l1Has_ok _ _ _ (optT hx8 hg)) rfl) rfl ?_
 refine AO.g T [40] rfl ⟨fun h=>h,trivial⟩ rfl rfl ?_
 refine AO.d [35] rfl ⟨fun h=>h,trivial⟩ (fun hg=>zO rfl rfl rfl (by rw [hg];exact Bool.true_and _)) rfl ?_
 refine AO.v rfl rfl (zN rfl rfl rfl rfl) ?_
 refine AO.pu T ?_
 refine AO.n (AW.le (Le.ct 0 0 (σ':=(⟨[(4,.v (.bool (decide (x1 ≤ (w64 (e.segment+1))) && (decide (x1 > e.segment) || (!x7)))))],[],64,[]⟩:St))) ?_)
 refine AW.t ?_
 have hR:=zS hH;subst hR
 exact retQ.i [] rfl (.c (.c .v))
 replace hH:=condF hc hH
 refine AW.k (AW.q ?_)
 obtain ⟨x9,hx10,hH⟩:=zB hH
 obtain ⟨x11,hx12,hH⟩:=zB hH
 refine AW.r ?_
 iterate 5 refine AO.pu T ?_
 refine AO.v rfl rfl (zW rfl rfl rfl rfl) ?_
 refine AO.v rfl rfl (zV rfl rfl rfl rfl (spec_l1In_ok _ _ _ _ (hx10)) rfl) ?_
 refine AO.pu T ?_
 refine AO.g T [] rfl trivial rfl rfl ?_
 refine AO.g T [52] rfl ⟨fun h=>h,trivial⟩ rfl rfl ?_
 refine AO.d [53] rfl ⟨fun h=>h,trivial⟩ (fun hg=>zL T rfl rfl rfl) rfl ?_
 refine AO.g T [54] rfl ⟨fun h=>h,trivial⟩ rfl rfl ?_
 refine AO.g T [55] rfl ⟨fun h=>h,trivial⟩ rfl rfl ?_
 refine AO.g T [] rfl trivial rfl rfl ?_
 refine AO.g T [57] rfl ⟨fun h=>h,trivial⟩ rfl rfl ?_
 refine AO.g T [] rfl trivial rfl rfl ?_
 refine AO.g T [59] rfl ⟨fun h=>h,trivial⟩ rfl rfl ?_
 refine AO.d [58,60] rfl ⟨fun h=>h,fun h=>h,trivial⟩ (fun hg=>zV rfl rfl rfl rfl (spec_l1Has_ok _ _ _ (optT hx12 hg)) rfl) rfl ?_
 refine AO.d [56] rfl ⟨fun h=>h,trivial⟩ (fun hg=>zO rfl rfl rfl (by rw [hg];exact Bool.true_and _)) rfl ?_
 refine AO.v rfl rfl (zN rfl rfl rfl rfl) ?_
 refine AO.pu T ?_
 refine AO.n (AW.le (Le.ct 0 0 (σ':=(⟨[(4,.v (.bool (x9 && (((e.order.length:Int) == 0) || x11))))],[],64,[]⟩:St))) ?_)
 refine AW.t ?_
 have hR:=zS hH;subst hR
 exact retQ.i [] rfl (.c (.c .v))

def spec_evGood_l2 (e:Event):Nat→Int→Option Bool
 | 0,_=>none
 | k14+1,v32 =>
  cond (decide (v32 < (e.order.length:Int)))
   ((getI e.order v32).bind fun x34 =>
   (spec_evHas_p e x34).bind fun x36 =>
   (opt x36 default (getI e.order (w64 (v32 - 1)))).bind fun x38 =>
   (opt x36 default (spec_evHas_p e x38)).bind fun x40 =>
   cond (x36 && (!x40))
    (some false)
    (spec_evGood_l2 e k14 (w64 (v32+1))))
   ((opt (!((e.order.length:Int) == 0)) default (getI e.order (w64 ((e.order.length:Int) - 1)))).bind fun x42 =>
   (opt (!((e.order.length:Int) == 0)) default (spec_evHas_p e x42)).bind fun x44 =>
   some (((e.order.length:Int) == 0) || (!x44)))
def spec_evGood_l1 (e:Event) (fuel:Nat):List Result→Nat→Option Bool
 | [],k3 =>
  spec_evGood_l2 e fuel 1
 | y4::ys5,k3 =>
  (spec_evResult_p e y4).bind fun x46 =>
  cond (!x46)
   (some false)
   (spec_evGood_l1 e fuel ys5 (k3+1))
def spec_evGood_p (fuel:Nat) (e:Event):Option Bool :=
 (spec_evHead_p fuel e).bind fun x1 =>
 cond ((!x1) || ((e.segment == e.segments) && decide ((e.order.length:Int) > 0)))
  (some false)
  (spec_evGood_l1 e fuel e.results 0)
theorem spec_evGood_ok (fuel:Nat) (e:Event) (r:Bool) (hH:spec_evGood_p fuel e=some r):SpecR Tryz.prog 42 [.g (ze4 e)] (.v (.bool r)):=by
 refine zFn T Tryz.func42 rfl (by decide) rfl ?_
 refine AW.q (AW.r (AO.s rfl (zBx T rfl 1 rfl rfl rfl rfl) ?_))
 refine AO.pu T ?_
 refine AO.n ?_
 iterate 2 refine AW.q ?_
 obtain ⟨x1,hx2,hH⟩:=zB hH
 refine AW.r (AO.pu T (d:=.g [e.segments,e.size,e.key,.s (List.map ze1 e.entrants),.s (List.map ze0 e.gone),e.segment,.s (List.map ze0 e.order),.s (List.map ze2 e.results)]) ?_)
 refine AO.v rfl rfl (zV rfl rfl rfl rfl (spec_evHead_ok fuel _ _ (hx2)) rfl) ?_
 iterate 2 refine AO.pu T ?_
 refine AO.g T [] rfl trivial rfl rfl ?_
 refine AO.g T [10] rfl ⟨fun h=>h,trivial⟩ rfl rfl ?_
 refine AO.g T [] rfl trivial rfl rfl ?_
 refine AO.g T [12] rfl ⟨fun h=>h,trivial⟩ rfl rfl ?_
 refine AO.g T [11,13] rfl ⟨fun h=>h,fun h=>h,trivial⟩ rfl rfl ?_
 refine AO.g T [14] rfl ⟨fun h=>h,trivial⟩ rfl rfl ?_
 refine AO.g T [] rfl trivial rfl rfl ?_
 refine AO.g T [16] rfl ⟨fun h=>h,trivial⟩ rfl rfl ?_
 refine AO.d [17] rfl ⟨fun h=>h,trivial⟩ (fun hg=>zL T rfl rfl rfl) rfl ?_
 refine AO.g T [18] rfl ⟨fun h=>h,trivial⟩ rfl rfl ?_
 refine AO.d [15] rfl ⟨fun h=>h,trivial⟩ (fun hg=>zN rfl rfl rfl (by rw [hg];exact Bool.true_and _)) rfl ?_
 refine AO.v rfl rfl (zO rfl rfl rfl rfl) ?_
 refine AO.n (AW.c (b:=((!x1) || ((e.segment == e.segments) && decide ((e.order.length:Int) > 0)))) rfl (fun hc=>?_) (fun hc=>?_))
 replace hH:=condT hc hH
 refine AW.q (AW.r (AO.pu T ?_))
 refine AO.n (AW.t ?_)
 have hR:=zS hH;subst hR
 exact retQ.i [] rfl (.c (.c .v))
 replace hH:=condF hc hH
 refine AW.k ?_
 iterate 2 refine AW.q ?_
 refine AW.r ?_
 iterate 2 refine AO.pu T ?_
 refine AO.v rfl rfl (zL T rfl rfl rfl) ?_
 refine AO.pu T ?_
 refine AO.n (AW.b ?_)
 refine AW.loopS (fun s:Nat=>(⟨[(1,.p 1 0),(23,.s (List.map ze2 e.results)),(24,(e.results.length:Int)),(25,(s:Int))],[(1,.box [e.segments,e.size,e.key,.s (List.map ze1 e.entrants),.s (List.map ze0 e.gone),e.segment,.s (List.map ze0 e.order),.s (List.map ze2 e.results)])],76,[]⟩:St)) (fun s=>s ≤ e.results.length∧spec_evGood_l1 e fuel (e.results.drop s) s=some r) (fun s=>e.results.length - s) 0 ⟨Nat.zero_le _,hH⟩ ?_ ?_
 exact Le.ct 0 0
 rintro k3 ⟨hk,hH⟩
 replace hH:spec_evGood_l1 e fuel (e.results.drop k3) k3=some r:=hH
 try dsimp only
 refine AW.boundM (t:=23) (l:=e.results) rfl (fun hb7=>?_)
 rcases hd6:e.results.drop k3 with _ | ⟨y4,ys5⟩
 rw [hd6,spec_evGood_l1] at hH
 have hlt8:=drop_ge hd6
 refine AW.q (AW.r (AO.pu T ?_))
 refine AO.n (AW.q (AW.condF' (b:=decide ((k3:Int) < (e.results.length:Int))) rfl (rngF hlt8) ?_))
 refine AW.exit ?_
 iterate 2 refine AW.q ?_
 refine AW.r (AO.pu T ?_)
 refine AO.n (AW.b ?_)
 refine AW.loopS (fun s:Nat × Int=>(⟨[(1,.p 1 0),(5,s.2)],[(1,.box [e.segments,e.size,e.key,.s (List.map ze1 e.entrants),.s (List.map ze0 e.gone),e.segment,.s (List.map ze0 e.order),.s (List.map ze2 e.results)])],76,[]⟩:St)) (fun s=>spec_evGood_l2 e s.1 s.2=some r) (fun s=>s.1) (fuel,1) hH ?_ ?_
 exact Le.ct 0 0
 rintro ⟨k14,v32⟩ hH
 replace hH:spec_evGood_l2 e k14 v32=some r:=hH
 try dsimp only
 rcases k14 with _ | k14
 cases (show none=some _ from hH)
 rw [spec_evGood_l2] at hH
 iterate 2 refine AW.q ?_
 refine AW.r ?_
 iterate 3 refine AO.pu T ?_
 refine AO.v rfl rfl (zL T rfl rfl rfl) ?_
 refine AO.pu T ?_
 refine AO.n (AW.c (b:=decide (v32 < (e.order.length:Int))) rfl (fun hc=>?_) (fun hc=>?_))
 replace hH:=condT hc hH
 refine AW.k (AW.q ?_)
 refine AW.b (AW.q ?_)
 obtain ⟨x34,hx35,hH⟩:=zB hH
 obtain ⟨x36,hx37,hH⟩:=zB hH
 obtain ⟨x38,hx39,hH⟩:=zB hH
 obtain ⟨x40,hx41,hH⟩:=zB hH
 refine AW.drawn 15 4 [] mix (by kernel_rfl) rfl ?_
 refine AD.p T (d:=.g [e.segments,e.size,e.key,.s (List.map ze1 e.entrants),.s (List.map ze0 e.gone),e.segment,.s (List.map ze0 e.order),.s (List.map ze2 e.results)]) rfl rfl rfl ?_
 iterate 3 refine AD.p T rfl rfl rfl ?_
 refine AD.w rfl rfl (zX T rfl rfl rfl rfl rfl (hx35) rfl) ?_
 refine AD.p T rfl rfl rfl ?_
 refine AD.w rfl rfl (zV rfl rfl rfl rfl (spec_evHas_ok _ _ _ (hx37)) rfl) ?_
 refine AD.p T rfl rfl rfl ?_
 refine AD.pureG T (d:=.g [e.segments,e.size,e.key,.s (List.map ze1 e.entrants),.s (List.map ze0 e.gone),e.segment,.s (List.map ze0 e.order),.s (List.map ze2 e.results)]) [] rfl trivial rfl rfl ?_
 refine AD.pureG T [] rfl trivial rfl rfl ?_
 refine AD.pureG T [50] rfl ⟨fun h=>h,trivial⟩ rfl rfl ?_
 refine AD.pureG T [] rfl trivial rfl rfl ?_
 refine AD.guard [52] rfl ⟨fun h=>h,trivial⟩ (fun hg=>zW rfl rfl rfl rfl) rfl ?_
 refine AD.guard [51,53] rfl ⟨fun h=>h,fun h=>h,trivial⟩ (fun hg=>zX T rfl rfl rfl rfl rfl (optT hx39 hg) rfl) rfl ?_
 refine AD.pureG T [54] rfl ⟨fun h=>h,trivial⟩ rfl rfl ?_
 refine AD.nil (AO.d [49,55] rfl ⟨fun h=>h,fun h=>h,trivial⟩ (fun hg=>zV rfl rfl rfl rfl (spec_evHas_ok _ _ _ (optT hx41 hg)) rfl) rfl ?_)
 refine AO.g T [56] rfl ⟨fun h=>h,trivial⟩ rfl rfl ?_
 refine AO.v rfl rfl (zN rfl rfl rfl rfl) ?_
 refine AO.n (AW.c (b:=(x36 && (!x40))) rfl (fun hc=>?_) (fun hc=>?_))
 replace hH:=condT hc hH
 refine AW.q (AW.r (AO.pu T ?_))
 refine AO.n (AW.le (Le.ct 0 0 (σ':=(⟨[(2,.v (.bool false))],[],76,[]⟩:St))) ?_)
 refine AW.t ?_
 have hR:=zS hH;subst hR
 exact retQ.i [] rfl (.c (.c .v))
 replace hH:=condF hc hH
 refine AW.k (AW.r ?_)
 refine AO.pu T ?_
 refine AO.v rfl rfl (zW rfl rfl rfl rfl) ?_
 refine AO.pu T ?_
 refine AO.n ?_
 refine ⟨(k14,w64 (v32+1)),hH,Nat.lt_succ_self _,?_⟩
 exact Le.ct 0 0
 replace hH:=condF hc hH
 refine AW.exit (AW.q ?_)
 obtain ⟨x42,hx43,hH⟩:=zB hH
 obtain ⟨x44,hx45,hH⟩:=zB hH
 refine AW.drawn 14 4 [] mix (by kernel_rfl) rfl ?_
 iterate 2 refine AD.p T rfl rfl rfl ?_
 refine AD.w rfl rfl (zL T rfl rfl rfl) ?_
 iterate 2 refine AD.p T rfl rfl rfl ?_
 refine AD.pureG T (d:=.g [e.segments,e.size,e.key,.s (List.map ze1 e.entrants),.s (List.map ze0 e.gone),e.segment,.s (List.map ze0 e.order),.s (List.map ze2 e.results)]) [] rfl trivial rfl rfl ?_
 refine AD.pureG T [] rfl trivial rfl rfl ?_
 refine AD.pureG T [65] rfl ⟨fun h=>h,trivial⟩ rfl rfl ?_
 refine AD.pureG T [] rfl trivial rfl rfl ?_
 refine AD.pureG T [67] rfl ⟨fun h=>h,trivial⟩ rfl rfl ?_
 refine AD.guard [68] rfl ⟨fun h=>h,trivial⟩ (fun hg=>zL T rfl rfl rfl) rfl ?_
 refine AD.guard [69] rfl ⟨fun h=>h,trivial⟩ (fun hg=>zW rfl rfl rfl rfl) rfl ?_
 refine AD.guard [66,70] rfl ⟨fun h=>h,fun h=>h,trivial⟩ (fun hg=>zX T rfl rfl rfl rfl rfl (optT hx43 hg) rfl) rfl ?_
 refine AD.pureG T [71] rfl ⟨fun h=>h,trivial⟩ rfl rfl ?_
 refine AD.nil (AO.d [64,72] rfl ⟨fun h=>h,fun h=>h,trivial⟩ (fun hg=>zV rfl rfl rfl rfl (spec_evHas_ok _ _ _ (optT hx45 hg)) rfl) rfl ?_)
 refine AO.g T [73] rfl ⟨fun h=>h,trivial⟩ rfl rfl ?_
 refine AO.v rfl rfl (zO rfl rfl rfl rfl) ?_
 refine AO.pu T ?_
 refine AO.n (AW.t ?_)
 have hR:=zS hH;subst hR
 exact retQ.i [] rfl (.c (.c .v))
 rw [hd6,spec_evGood_l1] at hH
 have hlt8:=drop_lt hd6
 refine AW.q (AW.r (AO.pu T ?_))
 refine AO.n (AW.q (AW.condT' (b:=decide ((k3:Int) < (e.results.length:Int))) rfl (rngT hlt8) ?_))
 refine AW.k (AW.q ?_)
 refine AW.b (AW.q (AW.r ?_))
 refine AO.v rfl rfl (zX T rfl rfl rfl rfl rfl (zgD hd6) rfl) ?_
 refine AO.pu T (d:=.g [y4.skater,.s (List.map ze0 y4.scores)]) ?_
 refine AO.s rfl (zA T rfl 4 rfl rfl rfl rfl rfl) ?_
 refine AO.se T [y4.skater,.s (List.map ze0 y4.scores)] ?_
 refine AO.n (AW.q ?_)
 obtain ⟨x46,hx47,hH⟩:=zB hH
 refine AW.r (AO.pu T (d:=.g [e.segments,e.size,e.key,.s (List.map ze1 e.entrants),.s (List.map ze0 e.gone),e.segment,.s (List.map ze0 e.order),.s (List.map ze2 e.results)]) ?_)
 refine AO.pu T (d:=.g [y4.skater,.s (List.map ze0 y4.scores)]) ?_
 refine AO.v rfl rfl (zV rfl rfl rfl rfl (spec_evResult_ok _ _ _ (hx47)) rfl) ?_
 refine AO.pu T ?_
 refine AO.n (AW.c (b:=(!x46)) rfl (fun hc=>?_) (fun hc=>?_))
 replace hH:=condT hc hH
 refine AW.q (AW.r (AO.pu T ?_))
 refine AO.n (AW.t ?_)
 have hR:=zS hH;subst hR
 exact retQ.i [] rfl (.c (.c .v))
 replace hH:=condF hc hH
 refine AW.k (AW.r ?_)
 refine AO.v rfl rfl (zR rfl rfl rfl rfl (zK hlt8 hb7)) ?_
 refine AO.pu T ?_
 refine AO.n ?_
 refine ⟨k3+1,⟨Nat.succ_le_of_lt hlt8,(by rw [zds hd6];exact hH)⟩,(by have:=hlt8;dsimp only;omega),?_⟩
 exact Le.ct 0 0

def spec_RunSteps_l1 (l:List Step) (fuel:Nat):List Step→Nat→Int→Int→Int→List Entrant→List Int→Int→List Int→List Result→Option ((Event × Int × Bool))
 | [],k5,v23,v24,v25,v26,v27,v28,v29,v30 =>
  some ((Event.mk v23 v24 v25 v26 v27 v28 v29 v30),(l.length:Int),true)
 | y6::ys7,k5,v23,v24,v25,v26,v27,v28,v29,v30 =>
  (spec_evStep_p fuel (Event.mk v23 v24 v25 v26 v27 v28 v29 v30) y6).bind fun x32 =>
  cond (!x32.2)
   (some ((Event.mk v23 v24 v25 v26 v27 v28 v29 v30),(k5:Int),true))
   (spec_RunSteps_l1 l fuel ys7 (k5+1) x32.1.segments x32.1.size x32.1.key x32.1.entrants x32.1.gone x32.1.segment x32.1.order x32.1.results)
def spec_RunSteps_p (fuel:Nat) (e:Event) (l:List Step):Option (Event × Int × Bool) :=
 (spec_evGood_p fuel e).bind fun x1 =>
 cond ((!x1) || decide ((l.length:Int) > 120))
  (some ((Event.mk 0 0 0 [] [] 0 [] []),0,false))
  ((spec_evOwn_p e).bind fun x3 =>
  spec_RunSteps_l1 l fuel l 0 x3.segments x3.size x3.key x3.entrants x3.gone x3.segment x3.order x3.results)
theorem spec_RunSteps_ok (fuel:Nat) (e:Event) (l:List Step) (r:(Event × Int × Bool)) (hH:spec_RunSteps_p fuel e l=some r):SpecR Tryz.prog 28 [.g (ze4 e),.s (List.map ze7 l)] (.t [.g (ze4 r.1),.v (.int .i64 r.2.1),.v (.bool r.2.2)]):=by
 refine zFn T Tryz.func28 rfl (by decide) rfl ?_
 refine AW.q (AW.r (AO.s rfl (zBx T rfl 1 rfl rfl rfl rfl) ?_))
 refine AO.s rfl (zA T rfl 2 rfl rfl rfl rfl rfl) ?_
 iterate 2 refine AO.pu T ?_
 refine AO.n ?_
 iterate 2 refine AW.q ?_
 obtain ⟨x1,hx2,hH⟩:=zB hH
 refine AW.r (AO.pu T (d:=.g [e.segments,e.size,e.key,.s (List.map ze1 e.entrants),.s (List.map ze0 e.gone),e.segment,.s (List.map ze0 e.order),.s (List.map ze2 e.results)]) ?_)
 refine AO.v rfl rfl (zV rfl rfl rfl rfl (spec_evGood_ok fuel _ _ (hx2)) rfl) ?_
 iterate 2 refine AO.pu T ?_
 refine AO.g T [] rfl trivial rfl rfl ?_
 refine AO.d [16] rfl ⟨fun h=>h,trivial⟩ (fun hg=>zL T rfl rfl rfl) rfl ?_
 refine AO.g T [17] rfl ⟨fun h=>h,trivial⟩ rfl rfl ?_
 refine AO.v rfl rfl (zO rfl rfl rfl rfl) ?_
 refine AO.n (AW.c (b:=((!x1) || decide ((l.length:Int) > 120))) rfl (fun hc=>?_) (fun hc=>?_))
 replace hH:=condT hc hH
 refine AW.q (AW.r (AO.pu T (d:=.g [(0:Int),(0:Int),(0:Int),.w 0 [],.w 0 [],(0:Int),.w 0 [],.w 0 []]) ?_))
 refine AO.se T [(0:Int),(0:Int),(0:Int),.w 0 [],.w 0 [],(0:Int),.w 0 [],.w 0 []] ?_
 iterate 2 refine AO.pu T ?_
 refine AO.n (AW.t ?_)
 have hR:=zS hH;subst hR
 exact retQ.i [] rfl (.t (zG (.g (zC .v (zC .v (zC .v (zC .nilS (zC .nilS (zC .v (zC .nilS (zC .nilS (zCn)))))))))) (zG (.c .v) (zG (.c .v) (zGn)))))
 replace hH:=condF hc hH
 refine AW.k (AW.q ?_)
 obtain ⟨x3,hx4,hH⟩:=zB hH
 refine AW.r (AO.pu T (d:=.g [e.segments,e.size,e.key,.s (List.map ze1 e.entrants),.s (List.map ze0 e.gone),e.segment,.s (List.map ze0 e.order),.s (List.map ze2 e.results)]) ?_)
 refine AO.s rfl (call_ok rfl 3 rfl rfl rfl (spec_evOwn_ok _ _ (hx4)) rfl rfl rfl) ?_
 refine AO.s rfl (zA T rfl 7 rfl rfl rfl rfl rfl) ?_
 refine AO.se T [x3.segments,x3.size,x3.key,.R 3,.R 4,x3.segment,.R 5,.R 6] ?_
 refine AO.n ?_
 iterate 2 refine AW.q ?_
 refine AW.r (AO.pu T ?_)
 refine AO.v rfl rfl (zL T rfl rfl rfl) ?_
 refine AO.pu T ?_
 refine AO.n (AW.b ?_)
 refine AW.loopS (fun s:Nat × Int × Int × Int × (List Entrant) × (List Int) × Int × (List Int) × (List Result)=>(⟨[(1,.s (List.map ze7 l)),(4,.p 2 0),(7,.p 7 0),(23,.s (List.map ze7 l)),(24,(l.length:Int)),(25,(s.1:Int))],[(2,.box [(0:Int),(0:Int),(0:Int),.w 0 [],.w 0 [],(0:Int),.w 0 [],.w 0 []]),(7,.box [s.2.1,s.2.2.1,s.2.2.2.1,.s (List.map ze1 s.2.2.2.2.1),.s (List.map ze0 s.2.2.2.2.2.1),s.2.2.2.2.2.2.1,.s (List.map ze0 s.2.2.2.2.2.2.2.1),.s (List.map ze2 s.2.2.2.2.2.2.2.2)])],45,[]⟩:St)) (fun s=>s.1 ≤ l.length∧spec_RunSteps_l1 l fuel (l.drop s.1) s.1 s.2.1 s.2.2.1 s.2.2.2.1 s.2.2.2.2.1 s.2.2.2.2.2.1 s.2.2.2.2.2.2.1 s.2.2.2.2.2.2.2.1 s.2.2.2.2.2.2.2.2=some r) (fun s=>l.length - s.1) (0,x3.segments,x3.size,x3.key,x3.entrants,x3.gone,x3.segment,x3.order,x3.results) ⟨Nat.zero_le _,hH⟩ ?_ ?_
 refine Le.trans (Le.fM 3 (g:=ze1) rfl (fun y=>.vs rfl)) ?_
 refine Le.trans (Le.fM 4 (g:=ze0) rfl (fun y=>.vs rfl)) ?_
 refine Le.trans (Le.fM 5 (g:=ze0) rfl (fun y=>.vs rfl)) ?_
 refine Le.trans (Le.fM 6 (g:=ze2) rfl (fun y=>frzResult y)) ?_
 exact Le.ct 0 0
 rintro ⟨k5,v23,v24,v25,v26,v27,v28,v29,v30⟩ ⟨hk,hH⟩
 replace hH:spec_RunSteps_l1 l fuel (l.drop k5) k5 v23 v24 v25 v26 v27 v28 v29 v30=some r:=hH
 try dsimp only
 refine AW.boundM (t:=1) (l:=l) rfl (fun hb9=>?_)
 rcases hd8:l.drop k5 with _ | ⟨y6,ys7⟩
 rw [hd8,spec_RunSteps_l1] at hH
 have hlt10:=drop_ge hd8
 refine AW.q (AW.r (AO.pu T ?_))
 refine AO.n (AW.q (AW.condF' (b:=decide ((k5:Int) < (l.length:Int))) rfl (rngF hlt10) ?_))
 refine AW.exit (AW.q (AW.r ?_))
 refine AO.pu T (d:=.g [v23,v24,v25,.s (List.map ze1 v26),.s (List.map ze0 v27),v28,.s (List.map ze0 v29),.s (List.map ze2 v30)]) ?_
 refine AO.pu T ?_
 refine AO.v rfl rfl (zL T rfl rfl rfl) ?_
 refine AO.se T [v23,v24,v25,.s (List.map ze1 v26),.s (List.map ze0 v27),v28,.s (List.map ze0 v29),.s (List.map ze2 v30)] ?_
 iterate 2 refine AO.pu T ?_
 refine AO.n (AW.t ?_)
 have hR:=zS hH;subst hR
 exact retQ.i [] rfl (.t (zG (.g (zC .v (zC .v (zC .v (zC .s (zC .s (zC .v (zC .s (zC .s (zCn)))))))))) (zG (.c .v) (zG (.c .v) (zGn)))))
 rw [hd8,spec_RunSteps_l1] at hH
 have hlt10:=drop_lt hd8
 refine AW.q (AW.r (AO.pu T ?_))
 refine AO.n (AW.q (AW.condT' (b:=decide ((k5:Int) < (l.length:Int))) rfl (rngT hlt10) ?_))
 refine AW.k (AW.q ?_)
 refine AW.b (AW.q (AW.r ?_))
 refine AO.pu T ?_
 refine AO.v rfl rfl (zX T rfl rfl rfl rfl rfl (zgD hd8) rfl) ?_
 refine AO.pu T (d:=.g [y6.kind,y6.skater,y6.number]) ?_
 refine AO.s rfl (zA T rfl 12 rfl rfl rfl rfl rfl) ?_
 refine AO.pu T ?_
 refine AO.se T [y6.kind,y6.skater,y6.number] ?_
 refine AO.n (AW.q ?_)
 obtain ⟨x32,hx33,hH⟩:=zB hH
 refine AW.r (AO.pu T (d:=.g [v23,v24,v25,.s (List.map ze1 v26),.s (List.map ze0 v27),v28,.s (List.map ze0 v29),.s (List.map ze2 v30)]) ?_)
 refine AO.pu T (d:=.g [y6.kind,y6.skater,y6.number]) ?_
 refine AO.v rfl rfl (zV rfl rfl rfl rfl (spec_evStep_ok fuel _ _ _ (hx33)) rfl) ?_
 refine AO.pu T ?_
 refine AO.pu T (d:=.g [x32.1.segments,x32.1.size,x32.1.key,.s (List.map ze1 x32.1.entrants),.s (List.map ze0 x32.1.gone),x32.1.segment,.s (List.map ze0 x32.1.order),.s (List.map ze2 x32.1.results)]) ?_
 refine AO.pu T ?_
 refine AO.s rfl (zA T rfl 13 rfl rfl rfl rfl rfl) ?_
 refine AO.se T [x32.1.segments,x32.1.size,x32.1.key,.s (List.map ze1 x32.1.entrants),.s (List.map ze0 x32.1.gone),x32.1.segment,.s (List.map ze0 x32.1.order),.s (List.map ze2 x32.1.results)] ?_
 refine AO.pu T ?_
 refine AO.n ?_
 iterate 2 refine AW.q ?_
 refine AW.r ?_
 iterate 2 refine AO.pu T ?_
 refine AO.n (AW.c (b:=(!x32.2)) rfl (fun hc=>?_) (fun hc=>?_))
 replace hH:=condT hc hH
 refine AW.q (AW.r (AO.pu T (d:=.g [v23,v24,v25,.s (List.map ze1 v26),.s (List.map ze0 v27),v28,.s (List.map ze0 v29),.s (List.map ze2 v30)]) ?_))
 refine AO.pu T ?_
 refine AO.se T [v23,v24,v25,.s (List.map ze1 v26),.s (List.map ze0 v27),v28,.s (List.map ze0 v29),.s (List.map ze2 v30)] ?_
 iterate 2 refine AO.pu T ?_
 refine AO.n (AW.t ?_)
 have hR:=zS hH;subst hR
 exact retQ.i [] rfl (.t (zG (.g (zC .v (zC .v (zC .v (zC .s (zC .s (zC .v (zC .s (zC .s (zCn)))))))))) (zG (.c .v) (zG (.c .v) (zGn)))))
 replace hH:=condF hc hH
 refine AW.k (AW.r ?_)
 refine AO.pu T (d:=.g [x32.1.segments,x32.1.size,x32.1.key,.s (List.map ze1 x32.1.entrants),.s (List.map ze0 x32.1.gone),x32.1.segment,.s (List.map ze0 x32.1.order),.s (List.map ze2 x32.1.results)]) ?_
 refine AO.se T [x32.1.segments,x32.1.size,x32.1.key,.s (List.map ze1 x32.1.entrants),.s (List.map ze0 x32.1.gone),x32.1.segment,.s (List.map ze0 x32.1.order),.s (List.map ze2 x32.1.results)] ?_
 refine AO.n (AW.r ?_)
 refine AO.v rfl rfl (zR rfl rfl rfl rfl (zK hlt10 hb9)) ?_
 refine AO.pu T ?_
 refine AO.n ?_
 refine ⟨(k5+1,x32.1.segments,x32.1.size,x32.1.key,x32.1.entrants,x32.1.gone,x32.1.segment,x32.1.order,x32.1.results),⟨Nat.succ_le_of_lt hlt10,(by rw [zds hd8];exact hH)⟩,(by have:=hlt10;dsimp only;omega),?_⟩
 exact Le.ct 0 0

def laws_pSameEntrants_l1 (b:List Entrant):List Entrant→Nat→Option Bool
 | [],k1 =>
  some true
 | y2::ys3,k1 =>
  (getI b (k1:Int)).bind fun x12 =>
  cond (!decide (y2=x12))
   (some false)
   (laws_pSameEntrants_l1 b ys3 (k1+1))
def laws_pSameEntrants_p (a:List Entrant) (b:List Entrant):Option Bool :=
 cond ((a.length:Int) != (b.length:Int))
  (some false)
  (laws_pSameEntrants_l1 b a 0)
theorem laws_pSameEntrants_ok (a:List Entrant) (b:List Entrant) (r:Bool) (hH:laws_pSameEntrants_p a b=some r):SpecR Tryz.prog 50 [.s (List.map ze1 a),.s (List.map ze1 b)] (.v (.bool r)):=by
 refine zFn T Tryz.func50 rfl (by decide) rfl ?_
 refine AW.q (AW.r (AO.pu T ?_))
 refine AO.n ?_
 iterate 2 refine AW.q ?_
 refine AW.r (AO.pu T ?_)
 refine AO.v rfl rfl (zL T rfl rfl rfl) ?_
 refine AO.pu T ?_
 refine AO.v rfl rfl (zL T rfl rfl rfl) ?_
 refine AO.pu T ?_
 refine AO.n (AW.c (b:=((a.length:Int) != (b.length:Int))) rfl (fun hc=>?_) (fun hc=>?_))
 replace hH:=condT hc hH
 refine AW.q (AW.r (AO.pu T ?_))
 refine AO.n (AW.t ?_)
 have hR:=zS hH;subst hR
 exact retQ.i [] rfl (.c (.c .v))
 replace hH:=condF hc hH
 refine AW.k ?_
 iterate 2 refine AW.q ?_
 refine AW.r (AO.pu T ?_)
 refine AO.v rfl rfl (zL T rfl rfl rfl) ?_
 refine AO.pu T ?_
 refine AO.n (AW.b ?_)
 refine AW.loopS (fun s:Nat=>(⟨[(0,.s (List.map ze1 a)),(1,.s (List.map ze1 b)),(12,(a.length:Int)),(13,(s:Int))],[],26,[]⟩:St)) (fun s=>s ≤ a.length∧laws_pSameEntrants_l1 b (a.drop s) s=some r) (fun s=>a.length - s) 0 ⟨Nat.zero_le _,hH⟩ ?_ ?_
 exact Le.ct 0 0
 rintro k1 ⟨hk,hH⟩
 replace hH:laws_pSameEntrants_l1 b (a.drop k1) k1=some r:=hH
 try dsimp only
 refine AW.boundM (t:=0) (l:=a) rfl (fun hb5=>?_)
 rcases hd4:a.drop k1 with _ | ⟨y2,ys3⟩
 rw [hd4,laws_pSameEntrants_l1] at hH
 have hlt6:=drop_ge hd4
 refine AW.q (AW.r (AO.pu T ?_))
 refine AO.n (AW.q (AW.condF' (b:=decide ((k1:Int) < (a.length:Int))) rfl (rngF hlt6) ?_))
 refine AW.exit (AW.q (AW.r ?_))
 refine AO.pu T ?_
 refine AO.n (AW.t ?_)
 have hR:=zS hH;subst hR
 exact retQ.i [] rfl (.c (.c .v))
 rw [hd4,laws_pSameEntrants_l1] at hH
 have hlt6:=drop_lt hd4
 refine AW.q (AW.r (AO.pu T ?_))
 refine AO.n (AW.q (AW.condT' (b:=decide ((k1:Int) < (a.length:Int))) rfl (rngT hlt6) ?_))
 refine AW.k (AW.q ?_)
 refine AW.b (AW.q (AW.r ?_))
 iterate 2 refine AO.pu T ?_
 refine AO.n (AW.q ?_)
 obtain ⟨x12,hx13,hH⟩:=zB hH
 refine AW.drawn 8 1 [] mix (by kernel_rfl) rfl ?_
 iterate 2 refine AD.p T rfl rfl rfl ?_
 refine AD.w rfl rfl (zX T rfl rfl rfl rfl rfl (zgD hd4) rfl) ?_
 refine AD.p T (d:=.g [y2.skater,y2.rank]) rfl rfl rfl ?_
 iterate 2 refine AD.p T rfl rfl rfl ?_
 refine AD.w rfl rfl (zX T rfl rfl rfl rfl rfl (hx13) rfl) ?_
 refine AD.p T (d:=.g [x12.skater,x12.rank]) rfl rfl rfl ?_
 refine AD.nil (AO.v rfl rfl (neqg_ok rfl ekTEntrant rfl rfl rfl rfl (eqVEntrant _ _)) ?_)
 refine AO.n (AW.c (b:=(!decide (y2=x12))) rfl (fun hc=>?_) (fun hc=>?_))
 replace hH:=condT hc hH
 refine AW.q (AW.r (AO.pu T ?_))
 refine AO.n (AW.t ?_)
 have hR:=zS hH;subst hR
 exact retQ.i [] rfl (.c (.c .v))
 replace hH:=condF hc hH
 refine AW.k (AW.r ?_)
 refine AO.v rfl rfl (zR rfl rfl rfl rfl (zK hlt6 hb5)) ?_
 refine AO.pu T ?_
 refine AO.n ?_
 refine ⟨k1+1,⟨Nat.succ_le_of_lt hlt6,(by rw [zds hd4];exact hH)⟩,(by have:=hlt6;dsimp only;omega),?_⟩
 exact Le.ct 0 0

def laws_sameInts_l1 (b:List Int):List Int→Nat→Option Bool
 | [],k1 =>
  some true
 | y2::ys3,k1 =>
  (getI b (k1:Int)).bind fun x12 =>
  cond (y2 != x12)
   (some false)
   (laws_sameInts_l1 b ys3 (k1+1))
def laws_sameInts_p (a:List Int) (b:List Int):Option Bool :=
 cond ((a.length:Int) != (b.length:Int))
  (some false)
  (laws_sameInts_l1 b a 0)
theorem laws_sameInts_ok (a:List Int) (b:List Int) (r:Bool) (hH:laws_sameInts_p a b=some r):SpecR Tryz.prog 13 [.s (List.map ze0 a),.s (List.map ze0 b)] (.v (.bool r)):=by
 refine zFn T Tryz.func13 rfl (by decide) rfl ?_
 refine AW.q (AW.r (AO.pu T ?_))
 refine AO.n ?_
 iterate 2 refine AW.q ?_
 refine AW.r (AO.pu T ?_)
 refine AO.v rfl rfl (zL T rfl rfl rfl) ?_
 refine AO.pu T ?_
 refine AO.v rfl rfl (zL T rfl rfl rfl) ?_
 refine AO.pu T ?_
 refine AO.n (AW.c (b:=((a.length:Int) != (b.length:Int))) rfl (fun hc=>?_) (fun hc=>?_))
 replace hH:=condT hc hH
 refine AW.q (AW.r (AO.pu T ?_))
 refine AO.n (AW.t ?_)
 have hR:=zS hH;subst hR
 exact retQ.i [] rfl (.c (.c .v))
 replace hH:=condF hc hH
 refine AW.k ?_
 iterate 2 refine AW.q ?_
 refine AW.r (AO.pu T ?_)
 refine AO.v rfl rfl (zL T rfl rfl rfl) ?_
 refine AO.pu T ?_
 refine AO.n (AW.b ?_)
 refine AW.loopS (fun s:Nat=>(⟨[(0,.s (List.map ze0 a)),(1,.s (List.map ze0 b)),(12,(a.length:Int)),(13,(s:Int))],[],26,[]⟩:St)) (fun s=>s ≤ a.length∧laws_sameInts_l1 b (a.drop s) s=some r) (fun s=>a.length - s) 0 ⟨Nat.zero_le _,hH⟩ ?_ ?_
 exact Le.ct 0 0
 rintro k1 ⟨hk,hH⟩
 replace hH:laws_sameInts_l1 b (a.drop k1) k1=some r:=hH
 try dsimp only
 refine AW.boundM (t:=0) (l:=a) rfl (fun hb5=>?_)
 rcases hd4:a.drop k1 with _ | ⟨y2,ys3⟩
 rw [hd4,laws_sameInts_l1] at hH
 have hlt6:=drop_ge hd4
 refine AW.q (AW.r (AO.pu T ?_))
 refine AO.n (AW.q (AW.condF' (b:=decide ((k1:Int) < (a.length:Int))) rfl (rngF hlt6) ?_))
 refine AW.exit (AW.q (AW.r ?_))
 refine AO.pu T ?_
 refine AO.n (AW.t ?_)
 have hR:=zS hH;subst hR
 exact retQ.i [] rfl (.c (.c .v))
 rw [hd4,laws_sameInts_l1] at hH
 have hlt6:=drop_lt hd4
 refine AW.q (AW.r (AO.pu T ?_))
 refine AO.n (AW.q (AW.condT' (b:=decide ((k1:Int) < (a.length:Int))) rfl (rngT hlt6) ?_))
 refine AW.k (AW.q ?_)
 refine AW.b (AW.q (AW.r ?_))
 iterate 2 refine AO.pu T ?_
 refine AO.n (AW.q ?_)
 obtain ⟨x12,hx13,hH⟩:=zB hH
 refine AW.drawn 8 1 [] mix (by kernel_rfl) rfl ?_
 iterate 2 refine AD.p T rfl rfl rfl ?_
 refine AD.w rfl rfl (zX T rfl rfl rfl rfl rfl (zgD hd4) rfl) ?_
 iterate 3 refine AD.p T rfl rfl rfl ?_
 refine AD.w rfl rfl (zX T rfl rfl rfl rfl rfl (hx13) rfl) ?_
 refine AD.p T rfl rfl rfl ?_
 refine AD.nil (AO.pu T ?_)
 refine AO.n (AW.c (b:=(y2 != x12)) rfl (fun hc=>?_) (fun hc=>?_))
 replace hH:=condT hc hH
 refine AW.q (AW.r (AO.pu T ?_))
 refine AO.n (AW.t ?_)
 have hR:=zS hH;subst hR
 exact retQ.i [] rfl (.c (.c .v))
 replace hH:=condF hc hH
 refine AW.k (AW.r ?_)
 refine AO.v rfl rfl (zR rfl rfl rfl rfl (zK hlt6 hb5)) ?_
 refine AO.pu T ?_
 refine AO.n ?_
 refine ⟨k1+1,⟨Nat.succ_le_of_lt hlt6,(by rw [zds hd4];exact hH)⟩,(by have:=hlt6;dsimp only;omega),?_⟩
 exact Le.ct 0 0

def laws_pSameResults_l1 (b:List Result):List Result→Nat→Option Bool
 | [],k1 =>
  some true
 | y2::ys3,k1 =>
  (getI b (k1:Int)).bind fun x16 =>
  (opt (!(y2.skater != x16.skater)) default (laws_sameInts_p y2.scores x16.scores)).bind fun x18 =>
  cond ((y2.skater != x16.skater) || (!x18))
   (some false)
   (laws_pSameResults_l1 b ys3 (k1+1))
def laws_pSameResults_p (a:List Result) (b:List Result):Option Bool :=
 cond ((a.length:Int) != (b.length:Int))
  (some false)
  (laws_pSameResults_l1 b a 0)
theorem laws_pSameResults_ok (a:List Result) (b:List Result) (r:Bool) (hH:laws_pSameResults_p a b=some r):SpecR Tryz.prog 51 [.s (List.map ze2 a),.s (List.map ze2 b)] (.v (.bool r)):=by
 refine zFn T Tryz.func51 rfl (by decide) rfl ?_
 refine AW.q (AW.r (AO.pu T ?_))
 refine AO.n ?_
 iterate 2 refine AW.q ?_
 refine AW.r (AO.pu T ?_)
 refine AO.v rfl rfl (zL T rfl rfl rfl) ?_
 refine AO.pu T ?_
 refine AO.v rfl rfl (zL T rfl rfl rfl) ?_
 refine AO.pu T ?_
 refine AO.n (AW.c (b:=((a.length:Int) != (b.length:Int))) rfl (fun hc=>?_) (fun hc=>?_))
 replace hH:=condT hc hH
 refine AW.q (AW.r (AO.pu T ?_))
 refine AO.n (AW.t ?_)
 have hR:=zS hH;subst hR
 exact retQ.i [] rfl (.c (.c .v))
 replace hH:=condF hc hH
 refine AW.k ?_
 iterate 2 refine AW.q ?_
 refine AW.r (AO.pu T ?_)
 refine AO.v rfl rfl (zL T rfl rfl rfl) ?_
 refine AO.pu T ?_
 refine AO.n (AW.b ?_)
 refine AW.loopS (fun s:Nat=>(⟨[(0,.s (List.map ze2 a)),(1,.s (List.map ze2 b)),(12,(a.length:Int)),(13,(s:Int))],[],42,[]⟩:St)) (fun s=>s ≤ a.length∧laws_pSameResults_l1 b (a.drop s) s=some r) (fun s=>a.length - s) 0 ⟨Nat.zero_le _,hH⟩ ?_ ?_
 exact Le.ct 0 0
 rintro k1 ⟨hk,hH⟩
 replace hH:laws_pSameResults_l1 b (a.drop k1) k1=some r:=hH
 try dsimp only
 refine AW.boundM (t:=0) (l:=a) rfl (fun hb5=>?_)
 rcases hd4:a.drop k1 with _ | ⟨y2,ys3⟩
 rw [hd4,laws_pSameResults_l1] at hH
 have hlt6:=drop_ge hd4
 refine AW.q (AW.r (AO.pu T ?_))
 refine AO.n (AW.q (AW.condF' (b:=decide ((k1:Int) < (a.length:Int))) rfl (rngF hlt6) ?_))
 refine AW.exit (AW.q (AW.r ?_))
 refine AO.pu T ?_
 refine AO.n (AW.t ?_)
 have hR:=zS hH;subst hR
 exact retQ.i [] rfl (.c (.c .v))
 rw [hd4,laws_pSameResults_l1] at hH
 have hlt6:=drop_lt hd4
 refine AW.q (AW.r (AO.pu T ?_))
 refine AO.n (AW.q (AW.condT' (b:=decide ((k1:Int) < (a.length:Int))) rfl (rngT hlt6) ?_))
 refine AW.k (AW.q ?_)
 refine AW.b (AW.q (AW.r ?_))
 iterate 2 refine AO.pu T ?_
 refine AO.n (AW.q ?_)
 obtain ⟨x16,hx17,hH⟩:=zB hH
 obtain ⟨x18,hx19,hH⟩:=zB hH
 refine AW.drawn 22 1 [] mix (by kernel_rfl) rfl ?_
 iterate 2 refine AD.p T rfl rfl rfl ?_
 refine AD.w rfl rfl (zX T rfl rfl rfl rfl rfl (zgD hd4) rfl) ?_
 iterate 4 refine AD.p T rfl rfl rfl ?_
 refine AD.w rfl rfl (zX T rfl rfl rfl rfl rfl (hx17) rfl) ?_
 iterate 4 refine AD.p T rfl rfl rfl ?_
 iterate 2 refine AD.pureG T [] rfl trivial rfl rfl ?_
 refine AD.guard [28,29] rfl ⟨fun h=>h,fun h=>h,trivial⟩ (fun hg=>zX T rfl rfl rfl rfl rfl (zgD hd4) rfl) rfl ?_
 refine AD.pureG T [30] rfl ⟨fun h=>h,trivial⟩ rfl rfl ?_
 refine AD.pureG T [31] rfl ⟨fun h=>h,trivial⟩ rfl rfl ?_
 iterate 2 refine AD.pureG T [] rfl trivial rfl rfl ?_
 refine AD.guard [33,34] rfl ⟨fun h=>h,fun h=>h,trivial⟩ (fun hg=>zX T rfl rfl rfl rfl rfl (hx17) rfl) rfl ?_
 refine AD.pureG T [35] rfl ⟨fun h=>h,trivial⟩ rfl rfl ?_
 refine AD.pureG T [36] rfl ⟨fun h=>h,trivial⟩ rfl rfl ?_
 refine AD.nil (AO.d [32,37] rfl ⟨fun h=>h,fun h=>h,trivial⟩ (fun hg=>zV rfl rfl rfl rfl (laws_sameInts_ok _ _ _ (optT hx19 hg)) rfl) rfl ?_)
 refine AO.g T [38] rfl ⟨fun h=>h,trivial⟩ rfl rfl ?_
 refine AO.v rfl rfl (zO rfl rfl rfl rfl) ?_
 refine AO.n (AW.le (Le.ct 0 0 (σ':=(⟨[(0,.s (List.map ze2 a)),(1,.s (List.map ze2 b)),(12,(a.length:Int)),(13,(k1:Int)),(40,.v (.bool ((y2.skater != x16.skater) || (!x18))))],[],42,[]⟩:St))) ?_)
 refine AW.c (b:=((y2.skater != x16.skater) || (!x18))) rfl (fun hc=>?_) (fun hc=>?_)
 replace hH:=condT hc hH
 refine AW.q (AW.r (AO.pu T ?_))
 refine AO.n (AW.t ?_)
 have hR:=zS hH;subst hR
 exact retQ.i [] rfl (.c (.c .v))
 replace hH:=condF hc hH
 refine AW.k (AW.r ?_)
 refine AO.v rfl rfl (zR rfl rfl rfl rfl (zK hlt6 hb5)) ?_
 refine AO.pu T ?_
 refine AO.n ?_
 refine ⟨k1+1,⟨Nat.succ_le_of_lt hlt6,(by rw [zds hd4];exact hH)⟩,(by have:=hlt6;dsimp only;omega),?_⟩
 exact Le.ct 0 0

def laws_pSameEvent_p (a:Event) (b:Event):Option Bool :=
 (opt (((a.segments == b.segments) && (a.size == b.size)) && (a.key == b.key)) default (laws_pSameEntrants_p a.entrants b.entrants)).bind fun x1 =>
 (opt ((((a.segments == b.segments) && (a.size == b.size)) && (a.key == b.key)) && x1) default (laws_sameInts_p a.gone b.gone)).bind fun x3 =>
 (opt ((((((a.segments == b.segments) && (a.size == b.size)) && (a.key == b.key)) && x1) && x3) && (a.segment == b.segment)) default (laws_sameInts_p a.order b.order)).bind fun x5 =>
 (opt (((((((a.segments == b.segments) && (a.size == b.size)) && (a.key == b.key)) && x1) && x3) && (a.segment == b.segment)) && x5) default (laws_pSameResults_p a.results b.results)).bind fun x7 =>
 some ((((((((a.segments == b.segments) && (a.size == b.size)) && (a.key == b.key)) && x1) && x3) && (a.segment == b.segment)) && x5) && x7)
theorem laws_pSameEvent_ok (a:Event) (b:Event) (r:Bool) (hH:laws_pSameEvent_p a b=some r):SpecR Tryz.prog 14 [.g (ze4 a),.g (ze4 b)] (.v (.bool r)):=by
 refine zFn T Tryz.func14 rfl (by decide) rfl ?_
 refine AW.q (AW.r (AO.s rfl (zBx T rfl 1 rfl rfl rfl rfl) ?_))
 refine AO.s rfl (zBx T rfl 2 rfl rfl rfl rfl) ?_
 refine AO.pu T ?_
 refine AO.n (AW.q ?_)
 obtain ⟨x1,hx2,hH⟩:=zB hH
 obtain ⟨x3,hx4,hH⟩:=zB hH
 obtain ⟨x5,hx6,hH⟩:=zB hH
 obtain ⟨x7,hx8,hH⟩:=zB hH
 refine AW.r ?_
 iterate 6 refine AO.pu T ?_
 refine AO.g T [] rfl trivial rfl rfl ?_
 refine AO.g T [11] rfl ⟨fun h=>h,trivial⟩ rfl rfl ?_
 refine AO.g T [] rfl trivial rfl rfl ?_
 refine AO.g T [13] rfl ⟨fun h=>h,trivial⟩ rfl rfl ?_
 refine AO.g T [12,14] rfl ⟨fun h=>h,fun h=>h,trivial⟩ rfl rfl ?_
 refine AO.v rfl rfl (zN rfl rfl rfl rfl) ?_
 refine AO.pu T ?_
 refine AO.g T [] rfl trivial rfl rfl ?_
 refine AO.g T [18] rfl ⟨fun h=>h,trivial⟩ rfl rfl ?_
 refine AO.g T [] rfl trivial rfl rfl ?_
 refine AO.g T [20] rfl ⟨fun h=>h,trivial⟩ rfl rfl ?_
 refine AO.g T [19,21] rfl ⟨fun h=>h,fun h=>h,trivial⟩ rfl rfl ?_
 refine AO.v rfl rfl (zN rfl rfl rfl rfl) ?_
 refine AO.pu T ?_
 refine AO.g T [] rfl trivial rfl rfl ?_
 refine AO.g T [25] rfl ⟨fun h=>h,trivial⟩ rfl rfl ?_
 refine AO.g T [] rfl trivial rfl rfl ?_
 refine AO.g T [27] rfl ⟨fun h=>h,trivial⟩ rfl rfl ?_
 refine AO.d [26,28] rfl ⟨fun h=>h,fun h=>h,trivial⟩ (fun hg=>zV rfl rfl rfl rfl (laws_pSameEntrants_ok _ _ _ (optT hx2 hg)) rfl) rfl ?_
 refine AO.v rfl rfl (zN rfl rfl rfl rfl) ?_
 refine AO.pu T ?_
 refine AO.g T [] rfl trivial rfl rfl ?_
 refine AO.g T [32] rfl ⟨fun h=>h,trivial⟩ rfl rfl ?_
 refine AO.g T [] rfl trivial rfl rfl ?_
 refine AO.g T [34] rfl ⟨fun h=>h,trivial⟩ rfl rfl ?_
 refine AO.d [33,35] rfl ⟨fun h=>h,fun h=>h,trivial⟩ (fun hg=>zV rfl rfl rfl rfl (laws_sameInts_ok _ _ _ (optT hx4 hg)) rfl) rfl ?_
 refine AO.v rfl rfl (zN rfl rfl rfl rfl) ?_
 refine AO.pu T ?_
 refine AO.g T [] rfl trivial rfl rfl ?_
 refine AO.g T [39] rfl ⟨fun h=>h,trivial⟩ rfl rfl ?_
 refine AO.g T [] rfl trivial rfl rfl ?_
 refine AO.g T [41] rfl ⟨fun h=>h,trivial⟩ rfl rfl ?_
 refine AO.g T [40,42] rfl ⟨fun h=>h,fun h=>h,trivial⟩ rfl rfl ?_
 refine AO.v rfl rfl (zN rfl rfl rfl rfl) ?_
 refine AO.pu T ?_
 refine AO.g T [] rfl trivial rfl rfl ?_
 refine AO.g T [46] rfl ⟨fun h=>h,trivial⟩ rfl rfl ?_
 refine AO.g T [] rfl trivial rfl rfl ?_
 refine AO.g T [48] rfl ⟨fun h=>h,trivial⟩ rfl rfl ?_
 refine AO.d [47,49] rfl ⟨fun h=>h,fun h=>h,trivial⟩ (fun hg=>zV rfl rfl rfl rfl (laws_sameInts_ok _ _ _ (optT hx6 hg)) rfl) rfl ?_
 refine AO.v rfl rfl (zN rfl rfl rfl rfl) ?_
 refine AO.pu T ?_
 refine AO.g T [] rfl trivial rfl rfl ?_
 refine AO.g T [53] rfl ⟨fun h=>h,trivial⟩ rfl rfl ?_
 refine AO.g T [] rfl trivial rfl rfl ?_
 refine AO.g T [55] rfl ⟨fun h=>h,trivial⟩ rfl rfl ?_
 refine AO.d [54,56] rfl ⟨fun h=>h,fun h=>h,trivial⟩ (fun hg=>zV rfl rfl rfl rfl (laws_pSameResults_ok _ _ _ (optT hx8 hg)) rfl) rfl ?_
 refine AO.v rfl rfl (zN rfl rfl rfl rfl) ?_
 refine AO.pu T ?_
 refine AO.n (AW.le (Le.ct 0 0 (σ':=(⟨[(4,.v (.bool ((((((((a.segments == b.segments) && (a.size == b.size)) && (a.key == b.key)) && x1) && x3) && (a.segment == b.segment)) && x5) && x7)))],[],59,[]⟩:St))) ?_)
 refine AW.t ?_
 have hR:=zS hH;subst hR
 exact retQ.i [] rfl (.c (.c .v))

def spec_DrawIsEvent_p (fuel:Nat) (code:List Int):Option Event :=
 (spec_l1Cur_event_p fuel (L1Cur.mk code 0 0)).bind fun x1 =>
 some (Event.mk x1.2.segments x1.2.size x1.2.key x1.2.entrants x1.2.gone x1.2.segment x1.2.order x1.2.results)
theorem spec_DrawIsEvent_ok (fuel:Nat) (code:List Int) (r:Event) (hH:spec_DrawIsEvent_p fuel code=some r):SpecR Tryz.prog 37 [.s (List.map ze5 code)] (.g (ze4 r)):=by
 refine zFn T Tryz.func37 rfl (by decide) rfl ?_
 refine AW.q (AW.r (AO.s rfl (zA T rfl 1 rfl rfl rfl rfl rfl) ?_))
 refine AO.n (AW.q (AW.r ?_))
 refine AO.pu T ?_
 refine AO.pu T (d:=.g [.s (List.map ze5 code),(0:Int),.v (.int .u64 0)]) ?_
 refine AO.s rfl (zBx T rfl 2 rfl rfl rfl rfl) ?_
 refine AO.pu T ?_
 refine AO.n (AW.q ?_)
 obtain ⟨x1,hx2,hH⟩:=zB hH
 refine AW.r (AO.pu T ?_)
 refine AO.s rfl (zM rfl 3 rfl rfl (es:=[.pw (ze3 (L1Cur.mk code 0 0))]) (outs:=[.pw (ze3 x1.1)]) (ids:=[2]) (by exact zG (.c (.box rfl rfl)) (zGn)) (by decide) (.inl (by rfl)) (by rfl) (spec_l1Cur_event_ok fuel _ _ (hx2)) rfl (by rfl) rfl) ?_
 refine AO.se T [x1.2.segments,x1.2.size,x1.2.key,.s (List.map ze1 x1.2.entrants),.s (List.map ze0 x1.2.gone),x1.2.segment,.s (List.map ze0 x1.2.order),.s (List.map ze2 x1.2.results)] ?_
 refine AO.n (AW.t ?_)
 have hR:=zS hH;subst hR
 exact retQ.i [] rfl (.c (.g (zC .v (zC .v (zC .v (zC .s (zC .s (zC .v (zC .s (zC .s (zCn)))))))))))

def spec_DrawStandingsOf_p (fuel:Nat) (code:List Int):Option Event :=
 (spec_DrawIsEvent_p fuel code).bind fun x1 =>
 some x1
theorem spec_DrawStandingsOf_ok (fuel:Nat) (code:List Int) (r:Event) (hH:spec_DrawStandingsOf_p fuel code=some r):SpecR Tryz.prog 29 [.s (List.map ze5 code)] (.g (ze4 r)):=by
 refine zFn T Tryz.func29 rfl (by decide) rfl ?_
 refine AW.q (AW.r (AO.s rfl (zA T rfl 1 rfl rfl rfl rfl rfl) ?_))
 refine AO.n (AW.q ?_)
 obtain ⟨x1,hx2,hH⟩:=zB hH
 refine AW.r (AO.pu T ?_)
 refine AO.v rfl rfl (zV rfl rfl rfl rfl (spec_DrawIsEvent_ok fuel _ _ (hx2)) rfl) ?_
 refine AO.se T [x1.segments,x1.size,x1.key,.s (List.map ze1 x1.entrants),.s (List.map ze0 x1.gone),x1.segment,.s (List.map ze0 x1.order),.s (List.map ze2 x1.results)] ?_
 refine AO.n (AW.t ?_)
 have hR:=zS hH;subst hR
 exact retQ.i [] rfl (.c (.g (zC .v (zC .v (zC .v (zC .s (zC .s (zC .v (zC .s (zC .s (zCn)))))))))))

def impl_indicesOf_l1 (n:Int) (chosen:Int→Option Bool):Nat→List Int→Int→Option ((List Int))
 | 0,_,_=>none
 | k1+1,v12,v13 =>
  cond (decide (v13 < n))
   ((chosen v13).bind fun x15 =>
   cond x15
    ((need (fitsB 8 (v12.length+([v13]).length))).bind fun u17 =>
    impl_indicesOf_l1 n chosen k1 (v12++[v13]) (w64 (v13+1)))
    (impl_indicesOf_l1 n chosen k1 v12 (w64 (v13+1))))
   (some v12)
def impl_indicesOf_p (fuel:Nat) (n:Int) (chosen:Int→Option Bool):Option (List Int) :=
 impl_indicesOf_l1 n chosen fuel [] 0
theorem impl_indicesOf_ok (fuel:Nat) (n:Int) (chosen_f:Nat) (chosen_c:List D) (chosen_k:chosen_c.all D.capOk=true) (chosen:Int→Option Bool) (chosen_h:∀ (a0:Int) (q:Bool),chosen a0=some q→SpecR Tryz.prog chosen_f ([.v (.int .i64 a0)]++chosen_c) (.v (.bool q))) (r:(List Int)) (hH:impl_indicesOf_p fuel n chosen=some r):SpecR Tryz.prog 110 [n,.f chosen_f chosen_c] (.w 1 (r.map ze0)):=by
 have chosen_r:=cap_cfree chosen_k
 refine zFn T Tryz.func110 rfl (by decide) rfl ?_
 refine AW.q (AW.r (AO.pu T ?_))
 refine AO.n (AW.q (AW.r ?_))
 refine AO.s rfl (mk0_ok T rfl rfl rfl rfl) ?_
 refine AO.pu T ?_
 refine AO.n ?_
 iterate 2 refine AW.q ?_
 refine AW.r ?_
 iterate 2 refine AO.pu T ?_
 refine AO.n (AW.b ?_)
 refine AW.loopS (fun s:Nat × (List Int) × Int=>(⟨[(1,.f chosen_f chosen_c),(5,.R 4),(8,n),(9,s.2.2)],[(4,.row 1 (List.map ze0 s.2.1))],21,[]⟩:St)) (fun s=>impl_indicesOf_l1 n chosen s.1 s.2.1 s.2.2=some r) (fun s=>s.1) (fuel,[],0) hH ?_ ?_
 refine Le.trans (Le.void 5 4 1 rfl rfl) ?_
 exact Le.cut 0 0 rfl ⟨⟨_,rfl,ren_fF chosen_r⟩,⟨_,rfl,rfl⟩,⟨_,rfl,rfl⟩,⟨_,rfl,rfl⟩,trivial⟩ (by repeat' (first | exact trivial | refine ⟨⟨_,rfl,rfl⟩,?_⟩)) (andT (allC (known_fF chosen_r) (allC rfl (allC rfl (allC rfl allN)))) rfl)
 rintro ⟨k1,v12,v13⟩ hH
 replace hH:impl_indicesOf_l1 n chosen k1 v12 v13=some r:=hH
 try dsimp only
 rcases k1 with _ | k1
 cases (show none=some _ from hH)
 rw [impl_indicesOf_l1] at hH
 refine AW.q (AW.r (AO.pu T ?_))
 refine AO.n (AW.q (AW.c (b:=decide (v13 < n)) rfl (fun hc=>?_) (fun hc=>?_)))
 replace hH:=condT hc hH
 refine AW.k (AW.q ?_)
 refine AW.b (AW.q (AW.r ?_))
 iterate 2 refine AO.pu T ?_
 refine AO.n (AW.q ?_)
 obtain ⟨x15,hx16,hH⟩:=zB hH
 refine AW.r ?_
 iterate 2 refine AO.pu T ?_
 refine AO.v rfl rfl (zV rfl rfl rfl (andT rfl (free_cfree chosen_r)) (chosen_h _ _ (hx16)) rfl) ?_
 refine AO.n (AW.c (b:=x15) rfl (fun hc=>?_) (fun hc=>?_))
 replace hH:=condT hc hH
 obtain ⟨u17,hx18,hH⟩:=zB hH
 refine AW.r ?_
 iterate 2 refine AO.pu T ?_
 refine AO.s rfl (mk_map_ok T rfl 5 rfl rfl rfl rfl rfl (f:=ze0) (l:=[v13]) rfl rfl (fun _=>rfl) rfl rfl rfl rfl rfl) ?_
 refine AO.s rfl (zAr T rfl 6 rfl rfl rfl rfl rfl (by decide) rfl rfl rfl rfl (fun _=>rfl) (needT (hx18)) rfl rfl) ?_
 refine AO.pu T ?_
 refine AO.n (AW.r ?_)
 refine AO.v rfl rfl (zW rfl rfl rfl rfl) ?_
 refine AO.pu T ?_
 refine AO.n ?_
 refine ⟨(k1,(v12++[v13]),w64 (v13+1)),hH,Nat.lt_succ_self _,?_⟩
 exact Le.cut 6 4 rfl ⟨⟨_,rfl,ren_fF chosen_r⟩,⟨_,rfl,rfl⟩,⟨_,rfl,rfl⟩,⟨_,rfl,rfl⟩,trivial⟩ (by repeat' (first | exact trivial | refine ⟨⟨_,rfl,rfl⟩,?_⟩)) (andT (allC (known_fF chosen_r) (allC rfl (allC rfl (allC rfl allN)))) rfl)
 replace hH:=condF hc hH
 refine AW.k (AW.r ?_)
 refine AO.v rfl rfl (zW rfl rfl rfl rfl) ?_
 refine AO.pu T ?_
 refine AO.n ?_
 refine ⟨(k1,v12,w64 (v13+1)),hH,Nat.lt_succ_self _,?_⟩
 exact Le.cut 0 0 rfl ⟨⟨_,rfl,ren_fF chosen_r⟩,⟨_,rfl,rfl⟩,⟨_,rfl,rfl⟩,⟨_,rfl,rfl⟩,trivial⟩ (by repeat' (first | exact trivial | refine ⟨⟨_,rfl,rfl⟩,?_⟩)) (andT (allC (known_fF chosen_r) (allC rfl (allC rfl (allC rfl allN)))) rfl)
 replace hH:=condF hc hH
 refine AW.exit (AW.q (AW.r ?_))
 iterate 2 refine AO.pu T ?_
 refine AO.n (AW.t ?_)
 have hR:=zS hH;subst hR
 exact retQ.i [4] rfl (.c (.c (.rowR rfl)))

def impl_orderOf_c1_p (a:Int):Option Bool :=
 some true
theorem impl_orderOf_c1_ok (a:Int) (r:Bool) (hH:impl_orderOf_c1_p a=some r):SpecR Tryz.prog 111 [a] (.v (.bool r)):=by
 refine zFn T Tryz.func111 rfl (by decide) rfl ?_
 refine AW.q (AW.r (AO.pu T ?_))
 refine AO.n (AW.q (AW.r ?_))
 refine AO.pu T ?_
 refine AO.n (AW.t ?_)
 have hR:=zS hH;subst hR
 exact retQ.i [] rfl (.c (.c .v))

def slices_SortFunc_int_p (x:List Int) (cmp:Int→Int→Option Int):Option (List Int):=sortF cmp x
theorem slices_SortFunc_int_ok (x:List Int) (cmp_f:Nat) (cmp_c:List D) (cmp_k:cmp_c.all D.capOk=true) (cmp:Int→Int→Option Int) (cmp_h:∀ (a0 a1:Int) (q:Int),cmp a0 a1=some q→SpecR Tryz.prog cmp_f ([.v (.int .i64 a0),.v (.int .i64 a1)]++cmp_c) (.v (.int .i64 q))) (r:List Int) (hH:slices_SortFunc_int_p x cmp=some r):SpecM Tryz.prog 112 [.w 1 (x.map ze0),.f cmp_f cmp_c] [.w 1 (r.map ze0),.u] (.t []) :=
  spec_sortF1 ⟨_,Tryz.func112,rfl,by decide⟩ (fun enc h1 cf hO cb blk off cap d w eg hcmp hH hblk hsz=>Tryz.slices_SortFunc enc h1 cf hO cmp_f cb blk off cap d w eg hcmp hH hblk hsz) (fun p cap cb w=>Tryz.slices_SortFunc_none (α:=Int) p cap _ w) cmp_c (cap_sc cmp_k) cmp x r cmp_h hH

def impl_orderOf_c2_p (fuel:Nat) (i:Int) (k:Int) (a:List Result):Option Int :=
 (getI a i).bind fun x1 =>
 (getI a k).bind fun x3 =>
 (impl_compareResults_p fuel x1 x3).bind fun x5 =>
 cond (x5 != 0)
  (some (w64 (-x5)))
  (some (w64 (x1.skater - x3.skater)))
theorem impl_orderOf_c2_ok (fuel:Nat) (i:Int) (k:Int) (a:List Result) (r:Int) (hH:impl_orderOf_c2_p fuel i k a=some r):SpecR Tryz.prog 113 [i,k,.q [.s (List.map ze2 a)]] (.v (.int .i64 r)):=by
 refine zFn T Tryz.func113 rfl (by decide) rfl ?_
 refine AW.q (AW.r (AO.pu T ?_))
 refine AO.n ?_
 iterate 2 refine AW.q ?_
 obtain ⟨x1,hx2,hH⟩:=zB hH
 obtain ⟨x3,hx4,hH⟩:=zB hH
 obtain ⟨x5,hx6,hH⟩:=zB hH
 refine AW.drawn 8 1 [] mix (by kernel_rfl) rfl ?_
 iterate 2 refine AD.p T rfl rfl rfl ?_
 refine AD.w rfl rfl (zX T rfl rfl rfl rfl rfl (hx2) rfl) ?_
 refine AD.p T (d:=.g [x1.skater,.s (List.map ze0 x1.scores)]) rfl rfl rfl ?_
 iterate 2 refine AD.p T rfl rfl rfl ?_
 refine AD.w rfl rfl (zX T rfl rfl rfl rfl rfl (hx4) rfl) ?_
 refine AD.p T (d:=.g [x3.skater,.s (List.map ze0 x3.scores)]) rfl rfl rfl ?_
 refine AD.nil (AO.v rfl rfl (zV rfl rfl rfl rfl (impl_compareResults_ok fuel _ _ _ (hx6)) rfl) ?_)
 refine AO.pu T ?_
 refine AO.n (AW.q (AW.r ?_))
 iterate 2 refine AO.pu T ?_
 refine AO.n (AW.c (b:=(x5 != 0)) rfl (fun hc=>?_) (fun hc=>?_))
 replace hH:=condT hc hH
 refine AW.q (AW.r (AO.pu T ?_))
 refine AO.v rfl rfl (negw_ok rfl rfl) ?_
 refine AO.pu T ?_
 refine AO.n (AW.t ?_)
 have hR:=zS hH;subst hR
 exact retQ.i [] rfl (.c (.c .v))
 replace hH:=condF hc hH
 refine AW.k (AW.q ?_)
 refine AW.drawn 10 1 [] mix (by kernel_rfl) rfl ?_
 iterate 2 refine AD.p T rfl rfl rfl ?_
 refine AD.w rfl rfl (zX T rfl rfl rfl rfl rfl (hx2) rfl) ?_
 iterate 4 refine AD.p T rfl rfl rfl ?_
 refine AD.w rfl rfl (zX T rfl rfl rfl rfl rfl (hx4) rfl) ?_
 iterate 2 refine AD.p T rfl rfl rfl ?_
 refine AD.nil (AO.v rfl rfl (zW rfl rfl rfl rfl) ?_)
 refine AO.pu T ?_
 refine AO.n (AW.le (Le.ct 0 0 (σ':=(⟨[(5,w64 (x1.skater - x3.skater))],[],31,[]⟩:St))) ?_)
 refine AW.t ?_
 have hR:=zS hH;subst hR
 exact retQ.i [] rfl (.c (.c .v))

def impl_orderOf_p (fuel:Nat) (l:List Result):Option (List Int) :=
 (impl_indicesOf_p fuel (l.length:Int) (fun a0=>impl_orderOf_c1_p a0 )).bind fun x1 =>
 (slices_SortFunc_int_p x1 (fun a0 a1=>impl_orderOf_c2_p fuel a0 a1 l)).bind fun x3 =>
 some x3
theorem impl_orderOf_ok (fuel:Nat) (l:List Result) (r:(List Int)) (hH:impl_orderOf_p fuel l=some r):SpecR Tryz.prog 72 [.s (List.map ze2 l)] (.w 1 (r.map ze0)):=by
 refine zFn T Tryz.func72 rfl (by decide) rfl ?_
 refine AW.q (AW.r (AO.s rfl (zBx T rfl 1 rfl rfl rfl rfl) ?_))
 refine AO.pu T ?_
 refine AO.n (AW.q ?_)
 obtain ⟨x1,hx2,hH⟩:=zB hH
 refine AW.r (AO.pu T ?_)
 refine AO.v rfl rfl (zL T rfl rfl rfl) ?_
 refine AO.s rfl (call_ok rfl 2 rfl rfl rfl (impl_indicesOf_ok fuel _ 111 [] rfl (fun a0=>impl_orderOf_c1_p a0 ) (fun a0 q h=>impl_orderOf_c1_ok a0  q h) _ (hx2)) rfl rfl rfl) ?_
 refine AO.pu T ?_
 refine AO.n (AW.q ?_)
 obtain ⟨x3,hx4,hH⟩:=zB hH
 refine AW.le (Le.freezeB 1 rfl rfl) ?_
 refine AW.r ?_
 iterate 2 refine AO.pu T ?_
 refine AO.s rfl (zM rfl 3 rfl rfl (es:=[.w 1 (x1.map ze0),.f 113 [.q [.s (List.map ze2 l)]]]) (outs:=[.w 1 (x3.map ze0),.u]) (ids:=[2]) (by exact zG (.c (.rowR rfl)) (zG (.c (.f rfl)) (zGn))) (by decide) (.inl (by rfl)) (by rfl) (slices_SortFunc_int_ok _ 113 [.q [.s (List.map ze2 l)]] rfl (fun a0 a1=>impl_orderOf_c2_p fuel a0 a1 l) (fun a0 a1 q h=>impl_orderOf_c2_ok fuel a0 a1  l q h) _ (hx4)) rfl (by rfl) rfl) ?_
 refine AO.n (AW.q (AW.r ?_))
 iterate 2 refine AO.pu T ?_
 refine AO.n (AW.t ?_)
 have hR:=zS hH;subst hR
 exact retQ.i [2] rfl (.c (.c (.rowR rfl)))

def impl_skatersOf_l1 (results:List Result):List Int→Nat→List Int→Option ((List Int))
 | [],k1,v16 =>
  some v16
 | y2::ys3,k1,v16 =>
  (getI results y2).bind fun x18 =>
  (need (fitsB 8 (v16.length+([x18.skater]).length))).bind fun u20 =>
  impl_skatersOf_l1 results ys3 (k1+1) (v16++[x18.skater])
def impl_skatersOf_p (results:List Result) (indices:List Int):Option (List Int) :=
 impl_skatersOf_l1 results indices 0 []
theorem impl_skatersOf_ok (results:List Result) (indices:List Int) (r:(List Int)) (hH:impl_skatersOf_p results indices=some r):SpecR Tryz.prog 74 [.s (List.map ze2 results),.s (List.map ze0 indices)] (.w 1 (r.map ze0)):=by
 refine zFn T Tryz.func74 rfl (by decide) rfl ?_
 refine AW.q (AW.r (AO.pu T ?_))
 refine AO.n (AW.q (AW.r ?_))
 refine AO.s rfl (mk0_ok T rfl rfl rfl rfl) ?_
 refine AO.pu T ?_
 refine AO.n ?_
 iterate 2 refine AW.q ?_
 refine AW.r (AO.pu T ?_)
 refine AO.v rfl rfl (zL T rfl rfl rfl) ?_
 refine AO.pu T ?_
 refine AO.n (AW.b ?_)
 refine AW.loopS (fun s:Nat × (List Int)=>(⟨[(0,.s (List.map ze2 results)),(5,.R 4),(9,.s (List.map ze0 indices)),(10,(indices.length:Int)),(11,(s.1:Int))],[(4,.row 1 (List.map ze0 s.2))],25,[]⟩:St)) (fun s=>s.1 ≤ indices.length∧impl_skatersOf_l1 results (indices.drop s.1) s.1 s.2=some r) (fun s=>indices.length - s.1) (0,[]) ⟨Nat.zero_le _,hH⟩ ?_ ?_
 refine Le.trans (Le.void 5 4 1 rfl rfl) ?_
 exact Le.ct 0 0
 rintro ⟨k1,v16⟩ ⟨hk,hH⟩
 replace hH:impl_skatersOf_l1 results (indices.drop k1) k1 v16=some r:=hH
 try dsimp only
 refine AW.boundM (t:=9) (l:=indices) rfl (fun hb5=>?_)
 rcases hd4:indices.drop k1 with _ | ⟨y2,ys3⟩
 rw [hd4,impl_skatersOf_l1] at hH
 have hlt6:=drop_ge hd4
 refine AW.q (AW.r (AO.pu T ?_))
 refine AO.n (AW.q (AW.condF' (b:=decide ((k1:Int) < (indices.length:Int))) rfl (rngF hlt6) ?_))
 refine AW.exit (AW.q (AW.r ?_))
 iterate 2 refine AO.pu T ?_
 refine AO.n (AW.t ?_)
 have hR:=zS hH;subst hR
 exact retQ.i [4] rfl (.c (.c (.rowR rfl)))
 rw [hd4,impl_skatersOf_l1] at hH
 have hlt6:=drop_lt hd4
 refine AW.q (AW.r (AO.pu T ?_))
 refine AO.n (AW.q (AW.condT' (b:=decide ((k1:Int) < (indices.length:Int))) rfl (rngT hlt6) ?_))
 refine AW.k (AW.q ?_)
 refine AW.b (AW.q (AW.r ?_))
 refine AO.v rfl rfl (zX T rfl rfl rfl rfl rfl (zgD hd4) rfl) ?_
 iterate 2 refine AO.pu T ?_
 refine AO.n ?_
 obtain ⟨x18,hx19,hH⟩:=zB hH
 obtain ⟨u20,hx21,hH⟩:=zB hH
 refine AW.r ?_
 iterate 3 refine AO.pu T ?_
 refine AO.v rfl rfl (zX T rfl rfl rfl rfl rfl (hx19) rfl) ?_
 iterate 2 refine AO.pu T ?_
 refine AO.s rfl (mk_map_ok T rfl 5 rfl rfl rfl rfl rfl (f:=ze0) (l:=[x18.skater]) rfl rfl (fun _=>rfl) rfl rfl rfl rfl rfl) ?_
 refine AO.s rfl (zAr T rfl 6 rfl rfl rfl rfl rfl (by decide) rfl rfl rfl rfl (fun _=>rfl) (needT (hx21)) rfl rfl) ?_
 refine AO.pu T ?_
 refine AO.n (AW.r ?_)
 refine AO.v rfl rfl (zR rfl rfl rfl rfl (zK hlt6 hb5)) ?_
 refine AO.pu T ?_
 refine AO.n ?_
 refine ⟨(k1+1,(v16++[x18.skater])),⟨Nat.succ_le_of_lt hlt6,(by rw [zds hd4];exact hH)⟩,(by have:=hlt6;dsimp only;omega),?_⟩
 exact Le.ct 6 4

def impl_StandingsOf_l1 (e:Event) (fuel:Nat) (x3:(List Int)):List Int→Nat→List Int→Option (((List Int) × (List Int) × Bool))
 | [],k5,v20 =>
  (impl_skatersOf_p e.results x3).bind fun x22 =>
  some (x22,v20,true)
 | y6::ys7,k5,v20 =>
  (impl_placeOf_p fuel e.results y6).bind fun x24 =>
  (need (fitsB 8 (v20.length+([x24]).length))).bind fun u26 =>
  impl_StandingsOf_l1 e fuel x3 ys7 (k5+1) (v20++[x24])
def impl_StandingsOf_p (fuel:Nat) (e:Event):Option ((List Int) × (List Int) × Bool) :=
 (impl_IsEvent_p e).bind fun x1 =>
 cond (!x1)
  (some ([],[],false))
  ((impl_orderOf_p fuel e.results).bind fun x3 =>
  impl_StandingsOf_l1 e fuel x3 x3 0 [])
theorem impl_StandingsOf_ok (fuel:Nat) (e:Event) (r:((List Int) × (List Int) × Bool)) (hH:impl_StandingsOf_p fuel e=some r):SpecR Tryz.prog 30 [.g (ze4 e)] (.t [.w 1 (r.1.map ze0),.w 1 (r.2.1.map ze0),.v (.bool r.2.2)]):=by
 refine zFn T Tryz.func30 rfl (by decide) rfl ?_
 refine AW.q (AW.r (AO.s rfl (zBx T rfl 1 rfl rfl rfl rfl) ?_))
 iterate 3 refine AO.pu T ?_
 refine AO.n ?_
 iterate 2 refine AW.q ?_
 obtain ⟨x1,hx2,hH⟩:=zB hH
 refine AW.r (AO.pu T (d:=.g [e.segments,e.size,e.key,.s (List.map ze1 e.entrants),.s (List.map ze0 e.gone),e.segment,.s (List.map ze0 e.order),.s (List.map ze2 e.results)]) ?_)
 refine AO.v rfl rfl (zV rfl rfl rfl rfl (impl_IsEvent_ok _ _ (hx2)) rfl) ?_
 refine AO.pu T ?_
 refine AO.n (AW.c (b:=(!x1)) rfl (fun hc=>?_) (fun hc=>?_))
 replace hH:=condT hc hH
 refine AW.q (AW.r ?_)
 iterate 3 refine AO.pu T ?_
 refine AO.n (AW.t ?_)
 have hR:=zS hH;subst hR
 exact retQ.i [] rfl (.t (zG (.c .nil) (zG (.c .nil) (zG (.c .v) (zGn)))))
 replace hH:=condF hc hH
 refine AW.k (AW.q ?_)
 obtain ⟨x3,hx4,hH⟩:=zB hH
 refine AW.r ?_
 iterate 2 refine AO.pu T ?_
 refine AO.s rfl (call_ok rfl 2 rfl rfl rfl (impl_orderOf_ok fuel _ _ (hx4)) rfl rfl rfl) ?_
 refine AO.s rfl (mk0_ok T rfl rfl rfl rfl) ?_
 iterate 2 refine AO.pu T ?_
 refine AO.n ?_
 iterate 2 refine AW.q ?_
 refine AW.r (AO.pu T ?_)
 refine AO.v rfl rfl (len_row_ok T rfl rfl rfl rfl) ?_
 refine AO.pu T ?_
 refine AO.n (AW.b ?_)
 refine AW.loopS (fun s:Nat × (List Int)=>(⟨[(1,.p 1 0),(5,.R 2),(6,.R 6),(16,.R 2),(17,(x3.length:Int)),(18,(s.1:Int))],[(1,.box [e.segments,e.size,e.key,.s (List.map ze1 e.entrants),.s (List.map ze0 e.gone),e.segment,.s (List.map ze0 e.order),.s (List.map ze2 e.results)]),(2,.row 1 (List.map ze0 x3)),(6,.row 1 (List.map ze0 s.2))],35,[]⟩:St)) (fun s=>s.1 ≤ x3.length∧impl_StandingsOf_l1 e fuel x3 (x3.drop s.1) s.1 s.2=some r) (fun s=>x3.length - s.1) (0,[]) ⟨Nat.zero_le _,hH⟩ ?_ ?_
 refine Le.trans (Le.void 6 6 1 rfl rfl) ?_
 exact Le.ct 0 0
 rintro ⟨k5,v20⟩ ⟨hk,hH⟩
 replace hH:impl_StandingsOf_l1 e fuel x3 (x3.drop k5) k5 v20=some r:=hH
 try dsimp only
 refine AW.boundR (id:=2) (l:=x3) rfl (fun hb9=>?_)
 rcases hd8:x3.drop k5 with _ | ⟨y6,ys7⟩
 rw [hd8,impl_StandingsOf_l1] at hH
 have hlt10:=drop_ge hd8
 refine AW.q (AW.r (AO.pu T ?_))
 refine AO.n (AW.q (AW.condF' (b:=decide ((k5:Int) < (x3.length:Int))) rfl (rngF hlt10) ?_))
 refine AW.exit (AW.q ?_)
 obtain ⟨x22,hx23,hH⟩:=zB hH
 refine AW.r ?_
 iterate 3 refine AO.pu T ?_
 refine AO.s rfl (callL_ok rfl 7 rfl rfl (es:=[.s (List.map ze2 e.results),.s (List.map ze0 x3)]) (by exact ⟨.free rfl,(.rowR rfl (.map fun y=>.vs rfl)),trivial⟩) (impl_skatersOf_ok _ _ _ (hx23)) (zfree_map (fun y=>(.cons (zfree_v _) .nil))) rfl rfl rfl) ?_
 iterate 4 refine AO.pu T ?_
 refine AO.n (AW.t ?_)
 have hR:=zS hH;subst hR
 exact retQ.i [7,6] rfl (.t (zG (.c (.rowR rfl)) (zG (.c (.rowR rfl)) (zG (.c .v) (zGn)))))
 rw [hd8,impl_StandingsOf_l1] at hH
 have hlt10:=drop_lt hd8
 refine AW.q (AW.r (AO.pu T ?_))
 refine AO.n (AW.q (AW.condT' (b:=decide ((k5:Int) < (x3.length:Int))) rfl (rngT hlt10) ?_))
 refine AW.k (AW.q ?_)
 refine AW.b (AW.q (AW.r ?_))
 refine AO.v rfl rfl (zXr T rfl rfl rfl rfl rfl rfl (zgD hd8)) ?_
 refine AO.v rfl rfl (zLr T rfl rfl rfl rfl (zgG (zgD hd8)) rfl rfl rfl) ?_
 refine AO.pu T ?_
 refine AO.n ?_
 obtain ⟨x24,hx25,hH⟩:=zB hH
 obtain ⟨u26,hx27,hH⟩:=zB hH
 refine AW.r ?_
 iterate 4 refine AO.pu T ?_
 refine AO.v rfl rfl (zV rfl rfl rfl rfl (impl_placeOf_ok fuel _ _ _ (hx25)) rfl) ?_
 refine AO.s rfl (mk_map_ok T rfl 8 rfl rfl rfl rfl rfl (f:=ze0) (l:=[x24]) rfl rfl (fun _=>rfl) rfl rfl rfl rfl rfl) ?_
 refine AO.s rfl (zAr T rfl 9 rfl rfl rfl rfl rfl (by decide) rfl rfl rfl rfl (fun _=>rfl) (needT (hx27)) rfl rfl) ?_
 refine AO.pu T ?_
 refine AO.n (AW.r ?_)
 refine AO.v rfl rfl (zR rfl rfl rfl rfl (zK hlt10 hb9)) ?_
 refine AO.pu T ?_
 refine AO.n ?_
 refine ⟨(k5+1,(v20++[x24])),⟨Nat.succ_le_of_lt hlt10,(by rw [zds hd8];exact hH)⟩,(by have:=hlt10;dsimp only;omega),?_⟩
 exact Le.ct 9 6

end Go.Proofs.YtegdphhfimaieabGreat

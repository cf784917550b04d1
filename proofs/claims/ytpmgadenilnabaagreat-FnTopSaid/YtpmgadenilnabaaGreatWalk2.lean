/- The walk, part 2: what each function reached by the law FnTop computes. No condition. -/
import Derived.Test.YtpmgadenilnabaaGreatWalk1
set_option maxRecDepth 4000
set_option maxHeartbeats 1000000
set_option linter.unusedVariables false
set_option linter.unusedSimpArgs false
set_option linter.unusedSectionVars false

namespace Go.Proofs.YtpmgadenilnabaaGreat
open Go.AM

def qBG (x1:(L1Cur × Item)) (x15:(L1Cur × Int)):Nat→List ByteArray→List Int→Option ((L1Cur × Item))
 | 0,_,_=>none
 | k17+1,v28,v29 =>
  cond (decide ((v28.length:Int) < (w64 (3+x15.2))))
   ((qCw (qBE 16 (v28.length+([(⟨#[49,84]⟩:ByteArray)]).length))).bind fun u31 =>
   (qCw (qBE 8 (v29.length+(([1]:List Int)).length))).bind fun u33 =>
   qBG x1 x15 k17 (v28++[(⟨#[49,84]⟩:ByteArray)]) (v29++([1]:List Int)))
   (some (x15.1,(Item.mk v28 v29 x1.2.late)))
def qD3 (fuel:Nat) (c:L1Cur):Option (L1Cur × Item) :=
 (qEF fuel c [(⟨#[51,65]⟩:ByteArray),(⟨#[50,84]⟩:ByteArray),(⟨#[52,83]⟩:ByteArray),(⟨#[67,67,79,83,80]⟩:ByteArray),(⟨#[83,84]⟩:ByteArray),(⟨#[65]⟩:ByteArray),(⟨#[48]⟩:ByteArray)]).bind fun x1 =>
 (qAA x1.1 24).bind fun x3 =>
 cond (x3.2 == 0)
  ((qC3 x3.1 [(⟨#[]⟩:ByteArray),(⟨#[97]⟩:ByteArray),(⟨#[65,66,67,68,69]⟩:ByteArray),(⟨#[65,66,67,68,69,70]⟩:ByteArray),(⟨#[51,65,60]⟩:ByteArray),(⟨#[65,32,66]⟩:ByteArray)]).bind fun x5 =>
  (qAb x1.2.names 0).bind fun x7 =>
  some (x5.1,(Item.mk (x1.2.names.set ((0:Int).toNat) x5.2) x1.2.marks x1.2.late)))
  (cond (x3.2 == 1)
   ((qAC x3.1 ([(-1),3,4]:List Int)).bind fun x9 =>
   (qAb x1.2.marks 0).bind fun x11 =>
   some (x9.1,(Item.mk x1.2.names (x1.2.marks.set ((0:Int).toNat) x9.2) x1.2.late)))
   (cond (x3.2 == 2)
    ((qCw (qBE 8 (x1.2.marks.length+(([0]:List Int)).length))).bind fun u13 =>
    some (x3.1,(Item.mk x1.2.names (x1.2.marks++([0]:List Int)) x1.2.late)))
    (cond (x3.2 == 3)
     ((qAA x3.1 2).bind fun x15 =>
     qBG x1 x15 fuel x1.2.names x1.2.marks)
     (cond (x3.2 == 4)
      (some (x3.1,(Item.mk [] [] false)))
      (some (x3.1,x1.2))))))
theorem qJA (fuel:Nat) (c:L1Cur) (r:(L1Cur × Item)) (hH:qD3 fuel c=some r):qE7 Tryz.prog 212 [.pw (ze9 c)] [.pw (ze9 r.1)] (.g (qGM r.2)):=by
 refine qEy T Tryz.func212 rfl (by decide) rfl rfl ?_
 intro L
 show AW _ _ _ (⟨[(0,.p 1 0)],[(1,.box [.s (List.map ze4 c.code),c.at',.v (.int .u64 c.seed)])],57,[(1,L 1)]⟩:St)
 refine AW.q (AW.r (AO.x (als T 2) ?_))
 refine AO.n (AW.q ?_)
 obtain ⟨x1,hx2,hH⟩:=zB hH
 refine AW.r (AO.pu T ?_)
 refine AO.x (mks T 3 ze5 ([(⟨#[51,65]⟩:ByteArray),(⟨#[50,84]⟩:ByteArray),(⟨#[52,83]⟩:ByteArray),(⟨#[67,67,79,83,80]⟩:ByteArray),(⟨#[83,84]⟩:ByteArray),(⟨#[65]⟩:ByteArray),(⟨#[48]⟩:ByteArray)])) ?_
 refine AO.le (Le.fM 3 (g:=ze5) rfl (fun y=>.vs rfl)) ?_
 refine AO.x (cMs 4 [1] (S:=qJo fuel _ _ _ (hx2)) (hp:=by exact zG (.c (.box rfl rfl)) (zG (.c .s) (zGn)))) ?_
 refine AO.x (als T 6) ?_
 refine AO.se T [.R 4,.R 5,.v (.bool x1.2.late)] ?_
 refine AO.n (AW.q (AW.q ?_))
 obtain ⟨x3,hx4,hH⟩:=zB hH
 refine AW.r (AO.pu T ?_)
 refine AO.x (cMs 7 [1] (S:=qAB _ _ _ (hx4)) (hp:=by exact zG (.c (.box rfl rfl)) (zG (.c .v) (zGn)))) ?_
 refine AO.n (AW.b ?_)
 refine AW.q (AW.r (AO.p2 T ?_))
 refine AO.n (AW.c (b:=(x3.2 == 0)) rfl (fun hc=>?_) (fun hc=>?_))
 replace hH:=condT hc hH
 obtain ⟨x5,hx6,hH⟩:=zB hH
 obtain ⟨x7,hx8,hH⟩:=zB hH
 refine AW.drawn 5 7 [1] mix (by kernel_rfl) rfl ?_
 iterate 3 refine AD.pu T ?_
 refine AD.vv (qIr T rfl rfl rfl rfl rfl rfl (f:=ze5) (l:=[(⟨#[]⟩:ByteArray),(⟨#[97]⟩:ByteArray),(⟨#[65,66,67,68,69]⟩:ByteArray),(⟨#[65,66,67,68,69,70]⟩:ByteArray),(⟨#[51,65,60]⟩:ByteArray),(⟨#[65,32,66]⟩:ByteArray)]) rfl rfl (fun _=>rfl) rfl rfl rfl) ?_
 refine AD.kk (cMF [1] (S:=qEN _ _ _ (hx6)) (hp:=by exact zG (.c (.box rfl rfl)) (zG (.c .s) (zGn)))) ?_
 refine AD.nil (AO.w (ixr T (hx8)) ?_)
 refine AO.x (zSr T rfl rfl rfl rfl rfl (zgG (hx8)) rfl rfl rfl rfl (u':=x5.2) rfl rfl) ?_
 refine AO.n (AW.q (AW.r ?_))
 refine AO.pu T (d:=.g [.R 4,.R 5,.v (.bool x1.2.late)]) ?_
 refine AO.se T [.R 4,.R 5,.v (.bool x1.2.late)] ?_
 refine AO.n (AW.t ?_)
 have hR:=zS hH;subst hR
 exact ⟨trivial,rfl,_,[4,5],[1],rfl,zG (.c (.box rfl rfl)) (zGn),.c (.g (zC (.rowR rfl) (zC (.rowR rfl) (zC .v (zCn))))),by decide⟩
 replace hH:=condF hc hH
 refine AW.q (AW.r (AO.p2 T ?_))
 refine AO.n (AW.c (b:=(x3.2 == 1)) rfl (fun hc=>?_) (fun hc=>?_))
 replace hH:=condT hc hH
 obtain ⟨x9,hx10,hH⟩:=zB hH
 obtain ⟨x11,hx12,hH⟩:=zB hH
 refine AW.drawn 5 7 [1] mix (by kernel_rfl) rfl ?_
 iterate 3 refine AD.pu T ?_
 refine AD.vv (qIr T rfl rfl rfl rfl rfl rfl (f:=ze0) (l:=([(-1),3,4]:List Int)) rfl rfl (fun _=>rfl) rfl rfl rfl) ?_
 refine AD.kk (cMF [1] (S:=qAD _ _ _ (hx10)) (hp:=by exact zG (.c (.box rfl rfl)) (zG (.c .s) (zGn)))) ?_
 refine AD.nil (AO.w (ixr T (hx12)) ?_)
 refine AO.x (zSr T rfl rfl rfl rfl rfl (zgG (hx12)) rfl rfl rfl rfl (u':=x9.2) rfl rfl) ?_
 refine AO.n (AW.q (AW.r ?_))
 refine AO.pu T (d:=.g [.R 4,.R 5,.v (.bool x1.2.late)]) ?_
 refine AO.se T [.R 4,.R 5,.v (.bool x1.2.late)] ?_
 refine AO.n (AW.t ?_)
 have hR:=zS hH;subst hR
 exact ⟨trivial,rfl,_,[4,5],[1],rfl,zG (.c (.box rfl rfl)) (zGn),.c (.g (zC (.rowR rfl) (zC (.rowR rfl) (zC .v (zCn))))),by decide⟩
 replace hH:=condF hc hH
 refine AW.q (AW.r (AO.p2 T ?_))
 refine AO.n (AW.c (b:=(x3.2 == 2)) rfl (fun hc=>?_) (fun hc=>?_))
 replace hH:=condT hc hH
 obtain ⟨u13,hx14,hH⟩:=zB hH
 refine AW.r (AO.p2 T ?_)
 refine AO.x (mks T 7 ze0 (([0]:List Int))) ?_
 refine AO.x (rvs T 8 (hfit:=by exact qA4 (hx14))) ?_
 refine AO.pu T ?_
 refine AO.se T [.R 4,.R 8,.v (.bool x1.2.late)] ?_
 refine AO.n (AW.q (AW.r ?_))
 refine AO.pu T (d:=.g [.R 4,.R 8,.v (.bool x1.2.late)]) ?_
 refine AO.se T [.R 4,.R 8,.v (.bool x1.2.late)] ?_
 refine AO.n (AW.t ?_)
 have hR:=zS hH;subst hR
 exact ⟨trivial,rfl,_,[4,8],[1],rfl,zG (.c (.box rfl rfl)) (zGn),.c (.g (zC (.rowR rfl) (zC (.rowR rfl) (zC .v (zCn))))),by decide⟩
 replace hH:=condF hc hH
 refine AW.q (AW.r (AO.p2 T ?_))
 refine AO.n (AW.c (b:=(x3.2 == 3)) rfl (fun hc=>?_) (fun hc=>?_))
 replace hH:=condT hc hH
 refine AW.q ?_
 obtain ⟨x15,hx16,hH⟩:=zB hH
 refine AW.r (AO.pu T ?_)
 refine AO.x (cMs 9 [1] (S:=qAB _ _ _ (hx16)) (hp:=by exact zG (.c (.box rfl rfl)) (zG (.c .v) (zGn)))) ?_
 refine AO.w aws ?_
 refine AO.pu T ?_
 refine AO.n (AW.b ?_)
 refine AW.loopS (fun s:Nat × (List ByteArray) × (List Int)=>(⟨[(2,.p 2 0),(3,.p 6 0),(4,w64 (3+x15.2))],[(1,.box [.s (List.map ze4 x15.1.code),x15.1.at',.v (.int .u64 x15.1.seed)]),(2,.box [.w 0 [],.w 0 [],.v (.bool false)]),(4,.row 1 (List.map ze5 s.2.1)),(5,.row 1 (List.map ze0 s.2.2)),(6,.box [.R 4,.R 5,.v (.bool x1.2.late)])],57,[(1,L 1)]⟩:St)) (fun s=>qBG x1 x15 s.1 s.2.1 s.2.2=some r) (fun s=>s.1) (fuel,x1.2.names,x1.2.marks) hH ?_ ?_
 exact Le.ct 0 0 (hpin:=⟨⟨rfl,rfl⟩,trivial⟩)
 rintro ⟨k17,v28,v29⟩ hH
 replace hH:qBG x1 x15 k17 v28 v29=some r:=hH
 try dsimp only
 rcases k17 with _ | k17
 cases (show none=some _ from hH)
 rw [qBG] at hH
 refine AW.q (AW.q (AW.r ?_))
 refine AO.p2 T ?_
 refine AO.w (qGn T) ?_
 refine AO.p2 T ?_
 refine AO.n (AW.c (b:=decide ((v28.length:Int) < (w64 (3+x15.2)))) rfl (fun hc=>?_) (fun hc=>?_))
 replace hH:=condT hc hH
 refine AW.k (AW.b ?_)
 refine AW.q ?_
 obtain ⟨u31,hx32,hH⟩:=zB hH
 refine AW.r (AO.p2 T ?_)
 refine AO.x (mks T 17 ze5 ([(⟨#[49,84]⟩:ByteArray)])) ?_
 refine AO.x (rvs T 18 (hfit:=by exact qA4 (hx32))) ?_
 refine AO.pu T ?_
 refine AO.se T [.R 18,.R 5,.v (.bool x1.2.late)] ?_
 refine AO.n ?_
 obtain ⟨u33,hx34,hH⟩:=zB hH
 refine AW.r (AO.p2 T ?_)
 refine AO.x (mks T 19 ze0 (([1]:List Int))) ?_
 refine AO.x (rvs T 20 (hfit:=by exact qA4 (hx34))) ?_
 refine AO.pu T ?_
 refine AO.se T [.R 18,.R 20,.v (.bool x1.2.late)] ?_
 refine AO.n ?_
 refine ⟨(k17,(v28++[(⟨#[49,84]⟩:ByteArray)]),(v29++([1]:List Int))),hH,Nat.lt_succ_self _,?_⟩
 refine Le.trans (Le.ct 18 4 (σ':=(⟨[(2,.p 2 0),(3,.p 6 0),(4,w64 (3+x15.2))],[(1,.box [.s (List.map ze4 x15.1.code),x15.1.at',.v (.int .u64 x15.1.seed)]),(2,.box [.w 0 [],.w 0 [],.v (.bool false)]),(4,.row 1 (List.map ze5 (v28++[(⟨#[49,84]⟩:ByteArray)]))),(6,.box [.R 4,.R 20,.v (.bool x1.2.late)]),(20,.row 1 (List.map ze0 (v29++([1]:List Int))))],57,[(1,L 1)]⟩:St)) (hpin:=⟨⟨rfl,rfl⟩,trivial⟩)) ?_
 exact Le.ct 20 5 (hpin:=⟨⟨rfl,rfl⟩,trivial⟩)
 replace hH:=condF hc hH
 refine AW.exit (AW.q (AW.r ?_))
 refine AO.pu T (d:=.g [.R 4,.R 5,.v (.bool x1.2.late)]) ?_
 refine AO.se T [.R 4,.R 5,.v (.bool x1.2.late)] ?_
 refine AO.n (AW.t ?_)
 have hR:=zS hH;subst hR
 exact ⟨trivial,rfl,_,[4,5],[1],rfl,zG (.c (.box rfl rfl)) (zGn),.c (.g (zC (.rowR rfl) (zC (.rowR rfl) (zC .v (zCn))))),by decide⟩
 replace hH:=condF hc hH
 refine AW.q (AW.r (AO.p2 T ?_))
 refine AO.n (AW.c (b:=(x3.2 == 4)) rfl (fun hc=>?_) (fun hc=>?_))
 replace hH:=condT hc hH
 refine AW.r (AO.pu T (d:=.g [.w 0 [],.w 0 [],.v (.bool false)]) ?_)
 refine AO.se T [.w 0 [],.w 0 [],.v (.bool false)] ?_
 refine AO.n (AW.q (AW.r ?_))
 refine AO.pu T (d:=.g [.w 0 [],.w 0 [],.v (.bool false)]) ?_
 refine AO.se T [.w 0 [],.w 0 [],.v (.bool false)] ?_
 refine AO.n (AW.t ?_)
 have hR:=zS hH;subst hR
 exact ⟨trivial,rfl,_,[],[1],rfl,zG (.c (.box rfl rfl)) (zGn),.c (.g (zC .nil (zC .nil (zC .v (zCn))))),by decide⟩
 replace hH:=condF hc hH
 refine AW.k (AW.q (AW.r ?_))
 refine AO.pu T (d:=.g [.R 4,.R 5,.v (.bool x1.2.late)]) ?_
 refine AO.se T [.R 4,.R 5,.v (.bool x1.2.late)] ?_
 refine AO.n (AW.t ?_)
 have hR:=zS hH;subst hR
 exact ⟨trivial,rfl,_,[4,5],[1],rfl,zG (.c (.box rfl rfl)) (zGn),.c (.g (zC (.rowR rfl) (zC (.rowR rfl) (zC .v (zCn))))),by decide⟩

def qA6 (x41:(L1Cur × Int)):Nat→List Item→Option ((L1Cur × (List Item)))
 | 0,_=>none
 | k43+1,v49 =>
  cond (decide ((v49.length:Int) < (w64 (14+x41.2))))
   ((qCw (qBE 56 (v49.length+([(Item.mk [(⟨#[49,84]⟩:ByteArray)] ([0]:List Int) false)]).length))).bind fun u51 =>
   qA6 x41 k43 (v49++[(Item.mk [(⟨#[49,84]⟩:ByteArray)] ([0]:List Int) false)]))
   (some (x41.1,v49))
def qAr (fuel:Nat):Nat→List Int→Int→Int→List Item→Int→Option ((L1Cur × (List Item)))
 | 0,_,_,_,_,_=>none
 | k3+1,v25,v26,v27,v28,v29 =>
  cond (decide (v29 > 0))
   ((qD3 fuel (L1Cur.mk v25 v26 v27)).bind fun x31 =>
   (qFu fuel x31.2).bind fun x33 =>
   (opt (!x33) (x31.1,default) (qAH x31.1 4)).bind fun x35 =>
   cond (x33 || x35.2)
    ((qCw (qBE 56 (v28.length+([x31.2]).length))).bind fun u37 =>
    qAr fuel k3 x35.1.code x35.1.at' x35.1.seed (v28++[x31.2]) (w64 (v29 - 1)))
    (qAr fuel k3 x35.1.code x35.1.at' x35.1.seed v28 (w64 (v29 - 1))))
   ((qAH (L1Cur.mk v25 v26 v27) 24).bind fun x39 =>
   cond x39.2
    ((qAA x39.1 2).bind fun x41 =>
    qA6 x41 fuel v28)
    (some (x39.1,v28)))
def qDo (fuel:Nat) (c:L1Cur):Option (L1Cur × (List Item)) :=
 (qAA c 7).bind fun x1 =>
 qAr fuel fuel x1.1.code x1.1.at' x1.1.seed [] x1.2
theorem qIv (fuel:Nat) (c:L1Cur) (r:(L1Cur × (List Item))) (hH:qDo fuel c=some r):qE7 Tryz.prog 188 [.pw (ze9 c)] [.pw (ze9 r.1)] (.w 3 (r.2.map qGM)):=by
 refine qEy T Tryz.func188 rfl (by decide) rfl rfl ?_
 intro L
 show AW _ _ _ (⟨[(0,.p 1 0)],[(1,.box [.s (List.map ze4 c.code),c.at',.v (.int .u64 c.seed)])],41,[(1,L 1)]⟩:St)
 refine AW.q (AW.r (AO.pu T ?_))
 refine AO.n (AW.q (AW.r ?_))
 refine AO.pu T ?_
 refine AO.n (AW.q (AW.q ?_))
 obtain ⟨x1,hx2,hH⟩:=zB hH
 refine AW.r (AO.pu T ?_)
 refine AO.x (cMs 2 [1] (S:=qAB _ _ _ (hx2)) (hp:=by exact zG (.c (.box rfl rfl)) (zG (.c .v) (zGn)))) ?_
 refine AO.pu T ?_
 refine AO.n (AW.b ?_)
 refine AW.loopS (fun s:Nat × (List Int) × Int × Int × (List Item) × Int=>(⟨[(0,.p 1 0),(3,.R 11),(4,s.2.2.2.2.2)],[(1,.box [.s (List.map ze4 s.2.1),s.2.2.1,.v (.int .u64 s.2.2.2.1)]),(11,.row 3 (List.map qGM s.2.2.2.2.1))],41,[(1,L 1)]⟩:St)) (fun s=>qAr fuel s.1 s.2.1 s.2.2.1 s.2.2.2.1 s.2.2.2.2.1 s.2.2.2.2.2=some r) (fun s=>s.1) (fuel,x1.1.code,x1.1.at',x1.1.seed,[],x1.2) hH ?_ ?_
 refine Le.trans (Le.void 3 11 3 rfl rfl) ?_
 exact Le.ct 0 0 (hpin:=⟨⟨rfl,rfl⟩,trivial⟩)
 rintro ⟨k3,v25,v26,v27,v28,v29⟩ hH
 replace hH:qAr fuel k3 v25 v26 v27 v28 v29=some r:=hH
 try dsimp only
 rcases k3 with _ | k3
 cases (show none=some _ from hH)
 rw [qAr] at hH
 refine AW.q (AW.q (AW.r ?_))
 refine AO.p2 T ?_
 refine AO.n (AW.c (b:=decide (v29 > 0)) rfl (fun hc=>?_) (fun hc=>?_))
 replace hH:=condT hc hH
 refine AW.k (AW.q ?_)
 refine AW.b (AW.q ?_)
 obtain ⟨x31,hx32,hH⟩:=zB hH
 refine AW.r (AO.pu T ?_)
 refine AO.x (cMs 12 [1] (S:=qJA fuel _ _ (hx32)) (hp:=by exact zG (.c (.box rfl rfl)) (zGn))) ?_
 refine AO.x (als T 14) ?_
 refine AO.se T [.R 12,.R 13,.v (.bool x31.2.late)] ?_
 refine AO.n (AW.q ?_)
 obtain ⟨x33,hx34,hH⟩:=zB hH
 obtain ⟨x35,hx36,hH⟩:=zB hH
 refine AW.r (AO.pu T (d:=.g [.R 12,.R 13,.v (.bool x31.2.late)]) ?_)
 refine AO.w (zLV rfl rfl rfl (es:=[.g (ze2 x31.2)]) ⟨qE1 (LendL.cons ((.rowR rfl (.map fun y=>.vs rfl))) (LendL.cons ((.rowR rfl (.map fun y=>.vs rfl))) (LendL.cons (.free rfl) LendL.nil))),trivial⟩ (qJw fuel _ _ (hx34)) (qAF _) rfl) ?_
 refine AO.pu T ?_
 refine AO.g T [] rfl trivial rfl rfl ?_
 refine AO.guardP (id:=1) (cs':=[.s (List.map ze4 x35.1.code),x35.1.at',.v (.int .u64 x35.1.seed)]) (r:=.v (.bool x35.2)) [18] rfl ⟨fun h=>h,trivial⟩ (fun hg=>zM rfl 15 rfl rfl (es:=[.pw (ze9 x31.1),.v (.int .i64 4)]) (outs:=[.pw (ze9 x35.1),.u]) (ids:=[1]) (by exact zG (.c (.box rfl rfl)) (zG (.c .v) (zGn))) (by decide) (.inl (by rfl)) (by rfl) (qAL _ _ _ (qEA hx36 hg)) rfl (by rfl) rfl) rfl (fun hg=>by have q:=qUO hx36 hg;subst q;rfl) rfl ?_
 refine AO.w ors ?_
 refine AO.n (AW.c (b:=(x33 || x35.2)) rfl (fun hc=>?_) (fun hc=>?_))
 replace hH:=condT hc hH
 obtain ⟨u37,hx38,hH⟩:=zB hH
 refine AW.r (AO.pu T ?_)
 refine AO.pu T (d:=.g [.R 12,.R 13,.v (.bool x31.2.late)]) ?_
 refine AO.x (qJD T rfl 15 rfl rfl rfl rfl rfl rfl (f:=qGM) (l:=[x31.2]) (ids:=[12,13]) rfl rfl (fun _=>rfl) (by exact zC (.rowR rfl) (zC (.rowR rfl) (zC .v (zCn)))) (by decide) rfl rfl rfl rfl rfl) ?_
 refine AO.x (qEP T rfl 16 rfl rfl rfl rfl rfl (by decide) rfl rfl rfl rfl rfl (qA4 (hx38)) rfl rfl) ?_
 refine AO.pu T ?_
 refine AO.n (AW.r ?_)
 refine AO.pu T ?_
 refine AO.w aws ?_
 refine AO.pu T ?_
 refine AO.n ?_
 refine ⟨(k3,x35.1.code,x35.1.at',x35.1.seed,(v28++[x31.2]),w64 (v29 - 1)),hH,Nat.lt_succ_self _,?_⟩
 exact Le.ct 16 11 (hpin:=⟨⟨rfl,rfl⟩,trivial⟩)
 replace hH:=condF hc hH
 refine AW.k (AW.r ?_)
 refine AO.pu T ?_
 refine AO.w aws ?_
 refine AO.pu T ?_
 refine AO.n ?_
 refine ⟨(k3,x35.1.code,x35.1.at',x35.1.seed,v28,w64 (v29 - 1)),hH,Nat.lt_succ_self _,?_⟩
 exact Le.ct 0 0 (hpin:=⟨⟨rfl,rfl⟩,trivial⟩)
 replace hH:=condF hc hH
 refine AW.exit (AW.q (AW.q ?_))
 obtain ⟨x39,hx40,hH⟩:=zB hH
 refine AW.r (AO.pu T ?_)
 refine AO.x (cMs 17 [1] (S:=qAL _ _ _ (hx40)) (hp:=by exact zG (.c (.box rfl rfl)) (zG (.c .v) (zGn)))) ?_
 refine AO.n (AW.c (b:=x39.2) rfl (fun hc=>?_) (fun hc=>?_))
 replace hH:=condT hc hH
 refine AW.q ?_
 obtain ⟨x41,hx42,hH⟩:=zB hH
 refine AW.r (AO.pu T ?_)
 refine AO.x (cMs 17 [1] (S:=qAB _ _ _ (hx42)) (hp:=by exact zG (.c (.box rfl rfl)) (zG (.c .v) (zGn)))) ?_
 refine AO.w aws ?_
 refine AO.pu T ?_
 refine AO.n (AW.b ?_)
 refine AW.loopS (fun s:Nat × (List Item)=>(⟨[(3,.R 11),(6,w64 (14+x41.2))],[(1,.box [.s (List.map ze4 x41.1.code),x41.1.at',.v (.int .u64 x41.1.seed)]),(11,.row 3 (List.map qGM s.2))],41,[(1,L 1)]⟩:St)) (fun s=>qA6 x41 s.1 s.2=some r) (fun s=>s.1) (fuel,v28) hH ?_ ?_
 exact Le.ct 0 0 (hpin:=⟨⟨rfl,rfl⟩,trivial⟩)
 rintro ⟨k43,v49⟩ hH
 replace hH:qA6 x41 k43 v49=some r:=hH
 try dsimp only
 rcases k43 with _ | k43
 cases (show none=some _ from hH)
 rw [qA6] at hH
 refine AW.q (AW.q (AW.r ?_))
 refine AO.pu T ?_
 refine AO.w (qGn T) ?_
 refine AO.p2 T ?_
 refine AO.n (AW.c (b:=decide ((v49.length:Int) < (w64 (14+x41.2)))) rfl (fun hc=>?_) (fun hc=>?_))
 replace hH:=condT hc hH
 refine AW.k (AW.b ?_)
 obtain ⟨u51,hx52,hH⟩:=zB hH
 refine AW.r (AO.pu T ?_)
 refine AO.x (mks T 25 ze5 ([(⟨#[49,84]⟩:ByteArray)])) ?_
 refine AO.x (mks T 26 ze0 (([0]:List Int))) ?_
 refine AO.pu T (d:=.g [.R 25,.R 26,.v (.bool false)]) ?_
 refine AO.x (qJD T rfl 27 rfl rfl rfl rfl rfl rfl (f:=qGM) (l:=[(Item.mk [(⟨#[49,84]⟩:ByteArray)] ([0]:List Int) false)]) (ids:=[25,26]) rfl rfl (fun _=>rfl) (by exact zC (.rowR rfl) (zC (.rowR rfl) (zC .v (zCn)))) (by decide) rfl rfl rfl rfl rfl) ?_
 refine AO.x (qEP T rfl 28 rfl rfl rfl rfl rfl (by decide) rfl rfl rfl rfl rfl (qA4 (hx52)) rfl rfl) ?_
 refine AO.pu T ?_
 refine AO.n ?_
 refine ⟨(k43,(v49++[(Item.mk [(⟨#[49,84]⟩:ByteArray)] ([0]:List Int) false)])),hH,Nat.lt_succ_self _,?_⟩
 exact Le.ct 28 11 (hpin:=⟨⟨rfl,rfl⟩,trivial⟩)
 replace hH:=condF hc hH
 refine AW.exit (AW.q (AW.r ?_))
 refine AO.p2 T ?_
 refine AO.n (AW.t ?_)
 have hR:=zS hH;subst hR
 exact ⟨trivial,rfl,_,[11],[1],rfl,zG (.c (.box rfl rfl)) (zGn),.c (.c (.rowR rfl)),by decide⟩
 replace hH:=condF hc hH
 refine AW.k (AW.q (AW.r ?_))
 refine AO.p2 T ?_
 refine AO.n (AW.t ?_)
 have hR:=zS hH;subst hR
 exact ⟨trivial,rfl,_,[11],[1],rfl,zG (.c (.box rfl rfl)) (zGn),.c (.c (.rowR rfl)),by decide⟩

def qCq (fuel:Nat) (c:L1Cur):Option (L1Cur × Code × (List Item)) :=
 (qAH c 24).bind fun x1 =>
 cond x1.2
  ((qDg fuel x1.1).bind fun x3 =>
  some (x3.1,x3.2.1,x3.2.2))
  ((qCb fuel x1.1).bind fun x5 =>
  (opt (!((x5.2.2.length:Int) == 0)) (x5.1,default) (qAH x5.1 12)).bind fun x7 =>
  cond (((x5.2.2.length:Int) == 0) || x7.2)
   ((qD2 fuel x7.1).bind fun x9 =>
   some (x9.1,x9.2,x5.2.2))
   ((qAA x7.1 (x5.2.2.length:Int)).bind fun x11 =>
   (qAA x11.1 16).bind fun x13 =>
   cond (x13.2 == 0)
    ((qAb x5.2.2 x11.2).bind fun x15 =>
    (qAA x13.1 4).bind fun x17 =>
    (qAb x15.marks 0).bind fun x19 =>
    some (x17.1,x5.2.1,(x5.2.2.set x11.2.toNat (Item.mk x15.names (x15.marks.set ((0:Int).toNat) x17.2) x15.late))))
    (cond (x13.2 == 1)
     ((qAb x5.2.2 x11.2).bind fun x21 =>
     some (x13.1,x5.2.1,(x5.2.2.set x11.2.toNat (Item.mk x21.names x21.marks (!x21.late)))))
     (cond (x13.2 == 2)
      ((qAb x5.2.2 x11.2).bind fun x23 =>
      (qCe ).bind fun x25 =>
      (qCw (qBE 16 (x25.length+([(⟨#[81,81]⟩:ByteArray),(⟨#[]⟩:ByteArray)]).length))).bind fun u27 =>
      (qC3 x13.1 (x25++[(⟨#[81,81]⟩:ByteArray),(⟨#[]⟩:ByteArray)])).bind fun x29 =>
      (qAb x23.names 0).bind fun x31 =>
      some (x29.1,x5.2.1,(x5.2.2.set x11.2.toNat (Item.mk (x23.names.set ((0:Int).toNat) x29.2) x23.marks x23.late))))
      (cond (x13.2 == 3)
       ((qAA x13.1 5).bind fun x33 =>
       (qAA x33.1 3).bind fun x35 =>
       (qAb x5.2.1.limits x33.2).bind fun x37 =>
       some (x35.1,(Code.mk x5.2.1.elements (x5.2.1.limits.set x33.2.toNat x35.2) x5.2.1.repeats x5.2.1.bonus x5.2.1.keeps x5.2.1.fall),x5.2.2))
       (cond (x13.2 == 4)
        ((qDu x5.2.2).bind fun x39 =>
        (qBB (x5.2.2.length:Int) 5).bind fun x41 =>
        (qCD x39 x41).bind fun x43 =>
        (qCw (qBE 56 (x39.length+x43.length))).bind fun u45 =>
        (qEG fuel (x39++x43)).bind fun x47 =>
        some (x13.1,(Code.mk x5.2.1.elements x5.2.1.limits 1 x5.2.1.bonus x5.2.1.keeps x5.2.1.fall),x47))
        (cond (x13.2 == 5)
         ((qDo fuel x13.1).bind fun x49 =>
         some (x49.1,x5.2.1,x49.2))
         (some (x13.1,x5.2.1,x5.2.2)))))))))
theorem qHR (fuel:Nat) (c:L1Cur) (r:(L1Cur × Code × (List Item))) (hH:qCq fuel c=some r):qE7 Tryz.prog 141 [.pw (ze9 c)] [.pw (ze9 r.1)] (.t [.g (qGH r.2.1),.w 3 (r.2.2.map qGM)]):=by
 refine qEy T Tryz.func141 rfl (by decide) rfl rfl ?_
 intro L
 show AW _ _ _ (⟨[(0,.p 1 0)],[(1,.box [.s (List.map ze4 c.code),c.at',.v (.int .u64 c.seed)])],97,[(1,L 1)]⟩:St)
 refine AW.q (AW.r (AO.x (als T 2) ?_))
 refine AO.pu T ?_
 refine AO.n (AW.q (AW.q ?_))
 obtain ⟨x1,hx2,hH⟩:=zB hH
 refine AW.r (AO.pu T ?_)
 refine AO.x (cMs 3 [1] (S:=qAL _ _ _ (hx2)) (hp:=by exact zG (.c (.box rfl rfl)) (zG (.c .v) (zGn)))) ?_
 refine AO.n (AW.c (b:=x1.2) rfl (fun hc=>?_) (fun hc=>?_))
 replace hH:=condT hc hH
 refine AW.q ?_
 obtain ⟨x3,hx4,hH⟩:=zB hH
 refine AW.r (AO.pu T ?_)
 refine AO.x (cMs 3 [1] (S:=qG7 fuel _ _ (hx4)) (hp:=by exact zG (.c (.box rfl rfl)) (zGn))) ?_
 refine AO.pu T (d:=.g [.R 3,.R 4,x3.2.1.repeats,x3.2.1.bonus,x3.2.1.keeps,x3.2.1.fall]) ?_
 refine AO.pu T ?_
 refine AO.se T [.R 3,.R 4,x3.2.1.repeats,x3.2.1.bonus,x3.2.1.keeps,x3.2.1.fall] ?_
 refine AO.pu T ?_
 refine AO.n (AW.t ?_)
 have hR:=zS hH;subst hR
 exact ⟨trivial,rfl,_,[3,4,5],[1],rfl,zG (.c (.box rfl rfl)) (zGn),.t (zG (.g (zC (.rowR rfl) (zC (.rowR rfl) (zC .v (zC .v (zC .v (zC .v (zCn)))))))) (zG (.c (.rowR rfl)) (zGn))),by decide⟩
 replace hH:=condF hc hH
 refine AW.k (AW.q ?_)
 obtain ⟨x5,hx6,hH⟩:=zB hH
 refine AW.r (AO.pu T ?_)
 refine AO.x (cMs 6 [1] (S:=qFe fuel _ _ (hx6)) (hp:=by exact zG (.c (.box rfl rfl)) (zGn))) ?_
 refine AO.pu T ?_
 refine AO.pu T (d:=.g [.R 6,.R 7,x5.2.1.repeats,x5.2.1.bonus,x5.2.1.keeps,x5.2.1.fall]) ?_
 refine AO.pu T ?_
 refine AO.x (als T 9) ?_
 refine AO.se T [.R 6,.R 7,x5.2.1.repeats,x5.2.1.bonus,x5.2.1.keeps,x5.2.1.fall] ?_
 refine AO.pu T ?_
 refine AO.n (AW.q (AW.q ?_))
 obtain ⟨x7,hx8,hH⟩:=zB hH
 refine AW.r (AO.pu T ?_)
 refine AO.w (qGn T) ?_
 refine AO.p2 T ?_
 refine AO.g T [] rfl trivial rfl rfl ?_
 refine AO.guardP (id:=1) (cs':=[.s (List.map ze4 x7.1.code),x7.1.at',.v (.int .u64 x7.1.seed)]) (r:=.v (.bool x7.2)) [22] rfl ⟨fun h=>h,trivial⟩ (fun hg=>zM rfl 10 rfl rfl (es:=[.pw (ze9 x5.1),.v (.int .i64 12)]) (outs:=[.pw (ze9 x7.1),.u]) (ids:=[1]) (by exact zG (.c (.box rfl rfl)) (zG (.c .v) (zGn))) (by decide) (.inl (by rfl)) (by rfl) (qAL _ _ _ (qEA hx8 hg)) rfl (by rfl) rfl) rfl (fun hg=>by have q:=qUO hx8 hg;subst q;rfl) rfl ?_
 refine AO.w ors ?_
 refine AO.n (AW.c (b:=(((x5.2.2.length:Int) == 0) || x7.2)) rfl (fun hc=>?_) (fun hc=>?_))
 replace hH:=condT hc hH
 refine AW.q ?_
 obtain ⟨x9,hx10,hH⟩:=zB hH
 refine AW.r (AO.pu T ?_)
 refine AO.x (cMs 10 [1] (S:=qI6 fuel _ _ (hx10)) (hp:=by exact zG (.c (.box rfl rfl)) (zGn))) ?_
 refine AO.pu T ?_
 refine AO.se T [.R 10,.R 11,x9.2.repeats,x9.2.bonus,x9.2.keeps,x9.2.fall] ?_
 refine AO.pu T ?_
 refine AO.n (AW.le (Le.ct 0 0 (σ':=(⟨[(2,.p 2 0),(3,.R 8)],[(1,.box [.s (List.map ze4 x9.1.code),x9.1.at',.v (.int .u64 x9.1.seed)]),(2,.box [.R 10,.R 11,x9.2.repeats,x9.2.bonus,x9.2.keeps,x9.2.fall]),(8,.row 3 (List.map qGM x5.2.2)),(10,.row 4 (List.map ze3 x9.2.elements)),(11,.row 1 (List.map ze0 x9.2.limits))],97,[(1,L 1)]⟩:St)) (hpin:=⟨⟨rfl,rfl⟩,trivial⟩)) ?_)
 refine AW.t ?_
 have hR:=zS hH;subst hR
 exact ⟨trivial,rfl,_,[10,11,8],[1],rfl,zG (.c (.box rfl rfl)) (zGn),.t (zG (.g (zC (.rowR rfl) (zC (.rowR rfl) (zC .v (zC .v (zC .v (zC .v (zCn)))))))) (zG (.c (.rowR rfl)) (zGn))),by decide⟩
 replace hH:=condF hc hH
 refine AW.k (AW.q ?_)
 obtain ⟨x11,hx12,hH⟩:=zB hH
 refine AW.r (AO.p2 T ?_)
 refine AO.w (qGn T) ?_
 refine AO.x (cMs 12 [1] (S:=qAB _ _ _ (hx12)) (hp:=by exact zG (.c (.box rfl rfl)) (zG (.c .v) (zGn)))) ?_
 refine AO.pu T ?_
 refine AO.n (AW.le (Le.ct 0 0 (σ':=(⟨[(0,.p 1 0),(2,.p 2 0),(4,.p 9 0),(5,.R 8),(6,x11.2)],[(1,.box [.s (List.map ze4 x11.1.code),x11.1.at',.v (.int .u64 x11.1.seed)]),(2,.box [.w 0 [],.w 0 [],(0:Int),(0:Int),(0:Int),(0:Int)]),(6,.row 4 (List.map ze3 x5.2.1.elements)),(7,.row 1 (List.map ze0 x5.2.1.limits)),(8,.row 3 (List.map qGM x5.2.2)),(9,.box [.R 6,.R 7,x5.2.1.repeats,x5.2.1.bonus,x5.2.1.keeps,x5.2.1.fall])],97,[(1,L 1)]⟩:St)) (hpin:=⟨⟨rfl,rfl⟩,trivial⟩)) ?_)
 refine AW.q (AW.q ?_)
 obtain ⟨x13,hx14,hH⟩:=zB hH
 refine AW.r (AO.pu T ?_)
 refine AO.x (cMs 12 [1] (S:=qAB _ _ _ (hx14)) (hp:=by exact zG (.c (.box rfl rfl)) (zG (.c .v) (zGn)))) ?_
 refine AO.n (AW.b ?_)
 refine AW.q (AW.r (AO.p2 T ?_))
 refine AO.n (AW.c (b:=(x13.2 == 0)) rfl (fun hc=>?_) (fun hc=>?_))
 replace hH:=condT hc hH
 obtain ⟨x15,hx16,hH⟩:=zB hH
 obtain ⟨x17,hx18,hH⟩:=zB hH
 obtain ⟨x19,hx20,hH⟩:=zB hH
 refine AW.le (Le.openM 8 x11.2.toNat 1 12 rfl (zgG (hx16)) rfl rfl) ?_
 refine AW.drawn 7 13 [1] mix (by kernel_rfl) rfl ?_
 iterate 2 refine AD.pu T ?_
 refine AD.vv (qC8 T rfl rfl rfl rfl rfl rfl (hx16)) ?_
 refine AD.pu T ?_
 refine AD.vv (qBF T rfl rfl rfl rfl rfl) ?_
 refine AD.pu T ?_
 refine AD.kk (cMF [1] (S:=qAB _ _ _ (hx18)) (hp:=by exact zG (.c (.box rfl rfl)) (zG (.c .v) (zGn)))) ?_
 refine AD.nil (AO.w (ixr T (hx20)) ?_)
 refine AO.x (zSr T rfl rfl rfl rfl rfl (zgG (hx20)) rfl rfl rfl rfl (u':=x17.2) rfl rfl) ?_
 refine AO.le (Le.closeM 8 x11.2.toNat 1 12 rfl rfl (zgG (hx16)) rfl (u':=(Item.mk x15.names (x15.marks.set ((0:Int).toNat) x17.2) x15.late)) rfl) ?_
 refine AO.n (AW.q (AW.r ?_))
 refine AO.pu T (d:=.g [.R 6,.R 7,x5.2.1.repeats,x5.2.1.bonus,x5.2.1.keeps,x5.2.1.fall]) ?_
 refine AO.pu T ?_
 refine AO.se T [.R 6,.R 7,x5.2.1.repeats,x5.2.1.bonus,x5.2.1.keeps,x5.2.1.fall] ?_
 refine AO.pu T ?_
 refine AO.n (AW.t ?_)
 have hR:=zS hH;subst hR
 exact ⟨trivial,rfl,_,[6,7,8],[1],rfl,zG (.c (.box rfl rfl)) (zGn),.t (zG (.g (zC (.rowR rfl) (zC (.rowR rfl) (zC .v (zC .v (zC .v (zC .v (zCn)))))))) (zG (.c (.rowR rfl)) (zGn))),by decide⟩
 replace hH:=condF hc hH
 refine AW.q (AW.r (AO.p2 T ?_))
 refine AO.n (AW.c (b:=(x13.2 == 1)) rfl (fun hc=>?_) (fun hc=>?_))
 replace hH:=condT hc hH
 obtain ⟨x21,hx22,hH⟩:=zB hH
 refine AW.r ?_
 iterate 4 refine AO.pu T ?_
 refine AO.w (ixr T (hx22)) ?_
 refine AO.pu T ?_
 refine AO.w (zLr T rfl rfl rfl rfl (zgG (hx22)) rfl rfl rfl) ?_
 refine AO.pu T ?_
 refine AO.w (ixr T (hx22)) ?_
 refine AO.pu T ?_
 refine AO.x (zSr T rfl rfl rfl rfl rfl (zgG (hx22)) rfl rfl rfl rfl (u':=(Item.mk x21.names x21.marks (!x21.late))) rfl rfl) ?_
 refine AO.n (AW.q (AW.r ?_))
 refine AO.pu T (d:=.g [.R 6,.R 7,x5.2.1.repeats,x5.2.1.bonus,x5.2.1.keeps,x5.2.1.fall]) ?_
 refine AO.pu T ?_
 refine AO.se T [.R 6,.R 7,x5.2.1.repeats,x5.2.1.bonus,x5.2.1.keeps,x5.2.1.fall] ?_
 refine AO.pu T ?_
 refine AO.n (AW.t ?_)
 have hR:=zS hH;subst hR
 exact ⟨trivial,rfl,_,[6,7,8],[1],rfl,zG (.c (.box rfl rfl)) (zGn),.t (zG (.g (zC (.rowR rfl) (zC (.rowR rfl) (zC .v (zC .v (zC .v (zC .v (zCn)))))))) (zG (.c (.rowR rfl)) (zGn))),by decide⟩
 replace hH:=condF hc hH
 refine AW.q (AW.r (AO.p2 T ?_))
 refine AO.n (AW.c (b:=(x13.2 == 2)) rfl (fun hc=>?_) (fun hc=>?_))
 replace hH:=condT hc hH
 obtain ⟨x23,hx24,hH⟩:=zB hH
 obtain ⟨x25,hx26,hH⟩:=zB hH
 obtain ⟨u27,hx28,hH⟩:=zB hH
 obtain ⟨x29,hx30,hH⟩:=zB hH
 obtain ⟨x31,hx32,hH⟩:=zB hH
 refine AW.le (Le.openM 8 x11.2.toNat 0 13 rfl (zgG (hx24)) rfl rfl) ?_
 refine AW.drawn 10 14 [1] mix (by kernel_rfl) rfl ?_
 iterate 2 refine AD.pu T ?_
 refine AD.vv (qC8 T rfl rfl rfl rfl rfl rfl (hx24)) ?_
 refine AD.pu T ?_
 refine AD.vv (qBF T rfl rfl rfl rfl rfl) ?_
 refine AD.pu T ?_
 refine AD.q (FStep.call rfl rfl rfl rfl rfl (qDC _ (hx26)) rfl rfl) (qDj _ _) (qGc _ _) rfl ?_
 refine AD.q (FStep.mk T (f:=ze5) (l:=[(⟨#[81,81]⟩:ByteArray),(⟨#[]⟩:ByteArray)]) rfl rfl rfl rfl rfl rfl rfl rfl rfl (fun _=>rfl) rfl rfl rfl rfl) (by simp [qBV]) (Nat.le_succ _) rfl ?_
 refine AD.kk (FStep.frz (.map fun y=>.vs rfl) (FStep.app_rv T rfl rfl rfl rfl rfl rfl rfl (by decide) rfl rfl rfl rfl (fun _=>rfl) (qA4 (hx28)) rfl)) ?_
 refine AD.kk (cMF [1] (S:=qEN _ _ _ (hx30)) (hp:=by exact zG (.c (.box rfl rfl)) (zG (.c .s) (zGn)))) ?_
 refine AD.nil (AO.w (ixr T (hx32)) ?_)
 refine AO.x (zSr T rfl rfl rfl rfl rfl (zgG (hx32)) rfl rfl rfl rfl (u':=x29.2) rfl rfl) ?_
 refine AO.le (Le.closeM 8 x11.2.toNat 0 13 rfl rfl (zgG (hx24)) rfl (u':=(Item.mk (x23.names.set ((0:Int).toNat) x29.2) x23.marks x23.late)) rfl) ?_
 refine AO.n (AW.q (AW.r ?_))
 refine AO.pu T (d:=.g [.R 6,.R 7,x5.2.1.repeats,x5.2.1.bonus,x5.2.1.keeps,x5.2.1.fall]) ?_
 refine AO.pu T ?_
 refine AO.se T [.R 6,.R 7,x5.2.1.repeats,x5.2.1.bonus,x5.2.1.keeps,x5.2.1.fall] ?_
 refine AO.pu T ?_
 refine AO.n (AW.le (Le.ct 0 0 (σ':=(⟨[(2,.p 2 0),(3,.R 8)],[(1,.box [.s (List.map ze4 x29.1.code),x29.1.at',.v (.int .u64 x29.1.seed)]),(2,.box [.R 6,.R 7,x5.2.1.repeats,x5.2.1.bonus,x5.2.1.keeps,x5.2.1.fall]),(6,.row 4 (List.map ze3 x5.2.1.elements)),(7,.row 1 (List.map ze0 x5.2.1.limits)),(8,.row 3 (List.map qGM (x5.2.2.set x11.2.toNat (Item.mk (x23.names.set ((0:Int).toNat) x29.2) x23.marks x23.late))))],97,[(1,L 1)]⟩:St)) (hpin:=⟨⟨rfl,rfl⟩,trivial⟩)) ?_)
 refine AW.t ?_
 have hR:=zS hH;subst hR
 exact ⟨trivial,rfl,_,[6,7,8],[1],rfl,zG (.c (.box rfl rfl)) (zGn),.t (zG (.g (zC (.rowR rfl) (zC (.rowR rfl) (zC .v (zC .v (zC .v (zC .v (zCn)))))))) (zG (.c (.rowR rfl)) (zGn))),by decide⟩
 replace hH:=condF hc hH
 refine AW.q (AW.r (AO.p2 T ?_))
 refine AO.n (AW.c (b:=(x13.2 == 3)) rfl (fun hc=>?_) (fun hc=>?_))
 replace hH:=condT hc hH
 obtain ⟨x33,hx34,hH⟩:=zB hH
 obtain ⟨x35,hx36,hH⟩:=zB hH
 obtain ⟨x37,hx38,hH⟩:=zB hH
 refine AW.drawn 6 17 [1] mix (by kernel_rfl) rfl ?_
 iterate 3 refine AD.pu T ?_
 refine AD.kk (cMF [1] (S:=qAB _ _ _ (hx34)) (hp:=by exact zG (.c (.box rfl rfl)) (zG (.c .v) (zGn)))) ?_
 refine AD.pu T ?_
 refine AD.kk (cMF [1] (S:=qAB _ _ _ (hx36)) (hp:=by exact zG (.c (.box rfl rfl)) (zG (.c .v) (zGn)))) ?_
 refine AD.nil (AO.w (ixr T (hx38)) ?_)
 refine AO.x (zSr T rfl rfl rfl rfl rfl (zgG (hx38)) rfl rfl rfl rfl (u':=x35.2) rfl rfl) ?_
 refine AO.n (AW.q (AW.r ?_))
 refine AO.pu T (d:=.g [.R 6,.R 7,x5.2.1.repeats,x5.2.1.bonus,x5.2.1.keeps,x5.2.1.fall]) ?_
 refine AO.pu T ?_
 refine AO.se T [.R 6,.R 7,x5.2.1.repeats,x5.2.1.bonus,x5.2.1.keeps,x5.2.1.fall] ?_
 refine AO.pu T ?_
 refine AO.n (AW.t ?_)
 have hR:=zS hH;subst hR
 exact ⟨trivial,rfl,_,[6,7,8],[1],rfl,zG (.c (.box rfl rfl)) (zGn),.t (zG (.g (zC (.rowR rfl) (zC (.rowR rfl) (zC .v (zC .v (zC .v (zC .v (zCn)))))))) (zG (.c (.rowR rfl)) (zGn))),by decide⟩
 replace hH:=condF hc hH
 refine AW.q (AW.r (AO.p2 T ?_))
 refine AO.n (AW.c (b:=(x13.2 == 4)) rfl (fun hc=>?_) (fun hc=>?_))
 replace hH:=condT hc hH
 refine AW.q (AW.r (AO.pu T ?_))
 refine AO.se T [.R 6,.R 7,(1:Int),x5.2.1.bonus,x5.2.1.keeps,x5.2.1.fall] ?_
 refine AO.n ?_
 obtain ⟨x39,hx40,hH⟩:=zB hH
 obtain ⟨x41,hx42,hH⟩:=zB hH
 obtain ⟨x43,hx44,hH⟩:=zB hH
 obtain ⟨u45,hx46,hH⟩:=zB hH
 obtain ⟨x47,hx48,hH⟩:=zB hH
 refine AW.r (AO.pu T ?_)
 refine AO.x (qEi rfl 17 rfl rfl (es:=[.s (List.map ze2 x5.2.2)]) (by exact ⟨(.rowR rfl (.map fun y=>qDh y)),trivial⟩) (qDx _ _ (hx40)) (qAO (fun y=>(.cons (qAO (fun y=>(.cons (qAF _) .nil))) (.cons (qAO (fun y=>(.cons (qAF _) .nil))) (.cons (qAF _) .nil))))) rfl rfl rfl) ?_
 refine AO.pu T ?_
 refine AO.w (qL5 rfl rfl rfl (es:=[.s (List.map ze2 x5.2.2)]) ⟨(.rowR rfl (.map fun y=>qDh y)),trivial⟩ (qDx _ _ (hx40)) (qAO (fun y=>(.cons (qAO (fun y=>(.cons (qAF _) .nil))) (.cons (qAO (fun y=>(.cons (qAF _) .nil))) (.cons (qAF _) .nil))))) (.c (.c (.map fun y=>qDh y)))) ?_
 refine AO.pu T ?_
 refine AO.w (qGn T) ?_
 refine AO.w (cVs (qBZ _ _ _ (hx42))) ?_
 refine AO.w (qAa T rfl rfl rfl rfl rfl (hx44) (fun _=>rfl)) ?_
 refine AO.le (Le.freezeIn 17 (g:=ze2) rfl (fun y=>qDh y)) ?_
 refine AO.x (qJU T rfl 18 rfl rfl rfl rfl rfl (by decide) (by decide) rfl rfl rfl (fun _=>rfl) (qA4 (hx46)) rfl rfl) ?_
 refine AO.x (qEi rfl 19 rfl rfl (es:=[.s (List.map ze2 (x39++x43))]) (by exact ⟨(.rowR rfl (.map fun y=>.vs rfl)),trivial⟩) (qGG fuel _ _ (hx48)) (qAO (fun y=>(.cons (qAO (fun y=>(.cons (qAF _) .nil))) (.cons (qAO (fun y=>(.cons (qAF _) .nil))) (.cons (qAF _) .nil))))) rfl rfl rfl) ?_
 refine AO.pu T ?_
 refine AO.n (AW.le (Le.ct 0 0 (σ':=(⟨[(2,.p 2 0),(4,.p 9 0),(5,.R 19)],[(1,.box [.s (List.map ze4 x13.1.code),x13.1.at',.v (.int .u64 x13.1.seed)]),(2,.box [.w 0 [],.w 0 [],(0:Int),(0:Int),(0:Int),(0:Int)]),(6,.row 4 (List.map ze3 x5.2.1.elements)),(7,.row 1 (List.map ze0 x5.2.1.limits)),(9,.box [.R 6,.R 7,(1:Int),x5.2.1.bonus,x5.2.1.keeps,x5.2.1.fall]),(19,.row 3 (List.map qGM x47))],97,[(1,L 1)]⟩:St)) (hpin:=⟨⟨rfl,rfl⟩,trivial⟩)) ?_)
 refine AW.q (AW.r (AO.pu T (d:=.g [.R 6,.R 7,(1:Int),x5.2.1.bonus,x5.2.1.keeps,x5.2.1.fall]) ?_))
 refine AO.pu T ?_
 refine AO.se T [.R 6,.R 7,(1:Int),x5.2.1.bonus,x5.2.1.keeps,x5.2.1.fall] ?_
 refine AO.pu T ?_
 refine AO.n (AW.t ?_)
 have hR:=zS hH;subst hR
 exact ⟨trivial,rfl,_,[6,7,19],[1],rfl,zG (.c (.box rfl rfl)) (zGn),.t (zG (.g (zC (.rowR rfl) (zC (.rowR rfl) (zC .v (zC .v (zC .v (zC .v (zCn)))))))) (zG (.c (.rowR rfl)) (zGn))),by decide⟩
 replace hH:=condF hc hH
 refine AW.q (AW.r (AO.p2 T ?_))
 refine AO.n (AW.c (b:=(x13.2 == 5)) rfl (fun hc=>?_) (fun hc=>?_))
 replace hH:=condT hc hH
 obtain ⟨x49,hx50,hH⟩:=zB hH
 refine AW.r (AO.pu T ?_)
 refine AO.x (cMs 20 [1] (S:=qIv fuel _ _ (hx50)) (hp:=by exact zG (.c (.box rfl rfl)) (zGn))) ?_
 refine AO.pu T ?_
 refine AO.n (AW.q (AW.r ?_))
 refine AO.pu T (d:=.g [.R 6,.R 7,x5.2.1.repeats,x5.2.1.bonus,x5.2.1.keeps,x5.2.1.fall]) ?_
 refine AO.pu T ?_
 refine AO.se T [.R 6,.R 7,x5.2.1.repeats,x5.2.1.bonus,x5.2.1.keeps,x5.2.1.fall] ?_
 refine AO.pu T ?_
 refine AO.n (AW.t ?_)
 have hR:=zS hH;subst hR
 exact ⟨trivial,rfl,_,[6,7,20],[1],rfl,zG (.c (.box rfl rfl)) (zGn),.t (zG (.g (zC (.rowR rfl) (zC (.rowR rfl) (zC .v (zC .v (zC .v (zC .v (zCn)))))))) (zG (.c (.rowR rfl)) (zGn))),by decide⟩
 replace hH:=condF hc hH
 refine AW.k (AW.q (AW.r ?_))
 refine AO.pu T (d:=.g [.R 6,.R 7,x5.2.1.repeats,x5.2.1.bonus,x5.2.1.keeps,x5.2.1.fall]) ?_
 refine AO.pu T ?_
 refine AO.se T [.R 6,.R 7,x5.2.1.repeats,x5.2.1.bonus,x5.2.1.keeps,x5.2.1.fall] ?_
 refine AO.pu T ?_
 refine AO.n (AW.t ?_)
 have hR:=zS hH;subst hR
 exact ⟨trivial,rfl,_,[6,7,8],[1],rfl,zG (.c (.box rfl rfl)) (zGn),.t (zG (.g (zC (.rowR rfl) (zC (.rowR rfl) (zC .v (zC .v (zC .v (zC .v (zCn)))))))) (zG (.c (.rowR rfl)) (zGn))),by decide⟩

def qFR (c:L1Cur):Option (L1Cur × Int) :=
 (qAC c ([3,3,4,5,5,7,9]:List Int)).bind fun x1 =>
 some (x1.1,x1.2)
theorem qJs (c:L1Cur) (r:(L1Cur × Int)) (hH:qFR c=some r):qE7 Tryz.prog 113 [.pw (ze9 c)] [.pw (ze9 r.1)] (.v (.int .i64 r.2)):=by
 refine qEy T Tryz.func113 rfl (by decide) rfl rfl ?_
 intro L
 show AW _ _ _ (⟨[(0,.p 1 0)],[(1,.box [.s (List.map ze4 c.code),c.at',.v (.int .u64 c.seed)])],6,[(1,L 1)]⟩:St)
 refine AW.q (AW.r (AO.pu T ?_))
 refine AO.n (AW.q ?_)
 obtain ⟨x1,hx2,hH⟩:=zB hH
 refine AW.r (AO.pu T ?_)
 refine AO.x (mks T 2 ze0 (([3,3,4,5,5,7,9]:List Int))) ?_
 refine AO.le (Le.fM 2 (g:=ze0) rfl (fun y=>.vs rfl)) ?_
 refine AO.x (cMs 3 [1] (S:=qAD _ _ _ (hx2)) (hp:=by exact zG (.c (.box rfl rfl)) (zG (.c .s) (zGn)))) ?_
 refine AO.pu T ?_
 refine AO.n (AW.t ?_)
 have hR:=zS hH;subst hR
 exact ⟨trivial,rfl,_,[],[1],rfl,zG (.c (.box rfl rfl)) (zGn),.c (.c .v),by decide⟩

def qDI (a:Int) (b:Int):Option Int :=
 cond (decide (a > b))
  (some a)
  (some b)
theorem qGJ (a:Int) (b:Int) (r:Int) (hH:qDI a b=some r):qAE Tryz.prog 58 [a,b] (.v (.int .i64 r)):=by
 refine fns T Tryz.func58 ?_
 refine AW.q (AW.r (AO.pu T ?_))
 refine AO.n (AW.q (AW.q ?_))
 refine AW.r ?_
 iterate 3 refine AO.pu T ?_
 refine AO.n (AW.c (b:=decide (a > b)) rfl (fun hc=>?_) (fun hc=>?_))
 replace hH:=condT hc hH
 refine AW.q (AW.r (AO.p2 T ?_))
 refine AO.n (AW.t ?_)
 have hR:=zS hH;subst hR
 exact retQ.i [] rfl (.c (.c .v))
 replace hH:=condF hc hH
 refine AW.k (AW.q (AW.r ?_))
 refine AO.p2 T ?_
 refine AO.n (AW.t ?_)
 have hR:=zS hH;subst hR
 exact retQ.i [] rfl (.c (.c .v))

def qBa (x1:(L1Cur × Int)) (x408:(L1Cur × Int)):Nat→List Int→Int→Int→List Int→Option ((List Int) × Int × Int × (List Int))
 | 0,_,_,_,_=>none
 | k449+1,v470,v471,v472,v473 =>
  cond (decide ((v473.length:Int) < x1.2))
   ((qAA (L1Cur.mk v470 v471 v472) 4).bind fun x475 =>
   (qBB 5 (w64 ((w64 ((w64 (x408.2 - 3))+x475.2)) - 1))).bind fun x477 =>
   (qDI (-5) x477).bind fun x479 =>
   (qCw (qBE 8 (v473.length+([x479]).length))).bind fun u481 =>
   qBa x1 x408 k449 x475.1.code x475.1.at' x475.1.seed (v473++[x479]))
   (some (v470,v471,v472,v473))
def qBc (items:Int) (fuel:Nat) (x1:(L1Cur × Int)):Nat→List Int→Int→Int→List (List Int)→Option ((List Int) × Int × Int × (List (List Int)))
 | 0,_,_,_,_=>none
 | k246+1,v403,v404,v405,v406 =>
  cond (decide ((v406.length:Int) < items))
   ((qAA (L1Cur.mk v403 v404 v405) 7).bind fun x408 =>
   (qBa x1 x408 fuel x408.1.code x408.1.at' x408.1.seed []).bind fun (v443,v444,v445,v446) =>
   (qCw (qBE 24 (v406.length+([v446]).length))).bind fun u483 =>
   qBc items fuel x1 k246 v443 v444 v445 (v406++[v446]))
   (some (v403,v404,v405,v406))
def qBd (x1:(L1Cur × Int)) (x770:(L1Cur × Int)):Nat→List Int→Int→Int→List Int→Option ((List Int) × Int × Int × (List Int))
 | 0,_,_,_,_=>none
 | k799+1,v812,v813,v814,v815 =>
  cond (decide ((v815.length:Int) < x1.2))
   ((qAA (L1Cur.mk v812 v813 v814) 4).bind fun x817 =>
   (qCw (qBE 8 (v815.length+([w64 (25 * (w64 (x770.2+x817.2)))]).length))).bind fun u819 =>
   qBd x1 x770 k799 x817.1.code x817.1.at' x817.1.seed (v815++[w64 (25 * (w64 (x770.2+x817.2)))]))
   (some (v812,v813,v814,v815))
def qBY (fuel:Nat) (x1:(L1Cur × Int)):Nat→List Int→Int→Int→List (List Int)→Option ((List (List Int)) × (List Int) × Int × Int)
 | 0,_,_,_,_=>none
 | k656+1,v765,v766,v767,v768 =>
  cond (decide ((v768.length:Int) < 3))
   ((qAA (L1Cur.mk v765 v766 v767) 37).bind fun x770 =>
   (qBd x1 x770 fuel x770.1.code x770.1.at' x770.1.seed []).bind fun (v793,v794,v795,v796) =>
   (qCw (qBE 24 (v768.length+([v796]).length))).bind fun u821 =>
   qBY fuel x1 k656 v793 v794 v795 (v768++[v796]))
   (some (v768,v765,v766,v767))
def qBD (fuel:Nat) (c:L1Cur) (items:Int):Option (L1Cur × Marks) :=
 (qFR c).bind fun x1 =>
 (qBc items fuel x1 fuel x1.1.code x1.1.at' x1.1.seed []).bind fun (v240,v241,v242,v243) =>
 (qBY fuel x1 fuel v240 v241 v242 []).bind fun (v650,v651,v652,v653) =>
 some ((L1Cur.mk v651 v652 v653),(Marks.mk v243 v650))
theorem qCd (fuel:Nat) (c:L1Cur) (items:Int) (r:(L1Cur × Marks)) (hH:qBD fuel c items=some r):qE7 Tryz.prog 60 [.pw (ze9 c),items] [.pw (ze9 r.1),.u] (.g (qJO r.2)):=by
 refine qEy T Tryz.func60 rfl (by decide) rfl rfl ?_
 intro L
 show AW _ _ _ (⟨[(0,.p 1 0),(1,items)],[(1,.box [.s (List.map ze4 c.code),c.at',.v (.int .u64 c.seed)])],67,[(1,L 1)]⟩:St)
 refine AW.q (AW.r (AO.x (als T 2) ?_))
 refine AO.n (AW.q (AW.r ?_))
 refine AO.pu T (d:=.g [.w 0 [],.w 0 []]) ?_
 refine AO.x (als T 3) ?_
 refine AO.se T [.w 0 [],.w 0 []] ?_
 refine AO.n (AW.q ?_)
 obtain ⟨x1,hx2,hH⟩:=zB hH
 refine AW.r (AO.pu T ?_)
 refine AO.x (cMs 4 [1] (S:=qJs _ _ (hx2)) (hp:=by exact zG (.c (.box rfl rfl)) (zGn))) ?_
 refine AO.pu T ?_
 refine AO.n ?_
 obtain ⟨o244,hH,hK245⟩:=zB hH
 refine AW.seqJ (fun s:(List Int) × Int × Int × (List (List Int))=>(⟨[(0,.p 1 0),(4,.p 2 0),(5,.p 3 0),(6,x1.2)],[(1,.box [.s (List.map ze4 s.1),s.2.1,.v (.int .u64 s.2.2.1)]),(2,.box [.w 0 [],.w 0 []]),(3,.box [.R 31,.w 0 []]),(31,.row 1 (List.map ze6 s.2.2.2))],67,[(1,L 1)]⟩:St)) (fun s=>s=o244) ?_ ?_
 refine AW.b (AW.loopS (fun s:Nat × (List Int) × Int × Int × (List (List Int))=>(⟨[(0,.p 1 0),(1,items),(4,.p 2 0),(5,.p 3 0),(6,x1.2)],[(1,.box [.s (List.map ze4 s.2.1),s.2.2.1,.v (.int .u64 s.2.2.2.1)]),(2,.box [.w 0 [],.w 0 []]),(3,.box [.R 73,.w 0 []]),(73,.row 1 (List.map ze6 s.2.2.2.2))],67,[(1,L 1)]⟩:St)) (fun s=>qBc items fuel x1 s.1 s.2.1 s.2.2.1 s.2.2.2.1 s.2.2.2.2=some o244) (fun s=>s.1) (fuel,x1.1.code,x1.1.at',x1.1.seed,[]) hH ?_ ?_)
 refine Le.trans (Le.voidBox 3 0 73 1 rfl rfl rfl rfl) ?_
 exact Le.ct 0 0 (hpin:=⟨⟨rfl,rfl⟩,trivial⟩)
 rintro ⟨k246,v403,v404,v405,v406⟩ hH
 replace hH:qBc items fuel x1 k246 v403 v404 v405 v406=some o244:=hH
 try dsimp only
 rcases k246 with _ | k246
 cases (show none=some _ from hH)
 rw [qBc] at hH
 refine AW.q (AW.q (AW.r ?_))
 refine AO.p2 T ?_
 refine AO.w (qGn T) ?_
 refine AO.p2 T ?_
 refine AO.n (AW.c (b:=decide ((v406.length:Int) < items)) rfl (fun hc=>?_) (fun hc=>?_))
 replace hH:=condT hc hH
 refine AW.k (AW.b ?_)
 refine AW.q ?_
 obtain ⟨x408,hx409,hH⟩:=zB hH
 refine AW.r (AO.pu T ?_)
 refine AO.x (cMs 74 [1] (S:=qAB _ _ _ (hx409)) (hp:=by exact zG (.c (.box rfl rfl)) (zG (.c .v) (zGn)))) ?_
 refine AO.w aws ?_
 refine AO.pu T ?_
 refine AO.n (AW.q (AW.r ?_))
 refine AO.pu T ?_
 refine AO.n ?_
 obtain ⟨o447,hH,hK448⟩:=zB hH
 refine AW.seqJ (fun s:(List Int) × Int × Int × (List Int)=>(⟨[(0,.p 1 0),(1,items),(4,.p 2 0),(5,.p 3 0),(6,x1.2),(8,.R 77)],[(1,.box [.s (List.map ze4 s.1),s.2.1,.v (.int .u64 s.2.2.1)]),(2,.box [.w 0 [],.w 0 []]),(3,.box [.R 73,.w 0 []]),(73,.row 1 (List.map ze6 v406)),(77,.row 1 (List.map ze0 s.2.2.2))],67,[(1,L 1)]⟩:St)) (fun s=>s=o447) ?_ ?_
 refine AW.b (AW.loopS (fun s:Nat × (List Int) × Int × Int × (List Int)=>(⟨[(0,.p 1 0),(1,items),(4,.p 2 0),(5,.p 3 0),(6,x1.2),(7,w64 (x408.2 - 3)),(8,.R 83)],[(1,.box [.s (List.map ze4 s.2.1),s.2.2.1,.v (.int .u64 s.2.2.2.1)]),(2,.box [.w 0 [],.w 0 []]),(3,.box [.R 73,.w 0 []]),(73,.row 1 (List.map ze6 v406)),(83,.row 1 (List.map ze0 s.2.2.2.2))],67,[(1,L 1)]⟩:St)) (fun s=>qBa x1 x408 s.1 s.2.1 s.2.2.1 s.2.2.2.1 s.2.2.2.2=some o447) (fun s=>s.1) (fuel,x408.1.code,x408.1.at',x408.1.seed,[]) hH ?_ ?_)
 refine Le.trans (Le.void 8 83 1 rfl rfl) ?_
 exact Le.ct 0 0 (hpin:=⟨⟨rfl,rfl⟩,trivial⟩)
 rintro ⟨k449,v470,v471,v472,v473⟩ hH
 replace hH:qBa x1 x408 k449 v470 v471 v472 v473=some o447:=hH
 try dsimp only
 rcases k449 with _ | k449
 cases (show none=some _ from hH)
 rw [qBa] at hH
 refine AW.q (AW.q (AW.r ?_))
 refine AO.pu T ?_
 refine AO.w (qGn T) ?_
 refine AO.p2 T ?_
 refine AO.n (AW.c (b:=decide ((v473.length:Int) < x1.2)) rfl (fun hc=>?_) (fun hc=>?_))
 replace hH:=condT hc hH
 refine AW.k (AW.b ?_)
 obtain ⟨x475,hx476,hH⟩:=zB hH
 obtain ⟨x477,hx478,hH⟩:=zB hH
 obtain ⟨x479,hx480,hH⟩:=zB hH
 obtain ⟨u481,hx482,hH⟩:=zB hH
 refine AW.r ?_
 iterate 3 refine AO.pu T ?_
 refine AO.x (cMs 84 [1] (S:=qAB _ _ _ (hx476)) (hp:=by exact zG (.c (.box rfl rfl)) (zG (.c .v) (zGn)))) ?_
 iterate 2 refine AO.w aws ?_
 refine AO.w (cVs (qBZ _ _ _ (hx478))) ?_
 refine AO.w (cVs (qGJ _ _ _ (hx480))) ?_
 refine AO.x (mks T 84 ze0 ([x479])) ?_
 refine AO.x (rvs T 85 (hfit:=by exact qA4 (hx482))) ?_
 refine AO.pu T ?_
 refine AO.n ?_
 refine ⟨(k449,x475.1.code,x475.1.at',x475.1.seed,(v473++[x479])),hH,Nat.lt_succ_self _,?_⟩
 exact Le.ct 85 83 (hpin:=⟨⟨rfl,rfl⟩,trivial⟩)
 replace hH:=condF hc hH
 refine AW.exit ?_
 refine ⟨_,zS hH,?_⟩
 exact Le.ct 83 77 (hpin:=⟨⟨rfl,rfl⟩,trivial⟩)
 rintro ⟨v443,v444,v445,v446⟩ hs
 subst hs
 replace hH:=hK448
 try dsimp only [qKp,qID] at hH
 try dsimp only
 obtain ⟨u483,hx484,hH⟩:=zB hH
 refine AW.r ?_
 iterate 3 refine AO.pu T ?_
 refine AO.x (qJD T rfl 86 rfl rfl rfl rfl rfl rfl (f:=ze6) (l:=[v446]) (ids:=[77]) rfl rfl (fun _=>rfl) (by exact zC (.rowR rfl) (zCn)) (by decide) rfl rfl rfl rfl rfl) ?_
 refine AO.x (qEP T rfl 87 rfl rfl rfl rfl rfl (by decide) rfl rfl rfl rfl rfl (qA4 (hx484)) rfl rfl) ?_
 refine AO.pu T ?_
 refine AO.se T [.R 87,.w 0 []] ?_
 refine AO.n ?_
 refine ⟨(k246,v443,v444,v445,(v406++[v446])),hH,Nat.lt_succ_self _,?_⟩
 exact Le.ct 87 73 (hpin:=⟨⟨rfl,rfl⟩,trivial⟩)
 replace hH:=condF hc hH
 refine AW.exit ?_
 refine ⟨_,zS hH,?_⟩
 exact Le.ct 73 31 (hpin:=⟨⟨rfl,rfl⟩,trivial⟩)
 rintro ⟨v240,v241,v242,v243⟩ hs
 subst hs
 replace hH:=hK245
 try dsimp only [qKp,qID] at hH
 try dsimp only
 obtain ⟨o654,hH,hK655⟩:=zB hH
 refine AW.seqJ (fun s:(List (List Int)) × (List Int) × Int × Int=>(⟨[(4,.p 2 0),(5,.p 3 0)],[(1,.box [.s (List.map ze4 s.2.1),s.2.2.1,.v (.int .u64 s.2.2.2)]),(2,.box [.w 0 [],.w 0 []]),(3,.box [.R 31,.R 115]),(31,.row 1 (List.map ze6 v243)),(115,.row 1 (List.map ze6 s.1))],67,[(1,L 1)]⟩:St)) (fun s=>s=o654) ?_ ?_
 refine AW.b (AW.loopS (fun s:Nat × (List Int) × Int × Int × (List (List Int))=>(⟨[(0,.p 1 0),(4,.p 2 0),(5,.p 3 0),(6,x1.2)],[(1,.box [.s (List.map ze4 s.2.1),s.2.2.1,.v (.int .u64 s.2.2.2.1)]),(2,.box [.w 0 [],.w 0 []]),(3,.box [.R 31,.R 157]),(31,.row 1 (List.map ze6 v243)),(157,.row 1 (List.map ze6 s.2.2.2.2))],67,[(1,L 1)]⟩:St)) (fun s=>qBY fuel x1 s.1 s.2.1 s.2.2.1 s.2.2.2.1 s.2.2.2.2=some o654) (fun s=>s.1) (fuel,v240,v241,v242,[]) hH ?_ ?_)
 refine Le.trans (Le.voidBox 3 1 157 1 rfl rfl rfl rfl) ?_
 exact Le.ct 0 0 (hpin:=⟨⟨rfl,rfl⟩,trivial⟩)
 rintro ⟨k656,v765,v766,v767,v768⟩ hH
 replace hH:qBY fuel x1 k656 v765 v766 v767 v768=some o654:=hH
 try dsimp only
 rcases k656 with _ | k656
 cases (show none=some _ from hH)
 rw [qBY] at hH
 refine AW.q (AW.q (AW.r ?_))
 refine AO.p2 T ?_
 refine AO.w (qGn T) ?_
 refine AO.pu T ?_
 refine AO.n (AW.c (b:=decide ((v768.length:Int) < 3)) rfl (fun hc=>?_) (fun hc=>?_))
 replace hH:=condT hc hH
 refine AW.k (AW.b ?_)
 refine AW.q ?_
 obtain ⟨x770,hx771,hH⟩:=zB hH
 refine AW.r (AO.pu T ?_)
 refine AO.x (cMs 158 [1] (S:=qAB _ _ _ (hx771)) (hp:=by exact zG (.c (.box rfl rfl)) (zG (.c .v) (zGn)))) ?_
 refine AO.pu T ?_
 refine AO.n (AW.q (AW.r ?_))
 refine AO.pu T ?_
 refine AO.n ?_
 obtain ⟨o797,hH,hK798⟩:=zB hH
 refine AW.seqJ (fun s:(List Int) × Int × Int × (List Int)=>(⟨[(0,.p 1 0),(4,.p 2 0),(5,.p 3 0),(6,x1.2),(10,.R 161)],[(1,.box [.s (List.map ze4 s.1),s.2.1,.v (.int .u64 s.2.2.1)]),(2,.box [.w 0 [],.w 0 []]),(3,.box [.R 31,.R 157]),(31,.row 1 (List.map ze6 v243)),(157,.row 1 (List.map ze6 v768)),(161,.row 1 (List.map ze0 s.2.2.2))],67,[(1,L 1)]⟩:St)) (fun s=>s=o797) ?_ ?_
 refine AW.b (AW.loopS (fun s:Nat × (List Int) × Int × Int × (List Int)=>(⟨[(0,.p 1 0),(4,.p 2 0),(5,.p 3 0),(6,x1.2),(9,x770.2),(10,.R 167)],[(1,.box [.s (List.map ze4 s.2.1),s.2.2.1,.v (.int .u64 s.2.2.2.1)]),(2,.box [.w 0 [],.w 0 []]),(3,.box [.R 31,.R 157]),(31,.row 1 (List.map ze6 v243)),(157,.row 1 (List.map ze6 v768)),(167,.row 1 (List.map ze0 s.2.2.2.2))],67,[(1,L 1)]⟩:St)) (fun s=>qBd x1 x770 s.1 s.2.1 s.2.2.1 s.2.2.2.1 s.2.2.2.2=some o797) (fun s=>s.1) (fuel,x770.1.code,x770.1.at',x770.1.seed,[]) hH ?_ ?_)
 refine Le.trans (Le.void 10 167 1 rfl rfl) ?_
 exact Le.ct 0 0 (hpin:=⟨⟨rfl,rfl⟩,trivial⟩)
 rintro ⟨k799,v812,v813,v814,v815⟩ hH
 replace hH:qBd x1 x770 k799 v812 v813 v814 v815=some o797:=hH
 try dsimp only
 rcases k799 with _ | k799
 cases (show none=some _ from hH)
 rw [qBd] at hH
 refine AW.q (AW.q (AW.r ?_))
 refine AO.pu T ?_
 refine AO.w (qGn T) ?_
 refine AO.p2 T ?_
 refine AO.n (AW.c (b:=decide ((v815.length:Int) < x1.2)) rfl (fun hc=>?_) (fun hc=>?_))
 replace hH:=condT hc hH
 refine AW.k (AW.b ?_)
 obtain ⟨x817,hx818,hH⟩:=zB hH
 obtain ⟨u819,hx820,hH⟩:=zB hH
 refine AW.r ?_
 iterate 3 refine AO.pu T ?_
 refine AO.x (cMs 168 [1] (S:=qAB _ _ _ (hx818)) (hp:=by exact zG (.c (.box rfl rfl)) (zG (.c .v) (zGn)))) ?_
 iterate 2 refine AO.w aws ?_
 refine AO.x (mks T 168 ze0 ([w64 (25 * (w64 (x770.2+x817.2)))])) ?_
 refine AO.x (rvs T 169 (hfit:=by exact qA4 (hx820))) ?_
 refine AO.pu T ?_
 refine AO.n ?_
 refine ⟨(k799,x817.1.code,x817.1.at',x817.1.seed,(v815++[w64 (25 * (w64 (x770.2+x817.2)))])),hH,Nat.lt_succ_self _,?_⟩
 exact Le.ct 169 167 (hpin:=⟨⟨rfl,rfl⟩,trivial⟩)
 replace hH:=condF hc hH
 refine AW.exit ?_
 refine ⟨_,zS hH,?_⟩
 exact Le.ct 167 161 (hpin:=⟨⟨rfl,rfl⟩,trivial⟩)
 rintro ⟨v793,v794,v795,v796⟩ hs
 subst hs
 replace hH:=hK798
 try dsimp only [qKp,qID] at hH
 try dsimp only
 obtain ⟨u821,hx822,hH⟩:=zB hH
 refine AW.r ?_
 iterate 3 refine AO.pu T ?_
 refine AO.x (qJD T rfl 170 rfl rfl rfl rfl rfl rfl (f:=ze6) (l:=[v796]) (ids:=[161]) rfl rfl (fun _=>rfl) (by exact zC (.rowR rfl) (zCn)) (by decide) rfl rfl rfl rfl rfl) ?_
 refine AO.x (qEP T rfl 171 rfl rfl rfl rfl rfl (by decide) rfl rfl rfl rfl rfl (qA4 (hx822)) rfl rfl) ?_
 refine AO.pu T ?_
 refine AO.se T [.R 31,.R 171] ?_
 refine AO.n ?_
 refine ⟨(k656,v793,v794,v795,(v768++[v796])),hH,Nat.lt_succ_self _,?_⟩
 exact Le.ct 171 157 (hpin:=⟨⟨rfl,rfl⟩,trivial⟩)
 replace hH:=condF hc hH
 refine AW.exit ?_
 refine ⟨_,zS hH,?_⟩
 exact Le.ct 157 115 (hpin:=⟨⟨rfl,rfl⟩,trivial⟩)
 rintro ⟨v650,v651,v652,v653⟩ hs
 subst hs
 replace hH:=hK655
 try dsimp only [qKp,qID] at hH
 try dsimp only
 refine AW.q (AW.r (AO.pu T (d:=.g [.R 31,.R 115]) ?_))
 refine AO.se T [.R 31,.R 115] ?_
 refine AO.n (AW.t ?_)
 have hR:=zS hH;subst hR
 exact ⟨trivial,rfl,_,[31,115],[1],rfl,zG (.c (.box rfl rfl)) (zG (.c .u) (zGn)),.c (.g (zC (.rowR rfl) (zC (.rowR rfl) (zCn)))),by decide⟩

def qEg (m:Marks):Option Int :=
 (qAb m.components 0).bind fun x1 =>
 some (x1.length:Int)
theorem qIp (m:Marks) (r:Int) (hH:qEg m=some r):qAE Tryz.prog 40 [.g (qBN m)] (.v (.int .i64 r)):=by
 refine fns T Tryz.func40 ?_
 refine AW.q (AW.r (AO.x (bxs T 1) ?_))
 refine AO.pu T ?_
 refine AO.n (AW.q ?_)
 obtain ⟨x1,hx2,hH⟩:=zB hH
 refine AW.r (AO.p2 T ?_)
 refine AO.w (ixs T (hx2)) ?_
 refine AO.pu T ?_
 refine AO.w (qCC T) ?_
 refine AO.pu T ?_
 refine AO.n (AW.t ?_)
 have hR:=zS hH;subst hR
 exact retQ.i [] rfl (.c (.c .v))

def qA7 (x1:(L1Cur × Marks)) (x39:(L1Cur × Int)):Nat→List (List Int)→Int→Option ((L1Cur × Marks))
 | 0,_,_=>none
 | k41+1,v52,v53 =>
  cond (decide (v53 < (x1.2.components.length:Int)))
   ((qCw (decide (0 ≤ x39.2) && qBE 8 x39.2.toNat)).bind fun u55 =>
   (qAb v52 v53).bind fun x57 =>
   qA7 x1 x39 k41 (v52.set v53.toNat (List.replicate x39.2.toNat (0:Int))) (w64 (v53+1)))
   (some (x39.1,(Marks.mk [] v52)))
def qBI (fuel:Nat) (c:L1Cur) (items:Int):Option (L1Cur × Marks) :=
 (qBD fuel c items).bind fun x1 =>
 (qEg x1.2).bind fun x3 =>
 (qAA x1.1 x3).bind fun x5 =>
 (qAA x5.1 30).bind fun x7 =>
 cond (x7.2 == 0)
  (cond (decide (items > 0))
   ((qAA x7.1 items).bind fun x9 =>
   (qAb x1.2.grades x9.2).bind fun x11 =>
   (qAC x9.1 ([(-6),(-5),5,6]:List Int)).bind fun x13 =>
   (qAb x11 x5.2).bind fun x15 =>
   some (x13.1,(Marks.mk (x1.2.grades.set x9.2.toNat (x11.set x5.2.toNat x13.2)) x1.2.components)))
   (some (x7.1,x1.2)))
  (cond (x7.2 == 1)
   ((qAA x7.1 3).bind fun x17 =>
   (qAb x1.2.components x17.2).bind fun x19 =>
   (qAC x17.1 ([(-25),0,10,1000,1025]:List Int)).bind fun x21 =>
   (qAb x19 x5.2).bind fun x23 =>
   some (x21.1,(Marks.mk x1.2.grades (x1.2.components.set x17.2.toNat (x19.set x5.2.toNat x21.2)))))
   (cond (x7.2 == 2)
    (cond (decide (items > 0))
     ((qAA x7.1 items).bind fun x25 =>
     (qAb x1.2.grades x25.2).bind fun x27 =>
     (qCw (qBE 8 (x27.length+(([0]:List Int)).length))).bind fun u29 =>
     some (x25.1,(Marks.mk (x1.2.grades.set x25.2.toNat (x27++([0]:List Int))) x1.2.components)))
     (some (x7.1,x1.2)))
    (cond (x7.2 == 3)
     ((qAb x1.2.components 0).bind fun x31 =>
     (qCw (qBE 24 (x1.2.components.length+([x31]).length))).bind fun u33 =>
     some (x7.1,(Marks.mk x1.2.grades (x1.2.components++[x31]))))
     (cond (x7.2 == 4)
      ((qAb x1.2.components 1).bind fun x35 =>
      (qJ9 x35 1).bind fun x37 =>
      some (x7.1,(Marks.mk x1.2.grades (x1.2.components.set ((1:Int).toNat) x37))))
      (cond (x7.2 == 5)
       ((qAC x7.1 ([2,9,10]:List Int)).bind fun x39 =>
       qA7 x1 x39 fuel x1.2.components 0)
       (cond (x7.2 == 6)
        (some (x7.1,(Marks.mk [] [])))
        (some (x7.1,x1.2))))))))
theorem qDe (fuel:Nat) (c:L1Cur) (items:Int) (r:(L1Cur × Marks)) (hH:qBI fuel c items=some r):qE7 Tryz.prog 142 [.pw (ze9 c),items] [.pw (ze9 r.1),.u] (.g (qBN r.2)):=by
 refine qEy T Tryz.func142 rfl (by decide) rfl rfl ?_
 intro L
 show AW _ _ _ (⟨[(0,.p 1 0),(1,items)],[(1,.box [.s (List.map ze4 c.code),c.at',.v (.int .u64 c.seed)])],110,[(1,L 1)]⟩:St)
 refine AW.q (AW.r (AO.x (als T 2) ?_))
 refine AO.n (AW.q ?_)
 obtain ⟨x1,hx2,hH⟩:=zB hH
 refine AW.r (AO.p2 T ?_)
 refine AO.x (cMs 3 [1] (S:=qCd fuel _ _ _ (hx2)) (hp:=by exact zG (.c (.box rfl rfl)) (zG (.c .v) (zGn)))) ?_
 refine AO.x (als T 5) ?_
 refine AO.se T [.R 3,.R 4] ?_
 refine AO.n (AW.q ?_)
 obtain ⟨x3,hx4,hH⟩:=zB hH
 obtain ⟨x5,hx6,hH⟩:=zB hH
 refine AW.r (AO.pu T ?_)
 refine AO.pu T (d:=.g [.R 3,.R 4]) ?_
 refine AO.w (zLV rfl rfl rfl (es:=[.g (qBN x1.2)]) ⟨qE1 (LendL.cons ((.rowR rfl (.map fun y=>qA9 y))) (LendL.cons ((.rowR rfl (.map fun y=>qA9 y))) LendL.nil)),trivial⟩ (qIp _ _ (hx4)) (qAF _) rfl) ?_
 refine AO.x (cMs 6 [1] (S:=qAB _ _ _ (hx6)) (hp:=by exact zG (.c (.box rfl rfl)) (zG (.c .v) (zGn)))) ?_
 refine AO.pu T ?_
 refine AO.n (AW.q (AW.q ?_))
 obtain ⟨x7,hx8,hH⟩:=zB hH
 refine AW.r (AO.pu T ?_)
 refine AO.x (cMs 6 [1] (S:=qAB _ _ _ (hx8)) (hp:=by exact zG (.c (.box rfl rfl)) (zG (.c .v) (zGn)))) ?_
 refine AO.n (AW.b ?_)
 refine AW.q (AW.r (AO.p2 T ?_))
 refine AO.n (AW.c (b:=(x7.2 == 0)) rfl (fun hc=>?_) (fun hc=>?_))
 replace hH:=condT hc hH
 refine AW.q (AW.r (AO.p2 T ?_))
 refine AO.n (AW.c (b:=decide (items > 0)) rfl (fun hc=>?_) (fun hc=>?_))
 replace hH:=condT hc hH
 obtain ⟨x9,hx10,hH⟩:=zB hH
 obtain ⟨x11,hx12,hH⟩:=zB hH
 obtain ⟨x13,hx14,hH⟩:=zB hH
 obtain ⟨x15,hx16,hH⟩:=zB hH
 refine AW.le (Le.openM 3 x9.2.toNat 0 6 rfl (zgG (hx12)) rfl rfl) ?_
 refine AW.drawn 11 7 [1] mix (by kernel_rfl) rfl ?_
 iterate 4 refine AD.pu T ?_
 refine AD.kk (cMF [1] (S:=qAB _ _ _ (hx10)) (hp:=by exact zG (.c (.box rfl rfl)) (zG (.c .v) (zGn)))) ?_
 refine AD.vv (qC8 T rfl rfl rfl rfl rfl rfl (hx12)) ?_
 refine AD.vv (qBF T rfl rfl rfl rfl rfl) ?_
 iterate 2 refine AD.pu T ?_
 refine AD.vv (qIr T rfl rfl rfl rfl rfl rfl (f:=ze0) (l:=([(-6),(-5),5,6]:List Int)) rfl rfl (fun _=>rfl) rfl rfl rfl) ?_
 refine AD.kk (cMF [1] (S:=qAD _ _ _ (hx14)) (hp:=by exact zG (.c (.box rfl rfl)) (zG (.c .s) (zGn)))) ?_
 refine AD.nil (AO.w (ixr T (hx16)) ?_)
 refine AO.x (zSr T rfl rfl rfl rfl rfl (zgG (hx16)) rfl rfl rfl rfl (u':=x13.2) rfl rfl) ?_
 refine AO.le (Le.closeM 3 x9.2.toNat 0 6 rfl rfl (zgG (hx12)) rfl (u':=(x11.set x5.2.toNat x13.2)) rfl) ?_
 refine AO.n (AW.le (Le.ct 0 0 (σ':=(⟨[(4,.p 2 0),(5,.p 5 0)],[(1,.box [.s (List.map ze4 x13.1.code),x13.1.at',.v (.int .u64 x13.1.seed)]),(2,.box [.w 0 [],.w 0 []]),(3,.row 1 (List.map ze6 (x1.2.grades.set x9.2.toNat (x11.set x5.2.toNat x13.2)))),(4,.row 1 (List.map ze6 x1.2.components)),(5,.box [.R 3,.R 4])],110,[(1,L 1)]⟩:St)) (hpin:=⟨⟨rfl,rfl⟩,trivial⟩)) ?_)
 refine AW.q (AW.r (AO.pu T (d:=.g [.R 3,.R 4]) ?_))
 refine AO.se T [.R 3,.R 4] ?_
 refine AO.n (AW.le (Le.fM 4 (g:=ze1) rfl (fun y=>qA9 y)) ?_)
 refine AW.le (Le.fM 3 (g:=ze1) rfl (fun y=>qA9 y)) ?_
 refine AW.t ?_
 have hR:=zS hH;subst hR
 exact ⟨trivial,rfl,_,[],[1],rfl,zG (.c (.box rfl rfl)) (zG (.c .u) (zGn)),.c (.g (zC .s (zC .s (zCn)))),by decide⟩
 replace hH:=condF hc hH
 refine AW.k (AW.q (AW.r ?_))
 refine AO.pu T (d:=.g [.R 3,.R 4]) ?_
 refine AO.se T [.R 3,.R 4] ?_
 refine AO.n (AW.le (Le.fM 4 (g:=ze1) rfl (fun y=>qA9 y)) ?_)
 refine AW.le (Le.fM 3 (g:=ze1) rfl (fun y=>qA9 y)) ?_
 refine AW.t ?_
 have hR:=zS hH;subst hR
 exact ⟨trivial,rfl,_,[],[1],rfl,zG (.c (.box rfl rfl)) (zG (.c .u) (zGn)),.c (.g (zC .s (zC .s (zCn)))),by decide⟩
 replace hH:=condF hc hH
 refine AW.q (AW.r (AO.p2 T ?_))
 refine AO.n (AW.c (b:=(x7.2 == 1)) rfl (fun hc=>?_) (fun hc=>?_))
 replace hH:=condT hc hH
 obtain ⟨x17,hx18,hH⟩:=zB hH
 obtain ⟨x19,hx20,hH⟩:=zB hH
 obtain ⟨x21,hx22,hH⟩:=zB hH
 obtain ⟨x23,hx24,hH⟩:=zB hH
 refine AW.le (Le.openM 4 x17.2.toNat 0 7 rfl (zgG (hx20)) rfl rfl) ?_
 refine AW.drawn 10 8 [1] mix (by kernel_rfl) rfl ?_
 iterate 3 refine AD.pu T ?_
 refine AD.kk (cMF [1] (S:=qAB _ _ _ (hx18)) (hp:=by exact zG (.c (.box rfl rfl)) (zG (.c .v) (zGn)))) ?_
 refine AD.vv (qC8 T rfl rfl rfl rfl rfl rfl (hx20)) ?_
 refine AD.vv (qBF T rfl rfl rfl rfl rfl) ?_
 iterate 2 refine AD.pu T ?_
 refine AD.vv (qIr T rfl rfl rfl rfl rfl rfl (f:=ze0) (l:=([(-25),0,10,1000,1025]:List Int)) rfl rfl (fun _=>rfl) rfl rfl rfl) ?_
 refine AD.kk (cMF [1] (S:=qAD _ _ _ (hx22)) (hp:=by exact zG (.c (.box rfl rfl)) (zG (.c .s) (zGn)))) ?_
 refine AD.nil (AO.w (ixr T (hx24)) ?_)
 refine AO.x (zSr T rfl rfl rfl rfl rfl (zgG (hx24)) rfl rfl rfl rfl (u':=x21.2) rfl rfl) ?_
 refine AO.le (Le.closeM 4 x17.2.toNat 0 7 rfl rfl (zgG (hx20)) rfl (u':=(x19.set x5.2.toNat x21.2)) rfl) ?_
 refine AO.n (AW.le (Le.ct 0 0 (σ':=(⟨[(4,.p 2 0),(5,.p 5 0)],[(1,.box [.s (List.map ze4 x21.1.code),x21.1.at',.v (.int .u64 x21.1.seed)]),(2,.box [.w 0 [],.w 0 []]),(3,.row 1 (List.map ze6 x1.2.grades)),(4,.row 1 (List.map ze6 (x1.2.components.set x17.2.toNat (x19.set x5.2.toNat x21.2)))),(5,.box [.R 3,.R 4])],110,[(1,L 1)]⟩:St)) (hpin:=⟨⟨rfl,rfl⟩,trivial⟩)) ?_)
 refine AW.q (AW.r (AO.pu T (d:=.g [.R 3,.R 4]) ?_))
 refine AO.se T [.R 3,.R 4] ?_
 refine AO.n (AW.le (Le.fM 4 (g:=ze1) rfl (fun y=>qA9 y)) ?_)
 refine AW.le (Le.fM 3 (g:=ze1) rfl (fun y=>qA9 y)) ?_
 refine AW.t ?_
 have hR:=zS hH;subst hR
 exact ⟨trivial,rfl,_,[],[1],rfl,zG (.c (.box rfl rfl)) (zG (.c .u) (zGn)),.c (.g (zC .s (zC .s (zCn)))),by decide⟩
 replace hH:=condF hc hH
 refine AW.q (AW.r (AO.p2 T ?_))
 refine AO.n (AW.c (b:=(x7.2 == 2)) rfl (fun hc=>?_) (fun hc=>?_))
 replace hH:=condT hc hH
 refine AW.q (AW.r (AO.p2 T ?_))
 refine AO.n (AW.c (b:=decide (items > 0)) rfl (fun hc=>?_) (fun hc=>?_))
 replace hH:=condT hc hH
 refine AW.q ?_
 obtain ⟨x25,hx26,hH⟩:=zB hH
 refine AW.r (AO.p2 T ?_)
 refine AO.x (cMs 8 [1] (S:=qAB _ _ _ (hx26)) (hp:=by exact zG (.c (.box rfl rfl)) (zG (.c .v) (zGn)))) ?_
 refine AO.pu T ?_
 refine AO.n (AW.le (Le.ct 0 0 (σ':=(⟨[(4,.p 2 0),(5,.p 5 0),(7,x25.2)],[(1,.box [.s (List.map ze4 x25.1.code),x25.1.at',.v (.int .u64 x25.1.seed)]),(2,.box [.w 0 [],.w 0 []]),(3,.row 1 (List.map ze6 x1.2.grades)),(4,.row 1 (List.map ze6 x1.2.components)),(5,.box [.R 3,.R 4])],110,[(1,L 1)]⟩:St)) (hpin:=⟨⟨rfl,rfl⟩,trivial⟩)) ?_)
 obtain ⟨x27,hx28,hH⟩:=zB hH
 obtain ⟨u29,hx30,hH⟩:=zB hH
 refine AW.le (Le.openM 3 x25.2.toNat 0 8 rfl (zgG (hx28)) rfl rfl) ?_
 refine AW.drawn 10 9 [8] mix (by kernel_rfl) rfl ?_
 iterate 6 refine AD.pu T ?_
 refine AD.vv (qC8 T rfl rfl rfl rfl rfl rfl (hx28)) ?_
 refine AD.vv (qBF T rfl rfl rfl rfl rfl) ?_
 refine AD.q (FStep.mk T (f:=ze0) (l:=([0]:List Int)) rfl rfl rfl rfl rfl rfl rfl rfl rfl (fun _=>rfl) rfl rfl rfl rfl) (by simp [qBV]) (Nat.le_succ _) rfl ?_
 refine AD.kk (FStep.app_rv T rfl rfl rfl rfl rfl rfl rfl (by decide) rfl rfl rfl rfl (fun _=>rfl) (qA4 (hx30)) rfl) ?_
 refine AD.nil (AO.w (qC8 T rfl rfl rfl rfl rfl rfl (hx28)) ?_)
 refine AO.x (qFi T (ids:=[10]) rfl rfl rfl rfl rfl rfl (zgG (hx28)) rfl (.rowR rfl) (by decide) rfl (u':=(x27++([0]:List Int))) rfl rfl) ?_
 refine AO.n (AW.q (AW.r ?_))
 refine AO.pu T (d:=.g [.R 3,.R 4]) ?_
 refine AO.se T [.R 3,.R 4] ?_
 refine AO.n (AW.le (Le.fM 4 (g:=ze1) rfl (fun y=>qA9 y)) ?_)
 refine AW.le (Le.fM 3 (g:=ze1) rfl (fun y=>qA9 y)) ?_
 refine AW.t ?_
 have hR:=zS hH;subst hR
 exact ⟨trivial,rfl,_,[],[1],rfl,zG (.c (.box rfl rfl)) (zG (.c .u) (zGn)),.c (.g (zC .s (zC .s (zCn)))),by decide⟩
 replace hH:=condF hc hH
 refine AW.k (AW.q (AW.r ?_))
 refine AO.pu T (d:=.g [.R 3,.R 4]) ?_
 refine AO.se T [.R 3,.R 4] ?_
 refine AO.n (AW.le (Le.fM 4 (g:=ze1) rfl (fun y=>qA9 y)) ?_)
 refine AW.le (Le.fM 3 (g:=ze1) rfl (fun y=>qA9 y)) ?_
 refine AW.t ?_
 have hR:=zS hH;subst hR
 exact ⟨trivial,rfl,_,[],[1],rfl,zG (.c (.box rfl rfl)) (zG (.c .u) (zGn)),.c (.g (zC .s (zC .s (zCn)))),by decide⟩
 replace hH:=condF hc hH
 refine AW.q (AW.r (AO.p2 T ?_))
 refine AO.n (AW.c (b:=(x7.2 == 3)) rfl (fun hc=>?_) (fun hc=>?_))
 replace hH:=condT hc hH
 obtain ⟨x31,hx32,hH⟩:=zB hH
 obtain ⟨u33,hx34,hH⟩:=zB hH
 refine AW.le (Le.freezeIn 4 (g:=ze1) rfl (fun y=>qA9 y)) ?_
 refine AW.drawn 7 11 [11] mix (by kernel_rfl) rfl ?_
 iterate 4 refine AD.pu T ?_
 refine AD.vv (ixr T (hx32)) ?_
 refine AD.vv (zLr T rfl rfl rfl rfl (zgG (hx32)) rfl rfl rfl) ?_
 refine AD.q (FStep.mk T (f:=ze1) (l:=[x31]) rfl rfl rfl rfl rfl rfl rfl rfl rfl (fun _=>rfl) rfl rfl rfl rfl) (by simp [qBV]) (Nat.le_succ _) rfl ?_
 refine AD.nil (AO.x (rvs T 12 (hfit:=by exact qA4 (hx34))) ?_)
 refine AO.pu T ?_
 refine AO.se T [.R 3,.R 12] ?_
 refine AO.n (AW.le (Le.ct 0 0 (σ':=(⟨[(4,.p 2 0),(5,.p 5 0)],[(1,.box [.s (List.map ze4 x7.1.code),x7.1.at',.v (.int .u64 x7.1.seed)]),(2,.box [.w 0 [],.w 0 []]),(3,.row 1 (List.map ze6 x1.2.grades)),(5,.box [.R 3,.R 12]),(12,.row 1 (List.map ze1 (x1.2.components++[x31])))],110,[(1,L 1)]⟩:St)) (hpin:=⟨⟨rfl,rfl⟩,trivial⟩)) ?_)
 refine AW.q (AW.r (AO.pu T (d:=.g [.R 3,.R 12]) ?_))
 refine AO.se T [.R 3,.R 12] ?_
 refine AO.n (AW.le (Le.fM 12 (g:=ze1) rfl (fun y=>.vs rfl)) ?_)
 refine AW.le (Le.fM 3 (g:=ze1) rfl (fun y=>qA9 y)) ?_
 refine AW.t ?_
 have hR:=zS hH;subst hR
 exact ⟨trivial,rfl,_,[],[1],rfl,zG (.c (.box rfl rfl)) (zG (.c .u) (zGn)),.c (.g (zC .s (zC .s (zCn)))),by decide⟩
 replace hH:=condF hc hH
 refine AW.q (AW.r (AO.p2 T ?_))
 refine AO.n (AW.c (b:=(x7.2 == 4)) rfl (fun hc=>?_) (fun hc=>?_))
 replace hH:=condT hc hH
 obtain ⟨x35,hx36,hH⟩:=zB hH
 obtain ⟨x37,hx38,hH⟩:=zB hH
 refine AW.le (Le.freezeIn 4 (g:=ze1) rfl (fun y=>qA9 y)) ?_
 refine AW.drawn 7 13 [] mix (by kernel_rfl) rfl ?_
 iterate 4 refine AD.pu T ?_
 refine AD.vv (ixr T (hx36)) ?_
 refine AD.vv (zLr T rfl rfl rfl rfl (zgG (hx36)) rfl rfl rfl) ?_
 refine AD.vv (qJL T rfl rfl rfl rfl rfl (hx38) (fun _=>rfl)) ?_
 refine AD.nil (AO.w (ixr T (hx36)) ?_)
 refine AO.x (zSr T rfl rfl rfl rfl rfl (zgG (hx36)) rfl rfl rfl rfl (u':=x37) rfl rfl) ?_
 refine AO.n (AW.le (Le.ct 0 0 (σ':=(⟨[(4,.p 2 0),(5,.p 5 0)],[(1,.box [.s (List.map ze4 x7.1.code),x7.1.at',.v (.int .u64 x7.1.seed)]),(2,.box [.w 0 [],.w 0 []]),(3,.row 1 (List.map ze6 x1.2.grades)),(4,.row 1 (List.map ze1 (x1.2.components.set ((1:Int).toNat) x37))),(5,.box [.R 3,.R 4])],110,[(1,L 1)]⟩:St)) (hpin:=⟨⟨rfl,rfl⟩,trivial⟩)) ?_)
 refine AW.q (AW.r (AO.pu T (d:=.g [.R 3,.R 4]) ?_))
 refine AO.se T [.R 3,.R 4] ?_
 refine AO.n (AW.le (Le.fM 4 (g:=ze1) rfl (fun y=>.vs rfl)) ?_)
 refine AW.le (Le.fM 3 (g:=ze1) rfl (fun y=>qA9 y)) ?_
 refine AW.t ?_
 have hR:=zS hH;subst hR
 exact ⟨trivial,rfl,_,[],[1],rfl,zG (.c (.box rfl rfl)) (zG (.c .u) (zGn)),.c (.g (zC .s (zC .s (zCn)))),by decide⟩
 replace hH:=condF hc hH
 refine AW.q (AW.r (AO.p2 T ?_))
 refine AO.n (AW.le (Le.ct 0 0 (σ':=(⟨[(0,.p 1 0),(4,.p 2 0),(5,.p 5 0),(18,x7.2),(87,.v (.bool (x7.2 == 5)))],[(1,.box [.s (List.map ze4 x7.1.code),x7.1.at',.v (.int .u64 x7.1.seed)]),(2,.box [.w 0 [],.w 0 []]),(3,.row 1 (List.map ze6 x1.2.grades)),(4,.row 1 (List.map ze6 x1.2.components)),(5,.box [.R 3,.R 4])],110,[(1,L 1)]⟩:St)) (hpin:=⟨⟨rfl,rfl⟩,trivial⟩)) ?_)
 refine AW.c (b:=(x7.2 == 5)) rfl (fun hc=>?_) (fun hc=>?_)
 replace hH:=condT hc hH
 refine AW.q ?_
 obtain ⟨x39,hx40,hH⟩:=zB hH
 refine AW.r (AO.pu T ?_)
 refine AO.x (mks T 13 ze0 (([2,9,10]:List Int))) ?_
 refine AO.le (Le.fM 13 (g:=ze0) rfl (fun y=>.vs rfl)) ?_
 refine AO.x (cMs 14 [1] (S:=qAD _ _ _ (hx40)) (hp:=by exact zG (.c (.box rfl rfl)) (zG (.c .s) (zGn)))) ?_
 refine AO.pu T ?_
 refine AO.n (AW.q (AW.r ?_))
 refine AO.pu T ?_
 refine AO.se T [.w 0 [],.R 4] ?_
 refine AO.n (AW.q (AW.r ?_))
 refine AO.p2 T ?_
 refine AO.w (qGn T) ?_
 refine AO.pu T ?_
 refine AO.n (AW.b ?_)
 refine AW.loopS (fun s:Nat × (List (List Int)) × Int=>(⟨[(4,.p 2 0),(5,.p 5 0),(8,x39.2),(95,(x1.2.components.length:Int)),(96,s.2.2)],[(1,.box [.s (List.map ze4 x39.1.code),x39.1.at',.v (.int .u64 x39.1.seed)]),(2,.box [.w 0 [],.w 0 []]),(4,.row 1 (List.map ze6 s.2.1)),(5,.box [.w 0 [],.R 4])],110,[(1,L 1)]⟩:St)) (fun s=>qA7 x1 x39 s.1 s.2.1 s.2.2=some r) (fun s=>s.1) (fuel,x1.2.components,0) hH ?_ ?_
 exact Le.ct 0 0 (hpin:=⟨⟨rfl,rfl⟩,trivial⟩)
 rintro ⟨k41,v52,v53⟩ hH
 replace hH:qA7 x1 x39 k41 v52 v53=some r:=hH
 try dsimp only
 rcases k41 with _ | k41
 cases (show none=some _ from hH)
 rw [qA7] at hH
 refine AW.q (AW.r (AO.pu T ?_))
 refine AO.n (AW.q (AW.c (b:=decide (v53 < (x1.2.components.length:Int))) rfl (fun hc=>?_) (fun hc=>?_)))
 replace hH:=condT hc hH
 refine AW.k (AW.q ?_)
 refine AW.b (AW.q (AW.r ?_))
 refine AO.p2 T ?_
 refine AO.n ?_
 obtain ⟨u55,hx56,hH⟩:=zB hH
 obtain ⟨x57,hx58,hH⟩:=zB hH
 refine AW.drawn 5 16 [] mix (by kernel_rfl) rfl ?_
 iterate 4 refine AD.pu T ?_
 refine AD.q (FStep.make T rfl rfl rfl rfl rfl rfl rfl (f:=ze0) (zo:=0) (by repeat constructor) (by decide) rfl rfl (Bool.and_eq_true_iff.1 (qA4 (hx56))).1 (Bool.and_eq_true_iff.1 (qA4 (hx56))).2 rfl) (by simp [qBV]) (Nat.le_succ _) rfl ?_
 refine AD.nil (AO.w (ixr T (hx58)) ?_)
 refine AO.x (qOE T (ids:=[16]) rfl rfl rfl rfl rfl (zgG (hx58)) rfl (zC (.rowR rfl) (zCn)) (by decide) rfl rfl (u':=(List.replicate x39.2.toNat (0:Int))) rfl rfl) ?_
 refine AO.n (AW.r ?_)
 refine AO.w aws ?_
 refine AO.pu T ?_
 refine AO.n ?_
 refine ⟨(k41,(v52.set v53.toNat (List.replicate x39.2.toNat (0:Int))),w64 (v53+1)),hH,Nat.lt_succ_self _,?_⟩
 exact Le.ct 0 0 (hpin:=⟨⟨rfl,rfl⟩,trivial⟩)
 replace hH:=condF hc hH
 refine AW.exit (AW.q (AW.r ?_))
 refine AO.pu T (d:=.g [.w 0 [],.R 4]) ?_
 refine AO.se T [.w 0 [],.R 4] ?_
 refine AO.n (AW.le (Le.fM 4 (g:=ze1) rfl (fun y=>qA9 y)) ?_)
 refine AW.t ?_
 have hR:=zS hH;subst hR
 exact ⟨trivial,rfl,_,[],[1],rfl,zG (.c (.box rfl rfl)) (zG (.c .u) (zGn)),.c (.g (zC .nilS (zC .s (zCn)))),by decide⟩
 replace hH:=condF hc hH
 refine AW.q (AW.r (AO.p2 T ?_))
 refine AO.n (AW.c (b:=(x7.2 == 6)) rfl (fun hc=>?_) (fun hc=>?_))
 replace hH:=condT hc hH
 refine AW.r (AO.pu T (d:=.g [.w 0 [],.w 0 []]) ?_)
 refine AO.se T [.w 0 [],.w 0 []] ?_
 refine AO.n (AW.q (AW.r ?_))
 refine AO.pu T (d:=.g [.w 0 [],.w 0 []]) ?_
 refine AO.se T [.w 0 [],.w 0 []] ?_
 refine AO.n (AW.t ?_)
 have hR:=zS hH;subst hR
 exact ⟨trivial,rfl,_,[],[1],rfl,zG (.c (.box rfl rfl)) (zG (.c .u) (zGn)),.c (.g (zC .nilS (zC .nilS (zCn)))),by decide⟩
 replace hH:=condF hc hH
 refine AW.k (AW.q (AW.r ?_))
 refine AO.pu T (d:=.g [.R 3,.R 4]) ?_
 refine AO.se T [.R 3,.R 4] ?_
 refine AO.n (AW.le (Le.fM 4 (g:=ze1) rfl (fun y=>qA9 y)) ?_)
 refine AW.le (Le.fM 3 (g:=ze1) rfl (fun y=>qA9 y)) ?_
 refine AW.t ?_
 have hR:=zS hH;subst hR
 exact ⟨trivial,rfl,_,[],[1],rfl,zG (.c (.box rfl rfl)) (zG (.c .u) (zGn)),.c (.g (zC .s (zC .s (zCn)))),by decide⟩

def qAe (v177:Int) (x222:Item):Nat→List Int→Int→Int→List Item→Int→Option ((List Int) × Int × Int × (List Item))
 | 0,_,_,_,_,_=>none
 | k224+1,v246,v247,v248,v249,v250 =>
  cond (decide (v250 < (x222.marks.length:Int)))
   ((qAH (L1Cur.mk v246 v247 v248) 5).bind fun x252 =>
   cond x252.2
    ((qAb v249 v177).bind fun x254 =>
    (qAA x252.1 4).bind fun x256 =>
    (qAb x254.marks v250).bind fun x258 =>
    qAe v177 x222 k224 x256.1.code x256.1.at' x256.1.seed (v249.set v177.toNat (Item.mk x254.names (x254.marks.set v250.toNat x256.2) x254.late)) (w64 (v250+1)))
    (qAe v177 x222 k224 x252.1.code x252.1.at' x252.1.seed v249 (w64 (v250+1))))
   (some (v246,v247,v248,v249))
def qAs (fuel:Nat) (x5:(L1Cur × Code × (List Item))):Nat→List Int→Int→Int→List Item→Int→Option ((L1Cur × Code × (List Item) × Marks))
 | 0,_,_,_,_,_=>none
 | k7+1,v173,v174,v175,v176,v177 =>
  cond (decide (v177 < (x5.2.2.length:Int)))
   (((qAb v176 v177).bind fun x222 =>
   qAe v177 x222 fuel v173 v174 v175 (v176.set v177.toNat x222) 0).bind fun (v216,v217,v218,v219) =>
   qAs fuel x5 k7 v216 v217 v218 v219 (w64 (v177+1)))
   ((opt (decide ((v176.length:Int) > 1)) ((L1Cur.mk v173 v174 v175),default) (qAH (L1Cur.mk v173 v174 v175) 3)).bind fun x260 =>
   cond (decide ((v176.length:Int) > 1) && x260.2)
    ((qDu v176).bind fun x262 =>
    (qBB (v176.length:Int) 4).bind fun x264 =>
    (qCD x262 x264).bind fun x266 =>
    (qCw (qBE 56 (v176.length+x266.length))).bind fun u268 =>
    (qBB (((v176++x266)).length:Int) 15).bind fun x270 =>
    (qBD fuel x260.1 x270).bind fun x272 =>
    (qAH x272.1 10).bind fun x274 =>
    cond x274.2
     ((qAA x274.1 6).bind fun x276 =>
     (qBI fuel x276.1 x276.2).bind fun x278 =>
     (qCD (v176++x266) x270).bind fun x280 =>
     some (x278.1,x5.2.1,x280,x278.2))
     ((qCD (v176++x266) x270).bind fun x282 =>
     some (x274.1,x5.2.1,x282,x272.2)))
    ((qBB (v176.length:Int) 15).bind fun x284 =>
    (qBD fuel x260.1 x284).bind fun x286 =>
    (qAH x286.1 10).bind fun x288 =>
    cond x288.2
     ((qAA x288.1 6).bind fun x290 =>
     (qBI fuel x290.1 x290.2).bind fun x292 =>
     (qCD v176 x284).bind fun x294 =>
     some (x292.1,x5.2.1,x294,x292.2))
     ((qCD v176 x284).bind fun x296 =>
     some (x288.1,x5.2.1,x296,x286.2))))
def qAg (v468:Int) (x513:Item):Nat→List Int→Int→Int→List Item→Int→Option ((List Int) × Int × Int × (List Item))
 | 0,_,_,_,_,_=>none
 | k515+1,v537,v538,v539,v540,v541 =>
  cond (decide (v541 < (x513.marks.length:Int)))
   ((qAH (L1Cur.mk v537 v538 v539) 5).bind fun x543 =>
   cond x543.2
    ((qAb v540 v468).bind fun x545 =>
    (qAA x543.1 4).bind fun x547 =>
    (qAb x545.marks v541).bind fun x549 =>
    qAg v468 x513 k515 x547.1.code x547.1.at' x547.1.seed (v540.set v468.toNat (Item.mk x545.names (x545.marks.set v541.toNat x547.2) x545.late)) (w64 (v541+1)))
    (qAg v468 x513 k515 x543.1.code x543.1.at' x543.1.seed v540 (w64 (v541+1))))
   (some (v537,v538,v539,v540))
def qAv (fuel:Nat) (x1:(L1Cur × Code × (List Item))):Nat→List Int→Int→Int→List Item→Int→Option ((L1Cur × Code × (List Item) × Marks))
 | 0,_,_,_,_,_=>none
 | k298+1,v464,v465,v466,v467,v468 =>
  cond (decide (v468 < (x1.2.2.length:Int)))
   (((qAb v467 v468).bind fun x513 =>
   qAg v468 x513 fuel v464 v465 v466 (v467.set v468.toNat x513) 0).bind fun (v507,v508,v509,v510) =>
   qAv fuel x1 k298 v507 v508 v509 v510 (w64 (v468+1)))
   ((opt (decide ((v467.length:Int) > 1)) ((L1Cur.mk v464 v465 v466),default) (qAH (L1Cur.mk v464 v465 v466) 3)).bind fun x551 =>
   cond (decide ((v467.length:Int) > 1) && x551.2)
    ((qDu v467).bind fun x553 =>
    (qBB (v467.length:Int) 4).bind fun x555 =>
    (qCD x553 x555).bind fun x557 =>
    (qCw (qBE 56 (v467.length+x557.length))).bind fun u559 =>
    (qBB (((v467++x557)).length:Int) 15).bind fun x561 =>
    (qBD fuel x551.1 x561).bind fun x563 =>
    (qAH x563.1 10).bind fun x565 =>
    cond x565.2
     ((qAA x565.1 6).bind fun x567 =>
     (qBI fuel x567.1 x567.2).bind fun x569 =>
     (qCD (v467++x557) x561).bind fun x571 =>
     some (x569.1,x1.2.1,x571,x569.2))
     ((qCD (v467++x557) x561).bind fun x573 =>
     some (x565.1,x1.2.1,x573,x563.2)))
    ((qBB (v467.length:Int) 15).bind fun x575 =>
    (qBD fuel x551.1 x575).bind fun x577 =>
    (qAH x577.1 10).bind fun x579 =>
    cond x579.2
     ((qAA x579.1 6).bind fun x581 =>
     (qBI fuel x581.1 x581.2).bind fun x583 =>
     (qCD v467 x575).bind fun x585 =>
     some (x583.1,x1.2.1,x585,x583.2))
     ((qCD v467 x575).bind fun x587 =>
     some (x579.1,x1.2.1,x587,x577.2))))
def qDK (fuel:Nat) (c:L1Cur):Option (L1Cur × Code × (List Item) × Marks) :=
 (qCb fuel c).bind fun x1 =>
 (qAH x1.1 12).bind fun x3 =>
 cond x3.2
  ((qCq fuel x3.1).bind fun x5 =>
  qAs fuel x5 fuel x5.1.code x5.1.at' x5.1.seed x5.2.2 0)
  (qAv fuel x1 fuel x3.1.code x3.1.at' x3.1.seed x1.2.2 0)
theorem qIG (fuel:Nat) (c:L1Cur) (r:(L1Cur × Code × (List Item) × Marks)) (hH:qDK fuel c=some r):qE7 Tryz.prog 107 [.pw (ze9 c)] [.pw (ze9 r.1)] (.t [.g (qGH r.2.1),.s (r.2.2.1.map ze2),.g (qBN r.2.2.2)]):=by
 refine qEy T Tryz.func107 rfl (by decide) rfl rfl ?_
 intro L
 show AW _ _ _ (⟨[(0,.p 1 0)],[(1,.box [.s (List.map ze4 c.code),c.at',.v (.int .u64 c.seed)])],82,[(1,L 1)]⟩:St)
 refine AW.q (AW.r (AO.x (als T 2) ?_))
 refine AO.pu T ?_
 refine AO.x (als T 3) ?_
 refine AO.n (AW.q ?_)
 obtain ⟨x1,hx2,hH⟩:=zB hH
 refine AW.r (AO.pu T ?_)
 refine AO.x (cMs 4 [1] (S:=qFe fuel _ _ (hx2)) (hp:=by exact zG (.c (.box rfl rfl)) (zGn))) ?_
 refine AO.pu T ?_
 refine AO.pu T (d:=.g [.R 4,.R 5,x1.2.1.repeats,x1.2.1.bonus,x1.2.1.keeps,x1.2.1.fall]) ?_
 refine AO.pu T ?_
 refine AO.x (als T 7) ?_
 refine AO.se T [.R 4,.R 5,x1.2.1.repeats,x1.2.1.bonus,x1.2.1.keeps,x1.2.1.fall] ?_
 refine AO.pu T ?_
 refine AO.n (AW.q (AW.q ?_))
 obtain ⟨x3,hx4,hH⟩:=zB hH
 refine AW.r (AO.pu T ?_)
 refine AO.x (cMs 8 [1] (S:=qAL _ _ _ (hx4)) (hp:=by exact zG (.c (.box rfl rfl)) (zG (.c .v) (zGn)))) ?_
 refine AO.n (AW.c (b:=x3.2) rfl (fun hc=>?_) (fun hc=>?_))
 replace hH:=condT hc hH
 obtain ⟨x5,hx6,hH⟩:=zB hH
 refine AW.r (AO.pu T ?_)
 refine AO.x (cMs 8 [1] (S:=qHR fuel _ _ (hx6)) (hp:=by exact zG (.c (.box rfl rfl)) (zGn))) ?_
 refine AO.pu T ?_
 refine AO.pu T (d:=.g [.R 8,.R 9,x5.2.1.repeats,x5.2.1.bonus,x5.2.1.keeps,x5.2.1.fall]) ?_
 refine AO.pu T ?_
 refine AO.se T [.R 8,.R 9,x5.2.1.repeats,x5.2.1.bonus,x5.2.1.keeps,x5.2.1.fall] ?_
 refine AO.pu T ?_
 refine AO.n (AW.q (AW.q ?_))
 refine AW.r (AO.pu T ?_)
 refine AO.w (qGn T) ?_
 refine AO.pu T ?_
 refine AO.n (AW.b ?_)
 refine AW.loopS (fun s:Nat × (List Int) × Int × Int × (List Item) × Int=>(⟨[(0,.p 1 0),(2,.p 2 0),(4,.p 3 0),(5,.p 7 0),(6,.R 10),(24,(x5.2.2.length:Int)),(25,s.2.2.2.2.2)],[(1,.box [.s (List.map ze4 s.2.1),s.2.2.1,.v (.int .u64 s.2.2.2.1)]),(2,.box [.w 0 [],.w 0 [],(0:Int),(0:Int),(0:Int),(0:Int)]),(3,.box [.w 0 [],.w 0 []]),(7,.box [.R 8,.R 9,x5.2.1.repeats,x5.2.1.bonus,x5.2.1.keeps,x5.2.1.fall]),(8,.row 4 (List.map ze3 x5.2.1.elements)),(9,.row 1 (List.map ze0 x5.2.1.limits)),(10,.row 3 (List.map qGM s.2.2.2.2.1))],82,[(1,L 1)]⟩:St)) (fun s=>qAs fuel x5 s.1 s.2.1 s.2.2.1 s.2.2.2.1 s.2.2.2.2.1 s.2.2.2.2.2=some r) (fun s=>s.1) (fuel,x5.1.code,x5.1.at',x5.1.seed,x5.2.2,0) hH ?_ ?_
 exact Le.ct 0 0 (hpin:=⟨⟨rfl,rfl⟩,trivial⟩)
 rintro ⟨k7,v173,v174,v175,v176,v177⟩ hH
 replace hH:qAs fuel x5 k7 v173 v174 v175 v176 v177=some r:=hH
 try dsimp only
 rcases k7 with _ | k7
 cases (show none=some _ from hH)
 rw [qAs] at hH
 refine AW.q (AW.r (AO.pu T ?_))
 refine AO.n (AW.q (AW.c (b:=decide (v177 < (x5.2.2.length:Int))) rfl (fun hc=>?_) (fun hc=>?_)))
 replace hH:=condT hc hH
 refine AW.k ?_
 obtain ⟨o220,hH,hK221⟩:=zB hH
 refine AW.seqJ (fun s:(List Int) × Int × Int × (List Item)=>(⟨[(0,.p 1 0),(2,.p 2 0),(4,.p 3 0),(5,.p 7 0),(6,.R 10),(24,(x5.2.2.length:Int)),(25,v177)],[(1,.box [.s (List.map ze4 s.1),s.2.1,.v (.int .u64 s.2.2.1)]),(2,.box [.w 0 [],.w 0 [],(0:Int),(0:Int),(0:Int),(0:Int)]),(3,.box [.w 0 [],.w 0 []]),(7,.box [.R 8,.R 9,x5.2.1.repeats,x5.2.1.bonus,x5.2.1.keeps,x5.2.1.fall]),(8,.row 4 (List.map ze3 x5.2.1.elements)),(9,.row 1 (List.map ze0 x5.2.1.limits)),(10,.row 3 (List.map qGM s.2.2.2))],82,[(1,L 1)]⟩:St)) (fun s=>s=o220) ?_ ?_
 refine AW.b (AW.q (AW.r ?_))
 refine AO.p2 T ?_
 refine AO.n (AW.q ?_)
 obtain ⟨x222,hx223,hH⟩:=zB hH
 refine AW.le (Le.openM 10 v177.toNat 1 31 rfl (zgG (hx223)) rfl rfl) ?_
 refine AW.r (AO.p2 T ?_)
 refine AO.w (qC8 T rfl rfl rfl rfl rfl rfl (hx223)) ?_
 refine AO.pu T ?_
 refine AO.w (qBF T rfl rfl rfl rfl rfl) ?_
 refine AO.w (qGn T) ?_
 refine AO.pu T ?_
 refine AO.le (Le.closeM 10 v177.toNat 1 31 rfl rfl (zgG (hx223)) rfl (u':=x222) rfl) ?_
 refine AO.n (AW.b ?_)
 refine AW.loopS (fun s:Nat × (List Int) × Int × Int × (List Item) × Int=>(⟨[(0,.p 1 0),(2,.p 2 0),(4,.p 3 0),(5,.p 7 0),(6,.R 10),(7,v177),(24,(x5.2.2.length:Int)),(25,v177),(33,(x222.marks.length:Int)),(34,s.2.2.2.2.2)],[(1,.box [.s (List.map ze4 s.2.1),s.2.2.1,.v (.int .u64 s.2.2.2.1)]),(2,.box [.w 0 [],.w 0 [],(0:Int),(0:Int),(0:Int),(0:Int)]),(3,.box [.w 0 [],.w 0 []]),(7,.box [.R 8,.R 9,x5.2.1.repeats,x5.2.1.bonus,x5.2.1.keeps,x5.2.1.fall]),(8,.row 4 (List.map ze3 x5.2.1.elements)),(9,.row 1 (List.map ze0 x5.2.1.limits)),(10,.row 3 (List.map qGM s.2.2.2.2.1))],82,[(1,L 1)]⟩:St)) (fun s=>qAe v177 x222 s.1 s.2.1 s.2.2.1 s.2.2.2.1 s.2.2.2.2.1 s.2.2.2.2.2=some o220) (fun s=>s.1) (fuel,v173,v174,v175,(v176.set v177.toNat x222),0) hH ?_ ?_
 exact Le.ct 0 0 (hpin:=⟨⟨rfl,rfl⟩,trivial⟩)
 rintro ⟨k224,v246,v247,v248,v249,v250⟩ hH
 replace hH:qAe v177 x222 k224 v246 v247 v248 v249 v250=some o220:=hH
 try dsimp only
 rcases k224 with _ | k224
 cases (show none=some _ from hH)
 rw [qAe] at hH
 refine AW.q (AW.r (AO.pu T ?_))
 refine AO.n (AW.q (AW.c (b:=decide (v250 < (x222.marks.length:Int))) rfl (fun hc=>?_) (fun hc=>?_)))
 replace hH:=condT hc hH
 refine AW.k (AW.q ?_)
 refine AW.b (AW.q (AW.r ?_))
 refine AO.p2 T ?_
 refine AO.n (AW.q ?_)
 obtain ⟨x252,hx253,hH⟩:=zB hH
 refine AW.r (AO.pu T ?_)
 refine AO.x (cMs 34 [1] (S:=qAL _ _ _ (hx253)) (hp:=by exact zG (.c (.box rfl rfl)) (zG (.c .v) (zGn)))) ?_
 refine AO.n (AW.c (b:=x252.2) rfl (fun hc=>?_) (fun hc=>?_))
 replace hH:=condT hc hH
 obtain ⟨x254,hx255,hH⟩:=zB hH
 obtain ⟨x256,hx257,hH⟩:=zB hH
 obtain ⟨x258,hx259,hH⟩:=zB hH
 refine AW.le (Le.openM 10 v177.toNat 1 34 rfl (zgG (hx255)) rfl rfl) ?_
 refine AW.drawn 8 35 [1] mix (by kernel_rfl) rfl ?_
 iterate 2 refine AD.pu T ?_
 refine AD.vv (qC8 T rfl rfl rfl rfl rfl rfl (hx255)) ?_
 refine AD.pu T ?_
 refine AD.vv (qBF T rfl rfl rfl rfl rfl) ?_
 iterate 2 refine AD.pu T ?_
 refine AD.kk (cMF [1] (S:=qAB _ _ _ (hx257)) (hp:=by exact zG (.c (.box rfl rfl)) (zG (.c .v) (zGn)))) ?_
 refine AD.nil (AO.w (ixr T (hx259)) ?_)
 refine AO.x (zSr T rfl rfl rfl rfl rfl (zgG (hx259)) rfl rfl rfl rfl (u':=x256.2) rfl rfl) ?_
 refine AO.le (Le.closeM 10 v177.toNat 1 34 rfl rfl (zgG (hx255)) rfl (u':=(Item.mk x254.names (x254.marks.set v250.toNat x256.2) x254.late)) rfl) ?_
 refine AO.n (AW.r ?_)
 refine AO.w aws ?_
 refine AO.pu T ?_
 refine AO.n ?_
 refine ⟨(k224,x256.1.code,x256.1.at',x256.1.seed,(v249.set v177.toNat (Item.mk x254.names (x254.marks.set v250.toNat x256.2) x254.late)),w64 (v250+1)),hH,Nat.lt_succ_self _,?_⟩
 exact Le.ct 0 0 (hpin:=⟨⟨rfl,rfl⟩,trivial⟩)
 replace hH:=condF hc hH
 refine AW.k (AW.r ?_)
 refine AO.w aws ?_
 refine AO.pu T ?_
 refine AO.n ?_
 refine ⟨(k224,x252.1.code,x252.1.at',x252.1.seed,v249,w64 (v250+1)),hH,Nat.lt_succ_self _,?_⟩
 exact Le.ct 0 0 (hpin:=⟨⟨rfl,rfl⟩,trivial⟩)
 replace hH:=condF hc hH
 refine AW.exit ?_
 refine ⟨_,zS hH,?_⟩
 exact Le.ct 0 0 (hpin:=⟨⟨rfl,rfl⟩,trivial⟩)
 rintro ⟨v216,v217,v218,v219⟩ hs
 subst hs
 replace hH:=hK221
 try dsimp only [qKp,qID] at hH
 try dsimp only
 refine AW.r (AO.w aws ?_)
 refine AO.pu T ?_
 refine AO.n ?_
 refine ⟨(k7,v216,v217,v218,v219,w64 (v177+1)),hH,Nat.lt_succ_self _,?_⟩
 exact Le.ct 0 0 (hpin:=⟨⟨rfl,rfl⟩,trivial⟩)
 replace hH:=condF hc hH
 refine AW.exit (AW.q (AW.q ?_))
 obtain ⟨x260,hx261,hH⟩:=zB hH
 refine AW.r (AO.pu T ?_)
 refine AO.w (qGn T) ?_
 refine AO.p2 T ?_
 refine AO.g T [] rfl trivial rfl rfl ?_
 refine AO.guardP (id:=1) (cs':=[.s (List.map ze4 x260.1.code),x260.1.at',.v (.int .u64 x260.1.seed)]) (r:=.v (.bool x260.2)) [54] rfl ⟨fun h=>h,trivial⟩ (fun hg=>zM rfl 35 rfl rfl (es:=[.pw (ze9 (L1Cur.mk v173 v174 v175)),.v (.int .i64 3)]) (outs:=[.pw (ze9 x260.1),.u]) (ids:=[1]) (by exact zG (.c (.box rfl rfl)) (zG (.c .v) (zGn))) (by decide) (.inl (by rfl)) (by rfl) (qAL _ _ _ (qEA hx261 hg)) rfl (by rfl) rfl) rfl (fun hg=>by have q:=qUO hx261 hg;subst q;rfl) rfl ?_
 refine AO.w qFy ?_
 refine AO.n (AW.c (b:=(decide ((v176.length:Int) > 1) && x260.2)) rfl (fun hc=>?_) (fun hc=>?_))
 replace hH:=condT hc hH
 obtain ⟨x262,hx263,hH⟩:=zB hH
 obtain ⟨x264,hx265,hH⟩:=zB hH
 obtain ⟨x266,hx267,hH⟩:=zB hH
 obtain ⟨u268,hx269,hH⟩:=zB hH
 refine AW.le (Le.freezeIn 10 (g:=ze2) rfl (fun y=>qDh y)) ?_
 refine AW.r (AO.p2 T ?_)
 refine AO.w (qL5 rfl rfl rfl (es:=[.s (List.map ze2 v176)]) ⟨(.rowR rfl (.map fun y=>.vs rfl)),trivial⟩ (qDx _ _ (hx263)) (qAO (fun y=>(.cons (qAO (fun y=>(.cons (qAF _) .nil))) (.cons (qAO (fun y=>(.cons (qAF _) .nil))) (.cons (qAF _) .nil))))) (.c (.c (.map fun y=>qDh y)))) ?_
 refine AO.pu T ?_
 refine AO.w (qGn T) ?_
 refine AO.w (cVs (qBZ _ _ _ (hx265))) ?_
 refine AO.w (qAa T rfl rfl rfl rfl rfl (hx267) (fun _=>rfl)) ?_
 refine AO.x (qJU T rfl 35 rfl rfl rfl rfl rfl (by decide) (by decide) rfl rfl rfl (fun _=>rfl) (qA4 (hx269)) rfl rfl) ?_
 refine AO.pu T ?_
 refine AO.n (AW.q ?_)
 obtain ⟨x270,hx271,hH⟩:=zB hH
 refine AW.r (AO.pu T ?_)
 refine AO.w (qGn T) ?_
 refine AO.w (cVs (qBZ _ _ _ (hx271))) ?_
 refine AO.pu T ?_
 refine AO.n (AW.q ?_)
 obtain ⟨x272,hx273,hH⟩:=zB hH
 refine AW.r (AO.p2 T ?_)
 refine AO.x (cMs 36 [1] (S:=qCd fuel _ _ _ (hx273)) (hp:=by exact zG (.c (.box rfl rfl)) (zG (.c .v) (zGn)))) ?_
 refine AO.x (als T 38) ?_
 refine AO.se T [.R 36,.R 37] ?_
 refine AO.n (AW.le (Le.ct 0 0 (σ':=(⟨[(0,.p 1 0),(2,.p 2 0),(4,.p 3 0),(5,.p 7 0),(6,.R 35),(9,x270),(10,.p 38 0)],[(1,.box [.s (List.map ze4 x272.1.code),x272.1.at',.v (.int .u64 x272.1.seed)]),(2,.box [.w 0 [],.w 0 [],(0:Int),(0:Int),(0:Int),(0:Int)]),(3,.box [.w 0 [],.w 0 []]),(7,.box [.R 8,.R 9,x5.2.1.repeats,x5.2.1.bonus,x5.2.1.keeps,x5.2.1.fall]),(8,.row 4 (List.map ze3 x5.2.1.elements)),(9,.row 1 (List.map ze0 x5.2.1.limits)),(35,.row 3 (List.map ze2 (v176++x266))),(36,.row 1 (List.map ze6 x272.2.grades)),(37,.row 1 (List.map ze6 x272.2.components)),(38,.box [.R 36,.R 37])],82,[(1,L 1)]⟩:St)) (hpin:=⟨⟨rfl,rfl⟩,trivial⟩)) ?_)
 refine AW.q (AW.q ?_)
 obtain ⟨x274,hx275,hH⟩:=zB hH
 refine AW.r (AO.pu T ?_)
 refine AO.x (cMs 39 [1] (S:=qAL _ _ _ (hx275)) (hp:=by exact zG (.c (.box rfl rfl)) (zG (.c .v) (zGn)))) ?_
 refine AO.n (AW.c (b:=x274.2) rfl (fun hc=>?_) (fun hc=>?_))
 replace hH:=condT hc hH
 obtain ⟨x276,hx277,hH⟩:=zB hH
 obtain ⟨x278,hx279,hH⟩:=zB hH
 refine AW.r (AO.p2 T ?_)
 refine AO.x (cMs 39 [1] (S:=qAB _ _ _ (hx277)) (hp:=by exact zG (.c (.box rfl rfl)) (zG (.c .v) (zGn)))) ?_
 refine AO.x (cMs 39 [1] (S:=qDe fuel _ _ _ (hx279)) (hp:=by exact zG (.c (.box rfl rfl)) (zG (.c .v) (zGn)))) ?_
 refine AO.se T [.s (List.map ze1 x278.2.grades),.s (List.map ze1 x278.2.components)] ?_
 refine AO.n (AW.q ?_)
 obtain ⟨x280,hx281,hH⟩:=zB hH
 refine AW.le (Le.fM 35 (g:=ze2) rfl (fun y=>.vs rfl)) ?_
 refine AW.drawn 7 39 [2] mix (by kernel_rfl) rfl ?_
 refine AD.p T (d:=.g [.R 8,.R 9,x5.2.1.repeats,x5.2.1.bonus,x5.2.1.keeps,x5.2.1.fall]) rfl rfl rfl ?_
 iterate 2 refine AD.pu T ?_
 refine AD.vv (qAa T rfl rfl rfl rfl rfl (hx281) (fun _=>rfl)) ?_
 refine AD.p T (d:=.g [.s (List.map ze1 x278.2.grades),.s (List.map ze1 x278.2.components)]) rfl rfl rfl ?_
 refine AD.kk (FStep.store_p T rfl rfl rfl rfl rfl rfl rfl rfl rfl rfl rfl) ?_
 refine AD.pu T ?_
 refine AD.nil (AO.se T [.s (List.map ze1 x278.2.grades),.s (List.map ze1 x278.2.components)] ?_)
 refine AO.n (AW.t ?_)
 have hR:=zS hH;subst hR
 exact ⟨trivial,rfl,_,[8,9],[1],rfl,zG (.c (.box rfl rfl)) (zGn),.t (zG (.g (zC (.rowR rfl) (zC (.rowR rfl) (zC .v (zC .v (zC .v (zC .v (zCn)))))))) (zG (.c .s) (zG (.g (zC .s (zC .s (zCn)))) (zGn)))),by decide⟩
 replace hH:=condF hc hH
 refine AW.k (AW.q ?_)
 obtain ⟨x282,hx283,hH⟩:=zB hH
 refine AW.le (Le.fM 35 (g:=ze2) rfl (fun y=>.vs rfl)) ?_
 refine AW.drawn 7 39 [2] mix (by kernel_rfl) rfl ?_
 refine AD.p T (d:=.g [.R 8,.R 9,x5.2.1.repeats,x5.2.1.bonus,x5.2.1.keeps,x5.2.1.fall]) rfl rfl rfl ?_
 iterate 2 refine AD.pu T ?_
 refine AD.vv (qAa T rfl rfl rfl rfl rfl (hx283) (fun _=>rfl)) ?_
 refine AD.p T (d:=.g [.R 36,.R 37]) rfl rfl rfl ?_
 refine AD.kk (FStep.store_p T rfl rfl rfl rfl rfl rfl rfl rfl rfl rfl rfl) ?_
 refine AD.pu T ?_
 refine AD.nil (AO.se T [.R 36,.R 37] ?_)
 refine AO.n (AW.le (Le.fM 37 (g:=ze1) rfl (fun y=>qA9 y)) ?_)
 refine AW.le (Le.fM 36 (g:=ze1) rfl (fun y=>qA9 y)) ?_
 refine AW.t ?_
 have hR:=zS hH;subst hR
 exact ⟨trivial,rfl,_,[8,9],[1],rfl,zG (.c (.box rfl rfl)) (zGn),.t (zG (.g (zC (.rowR rfl) (zC (.rowR rfl) (zC .v (zC .v (zC .v (zC .v (zCn)))))))) (zG (.c .s) (zG (.g (zC .s (zC .s (zCn)))) (zGn)))),by decide⟩
 replace hH:=condF hc hH
 refine AW.k (AW.q ?_)
 obtain ⟨x284,hx285,hH⟩:=zB hH
 refine AW.r (AO.pu T ?_)
 refine AO.w (qGn T) ?_
 refine AO.w (cVs (qBZ _ _ _ (hx285))) ?_
 refine AO.pu T ?_
 refine AO.n (AW.q ?_)
 obtain ⟨x286,hx287,hH⟩:=zB hH
 refine AW.r (AO.p2 T ?_)
 refine AO.x (cMs 39 [1] (S:=qCd fuel _ _ _ (hx287)) (hp:=by exact zG (.c (.box rfl rfl)) (zG (.c .v) (zGn)))) ?_
 refine AO.x (als T 41) ?_
 refine AO.se T [.R 39,.R 40] ?_
 refine AO.n (AW.q (AW.q ?_))
 obtain ⟨x288,hx289,hH⟩:=zB hH
 refine AW.r (AO.pu T ?_)
 refine AO.x (cMs 42 [1] (S:=qAL _ _ _ (hx289)) (hp:=by exact zG (.c (.box rfl rfl)) (zG (.c .v) (zGn)))) ?_
 refine AO.n (AW.c (b:=x288.2) rfl (fun hc=>?_) (fun hc=>?_))
 replace hH:=condT hc hH
 obtain ⟨x290,hx291,hH⟩:=zB hH
 obtain ⟨x292,hx293,hH⟩:=zB hH
 refine AW.r (AO.p2 T ?_)
 refine AO.x (cMs 42 [1] (S:=qAB _ _ _ (hx291)) (hp:=by exact zG (.c (.box rfl rfl)) (zG (.c .v) (zGn)))) ?_
 refine AO.x (cMs 42 [1] (S:=qDe fuel _ _ _ (hx293)) (hp:=by exact zG (.c (.box rfl rfl)) (zG (.c .v) (zGn)))) ?_
 refine AO.se T [.s (List.map ze1 x292.2.grades),.s (List.map ze1 x292.2.components)] ?_
 refine AO.n (AW.le (Le.ct 0 0 (σ':=(⟨[(2,.p 2 0),(4,.p 3 0),(5,.p 7 0),(6,.R 10),(9,x284),(10,.p 41 0)],[(1,.box [.s (List.map ze4 x292.1.code),x292.1.at',.v (.int .u64 x292.1.seed)]),(2,.box [.w 0 [],.w 0 [],(0:Int),(0:Int),(0:Int),(0:Int)]),(3,.box [.w 0 [],.w 0 []]),(7,.box [.R 8,.R 9,x5.2.1.repeats,x5.2.1.bonus,x5.2.1.keeps,x5.2.1.fall]),(8,.row 4 (List.map ze3 x5.2.1.elements)),(9,.row 1 (List.map ze0 x5.2.1.limits)),(10,.row 3 (List.map qGM v176)),(41,.box [.s (List.map ze1 x292.2.grades),.s (List.map ze1 x292.2.components)])],82,[(1,L 1)]⟩:St)) (hpin:=⟨⟨rfl,rfl⟩,trivial⟩)) ?_)
 refine AW.q ?_
 obtain ⟨x294,hx295,hH⟩:=zB hH
 refine AW.le (Le.fM 10 (g:=ze2) rfl (fun y=>qDh y)) ?_
 refine AW.drawn 7 42 [2] mix (by kernel_rfl) rfl ?_
 refine AD.p T (d:=.g [.R 8,.R 9,x5.2.1.repeats,x5.2.1.bonus,x5.2.1.keeps,x5.2.1.fall]) rfl rfl rfl ?_
 iterate 2 refine AD.pu T ?_
 refine AD.vv (qAa T rfl rfl rfl rfl rfl (hx295) (fun _=>rfl)) ?_
 refine AD.p T (d:=.g [.s (List.map ze1 x292.2.grades),.s (List.map ze1 x292.2.components)]) rfl rfl rfl ?_
 refine AD.kk (FStep.store_p T rfl rfl rfl rfl rfl rfl rfl rfl rfl rfl rfl) ?_
 refine AD.pu T ?_
 refine AD.nil (AO.se T [.s (List.map ze1 x292.2.grades),.s (List.map ze1 x292.2.components)] ?_)
 refine AO.n (AW.t ?_)
 have hR:=zS hH;subst hR
 exact ⟨trivial,rfl,_,[8,9],[1],rfl,zG (.c (.box rfl rfl)) (zGn),.t (zG (.g (zC (.rowR rfl) (zC (.rowR rfl) (zC .v (zC .v (zC .v (zC .v (zCn)))))))) (zG (.c .s) (zG (.g (zC .s (zC .s (zCn)))) (zGn)))),by decide⟩
 replace hH:=condF hc hH
 refine AW.k (AW.q ?_)
 obtain ⟨x296,hx297,hH⟩:=zB hH
 refine AW.le (Le.fM 10 (g:=ze2) rfl (fun y=>qDh y)) ?_
 refine AW.drawn 7 42 [2] mix (by kernel_rfl) rfl ?_
 refine AD.p T (d:=.g [.R 8,.R 9,x5.2.1.repeats,x5.2.1.bonus,x5.2.1.keeps,x5.2.1.fall]) rfl rfl rfl ?_
 iterate 2 refine AD.pu T ?_
 refine AD.vv (qAa T rfl rfl rfl rfl rfl (hx297) (fun _=>rfl)) ?_
 refine AD.p T (d:=.g [.R 39,.R 40]) rfl rfl rfl ?_
 refine AD.kk (FStep.store_p T rfl rfl rfl rfl rfl rfl rfl rfl rfl rfl rfl) ?_
 refine AD.pu T ?_
 refine AD.nil (AO.se T [.R 39,.R 40] ?_)
 refine AO.n (AW.le (Le.ct 0 0 (σ':=(⟨[(2,.p 2 0),(3,.s (List.map ze2 x296)),(4,.p 3 0)],[(1,.box [.s (List.map ze4 x288.1.code),x288.1.at',.v (.int .u64 x288.1.seed)]),(2,.box [.R 8,.R 9,x5.2.1.repeats,x5.2.1.bonus,x5.2.1.keeps,x5.2.1.fall]),(3,.box [.R 39,.R 40]),(8,.row 4 (List.map ze3 x5.2.1.elements)),(9,.row 1 (List.map ze0 x5.2.1.limits)),(39,.row 1 (List.map ze6 x286.2.grades)),(40,.row 1 (List.map ze6 x286.2.components))],82,[(1,L 1)]⟩:St)) (hpin:=⟨⟨rfl,rfl⟩,trivial⟩)) ?_)
 refine AW.le (Le.fM 40 (g:=ze1) rfl (fun y=>qA9 y)) ?_
 refine AW.le (Le.fM 39 (g:=ze1) rfl (fun y=>qA9 y)) ?_
 refine AW.t ?_
 have hR:=zS hH;subst hR
 exact ⟨trivial,rfl,_,[8,9],[1],rfl,zG (.c (.box rfl rfl)) (zGn),.t (zG (.g (zC (.rowR rfl) (zC (.rowR rfl) (zC .v (zC .v (zC .v (zC .v (zCn)))))))) (zG (.c .s) (zG (.g (zC .s (zC .s (zCn)))) (zGn)))),by decide⟩
 replace hH:=condF hc hH
 refine AW.k (AW.q (AW.q ?_))
 refine AW.r (AO.pu T ?_)
 refine AO.w (qGn T) ?_
 refine AO.pu T ?_
 refine AO.n (AW.b ?_)
 refine AW.loopS (fun s:Nat × (List Int) × Int × Int × (List Item) × Int=>(⟨[(0,.p 1 0),(2,.p 2 0),(4,.p 3 0),(5,.p 7 0),(6,.R 6),(24,(x1.2.2.length:Int)),(25,s.2.2.2.2.2)],[(1,.box [.s (List.map ze4 s.2.1),s.2.2.1,.v (.int .u64 s.2.2.2.1)]),(2,.box [.w 0 [],.w 0 [],(0:Int),(0:Int),(0:Int),(0:Int)]),(3,.box [.w 0 [],.w 0 []]),(4,.row 4 (List.map ze3 x1.2.1.elements)),(5,.row 1 (List.map ze0 x1.2.1.limits)),(6,.row 3 (List.map qGM s.2.2.2.2.1)),(7,.box [.R 4,.R 5,x1.2.1.repeats,x1.2.1.bonus,x1.2.1.keeps,x1.2.1.fall])],82,[(1,L 1)]⟩:St)) (fun s=>qAv fuel x1 s.1 s.2.1 s.2.2.1 s.2.2.2.1 s.2.2.2.2.1 s.2.2.2.2.2=some r) (fun s=>s.1) (fuel,x3.1.code,x3.1.at',x3.1.seed,x1.2.2,0) hH ?_ ?_
 exact Le.ct 0 0 (hpin:=⟨⟨rfl,rfl⟩,trivial⟩)
 rintro ⟨k298,v464,v465,v466,v467,v468⟩ hH
 replace hH:qAv fuel x1 k298 v464 v465 v466 v467 v468=some r:=hH
 try dsimp only
 rcases k298 with _ | k298
 cases (show none=some _ from hH)
 rw [qAv] at hH
 refine AW.q (AW.r (AO.pu T ?_))
 refine AO.n (AW.q (AW.c (b:=decide (v468 < (x1.2.2.length:Int))) rfl (fun hc=>?_) (fun hc=>?_)))
 replace hH:=condT hc hH
 refine AW.k ?_
 obtain ⟨o511,hH,hK512⟩:=zB hH
 refine AW.seqJ (fun s:(List Int) × Int × Int × (List Item)=>(⟨[(0,.p 1 0),(2,.p 2 0),(4,.p 3 0),(5,.p 7 0),(6,.R 6),(24,(x1.2.2.length:Int)),(25,v468)],[(1,.box [.s (List.map ze4 s.1),s.2.1,.v (.int .u64 s.2.2.1)]),(2,.box [.w 0 [],.w 0 [],(0:Int),(0:Int),(0:Int),(0:Int)]),(3,.box [.w 0 [],.w 0 []]),(4,.row 4 (List.map ze3 x1.2.1.elements)),(5,.row 1 (List.map ze0 x1.2.1.limits)),(6,.row 3 (List.map qGM s.2.2.2)),(7,.box [.R 4,.R 5,x1.2.1.repeats,x1.2.1.bonus,x1.2.1.keeps,x1.2.1.fall])],82,[(1,L 1)]⟩:St)) (fun s=>s=o511) ?_ ?_
 refine AW.b (AW.q (AW.r ?_))
 refine AO.p2 T ?_
 refine AO.n (AW.q ?_)
 obtain ⟨x513,hx514,hH⟩:=zB hH
 refine AW.le (Le.openM 6 v468.toNat 1 62 rfl (zgG (hx514)) rfl rfl) ?_
 refine AW.r (AO.p2 T ?_)
 refine AO.w (qC8 T rfl rfl rfl rfl rfl rfl (hx514)) ?_
 refine AO.pu T ?_
 refine AO.w (qBF T rfl rfl rfl rfl rfl) ?_
 refine AO.w (qGn T) ?_
 refine AO.pu T ?_
 refine AO.le (Le.closeM 6 v468.toNat 1 62 rfl rfl (zgG (hx514)) rfl (u':=x513) rfl) ?_
 refine AO.n (AW.b ?_)
 refine AW.loopS (fun s:Nat × (List Int) × Int × Int × (List Item) × Int=>(⟨[(0,.p 1 0),(2,.p 2 0),(4,.p 3 0),(5,.p 7 0),(6,.R 6),(7,v468),(24,(x1.2.2.length:Int)),(25,v468),(33,(x513.marks.length:Int)),(34,s.2.2.2.2.2)],[(1,.box [.s (List.map ze4 s.2.1),s.2.2.1,.v (.int .u64 s.2.2.2.1)]),(2,.box [.w 0 [],.w 0 [],(0:Int),(0:Int),(0:Int),(0:Int)]),(3,.box [.w 0 [],.w 0 []]),(4,.row 4 (List.map ze3 x1.2.1.elements)),(5,.row 1 (List.map ze0 x1.2.1.limits)),(6,.row 3 (List.map qGM s.2.2.2.2.1)),(7,.box [.R 4,.R 5,x1.2.1.repeats,x1.2.1.bonus,x1.2.1.keeps,x1.2.1.fall])],82,[(1,L 1)]⟩:St)) (fun s=>qAg v468 x513 s.1 s.2.1 s.2.2.1 s.2.2.2.1 s.2.2.2.2.1 s.2.2.2.2.2=some o511) (fun s=>s.1) (fuel,v464,v465,v466,(v467.set v468.toNat x513),0) hH ?_ ?_
 exact Le.ct 0 0 (hpin:=⟨⟨rfl,rfl⟩,trivial⟩)
 rintro ⟨k515,v537,v538,v539,v540,v541⟩ hH
 replace hH:qAg v468 x513 k515 v537 v538 v539 v540 v541=some o511:=hH
 try dsimp only
 rcases k515 with _ | k515
 cases (show none=some _ from hH)
 rw [qAg] at hH
 refine AW.q (AW.r (AO.pu T ?_))
 refine AO.n (AW.q (AW.c (b:=decide (v541 < (x513.marks.length:Int))) rfl (fun hc=>?_) (fun hc=>?_)))
 replace hH:=condT hc hH
 refine AW.k (AW.q ?_)
 refine AW.b (AW.q (AW.r ?_))
 refine AO.p2 T ?_
 refine AO.n (AW.q ?_)
 obtain ⟨x543,hx544,hH⟩:=zB hH
 refine AW.r (AO.pu T ?_)
 refine AO.x (cMs 65 [1] (S:=qAL _ _ _ (hx544)) (hp:=by exact zG (.c (.box rfl rfl)) (zG (.c .v) (zGn)))) ?_
 refine AO.n (AW.c (b:=x543.2) rfl (fun hc=>?_) (fun hc=>?_))
 replace hH:=condT hc hH
 obtain ⟨x545,hx546,hH⟩:=zB hH
 obtain ⟨x547,hx548,hH⟩:=zB hH
 obtain ⟨x549,hx550,hH⟩:=zB hH
 refine AW.le (Le.openM 6 v468.toNat 1 65 rfl (zgG (hx546)) rfl rfl) ?_
 refine AW.drawn 8 66 [1] mix (by kernel_rfl) rfl ?_
 iterate 2 refine AD.pu T ?_
 refine AD.vv (qC8 T rfl rfl rfl rfl rfl rfl (hx546)) ?_
 refine AD.pu T ?_
 refine AD.vv (qBF T rfl rfl rfl rfl rfl) ?_
 iterate 2 refine AD.pu T ?_
 refine AD.kk (cMF [1] (S:=qAB _ _ _ (hx548)) (hp:=by exact zG (.c (.box rfl rfl)) (zG (.c .v) (zGn)))) ?_
 refine AD.nil (AO.w (ixr T (hx550)) ?_)
 refine AO.x (zSr T rfl rfl rfl rfl rfl (zgG (hx550)) rfl rfl rfl rfl (u':=x547.2) rfl rfl) ?_
 refine AO.le (Le.closeM 6 v468.toNat 1 65 rfl rfl (zgG (hx546)) rfl (u':=(Item.mk x545.names (x545.marks.set v541.toNat x547.2) x545.late)) rfl) ?_
 refine AO.n (AW.r ?_)
 refine AO.w aws ?_
 refine AO.pu T ?_
 refine AO.n ?_
 refine ⟨(k515,x547.1.code,x547.1.at',x547.1.seed,(v540.set v468.toNat (Item.mk x545.names (x545.marks.set v541.toNat x547.2) x545.late)),w64 (v541+1)),hH,Nat.lt_succ_self _,?_⟩
 exact Le.ct 0 0 (hpin:=⟨⟨rfl,rfl⟩,trivial⟩)
 replace hH:=condF hc hH
 refine AW.k (AW.r ?_)
 refine AO.w aws ?_
 refine AO.pu T ?_
 refine AO.n ?_
 refine ⟨(k515,x543.1.code,x543.1.at',x543.1.seed,v540,w64 (v541+1)),hH,Nat.lt_succ_self _,?_⟩
 exact Le.ct 0 0 (hpin:=⟨⟨rfl,rfl⟩,trivial⟩)
 replace hH:=condF hc hH
 refine AW.exit ?_
 refine ⟨_,zS hH,?_⟩
 exact Le.ct 0 0 (hpin:=⟨⟨rfl,rfl⟩,trivial⟩)
 rintro ⟨v507,v508,v509,v510⟩ hs
 subst hs
 replace hH:=hK512
 try dsimp only [qKp,qID] at hH
 try dsimp only
 refine AW.r (AO.w aws ?_)
 refine AO.pu T ?_
 refine AO.n ?_
 refine ⟨(k298,v507,v508,v509,v510,w64 (v468+1)),hH,Nat.lt_succ_self _,?_⟩
 exact Le.ct 0 0 (hpin:=⟨⟨rfl,rfl⟩,trivial⟩)
 replace hH:=condF hc hH
 refine AW.exit (AW.q (AW.q ?_))
 obtain ⟨x551,hx552,hH⟩:=zB hH
 refine AW.r (AO.pu T ?_)
 refine AO.w (qGn T) ?_
 refine AO.p2 T ?_
 refine AO.g T [] rfl trivial rfl rfl ?_
 refine AO.guardP (id:=1) (cs':=[.s (List.map ze4 x551.1.code),x551.1.at',.v (.int .u64 x551.1.seed)]) (r:=.v (.bool x551.2)) [54] rfl ⟨fun h=>h,trivial⟩ (fun hg=>zM rfl 66 rfl rfl (es:=[.pw (ze9 (L1Cur.mk v464 v465 v466)),.v (.int .i64 3)]) (outs:=[.pw (ze9 x551.1),.u]) (ids:=[1]) (by exact zG (.c (.box rfl rfl)) (zG (.c .v) (zGn))) (by decide) (.inl (by rfl)) (by rfl) (qAL _ _ _ (qEA hx552 hg)) rfl (by rfl) rfl) rfl (fun hg=>by have q:=qUO hx552 hg;subst q;rfl) rfl ?_
 refine AO.w qFy ?_
 refine AO.n (AW.c (b:=(decide ((v467.length:Int) > 1) && x551.2)) rfl (fun hc=>?_) (fun hc=>?_))
 replace hH:=condT hc hH
 obtain ⟨x553,hx554,hH⟩:=zB hH
 obtain ⟨x555,hx556,hH⟩:=zB hH
 obtain ⟨x557,hx558,hH⟩:=zB hH
 obtain ⟨u559,hx560,hH⟩:=zB hH
 refine AW.le (Le.freezeIn 6 (g:=ze2) rfl (fun y=>qDh y)) ?_
 refine AW.r (AO.p2 T ?_)
 refine AO.w (qL5 rfl rfl rfl (es:=[.s (List.map ze2 v467)]) ⟨(.rowR rfl (.map fun y=>.vs rfl)),trivial⟩ (qDx _ _ (hx554)) (qAO (fun y=>(.cons (qAO (fun y=>(.cons (qAF _) .nil))) (.cons (qAO (fun y=>(.cons (qAF _) .nil))) (.cons (qAF _) .nil))))) (.c (.c (.map fun y=>qDh y)))) ?_
 refine AO.pu T ?_
 refine AO.w (qGn T) ?_
 refine AO.w (cVs (qBZ _ _ _ (hx556))) ?_
 refine AO.w (qAa T rfl rfl rfl rfl rfl (hx558) (fun _=>rfl)) ?_
 refine AO.x (qJU T rfl 66 rfl rfl rfl rfl rfl (by decide) (by decide) rfl rfl rfl (fun _=>rfl) (qA4 (hx560)) rfl rfl) ?_
 refine AO.pu T ?_
 refine AO.n (AW.q ?_)
 obtain ⟨x561,hx562,hH⟩:=zB hH
 refine AW.r (AO.pu T ?_)
 refine AO.w (qGn T) ?_
 refine AO.w (cVs (qBZ _ _ _ (hx562))) ?_
 refine AO.pu T ?_
 refine AO.n (AW.q ?_)
 obtain ⟨x563,hx564,hH⟩:=zB hH
 refine AW.r (AO.p2 T ?_)
 refine AO.x (cMs 67 [1] (S:=qCd fuel _ _ _ (hx564)) (hp:=by exact zG (.c (.box rfl rfl)) (zG (.c .v) (zGn)))) ?_
 refine AO.x (als T 69) ?_
 refine AO.se T [.R 67,.R 68] ?_
 refine AO.n (AW.le (Le.ct 0 0 (σ':=(⟨[(0,.p 1 0),(2,.p 2 0),(4,.p 3 0),(5,.p 7 0),(6,.R 66),(9,x561),(10,.p 69 0)],[(1,.box [.s (List.map ze4 x563.1.code),x563.1.at',.v (.int .u64 x563.1.seed)]),(2,.box [.w 0 [],.w 0 [],(0:Int),(0:Int),(0:Int),(0:Int)]),(3,.box [.w 0 [],.w 0 []]),(4,.row 4 (List.map ze3 x1.2.1.elements)),(5,.row 1 (List.map ze0 x1.2.1.limits)),(7,.box [.R 4,.R 5,x1.2.1.repeats,x1.2.1.bonus,x1.2.1.keeps,x1.2.1.fall]),(66,.row 3 (List.map ze2 (v467++x557))),(67,.row 1 (List.map ze6 x563.2.grades)),(68,.row 1 (List.map ze6 x563.2.components)),(69,.box [.R 67,.R 68])],82,[(1,L 1)]⟩:St)) (hpin:=⟨⟨rfl,rfl⟩,trivial⟩)) ?_)
 refine AW.q (AW.q ?_)
 obtain ⟨x565,hx566,hH⟩:=zB hH
 refine AW.r (AO.pu T ?_)
 refine AO.x (cMs 70 [1] (S:=qAL _ _ _ (hx566)) (hp:=by exact zG (.c (.box rfl rfl)) (zG (.c .v) (zGn)))) ?_
 refine AO.n (AW.c (b:=x565.2) rfl (fun hc=>?_) (fun hc=>?_))
 replace hH:=condT hc hH
 obtain ⟨x567,hx568,hH⟩:=zB hH
 obtain ⟨x569,hx570,hH⟩:=zB hH
 refine AW.r (AO.p2 T ?_)
 refine AO.x (cMs 70 [1] (S:=qAB _ _ _ (hx568)) (hp:=by exact zG (.c (.box rfl rfl)) (zG (.c .v) (zGn)))) ?_
 refine AO.x (cMs 70 [1] (S:=qDe fuel _ _ _ (hx570)) (hp:=by exact zG (.c (.box rfl rfl)) (zG (.c .v) (zGn)))) ?_
 refine AO.se T [.s (List.map ze1 x569.2.grades),.s (List.map ze1 x569.2.components)] ?_
 refine AO.n (AW.q ?_)
 obtain ⟨x571,hx572,hH⟩:=zB hH
 refine AW.le (Le.fM 66 (g:=ze2) rfl (fun y=>.vs rfl)) ?_
 refine AW.drawn 7 70 [2] mix (by kernel_rfl) rfl ?_
 refine AD.p T (d:=.g [.R 4,.R 5,x1.2.1.repeats,x1.2.1.bonus,x1.2.1.keeps,x1.2.1.fall]) rfl rfl rfl ?_
 iterate 2 refine AD.pu T ?_
 refine AD.vv (qAa T rfl rfl rfl rfl rfl (hx572) (fun _=>rfl)) ?_
 refine AD.p T (d:=.g [.s (List.map ze1 x569.2.grades),.s (List.map ze1 x569.2.components)]) rfl rfl rfl ?_
 refine AD.kk (FStep.store_p T rfl rfl rfl rfl rfl rfl rfl rfl rfl rfl rfl) ?_
 refine AD.pu T ?_
 refine AD.nil (AO.se T [.s (List.map ze1 x569.2.grades),.s (List.map ze1 x569.2.components)] ?_)
 refine AO.n (AW.t ?_)
 have hR:=zS hH;subst hR
 exact ⟨trivial,rfl,_,[4,5],[1],rfl,zG (.c (.box rfl rfl)) (zGn),.t (zG (.g (zC (.rowR rfl) (zC (.rowR rfl) (zC .v (zC .v (zC .v (zC .v (zCn)))))))) (zG (.c .s) (zG (.g (zC .s (zC .s (zCn)))) (zGn)))),by decide⟩
 replace hH:=condF hc hH
 refine AW.k (AW.q ?_)
 obtain ⟨x573,hx574,hH⟩:=zB hH
 refine AW.le (Le.fM 66 (g:=ze2) rfl (fun y=>.vs rfl)) ?_
 refine AW.drawn 7 70 [2] mix (by kernel_rfl) rfl ?_
 refine AD.p T (d:=.g [.R 4,.R 5,x1.2.1.repeats,x1.2.1.bonus,x1.2.1.keeps,x1.2.1.fall]) rfl rfl rfl ?_
 iterate 2 refine AD.pu T ?_
 refine AD.vv (qAa T rfl rfl rfl rfl rfl (hx574) (fun _=>rfl)) ?_
 refine AD.p T (d:=.g [.R 67,.R 68]) rfl rfl rfl ?_
 refine AD.kk (FStep.store_p T rfl rfl rfl rfl rfl rfl rfl rfl rfl rfl rfl) ?_
 refine AD.pu T ?_
 refine AD.nil (AO.se T [.R 67,.R 68] ?_)
 refine AO.n (AW.le (Le.fM 68 (g:=ze1) rfl (fun y=>qA9 y)) ?_)
 refine AW.le (Le.fM 67 (g:=ze1) rfl (fun y=>qA9 y)) ?_
 refine AW.t ?_
 have hR:=zS hH;subst hR
 exact ⟨trivial,rfl,_,[4,5],[1],rfl,zG (.c (.box rfl rfl)) (zGn),.t (zG (.g (zC (.rowR rfl) (zC (.rowR rfl) (zC .v (zC .v (zC .v (zC .v (zCn)))))))) (zG (.c .s) (zG (.g (zC .s (zC .s (zCn)))) (zGn)))),by decide⟩
 replace hH:=condF hc hH
 refine AW.k (AW.q ?_)
 obtain ⟨x575,hx576,hH⟩:=zB hH
 refine AW.r (AO.pu T ?_)
 refine AO.w (qGn T) ?_
 refine AO.w (cVs (qBZ _ _ _ (hx576))) ?_
 refine AO.pu T ?_
 refine AO.n (AW.q ?_)
 obtain ⟨x577,hx578,hH⟩:=zB hH
 refine AW.r (AO.p2 T ?_)
 refine AO.x (cMs 70 [1] (S:=qCd fuel _ _ _ (hx578)) (hp:=by exact zG (.c (.box rfl rfl)) (zG (.c .v) (zGn)))) ?_
 refine AO.x (als T 72) ?_
 refine AO.se T [.R 70,.R 71] ?_
 refine AO.n (AW.q (AW.q ?_))
 obtain ⟨x579,hx580,hH⟩:=zB hH
 refine AW.r (AO.pu T ?_)
 refine AO.x (cMs 73 [1] (S:=qAL _ _ _ (hx580)) (hp:=by exact zG (.c (.box rfl rfl)) (zG (.c .v) (zGn)))) ?_
 refine AO.n (AW.c (b:=x579.2) rfl (fun hc=>?_) (fun hc=>?_))
 replace hH:=condT hc hH
 obtain ⟨x581,hx582,hH⟩:=zB hH
 obtain ⟨x583,hx584,hH⟩:=zB hH
 refine AW.r (AO.p2 T ?_)
 refine AO.x (cMs 73 [1] (S:=qAB _ _ _ (hx582)) (hp:=by exact zG (.c (.box rfl rfl)) (zG (.c .v) (zGn)))) ?_
 refine AO.x (cMs 73 [1] (S:=qDe fuel _ _ _ (hx584)) (hp:=by exact zG (.c (.box rfl rfl)) (zG (.c .v) (zGn)))) ?_
 refine AO.se T [.s (List.map ze1 x583.2.grades),.s (List.map ze1 x583.2.components)] ?_
 refine AO.n (AW.le (Le.ct 0 0 (σ':=(⟨[(2,.p 2 0),(4,.p 3 0),(5,.p 7 0),(6,.R 6),(9,x575),(10,.p 72 0)],[(1,.box [.s (List.map ze4 x583.1.code),x583.1.at',.v (.int .u64 x583.1.seed)]),(2,.box [.w 0 [],.w 0 [],(0:Int),(0:Int),(0:Int),(0:Int)]),(3,.box [.w 0 [],.w 0 []]),(4,.row 4 (List.map ze3 x1.2.1.elements)),(5,.row 1 (List.map ze0 x1.2.1.limits)),(6,.row 3 (List.map qGM v467)),(7,.box [.R 4,.R 5,x1.2.1.repeats,x1.2.1.bonus,x1.2.1.keeps,x1.2.1.fall]),(72,.box [.s (List.map ze1 x583.2.grades),.s (List.map ze1 x583.2.components)])],82,[(1,L 1)]⟩:St)) (hpin:=⟨⟨rfl,rfl⟩,trivial⟩)) ?_)
 refine AW.q ?_
 obtain ⟨x585,hx586,hH⟩:=zB hH
 refine AW.le (Le.fM 6 (g:=ze2) rfl (fun y=>qDh y)) ?_
 refine AW.drawn 7 73 [2] mix (by kernel_rfl) rfl ?_
 refine AD.p T (d:=.g [.R 4,.R 5,x1.2.1.repeats,x1.2.1.bonus,x1.2.1.keeps,x1.2.1.fall]) rfl rfl rfl ?_
 iterate 2 refine AD.pu T ?_
 refine AD.vv (qAa T rfl rfl rfl rfl rfl (hx586) (fun _=>rfl)) ?_
 refine AD.p T (d:=.g [.s (List.map ze1 x583.2.grades),.s (List.map ze1 x583.2.components)]) rfl rfl rfl ?_
 refine AD.kk (FStep.store_p T rfl rfl rfl rfl rfl rfl rfl rfl rfl rfl rfl) ?_
 refine AD.pu T ?_
 refine AD.nil (AO.se T [.s (List.map ze1 x583.2.grades),.s (List.map ze1 x583.2.components)] ?_)
 refine AO.n (AW.t ?_)
 have hR:=zS hH;subst hR
 exact ⟨trivial,rfl,_,[4,5],[1],rfl,zG (.c (.box rfl rfl)) (zGn),.t (zG (.g (zC (.rowR rfl) (zC (.rowR rfl) (zC .v (zC .v (zC .v (zC .v (zCn)))))))) (zG (.c .s) (zG (.g (zC .s (zC .s (zCn)))) (zGn)))),by decide⟩
 replace hH:=condF hc hH
 refine AW.k (AW.q ?_)
 obtain ⟨x587,hx588,hH⟩:=zB hH
 refine AW.le (Le.fM 6 (g:=ze2) rfl (fun y=>qDh y)) ?_
 refine AW.drawn 7 73 [2] mix (by kernel_rfl) rfl ?_
 refine AD.p T (d:=.g [.R 4,.R 5,x1.2.1.repeats,x1.2.1.bonus,x1.2.1.keeps,x1.2.1.fall]) rfl rfl rfl ?_
 iterate 2 refine AD.pu T ?_
 refine AD.vv (qAa T rfl rfl rfl rfl rfl (hx588) (fun _=>rfl)) ?_
 refine AD.p T (d:=.g [.R 70,.R 71]) rfl rfl rfl ?_
 refine AD.kk (FStep.store_p T rfl rfl rfl rfl rfl rfl rfl rfl rfl rfl rfl) ?_
 refine AD.pu T ?_
 refine AD.nil (AO.se T [.R 70,.R 71] ?_)
 refine AO.n (AW.le (Le.ct 0 0 (σ':=(⟨[(2,.p 2 0),(3,.s (List.map ze2 x587)),(4,.p 3 0)],[(1,.box [.s (List.map ze4 x579.1.code),x579.1.at',.v (.int .u64 x579.1.seed)]),(2,.box [.R 4,.R 5,x1.2.1.repeats,x1.2.1.bonus,x1.2.1.keeps,x1.2.1.fall]),(3,.box [.R 70,.R 71]),(4,.row 4 (List.map ze3 x1.2.1.elements)),(5,.row 1 (List.map ze0 x1.2.1.limits)),(70,.row 1 (List.map ze6 x577.2.grades)),(71,.row 1 (List.map ze6 x577.2.components))],82,[(1,L 1)]⟩:St)) (hpin:=⟨⟨rfl,rfl⟩,trivial⟩)) ?_)
 refine AW.le (Le.fM 71 (g:=ze1) rfl (fun y=>qA9 y)) ?_
 refine AW.le (Le.fM 70 (g:=ze1) rfl (fun y=>qA9 y)) ?_
 refine AW.t ?_
 have hR:=zS hH;subst hR
 exact ⟨trivial,rfl,_,[4,5],[1],rfl,zG (.c (.box rfl rfl)) (zGn),.t (zG (.g (zC (.rowR rfl) (zC (.rowR rfl) (zC .v (zC .v (zC .v (zC .v (zCn)))))))) (zG (.c .s) (zG (.g (zC .s (zC .s (zCn)))) (zGn)))),by decide⟩

def qC6 (c:L1Cur):Option (L1Cur × Slips) :=
 (qAC c ([0,0,1,2,3,5,9]:List Int)).bind fun x1 =>
 (qAC x1.1 ([0,0,1,5,6,60]:List Int)).bind fun x3 =>
 (qAC x3.1 ([0,0,50,100,500]:List Int)).bind fun x5 =>
 some (x5.1,(Slips.mk x1.2 x3.2 x5.2))
theorem qFQ (c:L1Cur) (r:(L1Cur × Slips)) (hH:qC6 c=some r):qE7 Tryz.prog 59 [.pw (ze9 c)] [.pw (ze9 r.1)] (.g (qJh r.2)):=by
 refine qEy T Tryz.func59 rfl (by decide) rfl rfl ?_
 intro L
 show AW _ _ _ (⟨[(0,.p 1 0)],[(1,.box [.s (List.map ze4 c.code),c.at',.v (.int .u64 c.seed)])],13,[(1,L 1)]⟩:St)
 refine AW.q (AW.r (AO.x (als T 2) ?_))
 refine AO.n (AW.q ?_)
 obtain ⟨x1,hx2,hH⟩:=zB hH
 obtain ⟨x3,hx4,hH⟩:=zB hH
 obtain ⟨x5,hx6,hH⟩:=zB hH
 refine AW.r (AO.pu T ?_)
 refine AO.x (mks T 3 ze0 (([0,0,1,2,3,5,9]:List Int))) ?_
 refine AO.le (Le.fM 3 (g:=ze0) rfl (fun y=>.vs rfl)) ?_
 refine AO.x (cMs 4 [1] (S:=qAD _ _ _ (hx2)) (hp:=by exact zG (.c (.box rfl rfl)) (zG (.c .s) (zGn)))) ?_
 refine AO.pu T ?_
 refine AO.x (mks T 4 ze0 (([0,0,1,5,6,60]:List Int))) ?_
 refine AO.le (Le.fM 4 (g:=ze0) rfl (fun y=>.vs rfl)) ?_
 refine AO.x (cMs 5 [1] (S:=qAD _ _ _ (hx4)) (hp:=by exact zG (.c (.box rfl rfl)) (zG (.c .s) (zGn)))) ?_
 refine AO.pu T ?_
 refine AO.x (mks T 5 ze0 (([0,0,50,100,500]:List Int))) ?_
 refine AO.le (Le.fM 5 (g:=ze0) rfl (fun y=>.vs rfl)) ?_
 refine AO.x (cMs 6 [1] (S:=qAD _ _ _ (hx6)) (hp:=by exact zG (.c (.box rfl rfl)) (zG (.c .s) (zGn)))) ?_
 refine AO.pu T (d:=.g [x1.2,x3.2,x5.2]) ?_
 refine AO.se T [x1.2,x3.2,x5.2] ?_
 refine AO.n (AW.t ?_)
 have hR:=zS hH;subst hR
 exact ⟨trivial,rfl,_,[],[1],rfl,zG (.c (.box rfl rfl)) (zGn),.c (.g (zC .v (zC .v (zC .v (zCn))))),by decide⟩

def qDn (c:L1Cur):Option (L1Cur × Slips) :=
 (qC6 c).bind fun x1 =>
 (qAA x1.1 24).bind fun x3 =>
 cond (x3.2 == 0)
  ((qAC x3.1 ([(-1),9,10]:List Int)).bind fun x5 =>
  some (x5.1,(Slips.mk x5.2 x1.2.seconds x1.2.other)))
  (cond (x3.2 == 1)
   ((qAC x3.1 ([(-1),60,61]:List Int)).bind fun x7 =>
   some (x7.1,(Slips.mk x1.2.falls x7.2 x1.2.other)))
   (cond (x3.2 == 2)
    ((qAC x3.1 ([(-1),500,501]:List Int)).bind fun x9 =>
    some (x9.1,(Slips.mk x1.2.falls x1.2.seconds x9.2)))
    (some (x3.1,x1.2))))
theorem qIy (c:L1Cur) (r:(L1Cur × Slips)) (hH:qDn c=some r):qE7 Tryz.prog 109 [.pw (ze9 c)] [.pw (ze9 r.1)] (.g (qJh r.2)):=by
 refine qEy T Tryz.func109 rfl (by decide) rfl rfl ?_
 intro L
 show AW _ _ _ (⟨[(0,.p 1 0)],[(1,.box [.s (List.map ze4 c.code),c.at',.v (.int .u64 c.seed)])],27,[(1,L 1)]⟩:St)
 refine AW.q (AW.r (AO.x (als T 2) ?_))
 refine AO.n (AW.q ?_)
 obtain ⟨x1,hx2,hH⟩:=zB hH
 refine AW.r (AO.pu T ?_)
 refine AO.x (cMs 3 [1] (S:=qFQ _ _ (hx2)) (hp:=by exact zG (.c (.box rfl rfl)) (zGn))) ?_
 refine AO.x (als T 3) ?_
 refine AO.se T [x1.2.falls,x1.2.seconds,x1.2.other] ?_
 refine AO.n (AW.q (AW.q ?_))
 obtain ⟨x3,hx4,hH⟩:=zB hH
 refine AW.r (AO.pu T ?_)
 refine AO.x (cMs 4 [1] (S:=qAB _ _ _ (hx4)) (hp:=by exact zG (.c (.box rfl rfl)) (zG (.c .v) (zGn)))) ?_
 refine AO.n (AW.b ?_)
 refine AW.q (AW.r (AO.p2 T ?_))
 refine AO.n (AW.c (b:=(x3.2 == 0)) rfl (fun hc=>?_) (fun hc=>?_))
 replace hH:=condT hc hH
 obtain ⟨x5,hx6,hH⟩:=zB hH
 refine AW.r (AO.pu T ?_)
 refine AO.x (mks T 4 ze0 (([(-1),9,10]:List Int))) ?_
 refine AO.le (Le.fM 4 (g:=ze0) rfl (fun y=>.vs rfl)) ?_
 refine AO.x (cMs 5 [1] (S:=qAD _ _ _ (hx6)) (hp:=by exact zG (.c (.box rfl rfl)) (zG (.c .s) (zGn)))) ?_
 refine AO.pu T ?_
 refine AO.se T [x5.2,x1.2.seconds,x1.2.other] ?_
 refine AO.n (AW.q (AW.r ?_))
 refine AO.pu T (d:=.g [x5.2,x1.2.seconds,x1.2.other]) ?_
 refine AO.se T [x5.2,x1.2.seconds,x1.2.other] ?_
 refine AO.n (AW.t ?_)
 have hR:=zS hH;subst hR
 exact ⟨trivial,rfl,_,[],[1],rfl,zG (.c (.box rfl rfl)) (zGn),.c (.g (zC .v (zC .v (zC .v (zCn))))),by decide⟩
 replace hH:=condF hc hH
 refine AW.q (AW.r (AO.p2 T ?_))
 refine AO.n (AW.c (b:=(x3.2 == 1)) rfl (fun hc=>?_) (fun hc=>?_))
 replace hH:=condT hc hH
 obtain ⟨x7,hx8,hH⟩:=zB hH
 refine AW.r (AO.pu T ?_)
 refine AO.x (mks T 5 ze0 (([(-1),60,61]:List Int))) ?_
 refine AO.le (Le.fM 5 (g:=ze0) rfl (fun y=>.vs rfl)) ?_
 refine AO.x (cMs 6 [1] (S:=qAD _ _ _ (hx8)) (hp:=by exact zG (.c (.box rfl rfl)) (zG (.c .s) (zGn)))) ?_
 refine AO.pu T ?_
 refine AO.se T [x1.2.falls,x7.2,x1.2.other] ?_
 refine AO.n (AW.q (AW.r ?_))
 refine AO.pu T (d:=.g [x1.2.falls,x7.2,x1.2.other]) ?_
 refine AO.se T [x1.2.falls,x7.2,x1.2.other] ?_
 refine AO.n (AW.t ?_)
 have hR:=zS hH;subst hR
 exact ⟨trivial,rfl,_,[],[1],rfl,zG (.c (.box rfl rfl)) (zGn),.c (.g (zC .v (zC .v (zC .v (zCn))))),by decide⟩
 replace hH:=condF hc hH
 refine AW.q (AW.r (AO.p2 T ?_))
 refine AO.n (AW.c (b:=(x3.2 == 2)) rfl (fun hc=>?_) (fun hc=>?_))
 replace hH:=condT hc hH
 obtain ⟨x9,hx10,hH⟩:=zB hH
 refine AW.r (AO.pu T ?_)
 refine AO.x (mks T 6 ze0 (([(-1),500,501]:List Int))) ?_
 refine AO.le (Le.fM 6 (g:=ze0) rfl (fun y=>.vs rfl)) ?_
 refine AO.x (cMs 7 [1] (S:=qAD _ _ _ (hx10)) (hp:=by exact zG (.c (.box rfl rfl)) (zG (.c .s) (zGn)))) ?_
 refine AO.pu T ?_
 refine AO.se T [x1.2.falls,x1.2.seconds,x9.2] ?_
 refine AO.n (AW.q (AW.r ?_))
 refine AO.pu T (d:=.g [x1.2.falls,x1.2.seconds,x9.2]) ?_
 refine AO.se T [x1.2.falls,x1.2.seconds,x9.2] ?_
 refine AO.n (AW.t ?_)
 have hR:=zS hH;subst hR
 exact ⟨trivial,rfl,_,[],[1],rfl,zG (.c (.box rfl rfl)) (zGn),.c (.g (zC .v (zC .v (zC .v (zCn))))),by decide⟩
 replace hH:=condF hc hH
 refine AW.k (AW.q (AW.r ?_))
 refine AO.pu T (d:=.g [x1.2.falls,x1.2.seconds,x1.2.other]) ?_
 refine AO.se T [x1.2.falls,x1.2.seconds,x1.2.other] ?_
 refine AO.n (AW.t ?_)
 have hR:=zS hH;subst hR
 exact ⟨trivial,rfl,_,[],[1],rfl,zG (.c (.box rfl rfl)) (zGn),.c (.g (zC .v (zC .v (zC .v (zCn))))),by decide⟩

def qC7 (fuel:Nat) (c:L1Cur):Option (L1Cur × Code × Performance) :=
 (qDK fuel c).bind fun x1 =>
 (qC6 x1.1).bind fun x3 =>
 (qAH x3.1 16).bind fun x5 =>
 cond x5.2
  ((qDn x5.1).bind fun x7 =>
  some (x7.1,x1.2.1,(Performance.mk x1.2.2.1 x1.2.2.2 x7.2)))
  (some (x5.1,x1.2.1,(Performance.mk x1.2.2.1 x1.2.2.2 x3.2)))
theorem qHw (fuel:Nat) (c:L1Cur) (r:(L1Cur × Code × Performance)) (hH:qC7 fuel c=some r):qE7 Tryz.prog 54 [.pw (ze9 c)] [.pw (ze9 r.1)] (.t [.g (qGH r.2.1),.g (qGl r.2.2)]):=by
 refine qEy T Tryz.func54 rfl (by decide) rfl rfl ?_
 intro L
 show AW _ _ _ (⟨[(0,.p 1 0)],[(1,.box [.s (List.map ze4 c.code),c.at',.v (.int .u64 c.seed)])],26,[(1,L 1)]⟩:St)
 refine AW.q (AW.r (AO.x (als T 2) ?_))
 refine AO.x (als T 3) ?_
 refine AO.n (AW.q ?_)
 obtain ⟨x1,hx2,hH⟩:=zB hH
 refine AW.r (AO.pu T ?_)
 refine AO.x (cMs 4 [1] (S:=qIG fuel _ _ (hx2)) (hp:=by exact zG (.c (.box rfl rfl)) (zGn))) ?_
 refine AO.pu T ?_
 refine AO.pu T (d:=.g [.R 4,.R 5,x1.2.1.repeats,x1.2.1.bonus,x1.2.1.keeps,x1.2.1.fall]) ?_
 refine AO.pu T ?_
 refine AO.pu T (d:=.g [.s (List.map ze1 x1.2.2.2.grades),.s (List.map ze1 x1.2.2.2.components)]) ?_
 refine AO.x (als T 6) ?_
 refine AO.x (als T 7) ?_
 refine AO.se T [.R 4,.R 5,x1.2.1.repeats,x1.2.1.bonus,x1.2.1.keeps,x1.2.1.fall] ?_
 refine AO.pu T ?_
 refine AO.se T [.s (List.map ze1 x1.2.2.2.grades),.s (List.map ze1 x1.2.2.2.components)] ?_
 refine AO.n (AW.le (Le.ct 0 0 (σ':=(⟨[(0,.p 1 0),(2,.p 2 0),(3,.p 3 0),(4,.p 6 0),(5,.s (List.map ze2 x1.2.2.1)),(6,.p 7 0)],[(1,.box [.s (List.map ze4 x1.1.code),x1.1.at',.v (.int .u64 x1.1.seed)]),(2,.box [.w 0 [],.w 0 [],(0:Int),(0:Int),(0:Int),(0:Int)]),(3,.box [.w 0 [],.w 0 [],.w 0 [],(0:Int),(0:Int),(0:Int)]),(4,.row 4 (List.map ze3 x1.2.1.elements)),(5,.row 1 (List.map ze0 x1.2.1.limits)),(6,.box [.R 4,.R 5,x1.2.1.repeats,x1.2.1.bonus,x1.2.1.keeps,x1.2.1.fall]),(7,.box [.s (List.map ze1 x1.2.2.2.grades),.s (List.map ze1 x1.2.2.2.components)])],26,[(1,L 1)]⟩:St)) (hpin:=⟨⟨rfl,rfl⟩,trivial⟩)) ?_)
 refine AW.q ?_
 obtain ⟨x3,hx4,hH⟩:=zB hH
 refine AW.drawn 6 8 [1] mix (by kernel_rfl) rfl ?_
 refine AD.pu T ?_
 refine AD.p T (d:=.g [.s (List.map ze1 x1.2.2.2.grades),.s (List.map ze1 x1.2.2.2.components)]) rfl rfl rfl ?_
 refine AD.pu T ?_
 refine AD.kk (cMF [1] (S:=qFQ _ _ (hx4)) (hp:=by exact zG (.c (.box rfl rfl)) (zGn))) ?_
 refine AD.p T (d:=.g [.s (List.map ze2 x1.2.2.1),.s (List.map ze1 x1.2.2.2.grades),.s (List.map ze1 x1.2.2.2.components),x3.2.falls,x3.2.seconds,x3.2.other]) rfl rfl rfl ?_
 refine AD.q (FStep.alloc T rfl rfl rfl rfl rfl rfl) (by simp [qBV]) (Nat.le_succ _) rfl ?_
 refine AD.nil (AO.se T [.s (List.map ze2 x1.2.2.1),.s (List.map ze1 x1.2.2.2.grades),.s (List.map ze1 x1.2.2.2.components),x3.2.falls,x3.2.seconds,x3.2.other] ?_)
 refine AO.n (AW.q (AW.q ?_))
 obtain ⟨x5,hx6,hH⟩:=zB hH
 refine AW.r (AO.pu T ?_)
 refine AO.x (cMs 9 [1] (S:=qAL _ _ _ (hx6)) (hp:=by exact zG (.c (.box rfl rfl)) (zG (.c .v) (zGn)))) ?_
 refine AO.n (AW.le (Le.ct 0 0 (σ':=(⟨[(0,.p 1 0),(2,.p 2 0),(3,.p 3 0),(4,.p 6 0),(7,.p 8 0),(20,.v (.bool x5.2))],[(1,.box [.s (List.map ze4 x5.1.code),x5.1.at',.v (.int .u64 x5.1.seed)]),(2,.box [.w 0 [],.w 0 [],(0:Int),(0:Int),(0:Int),(0:Int)]),(3,.box [.w 0 [],.w 0 [],.w 0 [],(0:Int),(0:Int),(0:Int)]),(4,.row 4 (List.map ze3 x1.2.1.elements)),(5,.row 1 (List.map ze0 x1.2.1.limits)),(6,.box [.R 4,.R 5,x1.2.1.repeats,x1.2.1.bonus,x1.2.1.keeps,x1.2.1.fall]),(8,.box [.s (List.map ze2 x1.2.2.1),.s (List.map ze1 x1.2.2.2.grades),.s (List.map ze1 x1.2.2.2.components),x3.2.falls,x3.2.seconds,x3.2.other])],26,[(1,L 1)]⟩:St)) (hpin:=⟨⟨rfl,rfl⟩,trivial⟩)) ?_)
 refine AW.c (b:=x5.2) rfl (fun hc=>?_) (fun hc=>?_)
 replace hH:=condT hc hH
 obtain ⟨x7,hx8,hH⟩:=zB hH
 refine AW.r (AO.pu T ?_)
 refine AO.x (cMs 9 [1] (S:=qIy _ _ (hx8)) (hp:=by exact zG (.c (.box rfl rfl)) (zGn))) ?_
 refine AO.pu T ?_
 refine AO.se T [.s (List.map ze2 x1.2.2.1),.s (List.map ze1 x1.2.2.2.grades),.s (List.map ze1 x1.2.2.2.components),x7.2.falls,x7.2.seconds,x7.2.other] ?_
 refine AO.n (AW.q (AW.drawn 3 9 [2] mix (by kernel_rfl) rfl ?_))
 refine AD.p T (d:=.g [.R 4,.R 5,x1.2.1.repeats,x1.2.1.bonus,x1.2.1.keeps,x1.2.1.fall]) rfl rfl rfl ?_
 refine AD.p T (d:=.g [.s (List.map ze2 x1.2.2.1),.s (List.map ze1 x1.2.2.2.grades),.s (List.map ze1 x1.2.2.2.components),x7.2.falls,x7.2.seconds,x7.2.other]) rfl rfl rfl ?_
 refine AD.kk (FStep.store_p T rfl rfl rfl rfl rfl rfl rfl rfl rfl rfl rfl) ?_
 refine AD.nil (AO.se T [.s (List.map ze2 x1.2.2.1),.s (List.map ze1 x1.2.2.2.grades),.s (List.map ze1 x1.2.2.2.components),x7.2.falls,x7.2.seconds,x7.2.other] ?_)
 refine AO.n (AW.le (Le.ct 0 0 (σ':=(⟨[(2,.p 2 0),(3,.p 3 0)],[(1,.box [.s (List.map ze4 x7.1.code),x7.1.at',.v (.int .u64 x7.1.seed)]),(2,.box [.R 4,.R 5,x1.2.1.repeats,x1.2.1.bonus,x1.2.1.keeps,x1.2.1.fall]),(3,.box [.s (List.map ze2 x1.2.2.1),.s (List.map ze1 x1.2.2.2.grades),.s (List.map ze1 x1.2.2.2.components),x7.2.falls,x7.2.seconds,x7.2.other]),(4,.row 4 (List.map ze3 x1.2.1.elements)),(5,.row 1 (List.map ze0 x1.2.1.limits))],26,[(1,L 1)]⟩:St)) (hpin:=⟨⟨rfl,rfl⟩,trivial⟩)) ?_)
 refine AW.t ?_
 have hR:=zS hH;subst hR
 exact ⟨trivial,rfl,_,[4,5],[1],rfl,zG (.c (.box rfl rfl)) (zGn),.t (zG (.g (zC (.rowR rfl) (zC (.rowR rfl) (zC .v (zC .v (zC .v (zC .v (zCn)))))))) (zG (.g (zC .s (zC .s (zC .s (zC .v (zC .v (zC .v (zCn)))))))) (zGn))),by decide⟩
 replace hH:=condF hc hH
 refine AW.k (AW.q ?_)
 refine AW.drawn 3 9 [2] mix (by kernel_rfl) rfl ?_
 refine AD.p T (d:=.g [.R 4,.R 5,x1.2.1.repeats,x1.2.1.bonus,x1.2.1.keeps,x1.2.1.fall]) rfl rfl rfl ?_
 refine AD.p T (d:=.g [.s (List.map ze2 x1.2.2.1),.s (List.map ze1 x1.2.2.2.grades),.s (List.map ze1 x1.2.2.2.components),x3.2.falls,x3.2.seconds,x3.2.other]) rfl rfl rfl ?_
 refine AD.kk (FStep.store_p T rfl rfl rfl rfl rfl rfl rfl rfl rfl rfl rfl) ?_
 refine AD.nil (AO.se T [.s (List.map ze2 x1.2.2.1),.s (List.map ze1 x1.2.2.2.grades),.s (List.map ze1 x1.2.2.2.components),x3.2.falls,x3.2.seconds,x3.2.other] ?_)
 refine AO.n (AW.t ?_)
 have hR:=zS hH;subst hR
 exact ⟨trivial,rfl,_,[4,5],[1],rfl,zG (.c (.box rfl rfl)) (zGn),.t (zG (.g (zC (.rowR rfl) (zC (.rowR rfl) (zC .v (zC .v (zC .v (zC .v (zCn)))))))) (zG (.g (zC .s (zC .s (zC .s (zC .v (zC .v (zC .v (zCn)))))))) (zGn))),by decide⟩

def qCu (v16:List (List Int)):List (List Int)→Nat→List (List Int)→Option Marks
 | [],k18,v33 =>
  some (Marks.mk v16 v33)
 | y19::ys20,k18,v33 =>
  (qEh y19).bind fun x35 =>
  (qCw (qBE 24 (v33.length+([x35]).length))).bind fun u37 =>
  qCu v16 ys20 (k18+1) (v33++[x35])
def qDL (m:Marks):List (List Int)→Nat→List (List Int)→Option Marks
 | [],k1,v16 =>
  qCu v16 m.components 0 []
 | y2::ys3,k1,v16 =>
  (qEh y2).bind fun x39 =>
  (qCw (qBE 24 (v16.length+([x39]).length))).bind fun u41 =>
  qDL m ys3 (k1+1) (v16++[x39])
def qJJ (m:Marks):Option Marks :=
 qDL m m.grades 0 []
theorem qOA (m:Marks) (r:Marks) (hH:qJJ m=some r):qAE Tryz.prog 111 [.g (qBN m)] (.g (qJO r)):=by
 refine fns T Tryz.func111 ?_
 refine AW.q (AW.r (AO.x (bxs T 1) ?_))
 refine AO.x (als T 2) ?_
 refine AO.n (AW.q (AW.r ?_))
 refine AO.pu T (d:=.g [.w 0 [],.w 0 []]) ?_
 refine AO.x (als T 3) ?_
 refine AO.se T [.w 0 [],.w 0 []] ?_
 refine AO.n (AW.q (AW.q ?_))
 refine AW.r (AO.p2 T ?_)
 refine AO.w (qCC T) ?_
 refine AO.pu T ?_
 refine AO.n (AW.b ?_)
 refine AW.loopS (fun s:Nat × (List (List Int))=>(⟨[(1,.p 1 0),(2,.p 2 0),(3,.p 3 0),(10,.s (List.map ze1 m.grades)),(11,(m.grades.length:Int)),(12,(s.1:Int))],[(1,.box [.s (List.map ze1 m.grades),.s (List.map ze1 m.components)]),(2,.box [.w 0 [],.w 0 []]),(3,.box [.R 9,.w 0 []]),(9,.row 1 (List.map ze6 s.2))],40,[]⟩:St)) (fun s=>s.1 ≤ m.grades.length∧qDL m (m.grades.drop s.1) s.1 s.2=some r) (fun s=>m.grades.length - s.1) (0,[]) ⟨Nat.zero_le _,hH⟩ ?_ ?_
 refine Le.trans (Le.voidBox 3 0 9 1 rfl rfl rfl rfl) ?_
 exact Le.ct 0 0
 rintro ⟨k1,v16⟩ ⟨hk,hH⟩
 replace hH:qDL m (m.grades.drop k1) k1 v16=some r:=hH
 try dsimp only
 refine AW.boundM (t:=10) (l:=m.grades) rfl (fun hb5=>?_)
 rcases hd4:m.grades.drop k1 with _ | ⟨y2,ys3⟩
 rw [hd4,qDL] at hH
 have hlt6:=qAJ hd4
 refine AW.q (AW.r (AO.pu T ?_))
 refine AO.n (AW.q (AW.condF' (b:=decide ((k1:Int) < (m.grades.length:Int))) rfl (qEQ hlt6) ?_))
 refine AW.exit (AW.q (AW.q ?_))
 refine AW.r (AO.p2 T ?_)
 refine AO.w (qCC T) ?_
 refine AO.pu T ?_
 refine AO.n (AW.b ?_)
 refine AW.loopS (fun s:Nat × (List (List Int))=>(⟨[(2,.p 2 0),(3,.p 3 0),(25,.s (List.map ze1 m.components)),(26,(m.components.length:Int)),(27,(s.1:Int))],[(2,.box [.w 0 [],.w 0 []]),(3,.box [.R 9,.R 15]),(9,.row 1 (List.map ze6 v16)),(15,.row 1 (List.map ze6 s.2))],40,[]⟩:St)) (fun s=>s.1 ≤ m.components.length∧qCu v16 (m.components.drop s.1) s.1 s.2=some r) (fun s=>m.components.length - s.1) (0,[]) ⟨Nat.zero_le _,hH⟩ ?_ ?_
 refine Le.trans (Le.voidBox 3 1 15 1 rfl rfl rfl rfl) ?_
 exact Le.ct 0 0
 rintro ⟨k18,v33⟩ ⟨hk,hH⟩
 replace hH:qCu v16 (m.components.drop k18) k18 v33=some r:=hH
 try dsimp only
 refine AW.boundM (t:=25) (l:=m.components) rfl (fun hb22=>?_)
 rcases hd21:m.components.drop k18 with _ | ⟨y19,ys20⟩
 rw [hd21,qCu] at hH
 have hlt23:=qAJ hd21
 refine AW.q (AW.r (AO.pu T ?_))
 refine AO.n (AW.q (AW.condF' (b:=decide ((k18:Int) < (m.components.length:Int))) rfl (qEQ hlt23) ?_))
 refine AW.exit (AW.q (AW.r ?_))
 refine AO.pu T (d:=.g [.R 9,.R 15]) ?_
 refine AO.se T [.R 9,.R 15] ?_
 refine AO.n (AW.t ?_)
 have hR:=zS hH;subst hR
 exact retQ.i [9,15] rfl (.c (.g (zC (.rowR rfl) (zC (.rowR rfl) (zCn)))))
 rw [hd21,qCu] at hH
 have hlt23:=qAK hd21
 refine AW.q (AW.r (AO.pu T ?_))
 refine AO.n (AW.q (AW.condT' (b:=decide ((k18:Int) < (m.components.length:Int))) rfl (qER hlt23) ?_))
 refine AW.k (AW.q ?_)
 refine AW.b (AW.q (AW.r ?_))
 refine AO.w (ixs T (zgD hd21)) ?_
 refine AO.p2 T ?_
 refine AO.n ?_
 obtain ⟨x35,hx36,hH⟩:=zB hH
 obtain ⟨u37,hx38,hH⟩:=zB hH
 refine AW.drawn 5 16 [] mix (by kernel_rfl) rfl ?_
 iterate 3 refine AD.pu T ?_
 refine AD.q (FStep.call rfl rfl rfl rfl rfl (qIV _ _ (hx36)) rfl rfl) (qDj _ _) (qGc _ _) rfl ?_
 refine AD.kk (FStep.mk_o T rfl rfl rfl rfl rfl rfl rfl rfl (f:=ze6) (l:=[x35]) (ids:=[16]) rfl rfl (fun _=>rfl) (by exact zC (.rowR rfl) (zCn)) (by decide) rfl rfl rfl rfl) ?_
 refine AD.nil (AO.x (qEP T rfl 18 rfl rfl rfl rfl rfl (by decide) rfl rfl rfl rfl rfl (qA4 (hx38)) rfl rfl) ?_)
 refine AO.pu T ?_
 refine AO.se T [.R 9,.R 18] ?_
 refine AO.n (AW.r ?_)
 refine AO.w (zR rfl rfl rfl rfl (zK hlt23 hb22)) ?_
 refine AO.pu T ?_
 refine AO.n ?_
 refine ⟨(k18+1,(v33++[x35])),⟨Nat.succ_le_of_lt hlt23,(by rw [zds hd21];exact hH)⟩,(by have:=hlt23;dsimp only;omega),?_⟩
 exact Le.ct 18 15
 rw [hd4,qDL] at hH
 have hlt6:=qAK hd4
 refine AW.q (AW.r (AO.pu T ?_))
 refine AO.n (AW.q (AW.condT' (b:=decide ((k1:Int) < (m.grades.length:Int))) rfl (qER hlt6) ?_))
 refine AW.k (AW.q ?_)
 refine AW.b (AW.q (AW.r ?_))
 refine AO.w (ixs T (zgD hd4)) ?_
 refine AO.p2 T ?_
 refine AO.n ?_
 obtain ⟨x39,hx40,hH⟩:=zB hH
 obtain ⟨u41,hx42,hH⟩:=zB hH
 refine AW.drawn 5 19 [] mix (by kernel_rfl) rfl ?_
 iterate 3 refine AD.pu T ?_
 refine AD.q (FStep.call rfl rfl rfl rfl rfl (qIV _ _ (hx40)) rfl rfl) (qDj _ _) (qGc _ _) rfl ?_
 refine AD.kk (FStep.mk_o T rfl rfl rfl rfl rfl rfl rfl rfl (f:=ze6) (l:=[x39]) (ids:=[19]) rfl rfl (fun _=>rfl) (by exact zC (.rowR rfl) (zCn)) (by decide) rfl rfl rfl rfl) ?_
 refine AD.nil (AO.x (qEP T rfl 21 rfl rfl rfl rfl rfl (by decide) rfl rfl rfl rfl rfl (qA4 (hx42)) rfl rfl) ?_)
 refine AO.pu T ?_
 refine AO.se T [.R 21,.w 0 []] ?_
 refine AO.n (AW.r ?_)
 refine AO.w (zR rfl rfl rfl rfl (zK hlt6 hb5)) ?_
 refine AO.pu T ?_
 refine AO.n ?_
 refine ⟨(k1+1,(v16++[x39])),⟨Nat.succ_le_of_lt hlt6,(by rw [zds hd4];exact hH)⟩,(by have:=hlt6;dsimp only;omega),?_⟩
 exact Le.ct 21 9

def qFl (p:Performance) (l:List Item):Option Performance :=
 (qDu l).bind fun x1 =>
 (qJJ p.marks).bind fun x3 =>
 some (Performance.mk x1 x3 p.slips)
theorem qNH (p:Performance) (l:List Item) (r:Performance) (hH:qFl p l=some r):qAE Tryz.prog 55 [.g (qGl p),.s (List.map ze2 l)] (.g (qFo r)):=by
 refine fns T Tryz.func55 ?_
 refine AW.q (AW.r (AO.x (bxs T 1) ?_))
 refine AO.x (als T 2) ?_
 refine AO.n (AW.q ?_)
 obtain ⟨x1,hx2,hH⟩:=zB hH
 obtain ⟨x3,hx4,hH⟩:=zB hH
 refine AW.drawn 7 3 [] mix (by kernel_rfl) rfl ?_
 refine AD.pu T ?_
 refine AD.q (FStep.call rfl rfl rfl rfl rfl (qDx _ _ (hx2)) rfl rfl) (qDj _ _) (qGc _ _) rfl ?_
 refine AD.pu T ?_
 refine AD.p T (d:=.g [.s (List.map ze1 p.marks.grades),.s (List.map ze1 p.marks.components)]) rfl rfl rfl ?_
 refine AD.q (FStep.call rfl rfl rfl rfl rfl (qOA _ _ (hx4)) rfl rfl) (qDj _ _) (qGc _ _) rfl ?_
 refine AD.pu T ?_
 refine AD.p T (d:=.g [p.slips.falls,p.slips.seconds,p.slips.other]) rfl rfl rfl ?_
 refine AD.nil (AO.pu T (d:=.g [.R 3,.R 4,.R 5,p.slips.falls,p.slips.seconds,p.slips.other]) ?_)
 refine AO.se T [.R 3,.R 4,.R 5,p.slips.falls,p.slips.seconds,p.slips.other] ?_
 refine AO.n (AW.t ?_)
 have hR:=zS hH;subst hR
 exact retQ.i [3,4,5] rfl (.c (.g (zC (.rowR rfl) (zC (.rowR rfl) (zC (.rowR rfl) (zC .v (zC .v (zC .v (zCn)))))))))

def qBg (l:List Int) (judges:Int) (component:Bool):List Int→Nat→Option Bool
 | [],k1 =>
  cond component
   ((opt ((l.length:Int) == judges) default (qCy l 0 1000)).bind fun x12 =>
   some (((l.length:Int) == judges) && x12))
   ((opt ((l.length:Int) == judges) default (qCy l (-5) 5)).bind fun x14 =>
   some (((l.length:Int) == judges) && x14))
 | y2::ys3,k1 =>
  (opt component default (qCw (25 != 0))).bind fun u16 =>
  cond (component && ((y2.tmod 25) != 0))
   (some false)
   (qBg l judges component ys3 (k1+1))
def qFW (l:List Int) (judges:Int) (component:Bool):Option Bool :=
 qBg l judges component l 0
theorem qJu (l:List Int) (judges:Int) (component:Bool) (r:Bool) (hH:qFW l judges component=some r):qAE Tryz.prog 87 [.s (List.map ze0 l),judges,.v (.bool component)] (.v (.bool r)):=by
 refine fns T Tryz.func87 ?_
 refine AW.q (AW.r (AO.pu T ?_))
 refine AO.n (AW.q (AW.q ?_))
 refine AW.r (AO.pu T ?_)
 refine AO.w (qCC T) ?_
 refine AO.pu T ?_
 refine AO.n (AW.b ?_)
 refine AW.loopS (fun s:Nat=>(⟨[(0,.s (List.map ze0 l)),(1,judges),(2,.v (.bool component)),(9,.s (List.map ze0 l)),(10,(l.length:Int)),(11,(s:Int))],[],39,[]⟩:St)) (fun s=>s ≤ l.length∧qBg l judges component (l.drop s) s=some r) (fun s=>l.length - s) 0 ⟨Nat.zero_le _,hH⟩ ?_ ?_
 exact Le.ct 0 0
 rintro k1 ⟨hk,hH⟩
 replace hH:qBg l judges component (l.drop k1) k1=some r:=hH
 try dsimp only
 refine AW.boundM (t:=0) (l:=l) rfl (fun hb5=>?_)
 rcases hd4:l.drop k1 with _ | ⟨y2,ys3⟩
 rw [hd4,qBg] at hH
 have hlt6:=qAJ hd4
 refine AW.q (AW.r (AO.pu T ?_))
 refine AO.n (AW.q (AW.condF' (b:=decide ((k1:Int) < (l.length:Int))) rfl (qEQ hlt6) ?_))
 refine AW.exit (AW.q (AW.q ?_))
 refine AW.r (AO.pu T ?_)
 refine AO.n (AW.c (b:=component) rfl (fun hc=>?_) (fun hc=>?_))
 replace hH:=condT hc hH
 refine AW.q ?_
 obtain ⟨x12,hx13,hH⟩:=zB hH
 refine AW.r (AO.pu T ?_)
 refine AO.w (qCC T) ?_
 iterate 3 refine AO.pu T ?_
 refine AO.g T [] rfl trivial rfl rfl ?_
 refine AO.d [28] rfl ⟨fun h=>h,trivial⟩ (fun hg=>zV rfl rfl rfl rfl (qFf _ _ _ _ (qEA hx13 hg)) rfl) rfl ?_
 refine AO.w qFy ?_
 refine AO.pu T ?_
 refine AO.n (AW.t ?_)
 have hR:=zS hH;subst hR
 exact retQ.i [] rfl (.c (.c .v))
 replace hH:=condF hc hH
 refine AW.k (AW.q ?_)
 obtain ⟨x14,hx15,hH⟩:=zB hH
 refine AW.r (AO.pu T ?_)
 refine AO.w (qCC T) ?_
 iterate 3 refine AO.pu T ?_
 refine AO.g T [] rfl trivial rfl rfl ?_
 refine AO.d [36] rfl ⟨fun h=>h,trivial⟩ (fun hg=>zV rfl rfl rfl rfl (qFf _ _ _ _ (qEA hx15 hg)) rfl) rfl ?_
 refine AO.w qFy ?_
 refine AO.pu T ?_
 refine AO.n (AW.t ?_)
 have hR:=zS hH;subst hR
 exact retQ.i [] rfl (.c (.c .v))
 rw [hd4,qBg] at hH
 have hlt6:=qAK hd4
 refine AW.q (AW.r (AO.pu T ?_))
 refine AO.n (AW.q (AW.condT' (b:=decide ((k1:Int) < (l.length:Int))) rfl (qER hlt6) ?_))
 refine AW.k (AW.q ?_)
 refine AW.b (AW.q (AW.r ?_))
 refine AO.w (ixs T (zgD hd4)) ?_
 refine AO.p2 T ?_
 refine AO.n (AW.q ?_)
 obtain ⟨u16,hx17,hH⟩:=zB hH
 refine AW.r (AO.p2 T ?_)
 refine AO.g T [] rfl trivial rfl rfl ?_
 refine AO.d [17] rfl ⟨fun h=>h,trivial⟩ (fun hg=>qLP rfl rfl rfl (neZ (qA4 (qEA hx17 hg)))) rfl ?_
 refine AO.g T [18] rfl ⟨fun h=>h,trivial⟩ rfl rfl ?_
 refine AO.w qFy ?_
 refine AO.n (AW.c (b:=(component && ((y2.tmod 25) != 0))) rfl (fun hc=>?_) (fun hc=>?_))
 replace hH:=condT hc hH
 refine AW.q (AW.r (AO.pu T ?_))
 refine AO.n (AW.t ?_)
 have hR:=zS hH;subst hR
 exact retQ.i [] rfl (.c (.c .v))
 replace hH:=condF hc hH
 refine AW.k (AW.r ?_)
 refine AO.w (zR rfl rfl rfl rfl (zK hlt6 hb5)) ?_
 refine AO.pu T ?_
 refine AO.n ?_
 refine ⟨k1+1,⟨Nat.succ_le_of_lt hlt6,(by rw [zds hd4];exact hH)⟩,(by have:=hlt6;dsimp only;omega),?_⟩
 exact Le.ct 0 0

def qDE (x1:List Int):List (List Int)→Nat→Option Bool
 | [],k14 =>
  (qAp (x1.length:Int) 3 9).bind fun x25 =>
  some x25
 | y15::ys16,k14 =>
  (qFW y15 (x1.length:Int) true).bind fun x27 =>
  cond (!x27)
   (some false)
   (qDE x1 ys16 (k14+1))
def qDF (m:Marks) (x1:List Int):List (List Int)→Nat→Option Bool
 | [],k3 =>
  qDE x1 m.components 0
 | y4::ys5,k3 =>
  (qFW y4 (x1.length:Int) false).bind fun x29 =>
  cond (!x29)
   (some false)
   (qDF m x1 ys5 (k3+1))
def qEB (m:Marks):Option Bool :=
 cond (((m.components.length:Int) != 3) || decide ((m.grades.length:Int) > 14))
  (some false)
  ((qAb m.components 0).bind fun x1 =>
  qDF m x1 m.grades 0)
theorem qIi (m:Marks) (r:Bool) (hH:qEB m=some r):qAE Tryz.prog 39 [.g (qBN m)] (.v (.bool r)):=by
 refine fns T Tryz.func39 ?_
 refine AW.q (AW.r (AO.x (bxs T 1) ?_))
 refine AO.pu T ?_
 refine AO.n (AW.q (AW.q ?_))
 refine AW.r (AO.p2 T ?_)
 refine AO.w (qCC T) ?_
 refine AO.p2 T ?_
 refine AO.g T [] rfl trivial rfl rfl ?_
 refine AO.g T [13] rfl ⟨fun h=>h,trivial⟩ rfl rfl ?_
 refine AO.d [14] rfl ⟨fun h=>h,trivial⟩ (fun hg=>zL T rfl rfl rfl) rfl ?_
 refine AO.g T [15] rfl ⟨fun h=>h,trivial⟩ rfl rfl ?_
 refine AO.w ors ?_
 refine AO.n (AW.c (b:=(((m.components.length:Int) != 3) || decide ((m.grades.length:Int) > 14))) rfl (fun hc=>?_) (fun hc=>?_))
 replace hH:=condT hc hH
 refine AW.q (AW.r (AO.pu T ?_))
 refine AO.n (AW.t ?_)
 have hR:=zS hH;subst hR
 exact retQ.i [] rfl (.c (.c .v))
 replace hH:=condF hc hH
 refine AW.k (AW.q ?_)
 obtain ⟨x1,hx2,hH⟩:=zB hH
 refine AW.r (AO.p2 T ?_)
 refine AO.w (ixs T (hx2)) ?_
 refine AO.pu T ?_
 refine AO.w (qCC T) ?_
 refine AO.pu T ?_
 refine AO.n (AW.q (AW.q ?_))
 refine AW.r (AO.p2 T ?_)
 refine AO.w (qCC T) ?_
 refine AO.pu T ?_
 refine AO.n (AW.b ?_)
 refine AW.loopS (fun s:Nat=>(⟨[(1,.p 1 0),(3,(x1.length:Int)),(24,.s (List.map ze1 m.grades)),(25,(m.grades.length:Int)),(26,(s:Int))],[(1,.box [.s (List.map ze1 m.grades),.s (List.map ze1 m.components)])],49,[]⟩:St)) (fun s=>s ≤ m.grades.length∧qDF m x1 (m.grades.drop s) s=some r) (fun s=>m.grades.length - s) 0 ⟨Nat.zero_le _,hH⟩ ?_ ?_
 exact Le.ct 0 0
 rintro k3 ⟨hk,hH⟩
 replace hH:qDF m x1 (m.grades.drop k3) k3=some r:=hH
 try dsimp only
 refine AW.boundM (t:=24) (l:=m.grades) rfl (fun hb7=>?_)
 rcases hd6:m.grades.drop k3 with _ | ⟨y4,ys5⟩
 rw [hd6,qDF] at hH
 have hlt8:=qAJ hd6
 refine AW.q (AW.r (AO.pu T ?_))
 refine AO.n (AW.q (AW.condF' (b:=decide ((k3:Int) < (m.grades.length:Int))) rfl (qEQ hlt8) ?_))
 refine AW.exit (AW.q (AW.q ?_))
 refine AW.r (AO.p2 T ?_)
 refine AO.w (qCC T) ?_
 refine AO.pu T ?_
 refine AO.n (AW.b ?_)
 refine AW.loopS (fun s:Nat=>(⟨[(3,(x1.length:Int)),(36,.s (List.map ze1 m.components)),(37,(m.components.length:Int)),(38,(s:Int))],[],49,[]⟩:St)) (fun s=>s ≤ m.components.length∧qDE x1 (m.components.drop s) s=some r) (fun s=>m.components.length - s) 0 ⟨Nat.zero_le _,hH⟩ ?_ ?_
 exact Le.ct 0 0
 rintro k14 ⟨hk,hH⟩
 replace hH:qDE x1 (m.components.drop k14) k14=some r:=hH
 try dsimp only
 refine AW.boundM (t:=36) (l:=m.components) rfl (fun hb18=>?_)
 rcases hd17:m.components.drop k14 with _ | ⟨y15,ys16⟩
 rw [hd17,qDE] at hH
 have hlt19:=qAJ hd17
 refine AW.q (AW.r (AO.pu T ?_))
 refine AO.n (AW.q (AW.condF' (b:=decide ((k14:Int) < (m.components.length:Int))) rfl (qEQ hlt19) ?_))
 refine AW.exit (AW.q ?_)
 obtain ⟨x25,hx26,hH⟩:=zB hH
 refine AW.r (AO.pu T ?_)
 refine AO.w (cVs (qAt _ _ _ _ (hx26))) ?_
 refine AO.pu T ?_
 refine AO.n (AW.t ?_)
 have hR:=zS hH;subst hR
 exact retQ.i [] rfl (.c (.c .v))
 rw [hd17,qDE] at hH
 have hlt19:=qAK hd17
 refine AW.q (AW.r (AO.pu T ?_))
 refine AO.n (AW.q (AW.condT' (b:=decide ((k14:Int) < (m.components.length:Int))) rfl (qER hlt19) ?_))
 refine AW.k (AW.q ?_)
 refine AW.b (AW.q (AW.r ?_))
 refine AO.w (ixs T (zgD hd17)) ?_
 refine AO.p2 T ?_
 refine AO.n (AW.q ?_)
 obtain ⟨x27,hx28,hH⟩:=zB hH
 refine AW.r (AO.p2 T ?_)
 refine AO.w (cVs (qJu _ _ _ _ (hx28))) ?_
 refine AO.pu T ?_
 refine AO.n (AW.c (b:=(!x27)) rfl (fun hc=>?_) (fun hc=>?_))
 replace hH:=condT hc hH
 refine AW.q (AW.r (AO.pu T ?_))
 refine AO.n (AW.t ?_)
 have hR:=zS hH;subst hR
 exact retQ.i [] rfl (.c (.c .v))
 replace hH:=condF hc hH
 refine AW.k (AW.r ?_)
 refine AO.w (zR rfl rfl rfl rfl (zK hlt19 hb18)) ?_
 refine AO.pu T ?_
 refine AO.n ?_
 refine ⟨k14+1,⟨Nat.succ_le_of_lt hlt19,(by rw [zds hd17];exact hH)⟩,(by have:=hlt19;dsimp only;omega),?_⟩
 exact Le.ct 0 0
 rw [hd6,qDF] at hH
 have hlt8:=qAK hd6
 refine AW.q (AW.r (AO.pu T ?_))
 refine AO.n (AW.q (AW.condT' (b:=decide ((k3:Int) < (m.grades.length:Int))) rfl (qER hlt8) ?_))
 refine AW.k (AW.q ?_)
 refine AW.b (AW.q (AW.r ?_))
 refine AO.w (ixs T (zgD hd6)) ?_
 refine AO.p2 T ?_
 refine AO.n (AW.q ?_)
 obtain ⟨x29,hx30,hH⟩:=zB hH
 refine AW.r (AO.p2 T ?_)
 refine AO.w (cVs (qJu _ _ _ _ (hx30))) ?_
 refine AO.pu T ?_
 refine AO.n (AW.c (b:=(!x29)) rfl (fun hc=>?_) (fun hc=>?_))
 replace hH:=condT hc hH
 refine AW.q (AW.r (AO.pu T ?_))
 refine AO.n (AW.t ?_)
 have hR:=zS hH;subst hR
 exact retQ.i [] rfl (.c (.c .v))
 replace hH:=condF hc hH
 refine AW.k (AW.r ?_)
 refine AO.w (zR rfl rfl rfl rfl (zK hlt8 hb7)) ?_
 refine AO.pu T ?_
 refine AO.n ?_
 refine ⟨k3+1,⟨Nat.succ_le_of_lt hlt8,(by rw [zds hd6];exact hH)⟩,(by have:=hlt8;dsimp only;omega),?_⟩
 exact Le.ct 0 0

def qBu (fuel:Nat) (x1:(L1Cur × Code × Performance)) (x3:Performance) (v38:List (List Int)):Nat→List Int→Int→Int→List (List Int)→List (List Int)→Int→Option ((L1Cur × Code × Performance × Performance))
 | 0,_,_,_,_,_,_=>none
 | k51+1,v78,v79,v80,v81,v82,v83 =>
  cond (decide (v83 < (x3.marks.components.length:Int)))
   ((qAb v82 v83).bind fun x85 =>
   (qAA (L1Cur.mk v78 v79 v80) (x85.length:Int)).bind fun x87 =>
   (qAb x85 x87.2).bind fun x89 =>
   (qAA x87.1 3).bind fun x91 =>
   (qDI 0 (w64 (x89 - (w64 (25 * x91.2))))).bind fun x93 =>
   qBu fuel x1 x3 v38 k51 x91.1.code x91.1.at' x91.1.seed (v82.set v83.toNat (x85.set x87.2.toNat x93)) (v82.set v83.toNat (x85.set x87.2.toNat x93)) (w64 (v83+1)))
   ((qAA (L1Cur.mk v78 v79 v80) 8).bind fun x95 =>
   cond (x95.2 == 0)
    ((qC6 x95.1).bind fun x97 =>
    some (x97.1,x1.2.1,(Performance.mk x1.2.2.items (Marks.mk x1.2.2.marks.grades x1.2.2.marks.components) (Slips.mk x1.2.2.slips.falls x1.2.2.slips.seconds x1.2.2.slips.other)),(Performance.mk x3.items (Marks.mk v38 v82) x97.2)))
    (cond (x95.2 == 1)
     ((qBD fuel x95.1 (x3.items.length:Int)).bind fun x99 =>
     some (x99.1,x1.2.1,(Performance.mk x1.2.2.items (Marks.mk x1.2.2.marks.grades x1.2.2.marks.components) (Slips.mk x1.2.2.slips.falls x1.2.2.slips.seconds x1.2.2.slips.other)),(Performance.mk x3.items x99.2 x3.slips)))
     (some (x95.1,x1.2.1,(Performance.mk x1.2.2.items (Marks.mk x1.2.2.marks.grades x1.2.2.marks.components) (Slips.mk x1.2.2.slips.falls x1.2.2.slips.seconds x1.2.2.slips.other)),(Performance.mk x3.items (Marks.mk v38 v82) x3.slips)))))
def qBt (fuel:Nat) (x1:(L1Cur × Code × Performance)) (x3:Performance):Nat→List Int→Int→Int→List (List Int)→List (List Int)→Int→Option ((L1Cur × Code × Performance × Performance))
 | 0,_,_,_,_,_,_=>none
 | k7+1,v34,v35,v36,v37,v38,v39 =>
  cond (decide (v39 < (x3.marks.grades.length:Int)))
   ((qAb v38 v39).bind fun x41 =>
   (qAA (L1Cur.mk v34 v35 v36) (x41.length:Int)).bind fun x43 =>
   (qAb x41 x43.2).bind fun x45 =>
   (qAA x43.1 3).bind fun x47 =>
   (qBB 5 (w64 (x45+x47.2))).bind fun x49 =>
   qBt fuel x1 x3 k7 x47.1.code x47.1.at' x47.1.seed (v38.set v39.toNat (x41.set x43.2.toNat x49)) (v38.set v39.toNat (x41.set x43.2.toNat x49)) (w64 (v39+1)))
   (qBu fuel x1 x3 v38 fuel v34 v35 v36 x3.marks.components x3.marks.components 0)
def qEq (fuel:Nat) (c:L1Cur):Option (L1Cur × Code × Performance × Performance) :=
 (qC7 fuel c).bind fun x1 =>
 (qFl (Performance.mk x1.2.2.items (Marks.mk x1.2.2.marks.grades x1.2.2.marks.components) (Slips.mk x1.2.2.slips.falls x1.2.2.slips.seconds x1.2.2.slips.other)) x1.2.2.items).bind fun x3 =>
 (qEB (Marks.mk x1.2.2.marks.grades x1.2.2.marks.components)).bind fun x5 =>
 cond (!x5)
  (some (x1.1,x1.2.1,(Performance.mk x1.2.2.items (Marks.mk x1.2.2.marks.grades x1.2.2.marks.components) (Slips.mk x1.2.2.slips.falls x1.2.2.slips.seconds x1.2.2.slips.other)),x3))
  (qBt fuel x1 x3 fuel x1.1.code x1.1.at' x1.1.seed x3.marks.grades x3.marks.grades 0)
theorem qKK (fuel:Nat) (c:L1Cur) (r:(L1Cur × Code × Performance × Performance)) (hH:qEq fuel c=some r):qE7 Tryz.prog 23 [.pw (ze9 c)] [.pw (ze9 r.1)] (.t [.g (qGH r.2.1),.g (qGl r.2.2.1),.g (qFo r.2.2.2)]):=by
 refine qEy T Tryz.func23 rfl (by decide) rfl rfl ?_
 intro L
 show AW _ _ _ (⟨[(0,.p 1 0)],[(1,.box [.s (List.map ze4 c.code),c.at',.v (.int .u64 c.seed)])],97,[(1,L 1)]⟩:St)
 refine AW.q (AW.r (AO.x (als T 2) ?_))
 refine AO.x (als T 3) ?_
 refine AO.x (als T 4) ?_
 refine AO.n (AW.q ?_)
 obtain ⟨x1,hx2,hH⟩:=zB hH
 refine AW.r (AO.pu T ?_)
 refine AO.x (cMs 5 [1] (S:=qHw fuel _ _ (hx2)) (hp:=by exact zG (.c (.box rfl rfl)) (zGn))) ?_
 refine AO.pu T ?_
 refine AO.pu T (d:=.g [.R 5,.R 6,x1.2.1.repeats,x1.2.1.bonus,x1.2.1.keeps,x1.2.1.fall]) ?_
 refine AO.pu T (d:=.g [.s (List.map ze2 x1.2.2.items),.s (List.map ze1 x1.2.2.marks.grades),.s (List.map ze1 x1.2.2.marks.components),x1.2.2.slips.falls,x1.2.2.slips.seconds,x1.2.2.slips.other]) ?_
 refine AO.x (als T 7) ?_
 refine AO.x (als T 8) ?_
 refine AO.se T [.R 5,.R 6,x1.2.1.repeats,x1.2.1.bonus,x1.2.1.keeps,x1.2.1.fall] ?_
 refine AO.se T [.s (List.map ze2 x1.2.2.items),.s (List.map ze1 x1.2.2.marks.grades),.s (List.map ze1 x1.2.2.marks.components),x1.2.2.slips.falls,x1.2.2.slips.seconds,x1.2.2.slips.other] ?_
 refine AO.n (AW.le (Le.ct 0 0 (σ':=(⟨[(0,.p 1 0),(2,.p 2 0),(3,.p 3 0),(4,.p 4 0),(5,.p 7 0),(6,.p 8 0)],[(1,.box [.s (List.map ze4 x1.1.code),x1.1.at',.v (.int .u64 x1.1.seed)]),(2,.box [.w 0 [],.w 0 [],(0:Int),(0:Int),(0:Int),(0:Int)]),(3,.box [.w 0 [],.w 0 [],.w 0 [],(0:Int),(0:Int),(0:Int)]),(4,.box [.w 0 [],.w 0 [],.w 0 [],(0:Int),(0:Int),(0:Int)]),(5,.row 4 (List.map ze3 x1.2.1.elements)),(6,.row 1 (List.map ze0 x1.2.1.limits)),(7,.box [.R 5,.R 6,x1.2.1.repeats,x1.2.1.bonus,x1.2.1.keeps,x1.2.1.fall]),(8,.box [.s (List.map ze2 x1.2.2.items),.s (List.map ze1 x1.2.2.marks.grades),.s (List.map ze1 x1.2.2.marks.components),x1.2.2.slips.falls,x1.2.2.slips.seconds,x1.2.2.slips.other])],97,[(1,L 1)]⟩:St)) (hpin:=⟨⟨rfl,rfl⟩,trivial⟩)) ?_)
 refine AW.q ?_
 obtain ⟨x3,hx4,hH⟩:=zB hH
 refine AW.r (AO.pu T (d:=.g [.s (List.map ze2 x1.2.2.items),.s (List.map ze1 x1.2.2.marks.grades),.s (List.map ze1 x1.2.2.marks.components),x1.2.2.slips.falls,x1.2.2.slips.seconds,x1.2.2.slips.other]) ?_)
 refine AO.p2 T ?_
 refine AO.x (qBk rfl 9 rfl rfl rfl (qNH _ _ _ (hx4)) rfl rfl rfl) ?_
 refine AO.x (als T 12) ?_
 refine AO.se T [.R 9,.R 10,.R 11,x3.slips.falls,x3.slips.seconds,x3.slips.other] ?_
 refine AO.n (AW.q (AW.q ?_))
 obtain ⟨x5,hx6,hH⟩:=zB hH
 refine AW.r (AO.pu T ?_)
 refine AO.pu T (d:=.g [.s (List.map ze1 x1.2.2.marks.grades),.s (List.map ze1 x1.2.2.marks.components)]) ?_
 refine AO.w (cVs (qIi _ _ (hx6))) ?_
 refine AO.pu T ?_
 refine AO.n (AW.le (Le.ct 0 0 (σ':=(⟨[(0,.p 1 0),(2,.p 2 0),(3,.p 3 0),(4,.p 4 0),(5,.p 7 0),(6,.p 8 0),(7,.p 12 0),(26,.v (.bool (!x5)))],[(1,.box [.s (List.map ze4 x1.1.code),x1.1.at',.v (.int .u64 x1.1.seed)]),(2,.box [.w 0 [],.w 0 [],(0:Int),(0:Int),(0:Int),(0:Int)]),(3,.box [.w 0 [],.w 0 [],.w 0 [],(0:Int),(0:Int),(0:Int)]),(4,.box [.w 0 [],.w 0 [],.w 0 [],(0:Int),(0:Int),(0:Int)]),(5,.row 4 (List.map ze3 x1.2.1.elements)),(6,.row 1 (List.map ze0 x1.2.1.limits)),(7,.box [.R 5,.R 6,x1.2.1.repeats,x1.2.1.bonus,x1.2.1.keeps,x1.2.1.fall]),(8,.box [.s (List.map ze2 x1.2.2.items),.s (List.map ze1 x1.2.2.marks.grades),.s (List.map ze1 x1.2.2.marks.components),x1.2.2.slips.falls,x1.2.2.slips.seconds,x1.2.2.slips.other]),(9,.row 3 (List.map qGM x3.items)),(10,.row 1 (List.map ze6 x3.marks.grades)),(11,.row 1 (List.map ze6 x3.marks.components)),(12,.box [.R 9,.R 10,.R 11,x3.slips.falls,x3.slips.seconds,x3.slips.other])],97,[(1,L 1)]⟩:St)) (hpin:=⟨⟨rfl,rfl⟩,trivial⟩)) ?_)
 refine AW.c (b:=(!x5)) rfl (fun hc=>?_) (fun hc=>?_)
 replace hH:=condT hc hH
 refine AW.q (AW.drawn 5 13 [2,3] mix (by kernel_rfl) rfl ?_)
 refine AD.p T (d:=.g [.R 5,.R 6,x1.2.1.repeats,x1.2.1.bonus,x1.2.1.keeps,x1.2.1.fall]) rfl rfl rfl ?_
 refine AD.p T (d:=.g [.s (List.map ze2 x1.2.2.items),.s (List.map ze1 x1.2.2.marks.grades),.s (List.map ze1 x1.2.2.marks.components),x1.2.2.slips.falls,x1.2.2.slips.seconds,x1.2.2.slips.other]) rfl rfl rfl ?_
 refine AD.p T (d:=.g [.R 9,.R 10,.R 11,x3.slips.falls,x3.slips.seconds,x3.slips.other]) rfl rfl rfl ?_
 iterate 2 refine AD.kk (FStep.store_p T rfl rfl rfl rfl rfl rfl rfl rfl rfl rfl rfl) ?_
 refine AD.nil (AO.se T [.R 9,.R 10,.R 11,x3.slips.falls,x3.slips.seconds,x3.slips.other] ?_)
 refine AO.n (AW.t ?_)
 have hR:=zS hH;subst hR
 exact ⟨trivial,rfl,_,[5,6,9,10,11],[1],rfl,zG (.c (.box rfl rfl)) (zGn),.t (zG (.g (zC (.rowR rfl) (zC (.rowR rfl) (zC .v (zC .v (zC .v (zC .v (zCn)))))))) (zG (.g (zC .s (zC .s (zC .s (zC .v (zC .v (zC .v (zCn)))))))) (zG (.g (zC (.rowR rfl) (zC (.rowR rfl) (zC (.rowR rfl) (zC .v (zC .v (zC .v (zCn)))))))) (zGn)))),by decide⟩
 replace hH:=condF hc hH
 refine AW.k (AW.q (AW.q ?_))
 refine AW.r ?_
 iterate 3 refine AO.pu T ?_
 refine AO.w (qGn T) ?_
 refine AO.pu T ?_
 refine AO.n (AW.b ?_)
 refine AW.loopS (fun s:Nat × (List Int) × Int × Int × (List (List Int)) × (List (List Int)) × Int=>(⟨[(0,.p 1 0),(2,.p 2 0),(3,.p 3 0),(4,.p 4 0),(5,.p 7 0),(6,.p 8 0),(7,.p 12 0),(32,.R 10),(33,(x3.marks.grades.length:Int)),(34,s.2.2.2.2.2.2)],[(1,.box [.s (List.map ze4 s.2.1),s.2.2.1,.v (.int .u64 s.2.2.2.1)]),(2,.box [.w 0 [],.w 0 [],(0:Int),(0:Int),(0:Int),(0:Int)]),(3,.box [.w 0 [],.w 0 [],.w 0 [],(0:Int),(0:Int),(0:Int)]),(4,.box [.w 0 [],.w 0 [],.w 0 [],(0:Int),(0:Int),(0:Int)]),(5,.row 4 (List.map ze3 x1.2.1.elements)),(6,.row 1 (List.map ze0 x1.2.1.limits)),(7,.box [.R 5,.R 6,x1.2.1.repeats,x1.2.1.bonus,x1.2.1.keeps,x1.2.1.fall]),(8,.box [.s (List.map ze2 x1.2.2.items),.s (List.map ze1 x1.2.2.marks.grades),.s (List.map ze1 x1.2.2.marks.components),x1.2.2.slips.falls,x1.2.2.slips.seconds,x1.2.2.slips.other]),(9,.row 3 (List.map qGM x3.items)),(10,.row 1 (List.map ze6 s.2.2.2.2.2.1)),(11,.row 1 (List.map ze6 x3.marks.components)),(12,.box [.R 9,.R 10,.R 11,x3.slips.falls,x3.slips.seconds,x3.slips.other])],97,[(1,L 1)]⟩:St)) (fun s=>qBt fuel x1 x3 s.1 s.2.1 s.2.2.1 s.2.2.2.1 s.2.2.2.2.1 s.2.2.2.2.2.1 s.2.2.2.2.2.2=some r) (fun s=>s.1) (fuel,x1.1.code,x1.1.at',x1.1.seed,x3.marks.grades,x3.marks.grades,0) hH ?_ ?_
 exact Le.ct 0 0 (hpin:=⟨⟨rfl,rfl⟩,trivial⟩)
 rintro ⟨k7,v34,v35,v36,v37,v38,v39⟩ hH
 replace hH:qBt fuel x1 x3 k7 v34 v35 v36 v37 v38 v39=some r:=hH
 try dsimp only
 rcases k7 with _ | k7
 cases (show none=some _ from hH)
 rw [qBt] at hH
 refine AW.q (AW.r (AO.pu T ?_))
 refine AO.n (AW.q (AW.c (b:=decide (v39 < (x3.marks.grades.length:Int))) rfl (fun hc=>?_) (fun hc=>?_)))
 replace hH:=condT hc hH
 refine AW.k (AW.q ?_)
 refine AW.b (AW.q ?_)
 obtain ⟨x41,hx42,hH⟩:=zB hH
 refine AW.le (Le.openM 10 v39.toNat 0 15 rfl (zgG (hx42)) rfl rfl) ?_
 refine AW.r (AO.w (qC8 T rfl rfl rfl rfl rfl rfl (hx42)) ?_)
 refine AO.w (qBF T rfl rfl rfl rfl rfl) ?_
 refine AO.pu T ?_
 refine AO.n (AW.q ?_)
 obtain ⟨x43,hx44,hH⟩:=zB hH
 refine AW.r (AO.p2 T ?_)
 refine AO.w (qGn T) ?_
 refine AO.x (cMs 16 [1] (S:=qAB _ _ _ (hx44)) (hp:=by exact zG (.c (.box rfl rfl)) (zG (.c .v) (zGn)))) ?_
 refine AO.pu T ?_
 refine AO.n ?_
 obtain ⟨x45,hx46,hH⟩:=zB hH
 obtain ⟨x47,hx48,hH⟩:=zB hH
 obtain ⟨x49,hx50,hH⟩:=zB hH
 refine AW.drawn 10 16 [1] mix (by kernel_rfl) rfl ?_
 iterate 4 refine AD.pu T ?_
 refine AD.vv (ixr T (hx46)) ?_
 refine AD.vv (zLr T rfl rfl rfl rfl (zgG (hx46)) rfl rfl rfl) ?_
 refine AD.pu T ?_
 refine AD.kk (cMF [1] (S:=qAB _ _ _ (hx48)) (hp:=by exact zG (.c (.box rfl rfl)) (zG (.c .v) (zGn)))) ?_
 refine AD.vv aws ?_
 refine AD.vv (cVs (qBZ _ _ _ (hx50))) ?_
 refine AD.nil (AO.w (ixr T (hx46)) ?_)
 refine AO.x (zSr T rfl rfl rfl rfl rfl (zgG (hx46)) rfl rfl rfl rfl (u':=x49) rfl rfl) ?_
 refine AO.le (Le.closeM 10 v39.toNat 0 15 rfl rfl (zgG (hx42)) rfl (u':=(x41.set x43.2.toNat x49)) rfl) ?_
 refine AO.n (AW.le (Le.ct 0 0 (σ':=(⟨[(0,.p 1 0),(2,.p 2 0),(3,.p 3 0),(4,.p 4 0),(5,.p 7 0),(6,.p 8 0),(7,.p 12 0),(32,.R 10),(33,(x3.marks.grades.length:Int)),(34,v39)],[(1,.box [.s (List.map ze4 x47.1.code),x47.1.at',.v (.int .u64 x47.1.seed)]),(2,.box [.w 0 [],.w 0 [],(0:Int),(0:Int),(0:Int),(0:Int)]),(3,.box [.w 0 [],.w 0 [],.w 0 [],(0:Int),(0:Int),(0:Int)]),(4,.box [.w 0 [],.w 0 [],.w 0 [],(0:Int),(0:Int),(0:Int)]),(5,.row 4 (List.map ze3 x1.2.1.elements)),(6,.row 1 (List.map ze0 x1.2.1.limits)),(7,.box [.R 5,.R 6,x1.2.1.repeats,x1.2.1.bonus,x1.2.1.keeps,x1.2.1.fall]),(8,.box [.s (List.map ze2 x1.2.2.items),.s (List.map ze1 x1.2.2.marks.grades),.s (List.map ze1 x1.2.2.marks.components),x1.2.2.slips.falls,x1.2.2.slips.seconds,x1.2.2.slips.other]),(9,.row 3 (List.map qGM x3.items)),(10,.row 1 (List.map ze6 (v38.set v39.toNat (x41.set x43.2.toNat x49)))),(11,.row 1 (List.map ze6 x3.marks.components)),(12,.box [.R 9,.R 10,.R 11,x3.slips.falls,x3.slips.seconds,x3.slips.other])],97,[(1,L 1)]⟩:St)) (hpin:=⟨⟨rfl,rfl⟩,trivial⟩)) ?_)
 refine AW.r (AO.w aws ?_)
 refine AO.pu T ?_
 refine AO.n ?_
 refine ⟨(k7,x47.1.code,x47.1.at',x47.1.seed,(v38.set v39.toNat (x41.set x43.2.toNat x49)),(v38.set v39.toNat (x41.set x43.2.toNat x49)),w64 (v39+1)),hH,Nat.lt_succ_self _,?_⟩
 exact Le.ct 0 0 (hpin:=⟨⟨rfl,rfl⟩,trivial⟩)
 replace hH:=condF hc hH
 refine AW.exit (AW.q (AW.q ?_))
 refine AW.r ?_
 iterate 3 refine AO.pu T ?_
 refine AO.w (qGn T) ?_
 refine AO.pu T ?_
 refine AO.n (AW.b ?_)
 refine AW.loopS (fun s:Nat × (List Int) × Int × Int × (List (List Int)) × (List (List Int)) × Int=>(⟨[(0,.p 1 0),(2,.p 2 0),(3,.p 3 0),(4,.p 4 0),(5,.p 7 0),(6,.p 8 0),(7,.p 12 0),(56,.R 11),(57,(x3.marks.components.length:Int)),(58,s.2.2.2.2.2.2)],[(1,.box [.s (List.map ze4 s.2.1),s.2.2.1,.v (.int .u64 s.2.2.2.1)]),(2,.box [.w 0 [],.w 0 [],(0:Int),(0:Int),(0:Int),(0:Int)]),(3,.box [.w 0 [],.w 0 [],.w 0 [],(0:Int),(0:Int),(0:Int)]),(4,.box [.w 0 [],.w 0 [],.w 0 [],(0:Int),(0:Int),(0:Int)]),(5,.row 4 (List.map ze3 x1.2.1.elements)),(6,.row 1 (List.map ze0 x1.2.1.limits)),(7,.box [.R 5,.R 6,x1.2.1.repeats,x1.2.1.bonus,x1.2.1.keeps,x1.2.1.fall]),(8,.box [.s (List.map ze2 x1.2.2.items),.s (List.map ze1 x1.2.2.marks.grades),.s (List.map ze1 x1.2.2.marks.components),x1.2.2.slips.falls,x1.2.2.slips.seconds,x1.2.2.slips.other]),(9,.row 3 (List.map qGM x3.items)),(10,.row 1 (List.map ze6 v38)),(11,.row 1 (List.map ze6 s.2.2.2.2.2.1)),(12,.box [.R 9,.R 10,.R 11,x3.slips.falls,x3.slips.seconds,x3.slips.other])],97,[(1,L 1)]⟩:St)) (fun s=>qBu fuel x1 x3 v38 s.1 s.2.1 s.2.2.1 s.2.2.2.1 s.2.2.2.2.1 s.2.2.2.2.2.1 s.2.2.2.2.2.2=some r) (fun s=>s.1) (fuel,v34,v35,v36,x3.marks.components,x3.marks.components,0) hH ?_ ?_
 exact Le.ct 0 0 (hpin:=⟨⟨rfl,rfl⟩,trivial⟩)
 rintro ⟨k51,v78,v79,v80,v81,v82,v83⟩ hH
 replace hH:qBu fuel x1 x3 v38 k51 v78 v79 v80 v81 v82 v83=some r:=hH
 try dsimp only
 rcases k51 with _ | k51
 cases (show none=some _ from hH)
 rw [qBu] at hH
 refine AW.q (AW.r (AO.pu T ?_))
 refine AO.n (AW.q (AW.c (b:=decide (v83 < (x3.marks.components.length:Int))) rfl (fun hc=>?_) (fun hc=>?_)))
 replace hH:=condT hc hH
 refine AW.k (AW.q ?_)
 refine AW.b (AW.q ?_)
 obtain ⟨x85,hx86,hH⟩:=zB hH
 refine AW.le (Le.openM 11 v83.toNat 0 18 rfl (zgG (hx86)) rfl rfl) ?_
 refine AW.r (AO.w (qC8 T rfl rfl rfl rfl rfl rfl (hx86)) ?_)
 refine AO.w (qBF T rfl rfl rfl rfl rfl) ?_
 refine AO.pu T ?_
 refine AO.n (AW.q ?_)
 obtain ⟨x87,hx88,hH⟩:=zB hH
 refine AW.r (AO.p2 T ?_)
 refine AO.w (qGn T) ?_
 refine AO.x (cMs 19 [1] (S:=qAB _ _ _ (hx88)) (hp:=by exact zG (.c (.box rfl rfl)) (zG (.c .v) (zGn)))) ?_
 refine AO.pu T ?_
 refine AO.n ?_
 obtain ⟨x89,hx90,hH⟩:=zB hH
 obtain ⟨x91,hx92,hH⟩:=zB hH
 obtain ⟨x93,hx94,hH⟩:=zB hH
 refine AW.drawn 11 19 [1] mix (by kernel_rfl) rfl ?_
 iterate 4 refine AD.pu T ?_
 refine AD.vv (ixr T (hx90)) ?_
 refine AD.vv (zLr T rfl rfl rfl rfl (zgG (hx90)) rfl rfl rfl) ?_
 refine AD.pu T ?_
 refine AD.kk (cMF [1] (S:=qAB _ _ _ (hx92)) (hp:=by exact zG (.c (.box rfl rfl)) (zG (.c .v) (zGn)))) ?_
 iterate 2 refine AD.vv aws ?_
 refine AD.vv (cVs (qGJ _ _ _ (hx94))) ?_
 refine AD.nil (AO.w (ixr T (hx90)) ?_)
 refine AO.x (zSr T rfl rfl rfl rfl rfl (zgG (hx90)) rfl rfl rfl rfl (u':=x93) rfl rfl) ?_
 refine AO.le (Le.closeM 11 v83.toNat 0 18 rfl rfl (zgG (hx86)) rfl (u':=(x85.set x87.2.toNat x93)) rfl) ?_
 refine AO.n (AW.le (Le.ct 0 0 (σ':=(⟨[(0,.p 1 0),(2,.p 2 0),(3,.p 3 0),(4,.p 4 0),(5,.p 7 0),(6,.p 8 0),(7,.p 12 0),(56,.R 11),(57,(x3.marks.components.length:Int)),(58,v83)],[(1,.box [.s (List.map ze4 x91.1.code),x91.1.at',.v (.int .u64 x91.1.seed)]),(2,.box [.w 0 [],.w 0 [],(0:Int),(0:Int),(0:Int),(0:Int)]),(3,.box [.w 0 [],.w 0 [],.w 0 [],(0:Int),(0:Int),(0:Int)]),(4,.box [.w 0 [],.w 0 [],.w 0 [],(0:Int),(0:Int),(0:Int)]),(5,.row 4 (List.map ze3 x1.2.1.elements)),(6,.row 1 (List.map ze0 x1.2.1.limits)),(7,.box [.R 5,.R 6,x1.2.1.repeats,x1.2.1.bonus,x1.2.1.keeps,x1.2.1.fall]),(8,.box [.s (List.map ze2 x1.2.2.items),.s (List.map ze1 x1.2.2.marks.grades),.s (List.map ze1 x1.2.2.marks.components),x1.2.2.slips.falls,x1.2.2.slips.seconds,x1.2.2.slips.other]),(9,.row 3 (List.map qGM x3.items)),(10,.row 1 (List.map ze6 v38)),(11,.row 1 (List.map ze6 (v82.set v83.toNat (x85.set x87.2.toNat x93)))),(12,.box [.R 9,.R 10,.R 11,x3.slips.falls,x3.slips.seconds,x3.slips.other])],97,[(1,L 1)]⟩:St)) (hpin:=⟨⟨rfl,rfl⟩,trivial⟩)) ?_)
 refine AW.r (AO.w aws ?_)
 refine AO.pu T ?_
 refine AO.n ?_
 refine ⟨(k51,x91.1.code,x91.1.at',x91.1.seed,(v82.set v83.toNat (x85.set x87.2.toNat x93)),(v82.set v83.toNat (x85.set x87.2.toNat x93)),w64 (v83+1)),hH,Nat.lt_succ_self _,?_⟩
 exact Le.ct 0 0 (hpin:=⟨⟨rfl,rfl⟩,trivial⟩)
 replace hH:=condF hc hH
 refine AW.exit (AW.q (AW.q ?_))
 obtain ⟨x95,hx96,hH⟩:=zB hH
 refine AW.r (AO.pu T ?_)
 refine AO.x (cMs 19 [1] (S:=qAB _ _ _ (hx96)) (hp:=by exact zG (.c (.box rfl rfl)) (zG (.c .v) (zGn)))) ?_
 refine AO.n (AW.b ?_)
 refine AW.q (AW.r (AO.p2 T ?_))
 refine AO.n (AW.c (b:=(x95.2 == 0)) rfl (fun hc=>?_) (fun hc=>?_))
 replace hH:=condT hc hH
 obtain ⟨x97,hx98,hH⟩:=zB hH
 refine AW.r (AO.pu T ?_)
 refine AO.x (cMs 19 [1] (S:=qFQ _ _ (hx98)) (hp:=by exact zG (.c (.box rfl rfl)) (zGn))) ?_
 refine AO.pu T ?_
 refine AO.se T [.R 9,.R 10,.R 11,x97.2.falls,x97.2.seconds,x97.2.other] ?_
 refine AO.n (AW.le (Le.ct 0 0 (σ':=(⟨[(2,.p 2 0),(3,.p 3 0),(4,.p 4 0),(5,.p 7 0),(6,.p 8 0),(7,.p 12 0)],[(1,.box [.s (List.map ze4 x97.1.code),x97.1.at',.v (.int .u64 x97.1.seed)]),(2,.box [.w 0 [],.w 0 [],(0:Int),(0:Int),(0:Int),(0:Int)]),(3,.box [.w 0 [],.w 0 [],.w 0 [],(0:Int),(0:Int),(0:Int)]),(4,.box [.w 0 [],.w 0 [],.w 0 [],(0:Int),(0:Int),(0:Int)]),(5,.row 4 (List.map ze3 x1.2.1.elements)),(6,.row 1 (List.map ze0 x1.2.1.limits)),(7,.box [.R 5,.R 6,x1.2.1.repeats,x1.2.1.bonus,x1.2.1.keeps,x1.2.1.fall]),(8,.box [.s (List.map ze2 x1.2.2.items),.s (List.map ze1 x1.2.2.marks.grades),.s (List.map ze1 x1.2.2.marks.components),x1.2.2.slips.falls,x1.2.2.slips.seconds,x1.2.2.slips.other]),(9,.row 3 (List.map qGM x3.items)),(10,.row 1 (List.map ze6 v38)),(11,.row 1 (List.map ze6 v82)),(12,.box [.R 9,.R 10,.R 11,x97.2.falls,x97.2.seconds,x97.2.other])],97,[(1,L 1)]⟩:St)) (hpin:=⟨⟨rfl,rfl⟩,trivial⟩)) ?_)
 refine AW.q (AW.drawn 5 19 [2,3] mix (by kernel_rfl) rfl ?_)
 refine AD.p T (d:=.g [.R 5,.R 6,x1.2.1.repeats,x1.2.1.bonus,x1.2.1.keeps,x1.2.1.fall]) rfl rfl rfl ?_
 refine AD.p T (d:=.g [.s (List.map ze2 x1.2.2.items),.s (List.map ze1 x1.2.2.marks.grades),.s (List.map ze1 x1.2.2.marks.components),x1.2.2.slips.falls,x1.2.2.slips.seconds,x1.2.2.slips.other]) rfl rfl rfl ?_
 refine AD.p T (d:=.g [.R 9,.R 10,.R 11,x97.2.falls,x97.2.seconds,x97.2.other]) rfl rfl rfl ?_
 iterate 2 refine AD.kk (FStep.store_p T rfl rfl rfl rfl rfl rfl rfl rfl rfl rfl rfl) ?_
 refine AD.nil (AO.se T [.R 9,.R 10,.R 11,x97.2.falls,x97.2.seconds,x97.2.other] ?_)
 refine AO.n (AW.t ?_)
 have hR:=zS hH;subst hR
 exact ⟨trivial,rfl,_,[5,6,9,10,11],[1],rfl,zG (.c (.box rfl rfl)) (zGn),.t (zG (.g (zC (.rowR rfl) (zC (.rowR rfl) (zC .v (zC .v (zC .v (zC .v (zCn)))))))) (zG (.g (zC .s (zC .s (zC .s (zC .v (zC .v (zC .v (zCn)))))))) (zG (.g (zC (.rowR rfl) (zC (.rowR rfl) (zC (.rowR rfl) (zC .v (zC .v (zC .v (zCn)))))))) (zGn)))),by decide⟩
 replace hH:=condF hc hH
 refine AW.q (AW.r (AO.p2 T ?_))
 refine AO.n (AW.c (b:=(x95.2 == 1)) rfl (fun hc=>?_) (fun hc=>?_))
 replace hH:=condT hc hH
 obtain ⟨x99,hx100,hH⟩:=zB hH
 refine AW.r ?_
 iterate 3 refine AO.pu T ?_
 refine AO.w (qGn T) ?_
 refine AO.x (cMs 19 [1] (S:=qCd fuel _ _ _ (hx100)) (hp:=by exact zG (.c (.box rfl rfl)) (zG (.c .v) (zGn)))) ?_
 refine AO.pu T ?_
 refine AO.se T [.R 9,.R 19,.R 20,x3.slips.falls,x3.slips.seconds,x3.slips.other] ?_
 refine AO.n (AW.le (Le.ct 0 0 (σ':=(⟨[(2,.p 2 0),(3,.p 3 0),(4,.p 4 0),(5,.p 7 0),(6,.p 8 0),(7,.p 12 0)],[(1,.box [.s (List.map ze4 x99.1.code),x99.1.at',.v (.int .u64 x99.1.seed)]),(2,.box [.w 0 [],.w 0 [],(0:Int),(0:Int),(0:Int),(0:Int)]),(3,.box [.w 0 [],.w 0 [],.w 0 [],(0:Int),(0:Int),(0:Int)]),(4,.box [.w 0 [],.w 0 [],.w 0 [],(0:Int),(0:Int),(0:Int)]),(5,.row 4 (List.map ze3 x1.2.1.elements)),(6,.row 1 (List.map ze0 x1.2.1.limits)),(7,.box [.R 5,.R 6,x1.2.1.repeats,x1.2.1.bonus,x1.2.1.keeps,x1.2.1.fall]),(8,.box [.s (List.map ze2 x1.2.2.items),.s (List.map ze1 x1.2.2.marks.grades),.s (List.map ze1 x1.2.2.marks.components),x1.2.2.slips.falls,x1.2.2.slips.seconds,x1.2.2.slips.other]),(9,.row 3 (List.map qGM x3.items)),(12,.box [.R 9,.R 19,.R 20,x3.slips.falls,x3.slips.seconds,x3.slips.other]),(19,.row 1 (List.map ze6 x99.2.grades)),(20,.row 1 (List.map ze6 x99.2.components))],97,[(1,L 1)]⟩:St)) (hpin:=⟨⟨rfl,rfl⟩,trivial⟩)) ?_)
 refine AW.q (AW.drawn 5 21 [2,3] mix (by kernel_rfl) rfl ?_)
 refine AD.p T (d:=.g [.R 5,.R 6,x1.2.1.repeats,x1.2.1.bonus,x1.2.1.keeps,x1.2.1.fall]) rfl rfl rfl ?_
 refine AD.p T (d:=.g [.s (List.map ze2 x1.2.2.items),.s (List.map ze1 x1.2.2.marks.grades),.s (List.map ze1 x1.2.2.marks.components),x1.2.2.slips.falls,x1.2.2.slips.seconds,x1.2.2.slips.other]) rfl rfl rfl ?_
 refine AD.p T (d:=.g [.R 9,.R 19,.R 20,x3.slips.falls,x3.slips.seconds,x3.slips.other]) rfl rfl rfl ?_
 iterate 2 refine AD.kk (FStep.store_p T rfl rfl rfl rfl rfl rfl rfl rfl rfl rfl rfl) ?_
 refine AD.nil (AO.se T [.R 9,.R 19,.R 20,x3.slips.falls,x3.slips.seconds,x3.slips.other] ?_)
 refine AO.n (AW.t ?_)
 have hR:=zS hH;subst hR
 exact ⟨trivial,rfl,_,[5,6,9,19,20],[1],rfl,zG (.c (.box rfl rfl)) (zGn),.t (zG (.g (zC (.rowR rfl) (zC (.rowR rfl) (zC .v (zC .v (zC .v (zC .v (zCn)))))))) (zG (.g (zC .s (zC .s (zC .s (zC .v (zC .v (zC .v (zCn)))))))) (zG (.g (zC (.rowR rfl) (zC (.rowR rfl) (zC (.rowR rfl) (zC .v (zC .v (zC .v (zCn)))))))) (zGn)))),by decide⟩
 replace hH:=condF hc hH
 refine AW.k (AW.q ?_)
 refine AW.drawn 5 21 [2,3] mix (by kernel_rfl) rfl ?_
 refine AD.p T (d:=.g [.R 5,.R 6,x1.2.1.repeats,x1.2.1.bonus,x1.2.1.keeps,x1.2.1.fall]) rfl rfl rfl ?_
 refine AD.p T (d:=.g [.s (List.map ze2 x1.2.2.items),.s (List.map ze1 x1.2.2.marks.grades),.s (List.map ze1 x1.2.2.marks.components),x1.2.2.slips.falls,x1.2.2.slips.seconds,x1.2.2.slips.other]) rfl rfl rfl ?_
 refine AD.p T (d:=.g [.R 9,.R 10,.R 11,x3.slips.falls,x3.slips.seconds,x3.slips.other]) rfl rfl rfl ?_
 iterate 2 refine AD.kk (FStep.store_p T rfl rfl rfl rfl rfl rfl rfl rfl rfl rfl rfl) ?_
 refine AD.nil (AO.se T [.R 9,.R 10,.R 11,x3.slips.falls,x3.slips.seconds,x3.slips.other] ?_)
 refine AO.n (AW.le (Le.ct 0 0 (σ':=(⟨[(2,.p 2 0),(3,.p 3 0),(4,.p 4 0)],[(1,.box [.s (List.map ze4 x95.1.code),x95.1.at',.v (.int .u64 x95.1.seed)]),(2,.box [.R 5,.R 6,x1.2.1.repeats,x1.2.1.bonus,x1.2.1.keeps,x1.2.1.fall]),(3,.box [.s (List.map ze2 x1.2.2.items),.s (List.map ze1 x1.2.2.marks.grades),.s (List.map ze1 x1.2.2.marks.components),x1.2.2.slips.falls,x1.2.2.slips.seconds,x1.2.2.slips.other]),(4,.box [.R 9,.R 10,.R 11,x3.slips.falls,x3.slips.seconds,x3.slips.other]),(5,.row 4 (List.map ze3 x1.2.1.elements)),(6,.row 1 (List.map ze0 x1.2.1.limits)),(9,.row 3 (List.map qGM x3.items)),(10,.row 1 (List.map ze6 v38)),(11,.row 1 (List.map ze6 v82))],97,[(1,L 1)]⟩:St)) (hpin:=⟨⟨rfl,rfl⟩,trivial⟩)) ?_)
 refine AW.t ?_
 have hR:=zS hH;subst hR
 exact ⟨trivial,rfl,_,[5,6,9,10,11],[1],rfl,zG (.c (.box rfl rfl)) (zGn),.t (zG (.g (zC (.rowR rfl) (zC (.rowR rfl) (zC .v (zC .v (zC .v (zC .v (zCn)))))))) (zG (.g (zC .s (zC .s (zC .s (zC .v (zC .v (zC .v (zCn)))))))) (zG (.g (zC (.rowR rfl) (zC (.rowR rfl) (zC (.rowR rfl) (zC .v (zC .v (zC .v (zCn)))))))) (zGn)))),by decide⟩

def qEU (c:L1Cur):Option (L1Cur × Int) :=
 (qAC c ([10,80,100,160,200,400,401,9]:List Int)).bind fun x1 =>
 some (x1.1,x1.2)
theorem qIY (c:L1Cur) (r:(L1Cur × Int)) (hH:qEU c=some r):qE7 Tryz.prog 24 [.pw (ze9 c)] [.pw (ze9 r.1)] (.v (.int .i64 r.2)):=by
 refine qEy T Tryz.func24 rfl (by decide) rfl rfl ?_
 intro L
 show AW _ _ _ (⟨[(0,.p 1 0)],[(1,.box [.s (List.map ze4 c.code),c.at',.v (.int .u64 c.seed)])],6,[(1,L 1)]⟩:St)
 refine AW.q (AW.r (AO.pu T ?_))
 refine AO.n (AW.q ?_)
 obtain ⟨x1,hx2,hH⟩:=zB hH
 refine AW.r (AO.pu T ?_)
 refine AO.x (mks T 2 ze0 (([10,80,100,160,200,400,401,9]:List Int))) ?_
 refine AO.le (Le.fM 2 (g:=ze0) rfl (fun y=>.vs rfl)) ?_
 refine AO.x (cMs 3 [1] (S:=qAD _ _ _ (hx2)) (hp:=by exact zG (.c (.box rfl rfl)) (zG (.c .s) (zGn)))) ?_
 refine AO.pu T ?_
 refine AO.n (AW.t ?_)
 have hR:=zS hH;subst hR
 exact ⟨trivial,rfl,_,[],[1],rfl,zG (.c (.box rfl rfl)) (zGn),.c (.c .v),by decide⟩

def qCm (fuel:Nat) (code:List Int):Option (Code × Performance × Performance × Int) :=
 (qEq fuel (L1Cur.mk code 0 0)).bind fun x1 =>
 (qEU x1.1).bind fun x3 =>
 some (x1.2.1,(Performance.mk x1.2.2.1.items (Marks.mk x1.2.2.1.marks.grades x1.2.2.1.marks.components) (Slips.mk x1.2.2.1.slips.falls x1.2.2.1.slips.seconds x1.2.2.1.slips.other)),(Performance.mk x1.2.2.2.items (Marks.mk x1.2.2.2.marks.grades x1.2.2.2.marks.components) (Slips.mk x1.2.2.2.slips.falls x1.2.2.2.slips.seconds x1.2.2.2.slips.other)),x3.2)
theorem qHT (fuel:Nat) (code:List Int) (r:(Code × Performance × Performance × Int)) (hH:qCm fuel code=some r):qAE Tryz.prog 4 [.s (List.map ze4 code)] (.t [.g (qGH r.1),.g (qGl r.2.1),.g (qFo r.2.2.1),.v (.int .i64 r.2.2.2)]):=by
 refine fns T Tryz.func4 ?_
 refine AW.q (AW.r (AO.x (als T 1) ?_))
 refine AO.x (als T 2) ?_
 refine AO.x (als T 3) ?_
 refine AO.pu T ?_
 refine AO.n (AW.q (AW.r ?_))
 refine AO.pu T ?_
 refine AO.pu T (d:=.g [.s (List.map ze4 code),(0:Int),.v (.int .u64 0)]) ?_
 refine AO.x (bxs T 4) ?_
 refine AO.pu T ?_
 refine AO.n (AW.le (Le.ct 0 0 (σ':=(⟨[(2,.p 1 0),(3,.p 2 0),(4,.p 3 0),(6,.p 4 0)],[(1,.box [.w 0 [],.w 0 [],(0:Int),(0:Int),(0:Int),(0:Int)]),(2,.box [.w 0 [],.w 0 [],.w 0 [],(0:Int),(0:Int),(0:Int)]),(3,.box [.w 0 [],.w 0 [],.w 0 [],(0:Int),(0:Int),(0:Int)]),(4,.box [.s (List.map ze4 code),(0:Int),.v (.int .u64 0)])],24,[]⟩:St))) ?_)
 refine AW.q ?_
 obtain ⟨x1,hx2,hH⟩:=zB hH
 refine AW.r (AO.pu T ?_)
 refine AO.x (cMs 5 [4] (S:=qKK fuel _ _ (hx2)) (hp:=by exact zG (.c (.box rfl rfl)) (zGn))) ?_
 refine AO.pu T ?_
 refine AO.pu T (d:=.g [.R 5,.R 6,x1.2.1.repeats,x1.2.1.bonus,x1.2.1.keeps,x1.2.1.fall]) ?_
 refine AO.pu T (d:=.g [.s (List.map ze2 x1.2.2.1.items),.s (List.map ze1 x1.2.2.1.marks.grades),.s (List.map ze1 x1.2.2.1.marks.components),x1.2.2.1.slips.falls,x1.2.2.1.slips.seconds,x1.2.2.1.slips.other]) ?_
 refine AO.pu T (d:=.g [.R 7,.R 8,.R 9,x1.2.2.2.slips.falls,x1.2.2.2.slips.seconds,x1.2.2.2.slips.other]) ?_
 refine AO.x (als T 10) ?_
 refine AO.x (als T 11) ?_
 refine AO.x (als T 12) ?_
 refine AO.se T [.R 5,.R 6,x1.2.1.repeats,x1.2.1.bonus,x1.2.1.keeps,x1.2.1.fall] ?_
 refine AO.se T [.s (List.map ze2 x1.2.2.1.items),.s (List.map ze1 x1.2.2.1.marks.grades),.s (List.map ze1 x1.2.2.1.marks.components),x1.2.2.1.slips.falls,x1.2.2.1.slips.seconds,x1.2.2.1.slips.other] ?_
 refine AO.se T [.R 7,.R 8,.R 9,x1.2.2.2.slips.falls,x1.2.2.2.slips.seconds,x1.2.2.2.slips.other] ?_
 refine AO.n (AW.le (Le.ct 0 0 (σ':=(⟨[(2,.p 1 0),(3,.p 2 0),(4,.p 3 0),(6,.p 4 0),(7,.p 10 0),(8,.p 11 0),(9,.p 12 0)],[(1,.box [.w 0 [],.w 0 [],(0:Int),(0:Int),(0:Int),(0:Int)]),(2,.box [.w 0 [],.w 0 [],.w 0 [],(0:Int),(0:Int),(0:Int)]),(3,.box [.w 0 [],.w 0 [],.w 0 [],(0:Int),(0:Int),(0:Int)]),(4,.box [.s (List.map ze4 x1.1.code),x1.1.at',.v (.int .u64 x1.1.seed)]),(5,.row 4 (List.map ze3 x1.2.1.elements)),(6,.row 1 (List.map ze0 x1.2.1.limits)),(7,.row 3 (List.map qGM x1.2.2.2.items)),(8,.row 1 (List.map ze6 x1.2.2.2.marks.grades)),(9,.row 1 (List.map ze6 x1.2.2.2.marks.components)),(10,.box [.R 5,.R 6,x1.2.1.repeats,x1.2.1.bonus,x1.2.1.keeps,x1.2.1.fall]),(11,.box [.s (List.map ze2 x1.2.2.1.items),.s (List.map ze1 x1.2.2.1.marks.grades),.s (List.map ze1 x1.2.2.1.marks.components),x1.2.2.1.slips.falls,x1.2.2.1.slips.seconds,x1.2.2.1.slips.other]),(12,.box [.R 7,.R 8,.R 9,x1.2.2.2.slips.falls,x1.2.2.2.slips.seconds,x1.2.2.2.slips.other])],24,[]⟩:St))) ?_)
 refine AW.q ?_
 obtain ⟨x3,hx4,hH⟩:=zB hH
 refine AW.drawn 7 13 [4,1,2] mix (by kernel_rfl) rfl ?_
 refine AD.p T (d:=.g [.R 5,.R 6,x1.2.1.repeats,x1.2.1.bonus,x1.2.1.keeps,x1.2.1.fall]) rfl rfl rfl ?_
 refine AD.p T (d:=.g [.s (List.map ze2 x1.2.2.1.items),.s (List.map ze1 x1.2.2.1.marks.grades),.s (List.map ze1 x1.2.2.1.marks.components),x1.2.2.1.slips.falls,x1.2.2.1.slips.seconds,x1.2.2.1.slips.other]) rfl rfl rfl ?_
 refine AD.p T (d:=.g [.R 7,.R 8,.R 9,x1.2.2.2.slips.falls,x1.2.2.2.slips.seconds,x1.2.2.2.slips.other]) rfl rfl rfl ?_
 refine AD.pu T ?_
 refine AD.kk (cMF [4] (S:=qIY _ _ (hx4)) (hp:=by exact zG (.c (.box rfl rfl)) (zGn))) ?_
 iterate 2 refine AD.kk (FStep.store_p T rfl rfl rfl rfl rfl rfl rfl rfl rfl rfl rfl) ?_
 refine AD.nil (AO.se T [.R 7,.R 8,.R 9,x1.2.2.2.slips.falls,x1.2.2.2.slips.seconds,x1.2.2.2.slips.other] ?_)
 refine AO.pu T ?_
 refine AO.n (AW.le (Le.ct 0 0 (σ':=(⟨[(2,.p 1 0),(3,.p 2 0),(4,.p 3 0),(5,x3.2)],[(1,.box [.R 5,.R 6,x1.2.1.repeats,x1.2.1.bonus,x1.2.1.keeps,x1.2.1.fall]),(2,.box [.s (List.map ze2 x1.2.2.1.items),.s (List.map ze1 x1.2.2.1.marks.grades),.s (List.map ze1 x1.2.2.1.marks.components),x1.2.2.1.slips.falls,x1.2.2.1.slips.seconds,x1.2.2.1.slips.other]),(3,.box [.R 7,.R 8,.R 9,x1.2.2.2.slips.falls,x1.2.2.2.slips.seconds,x1.2.2.2.slips.other]),(5,.row 4 (List.map ze3 x1.2.1.elements)),(6,.row 1 (List.map ze0 x1.2.1.limits)),(7,.row 3 (List.map qGM x1.2.2.2.items)),(8,.row 1 (List.map ze6 x1.2.2.2.marks.grades)),(9,.row 1 (List.map ze6 x1.2.2.2.marks.components))],24,[]⟩:St))) ?_)
 refine AW.t ?_
 have hR:=zS hH;subst hR
 exact retQ.i [5,6,7,8,9] rfl (.t (zG (.g (zC (.rowR rfl) (zC (.rowR rfl) (zC .v (zC .v (zC .v (zC .v (zCn)))))))) (zG (.g (zC .s (zC .s (zC .s (zC .v (zC .v (zC .v (zCn)))))))) (zG (.g (zC (.rowR rfl) (zC (.rowR rfl) (zC (.rowR rfl) (zC .v (zC .v (zC .v (zCn)))))))) (zG (.c .v) (zGn))))))

def qAM (n:Int) (low:Int) (high:Int):Option Bool :=
 some (decide (n ≥ low) && decide (n ≤ high))
theorem qAP (n:Int) (low:Int) (high:Int) (r:Bool) (hH:qAM n low high=some r):qAE Tryz.prog 62 [n,low,high] (.v (.bool r)):=by
 refine fns T Tryz.func62 ?_
 refine AW.q (AW.r (AO.pu T ?_))
 refine AO.n (AW.q (AW.r ?_))
 iterate 4 refine AO.pu T ?_
 iterate 2 refine AO.g T [] rfl trivial rfl rfl ?_
 refine AO.g T [11,12] rfl ⟨fun h=>h,fun h=>h,trivial⟩ rfl rfl ?_
 refine AO.w qFy ?_
 refine AO.pu T ?_
 refine AO.n (AW.t ?_)
 have hR:=zS hH;subst hR
 exact retQ.i [] rfl (.c (.c .v))

def qBj (low:Int) (high:Int):List Int→Nat→Option Bool
 | [],k1 =>
  some true
 | y2::ys3,k1 =>
  (qAM y2 low high).bind fun x12 =>
  cond (!x12)
   (some false)
   (qBj low high ys3 (k1+1))
def qDA (l:List Int) (low:Int) (high:Int):Option Bool :=
 qBj low high l 0
theorem qF5 (l:List Int) (low:Int) (high:Int) (r:Bool) (hH:qDA l low high=some r):qAE Tryz.prog 63 [.s (List.map ze0 l),low,high] (.v (.bool r)):=by
 refine fns T Tryz.func63 ?_
 refine AW.q (AW.r (AO.pu T ?_))
 refine AO.n (AW.q (AW.q ?_))
 refine AW.r (AO.pu T ?_)
 refine AO.w (qCC T) ?_
 refine AO.pu T ?_
 refine AO.n (AW.b ?_)
 refine AW.loopS (fun s:Nat=>(⟨[(1,low),(2,high),(9,.s (List.map ze0 l)),(10,(l.length:Int)),(11,(s:Int))],[],21,[]⟩:St)) (fun s=>s ≤ l.length∧qBj low high (l.drop s) s=some r) (fun s=>l.length - s) 0 ⟨Nat.zero_le _,hH⟩ ?_ ?_
 exact Le.ct 0 0
 rintro k1 ⟨hk,hH⟩
 replace hH:qBj low high (l.drop k1) k1=some r:=hH
 try dsimp only
 refine AW.boundM (t:=9) (l:=l) rfl (fun hb5=>?_)
 rcases hd4:l.drop k1 with _ | ⟨y2,ys3⟩
 rw [hd4,qBj] at hH
 have hlt6:=qAJ hd4
 refine AW.q (AW.r (AO.pu T ?_))
 refine AO.n (AW.q (AW.condF' (b:=decide ((k1:Int) < (l.length:Int))) rfl (qEQ hlt6) ?_))
 refine AW.exit (AW.q (AW.r ?_))
 refine AO.pu T ?_
 refine AO.n (AW.t ?_)
 have hR:=zS hH;subst hR
 exact retQ.i [] rfl (.c (.c .v))
 rw [hd4,qBj] at hH
 have hlt6:=qAK hd4
 refine AW.q (AW.r (AO.pu T ?_))
 refine AO.n (AW.q (AW.condT' (b:=decide ((k1:Int) < (l.length:Int))) rfl (qER hlt6) ?_))
 refine AW.k (AW.q ?_)
 refine AW.b (AW.q (AW.r ?_))
 refine AO.w (ixs T (zgD hd4)) ?_
 refine AO.p2 T ?_
 refine AO.n (AW.q ?_)
 obtain ⟨x12,hx13,hH⟩:=zB hH
 refine AW.r ?_
 iterate 3 refine AO.pu T ?_
 refine AO.w (cVs (qAP _ _ _ _ (hx13))) ?_
 refine AO.pu T ?_
 refine AO.n (AW.c (b:=(!x12)) rfl (fun hc=>?_) (fun hc=>?_))
 replace hH:=condT hc hH
 refine AW.q (AW.r (AO.pu T ?_))
 refine AO.n (AW.t ?_)
 have hR:=zS hH;subst hR
 exact retQ.i [] rfl (.c (.c .v))
 replace hH:=condF hc hH
 refine AW.k (AW.r ?_)
 refine AO.w (zR rfl rfl rfl rfl (zK hlt6 hb5)) ?_
 refine AO.pu T ?_
 refine AO.n ?_
 refine ⟨k1+1,⟨Nat.succ_le_of_lt hlt6,(by rw [zds hd4];exact hH)⟩,(by have:=hlt6;dsimp only;omega),?_⟩
 exact Le.ct 0 0

def qAZ (sA:ByteArray):Nat→Int→Option Bool
 | 0,_=>none
 | k1+1,v7 =>
  cond (decide (v7 < (sA.size:Int)))
   ((qSi sA v7).bind fun b9 =>
   cond ((decide ((b9.toNat:Int) < 65) || decide ((b9.toNat:Int) > 90)) && (decide ((b9.toNat:Int) < 48) || decide ((b9.toNat:Int) > 57)))
    (some false)
    (qAZ sA k1 (w64 (v7+1))))
   ((qAM (sA.size:Int) 1 5).bind fun x11 =>
   some x11)
def qDB (fuel:Nat) (sA:ByteArray):Option Bool :=
 qAZ sA fuel 0
theorem qGX (fuel:Nat) (sA:ByteArray) (r:Bool) (hH:qDB fuel sA=some r):qAE Tryz.prog 64 [.v (.string sA)] (.v (.bool r)):=by
 refine fns T Tryz.func64 ?_
 refine AW.q (AW.r (AO.pu T ?_))
 refine AO.n (AW.q (AW.q ?_))
 refine AW.r (AO.pu T ?_)
 refine AO.n (AW.b ?_)
 refine AW.loopS (fun s:Nat × Int=>(⟨[(0,.v (.string sA)),(3,s.2)],[],35,[]⟩:St)) (fun s=>qAZ sA s.1 s.2=some r) (fun s=>s.1) (fuel,0) hH ?_ ?_
 exact Le.ct 0 0
 rintro ⟨k1,v7⟩ hH
 replace hH:qAZ sA k1 v7=some r:=hH
 try dsimp only
 rcases k1 with _ | k1
 cases (show none=some _ from hH)
 rw [qAZ] at hH
 refine AW.q (AW.q (AW.r ?_))
 iterate 4 refine AO.pu T ?_
 refine AO.n (AW.c (b:=decide (v7 < (sA.size:Int))) rfl (fun hc=>?_) (fun hc=>?_))
 replace hH:=condT hc hH
 refine AW.k (AW.q ?_)
 refine AW.b (AW.q ?_)
 obtain ⟨b9,hx10,hH⟩:=zB hH
 refine AW.r (AO.p2 T ?_)
 refine AO.w (qEm T rfl rfl rfl rfl (hx10)) ?_
 refine AO.p2 T ?_
 iterate 2 refine AO.g T [] rfl trivial rfl rfl ?_
 refine AO.d [15,16] rfl ⟨fun h=>h,fun h=>h,trivial⟩ (fun hg=>qEm T rfl rfl rfl rfl (hx10)) rfl ?_
 refine AO.g T [17] rfl ⟨fun h=>h,trivial⟩ rfl rfl ?_
 refine AO.w ors ?_
 refine AO.pu T ?_
 iterate 2 refine AO.g T [] rfl trivial rfl rfl ?_
 refine AO.d [21,22] rfl ⟨fun h=>h,fun h=>h,trivial⟩ (fun hg=>qEm T rfl rfl rfl rfl (hx10)) rfl ?_
 refine AO.g T [23] rfl ⟨fun h=>h,trivial⟩ rfl rfl ?_
 refine AO.g T [24] rfl ⟨fun h=>h,trivial⟩ rfl rfl ?_
 iterate 2 refine AO.g T [] rfl trivial rfl rfl ?_
 refine AO.d [26,27] rfl ⟨fun h=>h,fun h=>h,trivial⟩ (fun hg=>qEm T rfl rfl rfl rfl (hx10)) rfl ?_
 refine AO.g T [28] rfl ⟨fun h=>h,trivial⟩ rfl rfl ?_
 refine AO.d [25] rfl ⟨fun h=>h,trivial⟩ (fun hg=>zO rfl rfl rfl (by rw [hg];exact Bool.true_and _)) rfl ?_
 refine AO.w qFy ?_
 refine AO.n (AW.le (Le.ct 0 0 (σ':=(⟨[(0,.v (.string sA)),(3,v7),(31,.v (.bool ((decide ((b9.toNat:Int) < 65) || decide ((b9.toNat:Int) > 90)) && (decide ((b9.toNat:Int) < 48) || decide ((b9.toNat:Int) > 57)))))],[],35,[]⟩:St))) ?_)
 refine AW.c (b:=((decide ((b9.toNat:Int) < 65) || decide ((b9.toNat:Int) > 90)) && (decide ((b9.toNat:Int) < 48) || decide ((b9.toNat:Int) > 57)))) rfl (fun hc=>?_) (fun hc=>?_)
 replace hH:=condT hc hH
 refine AW.q (AW.r (AO.pu T ?_))
 refine AO.n (AW.t ?_)
 have hR:=zS hH;subst hR
 exact retQ.i [] rfl (.c (.c .v))
 replace hH:=condF hc hH
 refine AW.k (AW.r ?_)
 refine AO.pu T ?_
 refine AO.w aws ?_
 refine AO.pu T ?_
 refine AO.n ?_
 refine ⟨(k1,w64 (v7+1)),hH,Nat.lt_succ_self _,?_⟩
 exact Le.ct 0 0
 replace hH:=condF hc hH
 refine AW.exit (AW.q ?_)
 obtain ⟨x11,hx12,hH⟩:=zB hH
 refine AW.r (AO.p2 T ?_)
 refine AO.w (cVs (qAP _ _ _ _ (hx12))) ?_
 refine AO.pu T ?_
 refine AO.n (AW.t ?_)
 have hR:=zS hH;subst hR
 exact retQ.i [] rfl (.c (.c .v))

def qHK (family:Int):Option Bool :=
 (qAM family 0 4).bind fun x1 =>
 some x1
theorem qLo (family:Int) (r:Bool) (hH:qHK family=some r):qAE Tryz.prog 65 [family] (.v (.bool r)):=by
 refine fns T Tryz.func65 ?_
 refine AW.q (AW.r (AO.pu T ?_))
 refine AO.n (AW.q ?_)
 obtain ⟨x1,hx2,hH⟩:=zB hH
 refine AW.r (AO.pu T ?_)
 refine AO.w (cVs (qAP _ _ _ _ (hx2))) ?_
 refine AO.pu T ?_
 refine AO.n (AW.t ?_)
 have hR:=zS hH;subst hR
 exact retQ.i [] rfl (.c (.c .v))

def qCr (c:Code) (fuel:Nat):List Element→Nat→Option Bool
 | [],k13 =>
  some true
 | y14::ys15,k13 =>
  (qDB fuel y14.name).bind fun x40 =>
  (opt (!(!x40)) default (qHK y14.family)).bind fun x42 =>
  (opt (!((!x40) || (!x42))) default (qAM y14.level 0 4)).bind fun x44 =>
  (opt (!(((!x40) || (!x42)) || (!x44))) default (qAM y14.base 1 2000)).bind fun x46 =>
  cond ((((!x40) || (!x42)) || (!x44)) || (!x46))
   (some false)
   ((opt (decide ((k13:Int) > 0)) default (qAb c.elements (w64 ((k13:Int) - 1)))).bind fun x48 =>
   cond (decide ((k13:Int) > 0) && (!qL8 x48.name y14.name))
    (some false)
    (qCr c fuel ys15 (k13+1)))
def qFc (fuel:Nat) (c:Code):Option Bool :=
 (qAM (c.elements.length:Int) 1 24).bind fun x1 =>
 (opt (!((!x1) || ((c.limits.length:Int) != 5))) default (qDA c.limits 0 9)).bind fun x3 =>
 cond (((!x1) || ((c.limits.length:Int) != 5)) || (!x3))
  (some false)
  ((qAM c.repeats 1 3).bind fun x5 =>
  (opt (!(!x5)) default (qAM c.bonus 0 20)).bind fun x7 =>
  (opt (!((!x5) || (!x7))) default (qAM c.keeps 50 100)).bind fun x9 =>
  (opt (!(((!x5) || (!x7)) || (!x9))) default (qAM c.fall 0 500)).bind fun x11 =>
  cond ((((!x5) || (!x7)) || (!x9)) || (!x11))
   (some false)
   (qCr c fuel c.elements 0))
theorem qJy (fuel:Nat) (c:Code) (r:Bool) (hH:qFc fuel c=some r):qAE Tryz.prog 25 [.g (ze7 c)] (.v (.bool r)):=by
 refine fns T Tryz.func25 ?_
 refine AW.q (AW.r (AO.x (bxs T 1) ?_))
 refine AO.pu T ?_
 refine AO.n (AW.q (AW.q ?_))
 obtain ⟨x1,hx2,hH⟩:=zB hH
 obtain ⟨x3,hx4,hH⟩:=zB hH
 refine AW.r (AO.p2 T ?_)
 refine AO.w (qCC T) ?_
 refine AO.w (cVs (qAP _ _ _ _ (hx2))) ?_
 refine AO.p2 T ?_
 refine AO.g T [] rfl trivial rfl rfl ?_
 refine AO.g T [11] rfl ⟨fun h=>h,trivial⟩ rfl rfl ?_
 refine AO.d [12] rfl ⟨fun h=>h,trivial⟩ (fun hg=>zL T rfl rfl rfl) rfl ?_
 refine AO.g T [13] rfl ⟨fun h=>h,trivial⟩ rfl rfl ?_
 refine AO.w ors ?_
 refine AO.pu T ?_
 refine AO.g T [] rfl trivial rfl rfl ?_
 refine AO.g T [17] rfl ⟨fun h=>h,trivial⟩ rfl rfl ?_
 refine AO.d [18] rfl ⟨fun h=>h,trivial⟩ (fun hg=>zV rfl rfl rfl rfl (qF5 _ _ _ _ (qEA hx4 hg)) rfl) rfl ?_
 refine AO.g T [19] rfl ⟨fun h=>h,trivial⟩ rfl rfl ?_
 refine AO.w ors ?_
 refine AO.n (AW.c (b:=(((!x1) || ((c.limits.length:Int) != 5)) || (!x3))) rfl (fun hc=>?_) (fun hc=>?_))
 replace hH:=condT hc hH
 refine AW.q (AW.r (AO.pu T ?_))
 refine AO.n (AW.t ?_)
 have hR:=zS hH;subst hR
 exact retQ.i [] rfl (.c (.c .v))
 replace hH:=condF hc hH
 refine AW.k (AW.q (AW.q ?_))
 obtain ⟨x5,hx6,hH⟩:=zB hH
 obtain ⟨x7,hx8,hH⟩:=zB hH
 obtain ⟨x9,hx10,hH⟩:=zB hH
 obtain ⟨x11,hx12,hH⟩:=zB hH
 refine AW.r (AO.p2 T ?_)
 refine AO.w (cVs (qAP _ _ _ _ (hx6))) ?_
 refine AO.p2 T ?_
 refine AO.g T [] rfl trivial rfl rfl ?_
 refine AO.g T [27] rfl ⟨fun h=>h,trivial⟩ rfl rfl ?_
 refine AO.d [28] rfl ⟨fun h=>h,trivial⟩ (fun hg=>zV rfl rfl rfl rfl (qAP _ _ _ _ (qEA hx8 hg)) rfl) rfl ?_
 refine AO.g T [29] rfl ⟨fun h=>h,trivial⟩ rfl rfl ?_
 refine AO.w ors ?_
 refine AO.pu T ?_
 refine AO.g T [] rfl trivial rfl rfl ?_
 refine AO.g T [33] rfl ⟨fun h=>h,trivial⟩ rfl rfl ?_
 refine AO.d [34] rfl ⟨fun h=>h,trivial⟩ (fun hg=>zV rfl rfl rfl rfl (qAP _ _ _ _ (qEA hx10 hg)) rfl) rfl ?_
 refine AO.g T [35] rfl ⟨fun h=>h,trivial⟩ rfl rfl ?_
 refine AO.w ors ?_
 refine AO.pu T ?_
 refine AO.g T [] rfl trivial rfl rfl ?_
 refine AO.g T [39] rfl ⟨fun h=>h,trivial⟩ rfl rfl ?_
 refine AO.d [40] rfl ⟨fun h=>h,trivial⟩ (fun hg=>zV rfl rfl rfl rfl (qAP _ _ _ _ (qEA hx12 hg)) rfl) rfl ?_
 refine AO.g T [41] rfl ⟨fun h=>h,trivial⟩ rfl rfl ?_
 refine AO.w ors ?_
 refine AO.n (AW.le (Le.ct 0 0 (σ':=(⟨[(1,.p 1 0),(43,.v (.bool ((((!x5) || (!x7)) || (!x9)) || (!x11))))],[(1,.box [.s (List.map ze3 c.elements),.s (List.map ze0 c.limits),c.repeats,c.bonus,c.keeps,c.fall])],89,[]⟩:St))) ?_)
 refine AW.c (b:=((((!x5) || (!x7)) || (!x9)) || (!x11))) rfl (fun hc=>?_) (fun hc=>?_)
 replace hH:=condT hc hH
 refine AW.q (AW.r (AO.pu T ?_))
 refine AO.n (AW.t ?_)
 have hR:=zS hH;subst hR
 exact retQ.i [] rfl (.c (.c .v))
 replace hH:=condF hc hH
 refine AW.k (AW.q (AW.q ?_))
 refine AW.r (AO.p2 T ?_)
 refine AO.w (qCC T) ?_
 refine AO.pu T ?_
 refine AO.n (AW.b ?_)
 refine AW.loopS (fun s:Nat=>(⟨[(1,.p 1 0),(45,.s (List.map ze3 c.elements)),(46,(c.elements.length:Int)),(47,(s:Int))],[(1,.box [.s (List.map ze3 c.elements),.s (List.map ze0 c.limits),c.repeats,c.bonus,c.keeps,c.fall])],89,[]⟩:St)) (fun s=>s ≤ c.elements.length∧qCr c fuel (c.elements.drop s) s=some r) (fun s=>c.elements.length - s) 0 ⟨Nat.zero_le _,hH⟩ ?_ ?_
 exact Le.ct 0 0
 rintro k13 ⟨hk,hH⟩
 replace hH:qCr c fuel (c.elements.drop k13) k13=some r:=hH
 try dsimp only
 refine AW.boundM (t:=45) (l:=c.elements) rfl (fun hb17=>?_)
 rcases hd16:c.elements.drop k13 with _ | ⟨y14,ys15⟩
 rw [hd16,qCr] at hH
 have hlt18:=qAJ hd16
 refine AW.q (AW.r (AO.pu T ?_))
 refine AO.n (AW.q (AW.condF' (b:=decide ((k13:Int) < (c.elements.length:Int))) rfl (qEQ hlt18) ?_))
 refine AW.exit (AW.q (AW.r ?_))
 refine AO.pu T ?_
 refine AO.n (AW.t ?_)
 have hR:=zS hH;subst hR
 exact retQ.i [] rfl (.c (.c .v))
 rw [hd16,qCr] at hH
 have hlt18:=qAK hd16
 refine AW.q (AW.r (AO.pu T ?_))
 refine AO.n (AW.q (AW.condT' (b:=decide ((k13:Int) < (c.elements.length:Int))) rfl (qER hlt18) ?_))
 refine AW.k (AW.q ?_)
 refine AW.b (AW.q (AW.r ?_))
 refine AO.pu T ?_
 refine AO.w (ixs T (zgD hd16)) ?_
 refine AO.pu T (d:=.g [.v (.string y14.name),y14.family,y14.level,y14.base]) ?_
 refine AO.x (als T 4) ?_
 refine AO.pu T ?_
 refine AO.se T [.v (.string y14.name),y14.family,y14.level,y14.base] ?_
 refine AO.n (AW.q (AW.q ?_))
 obtain ⟨x40,hx41,hH⟩:=zB hH
 obtain ⟨x42,hx43,hH⟩:=zB hH
 obtain ⟨x44,hx45,hH⟩:=zB hH
 obtain ⟨x46,hx47,hH⟩:=zB hH
 refine AW.r (AO.p2 T ?_)
 refine AO.w (cVs (qGX fuel _ _ (hx41))) ?_
 refine AO.p2 T ?_
 refine AO.g T [] rfl trivial rfl rfl ?_
 refine AO.g T [57] rfl ⟨fun h=>h,trivial⟩ rfl rfl ?_
 refine AO.d [58] rfl ⟨fun h=>h,trivial⟩ (fun hg=>zV rfl rfl rfl rfl (qLo _ _ (qEA hx43 hg)) rfl) rfl ?_
 refine AO.g T [59] rfl ⟨fun h=>h,trivial⟩ rfl rfl ?_
 refine AO.w ors ?_
 refine AO.pu T ?_
 refine AO.g T [] rfl trivial rfl rfl ?_
 refine AO.g T [63] rfl ⟨fun h=>h,trivial⟩ rfl rfl ?_
 refine AO.d [64] rfl ⟨fun h=>h,trivial⟩ (fun hg=>zV rfl rfl rfl rfl (qAP _ _ _ _ (qEA hx45 hg)) rfl) rfl ?_
 refine AO.g T [65] rfl ⟨fun h=>h,trivial⟩ rfl rfl ?_
 refine AO.w ors ?_
 refine AO.pu T ?_
 refine AO.g T [] rfl trivial rfl rfl ?_
 refine AO.g T [69] rfl ⟨fun h=>h,trivial⟩ rfl rfl ?_
 refine AO.d [70] rfl ⟨fun h=>h,trivial⟩ (fun hg=>zV rfl rfl rfl rfl (qAP _ _ _ _ (qEA hx47 hg)) rfl) rfl ?_
 refine AO.g T [71] rfl ⟨fun h=>h,trivial⟩ rfl rfl ?_
 refine AO.w ors ?_
 refine AO.n (AW.le (Le.ct 0 0 (σ':=(⟨[(1,.p 1 0),(3,(k13:Int)),(4,.p 4 0),(45,.s (List.map ze3 c.elements)),(46,(c.elements.length:Int)),(47,(k13:Int)),(73,.v (.bool ((((!x40) || (!x42)) || (!x44)) || (!x46))))],[(1,.box [.s (List.map ze3 c.elements),.s (List.map ze0 c.limits),c.repeats,c.bonus,c.keeps,c.fall]),(4,.box [.v (.string y14.name),y14.family,y14.level,y14.base])],89,[]⟩:St))) ?_)
 refine AW.c (b:=((((!x40) || (!x42)) || (!x44)) || (!x46))) rfl (fun hc=>?_) (fun hc=>?_)
 replace hH:=condT hc hH
 refine AW.q (AW.r (AO.pu T ?_))
 refine AO.n (AW.t ?_)
 have hR:=zS hH;subst hR
 exact retQ.i [] rfl (.c (.c .v))
 replace hH:=condF hc hH
 refine AW.k (AW.q ?_)
 obtain ⟨x48,hx49,hH⟩:=zB hH
 refine AW.drawn 12 5 [] mix (by kernel_rfl) rfl ?_
 iterate 3 refine AD.pu T ?_
 refine AD.pureG T [] rfl trivial rfl rfl ?_
 refine AD.pureG T [77] rfl ⟨fun h=>h,trivial⟩ rfl rfl ?_
 refine AD.pureG T [] rfl trivial rfl rfl ?_
 refine AD.guard [79] rfl ⟨fun h=>h,trivial⟩ (fun hg=>zW rfl rfl rfl rfl) rfl ?_
 refine AD.guard [78,80] rfl ⟨fun h=>h,fun h=>h,trivial⟩ (fun hg=>zX T rfl rfl rfl rfl rfl (qEA hx49 hg) rfl) rfl ?_
 refine AD.pureG T [81] rfl ⟨fun h=>h,trivial⟩ rfl rfl ?_
 refine AD.pureG T [82] rfl ⟨fun h=>h,trivial⟩ rfl rfl ?_
 refine AD.pureG T [] rfl trivial rfl rfl ?_
 refine AD.pureG T [84] rfl ⟨fun h=>h,trivial⟩ rfl rfl ?_
 refine AD.nil (AO.g T [83,85] rfl ⟨fun h=>h,fun h=>h,trivial⟩ rfl rfl ?_)
 refine AO.w qFy ?_
 refine AO.n (AW.c (b:=(decide ((k13:Int) > 0) && (!qL8 x48.name y14.name))) rfl (fun hc=>?_) (fun hc=>?_))
 replace hH:=condT hc hH
 refine AW.q (AW.r (AO.pu T ?_))
 refine AO.n (AW.t ?_)
 have hR:=zS hH;subst hR
 exact retQ.i [] rfl (.c (.c .v))
 replace hH:=condF hc hH
 refine AW.k (AW.r ?_)
 refine AO.w (zR rfl rfl rfl rfl (zK hlt18 hb17)) ?_
 refine AO.pu T ?_
 refine AO.n ?_
 refine ⟨k13+1,⟨Nat.succ_le_of_lt hlt18,(by rw [zds hd16];exact hH)⟩,(by have:=hlt18;dsimp only;omega),?_⟩
 exact Le.ct 0 0

def qGo (fuel:Nat) (sA:ByteArray):Option Bool :=
 (qDB fuel sA).bind fun x1 =>
 some x1
theorem qNK (fuel:Nat) (sA:ByteArray) (r:Bool) (hH:qGo fuel sA=some r):qAE Tryz.prog 153 [.v (.string sA)] (.v (.bool r)):=by
 refine fns T Tryz.func153 ?_
 refine AW.q (AW.r (AO.pu T ?_))
 refine AO.n (AW.q ?_)
 obtain ⟨x1,hx2,hH⟩:=zB hH
 refine AW.r (AO.pu T ?_)
 refine AO.w (cVs (qGX fuel _ _ (hx2))) ?_
 refine AO.pu T ?_
 refine AO.n (AW.t ?_)
 have hR:=zS hH;subst hR
 exact retQ.i [] rfl (.c (.c .v))

def qCp (it:Item) (fuel:Nat):List ByteArray→Nat→Option Bool
 | [],k1 =>
  (qAM (it.names.length:Int) 1 3).bind fun x12 =>
  (opt (x12 && ((it.marks.length:Int) == (it.names.length:Int))) default (qDA it.marks 0 3)).bind fun x14 =>
  some ((x12 && ((it.marks.length:Int) == (it.names.length:Int))) && x14)
 | y2::ys3,k1 =>
  (qGo fuel y2).bind fun x16 =>
  cond (!x16)
   (some false)
   (qCp it fuel ys3 (k1+1))
def qIg (fuel:Nat) (it:Item):Option Bool :=
 qCp it fuel it.names 0
theorem qM3 (fuel:Nat) (it:Item) (r:Bool) (hH:qIg fuel it=some r):qAE Tryz.prog 120 [.g (ze2 it)] (.v (.bool r)):=by
 refine fns T Tryz.func120 ?_
 refine AW.q (AW.r (AO.x (bxs T 1) ?_))
 refine AO.pu T ?_
 refine AO.n (AW.q (AW.q ?_))
 refine AW.r (AO.p2 T ?_)
 refine AO.w (qCC T) ?_
 refine AO.pu T ?_
 refine AO.n (AW.b ?_)
 refine AW.loopS (fun s:Nat=>(⟨[(1,.p 1 0),(6,.s (List.map ze5 it.names)),(7,(it.names.length:Int)),(8,(s:Int))],[(1,.box [.s (List.map ze5 it.names),.s (List.map ze0 it.marks),.v (.bool it.late)])],34,[]⟩:St)) (fun s=>s ≤ it.names.length∧qCp it fuel (it.names.drop s) s=some r) (fun s=>it.names.length - s) 0 ⟨Nat.zero_le _,hH⟩ ?_ ?_
 exact Le.ct 0 0
 rintro k1 ⟨hk,hH⟩
 replace hH:qCp it fuel (it.names.drop k1) k1=some r:=hH
 try dsimp only
 refine AW.boundM (t:=6) (l:=it.names) rfl (fun hb5=>?_)
 rcases hd4:it.names.drop k1 with _ | ⟨y2,ys3⟩
 rw [hd4,qCp] at hH
 have hlt6:=qAJ hd4
 refine AW.q (AW.r (AO.pu T ?_))
 refine AO.n (AW.q (AW.condF' (b:=decide ((k1:Int) < (it.names.length:Int))) rfl (qEQ hlt6) ?_))
 refine AW.exit (AW.q ?_)
 obtain ⟨x12,hx13,hH⟩:=zB hH
 obtain ⟨x14,hx15,hH⟩:=zB hH
 refine AW.r (AO.p2 T ?_)
 refine AO.w (qCC T) ?_
 refine AO.w (cVs (qAP _ _ _ _ (hx13))) ?_
 refine AO.pu T ?_
 refine AO.g T [] rfl trivial rfl rfl ?_
 refine AO.g T [21] rfl ⟨fun h=>h,trivial⟩ rfl rfl ?_
 refine AO.d [22] rfl ⟨fun h=>h,trivial⟩ (fun hg=>zL T rfl rfl rfl) rfl ?_
 refine AO.g T [] rfl trivial rfl rfl ?_
 refine AO.g T [24] rfl ⟨fun h=>h,trivial⟩ rfl rfl ?_
 refine AO.d [25] rfl ⟨fun h=>h,trivial⟩ (fun hg=>zL T rfl rfl rfl) rfl ?_
 refine AO.g T [23,26] rfl ⟨fun h=>h,fun h=>h,trivial⟩ rfl rfl ?_
 refine AO.w qFy ?_
 refine AO.pu T ?_
 refine AO.g T [] rfl trivial rfl rfl ?_
 refine AO.g T [30] rfl ⟨fun h=>h,trivial⟩ rfl rfl ?_
 refine AO.d [31] rfl ⟨fun h=>h,trivial⟩ (fun hg=>zV rfl rfl rfl rfl (qF5 _ _ _ _ (qEA hx15 hg)) rfl) rfl ?_
 refine AO.w qFy ?_
 refine AO.pu T ?_
 refine AO.n (AW.t ?_)
 have hR:=zS hH;subst hR
 exact retQ.i [] rfl (.c (.c .v))
 rw [hd4,qCp] at hH
 have hlt6:=qAK hd4
 refine AW.q (AW.r (AO.pu T ?_))
 refine AO.n (AW.q (AW.condT' (b:=decide ((k1:Int) < (it.names.length:Int))) rfl (qER hlt6) ?_))
 refine AW.k (AW.q ?_)
 refine AW.b (AW.q (AW.r ?_))
 refine AO.w (ixs T (zgD hd4)) ?_
 refine AO.p2 T ?_
 refine AO.n (AW.q ?_)
 obtain ⟨x16,hx17,hH⟩:=zB hH
 refine AW.r (AO.pu T ?_)
 refine AO.w (cVs (qNK fuel _ _ (hx17))) ?_
 refine AO.pu T ?_
 refine AO.n (AW.c (b:=(!x16)) rfl (fun hc=>?_) (fun hc=>?_))
 replace hH:=condT hc hH
 refine AW.q (AW.r (AO.pu T ?_))
 refine AO.n (AW.t ?_)
 have hR:=zS hH;subst hR
 exact retQ.i [] rfl (.c (.c .v))
 replace hH:=condF hc hH
 refine AW.k (AW.r ?_)
 refine AO.w (zR rfl rfl rfl rfl (zK hlt6 hb5)) ?_
 refine AO.pu T ?_
 refine AO.n ?_
 refine ⟨k1+1,⟨Nat.succ_le_of_lt hlt6,(by rw [zds hd4];exact hH)⟩,(by have:=hlt6;dsimp only;omega),?_⟩
 exact Le.ct 0 0

end Go.Proofs.YtpmgadenilnabaaGreat

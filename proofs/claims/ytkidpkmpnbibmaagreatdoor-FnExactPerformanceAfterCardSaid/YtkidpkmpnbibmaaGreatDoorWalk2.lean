/- The walk, part 2: what each function reached by the law FnExactPerformanceAfter computes. No condition. -/
import Derived.Test.YtkidpkmpnbibmaaGreatDoorWalk1
set_option maxRecDepth 4000
set_option maxHeartbeats 1000000
set_option linter.unusedVariables false
set_option linter.unusedSimpArgs false
set_option linter.unusedSectionVars false
namespace Go.Proofs.YtkidpkmpnbibmaaGreatDoor
open Go.AM Tryz
def qAW (w:List aa) (signed:Bool) (fl:Nat):List aa->Nat->ac->Option ((ac×Bool))
 | [],k1,v28 =>
  some (v28,true)
 |y2::ys3,k1,v28 =>
  (qHO fl y2).bind fun x30 =>
  (qDN fl y2).bind fun x32 =>
  cond (decide (x32>=0))
   (cond (decide (x32>9999)||decide (x32<(-9999)))
    (some ([],false))
    ((qAq (qAi 8 (v28.length+([x32]).length))).bind fun u34 =>
    qAW w signed fl ys3 (k1+1) (v28++[x32])))
   ((opt (!(((!signed)||decide ((k1:Int)<(w64 ((w.length:Int)-1))))||decide (x30>=0))) default (qDZ fl x30)).bind fun x36 =>
   cond ((((!signed)||decide ((k1:Int)<(w64 ((w.length:Int)-1))))||decide (x30>=0))||(!decide (x36=y2)))
    (some ([],false))
    (cond (decide (x30>9999)||decide (x30<(-9999)))
     (some ([],false))
     ((qAq (qAi 8 (v28.length+([x30]).length))).bind fun u38 =>
     qAW w signed fl ys3 (k1+1) (v28++[x30]))))
def qCr (fl:Nat) (w:List aa) (signed:Bool):Option (ac×Bool) :=
 qAW w signed fl w 0 []
theorem qH1 (fl:Nat) (w:List aa) (signed:Bool) (r:(ac×Bool)) (hH:qCr fl w signed=some r):qAC prog 106 [.s (List.map ze2 w),.v (.bool signed)] (.t [.w 1 (r.1.map ze0),.v (.bool r.2)]):=by
 refine fns T func106 ?_
 refine go ?_
 refine AW.loopS (fun s:Nat×(ac)=>(⟨[(0,sv ze2 w),(1,.v (.bool signed)),(6,.R 6),(10,sv ze2 w),(11,(w.length:Int)),(12,(s.1:Int))],[(6,ro 1 ze0 s.2)],55,[]⟩:St)) (fun s=>s.1<=w.length/\qAW w signed fl (w.drop s.1) s.1 s.2=some r) (fun s=>w.length-s.1) (0,[]) ⟨Nat.zero_le _,hH⟩ ?_ ?_
 refine Le.trans (Le.void 6 6 1 rfl rfl) ?_
 exact Le.ct 0 0
 rintro⟨k1,v28⟩ ⟨hk,hH⟩
 try dsimp only at hH⊢
 refine AW.boundM (t:=0) (l:=w) rfl (fun hb5=>?_)
 rcases hd4:w.drop k1 with _|⟨y2,ys3⟩
 rw[hd4,qAW]at hH
 have hlt6:=qAF hd4
 refine go ?_
 exact fin
 rw[hd4,qAW]at hH
 have hlt6:=qAG hd4
 refine go ?_
 obtain⟨x30,hx31,hH⟩:=zB hH
 refine go ?_
 refine AO.w (cVs (qOc fl _ _ (hx31))) (go ?_)
 obtain⟨x32,hx33,hH⟩:=zB hH
 refine go ?_
 refine AO.w (cVs (qIH fl _ _ (hx33))) (go ?_)
 refine AW.cH hH (fun hc hH=>?_) (fun hc hH=>?_)
 refine go ?_
 refine AO.w (cVs (qIH fl _ _ (hx33))) (go ?_)
 refine AO.g0 T ?_
 refine AO.g1 T 46 ?_
 refine go ?_
 refine AW.cH hH (fun _ hH=>?_) (fun hc hH=>?_)
 refine go ?_
 exact fin
 refine AW.k ?_
 obtain⟨u34,hx35,hH⟩:=zB hH
 refine go ?_
 refine AO.x (mks T 9 ze0 ([x32])) ?_
 refine AO.x (rvs T 10 (hfit:=by exact qAP (hx35))) ?_
 refine gs2 ?_
 refine AW.le (Le.ct 0 0 (σ':=(⟨[(0,sv ze2 w),(1,.v (.bool signed)),(6,.R 10),(10,sv ze2 w),(11,(w.length:Int)),(12,(k1:Int))],[(10,ro 1 ze0 (v28++[x32]))],55,[]⟩:St))) ?_
 refine go ?_
 refine⟨(k1+1,(v28++[x32])),⟨hlt6,(zds hd4▸hH)⟩,qBl hlt6,?_⟩
 exact Le.ct 10 6
 refine AW.q ?_
 obtain⟨x36,hx37,hH⟩:=zB hH
 refine go ?_
 refine AO.g0 T ?_
 refine AO.g0 T ?_
 refine AO.d1 28 (fun hg=>qMi T) ?_
 refine AO.d1 29 (fun hg=>aws) ?_
 refine AO.g2 T 27 30 ?_
 refine go ?_
 refine AO.g0 T ?_
 refine AO.g1 T 34 ?_
 refine go ?_
 refine AO.g0 T ?_
 refine AO.d1 38 (fun hg=>cVs (qHV fl _ _ (qE9 hx37 hg))) ?_
 refine AO.g0 T ?_
 refine AO.g2 T 39 40 ?_
 refine gs2 ?_
 refine AW.le (Le.ct 0 0 (σ':=(⟨[(0,sv ze2 w),(1,.v (.bool signed)),(6,.R 6),(9,x30),(10,sv ze2 w),(11,(w.length:Int)),(12,(k1:Int)),(42,.v (.bool ((((!signed)||decide ((k1:Int)<(w64 ((w.length:Int)-1))))||decide (x30>=0))||(!decide (x36=y2)))))],[(6,ro 1 ze0 v28)],55,[]⟩:St))) ?_
 refine AW.cH hH (fun _ hH=>?_) (fun hc hH=>?_)
 refine go ?_
 exact fin
 refine go ?_
 refine AO.g0 T ?_
 refine AO.g1 T 46 ?_
 refine go ?_
 refine AW.cH hH (fun _ hH=>?_) (fun _ hH=>?_)
 refine go ?_
 exact fin
 refine AW.k ?_
 obtain⟨u38,hx39,hH⟩:=zB hH
 refine go ?_
 refine AO.x (mks T 11 ze0 ([x30])) ?_
 refine AO.x (rvs T 12 (hfit:=by exact qAP (hx39))) (go ?_)
 refine⟨(k1+1,(v28++[x30])),⟨hlt6,(zds hd4▸hH)⟩,qBl hlt6,?_⟩
 exact Le.ct 12 6
def qHd (l:List Item) (item:Int) (name:Int):ad :=
 (qAa item 0 (w64 ((l.length:Int)-1))).bind fun x1 =>
 (opt x1 default (qAT l item)).bind fun x3 =>
 (opt x1 default (qAa name 0 (w64 ((x3.names.length:Int)-1)))).bind fun x5 =>
 some (x1&&x5)
theorem qQE (l:List Item) (item:Int) (name:Int) (r:Bool) (hH:qHd l item name=some r):qAC prog 205 [.s (List.map ze3 l),item,name] (.v (.bool r)):=by
 refine fns T func205 ?_
 refine go ?_
 obtain⟨x1,hx2,x3,hx4,x5,hx6,hH⟩:=qBC hH
 refine go ?_
 refine AO.w (cVs (qAc _ _ _ _ (hx2))) ?_
 refine AO.pu T ?_
 refine AO.g0 T ?_
 refine AO.g0 T ?_
 refine AO.g0 T ?_
 refine AO.d2 14 15 (fun hg=>ixs T (qE9 hx4 hg)) ?_
 refine AO.g1 T 16 ?_
 refine AO.g1 T 17 ?_
 refine AO.d1 18 (fun hg=>qMi T) ?_
 refine AO.d1 19 (fun hg=>aws) ?_
 refine AO.d2 13 20 (fun hg=>cVs (qAc _ _ _ _ (qE9 hx6 hg))) ?_
 refine go ?_
 exact fin
def qDA (fl:Nat) (x:CsState) (n:ac) (mark:Int):Option (CsState×aa) :=
 (qAT n 0).bind fun x1 =>
 (qAT n 1).bind fun x3 =>
 (qHd x.p.items x1 x3).bind fun x5 =>
 cond (!x5)
  (some (x,(⟨#[110,111]⟩:aa)))
  ((qAY x.p x.p.items).bind fun x7 =>
  (qAT x7.items x1).bind fun x9 =>
  (qAT x9.marks x3).bind fun x11 =>
  (qAN fl x x.code (Performance.mk (x7.items.set x1.toNat (Item.mk x9.names (x9.marks.set x3.toNat mark) x9.late)) x7.marks x7.slips)).bind fun x13 =>
  some (x13.1,x13.2))
theorem qL6 (fl:Nat) (x:CsState) (n:ac) (mark:Int) (r:(CsState×aa)) (hH:qDA fl x n mark=some r):qFe prog 141 [.pn (qGH x),.s (List.map ze0 n),mark] [.pn (qGH r.1),.u,.u] (.v (.string r.2)):=by
 refine qFh T func141 rfl (by decide) rfl rfl [.p 1 0,sv ze0 n,mark] [(1,.box (qF2 x 2 3)),(3,ro 1 ze0 x.what),(2,ro 1 ze0 x.no)] 4 (by kernel_rfl) [1] rfl rfl ?_
 intro L
 show AW _ _ _ (⟨[(0,.p 1 0),(1,sv ze0 n),(2,mark)],[(1,.box (qF2 x 2 3)),(3,ro 1 ze0 x.what),(2,ro 1 ze0 x.no)],51,[(1,L 1)]⟩:St)
 refine go ?_
 obtain⟨x1,hx2,x3,hx4,x5,hx6,hH⟩:=qBC hH
 refine AW.drawn 11 4 [] mix (by kernel_rfl) rfl ?_
 refine go ?_
 refine AO.w (cVs (qQE _ _ _ _ (hx6))) (go ?_)
 refine AW.cH hH (fun _ hH=>?_) (fun _ hH=>?_)
 refine go ?_
 exact qEa
 refine go ?_
 obtain⟨x7,hx8,hH⟩:=zB hH
 refine AW.drawn 11 4 [] mix (by kernel_rfl) rfl ?_
 refine go ?_
 refine AD.q (FStep.call rfl rfl rfl rfl rfl (qFq _ _ _ (hx8)) rfl rfl) (qAu _ _) (qC5 _ _) rfl ?_
 refine AD.q (FStep.alloc T rfl rfl rfl rfl rfl rfl) (by simp[qA1]) (Nat.le_succ _) rfl ?_
 refine AD.nil (AO.se T [.R 4,.R 5,.R 6,x7.slips.falls,x7.slips.seconds,x7.slips.other] ?_)
 refine AO.n (AW.le (Le.ct 0 0 (σ':=(⟨[(0,.p 1 0),(1,sv ze0 n),(2,mark),(7,.p 7 0)],[(1,.box (qF2 x 2 3)),(2,ro 1 ze0 x.no),(3,ro 1 ze0 x.what),(4,ro 3 ze6 x7.items),(5,ro 1 ze1 x7.marks.grades),(6,ro 1 ze1 x7.marks.components),(7,.box [.R 4,.R 5,.R 6,x7.slips.falls,x7.slips.seconds,x7.slips.other])],51,[(1,L 1)]⟩:St)) (hpin:=⟨⟨rfl,rfl⟩,trivial⟩)) ?_)
 refine AW.q ?_
 obtain⟨x9,hx10,x11,hx12,hH⟩:=qAH hH
 refine AW.le (Le.openM 4 x1.toNat 1 8 rfl (zgG (hx10)) rfl rfl) ?_
 refine AW.drawn 12 9 [] mix (by kernel_rfl) rfl ?_
 refine go ?_
 refine AD.vv (qCq T rfl rfl rfl rfl rfl rfl (hx10)) ?_
 refine AD.pu T ?_
 refine AD.vv (qBV T rfl rfl rfl rfl rfl) ?_
 refine go ?_
 refine AO.x (zSr T rfl rfl rfl rfl rfl (zgG (hx12)) rfl rfl rfl rfl (u':=mark) rfl rfl) ?_
 refine AO.le (Le.closeM 4 x1.toNat 1 8 rfl rfl (zgG (hx10)) rfl (u':=(Item.mk x9.names (x9.marks.set x3.toNat mark) x9.late)) rfl) ?_
 refine go ?_
 obtain⟨x13,hx14,hH⟩:=zB hH
 refine AW.le (Le.fM 4 (g:=ze3) rfl (fun y=>qCJ y)) ?_
 refine AW.le (Le.fM 5 (g:=ze5) rfl (fun y=>qAR y)) ?_
 refine AW.le (Le.fM 6 (g:=ze5) rfl (fun y=>qAR y)) ?_
 refine AW.drawn 6 9 [] mix (by kernel_rfl) rfl ?_
 refine go ?_
 refine AO.x (qAd (qF2 x13.1 9 10) [(10,ro 1 ze0 x13.1.what),(9,ro 1 ze0 x13.1.no)] 11 (by kernel_rfl) rfl 9 rfl rfl rfl rfl (es:=[.pn (qGH x),.g (ze4 x.code),.g (ze8 (Performance.mk (x7.items.set x1.toNat (Item.mk x9.names (x9.marks.set x3.toNat mark) x9.late)) x7.marks x7.slips))]) (us:=[.u,.u]) (cs:=qGH x13.1) (ids:=[1,2,3]) (by exact zG (.pb rfl (qA4 rfl rfl)) (zG (.g (zC .s (zC .s (zC .v (zC .v (zC .v (zC .v (zCn)))))))) (zG (.g (zC .s (zC .s (zC .s (zC .v (zC .v (zC .v (zCn)))))))) (zGn)))) (by decide) (by decide) (qBG fl _ _ _ _ (hx14)) rfl rfl (by rfl) rfl) (go ?_)
 exact qEa
def qAK (x:CsState) (w:List aa) (fl:Nat) (x3:(ac×Bool)):List aa->Nat->Option ((CsState×aa))
 | [],k7 =>
  some (x,(⟨#[119,104,97,116]⟩:aa))
 |y8::ys9,k7 =>
  (opt x3.2 default (qAT w 2)).bind fun x22 =>
  cond (x3.2&&decide (y8=x22))
   ((qDA fl x x3.1 (k7:Int)).bind fun x24 =>
   some (x24.1,x24.2))
   (qAK x w fl x3 ys9 (k7+1))
def qBi (fl:Nat) (x:CsState) (w:List aa):Option (CsState×aa) :=
 cond ((w.length:Int) != 3)
  (some (x,(⟨#[119,104,97,116]⟩:aa)))
  ((qFw w 2).bind fun x1 =>
  (qCr fl x1 false).bind fun x3 =>
  (qJh ).bind fun x5 =>
  qAK x w fl x3 x5 0)
theorem qKB (fl:Nat) (x:CsState) (w:List aa) (r:(CsState×aa)) (hH:qBi fl x w=some r):qFe prog 105 [.pn (qGH x),.s (List.map ze2 w)] [.pn (qGH r.1),.u] (.v (.string r.2)):=by
 refine qFh T func105 rfl (by decide) rfl rfl [.p 1 0,sv ze2 w] [(1,.box (qF2 x 2 3)),(3,ro 1 ze0 x.what),(2,ro 1 ze0 x.no)] 4 (by kernel_rfl) [1] rfl rfl ?_
 intro L
 show AW _ _ _ (⟨[(0,.p 1 0),(1,sv ze2 w)],[(1,.box (qF2 x 2 3)),(3,ro 1 ze0 x.what),(2,ro 1 ze0 x.no)],38,[(1,L 1)]⟩:St)
 iterate 11 refine gs ?_
 refine AW.cH hH (fun _ hH=>?_) (fun hc hH=>?_)
 refine gs5 ?_
 exact qEa
 refine gs2 ?_
 obtain⟨x1,hx2,x3,hx4,hH⟩:=qAH hH
 refine gs2 ?_
 refine AO.w (qEL T rfl rfl rfl rfl rfl (hx2) (fun _=>rfl)) ?_
 refine AO.x (qAV rfl 4 rfl rfl rfl (qH1 fl _ _ _ (hx4)) rfl rfl rfl) ?_
 refine gs8 ?_
 obtain⟨x5,hx6,hH⟩:=zB hH
 refine AW.r (AO.x (qAV rfl 5 rfl rfl rfl (qLU _ (hx6)) rfl rfl rfl) ?_)
 refine gs4 ?_
 refine AW.loopS (fun s:Nat=>(⟨[(0,.p 1 0),(1,sv ze2 w),(5,.R 4),(6,.v (.bool x3.2)),(18,.R 5),(19,(x5.length:Int)),(20,(s:Int))],[(1,.box (qF2 x 2 3)),(2,ro 1 ze0 x.no),(3,ro 1 ze0 x.what),(4,ro 1 ze0 x3.1),(5,ro 1 ze2 x5)],38,[(1,L 1)]⟩:St)) (fun s=>s<=x5.length/\qAK x w fl x3 (x5.drop s) s=some r) (fun s=>x5.length-s) 0 ⟨Nat.zero_le _,hH⟩ ?_ ?_
 exact Le.ct 0 0 (hpin:=⟨⟨rfl,rfl⟩,trivial⟩)
 rintro k7 ⟨hk,hH⟩
 try dsimp only at hH⊢
 refine AW.boundR (id:=5) (l:=x5) rfl (fun hb11=>?_)
 rcases hd10:x5.drop k7 with _|⟨y8,ys9⟩
 rw[hd10,qAK]at hH
 have hlt12:=qAF hd10
 iterate 12 refine gs ?_
 exact qEa
 rw[hd10,qAK]at hH
 have hlt12:=qAG hd10
 iterate 13 refine gs ?_
 refine AO.w (zLr T rfl rfl rfl rfl (zgG (zgD hd10)) rfl rfl rfl) ?_
 refine gs4 ?_
 obtain⟨x22,hx23,hH⟩:=zB hH
 refine gs3 ?_
 refine AO.g0 T ?_
 refine AO.g0 T ?_
 refine AO.d1 28 (fun hg=>ixs T (qE9 hx23 hg)) ?_
 refine AO.g1 T 29 ?_
 refine AO.g2 T 27 30 ?_
 refine gs2 ?_
 refine AW.cH hH (fun _ hH=>?_) (fun _ hH=>?_)
 refine AW.q ?_
 obtain⟨x24,hx25,hH⟩:=zB hH
 refine AW.le (Le.fM 4 (g:=ze0) rfl (fun y=>.vs rfl)) ?_
 refine gs4 ?_
 refine AO.x (qAd (qF2 x24.1 10 11) [(11,ro 1 ze0 x24.1.what),(10,ro 1 ze0 x24.1.no)] 12 (by kernel_rfl) rfl 10 rfl rfl rfl rfl (es:=[.pn (qGH x),.s (x3.1.map ze0),.v (.int .i64 (k7:Int))]) (us:=[.u,.u]) (cs:=qGH x24.1) (ids:=[1,2,3]) (by exact zG (.pb rfl (qA4 rfl rfl)) (zG (.c .s) (zG (.c .v) (zGn)))) (by decide) (by decide) (qL6 fl _ _ _ _ (hx25)) rfl rfl (by rfl) rfl) ?_
 refine gs3 ?_
 exact qEa
 refine gs5 ?_
 refine⟨k7+1,⟨hlt12,(zds hd10▸hH)⟩,qBl hlt12,?_⟩
 exact Le.ct 0 0 (hpin:=⟨⟨rfl,rfl⟩,trivial⟩)
def qFQ (c:Code):Option Code :=
 (qAq (qAi 40 c.elements.length)).bind fun u1 =>
 (qFO c.limits).bind fun x3 =>
 some (Code.mk c.elements x3 c.repeats c.bonus c.keeps c.fall)
theorem qMx (c:Code) (r:Code) (hH:qFQ c=some r):qAC prog 208 [.g (ze4 c)] (.g (qO0 r)):=by
 refine fns T func208 ?_
 refine go ?_
 refine AO.x (bxs T 1) ?_
 refine AO.x (als T 2) (go ?_)
 obtain⟨u1,hx2,x3,hx4,hH⟩:=qAH hH
 refine AW.drawn 15 3 [] mix (by kernel_rfl) rfl ?_
 refine AD.v (FStep.mk0 T rfl rfl rfl rfl rfl) ?_
 refine go ?_
 refine AD.q (FStep.app_ws T rfl rfl rfl rfl rfl rfl rfl (by decide) (by decide) rfl rfl (fun _=>rfl) (qAP (hx2)) rfl) (by simp[qA1]) (Nat.le_succ _) rfl ?_
 refine go ?_
 refine AD.q (FStep.call rfl rfl rfl rfl rfl (qI0 _ _ (hx4)) rfl rfl) (qAu _ _) (qC5 _ _) rfl ?_
 refine go ?_
 refine AO.se T [.R 3,.R 4,c.repeats,c.bonus,c.keeps,c.fall] ?_
 refine go ?_
 exact fin
def qMd (fl:Nat) (c:Code):Option (Code×Bool) :=
 (qDO fl c).bind fun x1 =>
 cond (!x1)
  (some ((Code.mk [] [] 0 0 0 0),false))
  (some (c,true))
theorem qRm (fl:Nat) (c:Code) (r:(Code×Bool)) (hH:qMd fl c=some r):qAC prog 209 [.g (ze4 c)] (.t [.g (ze4 r.1),.v (.bool r.2)]):=by
 refine fns T func209 ?_
 refine go ?_
 refine AO.x (bxs T 1) ?_
 refine AO.x (als T 2) (go ?_)
 obtain⟨x1,hx2,hH⟩:=zB hH
 refine go ?_
 refine AO.w (cVs (qJj fl _ _ (hx2))) (go ?_)
 refine AW.cH hH (fun _ hH=>?_) (fun _ hH=>?_)
 refine go ?_
 refine AO.se T [.w 0 [],.w 0 [],(0:Int),(0:Int),(0:Int),(0:Int)] ?_
 refine go ?_
 exact fin
 refine go ?_
 refine AO.se T [sv ze7 c.elements,sv ze0 c.limits,c.repeats,c.bonus,c.keeps,c.fall] ?_
 refine go ?_
 exact fin
def qBu (c:Code) (x:Element):Nat->Int->Option Int
 |0,_=>none
 |k17+1,v23 =>
  (opt (decide (v23<(c.elements.length:Int))) default (qAT c.elements v23)).bind fun x25 =>
  cond (decide (v23<(c.elements.length:Int))&&(qND x25.name x.name))
   (qBu c x k17 (w64 (v23+1)))
   (some v23)
def qFI (fl:Nat) (c:Code) (x:Element):Option (Code×Bool) :=
 (qDO fl c).bind fun x1 =>
 cond (!x1)
  (some ((Code.mk [] [] 0 0 0 0),false))
  ((qFQ c).bind fun x3 =>
  (qBu c x fl 0).bind fun v14 =>
  (qFw c.elements v14).bind fun x27 =>
  (qAq (qAi 40 x27.length)).bind fun u29 =>
  (qAq (qAi 40 (x27.length+([x]).length))).bind fun u31 =>
  (qDC c.elements v14).bind fun x33 =>
  (qAq (qAi 40 (((x27++[x])).length+x33.length))).bind fun u35 =>
  (qMd fl (Code.mk ((x27++[x])++x33) x3.limits x3.repeats x3.bonus x3.keeps x3.fall)).bind fun x37 =>
  some (x37.1,x37.2))
theorem qNB (fl:Nat) (c:Code) (x:Element) (r:(Code×Bool)) (hH:qFI fl c x=some r):qAC prog 144 [.g (ze4 c),.g (ze7 x)] (.t [.g (ze4 r.1),.v (.bool r.2)]):=by
 refine fns T func144 ?_
 refine AW.q (AW.r (AO.x (bxs T 1) ?_))
 refine AO.x (bxs T 2) ?_
 refine AO.x (als T 3) ?_
 refine AO.pu T ?_
 refine AO.n (AW.q (AW.q ?_))
 obtain⟨x1,hx2,hH⟩:=zB hH
 refine AW.r (AO.pu T (d:=.g (ze4 c)) ?_)
 refine AO.w (cVs (qJj fl _ _ (hx2))) ?_
 refine AO.pu T ?_
 refine AO.n (AW.c (b:=(!x1)) rfl (fun hc=>?_) (fun hc=>?_))
 replace hH:=condT hc hH
 refine AW.q (AW.r (AO.pu T (d:=.g [.w 0 [],.w 0 [],(0:Int),(0:Int),(0:Int),(0:Int)]) ?_))
 refine AO.se T [.w 0 [],.w 0 [],(0:Int),(0:Int),(0:Int),(0:Int)] ?_
 refine AO.pu T ?_
 refine AO.n (AW.t ?_)
 have hR:=zS hH;subst hR
 exact retQ.i [] rfl (.t (zG (.g (zC .nilS (zC .nilS (zC .v (zC .v (zC .v (zC .v (zCn)))))))) (zG (.c .v) (zGn))))
 replace hH:=condF hc hH
 refine AW.k (AW.q ?_)
 obtain⟨x3,hx4,hH⟩:=zB hH
 refine AW.r (AO.pu T (d:=.g (ze4 c)) ?_)
 refine AO.x (qAV rfl 4 rfl rfl rfl (qMx _ _ (hx4)) rfl rfl rfl) ?_
 refine AO.x (als T 6) ?_
 refine AO.se T [.R 4,.R 5,x3.repeats,x3.bonus,x3.keeps,x3.fall] ?_
 refine AO.n (AW.q (AW.r ?_))
 refine AO.pu T ?_
 refine AO.n ?_
 obtain⟨o15,hH,hK16⟩:=zB hH
 refine AW.seqJ (fun s:Int=>(⟨[(2,.p 1 0),(3,.p 2 0),(4,.p 3 0),(6,.p 6 0),(7,s)],[(1,.box (ze4 c)),(2,.box (ze7 x)),(3,.box [.w 0 [],.w 0 [],(0:Int),(0:Int),(0:Int),(0:Int)]),(4,.row 4 (List.map ze7 x3.elements)),(5,.row 1 (List.map ze0 x3.limits)),(6,.box [.R 4,.R 5,x3.repeats,x3.bonus,x3.keeps,x3.fall])],51,[]⟩:St)) (fun s=>s=o15) ?_ ?_
 refine AW.b (AW.loopS (fun s:Nat×Int=>(⟨[(2,.p 1 0),(3,.p 2 0),(4,.p 3 0),(6,.p 6 0),(7,s.2)],[(1,.box (ze4 c)),(2,.box (ze7 x)),(3,.box [.w 0 [],.w 0 [],(0:Int),(0:Int),(0:Int),(0:Int)]),(4,.row 4 (List.map ze7 x3.elements)),(5,.row 1 (List.map ze0 x3.limits)),(6,.box [.R 4,.R 5,x3.repeats,x3.bonus,x3.keeps,x3.fall])],51,[]⟩:St)) (fun s=>qBu c x s.1 s.2=some o15) (fun s=>s.1) (fl,0) hH ?_ ?_)
 exact Le.ct 0 0
 rintro⟨k17,v23⟩ hH
 replace hH:qBu c x k17 v23=some o15:=hH
 try dsimp only
 rcases k17 with _|k17
 cases (show none=some _ from hH)
 rw[qBu]at hH
 refine AW.q (AW.q ?_)
 obtain⟨x25,hx26,hH⟩:=zB hH
 refine AW.drawn 14 7 [] mix (by kernel_rfl) rfl ?_
 iterate 3 refine AD.pu T ?_
 refine AD.vv (qMi T) ?_
 iterate 2 refine AD.pu T ?_
 refine AD.pureG T [] rfl trivial rfl rfl ?_
 refine AD.pureG T [20] rfl ⟨fun h=>h,trivial⟩ rfl rfl ?_
 refine AD.pureG T [] rfl trivial rfl rfl ?_
 refine AD.guard [21,22] rfl ⟨fun h=>h,fun h=>h,trivial⟩ (fun hg=>zX T rfl rfl rfl rfl rfl (qE9 hx26 hg) rfl) rfl ?_
 refine AD.pureG T [23] rfl ⟨fun h=>h,trivial⟩ rfl rfl ?_
 refine AD.pureG T [24] rfl ⟨fun h=>h,trivial⟩ rfl rfl ?_
 refine AD.pureG T [] rfl trivial rfl rfl ?_
 refine AD.pureG T [26] rfl ⟨fun h=>h,trivial⟩ rfl rfl ?_
 refine AD.nil (AO.g T [25,27] rfl ⟨fun h=>h,fun h=>h,trivial⟩ rfl rfl ?_)
 refine AO.w qZY ?_
 refine AO.n (AW.c (b:=(decide (v23<(c.elements.length:Int))&&(qND x25.name x.name))) rfl (fun hc=>?_) (fun hc=>?_))
 replace hH:=condT hc hH
 refine AW.k (AW.b ?_)
 refine AW.r (AO.pu T ?_)
 refine AO.w aws ?_
 refine AO.pu T ?_
 refine AO.n ?_
 refine⟨(k17,w64 (v23+1)),hH,Nat.lt_succ_self _,?_⟩
 exact Le.ct 0 0
 replace hH:=condF hc hH
 refine AW.exit ?_
 refine⟨_,zS hH,?_⟩
 exact Le.ct 0 0
 rintro v14 hs
 subst hs
 replace hH:=hK16
 try dsimp only[qLW,qJg]at hH
 try dsimp only
 refine AW.q ?_
 obtain⟨x27,hx28,hH⟩:=zB hH
 obtain⟨u29,hx30,hH⟩:=zB hH
 obtain⟨u31,hx32,hH⟩:=zB hH
 obtain⟨x33,hx34,hH⟩:=zB hH
 obtain⟨u35,hx36,hH⟩:=zB hH
 refine AW.drawn 13 7 [] mix (by kernel_rfl) rfl ?_
 refine AD.v (FStep.mk0 T rfl rfl rfl rfl rfl) ?_
 iterate 3 refine AD.pu T ?_
 refine AD.vv (qEL T rfl rfl rfl rfl rfl (hx28) (fun _=>rfl)) ?_
 refine AD.q (FStep.app_ws T rfl rfl rfl rfl rfl rfl rfl (by decide) (by decide) rfl rfl (fun _=>rfl) (qAP (hx30)) rfl) (by simp[qA1]) (Nat.le_succ _) rfl ?_
 refine AD.p T (d:=.g (ze7 x)) rfl rfl rfl ?_
 refine AD.q (FStep.mk T (f:=ze7) (l:=[x]) rfl rfl rfl rfl rfl rfl rfl rfl rfl (fun _=>rfl) rfl rfl rfl rfl) (by simp[qA1]) (Nat.le_succ _) rfl ?_
 refine AD.kk (FStep.app_rv T rfl rfl rfl rfl rfl rfl rfl (by decide) rfl rfl rfl rfl (fun _=>rfl) (qAP (hx32)) rfl) ?_
 iterate 3 refine AD.pu T ?_
 refine AD.vv (qDf T rfl rfl rfl rfl rfl (hx34) (fun _=>rfl)) ?_
 refine AD.nil (AO.x (qQT T rfl 10 rfl rfl rfl rfl rfl (by decide) (by decide) rfl rfl rfl (fun _=>rfl) (qAP (hx36)) rfl rfl) ?_)
 refine AO.pu T ?_
 refine AO.se T [.R 10,.R 5,x3.repeats,x3.bonus,x3.keeps,x3.fall] ?_
 refine AO.n (AW.q ?_)
 obtain⟨x37,hx38,hH⟩:=zB hH
 refine AW.le (Le.fM 5 (g:=ze0) rfl (fun y=>.vs rfl)) ?_
 refine AW.le (Le.fM 10 (g:=ze7) rfl (fun y=>.vs rfl)) ?_
 refine AW.r (AO.pu T (d:=.g [.s (List.map ze7 ((x27++[x])++x33)),.s (List.map ze0 x3.limits),x3.repeats,x3.bonus,x3.keeps,x3.fall]) ?_)
 refine AO.w (cVs (qRm fl _ _ (hx38))) ?_
 refine AO.pu T (d:=.g (ze4 x37.1)) ?_
 refine AO.pu T ?_
 refine AO.se T [.s (List.map ze7 x37.1.elements),.s (List.map ze0 x37.1.limits),x37.1.repeats,x37.1.bonus,x37.1.keeps,x37.1.fall] ?_
 refine AO.pu T ?_
 refine AO.n (AW.t ?_)
 have hR:=zS hH;subst hR
 exact retQ.i [] rfl (.t (zG (.g (zC .s (zC .s (zC .v (zC .v (zC .v (zC .v (zCn)))))))) (zG (.c .v) (zGn))))
def qC9 (fl:Nat) (x:CsState) (name:aa) (n:ac):Option (CsState×aa) :=
 (qAT n 0).bind fun x1 =>
 (qAT n 1).bind fun x3 =>
 (qAT n 2).bind fun x5 =>
 (qFI fl x.code (Element.mk name x1 x3 x5)).bind fun x7 =>
 cond (!x7.2)
  (some (x,(⟨#[110,111]⟩:aa)))
  ((qAN fl x x7.1 x.p).bind fun x9 =>
  some (x9.1,x9.2))
theorem qKT (fl:Nat) (x:CsState) (name:aa) (n:ac) (r:(CsState×aa)) (hH:qC9 fl x name n=some r):qFe prog 107 [.pn (qGH x),.v (.string name),.s (List.map ze0 n)] [.pn (qGH r.1),.u,.u] (.v (.string r.2)):=by
 refine qFh T func107 rfl (by decide) rfl rfl [.p 1 0,.v (.string name),sv ze0 n] [(1,.box (qF2 x 2 3)),(3,ro 1 ze0 x.what),(2,ro 1 ze0 x.no)] 4 (by kernel_rfl) [1] rfl rfl ?_
 intro L
 show AW _ _ _ (⟨[(0,.p 1 0),(1,.v (.string name)),(2,sv ze0 n)],[(1,.box (qF2 x 2 3)),(3,ro 1 ze0 x.what),(2,ro 1 ze0 x.no)],37,[(1,L 1)]⟩:St)
 refine go ?_
 obtain⟨x1,hx2,x3,hx4,x5,hx6,hH⟩:=qBC hH
 obtain⟨x7,hx8,hH⟩:=zB hH
 refine AW.drawn 21 4 [] mix (by kernel_rfl) rfl ?_
 refine go ?_
 refine AD.vv (cVs (qNB fl _ _ _ (hx8))) ?_
 refine go ?_
 refine AD.q (FStep.alloc T rfl rfl rfl rfl rfl rfl) (by simp[qA1]) (Nat.le_succ _) rfl ?_
 refine AD.kk (FStep.store_p T rfl rfl rfl rfl rfl rfl rfl rfl rfl rfl rfl) ?_
 refine gs9 ?_
 refine AW.le (Le.ct 0 0 (σ':=(⟨[(0,.p 1 0),(7,.p 4 0),(29,.v (.bool (!x7.2)))],[(1,.box (qF2 x 2 3)),(2,ro 1 ze0 x.no),(3,ro 1 ze0 x.what),(4,.box (ze4 x7.1))],37,[(1,L 1)]⟩:St)) (hpin:=⟨⟨rfl,rfl⟩,trivial⟩)) ?_
 refine AW.cH hH (fun _ hH=>?_) (fun _ hH=>?_)
 refine go ?_
 exact qEa
 refine go ?_
 obtain⟨x9,hx10,hH⟩:=zB hH
 refine AW.drawn 6 5 [] mix (by kernel_rfl) rfl ?_
 refine go ?_
 refine AO.x (qAd (qF2 x9.1 5 6) [(6,ro 1 ze0 x9.1.what),(5,ro 1 ze0 x9.1.no)] 7 (by kernel_rfl) rfl 5 rfl rfl rfl rfl (es:=[.pn (qGH x),.g (ze4 x7.1),.g (ze8 x.p)]) (us:=[.u,.u]) (cs:=qGH x9.1) (ids:=[1,2,3]) (by exact zG (.pb rfl (qA4 rfl rfl)) (zG (.g (zC .s (zC .s (zC .v (zC .v (zC .v (zC .v (zCn)))))))) (zG (.g (zC .s (zC .s (zC .s (zC .v (zC .v (zC .v (zCn)))))))) (zGn)))) (by decide) (by decide) (qBG fl _ _ _ _ (hx10)) rfl rfl (by rfl) rfl) (go ?_)
 exact qEa
def qEj (w:aa):Option Int :=
 cond (decide (w=(⟨#[106,117,100,103,101,115]⟩:aa)))
  (some 1)
  (cond (decide (w=(⟨#[102,97,99,116,111,114]⟩:aa)))
   (some 1)
   (cond (decide (w=(⟨#[114,97,110,103,101]⟩:aa)))
    (some 1)
    (cond (decide (w=(⟨#[115,107,97,116,101,114]⟩:aa)))
     (some 1)
     (cond (decide (w=(⟨#[108,105,109,105,116]⟩:aa)))
      (some 2)
      (cond (decide (w=(⟨#[103,114,97,100,101]⟩:aa)))
       (some 3)
       (cond (decide (w=(⟨#[99,111,109,112,111,110,101,110,116]⟩:aa)))
        (some 3)
        (cond (decide (w=(⟨#[115,108,105,112,115]⟩:aa)))
         (some 3)
         (cond (decide (w=(⟨#[101,108,101,109,101,110,116]⟩:aa)))
          (some 3)
          (cond (decide (w=(⟨#[114,117,108,101,115]⟩:aa)))
           (some 4)
           (some 0))))))))))
theorem qPs (w:aa) (r:Int) (hH:qEj w=some r):qAC prog 108 [.v (.string w)] (.v (.int .i64 r)):=by
 refine fns T func108 ?_
 refine go ?_
 refine AW.cH hH (fun hc1 hH=>?_) (fun _ hH=>?_)
 refine AW.k (AW.condT' rfl hc1 ?_)
 refine go ?_
 exact fin
 refine go ?_
 refine AW.cH hH (fun hc2 hH=>?_) (fun _ hH=>?_)
 refine AW.k (AW.condT' rfl hc2 ?_)
 refine go ?_
 exact fin
 refine go ?_
 refine AW.cH hH (fun hc3 hH=>?_) (fun _ hH=>?_)
 refine AW.k (AW.condT' rfl hc3 ?_)
 refine go ?_
 exact fin
 refine go ?_
 refine AW.cH hH (fun _ hH=>?_) (fun _ hH=>?_)
 refine go ?_
 exact fin
 refine go ?_
 refine AW.cH hH (fun _ hH=>?_) (fun _ hH=>?_)
 refine go ?_
 exact fin
 refine go ?_
 refine AW.cH hH (fun hc6 hH=>?_) (fun _ hH=>?_)
 refine AW.k (AW.condT' rfl hc6 ?_)
 refine go ?_
 exact fin
 refine go ?_
 refine AW.cH hH (fun hc7 hH=>?_) (fun _ hH=>?_)
 refine AW.k (AW.condT' rfl hc7 ?_)
 refine go ?_
 exact fin
 refine go ?_
 refine AW.cH hH (fun hc8 hH=>?_) (fun _ hH=>?_)
 refine AW.k (AW.condT' rfl hc8 ?_)
 refine go ?_
 exact fin
 refine go ?_
 refine AW.cH hH (fun _ hH=>?_) (fun _ hH=>?_)
 refine go ?_
 exact fin
 refine go ?_
 refine AW.cH hH (fun _ hH=>?_) (fun _ hH=>?_)
 refine go ?_
 exact fin
 refine go ?_
 exact fin
def qBP (fl:Nat) (x:CsState) (w:aa) (n:ac):Option (CsState×aa) :=
 (qFQ x.code).bind fun x1 =>
 cond (decide (w=(⟨#[114,117,108,101,115]⟩:aa)))
  ((qAT n 0).bind fun x4 =>
  (qAT n 1).bind fun x6 =>
  (qAT n 2).bind fun x8 =>
  (qAT n 3).bind fun x10 =>
  (qAN fl x (Code.mk x1.elements x1.limits x4 x6 x8 x10) x.p).bind fun x12 =>
  some (x12.1,x12.2))
  ((qAT n 0).bind fun x14 =>
  cond (decide (x14>=5))
   (some (x,(⟨#[110,111]⟩:aa)))
   ((qAT n 1).bind fun x16 =>
   (qAT x1.limits x14).bind fun x18 =>
   (qAN fl x (Code.mk x1.elements (x1.limits.set x14.toNat x16) x1.repeats x1.bonus x1.keeps x1.fall) x.p).bind fun x20 =>
   some (x20.1,x20.2)))
theorem qHI (fl:Nat) (x:CsState) (w:aa) (n:ac) (r:(CsState×aa)) (hH:qBP fl x w n=some r):qFe prog 145 [.pn (qGH x),.v (.string w),.s (List.map ze0 n)] [.pn (qGH r.1),.u,.u] (.v (.string r.2)):=by
 refine qFh T func145 rfl (by decide) rfl rfl [.p 1 0,.v (.string w),sv ze0 n] [(1,.box (qF2 x 2 3)),(3,ro 1 ze0 x.what),(2,ro 1 ze0 x.no)] 4 (by kernel_rfl) [1] rfl rfl ?_
 intro L
 show AW _ _ _ (⟨[(0,.p 1 0),(1,.v (.string w)),(2,sv ze0 n)],[(1,.box (qF2 x 2 3)),(3,ro 1 ze0 x.what),(2,ro 1 ze0 x.no)],58,[(1,L 1)]⟩:St)
 refine go ?_
 obtain⟨x1,hx2,hH⟩:=zB hH
 refine go ?_
 refine AO.x (qAV rfl 4 rfl rfl rfl (qMx _ _ (hx2)) rfl rfl rfl) ?_
 refine AO.x (als T 6) ?_
 refine AO.se T [.R 4,.R 5,x1.repeats,x1.bonus,x1.keeps,x1.fall] ?_
 refine go ?_
 refine AW.cH hH (fun _ hH=>?_) (fun _ hH=>?_)
 refine AW.q ?_
 obtain⟨x4,hx5,hH⟩:=zB hH
 refine go ?_
 refine AO.se T [.R 4,.R 5,x4,x1.bonus,x1.keeps,x1.fall] ?_
 refine go ?_
 obtain⟨x6,hx7,hH⟩:=zB hH
 refine go ?_
 refine AO.se T [.R 4,.R 5,x4,x6,x1.keeps,x1.fall] ?_
 refine go ?_
 obtain⟨x8,hx9,hH⟩:=zB hH
 refine go ?_
 refine AO.se T [.R 4,.R 5,x4,x6,x8,x1.fall] ?_
 refine AO.n (AW.le (Le.ct 0 0 (σ':=(⟨[(0,.p 1 0),(2,sv ze0 n),(7,.p 6 0)],[(1,.box (qF2 x 2 3)),(2,ro 1 ze0 x.no),(3,ro 1 ze0 x.what),(4,ro 4 ze7 x1.elements),(5,ro 1 ze0 x1.limits),(6,.box [.R 4,.R 5,x4,x6,x8,x1.fall])],58,[(1,L 1)]⟩:St)) (hpin:=⟨⟨rfl,rfl⟩,trivial⟩)) ?_)
 refine AW.q ?_
 obtain⟨x10,hx11,hH⟩:=zB hH
 refine go ?_
 refine AO.se T [.R 4,.R 5,x4,x6,x8,x10] ?_
 refine go ?_
 obtain⟨x12,hx13,hH⟩:=zB hH
 refine AW.le (Le.fM 4 (g:=ze7) rfl (fun y=>.vs rfl)) ?_
 refine AW.le (Le.fM 5 (g:=ze0) rfl (fun y=>.vs rfl)) ?_
 refine AW.drawn 6 7 [] mix (by kernel_rfl) rfl ?_
 refine go ?_
 refine AO.x (qAd (qF2 x12.1 7 8) [(8,ro 1 ze0 x12.1.what),(7,ro 1 ze0 x12.1.no)] 9 (by kernel_rfl) rfl 7 rfl rfl rfl rfl (es:=[.pn (qGH x),.g (ze4 (Code.mk x1.elements x1.limits x4 x6 x8 x10)),.g (ze8 x.p)]) (us:=[.u,.u]) (cs:=qGH x12.1) (ids:=[1,2,3]) (by exact zG (.pb rfl (qA4 rfl rfl)) (zG (.g (zC .s (zC .s (zC .v (zC .v (zC .v (zC .v (zCn)))))))) (zG (.g (zC .s (zC .s (zC .s (zC .v (zC .v (zC .v (zCn)))))))) (zGn)))) (by decide) (by decide) (qBG fl _ _ _ _ (hx13)) rfl rfl (by rfl) rfl) (go ?_)
 exact qEa
 refine go ?_
 obtain⟨x14,hx15,hH⟩:=zB hH
 refine go ?_
 refine AW.cH hH (fun _ hH=>?_) (fun _ hH=>?_)
 refine go ?_
 exact qEa
 refine go ?_
 obtain⟨x16,hx17,x18,hx19,hH⟩:=qAH hH
 refine AW.drawn 8 9 [] mix (by kernel_rfl) rfl ?_
 refine go ?_
 refine AO.x (zSr T rfl rfl rfl rfl rfl (zgG (hx19)) rfl rfl rfl rfl (u':=x16) rfl rfl) ?_
 refine AO.n (AW.le (Le.ct 0 0 (σ':=(⟨[(0,.p 1 0),(7,.p 6 0)],[(1,.box (qF2 x 2 3)),(2,ro 1 ze0 x.no),(3,ro 1 ze0 x.what),(4,ro 4 ze7 x1.elements),(5,ro 1 ze0 (x1.limits.set x14.toNat x16)),(6,.box [.R 4,.R 5,x1.repeats,x1.bonus,x1.keeps,x1.fall])],58,[(1,L 1)]⟩:St)) (hpin:=⟨⟨rfl,rfl⟩,trivial⟩)) ?_)
 refine AW.q ?_
 obtain⟨x20,hx21,hH⟩:=zB hH
 refine AW.le (Le.fM 4 (g:=ze7) rfl (fun y=>.vs rfl)) ?_
 refine AW.le (Le.fM 5 (g:=ze0) rfl (fun y=>.vs rfl)) ?_
 refine AW.drawn 6 9 [] mix (by kernel_rfl) rfl ?_
 refine go ?_
 refine AO.x (qAd (qF2 x20.1 9 10) [(10,ro 1 ze0 x20.1.what),(9,ro 1 ze0 x20.1.no)] 11 (by kernel_rfl) rfl 9 rfl rfl rfl rfl (es:=[.pn (qGH x),.g (ze4 (Code.mk x1.elements (x1.limits.set x14.toNat x16) x1.repeats x1.bonus x1.keeps x1.fall)),.g (ze8 x.p)]) (us:=[.u,.u]) (cs:=qGH x20.1) (ids:=[1,2,3]) (by exact zG (.pb rfl (qA4 rfl rfl)) (zG (.g (zC .s (zC .s (zC .v (zC .v (zC .v (zC .v (zCn)))))))) (zG (.g (zC .s (zC .s (zC .s (zC .v (zC .v (zC .v (zCn)))))))) (zGn)))) (by decide) (by decide) (qBG fl _ _ _ _ (hx21)) rfl rfl (by rfl) rfl) (go ?_)
 exact qEa
def qF9 (m:Marks) (judge:Int):ad :=
 (qFP m).bind fun x1 =>
 (opt x1 default (qEX m)).bind fun x3 =>
 (opt x1 default (qAa judge 0 (w64 (x3-1)))).bind fun x5 =>
 some (x1&&x5)
theorem qKj (m:Marks) (judge:Int) (r:Bool) (hH:qF9 m judge=some r):qAC prog 148 [.g (qAb m),judge] (.v (.bool r)):=by
 refine fns T func148 ?_
 refine go ?_
 refine AO.x (bxs T 1) (go ?_)
 obtain⟨x1,hx2,x3,hx4,x5,hx6,hH⟩:=qBC hH
 refine go ?_
 refine AO.w (cVs (qKi _ _ (hx2))) ?_
 refine AO.pu T ?_
 refine AO.g0 T ?_
 refine AO.g T (d:=.g [sv ze5 m.grades,sv ze5 m.components]) [] rfl trivial rfl rfl ?_
 refine AO.d1 9 (fun hg=>cVs (qIV _ _ (qE9 hx4 hg))) ?_
 refine AO.d1 10 (fun hg=>aws) ?_
 refine AO.d2 8 11 (fun hg=>cVs (qAc _ _ _ _ (qE9 hx6 hg))) ?_
 refine go ?_
 exact fin
def qJL (m:Marks):Option (Marks×Bool) :=
 (qFP m).bind fun x1 =>
 cond (!x1)
  (some ((Marks.mk [] []),false))
  (some (m,true))
theorem qOH (m:Marks) (r:(Marks×Bool)) (hH:qJL m=some r):qAC prog 266 [.g (qAb m)] (.t [.g (qAb r.1),.v (.bool r.2)]):=by
 refine fns T func266 ?_
 refine go ?_
 refine AO.x (bxs T 1) ?_
 refine AO.x (als T 2) (go ?_)
 obtain⟨x1,hx2,hH⟩:=zB hH
 refine go ?_
 refine AO.w (cVs (qKi _ _ (hx2))) (go ?_)
 refine AW.cH hH (fun _ hH=>?_) (fun _ hH=>?_)
 refine go ?_
 refine AO.se T [.w 0 [],.w 0 []] ?_
 refine go ?_
 exact fin
 refine go ?_
 refine AO.se T [sv ze5 m.grades,sv ze5 m.components] ?_
 refine go ?_
 exact fin
def qF8 (m:Marks) (item:Int) (judge:Int) (grade:Int):Option (Marks×Bool) :=
 (qF9 m judge).bind fun x1 =>
 (opt (!(!x1)) default (qAa item 0 (w64 ((m.grades.length:Int)-1)))).bind fun x3 =>
 cond ((!x1)||(!x3))
  (some ((Marks.mk [] []),false))
  ((qFR m).bind fun x5 =>
  (qAT x5.grades item).bind fun x7 =>
  (qAT x7 judge).bind fun x9 =>
  (qJL (Marks.mk (x5.grades.set item.toNat (x7.set judge.toNat grade)) x5.components)).bind fun x11 =>
  some (x11.1,x11.2))
theorem qOb (m:Marks) (item:Int) (judge:Int) (grade:Int) (r:(Marks×Bool)) (hH:qF8 m item judge grade=some r):qAC prog 210 [.g (qAb m),item,judge,grade] (.t [.g (qAb r.1),.v (.bool r.2)]):=by
 refine fns T func210 ?_
 refine gs2 ?_
 refine AO.x (bxs T 1) ?_
 refine AO.x (als T 2) ?_
 refine gs4 ?_
 obtain⟨x1,hx2,x3,hx4,hH⟩:=qAH hH
 refine gs3 ?_
 refine AO.w (cVs (qKj _ _ _ (hx2))) ?_
 refine gs2 ?_
 refine AO.g0 T ?_
 refine AO.g0 T ?_
 refine AO.g1 T 17 ?_
 refine AO.d1 18 (fun hg=>qMi T) ?_
 refine AO.d1 19 (fun hg=>aws) ?_
 refine AO.d2 16 20 (fun hg=>cVs (qAc _ _ _ _ (qE9 hx4 hg))) ?_
 refine AO.g1 T 21 ?_
 refine gs2 ?_
 refine AW.cH hH (fun _ hH=>?_) (fun _ hH=>?_)
 refine gs3 ?_
 refine AO.se T [.w 0 [],.w 0 []] ?_
 refine gs3 ?_
 exact fin
 refine gs2 ?_
 obtain⟨x5,hx6,hH⟩:=zB hH
 refine gs2 ?_
 refine AO.x (qAV rfl 3 rfl rfl rfl (qI1 _ _ (hx6)) rfl rfl rfl) ?_
 refine AO.x (als T 5) ?_
 refine AO.se T [.R 3,.R 4] ?_
 refine gs2 ?_
 obtain⟨x7,hx8,x9,hx10,hH⟩:=qAH hH
 refine AW.le (Le.openM 3 item.toNat 0 6 rfl (zgG (hx8)) rfl rfl) ?_
 refine gs4 ?_
 refine AO.w (qCq T rfl rfl rfl rfl rfl rfl (hx8)) ?_
 refine AO.w (qBV T rfl rfl rfl rfl rfl) ?_
 refine gs3 ?_
 refine AO.x (zSr T rfl rfl rfl rfl rfl (zgG (hx10)) rfl rfl rfl rfl (u':=grade) rfl rfl) ?_
 refine AO.le (Le.closeM 3 item.toNat 0 6 rfl rfl (zgG (hx8)) rfl (u':=(x7.set judge.toNat grade)) rfl) ?_
 refine AO.n (AW.le (Le.ct 0 0 (σ':=(⟨[(8,.p 2 0),(10,.p 5 0)],[(2,.box [.w 0 [],.w 0 []]),(3,ro 1 ze1 (x5.grades.set item.toNat (x7.set judge.toNat grade))),(4,ro 1 ze1 x5.components),(5,.box [.R 3,.R 4])],39,[]⟩:St))) ?_)
 refine AW.q ?_
 obtain⟨x11,hx12,hH⟩:=zB hH
 refine AW.le (Le.fM 3 (g:=ze5) rfl (fun y=>qAR y)) ?_
 refine AW.le (Le.fM 4 (g:=ze5) rfl (fun y=>qAR y)) ?_
 refine gs2 ?_
 refine AO.w (cVs (qOH _ _ (hx12))) ?_
 refine gs2 ?_
 refine AO.se T [sv ze5 x11.1.grades,sv ze5 x11.1.components] ?_
 refine gs3 ?_
 exact fin
def qEV (m:Marks) (component:Int) (judge:Int) (mark:Int):Option (Marks×Bool) :=
 (qF9 m judge).bind fun x1 =>
 (opt (!(!x1)) default (qAa component 0 2)).bind fun x3 =>
 cond ((!x1)||(!x3))
  (some ((Marks.mk [] []),false))
  ((qFR m).bind fun x5 =>
  (qAT x5.components component).bind fun x7 =>
  (qAT x7 judge).bind fun x9 =>
  (qJL (Marks.mk x5.grades (x5.components.set component.toNat (x7.set judge.toNat mark)))).bind fun x11 =>
  some (x11.1,x11.2))
theorem qL0 (m:Marks) (component:Int) (judge:Int) (mark:Int) (r:(Marks×Bool)) (hH:qEV m component judge mark=some r):qAC prog 211 [.g (qAb m),component,judge,mark] (.t [.g (qAb r.1),.v (.bool r.2)]):=by
 refine fns T func211 ?_
 refine gs2 ?_
 refine AO.x (bxs T 1) ?_
 refine AO.x (als T 2) ?_
 refine gs4 ?_
 obtain⟨x1,hx2,x3,hx4,hH⟩:=qAH hH
 refine gs3 ?_
 refine AO.w (cVs (qKj _ _ _ (hx2))) ?_
 refine gs2 ?_
 refine AO.g0 T ?_
 refine AO.d1 16 (fun hg=>cVs (qAc _ _ _ _ (qE9 hx4 hg))) ?_
 refine AO.g1 T 17 ?_
 refine gs2 ?_
 refine AW.cH hH (fun _ hH=>?_) (fun _ hH=>?_)
 refine gs3 ?_
 refine AO.se T [.w 0 [],.w 0 []] ?_
 refine gs3 ?_
 exact fin
 refine gs2 ?_
 obtain⟨x5,hx6,hH⟩:=zB hH
 refine gs2 ?_
 refine AO.x (qAV rfl 3 rfl rfl rfl (qI1 _ _ (hx6)) rfl rfl rfl) ?_
 refine AO.x (als T 5) ?_
 refine AO.se T [.R 3,.R 4] ?_
 refine gs2 ?_
 obtain⟨x7,hx8,x9,hx10,hH⟩:=qAH hH
 refine AW.le (Le.openM 4 component.toNat 0 6 rfl (zgG (hx8)) rfl rfl) ?_
 refine gs4 ?_
 refine AO.w (qCq T rfl rfl rfl rfl rfl rfl (hx8)) ?_
 refine AO.w (qBV T rfl rfl rfl rfl rfl) ?_
 refine gs3 ?_
 refine AO.x (zSr T rfl rfl rfl rfl rfl (zgG (hx10)) rfl rfl rfl rfl (u':=mark) rfl rfl) ?_
 refine AO.le (Le.closeM 4 component.toNat 0 6 rfl rfl (zgG (hx8)) rfl (u':=(x7.set judge.toNat mark)) rfl) ?_
 refine AO.n (AW.le (Le.ct 0 0 (σ':=(⟨[(8,.p 2 0),(10,.p 5 0)],[(2,.box [.w 0 [],.w 0 []]),(3,ro 1 ze1 x5.grades),(4,ro 1 ze1 (x5.components.set component.toNat (x7.set judge.toNat mark))),(5,.box [.R 3,.R 4])],35,[]⟩:St))) ?_)
 refine AW.q ?_
 obtain⟨x11,hx12,hH⟩:=zB hH
 refine AW.le (Le.fM 3 (g:=ze5) rfl (fun y=>qAR y)) ?_
 refine AW.le (Le.fM 4 (g:=ze5) rfl (fun y=>qAR y)) ?_
 refine gs2 ?_
 refine AO.w (cVs (qOH _ _ (hx12))) ?_
 refine gs2 ?_
 refine AO.se T [sv ze5 x11.1.grades,sv ze5 x11.1.components] ?_
 refine gs3 ?_
 exact fin
def qAf (fl:Nat) (x:CsState) (w:aa) (n:ac):Option (CsState×aa) :=
 (qAY x.p x.p.items).bind fun x1 =>
 (qDI fl (x1.items.length:Int) 3).bind fun x3 =>
 cond (decide (w=(⟨#[106,117,100,103,101,115]⟩:aa)))
  ((qAT n 0).bind fun x6 =>
  cond (decide (x6>9))
   (some (x,(⟨#[110,111]⟩:aa)))
   ((qDI fl (x1.items.length:Int) x6).bind fun x8 =>
   cond (!true)
    (some (x,(⟨#[110,111]⟩:aa)))
    ((qAN fl x x.code (Performance.mk x1.items x8 x1.slips)).bind fun x10 =>
    some (x10.1,x10.2))))
  (cond (decide (w=(⟨#[103,114,97,100,101]⟩:aa)))
   ((qAT n 0).bind fun x13 =>
   (qAT n 1).bind fun x15 =>
   (qAT n 2).bind fun x17 =>
   (qF8 x1.marks x13 x15 x17).bind fun x19 =>
   cond (!x19.2)
    (some (x,(⟨#[110,111]⟩:aa)))
    ((qAN fl x x.code (Performance.mk x1.items x19.1 x1.slips)).bind fun x21 =>
    some (x21.1,x21.2)))
   ((qAT n 0).bind fun x23 =>
   (qAT n 1).bind fun x25 =>
   (qAT n 2).bind fun x27 =>
   (qEV x1.marks x23 x25 x27).bind fun x29 =>
   cond (!x29.2)
    (some (x,(⟨#[110,111]⟩:aa)))
    ((qAN fl x x.code (Performance.mk x1.items x29.1 x1.slips)).bind fun x31 =>
    some (x31.1,x31.2))))
theorem qE8 (fl:Nat) (x:CsState) (w:aa) (n:ac) (r:(CsState×aa)) (hH:qAf fl x w n=some r):qFe prog 146 [.pn (qGH x),.v (.string w),.s (List.map ze0 n)] [.pn (qGH r.1),.u,.u] (.v (.string r.2)):=by
 refine qFh T func146 rfl (by decide) rfl rfl [.p 1 0,.v (.string w),sv ze0 n] [(1,.box (qF2 x 2 3)),(3,ro 1 ze0 x.what),(2,ro 1 ze0 x.no)] 4 (by kernel_rfl) [1] rfl rfl ?_
 intro L
 show AW _ _ _ (⟨[(0,.p 1 0),(1,.v (.string w)),(2,sv ze0 n)],[(1,.box (qF2 x 2 3)),(3,ro 1 ze0 x.what),(2,ro 1 ze0 x.no)],81,[(1,L 1)]⟩:St)
 refine gs5 ?_
 obtain⟨x1,hx2,hH⟩:=zB hH
 refine AW.drawn 11 4 [] mix (by kernel_rfl) rfl ?_
 refine gs9 ?_
 refine AD.q (FStep.call rfl rfl rfl rfl rfl (qFq _ _ _ (hx2)) rfl rfl) (qAu _ _) (qC5 _ _) rfl ?_
 refine AD.q (FStep.alloc T rfl rfl rfl rfl rfl rfl) (by simp[qA1]) (Nat.le_succ _) rfl ?_
 refine AD.nil (AO.se T [.R 4,.R 5,.R 6,x1.slips.falls,x1.slips.seconds,x1.slips.other] ?_)
 refine gs2 ?_
 obtain⟨x3,hx4,hH⟩:=zB hH
 refine gs4 ?_
 refine AO.x (qAV rfl 8 rfl rfl rfl (qI8 fl _ _ _ (hx4)) rfl rfl rfl) ?_
 refine AO.x (als T 10) ?_
 refine AO.se T [.R 8,.R 9] ?_
 iterate 13 refine gs ?_
 refine AW.cH hH (fun _ hH=>?_) (fun _ hH=>?_)
 refine gs2 ?_
 obtain⟨x6,hx7,hH⟩:=zB hH
 refine gs6 ?_
 refine AW.le (Le.ct 0 0 (σ':=(⟨[(0,.p 1 0),(2,sv ze0 n),(7,.p 7 0),(8,.p 10 0),(9,.v (.bool true)),(45,.v (.bool (decide (x6>9))))],[(1,.box (qF2 x 2 3)),(2,ro 1 ze0 x.no),(3,ro 1 ze0 x.what),(4,ro 3 ze6 x1.items),(5,ro 1 ze1 x1.marks.grades),(6,ro 1 ze1 x1.marks.components),(7,.box [.R 4,.R 5,.R 6,x1.slips.falls,x1.slips.seconds,x1.slips.other]),(8,ro 1 ze1 x3.grades),(9,ro 1 ze1 x3.components),(10,.box [.R 8,.R 9])],81,[(1,L 1)]⟩:St)) (hpin:=⟨⟨rfl,rfl⟩,trivial⟩)) ?_
 refine AW.cH hH (fun _ hH=>?_) (fun hc hH=>?_)
 refine gs5 ?_
 exact qEa
 refine AW.k ?_
 obtain⟨x8,hx9,hH⟩:=zB hH
 refine AW.drawn 6 11 [] mix (by kernel_rfl) rfl ?_
 refine gs2 ?_
 refine AD.vv (qXH T) ?_
 refine gs4 ?_
 refine AO.x (qAV rfl 11 rfl rfl rfl (qI8 fl _ _ _ (hx9)) rfl rfl rfl) ?_
 refine AO.se T [.R 11,.R 12] ?_
 refine gs7 ?_
 refine AW.cH hH (fun _ hH=>?_) (fun hc hH=>?_)
 refine gs5 ?_
 exact qEa
 refine gs5 ?_
 refine AO.se T [.R 4,.R 11,.R 12,x1.slips.falls,x1.slips.seconds,x1.slips.other] ?_
 refine gs2 ?_
 obtain⟨x10,hx11,hH⟩:=zB hH
 refine AW.le (Le.fM 4 (g:=ze3) rfl (fun y=>qCJ y)) ?_
 refine AW.le (Le.fM 11 (g:=ze5) rfl (fun y=>qAR y)) ?_
 refine AW.le (Le.fM 12 (g:=ze5) rfl (fun y=>qAR y)) ?_
 refine AW.drawn 6 13 [] mix (by kernel_rfl) rfl ?_
 refine gs7 ?_
 refine AO.x (qAd (qF2 x10.1 13 14) [(14,ro 1 ze0 x10.1.what),(13,ro 1 ze0 x10.1.no)] 15 (by kernel_rfl) rfl 13 rfl rfl rfl rfl (es:=[.pn (qGH x),.g (ze4 x.code),.g (ze8 (Performance.mk x1.items x8 x1.slips))]) (us:=[.u,.u]) (cs:=qGH x10.1) (ids:=[1,2,3]) (by exact zG (.pb rfl (qA4 rfl rfl)) (zG (.g (zC .s (zC .s (zC .v (zC .v (zC .v (zC .v (zCn)))))))) (zG (.g (zC .s (zC .s (zC .s (zC .v (zC .v (zC .v (zCn)))))))) (zGn)))) (by decide) (by decide) (qBG fl _ _ _ _ (hx11)) rfl rfl (by rfl) rfl) ?_
 refine gs3 ?_
 exact qEa
 refine gs5 ?_
 refine AW.le (Le.ct 0 0 (σ':=(⟨[(0,.p 1 0),(2,sv ze0 n),(7,.p 7 0),(8,.p 10 0),(53,.v (.bool (decide (w=(⟨#[103,114,97,100,101]⟩:aa)))))],[(1,.box (qF2 x 2 3)),(2,ro 1 ze0 x.no),(3,ro 1 ze0 x.what),(4,ro 3 ze6 x1.items),(5,ro 1 ze1 x1.marks.grades),(6,ro 1 ze1 x1.marks.components),(7,.box [.R 4,.R 5,.R 6,x1.slips.falls,x1.slips.seconds,x1.slips.other]),(8,ro 1 ze1 x3.grades),(9,ro 1 ze1 x3.components),(10,.box [.R 8,.R 9])],81,[(1,L 1)]⟩:St)) (hpin:=⟨⟨rfl,rfl⟩,trivial⟩)) ?_
 refine AW.cH hH (fun _ hH=>?_) (fun _ hH=>?_)
 obtain⟨x13,hx14,x15,hx16,x17,hx18,hH⟩:=qBC hH
 obtain⟨x19,hx20,hH⟩:=zB hH
 refine AW.le (Le.fM 5 (g:=ze5) rfl (fun y=>qAR y)) ?_
 refine AW.le (Le.fM 6 (g:=ze5) rfl (fun y=>qAR y)) ?_
 refine AW.drawn 16 15 [10] mix (by kernel_rfl) rfl ?_
 iterate 11 refine gs ?_
 refine AD.vv (cVs (qOb _ _ _ _ _ (hx20))) ?_
 refine gs3 ?_
 refine AD.kk (FStep.store_p T rfl rfl rfl rfl rfl rfl rfl rfl rfl rfl rfl) ?_
 refine gs9 ?_
 refine AW.cH hH (fun _ hH=>?_) (fun hc hH=>?_)
 refine gs5 ?_
 exact qEa
 refine gs5 ?_
 refine AO.se T [.R 4,sv ze5 x19.1.grades,sv ze5 x19.1.components,x1.slips.falls,x1.slips.seconds,x1.slips.other] ?_
 refine gs2 ?_
 obtain⟨x21,hx22,hH⟩:=zB hH
 refine AW.le (Le.fM 4 (g:=ze3) rfl (fun y=>qCJ y)) ?_
 refine AW.drawn 6 15 [] mix (by kernel_rfl) rfl ?_
 refine gs7 ?_
 refine AO.x (qAd (qF2 x21.1 15 16) [(16,ro 1 ze0 x21.1.what),(15,ro 1 ze0 x21.1.no)] 17 (by kernel_rfl) rfl 15 rfl rfl rfl rfl (es:=[.pn (qGH x),.g (ze4 x.code),.g (ze8 (Performance.mk x1.items x19.1 x1.slips))]) (us:=[.u,.u]) (cs:=qGH x21.1) (ids:=[1,2,3]) (by exact zG (.pb rfl (qA4 rfl rfl)) (zG (.g (zC .s (zC .s (zC .v (zC .v (zC .v (zC .v (zCn)))))))) (zG (.g (zC .s (zC .s (zC .s (zC .v (zC .v (zC .v (zCn)))))))) (zGn)))) (by decide) (by decide) (qBG fl _ _ _ _ (hx22)) rfl rfl (by rfl) rfl) ?_
 refine gs2 ?_
 refine AW.le (Le.ct 0 0 (σ':=(⟨[(6,.v (.string x21.2))],[(1,.box (qF2 x21.1 15 16)),(15,ro 1 ze0 x21.1.no),(16,ro 1 ze0 x21.1.what)],81,[(1,L 1)]⟩:St)) (hpin:=⟨⟨rfl,rfl⟩,trivial⟩)) ?_
 refine AW.t ?_
 exact qEa
 obtain⟨x23,hx24,x25,hx26,x27,hx28,hH⟩:=qBC hH
 obtain⟨x29,hx30,hH⟩:=zB hH
 refine AW.le (Le.fM 5 (g:=ze5) rfl (fun y=>qAR y)) ?_
 refine AW.le (Le.fM 6 (g:=ze5) rfl (fun y=>qAR y)) ?_
 refine AW.drawn 16 17 [10] mix (by kernel_rfl) rfl ?_
 iterate 11 refine gs ?_
 refine AD.vv (cVs (qL0 _ _ _ _ _ (hx30))) ?_
 refine gs3 ?_
 refine AD.kk (FStep.store_p T rfl rfl rfl rfl rfl rfl rfl rfl rfl rfl rfl) ?_
 refine gs9 ?_
 refine AW.cH hH (fun _ hH=>?_) (fun _ hH=>?_)
 refine gs5 ?_
 exact qEa
 refine gs5 ?_
 refine AO.se T [.R 4,sv ze5 x29.1.grades,sv ze5 x29.1.components,x1.slips.falls,x1.slips.seconds,x1.slips.other] ?_
 refine gs2 ?_
 obtain⟨x31,hx32,hH⟩:=zB hH
 refine AW.le (Le.fM 4 (g:=ze3) rfl (fun y=>qCJ y)) ?_
 refine AW.drawn 6 17 [] mix (by kernel_rfl) rfl ?_
 refine gs7 ?_
 refine AO.x (qAd (qF2 x31.1 17 18) [(18,ro 1 ze0 x31.1.what),(17,ro 1 ze0 x31.1.no)] 19 (by kernel_rfl) rfl 17 rfl rfl rfl rfl (es:=[.pn (qGH x),.g (ze4 x.code),.g (ze8 (Performance.mk x1.items x29.1 x1.slips))]) (us:=[.u,.u]) (cs:=qGH x31.1) (ids:=[1,2,3]) (by exact zG (.pb rfl (qA4 rfl rfl)) (zG (.g (zC .s (zC .s (zC .v (zC .v (zC .v (zC .v (zCn)))))))) (zG (.g (zC .s (zC .s (zC .s (zC .v (zC .v (zC .v (zCn)))))))) (zGn)))) (by decide) (by decide) (qBG fl _ _ _ _ (hx32)) rfl rfl (by rfl) rfl) ?_
 refine gs2 ?_
 refine AW.le (Le.ct 0 0 (σ':=(⟨[(6,.v (.string x31.2))],[(1,.box (qF2 x31.1 17 18)),(17,ro 1 ze0 x31.1.no),(18,ro 1 ze0 x31.1.what)],81,[(1,L 1)]⟩:St)) (hpin:=⟨⟨rfl,rfl⟩,trivial⟩)) ?_
 refine AW.t ?_
 exact qEa
def qEJ (judge:Int) (x1:Marks) (v16:List ac):Nat->List ac->List ac->Int->Option Marks
 |0,_,_,_=>none
 |k23+1,v35,v36,v37 =>
  cond (decide (v37<(x1.components.length:Int)))
   ((qAT v36 v37).bind fun x39 =>
   (qAT x39 judge).bind fun x41 =>
   qEJ judge x1 v16 k23 (v36.set v37.toNat (x39.set judge.toNat 1000)) (v36.set v37.toNat (x39.set judge.toNat 1000)) (w64 (v37+1)))
   (some (Marks.mk v16 v36))
def qFB (judge:Int) (fl:Nat) (x1:Marks):Nat->List ac->List ac->Int->Option Marks
 |0,_,_,_=>none
 |k3+1,v15,v16,v17 =>
  cond (decide (v17<(x1.grades.length:Int)))
   ((qAT v16 v17).bind fun x19 =>
   (qAT x19 judge).bind fun x21 =>
   qFB judge fl x1 k3 (v16.set v17.toNat (x19.set judge.toNat 5)) (v16.set v17.toNat (x19.set judge.toNat 5)) (w64 (v17+1)))
   (qEJ judge x1 v16 fl x1.components x1.components 0)
def qEO (judge:Int) (x1:Marks) (v56:List ac):Nat->List ac->List ac->Int->Option Marks
 |0,_,_,_=>none
 |k63+1,v75,v76,v77 =>
  cond (decide (v77<(x1.components.length:Int)))
   ((qAT v76 v77).bind fun x79 =>
   (qAT x79 judge).bind fun x81 =>
   qEO judge x1 v56 k63 (v76.set v77.toNat (x79.set judge.toNat 0)) (v76.set v77.toNat (x79.set judge.toNat 0)) (w64 (v77+1)))
   (some (Marks.mk v56 v76))
def qFJ (judge:Int) (fl:Nat) (x1:Marks):Nat->List ac->List ac->Int->Option Marks
 |0,_,_,_=>none
 |k43+1,v55,v56,v57 =>
  cond (decide (v57<(x1.grades.length:Int)))
   ((qAT v56 v57).bind fun x59 =>
   (qAT x59 judge).bind fun x61 =>
   qFJ judge fl x1 k43 (v56.set v57.toNat (x59.set judge.toNat (-5))) (v56.set v57.toNat (x59.set judge.toNat (-5))) (w64 (v57+1)))
   (qEO judge x1 v56 fl x1.components x1.components 0)
def qFp (fl:Nat) (m:Marks) (judge:Int) (great:Bool):Option Marks :=
 (qFR m).bind fun x1 =>
 cond great
  (qFB judge fl x1 fl x1.grades x1.grades 0)
  (qFJ judge fl x1 fl x1.grades x1.grades 0)
theorem qLQ (fl:Nat) (m:Marks) (judge:Int) (great:Bool) (r:Marks) (hH:qFp fl m judge great=some r):qAC prog 214 [.g (qAb m),judge,.v (.bool great)] (.g (qEy r)):=by
 refine fns T func214 ?_
 refine gs2 ?_
 refine AO.x (bxs T 1) ?_
 refine AO.x (als T 2) ?_
 refine gs2 ?_
 obtain⟨x1,hx2,hH⟩:=zB hH
 refine gs2 ?_
 refine AO.x (qAV rfl 3 rfl rfl rfl (qI1 _ _ (hx2)) rfl rfl rfl) ?_
 refine AO.x (als T 5) ?_
 refine AO.se T [.R 3,.R 4] ?_
 iterate 11 refine gs ?_
 refine AW.cH hH (fun hc hH=>?_) (fun hc hH=>?_)
 iterate 16 refine gs ?_
 refine AW.loopS (fun s:Nat×(List ac)×(List ac)×Int=>(⟨[(1,judge),(6,.p 2 0),(7,.p 5 0),(8,(5:Int)),(9,(1000:Int)),(18,.R 3),(19,(x1.grades.length:Int)),(20,s.2.2.2)],[(2,.box [.w 0 [],.w 0 []]),(3,ro 1 ze1 s.2.2.1),(4,ro 1 ze1 x1.components),(5,.box [.R 3,.R 4])],42,[]⟩:St)) (fun s=>qFB judge fl x1 s.1 s.2.1 s.2.2.1 s.2.2.2=some r) (fun s=>s.1) (fl,x1.grades,x1.grades,0) hH ?_ ?_
 exact Le.ct 0 0
 rintro⟨k3,v15,v16,v17⟩ hH
 try dsimp only at hH⊢
 rcases k3 with _|k3
 cases (show none=some _ from hH)
 rw[qFB]at hH
 refine gs5 ?_
 refine AW.cH hH (fun _ hH=>?_) (fun hc hH=>?_)
 refine gs4 ?_
 obtain⟨x19,hx20,hH⟩:=zB hH
 refine AW.le (Le.openM 3 v17.toNat 0 8 rfl (zgG (hx20)) rfl rfl) ?_
 refine AW.r (AO.w (qCq T rfl rfl rfl rfl rfl rfl (hx20)) ?_)
 refine AO.w (qBV T rfl rfl rfl rfl rfl) ?_
 refine gs2 ?_
 obtain⟨x21,hx22,hH⟩:=zB hH
 refine gs5 ?_
 refine AO.x (zSr T rfl rfl rfl rfl rfl (zgG (hx22)) rfl rfl rfl rfl (u':=5) rfl rfl) ?_
 refine AO.le (Le.closeM 3 v17.toNat 0 8 rfl rfl (zgG (hx20)) rfl (u':=(x19.set judge.toNat 5)) rfl) ?_
 refine gs5 ?_
 refine⟨(k3,(v16.set v17.toNat (x19.set judge.toNat 5)),(v16.set v17.toNat (x19.set judge.toNat 5)),w64 (v17+1)),hH,Nat.lt_succ_self _,?_⟩
 exact Le.ct 0 0
 iterate 10 refine gs ?_
 refine AW.loopS (fun s:Nat×(List ac)×(List ac)×Int=>(⟨[(1,judge),(6,.p 2 0),(7,.p 5 0),(9,(1000:Int)),(30,.R 4),(31,(x1.components.length:Int)),(32,s.2.2.2)],[(2,.box [.w 0 [],.w 0 []]),(3,ro 1 ze1 v16),(4,ro 1 ze1 s.2.2.1),(5,.box [.R 3,.R 4])],42,[]⟩:St)) (fun s=>qEJ judge x1 v16 s.1 s.2.1 s.2.2.1 s.2.2.2=some r) (fun s=>s.1) (fl,x1.components,x1.components,0) hH ?_ ?_
 exact Le.ct 0 0
 rintro⟨k23,v35,v36,v37⟩ hH
 try dsimp only at hH⊢
 rcases k23 with _|k23
 cases (show none=some _ from hH)
 rw[qEJ]at hH
 refine gs5 ?_
 refine AW.cH hH (fun _ hH=>?_) (fun hc hH=>?_)
 refine gs4 ?_
 obtain⟨x39,hx40,hH⟩:=zB hH
 refine AW.le (Le.openM 4 v37.toNat 0 11 rfl (zgG (hx40)) rfl rfl) ?_
 refine AW.r (AO.w (qCq T rfl rfl rfl rfl rfl rfl (hx40)) ?_)
 refine AO.w (qBV T rfl rfl rfl rfl rfl) ?_
 refine gs2 ?_
 obtain⟨x41,hx42,hH⟩:=zB hH
 refine gs5 ?_
 refine AO.x (zSr T rfl rfl rfl rfl rfl (zgG (hx42)) rfl rfl rfl rfl (u':=1000) rfl rfl) ?_
 refine AO.le (Le.closeM 4 v37.toNat 0 11 rfl rfl (zgG (hx40)) rfl (u':=(x39.set judge.toNat 1000)) rfl) ?_
 refine gs5 ?_
 refine⟨(k23,(v36.set v37.toNat (x39.set judge.toNat 1000)),(v36.set v37.toNat (x39.set judge.toNat 1000)),w64 (v37+1)),hH,Nat.lt_succ_self _,?_⟩
 exact Le.ct 0 0
 refine gs4 ?_
 refine AO.se T [.R 3,.R 4] ?_
 refine gs2 ?_
 exact fin
 iterate 10 refine gs ?_
 refine AW.loopS (fun s:Nat×(List ac)×(List ac)×Int=>(⟨[(1,judge),(6,.p 2 0),(7,.p 5 0),(8,(-5:Int)),(9,(0:Int)),(18,.R 3),(19,(x1.grades.length:Int)),(20,s.2.2.2)],[(2,.box [.w 0 [],.w 0 []]),(3,ro 1 ze1 s.2.2.1),(4,ro 1 ze1 x1.components),(5,.box [.R 3,.R 4])],42,[]⟩:St)) (fun s=>qFJ judge fl x1 s.1 s.2.1 s.2.2.1 s.2.2.2=some r) (fun s=>s.1) (fl,x1.grades,x1.grades,0) hH ?_ ?_
 exact Le.ct 0 0
 rintro⟨k43,v55,v56,v57⟩ hH
 try dsimp only at hH⊢
 rcases k43 with _|k43
 cases (show none=some _ from hH)
 rw[qFJ]at hH
 refine gs5 ?_
 refine AW.cH hH (fun _ hH=>?_) (fun hc hH=>?_)
 refine gs4 ?_
 obtain⟨x59,hx60,hH⟩:=zB hH
 refine AW.le (Le.openM 3 v57.toNat 0 14 rfl (zgG (hx60)) rfl rfl) ?_
 refine AW.r (AO.w (qCq T rfl rfl rfl rfl rfl rfl (hx60)) ?_)
 refine AO.w (qBV T rfl rfl rfl rfl rfl) ?_
 refine gs2 ?_
 obtain⟨x61,hx62,hH⟩:=zB hH
 refine gs5 ?_
 refine AO.x (zSr T rfl rfl rfl rfl rfl (zgG (hx62)) rfl rfl rfl rfl (u':=(-5)) rfl rfl) ?_
 refine AO.le (Le.closeM 3 v57.toNat 0 14 rfl rfl (zgG (hx60)) rfl (u':=(x59.set judge.toNat (-5))) rfl) ?_
 refine gs5 ?_
 refine⟨(k43,(v56.set v57.toNat (x59.set judge.toNat (-5))),(v56.set v57.toNat (x59.set judge.toNat (-5))),w64 (v57+1)),hH,Nat.lt_succ_self _,?_⟩
 exact Le.ct 0 0
 iterate 10 refine gs ?_
 refine AW.loopS (fun s:Nat×(List ac)×(List ac)×Int=>(⟨[(1,judge),(6,.p 2 0),(7,.p 5 0),(9,(0:Int)),(30,.R 4),(31,(x1.components.length:Int)),(32,s.2.2.2)],[(2,.box [.w 0 [],.w 0 []]),(3,ro 1 ze1 v56),(4,ro 1 ze1 s.2.2.1),(5,.box [.R 3,.R 4])],42,[]⟩:St)) (fun s=>qEO judge x1 v56 s.1 s.2.1 s.2.2.1 s.2.2.2=some r) (fun s=>s.1) (fl,x1.components,x1.components,0) hH ?_ ?_
 exact Le.ct 0 0
 rintro⟨k63,v75,v76,v77⟩ hH
 try dsimp only at hH⊢
 rcases k63 with _|k63
 cases (show none=some _ from hH)
 rw[qEO]at hH
 refine gs5 ?_
 refine AW.cH hH (fun _ hH=>?_) (fun _ hH=>?_)
 refine gs4 ?_
 obtain⟨x79,hx80,hH⟩:=zB hH
 refine AW.le (Le.openM 4 v77.toNat 0 17 rfl (zgG (hx80)) rfl rfl) ?_
 refine AW.r (AO.w (qCq T rfl rfl rfl rfl rfl rfl (hx80)) ?_)
 refine AO.w (qBV T rfl rfl rfl rfl rfl) ?_
 refine gs2 ?_
 obtain⟨x81,hx82,hH⟩:=zB hH
 refine gs5 ?_
 refine AO.x (zSr T rfl rfl rfl rfl rfl (zgG (hx82)) rfl rfl rfl rfl (u':=0) rfl rfl) ?_
 refine AO.le (Le.closeM 4 v77.toNat 0 17 rfl rfl (zgG (hx80)) rfl (u':=(x79.set judge.toNat 0)) rfl) ?_
 refine gs5 ?_
 refine⟨(k63,(v76.set v77.toNat (x79.set judge.toNat 0)),(v76.set v77.toNat (x79.set judge.toNat 0)),w64 (v77+1)),hH,Nat.lt_succ_self _,?_⟩
 exact Le.ct 0 0
 refine gs4 ?_
 refine AO.se T [.R 3,.R 4] ?_
 refine gs2 ?_
 exact fin
def qH8 (fl:Nat) (c:Code) (p:Performance) (factor:Int) (m:Marks):Option Int :=
 (qDP fl c (Performance.mk p.items m p.slips) factor).bind fun x1 =>
 some x1
theorem qLN (fl:Nat) (c:Code) (p:Performance) (factor:Int) (m:Marks) (r:Int) (hH:qH8 fl c p factor m=some r):qAC prog 213 [.g (ze4 c),.g (ze8 p),factor,.g (qAb m)] (.v (.int .i64 r)):=by
 refine fns T func213 ?_
 refine go ?_
 refine AO.x (bxs T 1) ?_
 refine AO.x (bxs T 2) ?_
 refine AO.x (bxs T 3) (go ?_)
 obtain⟨x1,hx2,hH⟩:=zB hH
 refine go ?_
 refine AO.w (cVs (qHX fl _ _ _ _ (hx2))) (go ?_)
 exact fin
def qGl (fl:Nat) (c:Code) (p:Performance) (factor:Int) (judge:Int):Option (Int×Int) :=
 (qFp fl p.marks judge false).bind fun x1 =>
 (qH8 fl c p factor x1).bind fun x3 =>
 (qFp fl p.marks judge true).bind fun x5 =>
 (qH8 fl c p factor x5).bind fun x7 =>
 some (x3,x7)
theorem qPj (fl:Nat) (c:Code) (p:Performance) (factor:Int) (judge:Int) (r:(Int×Int)) (hH:qGl fl c p factor judge=some r):qAC prog 149 [.g (ze4 c),.g (ze8 p),factor,judge] (.t [.v (.int .i64 r.1),.v (.int .i64 r.2)]):=by
 refine fns T func149 ?_
 refine go ?_
 refine AO.x (bxs T 1) ?_
 refine AO.x (bxs T 2) (go ?_)
 obtain⟨x1,hx2,x3,hx4,x5,hx6,hH⟩:=qBC hH
 obtain⟨x7,hx8,hH⟩:=zB hH
 refine AW.drawn 15 3 [] mix (by kernel_rfl) rfl ?_
 refine go ?_
 refine AD.q (FStep.call rfl rfl rfl rfl rfl (qLQ fl _ _ _ _ (hx2)) rfl rfl) (qAu _ _) (qC5 _ _) rfl ?_
 refine AD.vald rfl rfl rfl (zLV rfl rfl rfl (es:=[.g (ze4 c),.g (ze8 p),factor,.g (qAb x1)]) ⟨.free rfl,.free rfl,.free rfl,qEN (LendL.cons ((.rowR rfl (.map fun y=>qAR y))) (LendL.cons ((.rowR rfl (.map fun y=>qAR y))) LendL.nil)),trivial⟩ (qLN fl _ _ _ _ _ (hx4)) (qAJ _) rfl) ?_
 refine go ?_
 refine AD.q (FStep.call rfl rfl rfl rfl rfl (qLQ fl _ _ _ _ (hx6)) rfl rfl) (qAu _ _) (qC5 _ _) rfl ?_
 refine AD.nil (AO.w (zLV rfl rfl rfl (es:=[.g (ze4 c),.g (ze8 p),factor,.g (qAb x5)]) ⟨.free rfl,.free rfl,.free rfl,qEN (LendL.cons ((.rowR rfl (.map fun y=>qAR y))) (LendL.cons ((.rowR rfl (.map fun y=>qAR y))) LendL.nil)),trivial⟩ (qLN fl _ _ _ _ _ (hx8)) (qAJ _) rfl) (go ?_))
 exact fin
def qCx (rA:Result):ac->Nat->Bool->ad
 | [],k1,v12 =>
  (qAa rA.skater 1 999).bind fun x14 =>
  (opt x14 default (qAa (rA.scores.length:Int) 1 3)).bind fun x16 =>
  some (x14&&x16)
 |y2::ys3,k1,v12 =>
  (qAa y2 (-1) 100000).bind fun x18 =>
  cond ((!x18)||(v12&&decide (y2>=0)))
   (some false)
   (qCx rA ys3 (k1+1) (decide (y2<0)))
def qJO (rA:Result):ad :=
 qCx rA rA.scores 0 false
theorem qOW (rA:Result) (r:Bool) (hH:qJO rA=some r):qAC prog 268 [.g (ze9 rA)] (.v (.bool r)):=by
 refine fns T func268 ?_
 refine go ?_
 refine AO.x (bxs T 1) (go ?_)
 refine AW.loopS (fun s:Nat×Bool=>(⟨[(1,.p 1 0),(3,.v (.bool s.2)),(7,sv ze0 rA.scores),(8,(rA.scores.length:Int)),(9,(s.1:Int))],[(1,.box [rA.skater,sv ze0 rA.scores])],35,[]⟩:St)) (fun s=>s.1<=rA.scores.length/\qCx rA (rA.scores.drop s.1) s.1 s.2=some r) (fun s=>rA.scores.length-s.1) (0,false) ⟨Nat.zero_le _,hH⟩ ?_ ?_
 exact Le.ct 0 0
 rintro⟨k1,v12⟩ ⟨hk,hH⟩
 try dsimp only at hH⊢
 refine AW.boundM (t:=7) (l:=rA.scores) rfl (fun hb5=>?_)
 rcases hd4:rA.scores.drop k1 with _|⟨y2,ys3⟩
 rw[hd4,qCx]at hH
 have hlt6:=qAF hd4
 refine go ?_
 obtain⟨x14,hx15,x16,hx17,hH⟩:=qAH hH
 refine go ?_
 refine AO.w (cVs (qAc _ _ _ _ (hx15))) ?_
 refine AO.pu T ?_
 refine AO.g0 T ?_
 refine AO.g1 T 30 ?_
 refine AO.d1 31 (fun hg=>qMi T) ?_
 refine AO.d1 32 (fun hg=>cVs (qAc _ _ _ _ (qE9 hx17 hg))) ?_
 refine go ?_
 exact fin
 rw[hd4,qCx]at hH
 have hlt6:=qAG hd4
 refine go ?_
 obtain⟨x18,hx19,hH⟩:=zB hH
 refine go ?_
 refine AO.w (cVs (qAc _ _ _ _ (hx19))) (go ?_)
 refine AO.g0 T ?_
 refine AO.g1 T 17 ?_
 refine AO.g0 T ?_
 refine AO.g1 T 19 ?_
 refine AO.d [18] rfl ⟨fun h=>h,trivial⟩ (fun hg=>zN rfl rfl rfl (by rw[hg];exact Bool.true_and _)) rfl ?_
 refine go ?_
 refine AW.cH hH (fun _ hH=>?_) (fun _ hH=>?_)
 refine go ?_
 exact fin
 refine go ?_
 refine⟨(k1+1,decide (y2<0)),⟨hlt6,(zds hd4▸hH)⟩,qBl hlt6,?_⟩
 exact Le.ct 0 0
def qEm (n:Int):ac->Nat->ad
 | [],k1 =>
  some false
 |y2::ys3,k1 =>
  cond (y2==n)
   (some true)
   (qEm n ys3 (k1+1))
def qLT (l:ac) (n:Int):ad :=
 qEm n l 0
theorem qRH (l:ac) (n:Int) (r:Bool) (hH:qLT l n=some r):qAC prog 269 [.s (List.map ze0 l),n] (.v (.bool r)):=by
 refine fns T func269 ?_
 refine go ?_
 refine AW.loopS (fun s:Nat=>(⟨[(1,n),(7,sv ze0 l),(8,(l.length:Int)),(9,(s:Int))],[],17,[]⟩:St)) (fun s=>s<=l.length/\qEm n (l.drop s) s=some r) (fun s=>l.length-s) 0 ⟨Nat.zero_le _,hH⟩ ?_ ?_
 exact Le.ct 0 0
 rintro k1 ⟨hk,hH⟩
 try dsimp only at hH⊢
 refine AW.boundM (t:=7) (l:=l) rfl (fun hb5=>?_)
 rcases hd4:l.drop k1 with _|⟨y2,ys3⟩
 rw[hd4,qEm]at hH
 have hlt6:=qAF hd4
 refine go ?_
 exact fin
 rw[hd4,qEm]at hH
 have hlt6:=qAG hd4
 refine go ?_
 refine AW.cH hH (fun _ hH=>?_) (fun _ hH=>?_)
 refine go ?_
 exact fin
 refine go ?_
 refine⟨k1+1,⟨hlt6,(zds hd4▸hH)⟩,qBl hlt6,?_⟩
 exact Le.ct 0 0
def qEE (l:List Result):List Result->Nat->ac->ad
 | [],k1,v24 =>
  some (decide ((l.length:Int)<=40))
 |y2::ys3,k1,v24 =>
  (qJO y2).bind fun x26 =>
  (opt (!(!x26)) default (qLT v24 y2.skater)).bind fun x28 =>
  (opt (!((!x26)||x28)) default (qAT l 0)).bind fun x30 =>
  cond (((!x26)||x28)||((y2.scores.length:Int) != (x30.scores.length:Int)))
   (some false)
   ((qAq (qAi 8 (v24.length+([y2.skater]).length))).bind fun u32 =>
   qEE l ys3 (k1+1) (v24++[y2.skater]))
def qIp (l:List Result):ad :=
 qEE l l 0 []
theorem qP4 (l:List Result) (r:Bool) (hH:qIp l=some r):qAC prog 215 [.s (List.map ze9 l)] (.v (.bool r)):=by
 refine fns T func215 ?_
 refine go ?_
 refine AW.loopS (fun s:Nat×(ac)=>(⟨[(0,sv ze9 l),(3,.R 6),(6,sv ze9 l),(7,(l.length:Int)),(8,(s.1:Int))],[(6,ro 1 ze0 s.2)],41,[]⟩:St)) (fun s=>s.1<=l.length/\qEE l (l.drop s.1) s.1 s.2=some r) (fun s=>l.length-s.1) (0,[]) ⟨Nat.zero_le _,hH⟩ ?_ ?_
 refine Le.trans (Le.void 3 6 1 rfl rfl) ?_
 exact Le.ct 0 0
 rintro⟨k1,v24⟩ ⟨hk,hH⟩
 try dsimp only at hH⊢
 refine AW.boundM (t:=0) (l:=l) rfl (fun hb5=>?_)
 rcases hd4:l.drop k1 with _|⟨y2,ys3⟩
 rw[hd4,qEE]at hH
 have hlt6:=qAF hd4
 refine go ?_
 exact fin
 rw[hd4,qEE]at hH
 have hlt6:=qAG hd4
 refine go ?_
 refine AO.x (als T 7) ?_
 refine AO.se T [y2.skater,sv ze0 y2.scores] ?_
 refine go ?_
 obtain⟨x26,hx27,x28,hx29,x30,hx31,hH⟩:=qBC hH
 refine AW.drawn 18 8 [] mix (by kernel_rfl) rfl ?_
 refine go ?_
 refine AD.vv (cVs (qOW _ _ (hx27))) ?_
 refine go ?_
 refine AD.pureG T [] rfl trivial rfl rfl ?_
 refine AD.pureG T [] rfl trivial rfl rfl ?_
 refine AD.pureG T [17] rfl ⟨fun h=>h,trivial⟩ rfl rfl ?_
 refine AD.guard [16,18] rfl ⟨fun h=>h,fun h=>h,trivial⟩ (fun hg=>zLV rfl rfl rfl (es:=[sv ze0 v24,y2.skater]) ⟨(.rowR rfl (.map fun y=>.vs rfl)),.free rfl,trivial⟩ (qRH _ _ _ (qE9 hx29 hg)) (qAJ _) rfl) rfl ?_
 refine AD.vv ors ?_
 refine AD.pu T ?_
 refine AD.pureG T [] rfl trivial rfl rfl ?_
 refine AD.pureG T [22] rfl ⟨fun h=>h,trivial⟩ rfl rfl ?_
 refine AD.guard [23] rfl ⟨fun h=>h,trivial⟩ (fun hg=>qMi T) rfl ?_
 refine AD.pureG T [] rfl trivial rfl rfl ?_
 refine AD.guard [25] rfl ⟨fun h=>h,trivial⟩ (fun hg=>ixs T (qE9 hx31 hg)) rfl ?_
 refine AD.pureG T [26] rfl ⟨fun h=>h,trivial⟩ rfl rfl ?_
 refine AD.pureG T [27] rfl ⟨fun h=>h,trivial⟩ rfl rfl ?_
 refine AD.guard [28] rfl ⟨fun h=>h,trivial⟩ (fun hg=>qMi T) rfl ?_
 refine AD.nil (AO.g2 T 24 29 ?_)
 refine gs2 ?_
 refine AW.le (Le.ct 0 0 (σ':=(⟨[(0,sv ze9 l),(3,.R 6),(5,.p 7 0),(6,sv ze9 l),(7,(l.length:Int)),(8,(k1:Int)),(31,.v (.bool (((!x26)||x28)||((y2.scores.length:Int) != (x30.scores.length:Int)))))],[(6,ro 1 ze0 v24),(7,.box [y2.skater,sv ze0 y2.scores])],41,[]⟩:St))) ?_
 refine AW.cH hH (fun _ hH=>?_) (fun _ hH=>?_)
 refine go ?_
 exact fin
 refine AW.k ?_
 obtain⟨u32,hx33,hH⟩:=zB hH
 refine go ?_
 refine AO.x (mks T 8 ze0 ([y2.skater])) ?_
 refine AO.x (rvs T 9 (hfit:=by exact qAP (hx33))) (go ?_)
 refine⟨(k1+1,(v24++[y2.skater])),⟨hlt6,(zds hd4▸hH)⟩,qBl hlt6,?_⟩
 exact Le.ct 9 6
def qEv (fl:Nat) (x:CsState) (n:Int):Option (CsState×aa) :=
 (qAq (qAi 32 x.results.length)).bind fun u1 =>
 (qDP fl x.code x.p x.factor).bind fun x3 =>
 (qAq (qAi 32 (x.results.length+([(Result.mk n [x3])]).length))).bind fun u5 =>
 (qIp (x.results++[(Result.mk n [x3])])).bind fun x7 =>
 cond (!x7)
  (some (x,(⟨#[110,111]⟩:aa)))
  ((qCb fl (x.results++[(Result.mk n [x3])]) (w64 ((((x.results++[(Result.mk n [x3])])).length:Int)-1))).bind fun x9 =>
  (qBd fl fl x9).bind fun x11 =>
  some ((CsState.mk x.code x.p x.factor (x.results++[(Result.mk n [x3])]) x.no x.what x.lines),x11))
theorem qK4 (fl:Nat) (x:CsState) (n:Int) (r:(CsState×aa)) (hH:qEv fl x n=some r):qFe prog 150 [.pn (qGH x),n] [.pn (qGH r.1),.u] (.v (.string r.2)):=by
 refine qFh T func150 rfl (by decide) rfl rfl [.p 1 0,n] [(1,.box (qF2 x 2 3)),(3,ro 1 ze0 x.what),(2,ro 1 ze0 x.no)] 4 (by kernel_rfl) [1] rfl rfl ?_
 intro L
 show AW _ _ _ (⟨[(0,.p 1 0),(1,n)],[(1,.box (qF2 x 2 3)),(3,ro 1 ze0 x.what),(2,ro 1 ze0 x.no)],43,[(1,L 1)]⟩:St)
 refine go ?_
 obtain⟨u1,hx2,x3,hx4,u5,hx6,hH⟩:=qBC hH
 refine AW.drawn 21 4 [] mix (by kernel_rfl) rfl ?_
 refine AD.v (FStep.mk0 T rfl rfl rfl rfl rfl) ?_
 refine go ?_
 refine AD.q (FStep.app_ws T rfl rfl rfl rfl rfl rfl rfl (by decide) (by decide) rfl rfl (fun _=>rfl) (qAP (hx2)) rfl) (by simp[qA1]) (Nat.le_succ _) rfl ?_
 refine go ?_
 refine AD.vv (cVs (qHX fl _ _ _ _ (hx4))) ?_
 refine AD.q (FStep.mk T (f:=ze0) (l:=[x3]) rfl rfl rfl rfl rfl rfl rfl rfl rfl (fun _=>rfl) rfl rfl rfl rfl) (by simp[qA1]) (Nat.le_succ _) rfl ?_
 refine gs2 ?_
 refine AO.le (Le.fM 5 (g:=ze0) rfl (fun y=>.vs rfl)) ?_
 refine AO.x (mks T 6 ze9 ([(Result.mk n [x3])])) ?_
 refine AO.x (rvs T 7 (hfit:=by exact qAP (hx6))) ?_
 refine gs2 ?_
 refine AW.le (Le.ct 0 0 (σ':=(⟨[(0,.p 1 0),(5,.R 7)],[(1,.box (qF2 x 2 3)),(2,ro 1 ze0 x.no),(3,ro 1 ze0 x.what),(7,ro 2 ze9 (x.results++[(Result.mk n [x3])]))],43,[(1,L 1)]⟩:St)) (hpin:=⟨⟨rfl,rfl⟩,trivial⟩)) ?_
 refine go ?_
 obtain⟨x7,hx8,hH⟩:=zB hH
 refine go ?_
 refine AO.w (zLV rfl rfl rfl (es:=[sv ze9 (x.results++[(Result.mk n [x3])])]) ⟨(.rowR rfl (.map fun y=>.vs rfl)),trivial⟩ (qP4 _ _ (hx8)) (qAJ _) rfl) (go ?_)
 refine AW.cH hH (fun _ hH=>?_) (fun _ hH=>?_)
 refine go ?_
 exact qEa
 refine go ?_
 refine AO.se T [sv ze7 x.code.elements,sv ze0 x.code.limits,x.code.repeats,x.code.bonus,x.code.keeps,x.code.fall,sv ze3 x.p.items,sv ze5 x.p.marks.grades,sv ze5 x.p.marks.components,x.p.slips.falls,x.p.slips.seconds,x.p.slips.other,x.factor,.R 7,.R 2,.R 3,x.lines] ?_
 refine go ?_
 obtain⟨x9,hx10,x11,hx12,hH⟩:=qAH hH
 refine go ?_
 refine AO.w (zLV rfl rfl rfl (es:=[sv ze9 (x.results++[(Result.mk n [x3])]),w64 ((((x.results++[(Result.mk n [x3])])).length:Int)-1)]) ⟨(.rowR rfl (.map fun y=>.vs rfl)),.free rfl,trivial⟩ (qLg fl _ _ _ (hx10)) (qAJ _) rfl) ?_
 refine AO.w (cVs (qKh fl fl _ _ (hx12))) ?_
 refine gs2 ?_
 refine AW.le (Le.fM 7 (g:=ze9) rfl (fun y=>.vs rfl)) ?_
 refine AW.t ?_
 exact qEa
def qAE (fl:Nat) (x:CsState) (w:aa) (n:ac):Option (CsState×aa) :=
 (qAY x.p x.p.items).bind fun x1 =>
 cond (decide (w=(⟨#[108,105,109,105,116]⟩:aa)))
  ((qBP fl x w n).bind fun x4 =>
  some (x4.1,x4.2))
  (cond (decide (w=(⟨#[114,117,108,101,115]⟩:aa)))
   ((qBP fl x w n).bind fun x7 =>
   some (x7.1,x7.2))
   (cond (decide (w=(⟨#[106,117,100,103,101,115]⟩:aa)))
    ((qAf fl x w n).bind fun x10 =>
    some (x10.1,x10.2))
    (cond (decide (w=(⟨#[103,114,97,100,101]⟩:aa)))
     ((qAf fl x w n).bind fun x13 =>
     some (x13.1,x13.2))
     (cond (decide (w=(⟨#[99,111,109,112,111,110,101,110,116]⟩:aa)))
      ((qAf fl x w n).bind fun x16 =>
      some (x16.1,x16.2))
      (cond (decide (w=(⟨#[115,108,105,112,115]⟩:aa)))
       ((qAT n 0).bind fun x19 =>
       (qAT n 1).bind fun x21 =>
       (qAT n 2).bind fun x23 =>
       (qAN fl x x.code (Performance.mk x1.items x1.marks (Slips.mk x19 x21 x23))).bind fun x25 =>
       some (x25.1,x25.2))
       (cond (decide (w=(⟨#[102,97,99,116,111,114]⟩:aa)))
        ((qAT n 0).bind fun x28 =>
        (qFE x28).bind fun x30 =>
        cond (!x30)
         (some (x,(⟨#[110,111]⟩:aa)))
         (some ((CsState.mk x.code x.p x28 x.results x.no x.what x.lines),(⟨#[111,107]⟩:aa))))
        (cond (decide (w=(⟨#[114,97,110,103,101]⟩:aa)))
         ((qAT n 0).bind fun x33 =>
         (qF9 x1.marks x33).bind fun x35 =>
         cond (!x35)
          (some (x,(⟨#[110,111]⟩:aa)))
          ((qGl fl x.code x1 x.factor x33).bind fun x37 =>
          (qBE fl [x37.1,x37.2]).bind fun x39 =>
          some (x,x39)))
         ((qAT n 0).bind fun x41 =>
         (qEv fl x x41).bind fun x43 =>
         some (x43.1,x43.2)))))))))
theorem qKQ (fl:Nat) (x:CsState) (w:aa) (n:ac) (r:(CsState×aa)) (hH:qAE fl x w n=some r):qFe prog 109 [.pn (qGH x),.v (.string w),.s (List.map ze0 n)] [.pn (qGH r.1),.u,.u] (.v (.string r.2)):=by
 refine qFh T func109 rfl (by decide) rfl rfl [.p 1 0,.v (.string w),sv ze0 n] [(1,.box (qF2 x 2 3)),(3,ro 1 ze0 x.what),(2,ro 1 ze0 x.no)] 4 (by kernel_rfl) [1] rfl rfl ?_
 intro L
 show AW _ _ _ (⟨[(0,.p 1 0),(1,.v (.string w)),(2,sv ze0 n)],[(1,.box (qF2 x 2 3)),(3,ro 1 ze0 x.what),(2,ro 1 ze0 x.no)],103,[(1,L 1)]⟩:St)
 refine go ?_
 obtain⟨x1,hx2,hH⟩:=zB hH
 refine AW.drawn 11 4 [] mix (by kernel_rfl) rfl ?_
 refine go ?_
 refine AD.q (FStep.call rfl rfl rfl rfl rfl (qFq _ _ _ (hx2)) rfl rfl) (qAu _ _) (qC5 _ _) rfl ?_
 refine AD.q (FStep.alloc T rfl rfl rfl rfl rfl rfl) (by simp[qA1]) (Nat.le_succ _) rfl ?_
 refine AD.nil (AO.se T [.R 4,.R 5,.R 6,x1.slips.falls,x1.slips.seconds,x1.slips.other] ?_)
 refine go ?_
 refine AW.cH hH (fun hc3 hH=>?_) (fun _ hH=>?_)
 refine AW.k (AW.condT' rfl hc3 ?_)
 refine AW.q ?_
 obtain⟨x4,hx5,hH⟩:=zB hH
 refine go ?_
 refine AO.x (qAd (qF2 x4.1 8 9) [(9,ro 1 ze0 x4.1.what),(8,ro 1 ze0 x4.1.no)] 10 (by kernel_rfl) rfl 8 rfl rfl rfl rfl (es:=[.pn (qGH x),.v (.string w),.s (n.map ze0)]) (us:=[.u,.u]) (cs:=qGH x4.1) (ids:=[1,2,3]) (by exact zG (.pb rfl (qA4 rfl rfl)) (zG (.c .v) (zG (.c .s) (zGn)))) (by decide) (by decide) (qHI fl _ _ _ _ (hx5)) rfl rfl (by rfl) rfl) (go ?_)
 exact qEa
 refine go ?_
 refine AW.cH hH (fun _ hH=>?_) (fun _ hH=>?_)
 refine AW.q ?_
 obtain⟨x7,hx8,hH⟩:=zB hH
 refine go ?_
 refine AO.x (qAd (qF2 x7.1 10 11) [(11,ro 1 ze0 x7.1.what),(10,ro 1 ze0 x7.1.no)] 12 (by kernel_rfl) rfl 10 rfl rfl rfl rfl (es:=[.pn (qGH x),.v (.string w),.s (n.map ze0)]) (us:=[.u,.u]) (cs:=qGH x7.1) (ids:=[1,2,3]) (by exact zG (.pb rfl (qA4 rfl rfl)) (zG (.c .v) (zG (.c .s) (zGn)))) (by decide) (by decide) (qHI fl _ _ _ _ (hx8)) rfl rfl (by rfl) rfl) (go ?_)
 exact qEa
 refine go ?_
 refine AW.cH hH (fun hc9 hH=>?_) (fun _ hH=>?_)
 refine AW.k (AW.condT' rfl hc9 ?_)
 refine AW.q ?_
 obtain⟨x10,hx11,hH⟩:=zB hH
 refine go ?_
 refine AO.x (qAd (qF2 x10.1 12 13) [(13,ro 1 ze0 x10.1.what),(12,ro 1 ze0 x10.1.no)] 14 (by kernel_rfl) rfl 12 rfl rfl rfl rfl (es:=[.pn (qGH x),.v (.string w),.s (n.map ze0)]) (us:=[.u,.u]) (cs:=qGH x10.1) (ids:=[1,2,3]) (by exact zG (.pb rfl (qA4 rfl rfl)) (zG (.c .v) (zG (.c .s) (zGn)))) (by decide) (by decide) (qE8 fl _ _ _ _ (hx11)) rfl rfl (by rfl) rfl) ?_
 refine gs2 ?_
 refine AW.le (Le.ct 0 0 (σ':=(⟨[(6,.v (.string x10.2))],[(1,.box (qF2 x10.1 12 13)),(12,ro 1 ze0 x10.1.no),(13,ro 1 ze0 x10.1.what)],103,[(1,L 1)]⟩:St)) (hpin:=⟨⟨rfl,rfl⟩,trivial⟩)) ?_
 refine AW.t ?_
 exact qEa
 refine go ?_
 refine AW.cH hH (fun hc12 hH=>?_) (fun _ hH=>?_)
 refine AW.k (AW.condT' rfl hc12 ?_)
 refine AW.q ?_
 obtain⟨x13,hx14,hH⟩:=zB hH
 refine go ?_
 refine AO.x (qAd (qF2 x13.1 14 15) [(15,ro 1 ze0 x13.1.what),(14,ro 1 ze0 x13.1.no)] 16 (by kernel_rfl) rfl 14 rfl rfl rfl rfl (es:=[.pn (qGH x),.v (.string w),.s (n.map ze0)]) (us:=[.u,.u]) (cs:=qGH x13.1) (ids:=[1,2,3]) (by exact zG (.pb rfl (qA4 rfl rfl)) (zG (.c .v) (zG (.c .s) (zGn)))) (by decide) (by decide) (qE8 fl _ _ _ _ (hx14)) rfl rfl (by rfl) rfl) ?_
 refine gs2 ?_
 refine AW.le (Le.ct 0 0 (σ':=(⟨[(6,.v (.string x13.2))],[(1,.box (qF2 x13.1 14 15)),(14,ro 1 ze0 x13.1.no),(15,ro 1 ze0 x13.1.what)],103,[(1,L 1)]⟩:St)) (hpin:=⟨⟨rfl,rfl⟩,trivial⟩)) ?_
 refine AW.t ?_
 exact qEa
 refine gs4 ?_
 refine AW.le (Le.ct 0 0 (σ':=(⟨[(0,.p 1 0),(1,.v (.string w)),(2,sv ze0 n),(7,.p 7 0),(20,.v (.string w)),(28,.v (.bool (decide (w=(⟨#[99,111,109,112,111,110,101,110,116]⟩:aa)))))],[(1,.box (qF2 x 2 3)),(2,ro 1 ze0 x.no),(3,ro 1 ze0 x.what),(4,ro 3 ze6 x1.items),(5,ro 1 ze1 x1.marks.grades),(6,ro 1 ze1 x1.marks.components),(7,.box [.R 4,.R 5,.R 6,x1.slips.falls,x1.slips.seconds,x1.slips.other])],103,[(1,L 1)]⟩:St)) (hpin:=⟨⟨rfl,rfl⟩,trivial⟩)) ?_
 refine AW.cH hH (fun _ hH=>?_) (fun _ hH=>?_)
 refine AW.q ?_
 obtain⟨x16,hx17,hH⟩:=zB hH
 refine go ?_
 refine AO.x (qAd (qF2 x16.1 16 17) [(17,ro 1 ze0 x16.1.what),(16,ro 1 ze0 x16.1.no)] 18 (by kernel_rfl) rfl 16 rfl rfl rfl rfl (es:=[.pn (qGH x),.v (.string w),.s (n.map ze0)]) (us:=[.u,.u]) (cs:=qGH x16.1) (ids:=[1,2,3]) (by exact zG (.pb rfl (qA4 rfl rfl)) (zG (.c .v) (zG (.c .s) (zGn)))) (by decide) (by decide) (qE8 fl _ _ _ _ (hx17)) rfl rfl (by rfl) rfl) (go ?_)
 exact qEa
 refine go ?_
 refine AW.cH hH (fun _ hH=>?_) (fun _ hH=>?_)
 refine AW.q ?_
 obtain⟨x19,hx20,x21,hx22,x23,hx24,hH⟩:=qBC hH
 refine AW.drawn 9 18 [] mix (by kernel_rfl) rfl ?_
 refine go ?_
 refine AO.se T [.R 4,.R 5,.R 6,x19,x21,x23] ?_
 refine go ?_
 obtain⟨x25,hx26,hH⟩:=zB hH
 refine AW.le (Le.fM 4 (g:=ze3) rfl (fun y=>qCJ y)) ?_
 refine AW.le (Le.fM 5 (g:=ze5) rfl (fun y=>qAR y)) ?_
 refine AW.le (Le.fM 6 (g:=ze5) rfl (fun y=>qAR y)) ?_
 refine AW.drawn 6 18 [] mix (by kernel_rfl) rfl ?_
 refine go ?_
 refine AO.x (qAd (qF2 x25.1 18 19) [(19,ro 1 ze0 x25.1.what),(18,ro 1 ze0 x25.1.no)] 20 (by kernel_rfl) rfl 18 rfl rfl rfl rfl (es:=[.pn (qGH x),.g (ze4 x.code),.g (ze8 (Performance.mk x1.items x1.marks (Slips.mk x19 x21 x23)))]) (us:=[.u,.u]) (cs:=qGH x25.1) (ids:=[1,2,3]) (by exact zG (.pb rfl (qA4 rfl rfl)) (zG (.g (zC .s (zC .s (zC .v (zC .v (zC .v (zC .v (zCn)))))))) (zG (.g (zC .s (zC .s (zC .s (zC .v (zC .v (zC .v (zCn)))))))) (zGn)))) (by decide) (by decide) (qBG fl _ _ _ _ (hx26)) rfl rfl (by rfl) rfl) (go ?_)
 exact qEa
 refine go ?_
 refine AW.cH hH (fun _ hH=>?_) (fun _ hH=>?_)
 refine go ?_
 obtain⟨x28,hx29,x30,hx31,hH⟩:=qAH hH
 refine go ?_
 refine AO.w (cVs (qKp _ _ (hx31))) (go ?_)
 refine AW.cH hH (fun _ hH=>?_) (fun hc hH=>?_)
 refine go ?_
 exact qEa
 refine go ?_
 refine AO.se T [sv ze7 x.code.elements,sv ze0 x.code.limits,x.code.repeats,x.code.bonus,x.code.keeps,x.code.fall,sv ze3 x.p.items,sv ze5 x.p.marks.grades,sv ze5 x.p.marks.components,x.p.slips.falls,x.p.slips.seconds,x.p.slips.other,x28,sv ze9 x.results,.R 2,.R 3,x.lines] ?_
 refine go ?_
 exact qEa
 refine go ?_
 refine AW.cH hH (fun _ hH=>?_) (fun _ hH=>?_)
 refine go ?_
 obtain⟨x33,hx34,x35,hx36,hH⟩:=qAH hH
 refine AW.drawn 5 20 [] mix (by kernel_rfl) rfl ?_
 refine go ?_
 refine AO.w (zLV rfl rfl rfl (es:=[.g (qAb x1.marks),x33]) ⟨qEN (LendL.cons ((.rowR rfl (.map fun y=>qAR y))) (LendL.cons ((.rowR rfl (.map fun y=>qAR y))) LendL.nil)),.free rfl,trivial⟩ (qKj _ _ _ (hx36)) (qAJ _) rfl) (go ?_)
 refine AW.cH hH (fun _ hH=>?_) (fun _ hH=>?_)
 refine go ?_
 exact qEa
 refine go ?_
 obtain⟨x37,hx38,hH⟩:=zB hH
 refine AW.drawn 17 20 [] mix (by kernel_rfl) rfl ?_
 refine go ?_
 refine AD.vv (zLV rfl rfl rfl (es:=[.g (ze4 x.code),.g (ze8 x1),x.factor,x33]) ⟨.free rfl,qEN (LendL.cons ((.rowR rfl (.map fun y=>qCJ y))) (LendL.cons ((.rowR rfl (.map fun y=>qAR y))) (LendL.cons ((.rowR rfl (.map fun y=>qAR y))) (LendL.cons (.free rfl) (LendL.cons (.free rfl) (LendL.cons (.free rfl) LendL.nil)))))),.free rfl,.free rfl,trivial⟩ (qPj fl _ _ _ _ _ (hx38)) (qMa (zfl (.cons (qAJ _) (.cons (qAJ _) .nil)))) rfl) ?_
 refine gs7 ?_
 refine AW.le (Le.ct 0 0 (σ':=(⟨[(8,x37.1),(9,x37.2)],[(1,.box (qF2 x 2 3)),(2,ro 1 ze0 x.no),(3,ro 1 ze0 x.what)],103,[(1,L 1)]⟩:St)) (hpin:=⟨⟨rfl,rfl⟩,trivial⟩)) ?_
 refine AW.q ?_
 obtain⟨x39,hx40,hH⟩:=zB hH
 refine go ?_
 refine AO.x (mks T 20 ze0 ([x37.1,x37.2])) ?_
 refine AO.w (zLV rfl rfl rfl (es:=[sv ze0 [x37.1,x37.2]]) ⟨(.rowR rfl (.map fun y=>.vs rfl)),trivial⟩ (qF4 fl _ _ (hx40)) (qAJ _) rfl) (go ?_)
 exact qEa
 refine go ?_
 obtain⟨x41,hx42,x43,hx44,hH⟩:=qAH hH
 refine go ?_
 refine AO.x (qAd (qF2 x43.1 21 22) [(22,ro 1 ze0 x43.1.what),(21,ro 1 ze0 x43.1.no)] 23 (by kernel_rfl) rfl 21 rfl rfl rfl rfl (es:=[.pn (qGH x),.v (.int .i64 x41)]) (us:=[.u]) (cs:=qGH x43.1) (ids:=[1,2,3]) (by exact zG (.pb rfl (qA4 rfl rfl)) (zG (.c .v) (zGn))) (by decide) (by decide) (qK4 fl _ _ _ (hx44)) rfl rfl (by rfl) rfl) (go ?_)
 exact qEa
def qAB (fl:Nat) (x:CsState) (t:aa):Option (CsState×aa) :=
 (qA2 fl t 32).bind fun x1 =>
 cond ((x1.length:Int)==1)
  ((qAX fl x t).bind fun x3 =>
  some (x3.1,x3.2))
  ((qAT x1 0).bind fun x5 =>
  cond (decide (x5=(⟨#[105,116,101,109]⟩:aa)))
   ((qAq (inB 5 t.size t.size)).bind fun u8 =>
   (qCM fl x (ByteArray.extract t (5:Int).toNat t.size)).bind fun x10 =>
   some (x10.1,x10.2))
   (cond (decide (x5=(⟨#[99,97,108,108]⟩:aa)))
    ((qDC x1 1).bind fun x13 =>
    (qBi fl x x13).bind fun x15 =>
    some (x15.1,x15.2))
    (cond (decide (x5=(⟨#[101,108,101,109,101,110,116]⟩:aa)))
     ((qDC x1 2).bind fun x18 =>
     (qCr fl x18 false).bind fun x20 =>
     cond ((!x20.2)||((x20.1.length:Int) != 3))
      (some (x,(⟨#[119,104,97,116]⟩:aa)))
      ((qAT x1 1).bind fun x22 =>
      (qC9 fl x x22 x20.1).bind fun x24 =>
      some (x24.1,x24.2)))
     ((qDC x1 1).bind fun x26 =>
     (qCr fl x26 (decide (x5=(⟨#[103,114,97,100,101]⟩:aa)))).bind fun x28 =>
     (opt (!(!x28.2)) default (qEj x5)).bind fun x30 =>
     cond ((!x28.2)||((x28.1.length:Int) != x30))
      (some (x,(⟨#[119,104,97,116]⟩:aa)))
      ((qAE fl x x5 x28.1).bind fun x32 =>
      some (x32.1,x32.2))))))
theorem qL5 (fl:Nat) (x:CsState) (t:aa) (r:(CsState×aa)) (hH:qAB fl x t=some r):qFe prog 74 [.pn (qGH x),.v (.string t)] [.pn (qGH r.1),.u] (.v (.string r.2)):=by
 refine qFh T func74 rfl (by decide) rfl rfl [.p 1 0,.v (.string t)] [(1,.box (qF2 x 2 3)),(3,ro 1 ze0 x.what),(2,ro 1 ze0 x.no)] 4 (by kernel_rfl) [1] rfl rfl ?_
 intro L
 show AW _ _ _ (⟨[(0,.p 1 0),(1,.v (.string t))],[(1,.box (qF2 x 2 3)),(3,ro 1 ze0 x.what),(2,ro 1 ze0 x.no)],88,[(1,L 1)]⟩:St)
 refine gs5 ?_
 obtain⟨x1,hx2,hH⟩:=zB hH
 refine gs2 ?_
 refine AO.x (qAV rfl 4 rfl rfl rfl (qHZ fl _ _ _ (hx2)) rfl rfl rfl) ?_
 iterate 11 refine gs ?_
 refine AW.cH hH (fun _ hH=>?_) (fun hc hH=>?_)
 refine AW.q ?_
 obtain⟨x3,hx4,hH⟩:=zB hH
 refine gs3 ?_
 refine AO.x (qAd (qF2 x3.1 5 6) [(6,ro 1 ze0 x3.1.what),(5,ro 1 ze0 x3.1.no)] 7 (by kernel_rfl) rfl 5 rfl rfl rfl rfl (es:=[.pn (qGH x),.v (.string t)]) (us:=[.u]) (cs:=qGH x3.1) (ids:=[1,2,3]) (by exact zG (.pb rfl (qA4 rfl rfl)) (zG (.c .v) (zGn))) (by decide) (by decide) (qLI fl _ _ _ (hx4)) rfl rfl (by rfl) rfl) ?_
 refine gs3 ?_
 exact qEa
 refine AW.q ?_
 obtain⟨x5,hx6,hH⟩:=zB hH
 refine gs3 ?_
 refine AO.w (zLr T rfl rfl rfl rfl (zgG (hx6)) rfl rfl rfl) ?_
 refine gs3 ?_
 refine AW.cH hH (fun _ hH=>?_) (fun _ hH=>?_)
 refine AW.q ?_
 obtain⟨u8,hx9,x10,hx11,hH⟩:=qAH hH
 refine gs3 ?_
 refine AO.w (qFS T rfl rfl rfl rfl (qAP (hx9))) ?_
 refine AO.x (qAd (qF2 x10.1 7 8) [(8,ro 1 ze0 x10.1.what),(7,ro 1 ze0 x10.1.no)] 9 (by kernel_rfl) rfl 7 rfl rfl rfl rfl (es:=[.pn (qGH x),.v (.string (ByteArray.extract t (5:Int).toNat t.size))]) (us:=[.u]) (cs:=qGH x10.1) (ids:=[1,2,3]) (by exact zG (.pb rfl (qA4 rfl rfl)) (zG (.c .v) (zGn))) (by decide) (by decide) (qMA fl _ _ _ (hx11)) rfl rfl (by rfl) rfl) ?_
 refine gs3 ?_
 exact qEa
 refine gs4 ?_
 refine AO.w (zLr T rfl rfl rfl rfl (zgG (hx6)) rfl rfl rfl) ?_
 refine gs3 ?_
 refine AW.cH hH (fun _ hH=>?_) (fun _ hH=>?_)
 refine AW.q ?_
 obtain⟨x13,hx14,x15,hx16,hH⟩:=qAH hH
 refine AW.le (Le.fM 4 (g:=ze2) rfl (fun y=>.vs rfl)) ?_
 refine gs3 ?_
 refine AO.w (qDf T rfl rfl rfl rfl rfl (hx14) (fun _=>rfl)) ?_
 refine AO.x (qAd (qF2 x15.1 9 10) [(10,ro 1 ze0 x15.1.what),(9,ro 1 ze0 x15.1.no)] 11 (by kernel_rfl) rfl 9 rfl rfl rfl rfl (es:=[.pn (qGH x),.s (x13.map ze2)]) (us:=[.u]) (cs:=qGH x15.1) (ids:=[1,2,3]) (by exact zG (.pb rfl (qA4 rfl rfl)) (zG (.c .s) (zGn))) (by decide) (by decide) (qKB fl _ _ _ (hx16)) rfl rfl (by rfl) rfl) ?_
 refine gs3 ?_
 exact qEa
 refine gs4 ?_
 refine AO.w (zLr T rfl rfl rfl rfl (zgG (hx6)) rfl rfl rfl) ?_
 refine gs3 ?_
 refine AW.cH hH (fun _ hH=>?_) (fun _ hH=>?_)
 refine AW.q ?_
 obtain⟨x18,hx19,x20,hx21,hH⟩:=qAH hH
 refine AW.le (Le.fM 4 (g:=ze2) rfl (fun y=>.vs rfl)) ?_
 refine gs2 ?_
 refine AO.w (qDf T rfl rfl rfl rfl rfl (hx19) (fun _=>rfl)) ?_
 refine AO.x (qAV rfl 11 rfl rfl rfl (qH1 fl _ _ _ (hx21)) rfl rfl rfl) ?_
 refine gs6 ?_
 refine AW.le (Le.ct 0 0 (σ':=(⟨[(0,.p 1 0),(5,sv ze2 x1),(6,.R 11),(7,.v (.bool x20.2))],[(1,.box (qF2 x 2 3)),(2,ro 1 ze0 x.no),(3,ro 1 ze0 x.what),(11,ro 1 ze0 x20.1)],88,[(1,L 1)]⟩:St)) (hpin:=⟨⟨rfl,rfl⟩,trivial⟩)) ?_
 refine gs6 ?_
 refine AO.g0 T ?_
 refine AO.d1 51 (fun hg=>qJv T rfl rfl rfl rfl) ?_
 refine AO.g1 T 52 ?_
 refine gs2 ?_
 refine AW.cH hH (fun _ hH=>?_) (fun hc hH=>?_)
 refine gs5 ?_
 exact qEa
 refine gs2 ?_
 obtain⟨x22,hx23,x24,hx25,hH⟩:=qAH hH
 refine AW.le (Le.fM 11 (g:=ze0) rfl (fun y=>.vs rfl)) ?_
 refine gs6 ?_
 refine AO.x (qAd (qF2 x24.1 12 13) [(13,ro 1 ze0 x24.1.what),(12,ro 1 ze0 x24.1.no)] 14 (by kernel_rfl) rfl 12 rfl rfl rfl rfl (es:=[.pn (qGH x),.v (.string x22),.s (x20.1.map ze0)]) (us:=[.u,.u]) (cs:=qGH x24.1) (ids:=[1,2,3]) (by exact zG (.pb rfl (qA4 rfl rfl)) (zG (.c .v) (zG (.c .s) (zGn)))) (by decide) (by decide) (qKT fl _ _ _ _ (hx25)) rfl rfl (by rfl) rfl) ?_
 refine gs3 ?_
 exact qEa
 refine gs2 ?_
 obtain⟨x26,hx27,x28,hx29,hH⟩:=qAH hH
 refine AW.le (Le.fM 4 (g:=ze2) rfl (fun y=>.vs rfl)) ?_
 refine AW.drawn 11 14 [] mix (by kernel_rfl) rfl ?_
 refine AD.pu T ?_
 refine AD.vv (qDf T rfl rfl rfl rfl rfl (hx27) (fun _=>rfl)) ?_
 refine gs4 ?_
 refine AD.q (FStep.call rfl rfl rfl rfl rfl (qH1 fl _ _ _ (hx29)) rfl rfl) (qAu _ _) (qC5 _ _) rfl ?_
 refine gs7 ?_
 refine AW.le (Le.ct 0 0 (σ':=(⟨[(0,.p 1 0),(5,sv ze2 x1),(8,.R 14),(9,.v (.bool x28.2))],[(1,.box (qF2 x 2 3)),(2,ro 1 ze0 x.no),(3,ro 1 ze0 x.what),(14,ro 1 ze0 x28.1)],88,[(1,L 1)]⟩:St)) (hpin:=⟨⟨rfl,rfl⟩,trivial⟩)) ?_
 refine gs2 ?_
 obtain⟨x30,hx31,hH⟩:=zB hH
 refine gs4 ?_
 refine AO.g0 T ?_
 refine AO.d1 74 (fun hg=>qJv T rfl rfl rfl rfl) ?_
 refine AO.g0 T ?_
 refine AO.d1 76 (fun hg=>ixs T (hx6)) ?_
 refine AO.g1 T 77 ?_
 refine AO.d1 78 (fun hg=>cVs (qPs _ _ (qE9 hx31 hg))) ?_
 refine AO.g2 T 75 79 ?_
 refine gs2 ?_
 refine AW.cH hH (fun _ hH=>?_) (fun _ hH=>?_)
 refine gs5 ?_
 exact qEa
 refine gs2 ?_
 obtain⟨x32,hx33,hH⟩:=zB hH
 refine AW.le (Le.fM 14 (g:=ze0) rfl (fun y=>.vs rfl)) ?_
 refine gs6 ?_
 refine AO.x (qAd (qF2 x32.1 15 16) [(16,ro 1 ze0 x32.1.what),(15,ro 1 ze0 x32.1.no)] 17 (by kernel_rfl) rfl 15 rfl rfl rfl rfl (es:=[.pn (qGH x),.v (.string x5),.s (x28.1.map ze0)]) (us:=[.u,.u]) (cs:=qGH x32.1) (ids:=[1,2,3]) (by exact zG (.pb rfl (qA4 rfl rfl)) (zG (.c .v) (zG (.c .s) (zGn)))) (by decide) (by decide) (qKQ fl _ _ _ _ (hx33)) rfl rfl (by rfl) rfl) ?_
 refine gs3 ?_
 exact qEa
def qCF (fl:Nat) (x3:((List aa)×Bool)):List aa->Nat->List Element->ac->Int->Int->Int->Int->List Item->List ac->List ac->Int->Int->Int->Int->List Result->ac->ac->Int->aa->Option ((CsState×aa×Bool))
 | [],k5,v65,v66,v67,v68,v69,v70,v71,v72,v73,v74,v75,v76,v77,v78,v79,v80,v81,v82 =>
  some ((CsState.mk (Code.mk v65 v66 v67 v68 v69 v70) (Performance.mk v71 (Marks.mk v72 v73) (Slips.mk v74 v75 v76)) v77 v78 v79 v80 (x3.1.length:Int)),v82,true)
 |y6::ys7,k5,v65,v66,v67,v68,v69,v70,v71,v72,v73,v74,v75,v76,v77,v78,v79,v80,v81,v82 =>
  (qAB fl (CsState.mk (Code.mk v65 v66 v67 v68 v69 v70) (Performance.mk v71 (Marks.mk v72 v73) (Slips.mk v74 v75 v76)) v77 v78 v79 v80 v81) y6).bind fun x84 =>
  cond (decide (x84.2=(⟨#[110,111]⟩:aa)))
   ((qAq (qAi 8 (x84.1.no.length+(([((k5+1:Nat):Int)]:ac)).length))).bind fun u87 =>
   (qAq (Nat.ble (x84.2.size+(⟨#[10]⟩:aa).size) qDx)).bind fun u89 =>
   (qAq (Nat.ble (v82.size+(x84.2++(⟨#[10]⟩:aa)).size) qDx)).bind fun u91 =>
   qCF fl x3 ys7 (k5+1) x84.1.code.elements x84.1.code.limits x84.1.code.repeats x84.1.code.bonus x84.1.code.keeps x84.1.code.fall x84.1.p.items x84.1.p.marks.grades x84.1.p.marks.components x84.1.p.slips.falls x84.1.p.slips.seconds x84.1.p.slips.other x84.1.factor x84.1.results (x84.1.no++([((k5+1:Nat):Int)]:ac)) x84.1.what x84.1.lines (v82++(x84.2++(⟨#[10]⟩:aa))))
   (cond (decide (x84.2=(⟨#[119,104,97,116]⟩:aa)))
    ((qAq (qAi 8 (x84.1.what.length+(([((k5+1:Nat):Int)]:ac)).length))).bind fun u94 =>
    (qAq (Nat.ble (x84.2.size+(⟨#[10]⟩:aa).size) qDx)).bind fun u96 =>
    (qAq (Nat.ble (v82.size+(x84.2++(⟨#[10]⟩:aa)).size) qDx)).bind fun u98 =>
    qCF fl x3 ys7 (k5+1) x84.1.code.elements x84.1.code.limits x84.1.code.repeats x84.1.code.bonus x84.1.code.keeps x84.1.code.fall x84.1.p.items x84.1.p.marks.grades x84.1.p.marks.components x84.1.p.slips.falls x84.1.p.slips.seconds x84.1.p.slips.other x84.1.factor x84.1.results x84.1.no (x84.1.what++([((k5+1:Nat):Int)]:ac)) x84.1.lines (v82++(x84.2++(⟨#[10]⟩:aa))))
    ((qAq (Nat.ble (x84.2.size+(⟨#[10]⟩:aa).size) qDx)).bind fun u100 =>
    (qAq (Nat.ble (v82.size+(x84.2++(⟨#[10]⟩:aa)).size) qDx)).bind fun u102 =>
    qCF fl x3 ys7 (k5+1) x84.1.code.elements x84.1.code.limits x84.1.code.repeats x84.1.code.bonus x84.1.code.keeps x84.1.code.fall x84.1.p.items x84.1.p.marks.grades x84.1.p.marks.components x84.1.p.slips.falls x84.1.p.slips.seconds x84.1.p.slips.other x84.1.factor x84.1.results x84.1.no x84.1.what x84.1.lines (v82++(x84.2++(⟨#[10]⟩:aa)))))
def qIQ (fl:Nat) (script:aa):Option (CsState×aa×Bool) :=
 (qII fl ).bind fun x1 =>
 (qFu fl script).bind fun x3 =>
 cond (!x3.2)
  (some (x1,(⟨#[]⟩:aa),false))
  (qCF fl x3 x3.1 0 x1.code.elements x1.code.limits x1.code.repeats x1.code.bonus x1.code.keeps x1.code.fall x1.p.items x1.p.marks.grades x1.p.marks.components x1.p.slips.falls x1.p.slips.seconds x1.p.slips.other x1.factor x1.results x1.no x1.what x1.lines (⟨#[]⟩:aa))
theorem qRG (fl:Nat) (script:aa) (r:(CsState×aa×Bool)) (hH:qIQ fl script=some r):qAC prog 45 [.v (.string script)] (.t [.pn (qGH r.1),.v (.string r.2.1),.v (.bool r.2.2)]):=by
 refine fns T func45 ?_
 refine gs7 ?_
 obtain⟨x1,hx2,hH⟩:=zB hH
 refine AW.r (AO.x (qQ2 (.p 1 0) [(1,.box (qF2 x1 2 3)),(3,ro 1 ze0 x1.what),(2,ro 1 ze0 x1.no)] 4 (by kernel_rfl) rfl 1 rfl rfl rfl rfl (qPn fl _ (hx2)) rfl rfl rfl) ?_)
 refine gs3 ?_
 obtain⟨x3,hx4,hH⟩:=zB hH
 refine gs2 ?_
 refine AO.w (cVs (qPG fl _ _ (hx4))) ?_
 iterate 12 refine gs ?_
 refine AW.cH hH (fun _ hH=>?_) (fun _ hH=>?_)
 refine gs8 ?_
 have hR:=zS hH;subst hR
 exact retQ.i [1,2,3] rfl (.t (zG (.pb rfl (qA4 rfl rfl)) (zG (.c .v) (zG (.c .v) (zGn)))))
 iterate 13 refine gs ?_
 refine AW.loopS (fun s:Nat×(List Element)×ac×Int×Int×Int×Int×(List Item)×(List ac)×(List ac)×Int×Int×Int×Int×(List Result)×ac×ac×Int×aa=>(⟨[(5,.p 1 0),(6,sv ze2 x3.1),(8,.v (.string s.2.2.2.2.2.2.2.2.2.2.2.2.2.2.2.2.2.2)),(21,sv ze2 x3.1),(22,(x3.1.length:Int)),(23,(s.1:Int))],[(1,.box [sv ze7 s.2.1,sv ze0 s.2.2.1,s.2.2.2.1,s.2.2.2.2.1,s.2.2.2.2.2.1,s.2.2.2.2.2.2.1,sv ze3 s.2.2.2.2.2.2.2.1,sv ze5 s.2.2.2.2.2.2.2.2.1,sv ze5 s.2.2.2.2.2.2.2.2.2.1,s.2.2.2.2.2.2.2.2.2.2.1,s.2.2.2.2.2.2.2.2.2.2.2.1,s.2.2.2.2.2.2.2.2.2.2.2.2.1,s.2.2.2.2.2.2.2.2.2.2.2.2.2.1,sv ze9 s.2.2.2.2.2.2.2.2.2.2.2.2.2.2.1,.R 2,.R 3,s.2.2.2.2.2.2.2.2.2.2.2.2.2.2.2.2.2.1]),(2,ro 1 ze0 s.2.2.2.2.2.2.2.2.2.2.2.2.2.2.2.1),(3,ro 1 ze0 s.2.2.2.2.2.2.2.2.2.2.2.2.2.2.2.2.1)],70,[]⟩:St)) (fun s=>s.1<=x3.1.length/\qCF fl x3 (x3.1.drop s.1) s.1 s.2.1 s.2.2.1 s.2.2.2.1 s.2.2.2.2.1 s.2.2.2.2.2.1 s.2.2.2.2.2.2.1 s.2.2.2.2.2.2.2.1 s.2.2.2.2.2.2.2.2.1 s.2.2.2.2.2.2.2.2.2.1 s.2.2.2.2.2.2.2.2.2.2.1 s.2.2.2.2.2.2.2.2.2.2.2.1 s.2.2.2.2.2.2.2.2.2.2.2.2.1 s.2.2.2.2.2.2.2.2.2.2.2.2.2.1 s.2.2.2.2.2.2.2.2.2.2.2.2.2.2.1 s.2.2.2.2.2.2.2.2.2.2.2.2.2.2.2.1 s.2.2.2.2.2.2.2.2.2.2.2.2.2.2.2.2.1 s.2.2.2.2.2.2.2.2.2.2.2.2.2.2.2.2.2.1 s.2.2.2.2.2.2.2.2.2.2.2.2.2.2.2.2.2.2=some r) (fun s=>x3.1.length-s.1) (0,x1.code.elements,x1.code.limits,x1.code.repeats,x1.code.bonus,x1.code.keeps,x1.code.fall,x1.p.items,x1.p.marks.grades,x1.p.marks.components,x1.p.slips.falls,x1.p.slips.seconds,x1.p.slips.other,x1.factor,x1.results,x1.no,x1.what,x1.lines,(⟨#[]⟩:aa)) ⟨Nat.zero_le _,hH⟩ ?_ ?_
 exact Le.ct 0 0
 rintro⟨k5,v65,v66,v67,v68,v69,v70,v71,v72,v73,v74,v75,v76,v77,v78,v79,v80,v81,v82⟩ ⟨hk,hH⟩
 try dsimp only at hH⊢
 refine AW.boundM (t:=6) (l:=x3.1) rfl (fun hb9=>?_)
 rcases hd8:x3.1.drop k5 with _|⟨y6,ys7⟩
 rw[hd8,qCF]at hH
 have hlt10:=qAF hd8
 iterate 14 refine gs ?_
 refine AO.se T [sv ze7 v65,sv ze0 v66,v67,v68,v69,v70,sv ze3 v71,sv ze5 v72,sv ze5 v73,v74,v75,v76,v77,sv ze9 v78,.R 2,.R 3,(x3.1.length:Int)] ?_
 iterate 10 refine gs ?_
 have hR:=zS hH;subst hR
 exact retQ.i [1,2,3] rfl (.t (zG (.pb rfl (qA4 rfl rfl)) (zG (.c .v) (zG (.c .v) (zGn)))))
 rw[hd8,qCF]at hH
 have hlt10:=qAG hd8
 iterate 18 refine gs ?_
 obtain⟨x84,hx85,hH⟩:=zB hH
 refine gs3 ?_
 refine AO.x (qAd (qF2 x84.1 16 17) [(17,ro 1 ze0 x84.1.what),(16,ro 1 ze0 x84.1.no)] 18 (by kernel_rfl) rfl 16 rfl rfl rfl rfl (es:=[.pn (qGH (CsState.mk (Code.mk v65 v66 v67 v68 v69 v70) (Performance.mk v71 (Marks.mk v72 v73) (Slips.mk v74 v75 v76)) v77 v78 v79 v80 v81)),.v (.string y6)]) (us:=[.u]) (cs:=qGH x84.1) (ids:=[1,2,3]) (by exact zG (.pb rfl (qA4 rfl rfl)) (zG (.c .v) (zGn))) (by decide) (by decide) (qL5 fl _ _ _ (hx85)) rfl rfl (by rfl) rfl) ?_
 iterate 13 refine gs ?_
 refine AW.cH hH (fun _ hH=>?_) (fun _ hH=>?_)
 obtain⟨u87,hx88,hH⟩:=zB hH
 refine gs8 ?_
 refine AO.x (mks T 18 ze0 (([((k5+1:Nat):Int)]:ac))) ?_
 refine AO.x (rvs T 19 (hfit:=by exact qAP (hx88))) ?_
 refine gs2 ?_
 refine AO.se T [sv ze7 x84.1.code.elements,sv ze0 x84.1.code.limits,x84.1.code.repeats,x84.1.code.bonus,x84.1.code.keeps,x84.1.code.fall,sv ze3 x84.1.p.items,sv ze5 x84.1.p.marks.grades,sv ze5 x84.1.p.marks.components,x84.1.p.slips.falls,x84.1.p.slips.seconds,x84.1.p.slips.other,x84.1.factor,sv ze9 x84.1.results,.R 19,.R 17,x84.1.lines] ?_
 refine AO.n (AW.le (Le.ct 0 0 (σ':=(⟨[(5,.p 1 0),(6,sv ze2 x3.1),(8,.v (.string v82)),(11,.v (.string x84.2)),(21,sv ze2 x3.1),(22,(x3.1.length:Int)),(23,(k5:Int))],[(1,.box (qF2 x84.1 19 17)),(17,ro 1 ze0 x84.1.what),(19,ro 1 ze0 (x84.1.no++([((k5+1:Nat):Int)]:ac)))],70,[]⟩:St))) ?_)
 obtain⟨u89,hx90,u91,hx92,hH⟩:=qAH hH
 refine gs3 ?_
 refine AO.w (qBe rfl rfl rfl (Nat.le_of_ble_eq_true (qAP (hx90)))) ?_
 refine AO.w (qBe rfl rfl rfl (Nat.le_of_ble_eq_true (qAP (hx92)))) ?_
 refine gs6 ?_
 refine⟨(k5+1,x84.1.code.elements,x84.1.code.limits,x84.1.code.repeats,x84.1.code.bonus,x84.1.code.keeps,x84.1.code.fall,x84.1.p.items,x84.1.p.marks.grades,x84.1.p.marks.components,x84.1.p.slips.falls,x84.1.p.slips.seconds,x84.1.p.slips.other,x84.1.factor,x84.1.results,(x84.1.no++([((k5+1:Nat):Int)]:ac)),x84.1.what,x84.1.lines,(v82++(x84.2++(⟨#[10]⟩:aa)))),⟨hlt10,(zds hd8▸hH)⟩,qBl hlt10,?_⟩
 refine Le.trans (Le.ct 19 2 (σ':=(⟨[(5,.p 1 0),(6,sv ze2 x3.1),(8,.v (.string (v82++(x84.2++(⟨#[10]⟩:aa))))),(21,sv ze2 x3.1),(22,(x3.1.length:Int)),(23,((k5+1:Nat):Int))],[(1,.box (qF2 x84.1 2 17)),(2,ro 1 ze0 (x84.1.no++([((k5+1:Nat):Int)]:ac))),(17,ro 1 ze0 x84.1.what)],70,[]⟩:St))) ?_
 exact Le.ct 17 3
 refine gs5 ?_
 refine AW.cH hH (fun _ hH=>?_) (fun _ hH=>?_)
 obtain⟨u94,hx95,hH⟩:=zB hH
 refine gs8 ?_
 refine AO.x (mks T 20 ze0 (([((k5+1:Nat):Int)]:ac))) ?_
 refine AO.x (rvs T 21 (hfit:=by exact qAP (hx95))) ?_
 refine gs2 ?_
 refine AO.se T [sv ze7 x84.1.code.elements,sv ze0 x84.1.code.limits,x84.1.code.repeats,x84.1.code.bonus,x84.1.code.keeps,x84.1.code.fall,sv ze3 x84.1.p.items,sv ze5 x84.1.p.marks.grades,sv ze5 x84.1.p.marks.components,x84.1.p.slips.falls,x84.1.p.slips.seconds,x84.1.p.slips.other,x84.1.factor,sv ze9 x84.1.results,.R 16,.R 21,x84.1.lines] ?_
 refine AO.n (AW.le (Le.ct 0 0 (σ':=(⟨[(5,.p 1 0),(6,sv ze2 x3.1),(8,.v (.string v82)),(11,.v (.string x84.2)),(21,sv ze2 x3.1),(22,(x3.1.length:Int)),(23,(k5:Int))],[(1,.box (qF2 x84.1 16 21)),(16,ro 1 ze0 x84.1.no),(21,ro 1 ze0 (x84.1.what++([((k5+1:Nat):Int)]:ac)))],70,[]⟩:St))) ?_)
 obtain⟨u96,hx97,u98,hx99,hH⟩:=qAH hH
 refine gs3 ?_
 refine AO.w (qBe rfl rfl rfl (Nat.le_of_ble_eq_true (qAP (hx97)))) ?_
 refine AO.w (qBe rfl rfl rfl (Nat.le_of_ble_eq_true (qAP (hx99)))) ?_
 refine gs6 ?_
 refine⟨(k5+1,x84.1.code.elements,x84.1.code.limits,x84.1.code.repeats,x84.1.code.bonus,x84.1.code.keeps,x84.1.code.fall,x84.1.p.items,x84.1.p.marks.grades,x84.1.p.marks.components,x84.1.p.slips.falls,x84.1.p.slips.seconds,x84.1.p.slips.other,x84.1.factor,x84.1.results,x84.1.no,(x84.1.what++([((k5+1:Nat):Int)]:ac)),x84.1.lines,(v82++(x84.2++(⟨#[10]⟩:aa)))),⟨hlt10,(zds hd8▸hH)⟩,qBl hlt10,?_⟩
 refine Le.trans (Le.ct 16 2 (σ':=(⟨[(5,.p 1 0),(6,sv ze2 x3.1),(8,.v (.string (v82++(x84.2++(⟨#[10]⟩:aa))))),(21,sv ze2 x3.1),(22,(x3.1.length:Int)),(23,((k5+1:Nat):Int))],[(1,.box (qF2 x84.1 2 21)),(2,ro 1 ze0 x84.1.no),(21,ro 1 ze0 (x84.1.what++([((k5+1:Nat):Int)]:ac)))],70,[]⟩:St))) ?_
 exact Le.ct 21 3
 refine AW.k ?_
 obtain⟨u100,hx101,u102,hx103,hH⟩:=qAH hH
 refine gs3 ?_
 refine AO.w (qBe rfl rfl rfl (Nat.le_of_ble_eq_true (qAP (hx101)))) ?_
 refine AO.w (qBe rfl rfl rfl (Nat.le_of_ble_eq_true (qAP (hx103)))) ?_
 refine gs6 ?_
 refine⟨(k5+1,x84.1.code.elements,x84.1.code.limits,x84.1.code.repeats,x84.1.code.bonus,x84.1.code.keeps,x84.1.code.fall,x84.1.p.items,x84.1.p.marks.grades,x84.1.p.marks.components,x84.1.p.slips.falls,x84.1.p.slips.seconds,x84.1.p.slips.other,x84.1.factor,x84.1.results,x84.1.no,x84.1.what,x84.1.lines,(v82++(x84.2++(⟨#[10]⟩:aa)))),⟨hlt10,(zds hd8▸hH)⟩,qBl hlt10,?_⟩
 refine Le.trans (Le.ct 16 2 (σ':=(⟨[(5,.p 1 0),(6,sv ze2 x3.1),(8,.v (.string (v82++(x84.2++(⟨#[10]⟩:aa))))),(21,sv ze2 x3.1),(22,(x3.1.length:Int)),(23,((k5+1:Nat):Int))],[(1,.box (qF2 x84.1 2 17)),(2,ro 1 ze0 x84.1.no),(17,ro 1 ze0 x84.1.what)],70,[]⟩:St))) ?_
 exact Le.ct 17 3
def qFT (fl:Nat) (script:aa):Option (Performance×Bool) :=
 (qIQ fl script).bind fun x1 =>
 cond (!x1.2.2)
  (some ((Performance.mk [] (Marks.mk [] []) (Slips.mk 0 0 0)),false))
  ((qAY x1.1.p x1.1.p.items).bind fun x3 =>
  some (x3,true))
theorem qJ7 (fl:Nat) (script:aa) (r:(Performance×Bool)) (hH:qFT fl script=some r):qAC prog 29 [.v (.string script)] (.t [.g (qGA r.1),.v (.bool r.2)]):=by
 refine fns T func29 ?_
 refine go ?_
 refine AO.x (als T 1) (go ?_)
 obtain⟨x1,hx2,hH⟩:=zB hH
 refine go ?_
 refine AO.x (qQ2 (.t [.p 2 0,.v (.string x1.2.1),.v (.bool x1.2.2)]) [(2,.box (qF2 x1.1 3 4)),(4,ro 1 ze0 x1.1.what),(3,ro 1 ze0 x1.1.no)] 5 (by kernel_rfl) rfl 2 rfl rfl rfl rfl (qRG fl _ _ (hx2)) rfl rfl rfl) (go ?_)
 refine AW.cH hH (fun _ hH=>?_) (fun _ hH=>?_)
 refine go ?_
 refine AO.se T [.w 0 [],.w 0 [],.w 0 [],(0:Int),(0:Int),(0:Int)] ?_
 refine go ?_
 exact fin
 refine go ?_
 obtain⟨x3,hx4,hH⟩:=zB hH
 refine AW.drawn 9 5 [] mix (by kernel_rfl) (by kernel_rfl) ?_
 refine go ?_
 refine AO.x (qAV rfl 5 rfl rfl rfl (qFq _ _ _ (hx4)) rfl rfl rfl) ?_
 refine AO.se T [.R 5,.R 6,.R 7,x3.slips.falls,x3.slips.seconds,x3.slips.other] ?_
 refine gs2 ?_
 refine AW.le (Le.ct 0 0 (σ':=(⟨[(2,.p 1 0),(3,.v (.bool true))],[(1,.box [.R 5,.R 6,.R 7,x3.slips.falls,x3.slips.seconds,x3.slips.other]),(5,ro 3 ze6 x3.items),(6,ro 1 ze1 x3.marks.grades),(7,ro 1 ze1 x3.marks.components)],26,[]⟩:St))) ?_
 refine AW.t ?_
 exact fin
def qB7 (s:aa) (sep:aa):Option (List aa):=(qAq (Nat.blt s.size 4294967281&&Nat.blt 0 sep.size)).bind fun _=>some (qIO s sep)
theorem qIY (s:aa) (sep:aa) (r:List aa) (hH:qB7 s sep=some r):qAC prog 113 [.v (.string s),.v (.string sep)] (.w 1 (r.map ze2)):=by
 obtain⟨u,hu,hr⟩:=zB hH
 cases zS hr
 exact qT2 ⟨_,func113,rfl,by decide⟩ (fun s sep w hG h1 h2=>let ⟨m,hm⟩:=qXg hG;Tryz.strings_Split s sep m w h1 hm h2) (fun _=>rfl) s sep (qAP hu)
def qGe (sA:aa):Option ((List aa)×Bool) :=
 cond (decide (sA=(⟨#[]⟩:aa)))
  (some ([],true))
  ((qOD sA (w64 ((sA.size:Int)-1))).bind fun b2 =>
  cond ((b2.toNat:Int) != 10)
   (some ([],false))
   ((qAq (inB 0 (w64 ((sA.size:Int)-1)) sA.size)).bind fun u4 =>
   (qB7 (ByteArray.extract sA 0 (w64 ((sA.size:Int)-1)).toNat) (⟨#[10]⟩:aa)).bind fun x6 =>
   some (x6,true)))
theorem qPD (sA:aa) (r:((List aa)×Bool)) (hH:qGe sA=some r):qAC prog 91 [.v (.string sA)] (.t [.w 1 (r.1.map ze2),.v (.bool r.2)]):=by
 refine fns T func91 ?_
 refine go ?_
 refine AW.cH hH (fun _ hH=>?_) (fun _ hH=>?_)
 refine go ?_
 refine AO.x (qGV T rfl rfl rfl rfl) (go ?_)
 exact fin
 refine go ?_
 obtain⟨b2,hx3,hH⟩:=zB hH
 refine go ?_
 refine AO.w (qBM T rfl rfl rfl rfl (hx3)) (go ?_)
 refine AW.cH hH (fun _ hH=>?_) (fun _ hH=>?_)
 refine go ?_
 exact fin
 refine go ?_
 obtain⟨u4,hx5,x6,hx7,hH⟩:=qAH hH
 refine go ?_
 refine AO.w (qHG T rfl rfl rfl rfl (qAP (hx5))) ?_
 refine AO.x (qAV rfl 1 rfl rfl rfl (qIY _ _ _ (hx7)) rfl rfl rfl) (go ?_)
 exact fin
def qCc (script:aa):Option ((List aa)×Bool) :=
 (qGe script).bind fun x1 =>
 cond (((!x1.2)||decide ((script.size:Int)>2000))||decide ((x1.1.length:Int)>40))
  (some ([],false))
  (some (x1.1,true))
theorem qMn (script:aa) (r:((List aa)×Bool)) (hH:qCc script=some r):qAC prog 66 [.v (.string script)] (.t [.w 1 (r.1.map ze2),.v (.bool r.2)]):=by
 refine fns T func66 ?_
 refine go ?_
 obtain⟨x1,hx2,hH⟩:=zB hH
 refine go ?_
 refine AO.x (qAV rfl 1 rfl rfl rfl (qPD _ _ (hx2)) rfl rfl rfl) (go ?_)
 refine AO.g0 T ?_
 refine AO.g1 T 14 ?_
 refine AO.g1 T 15 ?_
 refine go ?_
 refine AO.g0 T ?_
 refine AO.d1 19 (fun hg=>qJv T rfl rfl rfl rfl) ?_
 refine AO.g1 T 20 ?_
 refine go ?_
 refine AW.cH hH (fun _ hH=>?_) (fun _ hH=>?_)
 refine go ?_
 exact fin
 refine gs7 ?_
 refine AW.le (Le.ct 0 0 (σ':=(⟨[(2,.R 1),(3,.v (.bool true))],[(1,ro 1 ze2 x1.1)],24,[]⟩:St))) ?_
 refine AW.t ?_
 exact fin
def qBr (judges:Int) (v12:List ac):Nat->List ac->Int->Option Marks
 |0,_,_=>none
 |k19+1,v30,v31 =>
  cond (decide (v31<3))
   ((qAq (decide (0<=judges)&&qAi 8 judges.toNat)).bind fun u33 =>
   (qAq (qAi 24 (v30.length+([(List.replicate judges.toNat (0:Int))]).length))).bind fun u35 =>
   qBr judges v12 k19 (v30++[(List.replicate judges.toNat (0:Int))]) (w64 (v31+1)))
   (some (Marks.mk v12 v30))
def qCe (items:Int) (judges:Int) (fl:Nat):Nat->List ac->Int->Option Marks
 |0,_,_=>none
 |k1+1,v12,v13 =>
  cond (decide (v13<items))
   ((qAq (decide (0<=judges)&&qAi 8 judges.toNat)).bind fun u15 =>
   (qAq (qAi 24 (v12.length+([(List.replicate judges.toNat (0:Int))]).length))).bind fun u17 =>
   qCe items judges fl k1 (v12++[(List.replicate judges.toNat (0:Int))]) (w64 (v13+1)))
   (qBr judges v12 fl [] 0)
def qDE (fl:Nat) (items:Int) (judges:Int):Option Marks :=
 qCe items judges fl fl [] 0
theorem qJR (fl:Nat) (items:Int) (judges:Int) (r:Marks) (hH:qDE fl items judges=some r):qAC prog 110 [items,judges] (.g (qEy r)):=by
 refine fns T func110 ?_
 refine go ?_
 refine AO.x (als T 1) (go ?_)
 refine AO.x (qGV T rfl rfl rfl rfl) ?_
 refine AO.x (qGV T rfl rfl rfl rfl) (go ?_)
 refine AO.x (als T 2) ?_
 refine AO.se T [.w 1 [],.w 1 []] ?_
 refine go ?_
 refine AW.loopS (fun s:Nat×(List ac)×Int=>(⟨[(1,judges),(4,.p 1 0),(5,.p 2 0),(9,items),(10,s.2.2)],[(1,.box [.w 0 [],.w 0 []]),(2,.box [.R 8,.w 1 []]),(8,ro 1 ze1 s.2.1)],31,[]⟩:St)) (fun s=>qCe items judges fl s.1 s.2.1 s.2.2=some r) (fun s=>s.1) (fl,[],0) hH ?_ ?_
 refine Le.trans (Le.voidBox 2 0 8 1 rfl rfl rfl rfl) ?_
 exact Le.ct 0 0
 rintro⟨k1,v12,v13⟩ hH
 try dsimp only at hH⊢
 rcases k1 with _|k1
 cases (show none=some _ from hH)
 rw[qCe]at hH
 refine go ?_
 refine AW.cH hH (fun _ hH=>?_) (fun hc hH=>?_)
 refine go ?_
 obtain⟨u15,hx16,u17,hx18,hH⟩:=qAH hH
 refine AW.drawn 5 9 [] mix (by kernel_rfl) rfl ?_
 refine go ?_
 refine AD.q (FStep.make T rfl rfl rfl rfl rfl rfl rfl (f:=ze0) (zo:=0) (by repeat constructor) (by decide) rfl rfl (Bool.and_eq_true_iff.1 (qAP (hx16))).1 (Bool.and_eq_true_iff.1 (qAP (hx16))).2 rfl) (by simp[qA1]) (Nat.le_succ _) rfl ?_
 refine AD.kk (FStep.mk_o T rfl rfl rfl rfl rfl rfl rfl rfl (f:=ze1) (l:=[(List.replicate judges.toNat (0:Int))]) (ids:=[9]) rfl rfl (fun _=>rfl) (by exact zC (.rowR rfl) (zCn)) (by decide) rfl rfl rfl rfl) ?_
 refine AD.nil (AO.x (qEe T rfl 11 rfl rfl rfl rfl rfl (by decide) rfl rfl rfl rfl rfl (qAP (hx18)) rfl rfl) ?_)
 refine AO.pu T ?_
 refine AO.se T [.R 11,.w 1 []] ?_
 refine go ?_
 refine⟨(k1,(v12++[(List.replicate judges.toNat (0:Int))]),w64 (v13+1)),hH,Nat.lt_succ_self _,?_⟩
 exact Le.ct 11 8
 refine go ?_
 refine AW.loopS (fun s:Nat×(List ac)×Int=>(⟨[(1,judges),(4,.p 1 0),(5,.p 2 0),(20,s.2.2)],[(1,.box [.w 0 [],.w 0 []]),(2,.box [.R 8,.R 17]),(8,ro 1 ze1 v12),(17,ro 1 ze1 s.2.1)],31,[]⟩:St)) (fun s=>qBr judges v12 s.1 s.2.1 s.2.2=some r) (fun s=>s.1) (fl,[],0) hH ?_ ?_
 refine Le.trans (Le.voidBox 2 1 17 1 rfl rfl rfl rfl) ?_
 exact Le.ct 0 0
 rintro⟨k19,v30,v31⟩ hH
 try dsimp only at hH⊢
 rcases k19 with _|k19
 cases (show none=some _ from hH)
 rw[qBr]at hH
 refine go ?_
 refine AW.cH hH (fun _ hH=>?_) (fun _ hH=>?_)
 refine go ?_
 obtain⟨u33,hx34,u35,hx36,hH⟩:=qAH hH
 refine AW.drawn 5 18 [] mix (by kernel_rfl) rfl ?_
 refine go ?_
 refine AD.q (FStep.make T rfl rfl rfl rfl rfl rfl rfl (f:=ze0) (zo:=0) (by repeat constructor) (by decide) rfl rfl (Bool.and_eq_true_iff.1 (qAP (hx34))).1 (Bool.and_eq_true_iff.1 (qAP (hx34))).2 rfl) (by simp[qA1]) (Nat.le_succ _) rfl ?_
 refine AD.kk (FStep.mk_o T rfl rfl rfl rfl rfl rfl rfl rfl (f:=ze1) (l:=[(List.replicate judges.toNat (0:Int))]) (ids:=[18]) rfl rfl (fun _=>rfl) (by exact zC (.rowR rfl) (zCn)) (by decide) rfl rfl rfl rfl) ?_
 refine AD.nil (AO.x (qEe T rfl 20 rfl rfl rfl rfl rfl (by decide) rfl rfl rfl rfl rfl (qAP (hx36)) rfl rfl) ?_)
 refine AO.pu T ?_
 refine AO.se T [.R 8,.R 20] ?_
 refine go ?_
 refine⟨(k19,(v30++[(List.replicate judges.toNat (0:Int))]),w64 (v31+1)),hH,Nat.lt_succ_self _,?_⟩
 exact Le.ct 20 17
 refine go ?_
 refine AO.se T [.R 8,.R 17] ?_
 refine go ?_
 exact fin
def qHT (fl:Nat):Option ScriptState :=
 (qDE fl 0 3).bind fun x1 =>
 some (ScriptState.mk (Code.mk [(Element.mk (⟨#[51,65]⟩:aa) 0 0 800)] ([7,7,7,7,7]:ac) 2 10 80 100) (Performance.mk [] x1 (Slips.mk 0 0 0)) 100 [])
theorem qOg (fl:Nat) (r:ScriptState) (hH:qHT fl=some r):qAC prog 75 [] (.pn (qIF r)):=by
 refine fns T func75 ?_
 refine go ?_
 refine AO.x (mks T 1 ze7 ([(Element.mk (⟨#[51,65]⟩:aa) 0 0 800)])) ?_
 refine AO.x (mks T 2 ze0 (([7,7,7,7,7]:ac))) (go ?_)
 refine AO.x (als T 3) ?_
 refine AO.se T [.R 1,.R 2,(2:Int),(10:Int),(80:Int),(100:Int)] ?_
 refine go ?_
 obtain⟨x1,hx2,hH⟩:=zB hH
 refine AW.drawn 5 4 [] mix (by kernel_rfl) rfl ?_
 refine go ?_
 refine AD.v (FStep.mk0 T rfl rfl rfl rfl rfl) ?_
 refine AD.q (FStep.call rfl rfl rfl rfl rfl (qJR fl _ _ _ (hx2)) rfl rfl) (qAu _ _) (qC5 _ _) rfl ?_
 refine AD.pured T (d:=.g [.w 3 [],.R 4,.R 5,(0:Int),(0:Int),(0:Int)]) rfl rfl rfl rfl ?_
 refine AD.v (FStep.mk0 T rfl rfl rfl rfl rfl) ?_
 refine go ?_
 refine AO.x (bxs T 6) ?_
 refine gs2 ?_
 refine AW.le (Le.nilSBox 6 13 rfl rfl) ?_
 refine AW.le (Le.fM 2 (g:=ze0) rfl (fun y=>.vs rfl)) ?_
 refine AW.le (Le.fM 1 (g:=ze7) rfl (fun y=>.vs rfl)) ?_
 refine AW.t ?_
 have hR:=zS hH;subst hR
 exact retQ.i [6,4,5] rfl (.c (.pb rfl (zC .s (zC .s (zC .v (zC .v (zC .v (zC .v (zC .nil (zC (.rowR rfl) (zC (.rowR rfl) (zC .v (zC .v (zC .v (zC .v (zC .s (zCn)))))))))))))))))
def qFg (sA:aa) (prefixA:aa):ad :=
 (opt (decide ((sA.size:Int)>=(prefixA.size:Int))) default (qAq (inB 0 (prefixA.size:Int) sA.size))).bind fun u1 =>
 some (decide ((sA.size:Int)>=(prefixA.size:Int))&&decide ((ByteArray.extract sA 0 (prefixA.size:Int).toNat)=prefixA))
theorem qJ2 (sA:aa) (prefixA:aa) (r:Bool) (hH:qFg sA prefixA=some r):qAC prog 216 [.v (.string sA),.v (.string prefixA)] (.v (.bool r)):=by
 refine fns T func216 ?_
 refine go ?_
 obtain⟨u1,hx2,hH⟩:=zB hH
 refine go ?_
 refine AO.g0 T ?_
 refine AO.g0 T ?_
 refine AO.g1 T 12 ?_
 refine AO.d2 11 13 (fun hg=>qHG T rfl rfl rfl rfl (qAP (qE9 hx2 hg))) ?_
 refine AO.g0 T ?_
 refine AO.g2 T 14 15 ?_
 refine go ?_
 exact fin
def qFZ (sA:aa) (prefixA:aa):Option (aa×Bool) :=
 (qFg sA prefixA).bind fun x1 =>
 cond (!x1)
  (some (sA,false))
  ((qAq (inB (prefixA.size:Int) sA.size sA.size)).bind fun u3 =>
  some ((ByteArray.extract sA (prefixA.size:Int).toNat sA.size),true))
theorem qKC (sA:aa) (prefixA:aa) (r:(aa×Bool)) (hH:qFZ sA prefixA=some r):qAC prog 151 [.v (.string sA),.v (.string prefixA)] (.t [.v (.string r.1),.v (.bool r.2)]):=by
 refine fns T func151 ?_
 refine go ?_
 obtain⟨x1,hx2,hH⟩:=zB hH
 refine go ?_
 refine AO.w (cVs (qJ2 _ _ _ (hx2))) (go ?_)
 refine AW.cH hH (fun _ hH=>?_) (fun _ hH=>?_)
 refine go ?_
 exact fin
 refine go ?_
 obtain⟨u3,hx4,hH⟩:=zB hH
 refine go ?_
 refine AO.w (qFS T rfl rfl rfl rfl (qAP (hx4))) (go ?_)
 exact fin
def qBf (sA:aa) (prefixA:aa):Option (aa×Bool) :=
 (qFZ sA prefixA).bind fun x1 =>
 some (x1.1,x1.2)
theorem qIm (sA:aa) (prefixA:aa) (r:(aa×Bool)) (hH:qBf sA prefixA=some r):qAC prog 111 [.v (.string sA),.v (.string prefixA)] (.t [.v (.string r.1),.v (.bool r.2)]):=by
 refine fns T func111 ?_
 refine go ?_
 obtain⟨x1,hx2,hH⟩:=zB hH
 refine go ?_
 refine AO.w (cVs (qKC _ _ _ (hx2))) (go ?_)
 exact fin
def qFa (sA:aa) (suffix:aa):ad :=
 (opt (decide ((sA.size:Int)>=(suffix.size:Int))) default (qAq (inB (w64 ((sA.size:Int)-(suffix.size:Int))) sA.size sA.size))).bind fun u1 =>
 some (decide ((sA.size:Int)>=(suffix.size:Int))&&decide ((ByteArray.extract sA (w64 ((sA.size:Int)-(suffix.size:Int))).toNat sA.size)=suffix))
theorem qJ0 (sA:aa) (suffix:aa) (r:Bool) (hH:qFa sA suffix=some r):qAC prog 316 [.v (.string sA),.v (.string suffix)] (.v (.bool r)):=by
 refine fns T func316 ?_
 refine go ?_
 obtain⟨u1,hx2,hH⟩:=zB hH
 refine go ?_
 refine AO.g0 T ?_
 refine AO.g0 T ?_
 refine AO.g1 T 12 ?_
 refine AO.g0 T ?_
 refine AO.g1 T 14 ?_
 refine AO.d2 13 15 (fun hg=>aws) ?_
 refine AO.d2 11 16 (fun hg=>qFS T rfl rfl rfl rfl (qAP (qE9 hx2 hg))) ?_
 refine AO.g0 T ?_
 refine AO.g2 T 17 18 ?_
 refine go ?_
 exact fin
def qFV (sA:aa) (suffix:aa):Option (aa×Bool) :=
 (qFa sA suffix).bind fun x1 =>
 cond (!x1)
  (some (sA,false))
  ((qAq (inB 0 (w64 ((sA.size:Int)-(suffix.size:Int))) sA.size)).bind fun u3 =>
  some ((ByteArray.extract sA 0 (w64 ((sA.size:Int)-(suffix.size:Int))).toNat),true))
theorem qJ8 (sA:aa) (suffix:aa) (r:(aa×Bool)) (hH:qFV sA suffix=some r):qAC prog 270 [.v (.string sA),.v (.string suffix)] (.t [.v (.string r.1),.v (.bool r.2)]):=by
 refine fns T func270 ?_
 refine go ?_
 obtain⟨x1,hx2,hH⟩:=zB hH
 refine go ?_
 refine AO.w (cVs (qJ0 _ _ _ (hx2))) (go ?_)
 refine AW.cH hH (fun _ hH=>?_) (fun _ hH=>?_)
 refine go ?_
 exact fin
 refine go ?_
 obtain⟨u3,hx4,hH⟩:=zB hH
 refine go ?_
 refine AO.w (qHG T rfl rfl rfl rfl (qAP (hx4))) (go ?_)
 exact fin
def qDB (sA:aa) (suffix:aa):Option (aa×Bool) :=
 (qFV sA suffix).bind fun x1 =>
 some (x1.1,x1.2)
theorem qIn (sA:aa) (suffix:aa) (r:(aa×Bool)) (hH:qDB sA suffix=some r):qAC prog 217 [.v (.string sA),.v (.string suffix)] (.t [.v (.string r.1),.v (.bool r.2)]):=by
 refine fns T func217 ?_
 refine go ?_
 obtain⟨x1,hx2,hH⟩:=zB hH
 refine go ?_
 refine AO.w (cVs (qJ8 _ _ _ (hx2))) (go ?_)
 exact fin
def qAM (n:Int) (low:Int) (high:Int):ad :=
 some (decide (n>=low)&&decide (n<=high))
theorem qAQ (n:Int) (low:Int) (high:Int) (r:Bool) (hH:qAM n low high=some r):qAC prog 95 [n,low,high] (.v (.bool r)):=by
 refine fns T func95 ?_
 refine go ?_
 refine AO.g0 T ?_
 refine AO.g0 T ?_
 refine AO.g2 T 11 12 ?_
 refine go ?_
 exact fin
def qAr (sA:aa):Nat->Int->ad
 |0,_=>none
 |k1+1,v7 =>
  cond (decide (v7<(sA.size:Int)))
   ((qOD sA v7).bind fun b9 =>
   cond ((decide ((b9.toNat:Int)<65)||decide ((b9.toNat:Int)>90))&&(decide ((b9.toNat:Int)<48)||decide ((b9.toNat:Int)>57)))
    (some false)
    (qAr sA k1 (w64 (v7+1))))
   ((qAM (sA.size:Int) 1 5).bind fun x11 =>
   some x11)
def qDw (fl:Nat) (sA:aa):ad :=
 qAr sA fl 0
theorem qIR (fl:Nat) (sA:aa) (r:Bool) (hH:qDw fl sA=some r):qAC prog 97 [.v (.string sA)] (.v (.bool r)):=by
 refine fns T func97 ?_
 refine go ?_
 refine AW.loopS (fun s:Nat×Int=>(⟨[(0,.v (.string sA)),(3,s.2)],[],35,[]⟩:St)) (fun s=>qAr sA s.1 s.2=some r) (fun s=>s.1) (fl,0) hH ?_ ?_
 exact Le.ct 0 0
 rintro⟨k1,v7⟩ hH
 try dsimp only at hH⊢
 rcases k1 with _|k1
 cases (show none=some _ from hH)
 rw[qAr]at hH
 refine go ?_
 refine AW.cH hH (fun hc hH=>?_) (fun _ hH=>?_)
 refine go ?_
 obtain⟨b9,hx10,hH⟩:=zB hH
 refine go ?_
 refine AO.w (qBM T rfl rfl rfl rfl (hx10)) (go ?_)
 refine AO.g0 T ?_
 refine AO.g0 T ?_
 refine AO.d2 15 16 (fun hg=>qBM T rfl rfl rfl rfl (hx10)) ?_
 refine AO.g1 T 17 ?_
 refine go ?_
 refine AO.g0 T ?_
 refine AO.g0 T ?_
 refine AO.d2 21 22 (fun hg=>qBM T rfl rfl rfl rfl (hx10)) ?_
 refine AO.g1 T 23 ?_
 refine AO.g1 T 24 ?_
 refine AO.g0 T ?_
 refine AO.g0 T ?_
 refine AO.d2 26 27 (fun hg=>qBM T rfl rfl rfl rfl (hx10)) ?_
 refine AO.g1 T 28 ?_
 refine AO.d [25] rfl ⟨fun h=>h,trivial⟩ (fun hg=>zO rfl rfl rfl (by rw[hg];exact Bool.true_and _)) rfl ?_
 refine gs2 ?_
 refine AW.le (Le.ct 0 0 (σ':=(⟨[(0,.v (.string sA)),(3,v7),(31,.v (.bool ((decide ((b9.toNat:Int)<65)||decide ((b9.toNat:Int)>90))&&(decide ((b9.toNat:Int)<48)||decide ((b9.toNat:Int)>57)))))],[],35,[]⟩:St))) ?_
 refine AW.cH hH (fun _ hH=>?_) (fun hc hH=>?_)
 refine go ?_
 exact fin
 refine go ?_
 refine⟨(k1,w64 (v7+1)),hH,Nat.lt_succ_self _,?_⟩
 exact Le.ct 0 0
 refine go ?_
 obtain⟨x11,hx12,hH⟩:=zB hH
 refine go ?_
 refine AO.w (cVs (qAQ _ _ _ _ (hx12))) (go ?_)
 exact fin
def qIo (fl:Nat) (sA:aa):ad :=
 (qDw fl sA).bind fun x1 =>
 some x1
theorem qPt (fl:Nat) (sA:aa) (r:Bool) (hH:qIo fl sA=some r):qAC prog 245 [.v (.string sA)] (.v (.bool r)):=by
 refine fns T func245 ?_
 refine go ?_
 obtain⟨x1,hx2,hH⟩:=zB hH
 refine go ?_
 refine AO.w (cVs (qIR fl _ _ (hx2))) (go ?_)
 exact fin
def qCX (low:Int) (high:Int):ac->Nat->ad
 | [],k1 =>
  some true
 |y2::ys3,k1 =>
  (qAM y2 low high).bind fun x12 =>
  cond (!x12)
   (some false)
   (qCX low high ys3 (k1+1))
def qCG (l:ac) (low:Int) (high:Int):ad :=
 qCX low high l 0
theorem qGJ (l:ac) (low:Int) (high:Int) (r:Bool) (hH:qCG l low high=some r):qAC prog 96 [.s (List.map ze0 l),low,high] (.v (.bool r)):=by
 refine fns T func96 ?_
 refine go ?_
 refine AW.loopS (fun s:Nat=>(⟨[(1,low),(2,high),(9,sv ze0 l),(10,(l.length:Int)),(11,(s:Int))],[],21,[]⟩:St)) (fun s=>s<=l.length/\qCX low high (l.drop s) s=some r) (fun s=>l.length-s) 0 ⟨Nat.zero_le _,hH⟩ ?_ ?_
 exact Le.ct 0 0
 rintro k1 ⟨hk,hH⟩
 try dsimp only at hH⊢
 refine AW.boundM (t:=9) (l:=l) rfl (fun hb5=>?_)
 rcases hd4:l.drop k1 with _|⟨y2,ys3⟩
 rw[hd4,qCX]at hH
 have hlt6:=qAF hd4
 refine go ?_
 exact fin
 rw[hd4,qCX]at hH
 have hlt6:=qAG hd4
 refine go ?_
 obtain⟨x12,hx13,hH⟩:=zB hH
 refine go ?_
 refine AO.w (cVs (qAQ _ _ _ _ (hx13))) (go ?_)
 refine AW.cH hH (fun _ hH=>?_) (fun _ hH=>?_)
 refine go ?_
 exact fin
 refine go ?_
 refine⟨k1+1,⟨hlt6,(zds hd4▸hH)⟩,qBl hlt6,?_⟩
 exact Le.ct 0 0
def qEA (it:Item) (fl:Nat):List aa->Nat->ad
 | [],k1 =>
  (qAM (it.names.length:Int) 1 3).bind fun x12 =>
  (opt (x12&&((it.marks.length:Int)==(it.names.length:Int))) default (qCG it.marks 0 3)).bind fun x14 =>
  some ((x12&&((it.marks.length:Int)==(it.names.length:Int)))&&x14)
 |y2::ys3,k1 =>
  (qIo fl y2).bind fun x16 =>
  cond (!x16)
   (some false)
   (qEA it fl ys3 (k1+1))
def qGQ (fl:Nat) (it:Item):ad :=
 qEA it fl it.names 0
theorem qMD (fl:Nat) (it:Item) (r:Bool) (hH:qGQ fl it=some r):qAC prog 183 [.g (ze3 it)] (.v (.bool r)):=by
 refine fns T func183 ?_
 refine go ?_
 refine AO.x (bxs T 1) (go ?_)
 refine AW.loopS (fun s:Nat=>(⟨[(1,.p 1 0),(6,sv ze2 it.names),(7,(it.names.length:Int)),(8,(s:Int))],[(1,.box [sv ze2 it.names,sv ze0 it.marks,.v (.bool it.late)])],34,[]⟩:St)) (fun s=>s<=it.names.length/\qEA it fl (it.names.drop s) s=some r) (fun s=>it.names.length-s) 0 ⟨Nat.zero_le _,hH⟩ ?_ ?_
 exact Le.ct 0 0
 rintro k1 ⟨hk,hH⟩
 try dsimp only at hH⊢
 refine AW.boundM (t:=6) (l:=it.names) rfl (fun hb5=>?_)
 rcases hd4:it.names.drop k1 with _|⟨y2,ys3⟩
 rw[hd4,qEA]at hH
 have hlt6:=qAF hd4
 refine go ?_
 obtain⟨x12,hx13,x14,hx15,hH⟩:=qAH hH
 refine go ?_
 refine AO.w (cVs (qAQ _ _ _ _ (hx13))) ?_
 refine AO.pu T ?_
 refine AO.g0 T ?_
 refine AO.g1 T 21 ?_
 refine AO.d1 22 (fun hg=>qMi T) ?_
 refine AO.g0 T ?_
 refine AO.g1 T 24 ?_
 refine AO.d1 25 (fun hg=>qMi T) ?_
 refine AO.g2 T 23 26 ?_
 refine go ?_
 refine AO.g0 T ?_
 refine AO.g1 T 30 ?_
 refine AO.d1 31 (fun hg=>cVs (qGJ _ _ _ _ (qE9 hx15 hg))) ?_
 refine go ?_
 exact fin
 rw[hd4,qEA]at hH
 have hlt6:=qAG hd4
 refine go ?_
 obtain⟨x16,hx17,hH⟩:=zB hH
 refine go ?_
 refine AO.w (cVs (qPt fl _ _ (hx17))) (go ?_)
 refine AW.cH hH (fun _ hH=>?_) (fun _ hH=>?_)
 refine go ?_
 exact fin
 refine go ?_
 refine⟨k1+1,⟨hlt6,(zds hd4▸hH)⟩,qBl hlt6,?_⟩
 exact Le.ct 0 0
def qBj (y6:aa) (v113:List aa) (v114:ac):Nat->Int->Option ((List aa)×(ac))
 |0,_=>none
 |k145+1,v155 =>
  cond (decide (v155<=3))
   ((qAT [(⟨#[]⟩:aa),(⟨#[60]⟩:aa),(⟨#[101]⟩:aa),(⟨#[42]⟩:aa)] v155).bind fun x157 =>
   (qDB y6 x157).bind fun x159 =>
   cond x159.2
    ((qAq (qAi 16 (v113.length+([x159.1]).length))).bind fun u161 =>
    (qAq (qAi 8 (v114.length+([v155]).length))).bind fun u163 =>
    some ((v113++[x159.1]),(v114++[v155])))
    (qBj y6 v113 v114 k145 (w64 (v155+1))))
   ((qAq (qAi 16 (v113.length+([y6]).length))).bind fun u165 =>
   (qAq (qAi 8 (v114.length+(([0]:ac)).length))).bind fun u167 =>
   some ((v113++[y6]),(v114++([0]:ac))))
def qAm (fl:Nat) (x1:(aa×Bool)):List aa->Nat->List aa->ac->Option ((Item×Bool))
 | [],k5,v113,v114 =>
  (qGQ fl (Item.mk v113 v114 x1.2)).bind fun x116 =>
  cond (!x116)
   (some ((Item.mk [] [] false),false))
   (some ((Item.mk v113 v114 x1.2),true))
 |y6::ys7,k5,v113,v114 =>
  (qBj y6 v113 v114 fl 1).bind fun (v141,v142) =>
  qAm fl x1 ys7 (k5+1) v141 v142
def qG5 (fl:Nat) (sA:aa):Option (Item×Bool) :=
 (qDB sA (⟨#[32,120]⟩:aa)).bind fun x1 =>
 (qB7 x1.1 (⟨#[43]⟩:aa)).bind fun x3 =>
 qAm fl x1 x3 0 [] []
theorem qN8 (fl:Nat) (sA:aa) (r:(Item×Bool)) (hH:qG5 fl sA=some r):qAC prog 152 [.v (.string sA)] (.t [.g (ze6 r.1),.v (.bool r.2)]):=by
 refine fns T func152 ?_
 refine gs2 ?_
 refine AO.x (als T 1) ?_
 refine gs4 ?_
 refine AO.x (qGV T rfl rfl rfl rfl) ?_
 refine AO.x (qGV T rfl rfl rfl rfl) ?_
 refine gs ?_
 refine AO.x (als T 2) ?_
 refine AO.se T [.w 1 [],.w 1 [],.v (.bool false)] ?_
 refine gs2 ?_
 obtain⟨x1,hx2,hH⟩:=zB hH
 refine gs2 ?_
 refine AO.w (cVs (qIn _ _ _ (hx2))) ?_
 refine gs5 ?_
 refine AO.se T [.w 1 [],.w 1 [],.v (.bool x1.2)] ?_
 refine gs3 ?_
 obtain⟨x3,hx4,hH⟩:=zB hH
 refine gs2 ?_
 refine AO.x (qAV rfl 3 rfl rfl rfl (qIY _ _ _ (hx4)) rfl rfl rfl) ?_
 refine gs4 ?_
 refine AW.loopS (fun s:Nat×(List aa)×(ac)=>(⟨[(2,.p 1 0),(4,.p 2 0),(21,.R 3),(22,(x3.length:Int)),(23,(s.1:Int))],[(1,.box [.w 0 [],.w 0 [],.v (.bool false)]),(2,.box [.R 21,.R 23,.v (.bool x1.2)]),(3,ro 1 ze2 x3),(21,ro 1 ze2 s.2.1),(23,ro 1 ze0 s.2.2)],60,[]⟩:St)) (fun s=>s.1<=x3.length/\qAm fl x1 (x3.drop s.1) s.1 s.2.1 s.2.2=some r) (fun s=>x3.length-s.1) (0,[],[]) ⟨Nat.zero_le _,hH⟩ ?_ ?_
 refine Le.trans (Le.voidBox 2 0 21 1 rfl rfl rfl rfl) ?_
 refine Le.trans (Le.voidBox 2 1 23 1 rfl rfl rfl rfl) ?_
 exact Le.ct 0 0
 rintro⟨k5,v113,v114⟩ ⟨hk,hH⟩
 try dsimp only at hH⊢
 refine AW.boundR (id:=3) (l:=x3) rfl (fun hb9=>?_)
 rcases hd8:x3.drop k5 with _|⟨y6,ys7⟩
 rw[hd8,qAm]at hH
 have hlt10:=qAF hd8
 refine gs9 ?_
 obtain⟨x116,hx117,hH⟩:=zB hH
 refine gs2 ?_
 refine AO.w (zLV rfl rfl rfl (es:=[.g (ze3 (Item.mk v113 v114 x1.2))]) ⟨qEN (LendL.cons ((.rowR rfl (.map fun y=>.vs rfl))) (LendL.cons ((.rowR rfl (.map fun y=>.vs rfl))) (LendL.cons (.free rfl) LendL.nil))),trivial⟩ (qMD fl _ _ (hx117)) (qAJ _) rfl) ?_
 refine gs2 ?_
 refine AW.cH hH (fun _ hH=>?_) (fun hc hH=>?_)
 refine gs3 ?_
 refine AO.se T [.w 0 [],.w 0 [],.v (.bool false)] ?_
 refine gs3 ?_
 exact fin
 refine gs4 ?_
 refine AO.se T [.R 21,.R 23,.v (.bool x1.2)] ?_
 refine gs3 ?_
 exact fin
 rw[hd8,qAm]at hH
 have hlt10:=qAG hd8
 refine gs7 ?_
 obtain⟨o143,hH,hK144⟩:=zB hH
 refine AW.seqJ (fun s:(List aa)×(ac)=>(⟨[(2,.p 1 0),(4,.p 2 0),(21,.R 3),(22,(x3.length:Int)),(23,(k5:Int))],[(1,.box [.w 0 [],.w 0 [],.v (.bool false)]),(2,.box [.R 37,.R 39,.v (.bool x1.2)]),(3,ro 1 ze2 x3),(37,ro 1 ze2 s.1),(39,ro 1 ze0 s.2)],60,[]⟩:St)) (fun s=>s=o143) ?_ ?_
 refine gs4 ?_
 refine AO.w (zLr T rfl rfl rfl rfl (zgG (zgD hd8)) rfl rfl rfl) ?_
 iterate 12 refine gs ?_
 refine AW.loopS (fun s:Nat×Int=>(⟨[(2,.p 1 0),(4,.p 2 0),(6,.v (.string y6)),(7,(0:Int)),(8,s.2),(21,.R 3),(22,(x3.length:Int)),(23,(k5:Int))],[(1,.box [.w 0 [],.w 0 [],.v (.bool false)]),(2,.box [.R 21,.R 23,.v (.bool x1.2)]),(3,ro 1 ze2 x3),(21,ro 1 ze2 v113),(23,ro 1 ze0 v114)],60,[]⟩:St)) (fun s=>qBj y6 v113 v114 s.1 s.2=some o143) (fun s=>s.1) (fl,1) hH ?_ ?_
 exact Le.ct 0 0
 rintro⟨k145,v155⟩ hH
 try dsimp only at hH⊢
 rcases k145 with _|k145
 cases (show none=some _ from hH)
 rw[qBj]at hH
 refine gs6 ?_
 refine AW.cH hH (fun hc hH=>?_) (fun _ hH=>?_)
 refine gs4 ?_
 obtain⟨x157,hx158,x159,hx160,hH⟩:=qAH hH
 refine gs3 ?_
 refine AO.w (qW6 T (l:=[(⟨#[]⟩:aa),(⟨#[60]⟩:aa),(⟨#[101]⟩:aa),(⟨#[42]⟩:aa)]) (f:=ze2) rfl rfl rfl rfl rfl rfl rfl (fun _=>rfl) (hx158)) ?_
 refine AO.pu T ?_
 refine AO.w (cVs (qIn _ _ _ (hx160))) ?_
 iterate 10 refine gs ?_
 refine AW.cH hH (fun _ hH=>?_) (fun hc hH=>?_)
 refine gs9 ?_
 obtain⟨u161,hx162,hH⟩:=zB hH
 refine gs4 ?_
 refine AO.x (mks T 44 ze2 ([x159.1])) ?_
 refine AO.x (rvs T 45 (hfit:=by exact qAP (hx162))) ?_
 refine AO.pu T ?_
 refine AO.se T [.R 45,.R 23,.v (.bool x1.2)] ?_
 refine AO.n (AW.le (Le.ct 0 0 (σ':=(⟨[(2,.p 1 0),(4,.p 2 0),(7,v155),(21,.R 3),(22,(x3.length:Int)),(23,(k5:Int))],[(1,.box [.w 0 [],.w 0 [],.v (.bool false)]),(2,.box [.R 45,.R 23,.v (.bool x1.2)]),(3,ro 1 ze2 x3),(23,ro 1 ze0 v114),(45,ro 1 ze2 (v113++[x159.1]))],60,[]⟩:St))) ?_)
 obtain⟨u163,hx164,hH⟩:=zB hH
 refine gs4 ?_
 refine AO.x (mks T 46 ze0 ([v155])) ?_
 refine AO.x (rvs T 47 (hfit:=by exact qAP (hx164))) ?_
 refine AO.pu T ?_
 refine AO.se T [.R 45,.R 47,.v (.bool x1.2)] ?_
 refine AO.n ?_
 refine⟨_,zS hH,?_⟩
 refine Le.trans (Le.ct 45 37 (σ':=(⟨[(2,.p 1 0),(4,.p 2 0),(21,.R 3),(22,(x3.length:Int)),(23,(k5:Int))],[(1,.box [.w 0 [],.w 0 [],.v (.bool false)]),(2,.box [.R 37,.R 47,.v (.bool x1.2)]),(3,ro 1 ze2 x3),(37,ro 1 ze2 (v113++[x159.1])),(47,ro 1 ze0 (v114++[v155]))],60,[]⟩:St))) ?_
 exact Le.ct 47 39
 refine gs6 ?_
 refine⟨(k145,w64 (v155+1)),hH,Nat.lt_succ_self _,?_⟩
 exact Le.ct 0 0
 refine gs2 ?_
 obtain⟨u165,hx166,hH⟩:=zB hH
 refine gs4 ?_
 refine AO.x (mks T 48 ze2 ([y6])) ?_
 refine AO.x (rvs T 49 (hfit:=by exact qAP (hx166))) ?_
 refine AO.pu T ?_
 refine AO.se T [.R 49,.R 23,.v (.bool x1.2)] ?_
 refine AO.n ?_
 obtain⟨u167,hx168,hH⟩:=zB hH
 refine gs4 ?_
 refine AO.x (mks T 50 ze0 (([0]:ac))) ?_
 refine AO.x (rvs T 51 (hfit:=by exact qAP (hx168))) ?_
 refine AO.pu T ?_
 refine AO.se T [.R 49,.R 51,.v (.bool x1.2)] ?_
 refine AO.n ?_
 refine⟨_,zS hH,?_⟩
 refine Le.trans (Le.ct 49 37 (σ':=(⟨[(2,.p 1 0),(4,.p 2 0),(21,.R 3),(22,(x3.length:Int)),(23,(k5:Int))],[(1,.box [.w 0 [],.w 0 [],.v (.bool false)]),(2,.box [.R 37,.R 51,.v (.bool x1.2)]),(3,ro 1 ze2 x3),(37,ro 1 ze2 (v113++[y6])),(51,ro 1 ze0 (v114++([0]:ac)))],60,[]⟩:St))) ?_
 exact Le.ct 51 39
 rintro⟨v141,v142⟩ hs
 subst hs
 replace hH:=hK144
 try dsimp only[qLW,qJg]at hH
 try dsimp only
 refine gs4 ?_
 refine⟨(k5+1,v141,v142),⟨hlt10,(zds hd8▸hH)⟩,qBl hlt10,?_⟩
 refine Le.trans (Le.ct 37 21 (σ':=(⟨[(2,.p 1 0),(4,.p 2 0),(21,.R 3),(22,(x3.length:Int)),(23,((k5+1:Nat):Int))],[(1,.box [.w 0 [],.w 0 [],.v (.bool false)]),(2,.box [.R 21,.R 39,.v (.bool x1.2)]),(3,ro 1 ze2 x3),(21,ro 1 ze2 v141),(39,ro 1 ze0 v142)],60,[]⟩:St))) ?_
 exact Le.ct 39 23
def qDR (l:ac):Option ac :=
 (qAq (qAi 8 l.length)).bind fun u1 =>
 some l
theorem qIe (l:ac) (r:(ac)) (hH:qDR l=some r):qAC prog 223 [.s (List.map ze0 l)] (.w 1 (r.map ze0)):=by
 refine fns T func223 ?_
 refine gs5 ?_
 obtain⟨u1,hx2,hH⟩:=zB hH
 refine AW.r (AO.x (qGV T rfl rfl rfl rfl) ?_)
 refine AO.pu T ?_
 refine AO.x (qLp T rfl 1 rfl rfl rfl rfl rfl (by decide) (by decide) rfl rfl (fun _=>rfl) (qAP (hx2)) rfl rfl) ?_
 refine gs3 ?_
 exact fin
def qJA (it:Item):Option Item :=
 (qAq (qAi 16 it.names.length)).bind fun u1 =>
 (qDR it.marks).bind fun x3 =>
 some (Item.mk it.names x3 it.late)
theorem qOe (it:Item) (r:Item) (hH:qJA it=some r):qAC prog 218 [.g (ze3 it)] (.g (ze6 r)):=by
 refine fns T func218 ?_
 refine go ?_
 refine AO.x (bxs T 1) ?_
 refine AO.x (als T 2) (go ?_)
 obtain⟨u1,hx2,x3,hx4,hH⟩:=qAH hH
 refine AW.drawn 9 3 [] mix (by kernel_rfl) rfl ?_
 refine AD.v (FStep.mk0 T rfl rfl rfl rfl rfl) ?_
 refine go ?_
 refine AD.q (FStep.app_ws T rfl rfl rfl rfl rfl rfl rfl (by decide) (by decide) rfl rfl (fun _=>rfl) (qAP (hx2)) rfl) (by simp[qA1]) (Nat.le_succ _) rfl ?_
 refine go ?_
 refine AD.q (FStep.call rfl rfl rfl rfl rfl (qIe _ _ (hx4)) rfl rfl) (qAu _ _) (qC5 _ _) rfl ?_
 refine go ?_
 refine AO.se T [.R 3,.R 4,.v (.bool it.late)] ?_
 refine go ?_
 exact fin
def qCP:List Item->Nat->List Item->Option ((List Item))
 | [],k1,v16 =>
  some v16
 |y2::ys3,k1,v16 =>
  (qJA y2).bind fun x18 =>
  (qAq (qAi 56 (v16.length+([x18]).length))).bind fun u20 =>
  qCP ys3 (k1+1) (v16++[x18])
def qFi (l:List Item):Option (List Item) :=
 qCP l 0 []
theorem qH5 (l:List Item) (r:(List Item)) (hH:qFi l=some r):qAC prog 153 [.s (List.map ze3 l)] (.w 3 (r.map ze6)):=by
 refine fns T func153 ?_
 refine go ?_
 refine AO.x (qGV T rfl rfl rfl rfl) (go ?_)
 refine AW.loopS (fun s:Nat×(List Item)=>(⟨[(3,.R 10),(7,sv ze3 l),(8,(l.length:Int)),(9,(s.1:Int))],[(10,ro 3 ze6 s.2)],20,[]⟩:St)) (fun s=>s.1<=l.length/\qCP (l.drop s.1) s.1 s.2=some r) (fun s=>l.length-s.1) (0,[]) ⟨Nat.zero_le _,hH⟩ ?_ ?_
 refine Le.trans (Le.void 3 10 3 rfl rfl) ?_
 exact Le.ct 0 0
 rintro⟨k1,v16⟩ ⟨hk,hH⟩
 try dsimp only at hH⊢
 refine AW.boundM (t:=7) (l:=l) rfl (fun hb5=>?_)
 rcases hd4:l.drop k1 with _|⟨y2,ys3⟩
 rw[hd4,qCP]at hH
 have hlt6:=qAF hd4
 refine go ?_
 exact fin
 rw[hd4,qCP]at hH
 have hlt6:=qAG hd4
 refine go ?_
 refine AO.x (als T 11) ?_
 refine AO.se T [sv ze2 y2.names,sv ze0 y2.marks,.v (.bool y2.late)] ?_
 refine AO.n ?_
 obtain⟨x18,hx19,u20,hx21,hH⟩:=qAH hH
 refine go ?_
 refine AO.x (qAV rfl 12 rfl rfl rfl (qOe _ _ (hx19)) rfl rfl rfl) ?_
 refine AO.x (qST T rfl 14 rfl rfl rfl rfl rfl rfl (f:=ze6) (l:=[x18]) (ids:=[12,13]) rfl rfl (fun _=>rfl) (by exact zC (.rowR rfl) (zC (.rowR rfl) (zC .v (zCn)))) (by decide) rfl rfl rfl rfl rfl) ?_
 refine AO.x (qEe T rfl 15 rfl rfl rfl rfl rfl (by decide) rfl rfl rfl rfl rfl (qAP (hx21)) rfl rfl) (go ?_)
 refine⟨(k1+1,(v16++[x18])),⟨hlt6,(zds hd4▸hH)⟩,qBl hlt6,?_⟩
 exact Le.ct 15 10
def qCV:List ac->Nat->List ac->Option ((List ac))
 | [],k1,v16 =>
  some v16
 |y2::ys3,k1,v16 =>
  (qDR y2).bind fun x18 =>
  (qAq (qAi 24 (v16.length+([x18]).length))).bind fun u20 =>
  qCV ys3 (k1+1) (v16++[x18])
def qG0 (l:List ac):Option (List ac) :=
 qCV l 0 []
theorem qKD (l:List ac) (r:(List ac)) (hH:qG0 l=some r):qAC prog 219 [.s (List.map ze5 l)] (.w 1 (r.map ze1)):=by
 refine fns T func219 ?_
 refine go ?_
 refine AO.x (qGV T rfl rfl rfl rfl) (go ?_)
 refine AW.loopS (fun s:Nat×(List ac)=>(⟨[(3,.R 6),(7,sv ze5 l),(8,(l.length:Int)),(9,(s.1:Int))],[(6,ro 1 ze1 s.2)],20,[]⟩:St)) (fun s=>s.1<=l.length/\qCV (l.drop s.1) s.1 s.2=some r) (fun s=>l.length-s.1) (0,[]) ⟨Nat.zero_le _,hH⟩ ?_ ?_
 refine Le.trans (Le.void 3 6 1 rfl rfl) ?_
 exact Le.ct 0 0
 rintro⟨k1,v16⟩ ⟨hk,hH⟩
 try dsimp only at hH⊢
 refine AW.boundM (t:=7) (l:=l) rfl (fun hb5=>?_)
 rcases hd4:l.drop k1 with _|⟨y2,ys3⟩
 rw[hd4,qCV]at hH
 have hlt6:=qAF hd4
 refine go ?_
 exact fin
 rw[hd4,qCV]at hH
 have hlt6:=qAG hd4
 refine go ?_
 obtain⟨x18,hx19,u20,hx21,hH⟩:=qAH hH
 refine go ?_
 refine AO.x (qAV rfl 7 rfl rfl rfl (qIe _ _ (hx19)) rfl rfl rfl) ?_
 refine AO.x (qST T rfl 8 rfl rfl rfl rfl rfl rfl (f:=ze1) (l:=[x18]) (ids:=[7]) rfl rfl (fun _=>rfl) (by exact zC (.rowR rfl) (zCn)) (by decide) rfl rfl rfl rfl rfl) ?_
 refine AO.x (qEe T rfl 9 rfl rfl rfl rfl rfl (by decide) rfl rfl rfl rfl rfl (qAP (hx21)) rfl rfl) (go ?_)
 refine⟨(k1+1,(v16++[x18])),⟨hlt6,(zds hd4▸hH)⟩,qBl hlt6,?_⟩
 exact Le.ct 9 6
def qCt (m:Marks):Option Marks :=
 (qG0 m.grades).bind fun x1 =>
 (qG0 m.components).bind fun x3 =>
 some (Marks.mk x1 x3)
theorem qGS (m:Marks) (r:Marks) (hH:qCt m=some r):qAC prog 154 [.g (qAb m)] (.g (qEy r)):=by
 refine fns T func154 ?_
 refine go ?_
 refine AO.x (bxs T 1) ?_
 refine AO.x (als T 2) (go ?_)
 obtain⟨x1,hx2,x3,hx4,hH⟩:=qAH hH
 refine AW.drawn 5 3 [] mix (by kernel_rfl) rfl ?_
 refine go ?_
 refine AD.q (FStep.call rfl rfl rfl rfl rfl (qKD _ _ (hx2)) rfl rfl) (qAu _ _) (qC5 _ _) rfl ?_
 refine go ?_
 refine AO.x (qAV rfl 4 rfl rfl rfl (qKD _ _ (hx4)) rfl rfl rfl) (go ?_)
 refine AO.se T [.R 3,.R 4] ?_
 refine go ?_
 exact fin
def qAy (m:Marks):Option Int :=
 (qAT m.components 0).bind fun x1 =>
 some (x1.length:Int)
theorem qEf (m:Marks) (r:Int) (hH:qAy m=some r):qAC prog 155 [.g (qAb m)] (.v (.int .i64 r)):=by
 refine fns T func155 ?_
 refine go ?_
 refine AO.x (bxs T 1) (go ?_)
 obtain⟨x1,hx2,hH⟩:=zB hH
 refine go ?_
 exact fin
def qFF (family:Int):ad :=
 (qAM family 0 4).bind fun x1 =>
 some x1
theorem qKw (family:Int) (r:Bool) (hH:qFF family=some r):qAC prog 98 [family] (.v (.bool r)):=by
 refine fns T func98 ?_
 refine go ?_
 obtain⟨x1,hx2,hH⟩:=zB hH
 refine go ?_
 refine AO.w (cVs (qAQ _ _ _ _ (hx2))) (go ?_)
 exact fin
def qD5 (c:Code) (fl:Nat):List Element->Nat->ad
 | [],k13 =>
  some true
 |y14::ys15,k13 =>
  (qDw fl y14.name).bind fun x40 =>
  (opt (!(!x40)) default (qFF y14.family)).bind fun x42 =>
  (opt (!((!x40)||(!x42))) default (qAM y14.level 0 4)).bind fun x44 =>
  (opt (!(((!x40)||(!x42))||(!x44))) default (qAM y14.base 1 2000)).bind fun x46 =>
  cond ((((!x40)||(!x42))||(!x44))||(!x46))
   (some false)
   ((opt (decide ((k13:Int)>0)) default (qAT c.elements (w64 ((k13:Int)-1)))).bind fun x48 =>
   cond (decide ((k13:Int)>0)&&(!qND x48.name y14.name))
    (some false)
    (qD5 c fl ys15 (k13+1)))
def qBH (fl:Nat) (c:Code):ad :=
 (qAM (c.elements.length:Int) 1 24).bind fun x1 =>
 (opt (!((!x1)||((c.limits.length:Int) != 5))) default (qCG c.limits 0 9)).bind fun x3 =>
 cond (((!x1)||((c.limits.length:Int) != 5))||(!x3))
  (some false)
  ((qAM c.repeats 1 3).bind fun x5 =>
  (opt (!(!x5)) default (qAM c.bonus 0 20)).bind fun x7 =>
  (opt (!((!x5)||(!x7))) default (qAM c.keeps 50 100)).bind fun x9 =>
  (opt (!(((!x5)||(!x7))||(!x9))) default (qAM c.fall 0 500)).bind fun x11 =>
  cond ((((!x5)||(!x7))||(!x9))||(!x11))
   (some false)
   (qD5 c fl c.elements 0))
theorem qFs (fl:Nat) (c:Code) (r:Bool) (hH:qBH fl c=some r):qAC prog 70 [.g (ze4 c)] (.v (.bool r)):=by
 refine fns T func70 ?_
 refine go ?_
 refine AO.x (bxs T 1) (go ?_)
 obtain⟨x1,hx2,x3,hx4,hH⟩:=qAH hH
 refine go ?_
 refine AO.w (cVs (qAQ _ _ _ _ (hx2))) (go ?_)
 refine AO.g0 T ?_
 refine AO.g1 T 11 ?_
 refine AO.d1 12 (fun hg=>qMi T) ?_
 refine AO.g1 T 13 ?_
 refine go ?_
 refine AO.g0 T ?_
 refine AO.g1 T 17 ?_
 refine AO.d1 18 (fun hg=>cVs (qGJ _ _ _ _ (qE9 hx4 hg))) ?_
 refine AO.g1 T 19 ?_
 refine go ?_
 refine AW.cH hH (fun _ hH=>?_) (fun hc hH=>?_)
 refine go ?_
 exact fin
 refine go ?_
 obtain⟨x5,hx6,x7,hx8,x9,hx10,hH⟩:=qBC hH
 obtain⟨x11,hx12,hH⟩:=zB hH
 refine go ?_
 refine AO.w (cVs (qAQ _ _ _ _ (hx6))) (go ?_)
 refine AO.g0 T ?_
 refine AO.g1 T 27 ?_
 refine AO.d1 28 (fun hg=>cVs (qAQ _ _ _ _ (qE9 hx8 hg))) ?_
 refine AO.g1 T 29 ?_
 refine go ?_
 refine AO.g0 T ?_
 refine AO.g1 T 33 ?_
 refine AO.d1 34 (fun hg=>cVs (qAQ _ _ _ _ (qE9 hx10 hg))) ?_
 refine AO.g1 T 35 ?_
 refine go ?_
 refine AO.g0 T ?_
 refine AO.g1 T 39 ?_
 refine AO.d1 40 (fun hg=>cVs (qAQ _ _ _ _ (qE9 hx12 hg))) ?_
 refine AO.g1 T 41 ?_
 refine gs2 ?_
 refine AW.le (Le.ct 0 0 (σ':=(⟨[(1,.p 1 0),(43,.v (.bool ((((!x5)||(!x7))||(!x9))||(!x11))))],[(1,.box (ze4 c))],89,[]⟩:St))) ?_
 refine AW.cH hH (fun _ hH=>?_) (fun hc hH=>?_)
 refine go ?_
 exact fin
 refine go ?_
 refine AW.loopS (fun s:Nat=>(⟨[(1,.p 1 0),(45,sv ze7 c.elements),(46,(c.elements.length:Int)),(47,(s:Int))],[(1,.box (ze4 c))],89,[]⟩:St)) (fun s=>s<=c.elements.length/\qD5 c fl (c.elements.drop s) s=some r) (fun s=>c.elements.length-s) 0 ⟨Nat.zero_le _,hH⟩ ?_ ?_
 exact Le.ct 0 0
 rintro k13 ⟨hk,hH⟩
 try dsimp only at hH⊢
 refine AW.boundM (t:=45) (l:=c.elements) rfl (fun hb17=>?_)
 rcases hd16:c.elements.drop k13 with _|⟨y14,ys15⟩
 rw[hd16,qD5]at hH
 have hlt18:=qAF hd16
 refine go ?_
 exact fin
 rw[hd16,qD5]at hH
 have hlt18:=qAG hd16
 refine go ?_
 refine AO.x (als T 4) ?_
 refine AO.pu T ?_
 refine AO.se T [.v (.string y14.name),y14.family,y14.level,y14.base] ?_
 refine go ?_
 obtain⟨x40,hx41,x42,hx43,x44,hx45,hH⟩:=qBC hH
 obtain⟨x46,hx47,hH⟩:=zB hH
 refine go ?_
 refine AO.w (cVs (qIR fl _ _ (hx41))) (go ?_)
 refine AO.g0 T ?_
 refine AO.g1 T 57 ?_
 refine AO.d1 58 (fun hg=>cVs (qKw _ _ (qE9 hx43 hg))) ?_
 refine AO.g1 T 59 ?_
 refine go ?_
 refine AO.g0 T ?_
 refine AO.g1 T 63 ?_
 refine AO.d1 64 (fun hg=>cVs (qAQ _ _ _ _ (qE9 hx45 hg))) ?_
 refine AO.g1 T 65 ?_
 refine go ?_
 refine AO.g0 T ?_
 refine AO.g1 T 69 ?_
 refine AO.d1 70 (fun hg=>cVs (qAQ _ _ _ _ (qE9 hx47 hg))) ?_
 refine AO.g1 T 71 ?_
 refine gs2 ?_
 refine AW.le (Le.ct 0 0 (σ':=(⟨[(1,.p 1 0),(3,(k13:Int)),(4,.p 4 0),(45,sv ze7 c.elements),(46,(c.elements.length:Int)),(47,(k13:Int)),(73,.v (.bool ((((!x40)||(!x42))||(!x44))||(!x46))))],[(1,.box (ze4 c)),(4,.box (ze7 y14))],89,[]⟩:St))) ?_
 refine AW.cH hH (fun _ hH=>?_) (fun hc hH=>?_)
 refine go ?_
 exact fin
 refine go ?_
 obtain⟨x48,hx49,hH⟩:=zB hH
 refine AW.drawn 12 5 [] mix (by kernel_rfl) rfl ?_
 refine go ?_
 refine AD.pureG T [] rfl trivial rfl rfl ?_
 refine AD.pureG T [77] rfl ⟨fun h=>h,trivial⟩ rfl rfl ?_
 refine AD.pureG T [] rfl trivial rfl rfl ?_
 refine AD.guard [79] rfl ⟨fun h=>h,trivial⟩ (fun hg=>aws) rfl ?_
 refine AD.guard [78,80] rfl ⟨fun h=>h,fun h=>h,trivial⟩ (fun hg=>ixs T (qE9 hx49 hg)) rfl ?_
 refine AD.pureG T [81] rfl ⟨fun h=>h,trivial⟩ rfl rfl ?_
 refine AD.pureG T [82] rfl ⟨fun h=>h,trivial⟩ rfl rfl ?_
 refine AD.pureG T [] rfl trivial rfl rfl ?_
 refine AD.pureG T [84] rfl ⟨fun h=>h,trivial⟩ rfl rfl ?_
 refine AD.nil (AO.g2 T 83 85 ?_)
 refine go ?_
 refine AW.cH hH (fun _ hH=>?_) (fun _ hH=>?_)
 refine go ?_
 exact fin
 refine go ?_
 refine⟨k13+1,⟨hlt18,(zds hd16▸hH)⟩,qBl hlt18,?_⟩
 exact Le.ct 0 0
def qCs (l:List Item) (fl:Nat):List Item->Nat->ad
 | [],k1 =>
  some (decide ((l.length:Int)<=14))
 |y2::ys3,k1 =>
  (qGQ fl y2).bind fun x12 =>
  cond (!x12)
   (some false)
   (qCs l fl ys3 (k1+1))
def qFG (fl:Nat) (l:List Item):ad :=
 qCs l fl l 0
theorem qKu (fl:Nat) (l:List Item) (r:Bool) (hH:qFG fl l=some r):qAC prog 126 [.s (List.map ze3 l)] (.v (.bool r)):=by
 refine fns T func126 ?_
 refine go ?_
 refine AW.loopS (fun s:Nat=>(⟨[(0,sv ze3 l),(5,sv ze3 l),(6,(l.length:Int)),(7,(s:Int))],[],18,[]⟩:St)) (fun s=>s<=l.length/\qCs l fl (l.drop s) s=some r) (fun s=>l.length-s) 0 ⟨Nat.zero_le _,hH⟩ ?_ ?_
 exact Le.ct 0 0
 rintro k1 ⟨hk,hH⟩
 try dsimp only at hH⊢
 refine AW.boundM (t:=0) (l:=l) rfl (fun hb5=>?_)
 rcases hd4:l.drop k1 with _|⟨y2,ys3⟩
 rw[hd4,qCs]at hH
 have hlt6:=qAF hd4
 refine go ?_
 exact fin
 rw[hd4,qCs]at hH
 have hlt6:=qAG hd4
 refine go ?_
 refine AO.x (als T 3) ?_
 refine AO.se T [sv ze2 y2.names,sv ze0 y2.marks,.v (.bool y2.late)] ?_
 refine go ?_
 obtain⟨x12,hx13,hH⟩:=zB hH
 refine go ?_
 refine AO.w (cVs (qMD fl _ _ (hx13))) (go ?_)
 refine AW.cH hH (fun _ hH=>?_) (fun _ hH=>?_)
 refine go ?_
 exact fin
 refine go ?_
 refine⟨k1+1,⟨hlt6,(zds hd4▸hH)⟩,qBl hlt6,?_⟩
 exact Le.ct 0 0
def qAk (f:Element->ad):List Element->Nat->Option Int
 | [],k1 =>
  some (-1)
 |y2::ys3,k1 =>
  (f y2).bind fun x12 =>
  cond x12
   (some (k1:Int))
   (qAk f ys3 (k1+1))
def qEb (sA:List Element) (f:Element->ad):Option Int :=
 qAk f sA 0
theorem qJD (sA:List Element) (f_f:Nat) (f_c:List D) (f_k:f_c.all D.capOk=true) (f:Element->ad) (f_h:∀(a0:Element) (q:Bool),f a0=some q->qAC prog f_f ([.g (ze7 a0)]++f_c) (.v (.bool q))) (r:Int) (hH:qEb sA f=some r):qAC prog 296 [.s (List.map ze7 sA),.f f_f f_c] (.v (.int .i64 r)):=by
 have f_r:=qLG f_k
 refine fns T func296 ?_
 refine go ?_
 refine AW.loopS (fun s:Nat=>(⟨[(0,sv ze7 sA),(1,.f f_f f_c),(7,(sA.length:Int)),(8,(s:Int))],[],19,[]⟩:St)) (fun s=>s<=sA.length/\qAk f (sA.drop s) s=some r) (fun s=>sA.length-s) 0 ⟨Nat.zero_le _,hH⟩ ?_ ?_
 exact Le.cut 0 0 rfl ⟨⟨_,rfl,rfl⟩,⟨_,rfl,qQV f_r⟩,⟨_,rfl,rfl⟩,⟨_,rfl,rfl⟩,trivial⟩ (by repeat' (first|exact trivial|refine⟨⟨_,rfl,rfl⟩,?_⟩)) (qJn (qNR rfl (qNR (qLm f_r) (qNR rfl (qNR rfl qXV)))) rfl)
 rintro k1 ⟨hk,hH⟩
 try dsimp only at hH⊢
 refine AW.boundM (t:=0) (l:=sA) rfl (fun hb5=>?_)
 rcases hd4:sA.drop k1 with _|⟨y2,ys3⟩
 rw[hd4,qAk]at hH
 have hlt6:=qAF hd4
 refine go ?_
 exact fin
 rw[hd4,qAk]at hH
 have hlt6:=qAG hd4
 refine go ?_
 obtain⟨x12,hx13,hH⟩:=zB hH
 refine go ?_
 refine AO.w (zV rfl rfl rfl (qJn rfl (qN0 f_r)) (f_h _ _ (hx13)) rfl) ?_
 refine AO.n (AW.cH hH (fun _ hH=>?_) (fun _ hH=>?_))
 refine go ?_
 exact fin
 refine go ?_
 refine⟨k1+1,⟨hlt6,(zds hd4▸hH)⟩,qBl hlt6,?_⟩
 exact Le.cut 0 0 rfl ⟨⟨_,rfl,rfl⟩,⟨_,rfl,qQV f_r⟩,⟨_,rfl,rfl⟩,⟨_,rfl,rfl⟩,trivial⟩ (by repeat' (first|exact trivial|refine⟨⟨_,rfl,rfl⟩,?_⟩)) (qJn (qNR rfl (qNR (qLm f_r) (qNR rfl (qNR rfl qXV)))) rfl)
def qDT (x:Element) (a:aa):ad :=
 some (decide (x.name=a))
theorem qK3 (x:Element) (a:aa) (r:Bool) (hH:qDT x a=some r):qAC prog 297 [.g (ze7 x),.q [.v (.string a)]] (.v (.bool r)):=by
 refine fns T func297 ?_
 refine go ?_
 refine AO.x (bxs T 1) (go ?_)
 exact fin
def qCp (c:Code) (name:aa):Option Int :=
 (qEb c.elements (fun a0=>qDT a0 name)).bind fun x1 =>
 some x1
theorem qFX (c:Code) (name:aa) (r:Int) (hH:qCp c name=some r):qAC prog 246 [.g (ze4 c),.v (.string name)] (.v (.int .i64 r)):=by
 refine fns T func246 ?_
 refine go ?_
 refine AO.x (bxs T 1) ?_
 refine AO.x (bxs T 2) (go ?_)
 obtain⟨x1,hx2,hH⟩:=zB hH
 refine go ?_
 refine AO.w (zLV rfl rfl rfl (es:=[sv ze7 c.elements,.f 297 [.q [.v (.string name)]]]) ⟨.free rfl,qZN (LendL.cons (Lend.boxF rfl rfl) LendL.nil),trivial⟩ (qJD _ 297 [.q [.v (.string name)]] rfl (fun a0=>qDT a0 name) (fun a0 q h=>qK3 a0 name q h) _ (hx2)) (qAJ _) rfl) (go ?_)
 exact fin
def qDc (c:Code):List aa->Nat->Option (Except Bool Unit)
 | [],k74 =>
  some (.ok ())
 |y75::ys76,k74 =>
  (qCp c y75).bind fun x85 =>
  cond (decide (x85<0))
   (some (.error false))
   (qDc c ys76 (k74+1))
def qDX (c:Code):List Item->Nat->ad
 | [],k1 =>
  some true
 |y2::ys3,k1 =>
  (qDc c y2.names 0).bind fun o72=>qLW o72 fun _ =>
  qDX c ys3 (k1+1)
def qEC (c:Code) (l:List Item):ad :=
 qDX c l 0
theorem qLL (c:Code) (l:List Item) (r:Bool) (hH:qEC c l=some r):qAC prog 184 [.g (ze4 c),.s (List.map ze3 l)] (.v (.bool r)):=by
 refine fns T func184 ?_
 refine gs2 ?_
 refine AO.x (bxs T 1) ?_
 iterate 10 refine gs ?_
 refine AW.loopS (fun s:Nat=>(⟨[(2,.p 1 0),(9,sv ze3 l),(10,(l.length:Int)),(11,(s:Int))],[(1,.box (ze4 c))],28,[]⟩:St)) (fun s=>s<=l.length/\qDX c (l.drop s) s=some r) (fun s=>l.length-s) 0 ⟨Nat.zero_le _,hH⟩ ?_ ?_
 exact Le.ct 0 0
 rintro k1 ⟨hk,hH⟩
 try dsimp only at hH⊢
 refine AW.boundM (t:=9) (l:=l) rfl (fun hb5=>?_)
 rcases hd4:l.drop k1 with _|⟨y2,ys3⟩
 rw[hd4,qDX]at hH
 have hlt6:=qAF hd4
 iterate 12 refine gs ?_
 exact fin
 rw[hd4,qDX]at hH
 have hlt6:=qAG hd4
 refine gs7 ?_
 obtain⟨o72,hH,hK73⟩:=zB hH
 refine AW.seqJ (fun s:Unit=>(⟨[(2,.p 1 0),(9,sv ze3 l),(10,(l.length:Int)),(11,(k1:Int))],[(1,.box (ze4 c))],28,[]⟩:St)) (fun s=>.ok s=o72) ?_ ?_
 refine gs5 ?_
 refine AO.x (als T 7) ?_
 refine AO.se T [sv ze2 y2.names,sv ze0 y2.marks,.v (.bool y2.late)] ?_
 refine gs9 ?_
 refine AW.loopS (fun s:Nat=>(⟨[(2,.p 1 0),(9,sv ze3 l),(10,(l.length:Int)),(11,(k1:Int)),(16,sv ze2 y2.names),(17,(y2.names.length:Int)),(18,(s:Int))],[(1,.box (ze4 c))],28,[]⟩:St)) (fun s=>s<=y2.names.length/\qDc c (y2.names.drop s) s=some o72) (fun s=>y2.names.length-s) 0 ⟨Nat.zero_le _,hH⟩ ?_ ?_
 exact Le.ct 0 0
 rintro k74 ⟨hk,hH⟩
 try dsimp only at hH⊢
 refine AW.boundM (t:=16) (l:=y2.names) rfl (fun hb78=>?_)
 rcases hd77:y2.names.drop k74 with _|⟨y75,ys76⟩
 rw[hd77,qDc]at hH
 have hlt79:=qAF hd77
 refine gs7 ?_
 refine⟨_,zS hH,?_⟩
 exact Le.ct 0 0
 rw[hd77,qDc]at hH
 have hlt79:=qAG hd77
 iterate 16 refine gs ?_
 obtain⟨x85,hx86,hH⟩:=zB hH
 refine gs3 ?_
 refine AO.w (cVs (qFX _ _ _ (hx86))) ?_
 refine gs2 ?_
 refine AW.cH hH (fun _ hH=>?_) (fun _ hH=>?_)
 refine gs5 ?_
 obtain rfl:=zS hH
 replace hH:=hK73
 exact fin
 refine gs5 ?_
 refine⟨k74+1,⟨hlt79,(zds hd77▸hH)⟩,qBl hlt79,?_⟩
 exact Le.ct 0 0
 rintro _ hs
 subst hs
 replace hH:=hK73
 try dsimp only[qLW,qJg]at hH
 try dsimp only
 refine gs4 ?_
 refine⟨k1+1,⟨hlt6,(zds hd4▸hH)⟩,qBl hlt6,?_⟩
 exact Le.ct 0 0
def qA6 (f:Int->ad):ac->Nat->Option Int
 | [],k1 =>
  some (-1)
 |y2::ys3,k1 =>
  (f y2).bind fun x12 =>
  cond x12
   (some (k1:Int))
   (qA6 f ys3 (k1+1))
def qFy (sA:ac) (f:Int->ad):Option Int :=
 qA6 f sA 0
theorem qKW (sA:ac) (f_f:Nat) (f_c:List D) (f_k:f_c.all D.capOk=true) (f:Int->ad) (f_h:∀(a0:Int) (q:Bool),f a0=some q->qAC prog f_f ([.v (.int .i64 a0)]++f_c) (.v (.bool q))) (r:Int) (hH:qFy sA f=some r):qAC prog 336 [.s (List.map ze0 sA),.f f_f f_c] (.v (.int .i64 r)):=by
 have f_r:=qLG f_k
 refine fns T func336 ?_
 refine go ?_
 refine AW.loopS (fun s:Nat=>(⟨[(0,sv ze0 sA),(1,.f f_f f_c),(7,(sA.length:Int)),(8,(s:Int))],[],19,[]⟩:St)) (fun s=>s<=sA.length/\qA6 f (sA.drop s) s=some r) (fun s=>sA.length-s) 0 ⟨Nat.zero_le _,hH⟩ ?_ ?_
 exact Le.cut 0 0 rfl ⟨⟨_,rfl,rfl⟩,⟨_,rfl,qQV f_r⟩,⟨_,rfl,rfl⟩,⟨_,rfl,rfl⟩,trivial⟩ (by repeat' (first|exact trivial|refine⟨⟨_,rfl,rfl⟩,?_⟩)) (qJn (qNR rfl (qNR (qLm f_r) (qNR rfl (qNR rfl qXV)))) rfl)
 rintro k1 ⟨hk,hH⟩
 try dsimp only at hH⊢
 refine AW.boundM (t:=0) (l:=sA) rfl (fun hb5=>?_)
 rcases hd4:sA.drop k1 with _|⟨y2,ys3⟩
 rw[hd4,qA6]at hH
 have hlt6:=qAF hd4
 refine go ?_
 exact fin
 rw[hd4,qA6]at hH
 have hlt6:=qAG hd4
 refine go ?_
 obtain⟨x12,hx13,hH⟩:=zB hH
 refine go ?_
 refine AO.w (zV rfl rfl rfl (qJn rfl (qN0 f_r)) (f_h _ _ (hx13)) rfl) ?_
 refine AO.n (AW.cH hH (fun _ hH=>?_) (fun _ hH=>?_))
 refine go ?_
 exact fin
 refine go ?_
 refine⟨k1+1,⟨hlt6,(zds hd4▸hH)⟩,qBl hlt6,?_⟩
 exact Le.cut 0 0 rfl ⟨⟨_,rfl,rfl⟩,⟨_,rfl,qQV f_r⟩,⟨_,rfl,rfl⟩,⟨_,rfl,rfl⟩,trivial⟩ (by repeat' (first|exact trivial|refine⟨⟨_,rfl,rfl⟩,?_⟩)) (qJn (qNR rfl (qNR (qLm f_r) (qNR rfl (qNR rfl qXV)))) rfl)
def qDJ (sA:ac) (f:Int->ad):ad :=
 (qFy sA f).bind fun x1 =>
 some (decide (x1>=0))
theorem qJP (sA:ac) (f_f:Nat) (f_c:List D) (f_k:f_c.all D.capOk=true) (f:Int->ad) (f_h:∀(a0:Int) (q:Bool),f a0=some q->qAC prog f_f ([.v (.int .i64 a0)]++f_c) (.v (.bool q))) (r:Bool) (hH:qDJ sA f=some r):qAC prog 298 [.s (List.map ze0 sA),.f f_f f_c] (.v (.bool r)):=by
 have f_r:=qLG f_k
 refine fns T func298 ?_
 refine go ?_
 obtain⟨x1,hx2,hH⟩:=zB hH
 refine go ?_
 refine AO.w (zV rfl rfl rfl (qJn (qNR rfl (qNR f_r qXV)) rfl) (qKW _ f_f f_c f_k f f_h _ (hx2)) rfl) (go ?_)
 exact fin
def qFx (mark:Int):ad :=
 (qAM mark 0 1000).bind fun x1 =>
 (opt x1 default (qAq (25 != 0))).bind fun u3 =>
 some (x1&&((mark.tmod 25)==0))
theorem qKH (mark:Int) (r:Bool) (hH:qFx mark=some r):qAC prog 300 [mark] (.v (.bool r)):=by
 refine fns T func300 ?_
 refine go ?_
 obtain⟨x1,hx2,u3,hx4,hH⟩:=qAH hH
 refine go ?_
 refine AO.w (cVs (qAQ _ _ _ _ (hx2))) ?_
 refine AO.pu T ?_
 refine AO.g0 T ?_
 refine AO.d1 6 (fun hg=>qOJ rfl rfl rfl (neZ (qAP (qE9 hx4 hg)))) ?_
 refine AO.g1 T 7 ?_
 refine go ?_
 exact fin
def qDF (mark:Int):ad :=
 (qFx mark).bind fun x1 =>
 some (!x1)
theorem qNH (mark:Int) (r:Bool) (hH:qDF mark=some r):qAC prog 299 [mark] (.v (.bool r)):=by
 refine fns T func299 ?_
 refine go ?_
 obtain⟨x1,hx2,hH⟩:=zB hH
 refine go ?_
 refine AO.w (cVs (qKH _ _ (hx2))) (go ?_)
 exact fin
def qDU (m:Marks):List ac->Nat->ad
 | [],k20 =>
  some true
 |y21::ys22,k20 =>
  (qAy m).bind fun x35 =>
  (opt (!((y21.length:Int) != x35)) default (qDJ y21 (fun a0=>qDF a0 ))).bind fun x37 =>
  cond (((y21.length:Int) != x35)||x37)
   (some false)
   (qDU m ys22 (k20+1))
def qDa (m:Marks):List ac->Nat->ad
 | [],k5 =>
  qDU m m.components 0
 |y6::ys7,k5 =>
  (qAy m).bind fun x39 =>
  (opt (!((y6.length:Int) != x39)) default (qCG y6 (-5) 5)).bind fun x41 =>
  cond (((y6.length:Int) != x39)||(!x41))
   (some false)
   (qDa m ys7 (k5+1))
def qD9 (m:Marks):ad :=
 (opt (!(decide ((m.grades.length:Int)>14)||((m.components.length:Int) != 3))) default (qAT m.components 0)).bind fun x1 =>
 (opt (!(decide ((m.grades.length:Int)>14)||((m.components.length:Int) != 3))) default (qAM (x1.length:Int) 3 9)).bind fun x3 =>
 cond ((decide ((m.grades.length:Int)>14)||((m.components.length:Int) != 3))||(!x3))
  (some false)
  (qDa m m.grades 0)
theorem qJI (m:Marks) (r:Bool) (hH:qD9 m=some r):qAC prog 247 [.g (qAb m)] (.v (.bool r)):=by
 refine fns T func247 ?_
 refine go ?_
 refine AO.x (bxs T 1) (go ?_)
 obtain⟨x1,hx2,x3,hx4,hH⟩:=qAH hH
 refine go ?_
 refine AO.g0 T ?_
 refine AO.g1 T 12 ?_
 refine AO.d1 13 (fun hg=>qMi T) ?_
 refine AO.g1 T 14 ?_
 refine go ?_
 refine AO.g0 T ?_
 refine AO.g1 T 18 ?_
 refine AO.d1 19 (fun hg=>ixs T (qE9 hx2 hg)) ?_
 refine AO.g1 T 20 ?_
 refine AO.d1 21 (fun hg=>qMi T) ?_
 refine AO.d1 22 (fun hg=>cVs (qAQ _ _ _ _ (qE9 hx4 hg))) ?_
 refine AO.g1 T 23 ?_
 refine go ?_
 refine AW.cH hH (fun _ hH=>?_) (fun hc hH=>?_)
 refine go ?_
 exact fin
 refine gs9 ?_
 refine AW.le (Le.ct 0 0 (σ':=(⟨[(1,.p 1 0),(27,sv ze5 m.grades),(28,(m.grades.length:Int)),(29,(0:Int))],[(1,.box [sv ze5 m.grades,sv ze5 m.components])],61,[]⟩:St))) ?_
 refine AW.b (AW.loopS (fun s:Nat=>(⟨[(1,.p 1 0),(27,sv ze5 m.grades),(28,(m.grades.length:Int)),(29,(s:Int))],[(1,.box [sv ze5 m.grades,sv ze5 m.components])],61,[]⟩:St)) (fun s=>s<=m.grades.length/\qDa m (m.grades.drop s) s=some r) (fun s=>m.grades.length-s) 0 ⟨Nat.zero_le _,hH⟩ ?_ ?_)
 exact Le.ct 0 0
 rintro k5 ⟨hk,hH⟩
 try dsimp only at hH⊢
 refine AW.boundM (t:=27) (l:=m.grades) rfl (fun hb9=>?_)
 rcases hd8:m.grades.drop k5 with _|⟨y6,ys7⟩
 rw[hd8,qDa]at hH
 have hlt10:=qAF hd8
 refine go ?_
 refine AW.loopS (fun s:Nat=>(⟨[(1,.p 1 0),(45,sv ze5 m.components),(46,(m.components.length:Int)),(47,(s:Int))],[(1,.box [sv ze5 m.grades,sv ze5 m.components])],61,[]⟩:St)) (fun s=>s<=m.components.length/\qDU m (m.components.drop s) s=some r) (fun s=>m.components.length-s) 0 ⟨Nat.zero_le _,hH⟩ ?_ ?_
 exact Le.ct 0 0
 rintro k20 ⟨hk,hH⟩
 try dsimp only at hH⊢
 refine AW.boundM (t:=45) (l:=m.components) rfl (fun hb24=>?_)
 rcases hd23:m.components.drop k20 with _|⟨y21,ys22⟩
 rw[hd23,qDU]at hH
 have hlt25:=qAF hd23
 refine go ?_
 exact fin
 rw[hd23,qDU]at hH
 have hlt25:=qAG hd23
 refine go ?_
 obtain⟨x35,hx36,x37,hx38,hH⟩:=qAH hH
 refine go ?_
 refine AO.w (cVs (qEf _ _ (hx36))) (go ?_)
 refine AO.g0 T ?_
 refine AO.d1 57 (fun hg=>cVs (qJP _ 299 [] rfl (fun a0=>qDF a0 ) (fun a0 q h=>qNH a0  q h) _ (qE9 hx38 hg))) ?_
 refine go ?_
 refine AW.cH hH (fun _ hH=>?_) (fun hc hH=>?_)
 refine go ?_
 exact fin
 refine go ?_
 refine⟨k20+1,⟨hlt25,(zds hd23▸hH)⟩,qBl hlt25,?_⟩
 exact Le.ct 0 0
 rw[hd8,qDa]at hH
 have hlt10:=qAG hd8
 refine go ?_
 obtain⟨x39,hx40,x41,hx42,hH⟩:=qAH hH
 refine go ?_
 refine AO.w (cVs (qEf _ _ (hx40))) (go ?_)
 refine AO.g0 T ?_
 refine AO.d1 39 (fun hg=>cVs (qGJ _ _ _ _ (qE9 hx42 hg))) ?_
 refine AO.g1 T 40 ?_
 refine go ?_
 refine AW.cH hH (fun _ hH=>?_) (fun _ hH=>?_)
 refine go ?_
 exact fin
 refine go ?_
 refine⟨k5+1,⟨hlt10,(zds hd8▸hH)⟩,qBl hlt10,?_⟩
 exact Le.ct 0 0
def qJG (m:Marks) (items:Int):ad :=
 (qD9 m).bind fun x1 =>
 some (x1&&((m.grades.length:Int)==items))
theorem qOa (m:Marks) (items:Int) (r:Bool) (hH:qJG m items=some r):qAC prog 185 [.g (qAb m),items] (.v (.bool r)):=by
 refine fns T func185 ?_
 refine go ?_
 refine AO.x (bxs T 1) (go ?_)
 obtain⟨x1,hx2,hH⟩:=zB hH
 refine go ?_
 refine AO.w (cVs (qJI _ _ (hx2))) ?_
 refine AO.pu T ?_
 refine AO.g0 T ?_
 refine AO.g1 T 8 ?_
 refine AO.d1 9 (fun hg=>qMi T) ?_
 refine AO.g0 T ?_
 refine AO.g2 T 10 11 ?_
 refine go ?_
 exact fin
def qKN (c:Code) (l:List Item) (m:Marks):ad :=
 (qEC c l).bind fun x1 =>
 (opt x1 default (qJG m (l.length:Int))).bind fun x3 =>
 some (x1&&x3)
theorem qQA (c:Code) (l:List Item) (m:Marks) (r:Bool) (hH:qKN c l m=some r):qAC prog 127 [.g (ze4 c),.s (List.map ze3 l),.g (qAb m)] (.v (.bool r)):=by
 refine fns T func127 ?_
 refine go ?_
 refine AO.x (bxs T 1) ?_
 refine AO.x (bxs T 2) (go ?_)
 obtain⟨x1,hx2,x3,hx4,hH⟩:=qAH hH
 refine go ?_
 refine AO.w (cVs (qLL _ _ _ (hx2))) ?_
 refine AO.pu T ?_
 refine AO.g T (d:=.g [sv ze5 m.grades,sv ze5 m.components]) [] rfl trivial rfl rfl ?_
 refine AO.g0 T ?_
 refine AO.d1 12 (fun hg=>qMi T) ?_
 refine AO.d2 11 13 (fun hg=>cVs (qOa _ _ _ (qE9 hx4 hg))) ?_
 refine go ?_
 exact fin
def qIi (fl:Nat) (c:Code) (l:List Item) (m:Marks):ad :=
 (qBH fl c).bind fun x1 =>
 (opt x1 default (qFG fl l)).bind fun x3 =>
 (opt (x1&&x3) default (qKN c l m)).bind fun x5 =>
 some ((x1&&x3)&&x5)
theorem qNp (fl:Nat) (c:Code) (l:List Item) (m:Marks) (r:Bool) (hH:qIi fl c l m=some r):qAC prog 99 [.g (ze4 c),.s (List.map ze3 l),.g (qAb m)] (.v (.bool r)):=by
 refine fns T func99 ?_
 refine go ?_
 refine AO.x (bxs T 1) ?_
 refine AO.x (bxs T 2) (go ?_)
 obtain⟨x1,hx2,x3,hx4,x5,hx6,hH⟩:=qBC hH
 refine go ?_
 refine AO.w (cVs (qFs fl _ _ (hx2))) ?_
 refine AO.pu T ?_
 refine AO.g0 T ?_
 refine AO.d1 10 (fun hg=>cVs (qKu fl _ _ (qE9 hx4 hg))) ?_
 refine go ?_
 refine AO.g T (d:=.g (ze4 c)) [] rfl trivial rfl rfl ?_
 refine AO.g0 T ?_
 refine AO.g T (d:=.g [sv ze5 m.grades,sv ze5 m.components]) [] rfl trivial rfl rfl ?_
 refine AO.d [14,15,16] rfl ⟨fun h=>h,fun h=>h,fun h=>h,trivial⟩ (fun hg=>cVs (qQA _ _ _ _ (qE9 hx6 hg))) rfl ?_
 refine go ?_
 exact fin
def qEP (sA:Slips):ad :=
 (qAM sA.falls 0 9).bind fun x1 =>
 (opt x1 default (qAM sA.seconds 0 60)).bind fun x3 =>
 (opt (x1&&x3) default (qAM sA.other 0 500)).bind fun x5 =>
 some ((x1&&x3)&&x5)
theorem qKt (sA:Slips) (r:Bool) (hH:qEP sA=some r):qAC prog 100 [.g (qLn sA)] (.v (.bool r)):=by
 refine fns T func100 ?_
 refine go ?_
 refine AO.x (bxs T 1) (go ?_)
 obtain⟨x1,hx2,x3,hx4,x5,hx6,hH⟩:=qBC hH
 refine go ?_
 refine AO.w (cVs (qAQ _ _ _ _ (hx2))) ?_
 refine AO.pu T ?_
 refine AO.g0 T ?_
 refine AO.g1 T 7 ?_
 refine AO.d1 8 (fun hg=>cVs (qAQ _ _ _ _ (qE9 hx4 hg))) ?_
 refine go ?_
 refine AO.g0 T ?_
 refine AO.g1 T 12 ?_
 refine AO.d1 13 (fun hg=>cVs (qAQ _ _ _ _ (qE9 hx6 hg))) ?_
 refine go ?_
 exact fin
def qBk (fl:Nat) (c:Code) (p:Performance):ad :=
 (qIi fl c p.items p.marks).bind fun x1 =>
 (opt x1 default (qEP p.slips)).bind fun x3 =>
 some (x1&&x3)
theorem qIT (fl:Nat) (c:Code) (p:Performance) (r:Bool) (hH:qBk fl c p=some r):qAC prog 71 [.g (ze4 c),.g (ze8 p)] (.v (.bool r)):=by
 refine fns T func71 ?_
 refine go ?_
 refine AO.x (bxs T 1) ?_
 refine AO.x (bxs T 2) (go ?_)
 obtain⟨x1,hx2,x3,hx4,hH⟩:=qAH hH
 refine go ?_
 refine AO.w (cVs (qNp fl _ _ _ _ (hx2))) ?_
 refine AO.pu T ?_
 refine AO.g0 T ?_
 refine AO.g T (d:=.g [p.slips.falls,p.slips.seconds,p.slips.other]) [12] rfl ⟨fun h=>h,trivial⟩ rfl rfl ?_
 refine AO.d1 13 (fun hg=>cVs (qKt _ _ (qE9 hx4 hg))) ?_
 refine go ?_
 exact fin
def qBL (fl:Nat) (sA:ScriptState) (text:aa):Option (ScriptState×aa) :=
 (qG5 fl text).bind fun x1 =>
 cond (!x1.2)
  (some (sA,(⟨#[110,111]⟩:aa)))
  ((qFi sA.performance.items).bind fun x3 =>
  (qAq (qAi 56 (x3.length+([x1.1]).length))).bind fun u5 =>
  (qCt sA.performance.marks).bind fun x7 =>
  (qAy x7).bind fun x9 =>
  (qAq (decide (0<=x9)&&qAi 8 x9.toNat)).bind fun u11 =>
  (qAq (qAi 24 (x7.grades.length+([(List.replicate x9.toNat (0:Int))]).length))).bind fun u13 =>
  (qBk fl sA.code (Performance.mk (x3++[x1.1]) (Marks.mk (x7.grades++[(List.replicate x9.toNat (0:Int))]) x7.components) sA.performance.slips)).bind fun x15 =>
  cond (!x15)
   (some (sA,(⟨#[110,111]⟩:aa)))
   (some ((ScriptState.mk sA.code (Performance.mk (x3++[x1.1]) (Marks.mk (x7.grades++[(List.replicate x9.toNat (0:Int))]) x7.components) sA.performance.slips) sA.factor sA.results),(⟨#[111,107]⟩:aa))))
theorem qI9 (fl:Nat) (sA:ScriptState) (text:aa) (r:(ScriptState×aa)) (hH:qBL fl sA text=some r):qFe prog 112 [.pn (qIF sA),.v (.string text)] [.pn (qIF r.1),.u] (.v (.string r.2)):=by
 refine qFh T func112 rfl (by decide) rfl rfl [.p 1 0,.v (.string text)] [(1,.box (qHv sA 2 3 4)),(4,.row 1 (List.map ze1 sA.performance.marks.components)),(3,.row 1 (List.map ze1 sA.performance.marks.grades)),(2,.row 3 (List.map ze6 sA.performance.items))] 5 (by kernel_rfl) [1] rfl rfl ?_
 intro L
 show AW _ _ _ (⟨[(0,.p 1 0),(1,.v (.string text))],[(1,.box (qHv sA 2 3 4)),(4,.row 1 (List.map ze1 sA.performance.marks.components)),(3,.row 1 (List.map ze1 sA.performance.marks.grades)),(2,.row 3 (List.map ze6 sA.performance.items))],58,[(1,L 1)]⟩:St)
 refine AW.q (AW.r (AO.pu T ?_))
 refine AO.n (AW.q ?_)
 obtain⟨x1,hx2,hH⟩:=zB hH
 refine AW.r (AO.pu T ?_)
 refine AO.x (qAV rfl 5 rfl rfl rfl (qN8 fl _ _ (hx2)) rfl rfl rfl) ?_
 refine AO.pu T ?_
 refine AO.pu T (d:=.g [.R 5,.R 6,.v (.bool x1.1.late)]) ?_
 refine AO.pu T ?_
 refine AO.x (als T 7) ?_
 refine AO.se T [.R 5,.R 6,.v (.bool x1.1.late)] ?_
 refine AO.pu T ?_
 refine AO.n (AW.q (AW.q ?_))
 refine AW.r (AO.p2 T ?_)
 refine AO.n (AW.c (b:=(!x1.2)) rfl (fun hc=>?_) (fun hc=>?_))
 replace hH:=condT hc hH
 refine AW.q (AW.r (AO.pu T ?_))
 refine AO.n (AW.t ?_)
 have hR:=zS hH;subst hR
 exact⟨trivial,rfl,_,[],[1,2,3,4],rfl,zG (.pb rfl (zC .s (zC .s (zC .v (zC .v (zC .v (zC .v (zC (.rowR rfl) (zC (.rowR rfl) (zC (.rowR rfl) (zC .v (zC .v (zC .v (zC .v (zC .s (zCn)))))))))))))))) (zG (.c .u) (zGn)),.c (.c .v),by decide⟩
 replace hH:=condF hc hH
 refine AW.k (AW.q ?_)
 obtain⟨x3,hx4,hH⟩:=zB hH
 obtain⟨u5,hx6,hH⟩:=zB hH
 obtain⟨x7,hx8,hH⟩:=zB hH
 refine AW.drawn 22 8 [5,6] mix (by kernel_rfl) rfl ?_
 iterate 5 refine AD.pu T ?_
 refine AD.q (FStep.callL rfl rfl rfl rfl (es:=[.s (List.map ze3 sA.performance.items)]) ⟨(.rowR rfl (.map fun y=>qCJ y)),trivial⟩ (qH5 _ _ (hx4)) (qAz (fun y=>(.cons (qAz (fun y=>(.cons (qAJ _) .nil))) (.cons (qAz (fun y=>(.cons (qAJ _) .nil))) (.cons (qAJ _) .nil))))) rfl rfl) (qAu _ _) (qC5 _ _) rfl ?_
 refine AD.p T (d:=.g [.R 5,.R 6,.v (.bool x1.1.late)]) rfl rfl rfl ?_
 refine AD.kb (FStep.mk_o T rfl rfl rfl rfl rfl rfl rfl rfl (f:=ze6) (l:=[x1.1]) (ids:=[5,6]) rfl rfl (fun _=>rfl) (by exact zC (.rowR rfl) (zC (.rowR rfl) (zC .v (zCn)))) (by decide) rfl rfl rfl rfl) ?_
 refine AD.kk (FStep.app_rr T rfl rfl rfl rfl rfl rfl rfl (by decide) rfl rfl rfl rfl rfl (qAP (hx6)) rfl) ?_
 iterate 4 refine AD.pu T ?_
 refine AD.p T (d:=.g [.R 3,.R 4]) rfl rfl rfl ?_
 refine AD.q (FStep.callL rfl rfl rfl rfl (es:=[.g (qAb sA.performance.marks)]) ⟨qEN (LendL.cons ((.rowR rfl (.map fun y=>qAR y))) (LendL.cons ((.rowR rfl (.map fun y=>qAR y))) LendL.nil)),trivial⟩ (qGS _ _ (hx8)) (qQ0 (zfl (.cons (qAz (fun y=>(.cons (qAz (fun y=>(.cons (qAJ _) .nil))) .nil))) (.cons (qAz (fun y=>(.cons (qAz (fun y=>(.cons (qAJ _) .nil))) .nil))) .nil)))) rfl rfl) (qAu _ _) (qC5 _ _) rfl ?_
 iterate 4 refine AD.pu T ?_
 refine AD.p T (d:=.g [sA.performance.slips.falls,sA.performance.slips.seconds,sA.performance.slips.other]) rfl rfl rfl ?_
 refine AD.pured T (d:=.g [.R 10,.R 11,.R 12,sA.performance.slips.falls,sA.performance.slips.seconds,sA.performance.slips.other]) rfl rfl rfl rfl ?_
 refine AD.q (FStep.alloc T rfl rfl rfl rfl rfl rfl) (by simp[qA1]) (Nat.le_succ _) rfl ?_
 refine AD.nil (AO.se T [.R 10,.R 11,.R 12,sA.performance.slips.falls,sA.performance.slips.seconds,sA.performance.slips.other] ?_)
 refine AO.n (AW.le (Le.ct 0 0 (σ':=(⟨[(0,.p 1 0),(7,.p 13 0)],[(1,.box (qHv sA 2 3 4)),(2,.row 3 (List.map ze6 sA.performance.items)),(3,.row 1 (List.map ze1 sA.performance.marks.grades)),(4,.row 1 (List.map ze1 sA.performance.marks.components)),(10,.row 3 (List.map ze6 (x3++[x1.1]))),(11,.row 1 (List.map ze1 x7.grades)),(12,.row 1 (List.map ze1 x7.components)),(13,.box [.R 10,.R 11,.R 12,sA.performance.slips.falls,sA.performance.slips.seconds,sA.performance.slips.other])],58,[(1,L 1)]⟩:St)) (hpin:=⟨⟨rfl,rfl⟩,trivial⟩)) ?_)
 refine AW.q ?_
 obtain⟨x9,hx10,hH⟩:=zB hH
 obtain⟨u11,hx12,hH⟩:=zB hH
 obtain⟨u13,hx14,hH⟩:=zB hH
 refine AW.drawn 8 14 [] mix (by kernel_rfl) rfl ?_
 iterate 4 refine AD.pu T ?_
 refine AD.p T (d:=.g [.R 11,.R 12]) rfl rfl rfl ?_
 refine AD.vv (zLV rfl rfl rfl (es:=[.g (qAb x7)]) ⟨qEN (LendL.cons ((.rowR rfl (.map fun y=>qAR y))) (LendL.cons ((.rowR rfl (.map fun y=>qAR y))) LendL.nil)),trivial⟩ (qEf _ _ (hx10)) (qAJ _) rfl) ?_
 refine AD.q (FStep.make T rfl rfl rfl rfl rfl rfl rfl (f:=ze0) (zo:=0) (by repeat constructor) (by decide) rfl rfl (Bool.and_eq_true_iff.1 (qAP (hx12))).1 (Bool.and_eq_true_iff.1 (qAP (hx12))).2 rfl) (by simp[qA1]) (Nat.le_succ _) rfl ?_
 refine AD.kk (FStep.mk_o T rfl rfl rfl rfl rfl rfl rfl rfl (f:=ze1) (l:=[(List.replicate x9.toNat (0:Int))]) (ids:=[14]) rfl rfl (fun _=>rfl) (by exact zC (.rowR rfl) (zCn)) (by decide) rfl rfl rfl rfl) ?_
 refine AD.nil (AO.x (qEe T rfl 16 rfl rfl rfl rfl rfl (by decide) rfl rfl rfl rfl rfl (qAP (hx14)) rfl rfl) ?_)
 refine AO.p2 T ?_
 refine AO.se T [.R 10,.R 16,.R 12,sA.performance.slips.falls,sA.performance.slips.seconds,sA.performance.slips.other] ?_
 refine AO.n (AW.q (AW.q ?_))
 obtain⟨x15,hx16,hH⟩:=zB hH
 refine AW.drawn 5 17 [] mix (by kernel_rfl) rfl ?_
 iterate 3 refine AD.pu T ?_
 refine AD.p T (d:=.g (ze4 sA.code)) rfl rfl rfl ?_
 refine AD.p T (d:=.g [.R 10,.R 16,.R 12,sA.performance.slips.falls,sA.performance.slips.seconds,sA.performance.slips.other]) rfl rfl rfl ?_
 refine AD.nil (AO.w (zLV rfl rfl rfl (es:=[.g (ze4 sA.code),.g (ze8 (Performance.mk (x3++[x1.1]) (Marks.mk (x7.grades++[(List.replicate x9.toNat (0:Int))]) x7.components) sA.performance.slips))]) ⟨.free rfl,qEN (LendL.cons ((.rowR rfl (.map fun y=>qCJ y))) (LendL.cons ((.rowR rfl (.map fun y=>qAR y))) (LendL.cons ((.rowR rfl (.map fun y=>qAR y))) (LendL.cons (.free rfl) (LendL.cons (.free rfl) (LendL.cons (.free rfl) LendL.nil)))))),trivial⟩ (qIT fl _ _ _ (hx16)) (qAJ _) rfl) ?_)
 refine AO.pu T ?_
 refine AO.n (AW.c (b:=(!x15)) rfl (fun hc=>?_) (fun hc=>?_))
 replace hH:=condT hc hH
 refine AW.q (AW.r (AO.pu T ?_))
 refine AO.n (AW.t ?_)
 have hR:=zS hH;subst hR
 exact⟨trivial,rfl,_,[],[1,2,3,4],rfl,zG (.pb rfl (zC .s (zC .s (zC .v (zC .v (zC .v (zC .v (zC (.rowR rfl) (zC (.rowR rfl) (zC (.rowR rfl) (zC .v (zC .v (zC .v (zC .v (zC .s (zCn)))))))))))))))) (zG (.c .u) (zGn)),.c (.c .v),by decide⟩
 replace hH:=condF hc hH
 refine AW.k (AW.q (AW.r ?_))
 refine AO.pu T ?_
 refine AO.pu T (d:=.g [.R 10,.R 16,.R 12,sA.performance.slips.falls,sA.performance.slips.seconds,sA.performance.slips.other]) ?_
 refine AO.p2 T ?_
 refine AO.se T [.s (List.map ze7 sA.code.elements),.s (List.map ze0 sA.code.limits),sA.code.repeats,sA.code.bonus,sA.code.keeps,sA.code.fall,.R 10,.R 16,.R 12,sA.performance.slips.falls,sA.performance.slips.seconds,sA.performance.slips.other,sA.factor,.s (List.map ze9 sA.results)] ?_
 refine AO.n (AW.le (Le.ct 0 0 (σ':=(⟨[],[(1,.box (qHv sA 10 16 12)),(10,.row 3 (List.map ze6 (x3++[x1.1]))),(12,.row 1 (List.map ze1 x7.components)),(16,.row 1 (List.map ze1 (x7.grades++[(List.replicate x9.toNat (0:Int))])))],58,[(1,L 1)]⟩:St)) (hpin:=⟨⟨rfl,rfl⟩,trivial⟩)) ?_)
 refine AW.q (AW.r (AO.pu T ?_))
 refine AO.n (AW.t ?_)
 have hR:=zS hH;subst hR
 exact⟨trivial,rfl,_,[],[1,10,16,12],rfl,zG (.pb rfl (zC .s (zC .s (zC .v (zC .v (zC .v (zC .v (zC (.rowR rfl) (zC (.rowR rfl) (zC (.rowR rfl) (zC .v (zC .v (zC .v (zC .v (zC .s (zCn)))))))))))))))) (zG (.c .u) (zGn)),.c (.c .v),by decide⟩
def qFY (command:aa):Option (aa×Bool) :=
 cond (decide (command=(⟨#[101,108,101,109,101,110,116]⟩:aa)))
  (some ((⟨#[119,110,110,110]⟩:aa),true))
  (cond (decide (command=(⟨#[108,105,109,105,116]⟩:aa)))
   (some ((⟨#[110,110]⟩:aa),true))
   (cond (decide (command=(⟨#[114,117,108,101,115]⟩:aa)))
    (some ((⟨#[110,110,110,110]⟩:aa),true))
    (cond (decide (command=(⟨#[106,117,100,103,101,115]⟩:aa)))
     (some ((⟨#[110]⟩:aa),true))
     (cond (decide (command=(⟨#[102,97,99,116,111,114]⟩:aa)))
      (some ((⟨#[110]⟩:aa),true))
      (cond (decide (command=(⟨#[114,97,110,103,101]⟩:aa)))
       (some ((⟨#[110]⟩:aa),true))
       (cond (decide (command=(⟨#[115,107,97,116,101,114]⟩:aa)))
        (some ((⟨#[110]⟩:aa),true))
        (cond (decide (command=(⟨#[103,114,97,100,101]⟩:aa)))
         (some ((⟨#[110,110,103]⟩:aa),true))
         (cond (decide (command=(⟨#[99,111,109,112,111,110,101,110,116]⟩:aa)))
          (some ((⟨#[110,110,110]⟩:aa),true))
          (cond (decide (command=(⟨#[115,108,105,112,115]⟩:aa)))
           (some ((⟨#[110,110,110]⟩:aa),true))
           (cond (decide (command=(⟨#[99,97,108,108]⟩:aa)))
            (some ((⟨#[110,110,109]⟩:aa),true))
            (cond (decide (command=(⟨#[108,97,116,101]⟩:aa)))
             (some ((⟨#[]⟩:aa),true))
             (cond (decide (command=(⟨#[99,104,101,99,107]⟩:aa)))
              (some ((⟨#[]⟩:aa),true))
              (cond (decide (command=(⟨#[98,97,115,101]⟩:aa)))
               (some ((⟨#[]⟩:aa),true))
               (cond (decide (command=(⟨#[115,99,111,114,101]⟩:aa)))
                (some ((⟨#[]⟩:aa),true))
                (cond (decide (command=(⟨#[98,111,117,110,100]⟩:aa)))
                 (some ((⟨#[]⟩:aa),true))
                 (cond (decide (command=(⟨#[98,101,115,116]⟩:aa)))
                  (some ((⟨#[]⟩:aa),true))
                  (cond (decide (command=(⟨#[112,108,97,99,101,115]⟩:aa)))
                   (some ((⟨#[]⟩:aa),true))
                   (some ((⟨#[]⟩:aa),false)))))))))))))))))))
theorem qP3 (command:aa) (r:(aa×Bool)) (hH:qFY command=some r):qAC prog 114 [.v (.string command)] (.t [.v (.string r.1),.v (.bool r.2)]):=by
 refine fns T func114 ?_
 refine go ?_
 refine AW.cH hH (fun _ hH=>?_) (fun _ hH=>?_)
 refine go ?_
 exact fin
 refine go ?_
 refine AW.cH hH (fun _ hH=>?_) (fun _ hH=>?_)
 refine go ?_
 exact fin
 refine go ?_
 refine AW.cH hH (fun _ hH=>?_) (fun _ hH=>?_)
 refine go ?_
 exact fin
 refine go ?_
 refine AW.cH hH (fun hc4 hH=>?_) (fun _ hH=>?_)
 refine AW.k (AW.condT' rfl hc4 ?_)
 refine go ?_
 exact fin
 refine go ?_
 refine AW.cH hH (fun hc5 hH=>?_) (fun _ hH=>?_)
 refine AW.k (AW.condT' rfl hc5 ?_)
 refine go ?_
 exact fin
 refine go ?_
 refine AW.cH hH (fun hc6 hH=>?_) (fun _ hH=>?_)
 refine AW.k (AW.condT' rfl hc6 ?_)
 refine go ?_
 exact fin
 refine go ?_
 refine AW.cH hH (fun _ hH=>?_) (fun _ hH=>?_)
 refine go ?_
 exact fin
 refine go ?_
 refine AW.cH hH (fun _ hH=>?_) (fun _ hH=>?_)
 refine go ?_
 exact fin
 refine go ?_
 refine AW.cH hH (fun hc9 hH=>?_) (fun _ hH=>?_)
 refine AW.k (AW.condT' rfl hc9 ?_)
 refine go ?_
 exact fin
 refine go ?_
 refine AW.cH hH (fun _ hH=>?_) (fun _ hH=>?_)
 refine gs5 ?_
 refine AW.le (Le.ct 0 0 (σ':=(⟨[(2,.v (.string (⟨#[110,110,110]⟩:aa))),(3,.v (.bool true))],[],31,[]⟩:St))) ?_
 refine AW.t ?_
 exact fin
 refine gs5 ?_
 refine AW.le (Le.ct 0 0 (σ':=(⟨[(4,.v (.string command)),(21,.v (.bool (decide (command=(⟨#[99,97,108,108]⟩:aa)))))],[],31,[]⟩:St))) ?_
 refine AW.cH hH (fun _ hH=>?_) (fun _ hH=>?_)
 refine go ?_
 exact fin
 refine go ?_
 refine AW.cH hH (fun hc12 hH=>?_) (fun _ hH=>?_)
 refine AW.k (AW.condT' rfl hc12 ?_)
 refine go ?_
 exact fin
 refine go ?_
 refine AW.cH hH (fun hc13 hH=>?_) (fun _ hH=>?_)
 refine AW.k (AW.condT' rfl hc13 ?_)
 refine go ?_
 exact fin
 refine go ?_
 refine AW.cH hH (fun hc14 hH=>?_) (fun _ hH=>?_)
 refine AW.k (AW.condT' rfl hc14 ?_)
 refine go ?_
 exact fin
 refine go ?_
 refine AW.cH hH (fun hc15 hH=>?_) (fun _ hH=>?_)
 refine AW.k (AW.condT' rfl hc15 ?_)
 refine go ?_
 exact fin
 refine go ?_
 refine AW.cH hH (fun hc16 hH=>?_) (fun _ hH=>?_)
 refine AW.k (AW.condT' rfl hc16 ?_)
 refine go ?_
 exact fin
 refine go ?_
 refine AW.cH hH (fun hc17 hH=>?_) (fun _ hH=>?_)
 refine AW.k (AW.condT' rfl hc17 ?_)
 refine go ?_
 exact fin
 refine go ?_
 refine AW.cH hH (fun _ hH=>?_) (fun _ hH=>?_)
 refine go ?_
 exact fin
 refine go ?_
 exact fin
def qDe (sA:aa):Nat->Int->Int->Option ((Int×Bool))
 |0,_,_=>none
 |k4+1,v11,v12 =>
  cond (decide (v12<(sA.size:Int)))
   ((qOD sA v12).bind fun b14 =>
   cond (decide ((b14.toNat:Int)<48)||decide ((b14.toNat:Int)>57))
    (some (0,false))
    (qDe sA k4 (w64 ((w64 (10*v11))+(IntKind.wrap .i64 (IntKind.wrap .u8 ((b14.toNat:Int)-48))))) (w64 (v12+1))))
   (some (v11,true))
def qGi (fl:Nat) (sA:aa):Option (Int×Bool) :=
 (opt ((!(decide (sA=(⟨#[]⟩:aa))||decide ((sA.size:Int)>12)))&&decide ((sA.size:Int)>1)) default (qOD sA 0)).bind fun b1 =>
 cond ((decide (sA=(⟨#[]⟩:aa))||decide ((sA.size:Int)>12))||(decide ((sA.size:Int)>1)&&((b1.toNat:Int)==48)))
  (some (0,false))
  (qDe sA fl 0 0)
theorem qLE (fl:Nat) (sA:aa) (r:(Int×Bool)) (hH:qGi fl sA=some r):qAC prog 157 [.v (.string sA)] (.t [.v (.int .i64 r.1),.v (.bool r.2)]):=by
 refine fns T func157 ?_
 refine go ?_
 obtain⟨b1,hx2,hH⟩:=zB hH
 refine go ?_
 refine AO.g0 T ?_
 refine AO.g1 T 9 ?_
 refine AO.g1 T 10 ?_
 refine go ?_
 refine AO.g0 T ?_
 refine AO.g1 T 14 ?_
 refine AO.g1 T 15 ?_
 refine AO.g1 T 16 ?_
 refine AO.g0 T ?_
 refine AO.d1 18 (fun hg=>qBM T rfl rfl rfl rfl (qE9 hx2 hg)) ?_
 refine AO.g1 T 19 ?_
 refine AO.d [17] rfl ⟨fun h=>h,trivial⟩ (fun hg=>zN rfl rfl rfl (by rw[hg];exact Bool.true_and _)) rfl ?_
 refine go ?_
 refine AW.cH hH (fun _ hH=>?_) (fun _ hH=>?_)
 refine go ?_
 exact fin
 refine go ?_
 refine AW.loopS (fun s:Nat×Int×Int=>(⟨[(0,.v (.string sA)),(4,s.2.1),(5,s.2.2)],[],48,[]⟩:St)) (fun s=>qDe sA s.1 s.2.1 s.2.2=some r) (fun s=>s.1) (fl,0,0) hH ?_ ?_
 exact Le.ct 0 0
 rintro⟨k4,v11,v12⟩ hH
 try dsimp only at hH⊢
 rcases k4 with _|k4
 cases (show none=some _ from hH)
 rw[qDe]at hH
 refine go ?_
 refine AW.cH hH (fun hc hH=>?_) (fun _ hH=>?_)
 refine go ?_
 obtain⟨b14,hx15,hH⟩:=zB hH
 refine go ?_
 refine AO.w (qBM T rfl rfl rfl rfl (hx15)) (go ?_)
 refine AO.g0 T ?_
 refine AO.g0 T ?_
 refine AO.d2 34 35 (fun hg=>qBM T rfl rfl rfl rfl (hx15)) ?_
 refine AO.g1 T 36 ?_
 refine go ?_
 refine AW.cH hH (fun _ hH=>?_) (fun hc hH=>?_)
 refine go ?_
 exact fin
 refine go ?_
 refine AO.w (qBM T rfl rfl rfl rfl (hx15)) ?_
 refine AO.w aws ?_
 refine AO.w (qNM T rfl rfl rfl rfl) (go ?_)
 refine⟨(k4,w64 ((w64 (10*v11))+(IntKind.wrap .i64 (IntKind.wrap .u8 ((b14.toNat:Int)-48)))),w64 (v12+1)),hH,Nat.lt_succ_self _,?_⟩
 exact Le.ct 0 0
 refine go ?_
 exact fin
def qJs (fl:Nat) (sA:aa):Option (Int×Bool) :=
 (qBf sA (⟨#[45]⟩:aa)).bind fun x1 =>
 (qGi fl x1.1).bind fun x3 =>
 cond ((!x3.2)||(x1.2&&(x3.1==0)))
  (some (0,false))
  (cond x1.2
   (some (w64 (-x3.1),true))
   (some (x3.1,true)))
theorem qO8 (fl:Nat) (sA:aa) (r:(Int×Bool)) (hH:qJs fl sA=some r):qAC prog 158 [.v (.string sA)] (.t [.v (.int .i64 r.1),.v (.bool r.2)]):=by
 refine fns T func158 ?_
 refine go ?_
 obtain⟨x1,hx2,hH⟩:=zB hH
 refine go ?_
 refine AO.w (cVs (qIm _ _ _ (hx2))) (go ?_)
 obtain⟨x3,hx4,hH⟩:=zB hH
 refine go ?_
 refine AO.w (cVs (qLE fl _ _ (hx4))) (go ?_)
 refine AO.g0 T ?_
 refine AO.g1 T 21 ?_
 refine AO.g0 T ?_
 refine AO.g1 T 23 ?_
 refine AO.d [22] rfl ⟨fun h=>h,trivial⟩ (fun hg=>zN rfl rfl rfl (by rw[hg];exact Bool.true_and _)) rfl ?_
 refine gs2 ?_
 refine AW.le (Le.ct 0 0 (σ':=(⟨[(5,.v (.bool x1.2)),(6,x3.1),(26,.v (.bool ((!x3.2)||(x1.2&&(x3.1==0)))))],[],31,[]⟩:St))) ?_
 refine AW.cH hH (fun _ hH=>?_) (fun hc hH=>?_)
 refine go ?_
 exact fin
 refine go ?_
 refine AW.cH hH (fun _ hH=>?_) (fun _ hH=>?_)
 refine go ?_
 refine AO.w (qPd rfl rfl) (go ?_)
 exact fin
 refine go ?_
 exact fin
def qLZ (n:Int):Option Int :=
 some (max n (w64 (-n)))
theorem qQ3 (n:Int) (r:Int) (hH:qLZ n=some r):qAC prog 159 [n] (.v (.int .i64 r)):=by
 refine fns T func159 ?_
 refine go ?_
 refine AO.w (qPd rfl rfl) ?_
 refine AO.w (qRW rfl rfl rfl) (go ?_)
 exact fin
def qAU (v:aa):List aa->Nat->Option Int
 | [],k1 =>
  some (-1)
 |y2::ys3,k1 =>
  cond (decide (v=y2))
   (some (k1:Int))
   (qAU v ys3 (k1+1))
def qIS (sA:List aa) (v:aa):Option Int :=
 qAU v sA 0
theorem qK6 (sA:List aa) (v:aa) (r:Int) (hH:qIS sA v=some r):qAC prog 160 [.s (List.map ze2 sA),.v (.string v)] (.v (.int .i64 r)):=by
 refine fns T func160 ?_
 refine go ?_
 refine AW.loopS (fun s:Nat=>(⟨[(0,sv ze2 sA),(1,.v (.string v)),(7,(sA.length:Int)),(8,(s:Int))],[],19,[]⟩:St)) (fun s=>s<=sA.length/\qAU v (sA.drop s) s=some r) (fun s=>sA.length-s) 0 ⟨Nat.zero_le _,hH⟩ ?_ ?_
 exact Le.ct 0 0
 rintro k1 ⟨hk,hH⟩
 try dsimp only at hH⊢
 refine AW.boundM (t:=0) (l:=sA) rfl (fun hb5=>?_)
 rcases hd4:sA.drop k1 with _|⟨y2,ys3⟩
 rw[hd4,qAU]at hH
 have hlt6:=qAF hd4
 refine go ?_
 exact fin
 rw[hd4,qAU]at hH
 have hlt6:=qAG hd4
 refine go ?_
 refine AW.cH hH (fun _ hH=>?_) (fun _ hH=>?_)
 refine go ?_
 exact fin
 refine go ?_
 refine⟨k1+1,⟨hlt6,(zds hd4▸hH)⟩,qBl hlt6,?_⟩
 exact Le.ct 0 0
def qCh (fl:Nat) (form:Int) (word:aa):Option (Int×Bool) :=
 cond (form==110)
  ((qGi fl word).bind fun x1 =>
  some (x1.1,(x1.2&&decide (x1.1<=9999))))
  (cond (form==103)
   ((qJs fl word).bind fun x3 =>
   (opt x3.2 default (qLZ x3.1)).bind fun x5 =>
   some (x3.1,(x3.2&&decide (x5<=9999))))
   (cond (form==109)
    ((qIS [(⟨#[110,111,110,101]⟩:aa),(⟨#[100,111,119,110]⟩:aa),(⟨#[101,100,103,101]⟩:aa),(⟨#[118,111,105,100]⟩:aa)] word).bind fun x7 =>
    some (x7,decide (x7>=0)))
    (some (0,true))))
theorem qOj (fl:Nat) (form:Int) (word:aa) (r:(Int×Bool)) (hH:qCh fl form word=some r):qAC prog 115 [.v (.int .u8 form),.v (.string word)] (.t [.v (.int .i64 r.1),.v (.bool r.2)]):=by
 refine fns T func115 ?_
 refine go ?_
 refine AW.cH hH (fun _ hH=>?_) (fun hc hH=>?_)
 refine AW.q ?_
 obtain⟨x1,hx2,hH⟩:=zB hH
 refine go ?_
 refine AO.w (cVs (qLE fl _ _ (hx2))) (go ?_)
 refine AO.g0 T ?_
 refine AO.g1 T 22 ?_
 refine go ?_
 exact fin
 refine go ?_
 refine AW.cH hH (fun _ hH=>?_) (fun hc hH=>?_)
 refine AW.q ?_
 obtain⟨x3,hx4,hH⟩:=zB hH
 refine go ?_
 refine AO.w (cVs (qO8 fl _ _ (hx4))) (go ?_)
 obtain⟨x5,hx6,hH⟩:=zB hH
 refine go ?_
 refine AO.g0 T ?_
 refine AO.d1 35 (fun hg=>cVs (qQ3 _ _ (qE9 hx6 hg))) ?_
 refine AO.g1 T 36 ?_
 refine go ?_
 exact fin
 refine go ?_
 refine AW.cH hH (fun _ hH=>?_) (fun _ hH=>?_)
 refine AW.q ?_
 obtain⟨x7,hx8,hH⟩:=zB hH
 refine AW.r (AO.w (qYb T (l:=[(⟨#[110,111,110,101]⟩:aa),(⟨#[100,111,119,110]⟩:aa),(⟨#[101,100,103,101]⟩:aa),(⟨#[118,111,105,100]⟩:aa)]) (f:=ze2) rfl rfl rfl rfl rfl rfl (by decide) (by decide) (fun _=>rfl)) ?_)
 refine AO.pu T ?_
 refine AO.w (cVs (qK6 _ _ _ (hx8))) (go ?_)
 exact fin
 refine go ?_
 exact fin
end Go.Proofs.YtkidpkmpnbibmaaGreatDoor

/- The walk, part 2: what each function reached by the law FnExactScriptResults computes. No condition. -/
import Derived.Test.YtkidpkmpnbibmaaGreatDoorSrWalk1
set_option maxRecDepth 4000
set_option maxHeartbeats 1000000
set_option linter.unusedVariables false
set_option linter.unusedSimpArgs false
set_option linter.unusedSectionVars false
namespace Go.Proofs.YtkidpkmpnbibmaaGreatDoor
open Go.AM Tryz
def qAW (w:List ByteArray) (signed:Bool) (fl:Nat):List ByteArray→Nat→List Int→Option (((List Int)×Bool))
 | [],k1,v28 =>
  some (v28,true)
 |y2::ys3,k1,v28 =>
  (qHD fl y2).bind fun x30 =>
  (qDF fl y2).bind fun x32 =>
  cond (decide (x32≥0))
   (cond (decide (x32>9999)||decide (x32<(-9999)))
    (some ([],false))
    ((qAz (qAh 8 (v28.length+([x32]).length))).bind fun u34 =>
    qAW w signed fl ys3 (k1+1) (v28++[x32])))
   ((opt (!(((!signed)||decide ((k1:Int)<(w64 ((w.length:Int)-1))))||decide (x30≥0))) default (qDR fl x30)).bind fun x36 =>
   cond ((((!signed)||decide ((k1:Int)<(w64 ((w.length:Int)-1))))||decide (x30≥0))||(!decide (x36=y2)))
    (some ([],false))
    (cond (decide (x30>9999)||decide (x30<(-9999)))
     (some ([],false))
     ((qAz (qAh 8 (v28.length+([x30]).length))).bind fun u38 =>
     qAW w signed fl ys3 (k1+1) (v28++[x30]))))
def qCx (fl:Nat) (w:List ByteArray) (signed:Bool):Option ((List Int)×Bool) :=
 qAW w signed fl w 0 []
theorem qHb (fl:Nat) (w:List ByteArray) (signed:Bool) (r:((List Int)×Bool)) (hH:qCx fl w signed=some r):qAC prog 106 [.s (List.map ze2 w),.v (.bool signed)] (.t [.w 1 (r.1.map ze0),.v (.bool r.2)]):=by
 refine fns T func106 ?_
 refine go ?_
 refine AW.loopS (fun s:Nat×(List Int)=>(⟨[(0,sv ze2 w),(1,.v (.bool signed)),(6,.R 6),(10,sv ze2 w),(11,(w.length:Int)),(12,(s.1:Int))],[(6,ro 1 ze0 s.2)],55,[]⟩:St)) (fun s=>s.1≤w.length∧qAW w signed fl (w.drop s.1) s.1 s.2=some r) (fun s=>w.length-s.1) (0,[]) ⟨Nat.zero_le _,hH⟩ ?_ ?_
 refine Le.trans (Le.void 6 6 1 rfl rfl) ?_
 exact Le.ct 0 0
 rintro⟨k1,v28⟩ ⟨hk,hH⟩
 try dsimp only at hH⊢
 refine AW.boundM (t:=0) (l:=w) rfl (fun hb5=>?_)
 rcases hd4:w.drop k1 with _|⟨y2,ys3⟩
 rw[hd4,qAW]at hH
 have hlt6:=qAF hd4
 refine go ?_
 exact fin
 rw[hd4,qAW]at hH
 have hlt6:=qAG hd4
 refine go ?_
 obtain⟨x30,hx31,hH⟩:=zB hH
 refine go ?_
 refine AO.w (cVs (qNm fl _ _ (hx31))) (go ?_)
 obtain⟨x32,hx33,hH⟩:=zB hH
 refine go ?_
 refine AO.w (cVs (qHq fl _ _ (hx33))) (go ?_)
 refine AW.cH hH (fun hc hH=>?_) (fun hc hH=>?_)
 refine go ?_
 refine AO.w (cVs (qHq fl _ _ (hx33))) (go ?_)
 refine AO.g0 T ?_
 refine AO.g1 T 46 ?_
 refine go ?_
 refine AW.cH hH (fun _ hH=>?_) (fun hc hH=>?_)
 refine go ?_
 exact fin
 refine AW.k ?_
 obtain⟨u34,hx35,hH⟩:=zB hH
 refine go ?_
 refine AO.x (mks T 9 ze0 ([x32])) ?_
 refine AO.x (rvs T 10 (hfit:=by exact qAS (hx35))) ?_
 refine gs2 ?_
 refine AW.le (Le.ct 0 0 (σ':=(⟨[(0,sv ze2 w),(1,.v (.bool signed)),(6,.R 10),(10,sv ze2 w),(11,(w.length:Int)),(12,(k1:Int))],[(10,ro 1 ze0 (v28++[x32]))],55,[]⟩:St))) ?_
 refine go ?_
 refine⟨(k1+1,(v28++[x32])),⟨hlt6,(zds hd4▸hH)⟩,qCC hlt6,?_⟩
 exact Le.ct 10 6
 refine AW.q ?_
 obtain⟨x36,hx37,hH⟩:=zB hH
 refine go ?_
 refine AO.g0 T ?_
 refine AO.g0 T ?_
 refine AO.d1 28 (fun hg=>qLn T) ?_
 refine AO.d1 29 (fun hg=>aws) ?_
 refine AO.g2 T 27 30 ?_
 refine go ?_
 refine AO.g0 T ?_
 refine AO.g1 T 34 ?_
 refine go ?_
 refine AO.g0 T ?_
 refine AO.d1 38 (fun hg=>cVs (qHS fl _ _ (qEv hx37 hg))) ?_
 refine AO.g0 T ?_
 refine AO.g2 T 39 40 ?_
 refine gs2 ?_
 refine AW.le (Le.ct 0 0 (σ':=(⟨[(0,sv ze2 w),(1,.v (.bool signed)),(6,.R 6),(9,x30),(10,sv ze2 w),(11,(w.length:Int)),(12,(k1:Int)),(42,.v (.bool ((((!signed)||decide ((k1:Int)<(w64 ((w.length:Int)-1))))||decide (x30≥0))||(!decide (x36=y2)))))],[(6,ro 1 ze0 v28)],55,[]⟩:St))) ?_
 refine AW.cH hH (fun _ hH=>?_) (fun hc hH=>?_)
 refine go ?_
 exact fin
 refine go ?_
 refine AO.g0 T ?_
 refine AO.g1 T 46 ?_
 refine go ?_
 refine AW.cH hH (fun _ hH=>?_) (fun _ hH=>?_)
 refine go ?_
 exact fin
 refine AW.k ?_
 obtain⟨u38,hx39,hH⟩:=zB hH
 refine go ?_
 refine AO.x (mks T 11 ze0 ([x30])) ?_
 refine AO.x (rvs T 12 (hfit:=by exact qAS (hx39))) (go ?_)
 refine⟨(k1+1,(v28++[x30])),⟨hlt6,(zds hd4▸hH)⟩,qCC hlt6,?_⟩
 exact Le.ct 12 6
def qHH (l:List Item) (item:Int) (name:Int):Option Bool :=
 (qAZ item 0 (w64 ((l.length:Int)-1))).bind fun x1 =>
 (opt x1 default (qAV l item)).bind fun x3 =>
 (opt x1 default (qAZ name 0 (w64 ((x3.names.length:Int)-1)))).bind fun x5 =>
 some (x1&&x5)
theorem qPD (l:List Item) (item:Int) (name:Int) (r:Bool) (hH:qHH l item name=some r):qAC prog 205 [.s (List.map ze1 l),item,name] (.v (.bool r)):=by
 refine fns T func205 ?_
 refine go ?_
 obtain⟨x1,hx2,x3,hx4,x5,hx6,hH⟩:=qBB hH
 refine go ?_
 refine AO.w (cVs (qAb _ _ _ _ (hx2))) ?_
 refine AO.pu T ?_
 refine AO.g0 T ?_
 refine AO.g0 T ?_
 refine AO.g0 T ?_
 refine AO.d2 14 15 (fun hg=>ixs T (qEv hx4 hg)) ?_
 refine AO.g1 T 16 ?_
 refine AO.g1 T 17 ?_
 refine AO.d1 18 (fun hg=>qLn T) ?_
 refine AO.d1 19 (fun hg=>aws) ?_
 refine AO.d2 13 20 (fun hg=>cVs (qAb _ _ _ _ (qEv hx6 hg))) ?_
 refine go ?_
 exact fin
def qC4 (fl:Nat) (x:CsState) (n:List Int) (mark:Int):Option (CsState×ByteArray) :=
 (qAV n 0).bind fun x1 =>
 (qAV n 1).bind fun x3 =>
 (qHH x.p.items x1 x3).bind fun x5 =>
 cond (!x5)
  (some (x,(⟨#[110,111]⟩:ByteArray)))
  ((qAY x.p x.p.items).bind fun x7 =>
  (qAV x7.items x1).bind fun x9 =>
  (qAV x9.marks x3).bind fun x11 =>
  (qAM fl x x.code (Performance.mk (x7.items.set x1.toNat (Item.mk x9.names (x9.marks.set x3.toNat mark) x9.late)) x7.marks x7.slips)).bind fun x13 =>
  some (x13.1,x13.2))
theorem qLU (fl:Nat) (x:CsState) (n:List Int) (mark:Int) (r:(CsState×ByteArray)) (hH:qC4 fl x n mark=some r):qF3 prog 141 [.pn (ze9 x),.s (List.map ze0 n),mark] [.pn (ze9 r.1),.u,.u] (.v (.string r.2)):=by
 refine qFN T func141 rfl (by decide) rfl rfl [.p 1 0,sv ze0 n,mark] [(1,.box (ze7 x 2 3)),(3,ro 1 ze0 x.what),(2,ro 1 ze0 x.no)] 4 (by kernel_rfl) [1] rfl rfl ?_
 intro L
 show AW _ _ _ (⟨[(0,.p 1 0),(1,sv ze0 n),(2,mark)],[(1,.box (ze7 x 2 3)),(3,ro 1 ze0 x.what),(2,ro 1 ze0 x.no)],51,[(1,L 1)]⟩:St)
 refine go ?_
 obtain⟨x1,hx2,x3,hx4,x5,hx6,hH⟩:=qBB hH
 refine AW.drawn 11 4 [] mix (by kernel_rfl) rfl ?_
 refine go ?_
 refine AO.w (cVs (qPD _ _ _ _ (hx6))) (go ?_)
 refine AW.cH hH (fun _ hH=>?_) (fun _ hH=>?_)
 refine go ?_
 exact qEW
 refine go ?_
 obtain⟨x7,hx8,hH⟩:=zB hH
 refine AW.drawn 11 4 [] mix (by kernel_rfl) rfl ?_
 refine go ?_
 refine AD.q (FStep.call rfl rfl rfl rfl rfl (qGO _ _ _ (hx8)) rfl rfl) (qBF _ _) (qDh _ _) rfl ?_
 refine AD.q (FStep.alloc T rfl rfl rfl rfl rfl rfl) (by simp[qAu]) (Nat.le_succ _) rfl ?_
 refine AD.nil (AO.se T [.R 4,.R 5,.R 6,x7.slips.falls,x7.slips.seconds,x7.slips.other] ?_)
 refine AO.n (AW.le (Le.ct 0 0 (σ':=(⟨[(0,.p 1 0),(1,sv ze0 n),(2,mark),(7,.p 7 0)],[(1,.box (ze7 x 2 3)),(2,ro 1 ze0 x.no),(3,ro 1 ze0 x.what),(4,ro 3 qCU x7.items),(5,ro 1 ze8 x7.marks.grades),(6,ro 1 ze8 x7.marks.components),(7,.box [.R 4,.R 5,.R 6,x7.slips.falls,x7.slips.seconds,x7.slips.other])],51,[(1,L 1)]⟩:St)) (hpin:=⟨⟨rfl,rfl⟩,trivial⟩)) ?_)
 refine AW.q ?_
 obtain⟨x9,hx10,x11,hx12,hH⟩:=qAI hH
 refine AW.le (Le.openM 4 x1.toNat 1 8 rfl (zgG (hx10)) rfl rfl) ?_
 refine AW.drawn 12 9 [] mix (by kernel_rfl) rfl ?_
 refine go ?_
 refine AD.vv (qDd T rfl rfl rfl rfl rfl rfl (hx10)) ?_
 refine AD.pu T ?_
 refine AD.vv (qBl T rfl rfl rfl rfl rfl) ?_
 refine go ?_
 refine AO.x (zSr T rfl rfl rfl rfl rfl (zgG (hx12)) rfl rfl rfl rfl (u':=mark) rfl rfl) ?_
 refine AO.le (Le.closeM 4 x1.toNat 1 8 rfl rfl (zgG (hx10)) rfl (u':=(Item.mk x9.names (x9.marks.set x3.toNat mark) x9.late)) rfl) ?_
 refine go ?_
 obtain⟨x13,hx14,hH⟩:=zB hH
 refine AW.le (Le.fM 4 (g:=ze1) rfl (fun y=>qGs y)) ?_
 refine AW.le (Le.fM 5 (g:=ze3) rfl (fun y=>qAl y)) ?_
 refine AW.le (Le.fM 6 (g:=ze3) rfl (fun y=>qAl y)) ?_
 refine AW.drawn 6 9 [] mix (by kernel_rfl) rfl ?_
 refine go ?_
 refine AO.x (qAd (ze7 x13.1 9 10) [(10,ro 1 ze0 x13.1.what),(9,ro 1 ze0 x13.1.no)] 11 (by kernel_rfl) rfl 9 rfl rfl rfl rfl (es:=[.pn (ze9 x),.g (ze4 x.code),.g (qHY (Performance.mk (x7.items.set x1.toNat (Item.mk x9.names (x9.marks.set x3.toNat mark) x9.late)) x7.marks x7.slips))]) (us:=[.u,.u]) (cs:=ze9 x13.1) (ids:=[1,2,3]) (by exact zG (.pb rfl (qA3 rfl rfl)) (zG (.g (zC .s (zC .s (zC .v (zC .v (zC .v (zC .v (zCn)))))))) (zG (.g (zC .s (zC .s (zC .s (zC .v (zC .v (zC .v (zCn)))))))) (zGn)))) (by decide) (by decide) (qBH fl _ _ _ _ (hx14)) rfl rfl (by rfl) rfl) (go ?_)
 exact qEW
def qAK (x:CsState) (w:List ByteArray) (fl:Nat) (x3:((List Int)×Bool)):List ByteArray→Nat→Option ((CsState×ByteArray))
 | [],k7 =>
  some (x,(⟨#[119,104,97,116]⟩:ByteArray))
 |y8::ys9,k7 =>
  (opt x3.2 default (qAV w 2)).bind fun x22 =>
  cond (x3.2&&decide (y8=x22))
   ((qC4 fl x x3.1 (k7:Int)).bind fun x24 =>
   some (x24.1,x24.2))
   (qAK x w fl x3 ys9 (k7+1))
def qBi (fl:Nat) (x:CsState) (w:List ByteArray):Option (CsState×ByteArray) :=
 cond ((w.length:Int) != 3)
  (some (x,(⟨#[119,104,97,116]⟩:ByteArray)))
  ((qFj w 2).bind fun x1 =>
  (qCx fl x1 false).bind fun x3 =>
  (qJM ).bind fun x5 =>
  qAK x w fl x3 x5 0)
theorem qJb (fl:Nat) (x:CsState) (w:List ByteArray) (r:(CsState×ByteArray)) (hH:qBi fl x w=some r):qF3 prog 105 [.pn (ze9 x),.s (List.map ze2 w)] [.pn (ze9 r.1),.u] (.v (.string r.2)):=by
 refine qFN T func105 rfl (by decide) rfl rfl [.p 1 0,sv ze2 w] [(1,.box (ze7 x 2 3)),(3,ro 1 ze0 x.what),(2,ro 1 ze0 x.no)] 4 (by kernel_rfl) [1] rfl rfl ?_
 intro L
 show AW _ _ _ (⟨[(0,.p 1 0),(1,sv ze2 w)],[(1,.box (ze7 x 2 3)),(3,ro 1 ze0 x.what),(2,ro 1 ze0 x.no)],38,[(1,L 1)]⟩:St)
 iterate 11 refine gs ?_
 refine AW.cH hH (fun _ hH=>?_) (fun hc hH=>?_)
 refine gs5 ?_
 exact qEW
 refine gs2 ?_
 obtain⟨x1,hx2,x3,hx4,hH⟩:=qAI hH
 refine gs2 ?_
 refine AO.w (qEJ T rfl rfl rfl rfl rfl (hx2) (fun _=>rfl)) ?_
 refine AO.x (qAU rfl 4 rfl rfl rfl (qHb fl _ _ _ (hx4)) rfl rfl rfl) ?_
 refine gs8 ?_
 obtain⟨x5,hx6,hH⟩:=zB hH
 refine AW.r (AO.x (qAU rfl 5 rfl rfl rfl (qKr _ (hx6)) rfl rfl rfl) ?_)
 refine gs4 ?_
 refine AW.loopS (fun s:Nat=>(⟨[(0,.p 1 0),(1,sv ze2 w),(5,.R 4),(6,.v (.bool x3.2)),(18,.R 5),(19,(x5.length:Int)),(20,(s:Int))],[(1,.box (ze7 x 2 3)),(2,ro 1 ze0 x.no),(3,ro 1 ze0 x.what),(4,ro 1 ze0 x3.1),(5,ro 1 ze2 x5)],38,[(1,L 1)]⟩:St)) (fun s=>s≤x5.length∧qAK x w fl x3 (x5.drop s) s=some r) (fun s=>x5.length-s) 0 ⟨Nat.zero_le _,hH⟩ ?_ ?_
 exact Le.ct 0 0 (hpin:=⟨⟨rfl,rfl⟩,trivial⟩)
 rintro k7 ⟨hk,hH⟩
 try dsimp only at hH⊢
 refine AW.boundR (id:=5) (l:=x5) rfl (fun hb11=>?_)
 rcases hd10:x5.drop k7 with _|⟨y8,ys9⟩
 rw[hd10,qAK]at hH
 have hlt12:=qAF hd10
 iterate 12 refine gs ?_
 exact qEW
 rw[hd10,qAK]at hH
 have hlt12:=qAG hd10
 iterate 13 refine gs ?_
 refine AO.w (zLr T rfl rfl rfl rfl (zgG (zgD hd10)) rfl rfl rfl) ?_
 refine gs4 ?_
 obtain⟨x22,hx23,hH⟩:=zB hH
 refine gs3 ?_
 refine AO.g0 T ?_
 refine AO.g0 T ?_
 refine AO.d1 28 (fun hg=>ixs T (qEv hx23 hg)) ?_
 refine AO.g1 T 29 ?_
 refine AO.g2 T 27 30 ?_
 refine gs2 ?_
 refine AW.cH hH (fun _ hH=>?_) (fun _ hH=>?_)
 refine AW.q ?_
 obtain⟨x24,hx25,hH⟩:=zB hH
 refine AW.le (Le.fM 4 (g:=ze0) rfl (fun y=>.vs rfl)) ?_
 refine gs4 ?_
 refine AO.x (qAd (ze7 x24.1 10 11) [(11,ro 1 ze0 x24.1.what),(10,ro 1 ze0 x24.1.no)] 12 (by kernel_rfl) rfl 10 rfl rfl rfl rfl (es:=[.pn (ze9 x),.s (x3.1.map ze0),.v (.int .i64 (k7:Int))]) (us:=[.u,.u]) (cs:=ze9 x24.1) (ids:=[1,2,3]) (by exact zG (.pb rfl (qA3 rfl rfl)) (zG (.c .s) (zG (.c .v) (zGn)))) (by decide) (by decide) (qLU fl _ _ _ _ (hx25)) rfl rfl (by rfl) rfl) ?_
 refine gs3 ?_
 exact qEW
 refine gs5 ?_
 refine⟨k7+1,⟨hlt12,(zds hd10▸hH)⟩,qCC hlt12,?_⟩
 exact Le.ct 0 0 (hpin:=⟨⟨rfl,rfl⟩,trivial⟩)
def qFD (c:Code):Option Code :=
 (qAz (qAh 40 c.elements.length)).bind fun u1 =>
 (qFE c.limits).bind fun x3 =>
 some (Code.mk c.elements x3 c.repeats c.bonus c.keeps c.fall)
theorem qMV (c:Code) (r:Code) (hH:qFD c=some r):qAC prog 208 [.g (ze4 c)] (.g (qOJ r)):=by
 refine fns T func208 ?_
 refine go ?_
 refine AO.x (bxs T 1) ?_
 refine AO.x (als T 2) (go ?_)
 obtain⟨u1,hx2,x3,hx4,hH⟩:=qAI hH
 refine AW.drawn 15 3 [] mix (by kernel_rfl) rfl ?_
 refine AD.v (FStep.mk0 T rfl rfl rfl rfl rfl) ?_
 refine go ?_
 refine AD.q (FStep.app_ws T rfl rfl rfl rfl rfl rfl rfl (by decide) (by decide) rfl rfl (fun _=>rfl) (qAS (hx2)) rfl) (by simp[qAu]) (Nat.le_succ _) rfl ?_
 refine go ?_
 refine AD.q (FStep.call rfl rfl rfl rfl rfl (qIT _ _ (hx4)) rfl rfl) (qBF _ _) (qDh _ _) rfl ?_
 refine go ?_
 refine AO.se T [.R 3,.R 4,c.repeats,c.bonus,c.keeps,c.fall] ?_
 refine go ?_
 exact fin
def qL7 (fl:Nat) (c:Code):Option (Code×Bool) :=
 (qDD fl c).bind fun x1 =>
 cond (!x1)
  (some ((Code.mk [] [] 0 0 0 0),false))
  (some (c,true))
theorem qQj (fl:Nat) (c:Code) (r:(Code×Bool)) (hH:qL7 fl c=some r):qAC prog 209 [.g (ze4 c)] (.t [.g (ze4 r.1),.v (.bool r.2)]):=by
 refine fns T func209 ?_
 refine go ?_
 refine AO.x (bxs T 1) ?_
 refine AO.x (als T 2) (go ?_)
 obtain⟨x1,hx2,hH⟩:=zB hH
 refine go ?_
 refine AO.w (cVs (qJQ fl _ _ (hx2))) (go ?_)
 refine AW.cH hH (fun _ hH=>?_) (fun _ hH=>?_)
 refine go ?_
 refine AO.se T [.w 0 [],.w 0 [],(0:Int),(0:Int),(0:Int),(0:Int)] ?_
 refine go ?_
 exact fin
 refine go ?_
 refine AO.se T [sv ze5 c.elements,sv ze0 c.limits,c.repeats,c.bonus,c.keeps,c.fall] ?_
 refine go ?_
 exact fin
def qBr (c:Code) (x:Element):Nat→Int→Option Int
 |0,_=>none
 |k17+1,v23 =>
  (opt (decide (v23<(c.elements.length:Int))) default (qAV c.elements v23)).bind fun x25 =>
  cond (decide (v23<(c.elements.length:Int))&&(qMp x25.name x.name))
   (qBr c x k17 (w64 (v23+1)))
   (some v23)
def qE5 (fl:Nat) (c:Code) (x:Element):Option (Code×Bool) :=
 (qDD fl c).bind fun x1 =>
 cond (!x1)
  (some ((Code.mk [] [] 0 0 0 0),false))
  ((qFD c).bind fun x3 =>
  (qBr c x fl 0).bind fun v14 =>
  (qFj c.elements v14).bind fun x27 =>
  (qAz (qAh 40 x27.length)).bind fun u29 =>
  (qAz (qAh 40 (x27.length+([x]).length))).bind fun u31 =>
  (qC7 c.elements v14).bind fun x33 =>
  (qAz (qAh 40 (((x27++[x])).length+x33.length))).bind fun u35 =>
  (qL7 fl (Code.mk ((x27++[x])++x33) x3.limits x3.repeats x3.bonus x3.keeps x3.fall)).bind fun x37 =>
  some (x37.1,x37.2))
theorem qMY (fl:Nat) (c:Code) (x:Element) (r:(Code×Bool)) (hH:qE5 fl c x=some r):qAC prog 144 [.g (ze4 c),.g (ze5 x)] (.t [.g (ze4 r.1),.v (.bool r.2)]):=by
 refine fns T func144 ?_
 refine AW.q (AW.r (AO.x (bxs T 1) ?_))
 refine AO.x (bxs T 2) ?_
 refine AO.x (als T 3) ?_
 refine AO.pu T ?_
 refine AO.n (AW.q (AW.q ?_))
 obtain⟨x1,hx2,hH⟩:=zB hH
 refine AW.r (AO.pu T (d:=.g (ze4 c)) ?_)
 refine AO.w (cVs (qJQ fl _ _ (hx2))) ?_
 refine AO.pu T ?_
 refine AO.n (AW.c (b:=(!x1)) rfl (fun hc=>?_) (fun hc=>?_))
 replace hH:=condT hc hH
 refine AW.q (AW.r (AO.pu T (d:=.g [.w 0 [],.w 0 [],(0:Int),(0:Int),(0:Int),(0:Int)]) ?_))
 refine AO.se T [.w 0 [],.w 0 [],(0:Int),(0:Int),(0:Int),(0:Int)] ?_
 refine AO.pu T ?_
 refine AO.n (AW.t ?_)
 have hR:=zS hH;subst hR
 exact retQ.i [] rfl (.t (zG (.g (zC .nilS (zC .nilS (zC .v (zC .v (zC .v (zC .v (zCn)))))))) (zG (.c .v) (zGn))))
 replace hH:=condF hc hH
 refine AW.k (AW.q ?_)
 obtain⟨x3,hx4,hH⟩:=zB hH
 refine AW.r (AO.pu T (d:=.g (ze4 c)) ?_)
 refine AO.x (qAU rfl 4 rfl rfl rfl (qMV _ _ (hx4)) rfl rfl rfl) ?_
 refine AO.x (als T 6) ?_
 refine AO.se T [.R 4,.R 5,x3.repeats,x3.bonus,x3.keeps,x3.fall] ?_
 refine AO.n (AW.q (AW.r ?_))
 refine AO.pu T ?_
 refine AO.n ?_
 obtain⟨o15,hH,hK16⟩:=zB hH
 refine AW.seqJ (fun s:Int=>(⟨[(2,.p 1 0),(3,.p 2 0),(4,.p 3 0),(6,.p 6 0),(7,s)],[(1,.box (ze4 c)),(2,.box (ze5 x)),(3,.box [.w 0 [],.w 0 [],(0:Int),(0:Int),(0:Int),(0:Int)]),(4,.row 4 (List.map ze5 x3.elements)),(5,.row 1 (List.map ze0 x3.limits)),(6,.box [.R 4,.R 5,x3.repeats,x3.bonus,x3.keeps,x3.fall])],51,[]⟩:St)) (fun s=>s=o15) ?_ ?_
 refine AW.b (AW.loopS (fun s:Nat×Int=>(⟨[(2,.p 1 0),(3,.p 2 0),(4,.p 3 0),(6,.p 6 0),(7,s.2)],[(1,.box (ze4 c)),(2,.box (ze5 x)),(3,.box [.w 0 [],.w 0 [],(0:Int),(0:Int),(0:Int),(0:Int)]),(4,.row 4 (List.map ze5 x3.elements)),(5,.row 1 (List.map ze0 x3.limits)),(6,.box [.R 4,.R 5,x3.repeats,x3.bonus,x3.keeps,x3.fall])],51,[]⟩:St)) (fun s=>qBr c x s.1 s.2=some o15) (fun s=>s.1) (fl,0) hH ?_ ?_)
 exact Le.ct 0 0
 rintro⟨k17,v23⟩ hH
 replace hH:qBr c x k17 v23=some o15:=hH
 try dsimp only
 rcases k17 with _|k17
 cases (show none=some _ from hH)
 rw[qBr]at hH
 refine AW.q (AW.q ?_)
 obtain⟨x25,hx26,hH⟩:=zB hH
 refine AW.drawn 14 7 [] mix (by kernel_rfl) rfl ?_
 iterate 3 refine AD.pu T ?_
 refine AD.vv (qLn T) ?_
 iterate 2 refine AD.pu T ?_
 refine AD.pureG T [] rfl trivial rfl rfl ?_
 refine AD.pureG T [20] rfl ⟨fun h=>h,trivial⟩ rfl rfl ?_
 refine AD.pureG T [] rfl trivial rfl rfl ?_
 refine AD.guard [21,22] rfl ⟨fun h=>h,fun h=>h,trivial⟩ (fun hg=>zX T rfl rfl rfl rfl rfl (qEv hx26 hg) rfl) rfl ?_
 refine AD.pureG T [23] rfl ⟨fun h=>h,trivial⟩ rfl rfl ?_
 refine AD.pureG T [24] rfl ⟨fun h=>h,trivial⟩ rfl rfl ?_
 refine AD.pureG T [] rfl trivial rfl rfl ?_
 refine AD.pureG T [26] rfl ⟨fun h=>h,trivial⟩ rfl rfl ?_
 refine AD.nil (AO.g T [25,27] rfl ⟨fun h=>h,fun h=>h,trivial⟩ rfl rfl ?_)
 refine AO.w qYY ?_
 refine AO.n (AW.c (b:=(decide (v23<(c.elements.length:Int))&&(qMp x25.name x.name))) rfl (fun hc=>?_) (fun hc=>?_))
 replace hH:=condT hc hH
 refine AW.k (AW.b ?_)
 refine AW.r (AO.pu T ?_)
 refine AO.w aws ?_
 refine AO.pu T ?_
 refine AO.n ?_
 refine⟨(k17,w64 (v23+1)),hH,Nat.lt_succ_self _,?_⟩
 exact Le.ct 0 0
 replace hH:=condF hc hH
 refine AW.exit ?_
 refine⟨_,zS hH,?_⟩
 exact Le.ct 0 0
 rintro v14 hs
 subst hs
 replace hH:=hK16
 try dsimp only[qLN,qJm]at hH
 try dsimp only
 refine AW.q ?_
 obtain⟨x27,hx28,hH⟩:=zB hH
 obtain⟨u29,hx30,hH⟩:=zB hH
 obtain⟨u31,hx32,hH⟩:=zB hH
 obtain⟨x33,hx34,hH⟩:=zB hH
 obtain⟨u35,hx36,hH⟩:=zB hH
 refine AW.drawn 13 7 [] mix (by kernel_rfl) rfl ?_
 refine AD.v (FStep.mk0 T rfl rfl rfl rfl rfl) ?_
 iterate 3 refine AD.pu T ?_
 refine AD.vv (qEJ T rfl rfl rfl rfl rfl (hx28) (fun _=>rfl)) ?_
 refine AD.q (FStep.app_ws T rfl rfl rfl rfl rfl rfl rfl (by decide) (by decide) rfl rfl (fun _=>rfl) (qAS (hx30)) rfl) (by simp[qAu]) (Nat.le_succ _) rfl ?_
 refine AD.p T (d:=.g (ze5 x)) rfl rfl rfl ?_
 refine AD.q (FStep.mk T (f:=ze5) (l:=[x]) rfl rfl rfl rfl rfl rfl rfl rfl rfl (fun _=>rfl) rfl rfl rfl rfl) (by simp[qAu]) (Nat.le_succ _) rfl ?_
 refine AD.kk (FStep.app_rv T rfl rfl rfl rfl rfl rfl rfl (by decide) rfl rfl rfl rfl (fun _=>rfl) (qAS (hx32)) rfl) ?_
 iterate 3 refine AD.pu T ?_
 refine AD.vv (qDS T rfl rfl rfl rfl rfl (hx34) (fun _=>rfl)) ?_
 refine AD.nil (AO.x (qP2 T rfl 10 rfl rfl rfl rfl rfl (by decide) (by decide) rfl rfl rfl (fun _=>rfl) (qAS (hx36)) rfl rfl) ?_)
 refine AO.pu T ?_
 refine AO.se T [.R 10,.R 5,x3.repeats,x3.bonus,x3.keeps,x3.fall] ?_
 refine AO.n (AW.q ?_)
 obtain⟨x37,hx38,hH⟩:=zB hH
 refine AW.le (Le.fM 5 (g:=ze0) rfl (fun y=>.vs rfl)) ?_
 refine AW.le (Le.fM 10 (g:=ze5) rfl (fun y=>.vs rfl)) ?_
 refine AW.r (AO.pu T (d:=.g [.s (List.map ze5 ((x27++[x])++x33)),.s (List.map ze0 x3.limits),x3.repeats,x3.bonus,x3.keeps,x3.fall]) ?_)
 refine AO.w (cVs (qQj fl _ _ (hx38))) ?_
 refine AO.pu T (d:=.g (ze4 x37.1)) ?_
 refine AO.pu T ?_
 refine AO.se T [.s (List.map ze5 x37.1.elements),.s (List.map ze0 x37.1.limits),x37.1.repeats,x37.1.bonus,x37.1.keeps,x37.1.fall] ?_
 refine AO.pu T ?_
 refine AO.n (AW.t ?_)
 have hR:=zS hH;subst hR
 exact retQ.i [] rfl (.t (zG (.g (zC .s (zC .s (zC .v (zC .v (zC .v (zC .v (zCn)))))))) (zG (.c .v) (zGn))))
def qC1 (fl:Nat) (x:CsState) (name:ByteArray) (n:List Int):Option (CsState×ByteArray) :=
 (qAV n 0).bind fun x1 =>
 (qAV n 1).bind fun x3 =>
 (qAV n 2).bind fun x5 =>
 (qE5 fl x.code (Element.mk name x1 x3 x5)).bind fun x7 =>
 cond (!x7.2)
  (some (x,(⟨#[110,111]⟩:ByteArray)))
  ((qAM fl x x7.1 x.p).bind fun x9 =>
  some (x9.1,x9.2))
theorem qKE (fl:Nat) (x:CsState) (name:ByteArray) (n:List Int) (r:(CsState×ByteArray)) (hH:qC1 fl x name n=some r):qF3 prog 107 [.pn (ze9 x),.v (.string name),.s (List.map ze0 n)] [.pn (ze9 r.1),.u,.u] (.v (.string r.2)):=by
 refine qFN T func107 rfl (by decide) rfl rfl [.p 1 0,.v (.string name),sv ze0 n] [(1,.box (ze7 x 2 3)),(3,ro 1 ze0 x.what),(2,ro 1 ze0 x.no)] 4 (by kernel_rfl) [1] rfl rfl ?_
 intro L
 show AW _ _ _ (⟨[(0,.p 1 0),(1,.v (.string name)),(2,sv ze0 n)],[(1,.box (ze7 x 2 3)),(3,ro 1 ze0 x.what),(2,ro 1 ze0 x.no)],37,[(1,L 1)]⟩:St)
 refine go ?_
 obtain⟨x1,hx2,x3,hx4,x5,hx6,hH⟩:=qBB hH
 obtain⟨x7,hx8,hH⟩:=zB hH
 refine AW.drawn 21 4 [] mix (by kernel_rfl) rfl ?_
 refine go ?_
 refine AD.vv (cVs (qMY fl _ _ _ (hx8))) ?_
 refine go ?_
 refine AD.q (FStep.alloc T rfl rfl rfl rfl rfl rfl) (by simp[qAu]) (Nat.le_succ _) rfl ?_
 refine AD.kk (FStep.store_p T rfl rfl rfl rfl rfl rfl rfl rfl rfl rfl rfl) ?_
 refine gs9 ?_
 refine AW.le (Le.ct 0 0 (σ':=(⟨[(0,.p 1 0),(7,.p 4 0),(29,.v (.bool (!x7.2)))],[(1,.box (ze7 x 2 3)),(2,ro 1 ze0 x.no),(3,ro 1 ze0 x.what),(4,.box (ze4 x7.1))],37,[(1,L 1)]⟩:St)) (hpin:=⟨⟨rfl,rfl⟩,trivial⟩)) ?_
 refine AW.cH hH (fun _ hH=>?_) (fun _ hH=>?_)
 refine go ?_
 exact qEW
 refine go ?_
 obtain⟨x9,hx10,hH⟩:=zB hH
 refine AW.drawn 6 5 [] mix (by kernel_rfl) rfl ?_
 refine go ?_
 refine AO.x (qAd (ze7 x9.1 5 6) [(6,ro 1 ze0 x9.1.what),(5,ro 1 ze0 x9.1.no)] 7 (by kernel_rfl) rfl 5 rfl rfl rfl rfl (es:=[.pn (ze9 x),.g (ze4 x7.1),.g (qHY x.p)]) (us:=[.u,.u]) (cs:=ze9 x9.1) (ids:=[1,2,3]) (by exact zG (.pb rfl (qA3 rfl rfl)) (zG (.g (zC .s (zC .s (zC .v (zC .v (zC .v (zC .v (zCn)))))))) (zG (.g (zC .s (zC .s (zC .s (zC .v (zC .v (zC .v (zCn)))))))) (zGn)))) (by decide) (by decide) (qBH fl _ _ _ _ (hx10)) rfl rfl (by rfl) rfl) (go ?_)
 exact qEW
def qEb (w:ByteArray):Option Int :=
 cond (decide (w=(⟨#[106,117,100,103,101,115]⟩:ByteArray)))
  (some 1)
  (cond (decide (w=(⟨#[102,97,99,116,111,114]⟩:ByteArray)))
   (some 1)
   (cond (decide (w=(⟨#[114,97,110,103,101]⟩:ByteArray)))
    (some 1)
    (cond (decide (w=(⟨#[115,107,97,116,101,114]⟩:ByteArray)))
     (some 1)
     (cond (decide (w=(⟨#[108,105,109,105,116]⟩:ByteArray)))
      (some 2)
      (cond (decide (w=(⟨#[103,114,97,100,101]⟩:ByteArray)))
       (some 3)
       (cond (decide (w=(⟨#[99,111,109,112,111,110,101,110,116]⟩:ByteArray)))
        (some 3)
        (cond (decide (w=(⟨#[115,108,105,112,115]⟩:ByteArray)))
         (some 3)
         (cond (decide (w=(⟨#[101,108,101,109,101,110,116]⟩:ByteArray)))
          (some 3)
          (cond (decide (w=(⟨#[114,117,108,101,115]⟩:ByteArray)))
           (some 4)
           (some 0))))))))))
theorem qPi (w:ByteArray) (r:Int) (hH:qEb w=some r):qAC prog 108 [.v (.string w)] (.v (.int .i64 r)):=by
 refine fns T func108 ?_
 refine go ?_
 refine AW.cH hH (fun hc1 hH=>?_) (fun _ hH=>?_)
 refine AW.k (AW.condT' rfl hc1 ?_)
 refine go ?_
 exact fin
 refine go ?_
 refine AW.cH hH (fun hc2 hH=>?_) (fun _ hH=>?_)
 refine AW.k (AW.condT' rfl hc2 ?_)
 refine go ?_
 exact fin
 refine go ?_
 refine AW.cH hH (fun hc3 hH=>?_) (fun _ hH=>?_)
 refine AW.k (AW.condT' rfl hc3 ?_)
 refine go ?_
 exact fin
 refine go ?_
 refine AW.cH hH (fun _ hH=>?_) (fun _ hH=>?_)
 refine go ?_
 exact fin
 refine go ?_
 refine AW.cH hH (fun _ hH=>?_) (fun _ hH=>?_)
 refine go ?_
 exact fin
 refine go ?_
 refine AW.cH hH (fun hc6 hH=>?_) (fun _ hH=>?_)
 refine AW.k (AW.condT' rfl hc6 ?_)
 refine go ?_
 exact fin
 refine go ?_
 refine AW.cH hH (fun hc7 hH=>?_) (fun _ hH=>?_)
 refine AW.k (AW.condT' rfl hc7 ?_)
 refine go ?_
 exact fin
 refine go ?_
 refine AW.cH hH (fun hc8 hH=>?_) (fun _ hH=>?_)
 refine AW.k (AW.condT' rfl hc8 ?_)
 refine go ?_
 exact fin
 refine go ?_
 refine AW.cH hH (fun _ hH=>?_) (fun _ hH=>?_)
 refine go ?_
 exact fin
 refine go ?_
 refine AW.cH hH (fun _ hH=>?_) (fun _ hH=>?_)
 refine go ?_
 exact fin
 refine go ?_
 exact fin
def qBR (fl:Nat) (x:CsState) (w:ByteArray) (n:List Int):Option (CsState×ByteArray) :=
 (qFD x.code).bind fun x1 =>
 cond (decide (w=(⟨#[114,117,108,101,115]⟩:ByteArray)))
  ((qAV n 0).bind fun x4 =>
  (qAV n 1).bind fun x6 =>
  (qAV n 2).bind fun x8 =>
  (qAV n 3).bind fun x10 =>
  (qAM fl x (Code.mk x1.elements x1.limits x4 x6 x8 x10) x.p).bind fun x12 =>
  some (x12.1,x12.2))
  ((qAV n 0).bind fun x14 =>
  cond (decide (x14≥5))
   (some (x,(⟨#[110,111]⟩:ByteArray)))
   ((qAV n 1).bind fun x16 =>
   (qAV x1.limits x14).bind fun x18 =>
   (qAM fl x (Code.mk x1.elements (x1.limits.set x14.toNat x16) x1.repeats x1.bonus x1.keeps x1.fall) x.p).bind fun x20 =>
   some (x20.1,x20.2)))
theorem qGv (fl:Nat) (x:CsState) (w:ByteArray) (n:List Int) (r:(CsState×ByteArray)) (hH:qBR fl x w n=some r):qF3 prog 145 [.pn (ze9 x),.v (.string w),.s (List.map ze0 n)] [.pn (ze9 r.1),.u,.u] (.v (.string r.2)):=by
 refine qFN T func145 rfl (by decide) rfl rfl [.p 1 0,.v (.string w),sv ze0 n] [(1,.box (ze7 x 2 3)),(3,ro 1 ze0 x.what),(2,ro 1 ze0 x.no)] 4 (by kernel_rfl) [1] rfl rfl ?_
 intro L
 show AW _ _ _ (⟨[(0,.p 1 0),(1,.v (.string w)),(2,sv ze0 n)],[(1,.box (ze7 x 2 3)),(3,ro 1 ze0 x.what),(2,ro 1 ze0 x.no)],58,[(1,L 1)]⟩:St)
 refine go ?_
 obtain⟨x1,hx2,hH⟩:=zB hH
 refine go ?_
 refine AO.x (qAU rfl 4 rfl rfl rfl (qMV _ _ (hx2)) rfl rfl rfl) ?_
 refine AO.x (als T 6) ?_
 refine AO.se T [.R 4,.R 5,x1.repeats,x1.bonus,x1.keeps,x1.fall] ?_
 refine go ?_
 refine AW.cH hH (fun _ hH=>?_) (fun _ hH=>?_)
 refine AW.q ?_
 obtain⟨x4,hx5,hH⟩:=zB hH
 refine go ?_
 refine AO.se T [.R 4,.R 5,x4,x1.bonus,x1.keeps,x1.fall] ?_
 refine go ?_
 obtain⟨x6,hx7,hH⟩:=zB hH
 refine go ?_
 refine AO.se T [.R 4,.R 5,x4,x6,x1.keeps,x1.fall] ?_
 refine go ?_
 obtain⟨x8,hx9,hH⟩:=zB hH
 refine go ?_
 refine AO.se T [.R 4,.R 5,x4,x6,x8,x1.fall] ?_
 refine AO.n (AW.le (Le.ct 0 0 (σ':=(⟨[(0,.p 1 0),(2,sv ze0 n),(7,.p 6 0)],[(1,.box (ze7 x 2 3)),(2,ro 1 ze0 x.no),(3,ro 1 ze0 x.what),(4,ro 4 ze5 x1.elements),(5,ro 1 ze0 x1.limits),(6,.box [.R 4,.R 5,x4,x6,x8,x1.fall])],58,[(1,L 1)]⟩:St)) (hpin:=⟨⟨rfl,rfl⟩,trivial⟩)) ?_)
 refine AW.q ?_
 obtain⟨x10,hx11,hH⟩:=zB hH
 refine go ?_
 refine AO.se T [.R 4,.R 5,x4,x6,x8,x10] ?_
 refine go ?_
 obtain⟨x12,hx13,hH⟩:=zB hH
 refine AW.le (Le.fM 4 (g:=ze5) rfl (fun y=>.vs rfl)) ?_
 refine AW.le (Le.fM 5 (g:=ze0) rfl (fun y=>.vs rfl)) ?_
 refine AW.drawn 6 7 [] mix (by kernel_rfl) rfl ?_
 refine go ?_
 refine AO.x (qAd (ze7 x12.1 7 8) [(8,ro 1 ze0 x12.1.what),(7,ro 1 ze0 x12.1.no)] 9 (by kernel_rfl) rfl 7 rfl rfl rfl rfl (es:=[.pn (ze9 x),.g (ze4 (Code.mk x1.elements x1.limits x4 x6 x8 x10)),.g (qHY x.p)]) (us:=[.u,.u]) (cs:=ze9 x12.1) (ids:=[1,2,3]) (by exact zG (.pb rfl (qA3 rfl rfl)) (zG (.g (zC .s (zC .s (zC .v (zC .v (zC .v (zC .v (zCn)))))))) (zG (.g (zC .s (zC .s (zC .s (zC .v (zC .v (zC .v (zCn)))))))) (zGn)))) (by decide) (by decide) (qBH fl _ _ _ _ (hx13)) rfl rfl (by rfl) rfl) (go ?_)
 exact qEW
 refine go ?_
 obtain⟨x14,hx15,hH⟩:=zB hH
 refine go ?_
 refine AW.cH hH (fun _ hH=>?_) (fun _ hH=>?_)
 refine go ?_
 exact qEW
 refine go ?_
 obtain⟨x16,hx17,x18,hx19,hH⟩:=qAI hH
 refine AW.drawn 8 9 [] mix (by kernel_rfl) rfl ?_
 refine go ?_
 refine AO.x (zSr T rfl rfl rfl rfl rfl (zgG (hx19)) rfl rfl rfl rfl (u':=x16) rfl rfl) ?_
 refine AO.n (AW.le (Le.ct 0 0 (σ':=(⟨[(0,.p 1 0),(7,.p 6 0)],[(1,.box (ze7 x 2 3)),(2,ro 1 ze0 x.no),(3,ro 1 ze0 x.what),(4,ro 4 ze5 x1.elements),(5,ro 1 ze0 (x1.limits.set x14.toNat x16)),(6,.box [.R 4,.R 5,x1.repeats,x1.bonus,x1.keeps,x1.fall])],58,[(1,L 1)]⟩:St)) (hpin:=⟨⟨rfl,rfl⟩,trivial⟩)) ?_)
 refine AW.q ?_
 obtain⟨x20,hx21,hH⟩:=zB hH
 refine AW.le (Le.fM 4 (g:=ze5) rfl (fun y=>.vs rfl)) ?_
 refine AW.le (Le.fM 5 (g:=ze0) rfl (fun y=>.vs rfl)) ?_
 refine AW.drawn 6 9 [] mix (by kernel_rfl) rfl ?_
 refine go ?_
 refine AO.x (qAd (ze7 x20.1 9 10) [(10,ro 1 ze0 x20.1.what),(9,ro 1 ze0 x20.1.no)] 11 (by kernel_rfl) rfl 9 rfl rfl rfl rfl (es:=[.pn (ze9 x),.g (ze4 (Code.mk x1.elements (x1.limits.set x14.toNat x16) x1.repeats x1.bonus x1.keeps x1.fall)),.g (qHY x.p)]) (us:=[.u,.u]) (cs:=ze9 x20.1) (ids:=[1,2,3]) (by exact zG (.pb rfl (qA3 rfl rfl)) (zG (.g (zC .s (zC .s (zC .v (zC .v (zC .v (zC .v (zCn)))))))) (zG (.g (zC .s (zC .s (zC .s (zC .v (zC .v (zC .v (zCn)))))))) (zGn)))) (by decide) (by decide) (qBH fl _ _ _ _ (hx21)) rfl rfl (by rfl) rfl) (go ?_)
 exact qEW
def qFq (m:Marks) (judge:Int):Option Bool :=
 (qFF m).bind fun x1 =>
 (opt x1 default (qEB m)).bind fun x3 =>
 (opt x1 default (qAZ judge 0 (w64 (x3-1)))).bind fun x5 =>
 some (x1&&x5)
theorem qJ4 (m:Marks) (judge:Int) (r:Bool) (hH:qFq m judge=some r):qAC prog 148 [.g (qAf m),judge] (.v (.bool r)):=by
 refine fns T func148 ?_
 refine go ?_
 refine AO.x (bxs T 1) (go ?_)
 obtain⟨x1,hx2,x3,hx4,x5,hx6,hH⟩:=qBB hH
 refine go ?_
 refine AO.w (cVs (qJ8 _ _ (hx2))) ?_
 refine AO.pu T ?_
 refine AO.g0 T ?_
 refine AO.g T (d:=.g [sv ze3 m.grades,sv ze3 m.components]) [] rfl trivial rfl rfl ?_
 refine AO.d1 9 (fun hg=>cVs (qIA _ _ (qEv hx4 hg))) ?_
 refine AO.d1 10 (fun hg=>aws) ?_
 refine AO.d2 8 11 (fun hg=>cVs (qAb _ _ _ _ (qEv hx6 hg))) ?_
 refine go ?_
 exact fin
def qIy (m:Marks):Option (Marks×Bool) :=
 (qFF m).bind fun x1 =>
 cond (!x1)
  (some ((Marks.mk [] []),false))
  (some (m,true))
theorem qNl (m:Marks) (r:(Marks×Bool)) (hH:qIy m=some r):qAC prog 266 [.g (qAf m)] (.t [.g (qAf r.1),.v (.bool r.2)]):=by
 refine fns T func266 ?_
 refine go ?_
 refine AO.x (bxs T 1) ?_
 refine AO.x (als T 2) (go ?_)
 obtain⟨x1,hx2,hH⟩:=zB hH
 refine go ?_
 refine AO.w (cVs (qJ8 _ _ (hx2))) (go ?_)
 refine AW.cH hH (fun _ hH=>?_) (fun _ hH=>?_)
 refine go ?_
 refine AO.se T [.w 0 [],.w 0 []] ?_
 refine go ?_
 exact fin
 refine go ?_
 refine AO.se T [sv ze3 m.grades,sv ze3 m.components] ?_
 refine go ?_
 exact fin
def qFy (m:Marks) (item:Int) (judge:Int) (grade:Int):Option (Marks×Bool) :=
 (qFq m judge).bind fun x1 =>
 (opt (!(!x1)) default (qAZ item 0 (w64 ((m.grades.length:Int)-1)))).bind fun x3 =>
 cond ((!x1)||(!x3))
  (some ((Marks.mk [] []),false))
  ((qFC m).bind fun x5 =>
  (qAV x5.grades item).bind fun x7 =>
  (qAV x7 judge).bind fun x9 =>
  (qIy (Marks.mk (x5.grades.set item.toNat (x7.set judge.toNat grade)) x5.components)).bind fun x11 =>
  some (x11.1,x11.2))
theorem qNx (m:Marks) (item:Int) (judge:Int) (grade:Int) (r:(Marks×Bool)) (hH:qFy m item judge grade=some r):qAC prog 210 [.g (qAf m),item,judge,grade] (.t [.g (qAf r.1),.v (.bool r.2)]):=by
 refine fns T func210 ?_
 refine gs2 ?_
 refine AO.x (bxs T 1) ?_
 refine AO.x (als T 2) ?_
 refine gs4 ?_
 obtain⟨x1,hx2,x3,hx4,hH⟩:=qAI hH
 refine gs3 ?_
 refine AO.w (cVs (qJ4 _ _ _ (hx2))) ?_
 refine gs2 ?_
 refine AO.g0 T ?_
 refine AO.g0 T ?_
 refine AO.g1 T 17 ?_
 refine AO.d1 18 (fun hg=>qLn T) ?_
 refine AO.d1 19 (fun hg=>aws) ?_
 refine AO.d2 16 20 (fun hg=>cVs (qAb _ _ _ _ (qEv hx4 hg))) ?_
 refine AO.g1 T 21 ?_
 refine gs2 ?_
 refine AW.cH hH (fun _ hH=>?_) (fun _ hH=>?_)
 refine gs3 ?_
 refine AO.se T [.w 0 [],.w 0 []] ?_
 refine gs3 ?_
 exact fin
 refine gs2 ?_
 obtain⟨x5,hx6,hH⟩:=zB hH
 refine gs2 ?_
 refine AO.x (qAU rfl 3 rfl rfl rfl (qIU _ _ (hx6)) rfl rfl rfl) ?_
 refine AO.x (als T 5) ?_
 refine AO.se T [.R 3,.R 4] ?_
 refine gs2 ?_
 obtain⟨x7,hx8,x9,hx10,hH⟩:=qAI hH
 refine AW.le (Le.openM 3 item.toNat 0 6 rfl (zgG (hx8)) rfl rfl) ?_
 refine gs4 ?_
 refine AO.w (qDd T rfl rfl rfl rfl rfl rfl (hx8)) ?_
 refine AO.w (qBl T rfl rfl rfl rfl rfl) ?_
 refine gs3 ?_
 refine AO.x (zSr T rfl rfl rfl rfl rfl (zgG (hx10)) rfl rfl rfl rfl (u':=grade) rfl rfl) ?_
 refine AO.le (Le.closeM 3 item.toNat 0 6 rfl rfl (zgG (hx8)) rfl (u':=(x7.set judge.toNat grade)) rfl) ?_
 refine AO.n (AW.le (Le.ct 0 0 (σ':=(⟨[(8,.p 2 0),(10,.p 5 0)],[(2,.box [.w 0 [],.w 0 []]),(3,ro 1 ze8 (x5.grades.set item.toNat (x7.set judge.toNat grade))),(4,ro 1 ze8 x5.components),(5,.box [.R 3,.R 4])],39,[]⟩:St))) ?_)
 refine AW.q ?_
 obtain⟨x11,hx12,hH⟩:=zB hH
 refine AW.le (Le.fM 3 (g:=ze3) rfl (fun y=>qAl y)) ?_
 refine AW.le (Le.fM 4 (g:=ze3) rfl (fun y=>qAl y)) ?_
 refine gs2 ?_
 refine AO.w (cVs (qNl _ _ (hx12))) ?_
 refine gs2 ?_
 refine AO.se T [sv ze3 x11.1.grades,sv ze3 x11.1.components] ?_
 refine gs3 ?_
 exact fin
def qEC (m:Marks) (component:Int) (judge:Int) (mark:Int):Option (Marks×Bool) :=
 (qFq m judge).bind fun x1 =>
 (opt (!(!x1)) default (qAZ component 0 2)).bind fun x3 =>
 cond ((!x1)||(!x3))
  (some ((Marks.mk [] []),false))
  ((qFC m).bind fun x5 =>
  (qAV x5.components component).bind fun x7 =>
  (qAV x7 judge).bind fun x9 =>
  (qIy (Marks.mk x5.grades (x5.components.set component.toNat (x7.set judge.toNat mark)))).bind fun x11 =>
  some (x11.1,x11.2))
theorem qLf (m:Marks) (component:Int) (judge:Int) (mark:Int) (r:(Marks×Bool)) (hH:qEC m component judge mark=some r):qAC prog 211 [.g (qAf m),component,judge,mark] (.t [.g (qAf r.1),.v (.bool r.2)]):=by
 refine fns T func211 ?_
 refine gs2 ?_
 refine AO.x (bxs T 1) ?_
 refine AO.x (als T 2) ?_
 refine gs4 ?_
 obtain⟨x1,hx2,x3,hx4,hH⟩:=qAI hH
 refine gs3 ?_
 refine AO.w (cVs (qJ4 _ _ _ (hx2))) ?_
 refine gs2 ?_
 refine AO.g0 T ?_
 refine AO.d1 16 (fun hg=>cVs (qAb _ _ _ _ (qEv hx4 hg))) ?_
 refine AO.g1 T 17 ?_
 refine gs2 ?_
 refine AW.cH hH (fun _ hH=>?_) (fun _ hH=>?_)
 refine gs3 ?_
 refine AO.se T [.w 0 [],.w 0 []] ?_
 refine gs3 ?_
 exact fin
 refine gs2 ?_
 obtain⟨x5,hx6,hH⟩:=zB hH
 refine gs2 ?_
 refine AO.x (qAU rfl 3 rfl rfl rfl (qIU _ _ (hx6)) rfl rfl rfl) ?_
 refine AO.x (als T 5) ?_
 refine AO.se T [.R 3,.R 4] ?_
 refine gs2 ?_
 obtain⟨x7,hx8,x9,hx10,hH⟩:=qAI hH
 refine AW.le (Le.openM 4 component.toNat 0 6 rfl (zgG (hx8)) rfl rfl) ?_
 refine gs4 ?_
 refine AO.w (qDd T rfl rfl rfl rfl rfl rfl (hx8)) ?_
 refine AO.w (qBl T rfl rfl rfl rfl rfl) ?_
 refine gs3 ?_
 refine AO.x (zSr T rfl rfl rfl rfl rfl (zgG (hx10)) rfl rfl rfl rfl (u':=mark) rfl rfl) ?_
 refine AO.le (Le.closeM 4 component.toNat 0 6 rfl rfl (zgG (hx8)) rfl (u':=(x7.set judge.toNat mark)) rfl) ?_
 refine AO.n (AW.le (Le.ct 0 0 (σ':=(⟨[(8,.p 2 0),(10,.p 5 0)],[(2,.box [.w 0 [],.w 0 []]),(3,ro 1 ze8 x5.grades),(4,ro 1 ze8 (x5.components.set component.toNat (x7.set judge.toNat mark))),(5,.box [.R 3,.R 4])],35,[]⟩:St))) ?_)
 refine AW.q ?_
 obtain⟨x11,hx12,hH⟩:=zB hH
 refine AW.le (Le.fM 3 (g:=ze3) rfl (fun y=>qAl y)) ?_
 refine AW.le (Le.fM 4 (g:=ze3) rfl (fun y=>qAl y)) ?_
 refine gs2 ?_
 refine AO.w (cVs (qNl _ _ (hx12))) ?_
 refine gs2 ?_
 refine AO.se T [sv ze3 x11.1.grades,sv ze3 x11.1.components] ?_
 refine gs3 ?_
 exact fin
def qAe (fl:Nat) (x:CsState) (w:ByteArray) (n:List Int):Option (CsState×ByteArray) :=
 (qAY x.p x.p.items).bind fun x1 =>
 (qDE fl (x1.items.length:Int) 3).bind fun x3 =>
 cond (decide (w=(⟨#[106,117,100,103,101,115]⟩:ByteArray)))
  ((qAV n 0).bind fun x6 =>
  cond (decide (x6>9))
   (some (x,(⟨#[110,111]⟩:ByteArray)))
   ((qDE fl (x1.items.length:Int) x6).bind fun x8 =>
   cond (!true)
    (some (x,(⟨#[110,111]⟩:ByteArray)))
    ((qAM fl x x.code (Performance.mk x1.items x8 x1.slips)).bind fun x10 =>
    some (x10.1,x10.2))))
  (cond (decide (w=(⟨#[103,114,97,100,101]⟩:ByteArray)))
   ((qAV n 0).bind fun x13 =>
   (qAV n 1).bind fun x15 =>
   (qAV n 2).bind fun x17 =>
   (qFy x1.marks x13 x15 x17).bind fun x19 =>
   cond (!x19.2)
    (some (x,(⟨#[110,111]⟩:ByteArray)))
    ((qAM fl x x.code (Performance.mk x1.items x19.1 x1.slips)).bind fun x21 =>
    some (x21.1,x21.2)))
   ((qAV n 0).bind fun x23 =>
   (qAV n 1).bind fun x25 =>
   (qAV n 2).bind fun x27 =>
   (qEC x1.marks x23 x25 x27).bind fun x29 =>
   cond (!x29.2)
    (some (x,(⟨#[110,111]⟩:ByteArray)))
    ((qAM fl x x.code (Performance.mk x1.items x29.1 x1.slips)).bind fun x31 =>
    some (x31.1,x31.2))))
theorem qEq (fl:Nat) (x:CsState) (w:ByteArray) (n:List Int) (r:(CsState×ByteArray)) (hH:qAe fl x w n=some r):qF3 prog 146 [.pn (ze9 x),.v (.string w),.s (List.map ze0 n)] [.pn (ze9 r.1),.u,.u] (.v (.string r.2)):=by
 refine qFN T func146 rfl (by decide) rfl rfl [.p 1 0,.v (.string w),sv ze0 n] [(1,.box (ze7 x 2 3)),(3,ro 1 ze0 x.what),(2,ro 1 ze0 x.no)] 4 (by kernel_rfl) [1] rfl rfl ?_
 intro L
 show AW _ _ _ (⟨[(0,.p 1 0),(1,.v (.string w)),(2,sv ze0 n)],[(1,.box (ze7 x 2 3)),(3,ro 1 ze0 x.what),(2,ro 1 ze0 x.no)],81,[(1,L 1)]⟩:St)
 refine gs5 ?_
 obtain⟨x1,hx2,hH⟩:=zB hH
 refine AW.drawn 11 4 [] mix (by kernel_rfl) rfl ?_
 refine gs9 ?_
 refine AD.q (FStep.call rfl rfl rfl rfl rfl (qGO _ _ _ (hx2)) rfl rfl) (qBF _ _) (qDh _ _) rfl ?_
 refine AD.q (FStep.alloc T rfl rfl rfl rfl rfl rfl) (by simp[qAu]) (Nat.le_succ _) rfl ?_
 refine AD.nil (AO.se T [.R 4,.R 5,.R 6,x1.slips.falls,x1.slips.seconds,x1.slips.other] ?_)
 refine gs2 ?_
 obtain⟨x3,hx4,hH⟩:=zB hH
 refine gs4 ?_
 refine AO.x (qAU rfl 8 rfl rfl rfl (qIw fl _ _ _ (hx4)) rfl rfl rfl) ?_
 refine AO.x (als T 10) ?_
 refine AO.se T [.R 8,.R 9] ?_
 iterate 13 refine gs ?_
 refine AW.cH hH (fun _ hH=>?_) (fun _ hH=>?_)
 refine gs2 ?_
 obtain⟨x6,hx7,hH⟩:=zB hH
 refine gs6 ?_
 refine AW.le (Le.ct 0 0 (σ':=(⟨[(0,.p 1 0),(2,sv ze0 n),(7,.p 7 0),(8,.p 10 0),(9,.v (.bool true)),(45,.v (.bool (decide (x6>9))))],[(1,.box (ze7 x 2 3)),(2,ro 1 ze0 x.no),(3,ro 1 ze0 x.what),(4,ro 3 qCU x1.items),(5,ro 1 ze8 x1.marks.grades),(6,ro 1 ze8 x1.marks.components),(7,.box [.R 4,.R 5,.R 6,x1.slips.falls,x1.slips.seconds,x1.slips.other]),(8,ro 1 ze8 x3.grades),(9,ro 1 ze8 x3.components),(10,.box [.R 8,.R 9])],81,[(1,L 1)]⟩:St)) (hpin:=⟨⟨rfl,rfl⟩,trivial⟩)) ?_
 refine AW.cH hH (fun _ hH=>?_) (fun hc hH=>?_)
 refine gs5 ?_
 exact qEW
 refine AW.k ?_
 obtain⟨x8,hx9,hH⟩:=zB hH
 refine AW.drawn 6 11 [] mix (by kernel_rfl) rfl ?_
 refine gs2 ?_
 refine AD.vv (qV6 T) ?_
 refine gs4 ?_
 refine AO.x (qAU rfl 11 rfl rfl rfl (qIw fl _ _ _ (hx9)) rfl rfl rfl) ?_
 refine AO.se T [.R 11,.R 12] ?_
 refine gs7 ?_
 refine AW.cH hH (fun _ hH=>?_) (fun hc hH=>?_)
 refine gs5 ?_
 exact qEW
 refine gs5 ?_
 refine AO.se T [.R 4,.R 11,.R 12,x1.slips.falls,x1.slips.seconds,x1.slips.other] ?_
 refine gs2 ?_
 obtain⟨x10,hx11,hH⟩:=zB hH
 refine AW.le (Le.fM 4 (g:=ze1) rfl (fun y=>qGs y)) ?_
 refine AW.le (Le.fM 11 (g:=ze3) rfl (fun y=>qAl y)) ?_
 refine AW.le (Le.fM 12 (g:=ze3) rfl (fun y=>qAl y)) ?_
 refine AW.drawn 6 13 [] mix (by kernel_rfl) rfl ?_
 refine gs7 ?_
 refine AO.x (qAd (ze7 x10.1 13 14) [(14,ro 1 ze0 x10.1.what),(13,ro 1 ze0 x10.1.no)] 15 (by kernel_rfl) rfl 13 rfl rfl rfl rfl (es:=[.pn (ze9 x),.g (ze4 x.code),.g (qHY (Performance.mk x1.items x8 x1.slips))]) (us:=[.u,.u]) (cs:=ze9 x10.1) (ids:=[1,2,3]) (by exact zG (.pb rfl (qA3 rfl rfl)) (zG (.g (zC .s (zC .s (zC .v (zC .v (zC .v (zC .v (zCn)))))))) (zG (.g (zC .s (zC .s (zC .s (zC .v (zC .v (zC .v (zCn)))))))) (zGn)))) (by decide) (by decide) (qBH fl _ _ _ _ (hx11)) rfl rfl (by rfl) rfl) ?_
 refine gs3 ?_
 exact qEW
 refine gs5 ?_
 refine AW.le (Le.ct 0 0 (σ':=(⟨[(0,.p 1 0),(2,sv ze0 n),(7,.p 7 0),(8,.p 10 0),(53,.v (.bool (decide (w=(⟨#[103,114,97,100,101]⟩:ByteArray)))))],[(1,.box (ze7 x 2 3)),(2,ro 1 ze0 x.no),(3,ro 1 ze0 x.what),(4,ro 3 qCU x1.items),(5,ro 1 ze8 x1.marks.grades),(6,ro 1 ze8 x1.marks.components),(7,.box [.R 4,.R 5,.R 6,x1.slips.falls,x1.slips.seconds,x1.slips.other]),(8,ro 1 ze8 x3.grades),(9,ro 1 ze8 x3.components),(10,.box [.R 8,.R 9])],81,[(1,L 1)]⟩:St)) (hpin:=⟨⟨rfl,rfl⟩,trivial⟩)) ?_
 refine AW.cH hH (fun _ hH=>?_) (fun _ hH=>?_)
 obtain⟨x13,hx14,x15,hx16,x17,hx18,hH⟩:=qBB hH
 obtain⟨x19,hx20,hH⟩:=zB hH
 refine AW.le (Le.fM 5 (g:=ze3) rfl (fun y=>qAl y)) ?_
 refine AW.le (Le.fM 6 (g:=ze3) rfl (fun y=>qAl y)) ?_
 refine AW.drawn 16 15 [10] mix (by kernel_rfl) rfl ?_
 iterate 11 refine gs ?_
 refine AD.vv (cVs (qNx _ _ _ _ _ (hx20))) ?_
 refine gs3 ?_
 refine AD.kk (FStep.store_p T rfl rfl rfl rfl rfl rfl rfl rfl rfl rfl rfl) ?_
 refine gs9 ?_
 refine AW.cH hH (fun _ hH=>?_) (fun hc hH=>?_)
 refine gs5 ?_
 exact qEW
 refine gs5 ?_
 refine AO.se T [.R 4,sv ze3 x19.1.grades,sv ze3 x19.1.components,x1.slips.falls,x1.slips.seconds,x1.slips.other] ?_
 refine gs2 ?_
 obtain⟨x21,hx22,hH⟩:=zB hH
 refine AW.le (Le.fM 4 (g:=ze1) rfl (fun y=>qGs y)) ?_
 refine AW.drawn 6 15 [] mix (by kernel_rfl) rfl ?_
 refine gs7 ?_
 refine AO.x (qAd (ze7 x21.1 15 16) [(16,ro 1 ze0 x21.1.what),(15,ro 1 ze0 x21.1.no)] 17 (by kernel_rfl) rfl 15 rfl rfl rfl rfl (es:=[.pn (ze9 x),.g (ze4 x.code),.g (qHY (Performance.mk x1.items x19.1 x1.slips))]) (us:=[.u,.u]) (cs:=ze9 x21.1) (ids:=[1,2,3]) (by exact zG (.pb rfl (qA3 rfl rfl)) (zG (.g (zC .s (zC .s (zC .v (zC .v (zC .v (zC .v (zCn)))))))) (zG (.g (zC .s (zC .s (zC .s (zC .v (zC .v (zC .v (zCn)))))))) (zGn)))) (by decide) (by decide) (qBH fl _ _ _ _ (hx22)) rfl rfl (by rfl) rfl) ?_
 refine gs2 ?_
 refine AW.le (Le.ct 0 0 (σ':=(⟨[(6,.v (.string x21.2))],[(1,.box (ze7 x21.1 15 16)),(15,ro 1 ze0 x21.1.no),(16,ro 1 ze0 x21.1.what)],81,[(1,L 1)]⟩:St)) (hpin:=⟨⟨rfl,rfl⟩,trivial⟩)) ?_
 refine AW.t ?_
 exact qEW
 obtain⟨x23,hx24,x25,hx26,x27,hx28,hH⟩:=qBB hH
 obtain⟨x29,hx30,hH⟩:=zB hH
 refine AW.le (Le.fM 5 (g:=ze3) rfl (fun y=>qAl y)) ?_
 refine AW.le (Le.fM 6 (g:=ze3) rfl (fun y=>qAl y)) ?_
 refine AW.drawn 16 17 [10] mix (by kernel_rfl) rfl ?_
 iterate 11 refine gs ?_
 refine AD.vv (cVs (qLf _ _ _ _ _ (hx30))) ?_
 refine gs3 ?_
 refine AD.kk (FStep.store_p T rfl rfl rfl rfl rfl rfl rfl rfl rfl rfl rfl) ?_
 refine gs9 ?_
 refine AW.cH hH (fun _ hH=>?_) (fun _ hH=>?_)
 refine gs5 ?_
 exact qEW
 refine gs5 ?_
 refine AO.se T [.R 4,sv ze3 x29.1.grades,sv ze3 x29.1.components,x1.slips.falls,x1.slips.seconds,x1.slips.other] ?_
 refine gs2 ?_
 obtain⟨x31,hx32,hH⟩:=zB hH
 refine AW.le (Le.fM 4 (g:=ze1) rfl (fun y=>qGs y)) ?_
 refine AW.drawn 6 17 [] mix (by kernel_rfl) rfl ?_
 refine gs7 ?_
 refine AO.x (qAd (ze7 x31.1 17 18) [(18,ro 1 ze0 x31.1.what),(17,ro 1 ze0 x31.1.no)] 19 (by kernel_rfl) rfl 17 rfl rfl rfl rfl (es:=[.pn (ze9 x),.g (ze4 x.code),.g (qHY (Performance.mk x1.items x29.1 x1.slips))]) (us:=[.u,.u]) (cs:=ze9 x31.1) (ids:=[1,2,3]) (by exact zG (.pb rfl (qA3 rfl rfl)) (zG (.g (zC .s (zC .s (zC .v (zC .v (zC .v (zC .v (zCn)))))))) (zG (.g (zC .s (zC .s (zC .s (zC .v (zC .v (zC .v (zCn)))))))) (zGn)))) (by decide) (by decide) (qBH fl _ _ _ _ (hx32)) rfl rfl (by rfl) rfl) ?_
 refine gs2 ?_
 refine AW.le (Le.ct 0 0 (σ':=(⟨[(6,.v (.string x31.2))],[(1,.box (ze7 x31.1 17 18)),(17,ro 1 ze0 x31.1.no),(18,ro 1 ze0 x31.1.what)],81,[(1,L 1)]⟩:St)) (hpin:=⟨⟨rfl,rfl⟩,trivial⟩)) ?_
 refine AW.t ?_
 exact qEW
def qEE (judge:Int) (x1:Marks) (v16:List (List Int)):Nat→List (List Int)→List (List Int)→Int→Option Marks
 |0,_,_,_=>none
 |k23+1,v35,v36,v37 =>
  cond (decide (v37<(x1.components.length:Int)))
   ((qAV v36 v37).bind fun x39 =>
   (qAV x39 judge).bind fun x41 =>
   qEE judge x1 v16 k23 (v36.set v37.toNat (x39.set judge.toNat 1000)) (v36.set v37.toNat (x39.set judge.toNat 1000)) (w64 (v37+1)))
   (some (Marks.mk v16 v36))
def qE3 (judge:Int) (fl:Nat) (x1:Marks):Nat→List (List Int)→List (List Int)→Int→Option Marks
 |0,_,_,_=>none
 |k3+1,v15,v16,v17 =>
  cond (decide (v17<(x1.grades.length:Int)))
   ((qAV v16 v17).bind fun x19 =>
   (qAV x19 judge).bind fun x21 =>
   qE3 judge fl x1 k3 (v16.set v17.toNat (x19.set judge.toNat 5)) (v16.set v17.toNat (x19.set judge.toNat 5)) (w64 (v17+1)))
   (qEE judge x1 v16 fl x1.components x1.components 0)
def qEA (judge:Int) (x1:Marks) (v56:List (List Int)):Nat→List (List Int)→List (List Int)→Int→Option Marks
 |0,_,_,_=>none
 |k63+1,v75,v76,v77 =>
  cond (decide (v77<(x1.components.length:Int)))
   ((qAV v76 v77).bind fun x79 =>
   (qAV x79 judge).bind fun x81 =>
   qEA judge x1 v56 k63 (v76.set v77.toNat (x79.set judge.toNat 0)) (v76.set v77.toNat (x79.set judge.toNat 0)) (w64 (v77+1)))
   (some (Marks.mk v56 v76))
def qE7 (judge:Int) (fl:Nat) (x1:Marks):Nat→List (List Int)→List (List Int)→Int→Option Marks
 |0,_,_,_=>none
 |k43+1,v55,v56,v57 =>
  cond (decide (v57<(x1.grades.length:Int)))
   ((qAV v56 v57).bind fun x59 =>
   (qAV x59 judge).bind fun x61 =>
   qE7 judge fl x1 k43 (v56.set v57.toNat (x59.set judge.toNat (-5))) (v56.set v57.toNat (x59.set judge.toNat (-5))) (w64 (v57+1)))
   (qEA judge x1 v56 fl x1.components x1.components 0)
def qFc (fl:Nat) (m:Marks) (judge:Int) (great:Bool):Option Marks :=
 (qFC m).bind fun x1 =>
 cond great
  (qE3 judge fl x1 fl x1.grades x1.grades 0)
  (qE7 judge fl x1 fl x1.grades x1.grades 0)
theorem qKu (fl:Nat) (m:Marks) (judge:Int) (great:Bool) (r:Marks) (hH:qFc fl m judge great=some r):qAC prog 214 [.g (qAf m),judge,.v (.bool great)] (.g (qIq r)):=by
 refine fns T func214 ?_
 refine gs2 ?_
 refine AO.x (bxs T 1) ?_
 refine AO.x (als T 2) ?_
 refine gs2 ?_
 obtain⟨x1,hx2,hH⟩:=zB hH
 refine gs2 ?_
 refine AO.x (qAU rfl 3 rfl rfl rfl (qIU _ _ (hx2)) rfl rfl rfl) ?_
 refine AO.x (als T 5) ?_
 refine AO.se T [.R 3,.R 4] ?_
 iterate 11 refine gs ?_
 refine AW.cH hH (fun hc hH=>?_) (fun hc hH=>?_)
 iterate 16 refine gs ?_
 refine AW.loopS (fun s:Nat×(List (List Int))×(List (List Int))×Int=>(⟨[(1,judge),(6,.p 2 0),(7,.p 5 0),(8,(5:Int)),(9,(1000:Int)),(18,.R 3),(19,(x1.grades.length:Int)),(20,s.2.2.2)],[(2,.box [.w 0 [],.w 0 []]),(3,ro 1 ze8 s.2.2.1),(4,ro 1 ze8 x1.components),(5,.box [.R 3,.R 4])],42,[]⟩:St)) (fun s=>qE3 judge fl x1 s.1 s.2.1 s.2.2.1 s.2.2.2=some r) (fun s=>s.1) (fl,x1.grades,x1.grades,0) hH ?_ ?_
 exact Le.ct 0 0
 rintro⟨k3,v15,v16,v17⟩ hH
 try dsimp only at hH⊢
 rcases k3 with _|k3
 cases (show none=some _ from hH)
 rw[qE3]at hH
 refine gs5 ?_
 refine AW.cH hH (fun _ hH=>?_) (fun hc hH=>?_)
 refine gs4 ?_
 obtain⟨x19,hx20,hH⟩:=zB hH
 refine AW.le (Le.openM 3 v17.toNat 0 8 rfl (zgG (hx20)) rfl rfl) ?_
 refine AW.r (AO.w (qDd T rfl rfl rfl rfl rfl rfl (hx20)) ?_)
 refine AO.w (qBl T rfl rfl rfl rfl rfl) ?_
 refine gs2 ?_
 obtain⟨x21,hx22,hH⟩:=zB hH
 refine gs5 ?_
 refine AO.x (zSr T rfl rfl rfl rfl rfl (zgG (hx22)) rfl rfl rfl rfl (u':=5) rfl rfl) ?_
 refine AO.le (Le.closeM 3 v17.toNat 0 8 rfl rfl (zgG (hx20)) rfl (u':=(x19.set judge.toNat 5)) rfl) ?_
 refine gs5 ?_
 refine⟨(k3,(v16.set v17.toNat (x19.set judge.toNat 5)),(v16.set v17.toNat (x19.set judge.toNat 5)),w64 (v17+1)),hH,Nat.lt_succ_self _,?_⟩
 exact Le.ct 0 0
 iterate 10 refine gs ?_
 refine AW.loopS (fun s:Nat×(List (List Int))×(List (List Int))×Int=>(⟨[(1,judge),(6,.p 2 0),(7,.p 5 0),(9,(1000:Int)),(30,.R 4),(31,(x1.components.length:Int)),(32,s.2.2.2)],[(2,.box [.w 0 [],.w 0 []]),(3,ro 1 ze8 v16),(4,ro 1 ze8 s.2.2.1),(5,.box [.R 3,.R 4])],42,[]⟩:St)) (fun s=>qEE judge x1 v16 s.1 s.2.1 s.2.2.1 s.2.2.2=some r) (fun s=>s.1) (fl,x1.components,x1.components,0) hH ?_ ?_
 exact Le.ct 0 0
 rintro⟨k23,v35,v36,v37⟩ hH
 try dsimp only at hH⊢
 rcases k23 with _|k23
 cases (show none=some _ from hH)
 rw[qEE]at hH
 refine gs5 ?_
 refine AW.cH hH (fun _ hH=>?_) (fun hc hH=>?_)
 refine gs4 ?_
 obtain⟨x39,hx40,hH⟩:=zB hH
 refine AW.le (Le.openM 4 v37.toNat 0 11 rfl (zgG (hx40)) rfl rfl) ?_
 refine AW.r (AO.w (qDd T rfl rfl rfl rfl rfl rfl (hx40)) ?_)
 refine AO.w (qBl T rfl rfl rfl rfl rfl) ?_
 refine gs2 ?_
 obtain⟨x41,hx42,hH⟩:=zB hH
 refine gs5 ?_
 refine AO.x (zSr T rfl rfl rfl rfl rfl (zgG (hx42)) rfl rfl rfl rfl (u':=1000) rfl rfl) ?_
 refine AO.le (Le.closeM 4 v37.toNat 0 11 rfl rfl (zgG (hx40)) rfl (u':=(x39.set judge.toNat 1000)) rfl) ?_
 refine gs5 ?_
 refine⟨(k23,(v36.set v37.toNat (x39.set judge.toNat 1000)),(v36.set v37.toNat (x39.set judge.toNat 1000)),w64 (v37+1)),hH,Nat.lt_succ_self _,?_⟩
 exact Le.ct 0 0
 refine gs4 ?_
 refine AO.se T [.R 3,.R 4] ?_
 refine gs2 ?_
 exact fin
 iterate 10 refine gs ?_
 refine AW.loopS (fun s:Nat×(List (List Int))×(List (List Int))×Int=>(⟨[(1,judge),(6,.p 2 0),(7,.p 5 0),(8,(-5:Int)),(9,(0:Int)),(18,.R 3),(19,(x1.grades.length:Int)),(20,s.2.2.2)],[(2,.box [.w 0 [],.w 0 []]),(3,ro 1 ze8 s.2.2.1),(4,ro 1 ze8 x1.components),(5,.box [.R 3,.R 4])],42,[]⟩:St)) (fun s=>qE7 judge fl x1 s.1 s.2.1 s.2.2.1 s.2.2.2=some r) (fun s=>s.1) (fl,x1.grades,x1.grades,0) hH ?_ ?_
 exact Le.ct 0 0
 rintro⟨k43,v55,v56,v57⟩ hH
 try dsimp only at hH⊢
 rcases k43 with _|k43
 cases (show none=some _ from hH)
 rw[qE7]at hH
 refine gs5 ?_
 refine AW.cH hH (fun _ hH=>?_) (fun hc hH=>?_)
 refine gs4 ?_
 obtain⟨x59,hx60,hH⟩:=zB hH
 refine AW.le (Le.openM 3 v57.toNat 0 14 rfl (zgG (hx60)) rfl rfl) ?_
 refine AW.r (AO.w (qDd T rfl rfl rfl rfl rfl rfl (hx60)) ?_)
 refine AO.w (qBl T rfl rfl rfl rfl rfl) ?_
 refine gs2 ?_
 obtain⟨x61,hx62,hH⟩:=zB hH
 refine gs5 ?_
 refine AO.x (zSr T rfl rfl rfl rfl rfl (zgG (hx62)) rfl rfl rfl rfl (u':=(-5)) rfl rfl) ?_
 refine AO.le (Le.closeM 3 v57.toNat 0 14 rfl rfl (zgG (hx60)) rfl (u':=(x59.set judge.toNat (-5))) rfl) ?_
 refine gs5 ?_
 refine⟨(k43,(v56.set v57.toNat (x59.set judge.toNat (-5))),(v56.set v57.toNat (x59.set judge.toNat (-5))),w64 (v57+1)),hH,Nat.lt_succ_self _,?_⟩
 exact Le.ct 0 0
 iterate 10 refine gs ?_
 refine AW.loopS (fun s:Nat×(List (List Int))×(List (List Int))×Int=>(⟨[(1,judge),(6,.p 2 0),(7,.p 5 0),(9,(0:Int)),(30,.R 4),(31,(x1.components.length:Int)),(32,s.2.2.2)],[(2,.box [.w 0 [],.w 0 []]),(3,ro 1 ze8 v56),(4,ro 1 ze8 s.2.2.1),(5,.box [.R 3,.R 4])],42,[]⟩:St)) (fun s=>qEA judge x1 v56 s.1 s.2.1 s.2.2.1 s.2.2.2=some r) (fun s=>s.1) (fl,x1.components,x1.components,0) hH ?_ ?_
 exact Le.ct 0 0
 rintro⟨k63,v75,v76,v77⟩ hH
 try dsimp only at hH⊢
 rcases k63 with _|k63
 cases (show none=some _ from hH)
 rw[qEA]at hH
 refine gs5 ?_
 refine AW.cH hH (fun _ hH=>?_) (fun _ hH=>?_)
 refine gs4 ?_
 obtain⟨x79,hx80,hH⟩:=zB hH
 refine AW.le (Le.openM 4 v77.toNat 0 17 rfl (zgG (hx80)) rfl rfl) ?_
 refine AW.r (AO.w (qDd T rfl rfl rfl rfl rfl rfl (hx80)) ?_)
 refine AO.w (qBl T rfl rfl rfl rfl rfl) ?_
 refine gs2 ?_
 obtain⟨x81,hx82,hH⟩:=zB hH
 refine gs5 ?_
 refine AO.x (zSr T rfl rfl rfl rfl rfl (zgG (hx82)) rfl rfl rfl rfl (u':=0) rfl rfl) ?_
 refine AO.le (Le.closeM 4 v77.toNat 0 17 rfl rfl (zgG (hx80)) rfl (u':=(x79.set judge.toNat 0)) rfl) ?_
 refine gs5 ?_
 refine⟨(k63,(v76.set v77.toNat (x79.set judge.toNat 0)),(v76.set v77.toNat (x79.set judge.toNat 0)),w64 (v77+1)),hH,Nat.lt_succ_self _,?_⟩
 exact Le.ct 0 0
 refine gs4 ?_
 refine AO.se T [.R 3,.R 4] ?_
 refine gs2 ?_
 exact fin
def qHn (fl:Nat) (c:Code) (p:Performance) (factor:Int) (m:Marks):Option Int :=
 (qDA fl c (Performance.mk p.items m p.slips) factor).bind fun x1 =>
 some x1
theorem qLD (fl:Nat) (c:Code) (p:Performance) (factor:Int) (m:Marks) (r:Int) (hH:qHn fl c p factor m=some r):qAC prog 213 [.g (ze4 c),.g (qHY p),factor,.g (qAf m)] (.v (.int .i64 r)):=by
 refine fns T func213 ?_
 refine go ?_
 refine AO.x (bxs T 1) ?_
 refine AO.x (bxs T 2) ?_
 refine AO.x (bxs T 3) (go ?_)
 obtain⟨x1,hx2,hH⟩:=zB hH
 refine go ?_
 refine AO.w (cVs (qHX fl _ _ _ _ (hx2))) (go ?_)
 exact fin
def qGb (fl:Nat) (c:Code) (p:Performance) (factor:Int) (judge:Int):Option (Int×Int) :=
 (qFc fl p.marks judge false).bind fun x1 =>
 (qHn fl c p factor x1).bind fun x3 =>
 (qFc fl p.marks judge true).bind fun x5 =>
 (qHn fl c p factor x5).bind fun x7 =>
 some (x3,x7)
theorem qOe (fl:Nat) (c:Code) (p:Performance) (factor:Int) (judge:Int) (r:(Int×Int)) (hH:qGb fl c p factor judge=some r):qAC prog 149 [.g (ze4 c),.g (qHY p),factor,judge] (.t [.v (.int .i64 r.1),.v (.int .i64 r.2)]):=by
 refine fns T func149 ?_
 refine go ?_
 refine AO.x (bxs T 1) ?_
 refine AO.x (bxs T 2) (go ?_)
 obtain⟨x1,hx2,x3,hx4,x5,hx6,hH⟩:=qBB hH
 obtain⟨x7,hx8,hH⟩:=zB hH
 refine AW.drawn 15 3 [] mix (by kernel_rfl) rfl ?_
 refine go ?_
 refine AD.q (FStep.call rfl rfl rfl rfl rfl (qKu fl _ _ _ _ (hx2)) rfl rfl) (qBF _ _) (qDh _ _) rfl ?_
 refine AD.vald rfl rfl rfl (zLV rfl rfl rfl (es:=[.g (ze4 c),.g (qHY p),factor,.g (qAf x1)]) ⟨.free rfl,.free rfl,.free rfl,qIK (LendL.cons ((.rowR rfl (.map fun y=>qAl y))) (LendL.cons ((.rowR rfl (.map fun y=>qAl y))) LendL.nil)),trivial⟩ (qLD fl _ _ _ _ _ (hx4)) (qAc _) rfl) ?_
 refine go ?_
 refine AD.q (FStep.call rfl rfl rfl rfl rfl (qKu fl _ _ _ _ (hx6)) rfl rfl) (qBF _ _) (qDh _ _) rfl ?_
 refine AD.nil (AO.w (zLV rfl rfl rfl (es:=[.g (ze4 c),.g (qHY p),factor,.g (qAf x5)]) ⟨.free rfl,.free rfl,.free rfl,qIK (LendL.cons ((.rowR rfl (.map fun y=>qAl y))) (LendL.cons ((.rowR rfl (.map fun y=>qAl y))) LendL.nil)),trivial⟩ (qLD fl _ _ _ _ _ (hx8)) (qAc _) rfl) (go ?_))
 exact fin
def qCo (rA:Result):List Int→Nat→Bool→Option Bool
 | [],k1,v12 =>
  (qAZ rA.skater 1 999).bind fun x14 =>
  (opt x14 default (qAZ (rA.scores.length:Int) 1 3)).bind fun x16 =>
  some (x14&&x16)
 |y2::ys3,k1,v12 =>
  (qAZ y2 (-1) 100000).bind fun x18 =>
  cond ((!x18)||(v12&&decide (y2≥0)))
   (some false)
   (qCo rA ys3 (k1+1) (decide (y2<0)))
def qI2 (rA:Result):Option Bool :=
 qCo rA rA.scores 0 false
theorem qN5 (rA:Result) (r:Bool) (hH:qI2 rA=some r):qAC prog 268 [.g (ze6 rA)] (.v (.bool r)):=by
 refine fns T func268 ?_
 refine go ?_
 refine AO.x (bxs T 1) (go ?_)
 refine AW.loopS (fun s:Nat×Bool=>(⟨[(1,.p 1 0),(3,.v (.bool s.2)),(7,sv ze0 rA.scores),(8,(rA.scores.length:Int)),(9,(s.1:Int))],[(1,.box [rA.skater,sv ze0 rA.scores])],35,[]⟩:St)) (fun s=>s.1≤rA.scores.length∧qCo rA (rA.scores.drop s.1) s.1 s.2=some r) (fun s=>rA.scores.length-s.1) (0,false) ⟨Nat.zero_le _,hH⟩ ?_ ?_
 exact Le.ct 0 0
 rintro⟨k1,v12⟩ ⟨hk,hH⟩
 try dsimp only at hH⊢
 refine AW.boundM (t:=7) (l:=rA.scores) rfl (fun hb5=>?_)
 rcases hd4:rA.scores.drop k1 with _|⟨y2,ys3⟩
 rw[hd4,qCo]at hH
 have hlt6:=qAF hd4
 refine go ?_
 obtain⟨x14,hx15,x16,hx17,hH⟩:=qAI hH
 refine go ?_
 refine AO.w (cVs (qAb _ _ _ _ (hx15))) ?_
 refine AO.pu T ?_
 refine AO.g0 T ?_
 refine AO.g1 T 30 ?_
 refine AO.d1 31 (fun hg=>qLn T) ?_
 refine AO.d1 32 (fun hg=>cVs (qAb _ _ _ _ (qEv hx17 hg))) ?_
 refine go ?_
 exact fin
 rw[hd4,qCo]at hH
 have hlt6:=qAG hd4
 refine go ?_
 obtain⟨x18,hx19,hH⟩:=zB hH
 refine go ?_
 refine AO.w (cVs (qAb _ _ _ _ (hx19))) (go ?_)
 refine AO.g0 T ?_
 refine AO.g1 T 17 ?_
 refine AO.g0 T ?_
 refine AO.g1 T 19 ?_
 refine AO.d [18] rfl ⟨fun h=>h,trivial⟩ (fun hg=>zN rfl rfl rfl (by rw[hg];exact Bool.true_and _)) rfl ?_
 refine go ?_
 refine AW.cH hH (fun _ hH=>?_) (fun _ hH=>?_)
 refine go ?_
 exact fin
 refine go ?_
 refine⟨(k1+1,decide (y2<0)),⟨hlt6,(zds hd4▸hH)⟩,qCC hlt6,?_⟩
 exact Le.ct 0 0
def qEd (n:Int):List Int→Nat→Option Bool
 | [],k1 =>
  some false
 |y2::ys3,k1 =>
  cond (y2==n)
   (some true)
   (qEd n ys3 (k1+1))
def qKl (l:List Int) (n:Int):Option Bool :=
 qEd n l 0
theorem qP9 (l:List Int) (n:Int) (r:Bool) (hH:qKl l n=some r):qAC prog 269 [.s (List.map ze0 l),n] (.v (.bool r)):=by
 refine fns T func269 ?_
 refine go ?_
 refine AW.loopS (fun s:Nat=>(⟨[(1,n),(7,sv ze0 l),(8,(l.length:Int)),(9,(s:Int))],[],17,[]⟩:St)) (fun s=>s≤l.length∧qEd n (l.drop s) s=some r) (fun s=>l.length-s) 0 ⟨Nat.zero_le _,hH⟩ ?_ ?_
 exact Le.ct 0 0
 rintro k1 ⟨hk,hH⟩
 try dsimp only at hH⊢
 refine AW.boundM (t:=7) (l:=l) rfl (fun hb5=>?_)
 rcases hd4:l.drop k1 with _|⟨y2,ys3⟩
 rw[hd4,qEd]at hH
 have hlt6:=qAF hd4
 refine go ?_
 exact fin
 rw[hd4,qEd]at hH
 have hlt6:=qAG hd4
 refine go ?_
 refine AW.cH hH (fun _ hH=>?_) (fun _ hH=>?_)
 refine go ?_
 exact fin
 refine go ?_
 refine⟨k1+1,⟨hlt6,(zds hd4▸hH)⟩,qCC hlt6,?_⟩
 exact Le.ct 0 0
def qDw (l:List Result):List Result→Nat→List Int→Option Bool
 | [],k1,v24 =>
  some (decide ((l.length:Int)≤40))
 |y2::ys3,k1,v24 =>
  (qI2 y2).bind fun x26 =>
  (opt (!(!x26)) default (qKl v24 y2.skater)).bind fun x28 =>
  (opt (!((!x26)||x28)) default (qAV l 0)).bind fun x30 =>
  cond (((!x26)||x28)||((y2.scores.length:Int) != (x30.scores.length:Int)))
   (some false)
   ((qAz (qAh 8 (v24.length+([y2.skater]).length))).bind fun u32 =>
   qDw l ys3 (k1+1) (v24++[y2.skater]))
def qIQ (l:List Result):Option Bool :=
 qDw l l 0 []
theorem qPM (l:List Result) (r:Bool) (hH:qIQ l=some r):qAC prog 215 [.s (List.map ze6 l)] (.v (.bool r)):=by
 refine fns T func215 ?_
 refine go ?_
 refine AW.loopS (fun s:Nat×(List Int)=>(⟨[(0,sv ze6 l),(3,.R 6),(6,sv ze6 l),(7,(l.length:Int)),(8,(s.1:Int))],[(6,ro 1 ze0 s.2)],41,[]⟩:St)) (fun s=>s.1≤l.length∧qDw l (l.drop s.1) s.1 s.2=some r) (fun s=>l.length-s.1) (0,[]) ⟨Nat.zero_le _,hH⟩ ?_ ?_
 refine Le.trans (Le.void 3 6 1 rfl rfl) ?_
 exact Le.ct 0 0
 rintro⟨k1,v24⟩ ⟨hk,hH⟩
 try dsimp only at hH⊢
 refine AW.boundM (t:=0) (l:=l) rfl (fun hb5=>?_)
 rcases hd4:l.drop k1 with _|⟨y2,ys3⟩
 rw[hd4,qDw]at hH
 have hlt6:=qAF hd4
 refine go ?_
 exact fin
 rw[hd4,qDw]at hH
 have hlt6:=qAG hd4
 refine go ?_
 refine AO.x (als T 7) ?_
 refine AO.se T [y2.skater,sv ze0 y2.scores] ?_
 refine go ?_
 obtain⟨x26,hx27,x28,hx29,x30,hx31,hH⟩:=qBB hH
 refine AW.drawn 18 8 [] mix (by kernel_rfl) rfl ?_
 refine go ?_
 refine AD.vv (cVs (qN5 _ _ (hx27))) ?_
 refine go ?_
 refine AD.pureG T [] rfl trivial rfl rfl ?_
 refine AD.pureG T [] rfl trivial rfl rfl ?_
 refine AD.pureG T [17] rfl ⟨fun h=>h,trivial⟩ rfl rfl ?_
 refine AD.guard [16,18] rfl ⟨fun h=>h,fun h=>h,trivial⟩ (fun hg=>zLV rfl rfl rfl (es:=[sv ze0 v24,y2.skater]) ⟨(.rowR rfl (.map fun y=>.vs rfl)),.free rfl,trivial⟩ (qP9 _ _ _ (qEv hx29 hg)) (qAc _) rfl) rfl ?_
 refine AD.vv ors ?_
 refine AD.pu T ?_
 refine AD.pureG T [] rfl trivial rfl rfl ?_
 refine AD.pureG T [22] rfl ⟨fun h=>h,trivial⟩ rfl rfl ?_
 refine AD.guard [23] rfl ⟨fun h=>h,trivial⟩ (fun hg=>qLn T) rfl ?_
 refine AD.pureG T [] rfl trivial rfl rfl ?_
 refine AD.guard [25] rfl ⟨fun h=>h,trivial⟩ (fun hg=>ixs T (qEv hx31 hg)) rfl ?_
 refine AD.pureG T [26] rfl ⟨fun h=>h,trivial⟩ rfl rfl ?_
 refine AD.pureG T [27] rfl ⟨fun h=>h,trivial⟩ rfl rfl ?_
 refine AD.guard [28] rfl ⟨fun h=>h,trivial⟩ (fun hg=>qLn T) rfl ?_
 refine AD.nil (AO.g2 T 24 29 ?_)
 refine gs2 ?_
 refine AW.le (Le.ct 0 0 (σ':=(⟨[(0,sv ze6 l),(3,.R 6),(5,.p 7 0),(6,sv ze6 l),(7,(l.length:Int)),(8,(k1:Int)),(31,.v (.bool (((!x26)||x28)||((y2.scores.length:Int) != (x30.scores.length:Int)))))],[(6,ro 1 ze0 v24),(7,.box [y2.skater,sv ze0 y2.scores])],41,[]⟩:St))) ?_
 refine AW.cH hH (fun _ hH=>?_) (fun _ hH=>?_)
 refine go ?_
 exact fin
 refine AW.k ?_
 obtain⟨u32,hx33,hH⟩:=zB hH
 refine go ?_
 refine AO.x (mks T 8 ze0 ([y2.skater])) ?_
 refine AO.x (rvs T 9 (hfit:=by exact qAS (hx33))) (go ?_)
 refine⟨(k1+1,(v24++[y2.skater])),⟨hlt6,(zds hd4▸hH)⟩,qCC hlt6,?_⟩
 exact Le.ct 9 6
def qEe (fl:Nat) (x:CsState) (n:Int):Option (CsState×ByteArray) :=
 (qAz (qAh 32 x.results.length)).bind fun u1 =>
 (qDA fl x.code x.p x.factor).bind fun x3 =>
 (qAz (qAh 32 (x.results.length+([(Result.mk n [x3])]).length))).bind fun u5 =>
 (qIQ (x.results++[(Result.mk n [x3])])).bind fun x7 =>
 cond (!x7)
  (some (x,(⟨#[110,111]⟩:ByteArray)))
  ((qCW fl (x.results++[(Result.mk n [x3])]) (w64 ((((x.results++[(Result.mk n [x3])])).length:Int)-1))).bind fun x9 =>
  (qBe fl fl x9).bind fun x11 =>
  some ((CsState.mk x.code x.p x.factor (x.results++[(Result.mk n [x3])]) x.no x.what x.lines),x11))
theorem qKa (fl:Nat) (x:CsState) (n:Int) (r:(CsState×ByteArray)) (hH:qEe fl x n=some r):qF3 prog 150 [.pn (ze9 x),n] [.pn (ze9 r.1),.u] (.v (.string r.2)):=by
 refine qFN T func150 rfl (by decide) rfl rfl [.p 1 0,n] [(1,.box (ze7 x 2 3)),(3,ro 1 ze0 x.what),(2,ro 1 ze0 x.no)] 4 (by kernel_rfl) [1] rfl rfl ?_
 intro L
 show AW _ _ _ (⟨[(0,.p 1 0),(1,n)],[(1,.box (ze7 x 2 3)),(3,ro 1 ze0 x.what),(2,ro 1 ze0 x.no)],43,[(1,L 1)]⟩:St)
 refine go ?_
 obtain⟨u1,hx2,x3,hx4,u5,hx6,hH⟩:=qBB hH
 refine AW.drawn 21 4 [] mix (by kernel_rfl) rfl ?_
 refine AD.v (FStep.mk0 T rfl rfl rfl rfl rfl) ?_
 refine go ?_
 refine AD.q (FStep.app_ws T rfl rfl rfl rfl rfl rfl rfl (by decide) (by decide) rfl rfl (fun _=>rfl) (qAS (hx2)) rfl) (by simp[qAu]) (Nat.le_succ _) rfl ?_
 refine go ?_
 refine AD.vv (cVs (qHX fl _ _ _ _ (hx4))) ?_
 refine AD.q (FStep.mk T (f:=ze0) (l:=[x3]) rfl rfl rfl rfl rfl rfl rfl rfl rfl (fun _=>rfl) rfl rfl rfl rfl) (by simp[qAu]) (Nat.le_succ _) rfl ?_
 refine gs2 ?_
 refine AO.le (Le.fM 5 (g:=ze0) rfl (fun y=>.vs rfl)) ?_
 refine AO.x (mks T 6 ze6 ([(Result.mk n [x3])])) ?_
 refine AO.x (rvs T 7 (hfit:=by exact qAS (hx6))) ?_
 refine gs2 ?_
 refine AW.le (Le.ct 0 0 (σ':=(⟨[(0,.p 1 0),(5,.R 7)],[(1,.box (ze7 x 2 3)),(2,ro 1 ze0 x.no),(3,ro 1 ze0 x.what),(7,ro 2 ze6 (x.results++[(Result.mk n [x3])]))],43,[(1,L 1)]⟩:St)) (hpin:=⟨⟨rfl,rfl⟩,trivial⟩)) ?_
 refine go ?_
 obtain⟨x7,hx8,hH⟩:=zB hH
 refine go ?_
 refine AO.w (zLV rfl rfl rfl (es:=[sv ze6 (x.results++[(Result.mk n [x3])])]) ⟨(.rowR rfl (.map fun y=>.vs rfl)),trivial⟩ (qPM _ _ (hx8)) (qAc _) rfl) (go ?_)
 refine AW.cH hH (fun _ hH=>?_) (fun _ hH=>?_)
 refine go ?_
 exact qEW
 refine go ?_
 refine AO.se T [sv ze5 x.code.elements,sv ze0 x.code.limits,x.code.repeats,x.code.bonus,x.code.keeps,x.code.fall,sv ze1 x.p.items,sv ze3 x.p.marks.grades,sv ze3 x.p.marks.components,x.p.slips.falls,x.p.slips.seconds,x.p.slips.other,x.factor,.R 7,.R 2,.R 3,x.lines] ?_
 refine go ?_
 obtain⟨x9,hx10,x11,hx12,hH⟩:=qAI hH
 refine go ?_
 refine AO.w (zLV rfl rfl rfl (es:=[sv ze6 (x.results++[(Result.mk n [x3])]),w64 ((((x.results++[(Result.mk n [x3])])).length:Int)-1)]) ⟨(.rowR rfl (.map fun y=>.vs rfl)),.free rfl,trivial⟩ (qK8 fl _ _ _ (hx10)) (qAc _) rfl) ?_
 refine AO.w (cVs (qKF fl fl _ _ (hx12))) ?_
 refine gs2 ?_
 refine AW.le (Le.fM 7 (g:=ze6) rfl (fun y=>.vs rfl)) ?_
 refine AW.t ?_
 exact qEW
def qAE (fl:Nat) (x:CsState) (w:ByteArray) (n:List Int):Option (CsState×ByteArray) :=
 (qAY x.p x.p.items).bind fun x1 =>
 cond (decide (w=(⟨#[108,105,109,105,116]⟩:ByteArray)))
  ((qBR fl x w n).bind fun x4 =>
  some (x4.1,x4.2))
  (cond (decide (w=(⟨#[114,117,108,101,115]⟩:ByteArray)))
   ((qBR fl x w n).bind fun x7 =>
   some (x7.1,x7.2))
   (cond (decide (w=(⟨#[106,117,100,103,101,115]⟩:ByteArray)))
    ((qAe fl x w n).bind fun x10 =>
    some (x10.1,x10.2))
    (cond (decide (w=(⟨#[103,114,97,100,101]⟩:ByteArray)))
     ((qAe fl x w n).bind fun x13 =>
     some (x13.1,x13.2))
     (cond (decide (w=(⟨#[99,111,109,112,111,110,101,110,116]⟩:ByteArray)))
      ((qAe fl x w n).bind fun x16 =>
      some (x16.1,x16.2))
      (cond (decide (w=(⟨#[115,108,105,112,115]⟩:ByteArray)))
       ((qAV n 0).bind fun x19 =>
       (qAV n 1).bind fun x21 =>
       (qAV n 2).bind fun x23 =>
       (qAM fl x x.code (Performance.mk x1.items x1.marks (Slips.mk x19 x21 x23))).bind fun x25 =>
       some (x25.1,x25.2))
       (cond (decide (w=(⟨#[102,97,99,116,111,114]⟩:ByteArray)))
        ((qAV n 0).bind fun x28 =>
        (qE1 x28).bind fun x30 =>
        cond (!x30)
         (some (x,(⟨#[110,111]⟩:ByteArray)))
         (some ((CsState.mk x.code x.p x28 x.results x.no x.what x.lines),(⟨#[111,107]⟩:ByteArray))))
        (cond (decide (w=(⟨#[114,97,110,103,101]⟩:ByteArray)))
         ((qAV n 0).bind fun x33 =>
         (qFq x1.marks x33).bind fun x35 =>
         cond (!x35)
          (some (x,(⟨#[110,111]⟩:ByteArray)))
          ((qGb fl x.code x1 x.factor x33).bind fun x37 =>
          (qBC fl [x37.1,x37.2]).bind fun x39 =>
          some (x,x39)))
         ((qAV n 0).bind fun x41 =>
         (qEe fl x x41).bind fun x43 =>
         some (x43.1,x43.2)))))))))
theorem qJw (fl:Nat) (x:CsState) (w:ByteArray) (n:List Int) (r:(CsState×ByteArray)) (hH:qAE fl x w n=some r):qF3 prog 109 [.pn (ze9 x),.v (.string w),.s (List.map ze0 n)] [.pn (ze9 r.1),.u,.u] (.v (.string r.2)):=by
 refine qFN T func109 rfl (by decide) rfl rfl [.p 1 0,.v (.string w),sv ze0 n] [(1,.box (ze7 x 2 3)),(3,ro 1 ze0 x.what),(2,ro 1 ze0 x.no)] 4 (by kernel_rfl) [1] rfl rfl ?_
 intro L
 show AW _ _ _ (⟨[(0,.p 1 0),(1,.v (.string w)),(2,sv ze0 n)],[(1,.box (ze7 x 2 3)),(3,ro 1 ze0 x.what),(2,ro 1 ze0 x.no)],103,[(1,L 1)]⟩:St)
 refine go ?_
 obtain⟨x1,hx2,hH⟩:=zB hH
 refine AW.drawn 11 4 [] mix (by kernel_rfl) rfl ?_
 refine go ?_
 refine AD.q (FStep.call rfl rfl rfl rfl rfl (qGO _ _ _ (hx2)) rfl rfl) (qBF _ _) (qDh _ _) rfl ?_
 refine AD.q (FStep.alloc T rfl rfl rfl rfl rfl rfl) (by simp[qAu]) (Nat.le_succ _) rfl ?_
 refine AD.nil (AO.se T [.R 4,.R 5,.R 6,x1.slips.falls,x1.slips.seconds,x1.slips.other] ?_)
 refine go ?_
 refine AW.cH hH (fun hc3 hH=>?_) (fun _ hH=>?_)
 refine AW.k (AW.condT' rfl hc3 ?_)
 refine AW.q ?_
 obtain⟨x4,hx5,hH⟩:=zB hH
 refine go ?_
 refine AO.x (qAd (ze7 x4.1 8 9) [(9,ro 1 ze0 x4.1.what),(8,ro 1 ze0 x4.1.no)] 10 (by kernel_rfl) rfl 8 rfl rfl rfl rfl (es:=[.pn (ze9 x),.v (.string w),.s (n.map ze0)]) (us:=[.u,.u]) (cs:=ze9 x4.1) (ids:=[1,2,3]) (by exact zG (.pb rfl (qA3 rfl rfl)) (zG (.c .v) (zG (.c .s) (zGn)))) (by decide) (by decide) (qGv fl _ _ _ _ (hx5)) rfl rfl (by rfl) rfl) (go ?_)
 exact qEW
 refine go ?_
 refine AW.cH hH (fun _ hH=>?_) (fun _ hH=>?_)
 refine AW.q ?_
 obtain⟨x7,hx8,hH⟩:=zB hH
 refine go ?_
 refine AO.x (qAd (ze7 x7.1 10 11) [(11,ro 1 ze0 x7.1.what),(10,ro 1 ze0 x7.1.no)] 12 (by kernel_rfl) rfl 10 rfl rfl rfl rfl (es:=[.pn (ze9 x),.v (.string w),.s (n.map ze0)]) (us:=[.u,.u]) (cs:=ze9 x7.1) (ids:=[1,2,3]) (by exact zG (.pb rfl (qA3 rfl rfl)) (zG (.c .v) (zG (.c .s) (zGn)))) (by decide) (by decide) (qGv fl _ _ _ _ (hx8)) rfl rfl (by rfl) rfl) (go ?_)
 exact qEW
 refine go ?_
 refine AW.cH hH (fun hc9 hH=>?_) (fun _ hH=>?_)
 refine AW.k (AW.condT' rfl hc9 ?_)
 refine AW.q ?_
 obtain⟨x10,hx11,hH⟩:=zB hH
 refine go ?_
 refine AO.x (qAd (ze7 x10.1 12 13) [(13,ro 1 ze0 x10.1.what),(12,ro 1 ze0 x10.1.no)] 14 (by kernel_rfl) rfl 12 rfl rfl rfl rfl (es:=[.pn (ze9 x),.v (.string w),.s (n.map ze0)]) (us:=[.u,.u]) (cs:=ze9 x10.1) (ids:=[1,2,3]) (by exact zG (.pb rfl (qA3 rfl rfl)) (zG (.c .v) (zG (.c .s) (zGn)))) (by decide) (by decide) (qEq fl _ _ _ _ (hx11)) rfl rfl (by rfl) rfl) ?_
 refine gs2 ?_
 refine AW.le (Le.ct 0 0 (σ':=(⟨[(6,.v (.string x10.2))],[(1,.box (ze7 x10.1 12 13)),(12,ro 1 ze0 x10.1.no),(13,ro 1 ze0 x10.1.what)],103,[(1,L 1)]⟩:St)) (hpin:=⟨⟨rfl,rfl⟩,trivial⟩)) ?_
 refine AW.t ?_
 exact qEW
 refine go ?_
 refine AW.cH hH (fun hc12 hH=>?_) (fun _ hH=>?_)
 refine AW.k (AW.condT' rfl hc12 ?_)
 refine AW.q ?_
 obtain⟨x13,hx14,hH⟩:=zB hH
 refine go ?_
 refine AO.x (qAd (ze7 x13.1 14 15) [(15,ro 1 ze0 x13.1.what),(14,ro 1 ze0 x13.1.no)] 16 (by kernel_rfl) rfl 14 rfl rfl rfl rfl (es:=[.pn (ze9 x),.v (.string w),.s (n.map ze0)]) (us:=[.u,.u]) (cs:=ze9 x13.1) (ids:=[1,2,3]) (by exact zG (.pb rfl (qA3 rfl rfl)) (zG (.c .v) (zG (.c .s) (zGn)))) (by decide) (by decide) (qEq fl _ _ _ _ (hx14)) rfl rfl (by rfl) rfl) ?_
 refine gs2 ?_
 refine AW.le (Le.ct 0 0 (σ':=(⟨[(6,.v (.string x13.2))],[(1,.box (ze7 x13.1 14 15)),(14,ro 1 ze0 x13.1.no),(15,ro 1 ze0 x13.1.what)],103,[(1,L 1)]⟩:St)) (hpin:=⟨⟨rfl,rfl⟩,trivial⟩)) ?_
 refine AW.t ?_
 exact qEW
 refine gs4 ?_
 refine AW.le (Le.ct 0 0 (σ':=(⟨[(0,.p 1 0),(1,.v (.string w)),(2,sv ze0 n),(7,.p 7 0),(20,.v (.string w)),(28,.v (.bool (decide (w=(⟨#[99,111,109,112,111,110,101,110,116]⟩:ByteArray)))))],[(1,.box (ze7 x 2 3)),(2,ro 1 ze0 x.no),(3,ro 1 ze0 x.what),(4,ro 3 qCU x1.items),(5,ro 1 ze8 x1.marks.grades),(6,ro 1 ze8 x1.marks.components),(7,.box [.R 4,.R 5,.R 6,x1.slips.falls,x1.slips.seconds,x1.slips.other])],103,[(1,L 1)]⟩:St)) (hpin:=⟨⟨rfl,rfl⟩,trivial⟩)) ?_
 refine AW.cH hH (fun _ hH=>?_) (fun _ hH=>?_)
 refine AW.q ?_
 obtain⟨x16,hx17,hH⟩:=zB hH
 refine go ?_
 refine AO.x (qAd (ze7 x16.1 16 17) [(17,ro 1 ze0 x16.1.what),(16,ro 1 ze0 x16.1.no)] 18 (by kernel_rfl) rfl 16 rfl rfl rfl rfl (es:=[.pn (ze9 x),.v (.string w),.s (n.map ze0)]) (us:=[.u,.u]) (cs:=ze9 x16.1) (ids:=[1,2,3]) (by exact zG (.pb rfl (qA3 rfl rfl)) (zG (.c .v) (zG (.c .s) (zGn)))) (by decide) (by decide) (qEq fl _ _ _ _ (hx17)) rfl rfl (by rfl) rfl) (go ?_)
 exact qEW
 refine go ?_
 refine AW.cH hH (fun _ hH=>?_) (fun _ hH=>?_)
 refine AW.q ?_
 obtain⟨x19,hx20,x21,hx22,x23,hx24,hH⟩:=qBB hH
 refine AW.drawn 9 18 [] mix (by kernel_rfl) rfl ?_
 refine go ?_
 refine AO.se T [.R 4,.R 5,.R 6,x19,x21,x23] ?_
 refine go ?_
 obtain⟨x25,hx26,hH⟩:=zB hH
 refine AW.le (Le.fM 4 (g:=ze1) rfl (fun y=>qGs y)) ?_
 refine AW.le (Le.fM 5 (g:=ze3) rfl (fun y=>qAl y)) ?_
 refine AW.le (Le.fM 6 (g:=ze3) rfl (fun y=>qAl y)) ?_
 refine AW.drawn 6 18 [] mix (by kernel_rfl) rfl ?_
 refine go ?_
 refine AO.x (qAd (ze7 x25.1 18 19) [(19,ro 1 ze0 x25.1.what),(18,ro 1 ze0 x25.1.no)] 20 (by kernel_rfl) rfl 18 rfl rfl rfl rfl (es:=[.pn (ze9 x),.g (ze4 x.code),.g (qHY (Performance.mk x1.items x1.marks (Slips.mk x19 x21 x23)))]) (us:=[.u,.u]) (cs:=ze9 x25.1) (ids:=[1,2,3]) (by exact zG (.pb rfl (qA3 rfl rfl)) (zG (.g (zC .s (zC .s (zC .v (zC .v (zC .v (zC .v (zCn)))))))) (zG (.g (zC .s (zC .s (zC .s (zC .v (zC .v (zC .v (zCn)))))))) (zGn)))) (by decide) (by decide) (qBH fl _ _ _ _ (hx26)) rfl rfl (by rfl) rfl) (go ?_)
 exact qEW
 refine go ?_
 refine AW.cH hH (fun _ hH=>?_) (fun _ hH=>?_)
 refine go ?_
 obtain⟨x28,hx29,x30,hx31,hH⟩:=qAI hH
 refine go ?_
 refine AO.w (cVs (qKM _ _ (hx31))) (go ?_)
 refine AW.cH hH (fun _ hH=>?_) (fun hc hH=>?_)
 refine go ?_
 exact qEW
 refine go ?_
 refine AO.se T [sv ze5 x.code.elements,sv ze0 x.code.limits,x.code.repeats,x.code.bonus,x.code.keeps,x.code.fall,sv ze1 x.p.items,sv ze3 x.p.marks.grades,sv ze3 x.p.marks.components,x.p.slips.falls,x.p.slips.seconds,x.p.slips.other,x28,sv ze6 x.results,.R 2,.R 3,x.lines] ?_
 refine go ?_
 exact qEW
 refine go ?_
 refine AW.cH hH (fun _ hH=>?_) (fun _ hH=>?_)
 refine go ?_
 obtain⟨x33,hx34,x35,hx36,hH⟩:=qAI hH
 refine AW.drawn 5 20 [] mix (by kernel_rfl) rfl ?_
 refine go ?_
 refine AO.w (zLV rfl rfl rfl (es:=[.g (qAf x1.marks),x33]) ⟨qIK (LendL.cons ((.rowR rfl (.map fun y=>qAl y))) (LendL.cons ((.rowR rfl (.map fun y=>qAl y))) LendL.nil)),.free rfl,trivial⟩ (qJ4 _ _ _ (hx36)) (qAc _) rfl) (go ?_)
 refine AW.cH hH (fun _ hH=>?_) (fun _ hH=>?_)
 refine go ?_
 exact qEW
 refine go ?_
 obtain⟨x37,hx38,hH⟩:=zB hH
 refine AW.drawn 17 20 [] mix (by kernel_rfl) rfl ?_
 refine go ?_
 refine AD.vv (zLV rfl rfl rfl (es:=[.g (ze4 x.code),.g (qHY x1),x.factor,x33]) ⟨.free rfl,qIK (LendL.cons ((.rowR rfl (.map fun y=>qGs y))) (LendL.cons ((.rowR rfl (.map fun y=>qAl y))) (LendL.cons ((.rowR rfl (.map fun y=>qAl y))) (LendL.cons (.free rfl) (LendL.cons (.free rfl) (LendL.cons (.free rfl) LendL.nil)))))),.free rfl,.free rfl,trivial⟩ (qOe fl _ _ _ _ _ (hx38)) (qTi (zfl (.cons (qAc _) (.cons (qAc _) .nil)))) rfl) ?_
 refine gs7 ?_
 refine AW.le (Le.ct 0 0 (σ':=(⟨[(8,x37.1),(9,x37.2)],[(1,.box (ze7 x 2 3)),(2,ro 1 ze0 x.no),(3,ro 1 ze0 x.what)],103,[(1,L 1)]⟩:St)) (hpin:=⟨⟨rfl,rfl⟩,trivial⟩)) ?_
 refine AW.q ?_
 obtain⟨x39,hx40,hH⟩:=zB hH
 refine go ?_
 refine AO.x (mks T 20 ze0 ([x37.1,x37.2])) ?_
 refine AO.w (zLV rfl rfl rfl (es:=[sv ze0 [x37.1,x37.2]]) ⟨(.rowR rfl (.map fun y=>.vs rfl)),trivial⟩ (qFv fl _ _ (hx40)) (qAc _) rfl) (go ?_)
 exact qEW
 refine go ?_
 obtain⟨x41,hx42,x43,hx44,hH⟩:=qAI hH
 refine go ?_
 refine AO.x (qAd (ze7 x43.1 21 22) [(22,ro 1 ze0 x43.1.what),(21,ro 1 ze0 x43.1.no)] 23 (by kernel_rfl) rfl 21 rfl rfl rfl rfl (es:=[.pn (ze9 x),.v (.int .i64 x41)]) (us:=[.u]) (cs:=ze9 x43.1) (ids:=[1,2,3]) (by exact zG (.pb rfl (qA3 rfl rfl)) (zG (.c .v) (zGn))) (by decide) (by decide) (qKa fl _ _ _ (hx44)) rfl rfl (by rfl) rfl) (go ?_)
 exact qEW
def qAB (fl:Nat) (x:CsState) (t:ByteArray):Option (CsState×ByteArray) :=
 (qA1 fl t 32).bind fun x1 =>
 cond ((x1.length:Int)==1)
  ((qAX fl x t).bind fun x3 =>
  some (x3.1,x3.2))
  ((qAV x1 0).bind fun x5 =>
  cond (decide (x5=(⟨#[105,116,101,109]⟩:ByteArray)))
   ((qAz (inB 5 t.size t.size)).bind fun u8 =>
   (qCI fl x (ByteArray.extract t (5:Int).toNat t.size)).bind fun x10 =>
   some (x10.1,x10.2))
   (cond (decide (x5=(⟨#[99,97,108,108]⟩:ByteArray)))
    ((qC7 x1 1).bind fun x13 =>
    (qBi fl x x13).bind fun x15 =>
    some (x15.1,x15.2))
    (cond (decide (x5=(⟨#[101,108,101,109,101,110,116]⟩:ByteArray)))
     ((qC7 x1 2).bind fun x18 =>
     (qCx fl x18 false).bind fun x20 =>
     cond ((!x20.2)||((x20.1.length:Int) != 3))
      (some (x,(⟨#[119,104,97,116]⟩:ByteArray)))
      ((qAV x1 1).bind fun x22 =>
      (qC1 fl x x22 x20.1).bind fun x24 =>
      some (x24.1,x24.2)))
     ((qC7 x1 1).bind fun x26 =>
     (qCx fl x26 (decide (x5=(⟨#[103,114,97,100,101]⟩:ByteArray)))).bind fun x28 =>
     (opt (!(!x28.2)) default (qEb x5)).bind fun x30 =>
     cond ((!x28.2)||((x28.1.length:Int) != x30))
      (some (x,(⟨#[119,104,97,116]⟩:ByteArray)))
      ((qAE fl x x5 x28.1).bind fun x32 =>
      some (x32.1,x32.2))))))
theorem qLb (fl:Nat) (x:CsState) (t:ByteArray) (r:(CsState×ByteArray)) (hH:qAB fl x t=some r):qF3 prog 74 [.pn (ze9 x),.v (.string t)] [.pn (ze9 r.1),.u] (.v (.string r.2)):=by
 refine qFN T func74 rfl (by decide) rfl rfl [.p 1 0,.v (.string t)] [(1,.box (ze7 x 2 3)),(3,ro 1 ze0 x.what),(2,ro 1 ze0 x.no)] 4 (by kernel_rfl) [1] rfl rfl ?_
 intro L
 show AW _ _ _ (⟨[(0,.p 1 0),(1,.v (.string t))],[(1,.box (ze7 x 2 3)),(3,ro 1 ze0 x.what),(2,ro 1 ze0 x.no)],88,[(1,L 1)]⟩:St)
 refine gs5 ?_
 obtain⟨x1,hx2,hH⟩:=zB hH
 refine gs2 ?_
 refine AO.x (qAU rfl 4 rfl rfl rfl (qHF fl _ _ _ (hx2)) rfl rfl rfl) ?_
 iterate 11 refine gs ?_
 refine AW.cH hH (fun _ hH=>?_) (fun hc hH=>?_)
 refine AW.q ?_
 obtain⟨x3,hx4,hH⟩:=zB hH
 refine gs3 ?_
 refine AO.x (qAd (ze7 x3.1 5 6) [(6,ro 1 ze0 x3.1.what),(5,ro 1 ze0 x3.1.no)] 7 (by kernel_rfl) rfl 5 rfl rfl rfl rfl (es:=[.pn (ze9 x),.v (.string t)]) (us:=[.u]) (cs:=ze9 x3.1) (ids:=[1,2,3]) (by exact zG (.pb rfl (qA3 rfl rfl)) (zG (.c .v) (zGn))) (by decide) (by decide) (qK4 fl _ _ _ (hx4)) rfl rfl (by rfl) rfl) ?_
 refine gs3 ?_
 exact qEW
 refine AW.q ?_
 obtain⟨x5,hx6,hH⟩:=zB hH
 refine gs3 ?_
 refine AO.w (zLr T rfl rfl rfl rfl (zgG (hx6)) rfl rfl rfl) ?_
 refine gs3 ?_
 refine AW.cH hH (fun _ hH=>?_) (fun _ hH=>?_)
 refine AW.q ?_
 obtain⟨u8,hx9,x10,hx11,hH⟩:=qAI hH
 refine gs3 ?_
 refine AO.w (qFB T rfl rfl rfl rfl (qAS (hx9))) ?_
 refine AO.x (qAd (ze7 x10.1 7 8) [(8,ro 1 ze0 x10.1.what),(7,ro 1 ze0 x10.1.no)] 9 (by kernel_rfl) rfl 7 rfl rfl rfl rfl (es:=[.pn (ze9 x),.v (.string (ByteArray.extract t (5:Int).toNat t.size))]) (us:=[.u]) (cs:=ze9 x10.1) (ids:=[1,2,3]) (by exact zG (.pb rfl (qA3 rfl rfl)) (zG (.c .v) (zGn))) (by decide) (by decide) (qLW fl _ _ _ (hx11)) rfl rfl (by rfl) rfl) ?_
 refine gs3 ?_
 exact qEW
 refine gs4 ?_
 refine AO.w (zLr T rfl rfl rfl rfl (zgG (hx6)) rfl rfl rfl) ?_
 refine gs3 ?_
 refine AW.cH hH (fun _ hH=>?_) (fun _ hH=>?_)
 refine AW.q ?_
 obtain⟨x13,hx14,x15,hx16,hH⟩:=qAI hH
 refine AW.le (Le.fM 4 (g:=ze2) rfl (fun y=>.vs rfl)) ?_
 refine gs3 ?_
 refine AO.w (qDS T rfl rfl rfl rfl rfl (hx14) (fun _=>rfl)) ?_
 refine AO.x (qAd (ze7 x15.1 9 10) [(10,ro 1 ze0 x15.1.what),(9,ro 1 ze0 x15.1.no)] 11 (by kernel_rfl) rfl 9 rfl rfl rfl rfl (es:=[.pn (ze9 x),.s (x13.map ze2)]) (us:=[.u]) (cs:=ze9 x15.1) (ids:=[1,2,3]) (by exact zG (.pb rfl (qA3 rfl rfl)) (zG (.c .s) (zGn))) (by decide) (by decide) (qJb fl _ _ _ (hx16)) rfl rfl (by rfl) rfl) ?_
 refine gs3 ?_
 exact qEW
 refine gs4 ?_
 refine AO.w (zLr T rfl rfl rfl rfl (zgG (hx6)) rfl rfl rfl) ?_
 refine gs3 ?_
 refine AW.cH hH (fun _ hH=>?_) (fun _ hH=>?_)
 refine AW.q ?_
 obtain⟨x18,hx19,x20,hx21,hH⟩:=qAI hH
 refine AW.le (Le.fM 4 (g:=ze2) rfl (fun y=>.vs rfl)) ?_
 refine gs2 ?_
 refine AO.w (qDS T rfl rfl rfl rfl rfl (hx19) (fun _=>rfl)) ?_
 refine AO.x (qAU rfl 11 rfl rfl rfl (qHb fl _ _ _ (hx21)) rfl rfl rfl) ?_
 refine gs6 ?_
 refine AW.le (Le.ct 0 0 (σ':=(⟨[(0,.p 1 0),(5,sv ze2 x1),(6,.R 11),(7,.v (.bool x20.2))],[(1,.box (ze7 x 2 3)),(2,ro 1 ze0 x.no),(3,ro 1 ze0 x.what),(11,ro 1 ze0 x20.1)],88,[(1,L 1)]⟩:St)) (hpin:=⟨⟨rfl,rfl⟩,trivial⟩)) ?_
 refine gs6 ?_
 refine AO.g0 T ?_
 refine AO.d1 51 (fun hg=>qJk T rfl rfl rfl rfl) ?_
 refine AO.g1 T 52 ?_
 refine gs2 ?_
 refine AW.cH hH (fun _ hH=>?_) (fun hc hH=>?_)
 refine gs5 ?_
 exact qEW
 refine gs2 ?_
 obtain⟨x22,hx23,x24,hx25,hH⟩:=qAI hH
 refine AW.le (Le.fM 11 (g:=ze0) rfl (fun y=>.vs rfl)) ?_
 refine gs6 ?_
 refine AO.x (qAd (ze7 x24.1 12 13) [(13,ro 1 ze0 x24.1.what),(12,ro 1 ze0 x24.1.no)] 14 (by kernel_rfl) rfl 12 rfl rfl rfl rfl (es:=[.pn (ze9 x),.v (.string x22),.s (x20.1.map ze0)]) (us:=[.u,.u]) (cs:=ze9 x24.1) (ids:=[1,2,3]) (by exact zG (.pb rfl (qA3 rfl rfl)) (zG (.c .v) (zG (.c .s) (zGn)))) (by decide) (by decide) (qKE fl _ _ _ _ (hx25)) rfl rfl (by rfl) rfl) ?_
 refine gs3 ?_
 exact qEW
 refine gs2 ?_
 obtain⟨x26,hx27,x28,hx29,hH⟩:=qAI hH
 refine AW.le (Le.fM 4 (g:=ze2) rfl (fun y=>.vs rfl)) ?_
 refine AW.drawn 11 14 [] mix (by kernel_rfl) rfl ?_
 refine AD.pu T ?_
 refine AD.vv (qDS T rfl rfl rfl rfl rfl (hx27) (fun _=>rfl)) ?_
 refine gs4 ?_
 refine AD.q (FStep.call rfl rfl rfl rfl rfl (qHb fl _ _ _ (hx29)) rfl rfl) (qBF _ _) (qDh _ _) rfl ?_
 refine gs7 ?_
 refine AW.le (Le.ct 0 0 (σ':=(⟨[(0,.p 1 0),(5,sv ze2 x1),(8,.R 14),(9,.v (.bool x28.2))],[(1,.box (ze7 x 2 3)),(2,ro 1 ze0 x.no),(3,ro 1 ze0 x.what),(14,ro 1 ze0 x28.1)],88,[(1,L 1)]⟩:St)) (hpin:=⟨⟨rfl,rfl⟩,trivial⟩)) ?_
 refine gs2 ?_
 obtain⟨x30,hx31,hH⟩:=zB hH
 refine gs4 ?_
 refine AO.g0 T ?_
 refine AO.d1 74 (fun hg=>qJk T rfl rfl rfl rfl) ?_
 refine AO.g0 T ?_
 refine AO.d1 76 (fun hg=>ixs T (hx6)) ?_
 refine AO.g1 T 77 ?_
 refine AO.d1 78 (fun hg=>cVs (qPi _ _ (qEv hx31 hg))) ?_
 refine AO.g2 T 75 79 ?_
 refine gs2 ?_
 refine AW.cH hH (fun _ hH=>?_) (fun _ hH=>?_)
 refine gs5 ?_
 exact qEW
 refine gs2 ?_
 obtain⟨x32,hx33,hH⟩:=zB hH
 refine AW.le (Le.fM 14 (g:=ze0) rfl (fun y=>.vs rfl)) ?_
 refine gs6 ?_
 refine AO.x (qAd (ze7 x32.1 15 16) [(16,ro 1 ze0 x32.1.what),(15,ro 1 ze0 x32.1.no)] 17 (by kernel_rfl) rfl 15 rfl rfl rfl rfl (es:=[.pn (ze9 x),.v (.string x5),.s (x28.1.map ze0)]) (us:=[.u,.u]) (cs:=ze9 x32.1) (ids:=[1,2,3]) (by exact zG (.pb rfl (qA3 rfl rfl)) (zG (.c .v) (zG (.c .s) (zGn)))) (by decide) (by decide) (qJw fl _ _ _ _ (hx33)) rfl rfl (by rfl) rfl) ?_
 refine gs3 ?_
 exact qEW
def qCG (fl:Nat) (x3:((List ByteArray)×Bool)):List ByteArray→Nat→List Element→List Int→Int→Int→Int→Int→List Item→List (List Int)→List (List Int)→Int→Int→Int→Int→List Result→List Int→List Int→Int→ByteArray→Option ((CsState×ByteArray×Bool))
 | [],k5,v65,v66,v67,v68,v69,v70,v71,v72,v73,v74,v75,v76,v77,v78,v79,v80,v81,v82 =>
  some ((CsState.mk (Code.mk v65 v66 v67 v68 v69 v70) (Performance.mk v71 (Marks.mk v72 v73) (Slips.mk v74 v75 v76)) v77 v78 v79 v80 (x3.1.length:Int)),v82,true)
 |y6::ys7,k5,v65,v66,v67,v68,v69,v70,v71,v72,v73,v74,v75,v76,v77,v78,v79,v80,v81,v82 =>
  (qAB fl (CsState.mk (Code.mk v65 v66 v67 v68 v69 v70) (Performance.mk v71 (Marks.mk v72 v73) (Slips.mk v74 v75 v76)) v77 v78 v79 v80 v81) y6).bind fun x84 =>
  cond (decide (x84.2=(⟨#[110,111]⟩:ByteArray)))
   ((qAz (qAh 8 (x84.1.no.length+(([((k5+1:Nat):Int)]:List Int)).length))).bind fun u87 =>
   (qAz (Nat.ble (x84.2.size+(⟨#[10]⟩:ByteArray).size) qEO)).bind fun u89 =>
   (qAz (Nat.ble (v82.size+(x84.2++(⟨#[10]⟩:ByteArray)).size) qEO)).bind fun u91 =>
   qCG fl x3 ys7 (k5+1) x84.1.code.elements x84.1.code.limits x84.1.code.repeats x84.1.code.bonus x84.1.code.keeps x84.1.code.fall x84.1.p.items x84.1.p.marks.grades x84.1.p.marks.components x84.1.p.slips.falls x84.1.p.slips.seconds x84.1.p.slips.other x84.1.factor x84.1.results (x84.1.no++([((k5+1:Nat):Int)]:List Int)) x84.1.what x84.1.lines (v82++(x84.2++(⟨#[10]⟩:ByteArray))))
   (cond (decide (x84.2=(⟨#[119,104,97,116]⟩:ByteArray)))
    ((qAz (qAh 8 (x84.1.what.length+(([((k5+1:Nat):Int)]:List Int)).length))).bind fun u94 =>
    (qAz (Nat.ble (x84.2.size+(⟨#[10]⟩:ByteArray).size) qEO)).bind fun u96 =>
    (qAz (Nat.ble (v82.size+(x84.2++(⟨#[10]⟩:ByteArray)).size) qEO)).bind fun u98 =>
    qCG fl x3 ys7 (k5+1) x84.1.code.elements x84.1.code.limits x84.1.code.repeats x84.1.code.bonus x84.1.code.keeps x84.1.code.fall x84.1.p.items x84.1.p.marks.grades x84.1.p.marks.components x84.1.p.slips.falls x84.1.p.slips.seconds x84.1.p.slips.other x84.1.factor x84.1.results x84.1.no (x84.1.what++([((k5+1:Nat):Int)]:List Int)) x84.1.lines (v82++(x84.2++(⟨#[10]⟩:ByteArray))))
    ((qAz (Nat.ble (x84.2.size+(⟨#[10]⟩:ByteArray).size) qEO)).bind fun u100 =>
    (qAz (Nat.ble (v82.size+(x84.2++(⟨#[10]⟩:ByteArray)).size) qEO)).bind fun u102 =>
    qCG fl x3 ys7 (k5+1) x84.1.code.elements x84.1.code.limits x84.1.code.repeats x84.1.code.bonus x84.1.code.keeps x84.1.code.fall x84.1.p.items x84.1.p.marks.grades x84.1.p.marks.components x84.1.p.slips.falls x84.1.p.slips.seconds x84.1.p.slips.other x84.1.factor x84.1.results x84.1.no x84.1.what x84.1.lines (v82++(x84.2++(⟨#[10]⟩:ByteArray)))))
def qH0 (fl:Nat) (script:ByteArray):Option (CsState×ByteArray×Bool) :=
 (qHr fl ).bind fun x1 =>
 (qFe fl script).bind fun x3 =>
 cond (!x3.2)
  (some (x1,(⟨#[]⟩:ByteArray),false))
  (qCG fl x3 x3.1 0 x1.code.elements x1.code.limits x1.code.repeats x1.code.bonus x1.code.keeps x1.code.fall x1.p.items x1.p.marks.grades x1.p.marks.components x1.p.slips.falls x1.p.slips.seconds x1.p.slips.other x1.factor x1.results x1.no x1.what x1.lines (⟨#[]⟩:ByteArray))
theorem qP7 (fl:Nat) (script:ByteArray) (r:(CsState×ByteArray×Bool)) (hH:qH0 fl script=some r):qAC prog 45 [.v (.string script)] (.t [.pn (ze9 r.1),.v (.string r.2.1),.v (.bool r.2.2)]):=by
 refine fns T func45 ?_
 refine gs7 ?_
 obtain⟨x1,hx2,hH⟩:=zB hH
 refine AW.r (AO.x (qQa (.p 1 0) [(1,.box (ze7 x1 2 3)),(3,ro 1 ze0 x1.what),(2,ro 1 ze0 x1.no)] 4 (by kernel_rfl) rfl 1 rfl rfl rfl rfl (qO4 fl _ (hx2)) rfl rfl rfl) ?_)
 refine gs3 ?_
 obtain⟨x3,hx4,hH⟩:=zB hH
 refine gs2 ?_
 refine AO.w (cVs (qOu fl _ _ (hx4))) ?_
 iterate 12 refine gs ?_
 refine AW.cH hH (fun _ hH=>?_) (fun _ hH=>?_)
 refine gs8 ?_
 have hR:=zS hH;subst hR
 exact retQ.i [1,2,3] rfl (.t (zG (.pb rfl (qA3 rfl rfl)) (zG (.c .v) (zG (.c .v) (zGn)))))
 iterate 13 refine gs ?_
 refine AW.loopS (fun s:Nat×(List Element)×(List Int)×Int×Int×Int×Int×(List Item)×(List (List Int))×(List (List Int))×Int×Int×Int×Int×(List Result)×(List Int)×(List Int)×Int×ByteArray=>(⟨[(5,.p 1 0),(6,sv ze2 x3.1),(8,.v (.string s.2.2.2.2.2.2.2.2.2.2.2.2.2.2.2.2.2.2)),(21,sv ze2 x3.1),(22,(x3.1.length:Int)),(23,(s.1:Int))],[(1,.box [sv ze5 s.2.1,sv ze0 s.2.2.1,s.2.2.2.1,s.2.2.2.2.1,s.2.2.2.2.2.1,s.2.2.2.2.2.2.1,sv ze1 s.2.2.2.2.2.2.2.1,sv ze3 s.2.2.2.2.2.2.2.2.1,sv ze3 s.2.2.2.2.2.2.2.2.2.1,s.2.2.2.2.2.2.2.2.2.2.1,s.2.2.2.2.2.2.2.2.2.2.2.1,s.2.2.2.2.2.2.2.2.2.2.2.2.1,s.2.2.2.2.2.2.2.2.2.2.2.2.2.1,sv ze6 s.2.2.2.2.2.2.2.2.2.2.2.2.2.2.1,.R 2,.R 3,s.2.2.2.2.2.2.2.2.2.2.2.2.2.2.2.2.2.1]),(2,ro 1 ze0 s.2.2.2.2.2.2.2.2.2.2.2.2.2.2.2.1),(3,ro 1 ze0 s.2.2.2.2.2.2.2.2.2.2.2.2.2.2.2.2.1)],70,[]⟩:St)) (fun s=>s.1≤x3.1.length∧qCG fl x3 (x3.1.drop s.1) s.1 s.2.1 s.2.2.1 s.2.2.2.1 s.2.2.2.2.1 s.2.2.2.2.2.1 s.2.2.2.2.2.2.1 s.2.2.2.2.2.2.2.1 s.2.2.2.2.2.2.2.2.1 s.2.2.2.2.2.2.2.2.2.1 s.2.2.2.2.2.2.2.2.2.2.1 s.2.2.2.2.2.2.2.2.2.2.2.1 s.2.2.2.2.2.2.2.2.2.2.2.2.1 s.2.2.2.2.2.2.2.2.2.2.2.2.2.1 s.2.2.2.2.2.2.2.2.2.2.2.2.2.2.1 s.2.2.2.2.2.2.2.2.2.2.2.2.2.2.2.1 s.2.2.2.2.2.2.2.2.2.2.2.2.2.2.2.2.1 s.2.2.2.2.2.2.2.2.2.2.2.2.2.2.2.2.2.1 s.2.2.2.2.2.2.2.2.2.2.2.2.2.2.2.2.2.2=some r) (fun s=>x3.1.length-s.1) (0,x1.code.elements,x1.code.limits,x1.code.repeats,x1.code.bonus,x1.code.keeps,x1.code.fall,x1.p.items,x1.p.marks.grades,x1.p.marks.components,x1.p.slips.falls,x1.p.slips.seconds,x1.p.slips.other,x1.factor,x1.results,x1.no,x1.what,x1.lines,(⟨#[]⟩:ByteArray)) ⟨Nat.zero_le _,hH⟩ ?_ ?_
 exact Le.ct 0 0
 rintro⟨k5,v65,v66,v67,v68,v69,v70,v71,v72,v73,v74,v75,v76,v77,v78,v79,v80,v81,v82⟩ ⟨hk,hH⟩
 try dsimp only at hH⊢
 refine AW.boundM (t:=6) (l:=x3.1) rfl (fun hb9=>?_)
 rcases hd8:x3.1.drop k5 with _|⟨y6,ys7⟩
 rw[hd8,qCG]at hH
 have hlt10:=qAF hd8
 iterate 14 refine gs ?_
 refine AO.se T [sv ze5 v65,sv ze0 v66,v67,v68,v69,v70,sv ze1 v71,sv ze3 v72,sv ze3 v73,v74,v75,v76,v77,sv ze6 v78,.R 2,.R 3,(x3.1.length:Int)] ?_
 iterate 10 refine gs ?_
 have hR:=zS hH;subst hR
 exact retQ.i [1,2,3] rfl (.t (zG (.pb rfl (qA3 rfl rfl)) (zG (.c .v) (zG (.c .v) (zGn)))))
 rw[hd8,qCG]at hH
 have hlt10:=qAG hd8
 iterate 18 refine gs ?_
 obtain⟨x84,hx85,hH⟩:=zB hH
 refine gs3 ?_
 refine AO.x (qAd (ze7 x84.1 16 17) [(17,ro 1 ze0 x84.1.what),(16,ro 1 ze0 x84.1.no)] 18 (by kernel_rfl) rfl 16 rfl rfl rfl rfl (es:=[.pn (ze9 (CsState.mk (Code.mk v65 v66 v67 v68 v69 v70) (Performance.mk v71 (Marks.mk v72 v73) (Slips.mk v74 v75 v76)) v77 v78 v79 v80 v81)),.v (.string y6)]) (us:=[.u]) (cs:=ze9 x84.1) (ids:=[1,2,3]) (by exact zG (.pb rfl (qA3 rfl rfl)) (zG (.c .v) (zGn))) (by decide) (by decide) (qLb fl _ _ _ (hx85)) rfl rfl (by rfl) rfl) ?_
 iterate 13 refine gs ?_
 refine AW.cH hH (fun _ hH=>?_) (fun _ hH=>?_)
 obtain⟨u87,hx88,hH⟩:=zB hH
 refine gs8 ?_
 refine AO.x (mks T 18 ze0 (([((k5+1:Nat):Int)]:List Int))) ?_
 refine AO.x (rvs T 19 (hfit:=by exact qAS (hx88))) ?_
 refine gs2 ?_
 refine AO.se T [sv ze5 x84.1.code.elements,sv ze0 x84.1.code.limits,x84.1.code.repeats,x84.1.code.bonus,x84.1.code.keeps,x84.1.code.fall,sv ze1 x84.1.p.items,sv ze3 x84.1.p.marks.grades,sv ze3 x84.1.p.marks.components,x84.1.p.slips.falls,x84.1.p.slips.seconds,x84.1.p.slips.other,x84.1.factor,sv ze6 x84.1.results,.R 19,.R 17,x84.1.lines] ?_
 refine AO.n (AW.le (Le.ct 0 0 (σ':=(⟨[(5,.p 1 0),(6,sv ze2 x3.1),(8,.v (.string v82)),(11,.v (.string x84.2)),(21,sv ze2 x3.1),(22,(x3.1.length:Int)),(23,(k5:Int))],[(1,.box (ze7 x84.1 19 17)),(17,ro 1 ze0 x84.1.what),(19,ro 1 ze0 (x84.1.no++([((k5+1:Nat):Int)]:List Int)))],70,[]⟩:St))) ?_)
 obtain⟨u89,hx90,u91,hx92,hH⟩:=qAI hH
 refine gs3 ?_
 refine AO.w (qB1 rfl rfl rfl (Nat.le_of_ble_eq_true (qAS (hx90)))) ?_
 refine AO.w (qB1 rfl rfl rfl (Nat.le_of_ble_eq_true (qAS (hx92)))) ?_
 refine gs6 ?_
 refine⟨(k5+1,x84.1.code.elements,x84.1.code.limits,x84.1.code.repeats,x84.1.code.bonus,x84.1.code.keeps,x84.1.code.fall,x84.1.p.items,x84.1.p.marks.grades,x84.1.p.marks.components,x84.1.p.slips.falls,x84.1.p.slips.seconds,x84.1.p.slips.other,x84.1.factor,x84.1.results,(x84.1.no++([((k5+1:Nat):Int)]:List Int)),x84.1.what,x84.1.lines,(v82++(x84.2++(⟨#[10]⟩:ByteArray)))),⟨hlt10,(zds hd8▸hH)⟩,qCC hlt10,?_⟩
 refine Le.trans (Le.ct 19 2 (σ':=(⟨[(5,.p 1 0),(6,sv ze2 x3.1),(8,.v (.string (v82++(x84.2++(⟨#[10]⟩:ByteArray))))),(21,sv ze2 x3.1),(22,(x3.1.length:Int)),(23,((k5+1:Nat):Int))],[(1,.box (ze7 x84.1 2 17)),(2,ro 1 ze0 (x84.1.no++([((k5+1:Nat):Int)]:List Int))),(17,ro 1 ze0 x84.1.what)],70,[]⟩:St))) ?_
 exact Le.ct 17 3
 refine gs5 ?_
 refine AW.cH hH (fun _ hH=>?_) (fun _ hH=>?_)
 obtain⟨u94,hx95,hH⟩:=zB hH
 refine gs8 ?_
 refine AO.x (mks T 20 ze0 (([((k5+1:Nat):Int)]:List Int))) ?_
 refine AO.x (rvs T 21 (hfit:=by exact qAS (hx95))) ?_
 refine gs2 ?_
 refine AO.se T [sv ze5 x84.1.code.elements,sv ze0 x84.1.code.limits,x84.1.code.repeats,x84.1.code.bonus,x84.1.code.keeps,x84.1.code.fall,sv ze1 x84.1.p.items,sv ze3 x84.1.p.marks.grades,sv ze3 x84.1.p.marks.components,x84.1.p.slips.falls,x84.1.p.slips.seconds,x84.1.p.slips.other,x84.1.factor,sv ze6 x84.1.results,.R 16,.R 21,x84.1.lines] ?_
 refine AO.n (AW.le (Le.ct 0 0 (σ':=(⟨[(5,.p 1 0),(6,sv ze2 x3.1),(8,.v (.string v82)),(11,.v (.string x84.2)),(21,sv ze2 x3.1),(22,(x3.1.length:Int)),(23,(k5:Int))],[(1,.box (ze7 x84.1 16 21)),(16,ro 1 ze0 x84.1.no),(21,ro 1 ze0 (x84.1.what++([((k5+1:Nat):Int)]:List Int)))],70,[]⟩:St))) ?_)
 obtain⟨u96,hx97,u98,hx99,hH⟩:=qAI hH
 refine gs3 ?_
 refine AO.w (qB1 rfl rfl rfl (Nat.le_of_ble_eq_true (qAS (hx97)))) ?_
 refine AO.w (qB1 rfl rfl rfl (Nat.le_of_ble_eq_true (qAS (hx99)))) ?_
 refine gs6 ?_
 refine⟨(k5+1,x84.1.code.elements,x84.1.code.limits,x84.1.code.repeats,x84.1.code.bonus,x84.1.code.keeps,x84.1.code.fall,x84.1.p.items,x84.1.p.marks.grades,x84.1.p.marks.components,x84.1.p.slips.falls,x84.1.p.slips.seconds,x84.1.p.slips.other,x84.1.factor,x84.1.results,x84.1.no,(x84.1.what++([((k5+1:Nat):Int)]:List Int)),x84.1.lines,(v82++(x84.2++(⟨#[10]⟩:ByteArray)))),⟨hlt10,(zds hd8▸hH)⟩,qCC hlt10,?_⟩
 refine Le.trans (Le.ct 16 2 (σ':=(⟨[(5,.p 1 0),(6,sv ze2 x3.1),(8,.v (.string (v82++(x84.2++(⟨#[10]⟩:ByteArray))))),(21,sv ze2 x3.1),(22,(x3.1.length:Int)),(23,((k5+1:Nat):Int))],[(1,.box (ze7 x84.1 2 21)),(2,ro 1 ze0 x84.1.no),(21,ro 1 ze0 (x84.1.what++([((k5+1:Nat):Int)]:List Int)))],70,[]⟩:St))) ?_
 exact Le.ct 21 3
 refine AW.k ?_
 obtain⟨u100,hx101,u102,hx103,hH⟩:=qAI hH
 refine gs3 ?_
 refine AO.w (qB1 rfl rfl rfl (Nat.le_of_ble_eq_true (qAS (hx101)))) ?_
 refine AO.w (qB1 rfl rfl rfl (Nat.le_of_ble_eq_true (qAS (hx103)))) ?_
 refine gs6 ?_
 refine⟨(k5+1,x84.1.code.elements,x84.1.code.limits,x84.1.code.repeats,x84.1.code.bonus,x84.1.code.keeps,x84.1.code.fall,x84.1.p.items,x84.1.p.marks.grades,x84.1.p.marks.components,x84.1.p.slips.falls,x84.1.p.slips.seconds,x84.1.p.slips.other,x84.1.factor,x84.1.results,x84.1.no,x84.1.what,x84.1.lines,(v82++(x84.2++(⟨#[10]⟩:ByteArray)))),⟨hlt10,(zds hd8▸hH)⟩,qCC hlt10,?_⟩
 refine Le.trans (Le.ct 16 2 (σ':=(⟨[(5,.p 1 0),(6,sv ze2 x3.1),(8,.v (.string (v82++(x84.2++(⟨#[10]⟩:ByteArray))))),(21,sv ze2 x3.1),(22,(x3.1.length:Int)),(23,((k5+1:Nat):Int))],[(1,.box (ze7 x84.1 2 17)),(2,ro 1 ze0 x84.1.no),(17,ro 1 ze0 x84.1.what)],70,[]⟩:St))) ?_
 exact Le.ct 17 3
def qGM (fl:Nat) (script:ByteArray):Option ((List Result)×Bool) :=
 (qH0 fl script).bind fun x1 =>
 cond (!x1.2.2)
  (some ([],false))
  (some (x1.1.results,true))
theorem qKo (fl:Nat) (script:ByteArray) (r:((List Result)×Bool)) (hH:qGM fl script=some r):qAC prog 19 [.v (.string script)] (.t [.s (r.1.map ze6),.v (.bool r.2)]):=by
 refine fns T func19 ?_
 refine go ?_
 obtain⟨x1,hx2,hH⟩:=zB hH
 refine go ?_
 refine AO.x (qQa (.t [.p 1 0,.v (.string x1.2.1),.v (.bool x1.2.2)]) [(1,.box (ze7 x1.1 2 3)),(3,ro 1 ze0 x1.1.what),(2,ro 1 ze0 x1.1.no)] 4 (by kernel_rfl) rfl 1 rfl rfl rfl rfl (qP7 fl _ _ (hx2)) rfl rfl rfl) (go ?_)
 refine AW.cH hH (fun _ hH=>?_) (fun _ hH=>?_)
 refine go ?_
 exact fin
 refine go ?_
 exact fin
def qB2 (s:ByteArray) (sep:ByteArray):Option (List ByteArray):=(qAz (Nat.blt s.size 4294967281&&Nat.blt 0 sep.size)).bind fun _=>some (qH2 s sep)
theorem qH5 (s:ByteArray) (sep:ByteArray) (r:List ByteArray) (hH:qB2 s sep=some r):qAC prog 113 [.v (.string s),.v (.string sep)] (.w 1 (r.map ze2)):=by
 obtain⟨u,hu,hr⟩:=zB hH
 cases zS hr
 exact qSg ⟨_,func113,rfl,by decide⟩ (fun s sep w hG h1 h2=>let ⟨m,hm⟩:=qW7 hG;Tryz.strings_Split s sep m w h1 hm h2) (fun _=>rfl) s sep (qAS hu)
def qGa (sA:ByteArray):Option ((List ByteArray)×Bool) :=
 cond (decide (sA=(⟨#[]⟩:ByteArray)))
  (some ([],true))
  ((qNk sA (w64 ((sA.size:Int)-1))).bind fun b2 =>
  cond ((b2.toNat:Int) != 10)
   (some ([],false))
   ((qAz (inB 0 (w64 ((sA.size:Int)-1)) sA.size)).bind fun u4 =>
   (qB2 (ByteArray.extract sA 0 (w64 ((sA.size:Int)-1)).toNat) (⟨#[10]⟩:ByteArray)).bind fun x6 =>
   some (x6,true)))
theorem qOk (sA:ByteArray) (r:((List ByteArray)×Bool)) (hH:qGa sA=some r):qAC prog 91 [.v (.string sA)] (.t [.w 1 (r.1.map ze2),.v (.bool r.2)]):=by
 refine fns T func91 ?_
 refine go ?_
 refine AW.cH hH (fun _ hH=>?_) (fun _ hH=>?_)
 refine go ?_
 refine AO.x (qGG T rfl rfl rfl rfl) (go ?_)
 exact fin
 refine go ?_
 obtain⟨b2,hx3,hH⟩:=zB hH
 refine go ?_
 refine AO.w (qBL T rfl rfl rfl rfl (hx3)) (go ?_)
 refine AW.cH hH (fun _ hH=>?_) (fun _ hH=>?_)
 refine go ?_
 exact fin
 refine go ?_
 obtain⟨u4,hx5,x6,hx7,hH⟩:=qAI hH
 refine go ?_
 refine AO.w (qGw T rfl rfl rfl rfl (qAS (hx5))) ?_
 refine AO.x (qAU rfl 1 rfl rfl rfl (qH5 _ _ _ (hx7)) rfl rfl rfl) (go ?_)
 exact fin
def qCe (script:ByteArray):Option ((List ByteArray)×Bool) :=
 (qGa script).bind fun x1 =>
 cond (((!x1.2)||decide ((script.size:Int)>2000))||decide ((x1.1.length:Int)>40))
  (some ([],false))
  (some (x1.1,true))
theorem qMF (script:ByteArray) (r:((List ByteArray)×Bool)) (hH:qCe script=some r):qAC prog 66 [.v (.string script)] (.t [.w 1 (r.1.map ze2),.v (.bool r.2)]):=by
 refine fns T func66 ?_
 refine go ?_
 obtain⟨x1,hx2,hH⟩:=zB hH
 refine go ?_
 refine AO.x (qAU rfl 1 rfl rfl rfl (qOk _ _ (hx2)) rfl rfl rfl) (go ?_)
 refine AO.g0 T ?_
 refine AO.g1 T 14 ?_
 refine AO.g1 T 15 ?_
 refine go ?_
 refine AO.g0 T ?_
 refine AO.d1 19 (fun hg=>qJk T rfl rfl rfl rfl) ?_
 refine AO.g1 T 20 ?_
 refine go ?_
 refine AW.cH hH (fun _ hH=>?_) (fun _ hH=>?_)
 refine go ?_
 exact fin
 refine gs7 ?_
 refine AW.le (Le.ct 0 0 (σ':=(⟨[(2,.R 1),(3,.v (.bool true))],[(1,ro 1 ze2 x1.1)],24,[]⟩:St))) ?_
 refine AW.t ?_
 exact fin
def qBt (judges:Int) (v12:List (List Int)):Nat→List (List Int)→Int→Option Marks
 |0,_,_=>none
 |k19+1,v30,v31 =>
  cond (decide (v31<3))
   ((qAz (decide (0≤judges)&&qAh 8 judges.toNat)).bind fun u33 =>
   (qAz (qAh 24 (v30.length+([(List.replicate judges.toNat (0:Int))]).length))).bind fun u35 =>
   qBt judges v12 k19 (v30++[(List.replicate judges.toNat (0:Int))]) (w64 (v31+1)))
   (some (Marks.mk v12 v30))
def qCb (items:Int) (judges:Int) (fl:Nat):Nat→List (List Int)→Int→Option Marks
 |0,_,_=>none
 |k1+1,v12,v13 =>
  cond (decide (v13<items))
   ((qAz (decide (0≤judges)&&qAh 8 judges.toNat)).bind fun u15 =>
   (qAz (qAh 24 (v12.length+([(List.replicate judges.toNat (0:Int))]).length))).bind fun u17 =>
   qCb items judges fl k1 (v12++[(List.replicate judges.toNat (0:Int))]) (w64 (v13+1)))
   (qBt judges v12 fl [] 0)
def qC5 (fl:Nat) (items:Int) (judges:Int):Option Marks :=
 qCb items judges fl fl [] 0
theorem qJF (fl:Nat) (items:Int) (judges:Int) (r:Marks) (hH:qC5 fl items judges=some r):qAC prog 110 [items,judges] (.g (qIq r)):=by
 refine fns T func110 ?_
 refine go ?_
 refine AO.x (als T 1) (go ?_)
 refine AO.x (qGG T rfl rfl rfl rfl) ?_
 refine AO.x (qGG T rfl rfl rfl rfl) (go ?_)
 refine AO.x (als T 2) ?_
 refine AO.se T [.w 1 [],.w 1 []] ?_
 refine go ?_
 refine AW.loopS (fun s:Nat×(List (List Int))×Int=>(⟨[(1,judges),(4,.p 1 0),(5,.p 2 0),(9,items),(10,s.2.2)],[(1,.box [.w 0 [],.w 0 []]),(2,.box [.R 8,.w 1 []]),(8,ro 1 ze8 s.2.1)],31,[]⟩:St)) (fun s=>qCb items judges fl s.1 s.2.1 s.2.2=some r) (fun s=>s.1) (fl,[],0) hH ?_ ?_
 refine Le.trans (Le.voidBox 2 0 8 1 rfl rfl rfl rfl) ?_
 exact Le.ct 0 0
 rintro⟨k1,v12,v13⟩ hH
 try dsimp only at hH⊢
 rcases k1 with _|k1
 cases (show none=some _ from hH)
 rw[qCb]at hH
 refine go ?_
 refine AW.cH hH (fun _ hH=>?_) (fun hc hH=>?_)
 refine go ?_
 obtain⟨u15,hx16,u17,hx18,hH⟩:=qAI hH
 refine AW.drawn 5 9 [] mix (by kernel_rfl) rfl ?_
 refine go ?_
 refine AD.q (FStep.make T rfl rfl rfl rfl rfl rfl rfl (f:=ze0) (zo:=0) (by repeat constructor) (by decide) rfl rfl (Bool.and_eq_true_iff.1 (qAS (hx16))).1 (Bool.and_eq_true_iff.1 (qAS (hx16))).2 rfl) (by simp[qAu]) (Nat.le_succ _) rfl ?_
 refine AD.kk (FStep.mk_o T rfl rfl rfl rfl rfl rfl rfl rfl (f:=ze8) (l:=[(List.replicate judges.toNat (0:Int))]) (ids:=[9]) rfl rfl (fun _=>rfl) (by exact zC (.rowR rfl) (zCn)) (by decide) rfl rfl rfl rfl) ?_
 refine AD.nil (AO.x (qE2 T rfl 11 rfl rfl rfl rfl rfl (by decide) rfl rfl rfl rfl rfl (qAS (hx18)) rfl rfl) ?_)
 refine AO.pu T ?_
 refine AO.se T [.R 11,.w 1 []] ?_
 refine go ?_
 refine⟨(k1,(v12++[(List.replicate judges.toNat (0:Int))]),w64 (v13+1)),hH,Nat.lt_succ_self _,?_⟩
 exact Le.ct 11 8
 refine go ?_
 refine AW.loopS (fun s:Nat×(List (List Int))×Int=>(⟨[(1,judges),(4,.p 1 0),(5,.p 2 0),(20,s.2.2)],[(1,.box [.w 0 [],.w 0 []]),(2,.box [.R 8,.R 17]),(8,ro 1 ze8 v12),(17,ro 1 ze8 s.2.1)],31,[]⟩:St)) (fun s=>qBt judges v12 s.1 s.2.1 s.2.2=some r) (fun s=>s.1) (fl,[],0) hH ?_ ?_
 refine Le.trans (Le.voidBox 2 1 17 1 rfl rfl rfl rfl) ?_
 exact Le.ct 0 0
 rintro⟨k19,v30,v31⟩ hH
 try dsimp only at hH⊢
 rcases k19 with _|k19
 cases (show none=some _ from hH)
 rw[qBt]at hH
 refine go ?_
 refine AW.cH hH (fun _ hH=>?_) (fun _ hH=>?_)
 refine go ?_
 obtain⟨u33,hx34,u35,hx36,hH⟩:=qAI hH
 refine AW.drawn 5 18 [] mix (by kernel_rfl) rfl ?_
 refine go ?_
 refine AD.q (FStep.make T rfl rfl rfl rfl rfl rfl rfl (f:=ze0) (zo:=0) (by repeat constructor) (by decide) rfl rfl (Bool.and_eq_true_iff.1 (qAS (hx34))).1 (Bool.and_eq_true_iff.1 (qAS (hx34))).2 rfl) (by simp[qAu]) (Nat.le_succ _) rfl ?_
 refine AD.kk (FStep.mk_o T rfl rfl rfl rfl rfl rfl rfl rfl (f:=ze8) (l:=[(List.replicate judges.toNat (0:Int))]) (ids:=[18]) rfl rfl (fun _=>rfl) (by exact zC (.rowR rfl) (zCn)) (by decide) rfl rfl rfl rfl) ?_
 refine AD.nil (AO.x (qE2 T rfl 20 rfl rfl rfl rfl rfl (by decide) rfl rfl rfl rfl rfl (qAS (hx36)) rfl rfl) ?_)
 refine AO.pu T ?_
 refine AO.se T [.R 8,.R 20] ?_
 refine go ?_
 refine⟨(k19,(v30++[(List.replicate judges.toNat (0:Int))]),w64 (v31+1)),hH,Nat.lt_succ_self _,?_⟩
 exact Le.ct 20 17
 refine go ?_
 refine AO.se T [.R 8,.R 17] ?_
 refine go ?_
 exact fin
def qHU (fl:Nat):Option ScriptState :=
 (qC5 fl 0 3).bind fun x1 =>
 some (ScriptState.mk (Code.mk [(Element.mk (⟨#[51,65]⟩:ByteArray) 0 0 800)] ([7,7,7,7,7]:List Int) 2 10 80 100) (Performance.mk [] x1 (Slips.mk 0 0 0)) 100 [])
theorem qOB (fl:Nat) (r:ScriptState) (hH:qHU fl=some r):qAC prog 75 [] (.pn (qHp r)):=by
 refine fns T func75 ?_
 refine go ?_
 refine AO.x (mks T 1 ze5 ([(Element.mk (⟨#[51,65]⟩:ByteArray) 0 0 800)])) ?_
 refine AO.x (mks T 2 ze0 (([7,7,7,7,7]:List Int))) (go ?_)
 refine AO.x (als T 3) ?_
 refine AO.se T [.R 1,.R 2,(2:Int),(10:Int),(80:Int),(100:Int)] ?_
 refine go ?_
 obtain⟨x1,hx2,hH⟩:=zB hH
 refine AW.drawn 5 4 [] mix (by kernel_rfl) rfl ?_
 refine go ?_
 refine AD.v (FStep.mk0 T rfl rfl rfl rfl rfl) ?_
 refine AD.q (FStep.call rfl rfl rfl rfl rfl (qJF fl _ _ _ (hx2)) rfl rfl) (qBF _ _) (qDh _ _) rfl ?_
 refine AD.pured T (d:=.g [.w 3 [],.R 4,.R 5,(0:Int),(0:Int),(0:Int)]) rfl rfl rfl rfl ?_
 refine AD.v (FStep.mk0 T rfl rfl rfl rfl rfl) ?_
 refine go ?_
 refine AO.x (bxs T 6) ?_
 refine gs2 ?_
 refine AW.le (Le.nilSBox 6 6 rfl rfl) ?_
 refine AW.le (Le.fM 5 (g:=ze3) rfl (fun y=>qAl y)) ?_
 refine AW.le (Le.fM 4 (g:=ze3) rfl (fun y=>qAl y)) ?_
 refine AW.le (Le.fM 2 (g:=ze0) rfl (fun y=>.vs rfl)) ?_
 refine AW.le (Le.fM 1 (g:=ze5) rfl (fun y=>.vs rfl)) ?_
 refine AW.t ?_
 have hR:=zS hH;subst hR
 exact retQ.i [6] rfl (.c (.pb rfl (zC .s (zC .s (zC .v (zC .v (zC .v (zC .v (zC .s (zC .s (zC .s (zC .v (zC .v (zC .v (zC .v (zC .nil (zCn)))))))))))))))))
def qFR (sA:ByteArray) (prefixA:ByteArray):Option Bool :=
 (opt (decide ((sA.size:Int)≥(prefixA.size:Int))) default (qAz (inB 0 (prefixA.size:Int) sA.size))).bind fun u1 =>
 some (decide ((sA.size:Int)≥(prefixA.size:Int))&&decide ((ByteArray.extract sA 0 (prefixA.size:Int).toNat)=prefixA))
theorem qJp (sA:ByteArray) (prefixA:ByteArray) (r:Bool) (hH:qFR sA prefixA=some r):qAC prog 216 [.v (.string sA),.v (.string prefixA)] (.v (.bool r)):=by
 refine fns T func216 ?_
 refine go ?_
 obtain⟨u1,hx2,hH⟩:=zB hH
 refine go ?_
 refine AO.g0 T ?_
 refine AO.g0 T ?_
 refine AO.g1 T 12 ?_
 refine AO.d2 11 13 (fun hg=>qGw T rfl rfl rfl rfl (qAS (qEv hx2 hg))) ?_
 refine AO.g0 T ?_
 refine AO.g2 T 14 15 ?_
 refine go ?_
 exact fin
def qFH (sA:ByteArray) (prefixA:ByteArray):Option (ByteArray×Bool) :=
 (qFR sA prefixA).bind fun x1 =>
 cond (!x1)
  (some (sA,false))
  ((qAz (inB (prefixA.size:Int) sA.size sA.size)).bind fun u3 =>
  some ((ByteArray.extract sA (prefixA.size:Int).toNat sA.size),true))
theorem qJf (sA:ByteArray) (prefixA:ByteArray) (r:(ByteArray×Bool)) (hH:qFH sA prefixA=some r):qAC prog 151 [.v (.string sA),.v (.string prefixA)] (.t [.v (.string r.1),.v (.bool r.2)]):=by
 refine fns T func151 ?_
 refine go ?_
 obtain⟨x1,hx2,hH⟩:=zB hH
 refine go ?_
 refine AO.w (cVs (qJp _ _ _ (hx2))) (go ?_)
 refine AW.cH hH (fun _ hH=>?_) (fun _ hH=>?_)
 refine go ?_
 exact fin
 refine go ?_
 obtain⟨u3,hx4,hH⟩:=zB hH
 refine go ?_
 refine AO.w (qFB T rfl rfl rfl rfl (qAS (hx4))) (go ?_)
 exact fin
def qBf (sA:ByteArray) (prefixA:ByteArray):Option (ByteArray×Bool) :=
 (qFH sA prefixA).bind fun x1 =>
 some (x1.1,x1.2)
theorem qII (sA:ByteArray) (prefixA:ByteArray) (r:(ByteArray×Bool)) (hH:qBf sA prefixA=some r):qAC prog 111 [.v (.string sA),.v (.string prefixA)] (.t [.v (.string r.1),.v (.bool r.2)]):=by
 refine fns T func111 ?_
 refine go ?_
 obtain⟨x1,hx2,hH⟩:=zB hH
 refine go ?_
 refine AO.w (cVs (qJf _ _ _ (hx2))) (go ?_)
 exact fin
def qFL (sA:ByteArray) (suffix:ByteArray):Option Bool :=
 (opt (decide ((sA.size:Int)≥(suffix.size:Int))) default (qAz (inB (w64 ((sA.size:Int)-(suffix.size:Int))) sA.size sA.size))).bind fun u1 =>
 some (decide ((sA.size:Int)≥(suffix.size:Int))&&decide ((ByteArray.extract sA (w64 ((sA.size:Int)-(suffix.size:Int))).toNat sA.size)=suffix))
theorem qJs (sA:ByteArray) (suffix:ByteArray) (r:Bool) (hH:qFL sA suffix=some r):qAC prog 316 [.v (.string sA),.v (.string suffix)] (.v (.bool r)):=by
 refine fns T func316 ?_
 refine go ?_
 obtain⟨u1,hx2,hH⟩:=zB hH
 refine go ?_
 refine AO.g0 T ?_
 refine AO.g0 T ?_
 refine AO.g1 T 12 ?_
 refine AO.g0 T ?_
 refine AO.g1 T 14 ?_
 refine AO.d2 13 15 (fun hg=>aws) ?_
 refine AO.d2 11 16 (fun hg=>qFB T rfl rfl rfl rfl (qAS (qEv hx2 hg))) ?_
 refine AO.g0 T ?_
 refine AO.g2 T 17 18 ?_
 refine go ?_
 exact fin
def qFP (sA:ByteArray) (suffix:ByteArray):Option (ByteArray×Bool) :=
 (qFL sA suffix).bind fun x1 =>
 cond (!x1)
  (some (sA,false))
  ((qAz (inB 0 (w64 ((sA.size:Int)-(suffix.size:Int))) sA.size)).bind fun u3 =>
  some ((ByteArray.extract sA 0 (w64 ((sA.size:Int)-(suffix.size:Int))).toNat),true))
theorem qJh (sA:ByteArray) (suffix:ByteArray) (r:(ByteArray×Bool)) (hH:qFP sA suffix=some r):qAC prog 270 [.v (.string sA),.v (.string suffix)] (.t [.v (.string r.1),.v (.bool r.2)]):=by
 refine fns T func270 ?_
 refine go ?_
 obtain⟨x1,hx2,hH⟩:=zB hH
 refine go ?_
 refine AO.w (cVs (qJs _ _ _ (hx2))) (go ?_)
 refine AW.cH hH (fun _ hH=>?_) (fun _ hH=>?_)
 refine go ?_
 exact fin
 refine go ?_
 obtain⟨u3,hx4,hH⟩:=zB hH
 refine go ?_
 refine AO.w (qGw T rfl rfl rfl rfl (qAS (hx4))) (go ?_)
 exact fin
def qC6 (sA:ByteArray) (suffix:ByteArray):Option (ByteArray×Bool) :=
 (qFP sA suffix).bind fun x1 =>
 some (x1.1,x1.2)
theorem qIJ (sA:ByteArray) (suffix:ByteArray) (r:(ByteArray×Bool)) (hH:qC6 sA suffix=some r):qAC prog 217 [.v (.string sA),.v (.string suffix)] (.t [.v (.string r.1),.v (.bool r.2)]):=by
 refine fns T func217 ?_
 refine go ?_
 obtain⟨x1,hx2,hH⟩:=zB hH
 refine go ?_
 refine AO.w (cVs (qJh _ _ _ (hx2))) (go ?_)
 exact fin
def qAN (n:Int) (low:Int) (high:Int):Option Bool :=
 some (decide (n≥low)&&decide (n≤high))
theorem qAP (n:Int) (low:Int) (high:Int) (r:Bool) (hH:qAN n low high=some r):qAC prog 95 [n,low,high] (.v (.bool r)):=by
 refine fns T func95 ?_
 refine go ?_
 refine AO.g0 T ?_
 refine AO.g0 T ?_
 refine AO.g2 T 11 12 ?_
 refine go ?_
 exact fin
def qAs (sA:ByteArray):Nat→Int→Option Bool
 |0,_=>none
 |k1+1,v7 =>
  cond (decide (v7<(sA.size:Int)))
   ((qNk sA v7).bind fun b9 =>
   cond ((decide ((b9.toNat:Int)<65)||decide ((b9.toNat:Int)>90))&&(decide ((b9.toNat:Int)<48)||decide ((b9.toNat:Int)>57)))
    (some false)
    (qAs sA k1 (w64 (v7+1))))
   ((qAN (sA.size:Int) 1 5).bind fun x11 =>
   some x11)
def qDj (fl:Nat) (sA:ByteArray):Option Bool :=
 qAs sA fl 0
theorem qHv (fl:Nat) (sA:ByteArray) (r:Bool) (hH:qDj fl sA=some r):qAC prog 97 [.v (.string sA)] (.v (.bool r)):=by
 refine fns T func97 ?_
 refine go ?_
 refine AW.loopS (fun s:Nat×Int=>(⟨[(0,.v (.string sA)),(3,s.2)],[],35,[]⟩:St)) (fun s=>qAs sA s.1 s.2=some r) (fun s=>s.1) (fl,0) hH ?_ ?_
 exact Le.ct 0 0
 rintro⟨k1,v7⟩ hH
 try dsimp only at hH⊢
 rcases k1 with _|k1
 cases (show none=some _ from hH)
 rw[qAs]at hH
 refine go ?_
 refine AW.cH hH (fun hc hH=>?_) (fun _ hH=>?_)
 refine go ?_
 obtain⟨b9,hx10,hH⟩:=zB hH
 refine go ?_
 refine AO.w (qBL T rfl rfl rfl rfl (hx10)) (go ?_)
 refine AO.g0 T ?_
 refine AO.g0 T ?_
 refine AO.d2 15 16 (fun hg=>qBL T rfl rfl rfl rfl (hx10)) ?_
 refine AO.g1 T 17 ?_
 refine go ?_
 refine AO.g0 T ?_
 refine AO.g0 T ?_
 refine AO.d2 21 22 (fun hg=>qBL T rfl rfl rfl rfl (hx10)) ?_
 refine AO.g1 T 23 ?_
 refine AO.g1 T 24 ?_
 refine AO.g0 T ?_
 refine AO.g0 T ?_
 refine AO.d2 26 27 (fun hg=>qBL T rfl rfl rfl rfl (hx10)) ?_
 refine AO.g1 T 28 ?_
 refine AO.d [25] rfl ⟨fun h=>h,trivial⟩ (fun hg=>zO rfl rfl rfl (by rw[hg];exact Bool.true_and _)) rfl ?_
 refine gs2 ?_
 refine AW.le (Le.ct 0 0 (σ':=(⟨[(0,.v (.string sA)),(3,v7),(31,.v (.bool ((decide ((b9.toNat:Int)<65)||decide ((b9.toNat:Int)>90))&&(decide ((b9.toNat:Int)<48)||decide ((b9.toNat:Int)>57)))))],[],35,[]⟩:St))) ?_
 refine AW.cH hH (fun _ hH=>?_) (fun hc hH=>?_)
 refine go ?_
 exact fin
 refine go ?_
 refine⟨(k1,w64 (v7+1)),hH,Nat.lt_succ_self _,?_⟩
 exact Le.ct 0 0
 refine go ?_
 obtain⟨x11,hx12,hH⟩:=zB hH
 refine go ?_
 refine AO.w (cVs (qAP _ _ _ _ (hx12))) (go ?_)
 exact fin
def qIZ (fl:Nat) (sA:ByteArray):Option Bool :=
 (qDj fl sA).bind fun x1 =>
 some x1
theorem qPZ (fl:Nat) (sA:ByteArray) (r:Bool) (hH:qIZ fl sA=some r):qAC prog 245 [.v (.string sA)] (.v (.bool r)):=by
 refine fns T func245 ?_
 refine go ?_
 obtain⟨x1,hx2,hH⟩:=zB hH
 refine go ?_
 refine AO.w (cVs (qHv fl _ _ (hx2))) (go ?_)
 exact fin
def qCS (low:Int) (high:Int):List Int→Nat→Option Bool
 | [],k1 =>
  some true
 |y2::ys3,k1 =>
  (qAN y2 low high).bind fun x12 =>
  cond (!x12)
   (some false)
   (qCS low high ys3 (k1+1))
def qCE (l:List Int) (low:Int) (high:Int):Option Bool :=
 qCS low high l 0
theorem qGD (l:List Int) (low:Int) (high:Int) (r:Bool) (hH:qCE l low high=some r):qAC prog 96 [.s (List.map ze0 l),low,high] (.v (.bool r)):=by
 refine fns T func96 ?_
 refine go ?_
 refine AW.loopS (fun s:Nat=>(⟨[(1,low),(2,high),(9,sv ze0 l),(10,(l.length:Int)),(11,(s:Int))],[],21,[]⟩:St)) (fun s=>s≤l.length∧qCS low high (l.drop s) s=some r) (fun s=>l.length-s) 0 ⟨Nat.zero_le _,hH⟩ ?_ ?_
 exact Le.ct 0 0
 rintro k1 ⟨hk,hH⟩
 try dsimp only at hH⊢
 refine AW.boundM (t:=9) (l:=l) rfl (fun hb5=>?_)
 rcases hd4:l.drop k1 with _|⟨y2,ys3⟩
 rw[hd4,qCS]at hH
 have hlt6:=qAF hd4
 refine go ?_
 exact fin
 rw[hd4,qCS]at hH
 have hlt6:=qAG hd4
 refine go ?_
 obtain⟨x12,hx13,hH⟩:=zB hH
 refine go ?_
 refine AO.w (cVs (qAP _ _ _ _ (hx13))) (go ?_)
 refine AW.cH hH (fun _ hH=>?_) (fun _ hH=>?_)
 refine go ?_
 exact fin
 refine go ?_
 refine⟨k1+1,⟨hlt6,(zds hd4▸hH)⟩,qCC hlt6,?_⟩
 exact Le.ct 0 0
def qDs (it:Item) (fl:Nat):List ByteArray→Nat→Option Bool
 | [],k1 =>
  (qAN (it.names.length:Int) 1 3).bind fun x12 =>
  (opt (x12&&((it.marks.length:Int)==(it.names.length:Int))) default (qCE it.marks 0 3)).bind fun x14 =>
  some ((x12&&((it.marks.length:Int)==(it.names.length:Int)))&&x14)
 |y2::ys3,k1 =>
  (qIZ fl y2).bind fun x16 =>
  cond (!x16)
   (some false)
   (qDs it fl ys3 (k1+1))
def qF9 (fl:Nat) (it:Item):Option Bool :=
 qDs it fl it.names 0
theorem qLo (fl:Nat) (it:Item) (r:Bool) (hH:qF9 fl it=some r):qAC prog 183 [.g (ze1 it)] (.v (.bool r)):=by
 refine fns T func183 ?_
 refine go ?_
 refine AO.x (bxs T 1) (go ?_)
 refine AW.loopS (fun s:Nat=>(⟨[(1,.p 1 0),(6,sv ze2 it.names),(7,(it.names.length:Int)),(8,(s:Int))],[(1,.box [sv ze2 it.names,sv ze0 it.marks,.v (.bool it.late)])],34,[]⟩:St)) (fun s=>s≤it.names.length∧qDs it fl (it.names.drop s) s=some r) (fun s=>it.names.length-s) 0 ⟨Nat.zero_le _,hH⟩ ?_ ?_
 exact Le.ct 0 0
 rintro k1 ⟨hk,hH⟩
 try dsimp only at hH⊢
 refine AW.boundM (t:=6) (l:=it.names) rfl (fun hb5=>?_)
 rcases hd4:it.names.drop k1 with _|⟨y2,ys3⟩
 rw[hd4,qDs]at hH
 have hlt6:=qAF hd4
 refine go ?_
 obtain⟨x12,hx13,x14,hx15,hH⟩:=qAI hH
 refine go ?_
 refine AO.w (cVs (qAP _ _ _ _ (hx13))) ?_
 refine AO.pu T ?_
 refine AO.g0 T ?_
 refine AO.g1 T 21 ?_
 refine AO.d1 22 (fun hg=>qLn T) ?_
 refine AO.g0 T ?_
 refine AO.g1 T 24 ?_
 refine AO.d1 25 (fun hg=>qLn T) ?_
 refine AO.g2 T 23 26 ?_
 refine go ?_
 refine AO.g0 T ?_
 refine AO.g1 T 30 ?_
 refine AO.d1 31 (fun hg=>cVs (qGD _ _ _ _ (qEv hx15 hg))) ?_
 refine go ?_
 exact fin
 rw[hd4,qDs]at hH
 have hlt6:=qAG hd4
 refine go ?_
 obtain⟨x16,hx17,hH⟩:=zB hH
 refine go ?_
 refine AO.w (cVs (qPZ fl _ _ (hx17))) (go ?_)
 refine AW.cH hH (fun _ hH=>?_) (fun _ hH=>?_)
 refine go ?_
 exact fin
 refine go ?_
 refine⟨k1+1,⟨hlt6,(zds hd4▸hH)⟩,qCC hlt6,?_⟩
 exact Le.ct 0 0
def qBh (y6:ByteArray) (v113:List ByteArray) (v114:List Int):Nat→Int→Option ((List ByteArray)×(List Int))
 |0,_=>none
 |k145+1,v155 =>
  cond (decide (v155≤3))
   ((qAV [(⟨#[]⟩:ByteArray),(⟨#[60]⟩:ByteArray),(⟨#[101]⟩:ByteArray),(⟨#[42]⟩:ByteArray)] v155).bind fun x157 =>
   (qC6 y6 x157).bind fun x159 =>
   cond x159.2
    ((qAz (qAh 16 (v113.length+([x159.1]).length))).bind fun u161 =>
    (qAz (qAh 8 (v114.length+([v155]).length))).bind fun u163 =>
    some ((v113++[x159.1]),(v114++[v155])))
    (qBh y6 v113 v114 k145 (w64 (v155+1))))
   ((qAz (qAh 16 (v113.length+([y6]).length))).bind fun u165 =>
   (qAz (qAh 8 (v114.length+(([0]:List Int)).length))).bind fun u167 =>
   some ((v113++[y6]),(v114++([0]:List Int))))
def qAn (fl:Nat) (x1:(ByteArray×Bool)):List ByteArray→Nat→List ByteArray→List Int→Option ((Item×Bool))
 | [],k5,v113,v114 =>
  (qF9 fl (Item.mk v113 v114 x1.2)).bind fun x116 =>
  cond (!x116)
   (some ((Item.mk [] [] false),false))
   (some ((Item.mk v113 v114 x1.2),true))
 |y6::ys7,k5,v113,v114 =>
  (qBh y6 v113 v114 fl 1).bind fun (v141,v142) =>
  qAn fl x1 ys7 (k5+1) v141 v142
def qGn (fl:Nat) (sA:ByteArray):Option (Item×Bool) :=
 (qC6 sA (⟨#[32,120]⟩:ByteArray)).bind fun x1 =>
 (qB2 x1.1 (⟨#[43]⟩:ByteArray)).bind fun x3 =>
 qAn fl x1 x3 0 [] []
theorem qNP (fl:Nat) (sA:ByteArray) (r:(Item×Bool)) (hH:qGn fl sA=some r):qAC prog 152 [.v (.string sA)] (.t [.g (qCU r.1),.v (.bool r.2)]):=by
 refine fns T func152 ?_
 refine gs2 ?_
 refine AO.x (als T 1) ?_
 refine gs4 ?_
 refine AO.x (qGG T rfl rfl rfl rfl) ?_
 refine AO.x (qGG T rfl rfl rfl rfl) ?_
 refine gs ?_
 refine AO.x (als T 2) ?_
 refine AO.se T [.w 1 [],.w 1 [],.v (.bool false)] ?_
 refine gs2 ?_
 obtain⟨x1,hx2,hH⟩:=zB hH
 refine gs2 ?_
 refine AO.w (cVs (qIJ _ _ _ (hx2))) ?_
 refine gs5 ?_
 refine AO.se T [.w 1 [],.w 1 [],.v (.bool x1.2)] ?_
 refine gs3 ?_
 obtain⟨x3,hx4,hH⟩:=zB hH
 refine gs2 ?_
 refine AO.x (qAU rfl 3 rfl rfl rfl (qH5 _ _ _ (hx4)) rfl rfl rfl) ?_
 refine gs4 ?_
 refine AW.loopS (fun s:Nat×(List ByteArray)×(List Int)=>(⟨[(2,.p 1 0),(4,.p 2 0),(21,.R 3),(22,(x3.length:Int)),(23,(s.1:Int))],[(1,.box [.w 0 [],.w 0 [],.v (.bool false)]),(2,.box [.R 21,.R 23,.v (.bool x1.2)]),(3,ro 1 ze2 x3),(21,ro 1 ze2 s.2.1),(23,ro 1 ze0 s.2.2)],60,[]⟩:St)) (fun s=>s.1≤x3.length∧qAn fl x1 (x3.drop s.1) s.1 s.2.1 s.2.2=some r) (fun s=>x3.length-s.1) (0,[],[]) ⟨Nat.zero_le _,hH⟩ ?_ ?_
 refine Le.trans (Le.voidBox 2 0 21 1 rfl rfl rfl rfl) ?_
 refine Le.trans (Le.voidBox 2 1 23 1 rfl rfl rfl rfl) ?_
 exact Le.ct 0 0
 rintro⟨k5,v113,v114⟩ ⟨hk,hH⟩
 try dsimp only at hH⊢
 refine AW.boundR (id:=3) (l:=x3) rfl (fun hb9=>?_)
 rcases hd8:x3.drop k5 with _|⟨y6,ys7⟩
 rw[hd8,qAn]at hH
 have hlt10:=qAF hd8
 refine gs9 ?_
 obtain⟨x116,hx117,hH⟩:=zB hH
 refine gs2 ?_
 refine AO.w (zLV rfl rfl rfl (es:=[.g (ze1 (Item.mk v113 v114 x1.2))]) ⟨qIK (LendL.cons ((.rowR rfl (.map fun y=>.vs rfl))) (LendL.cons ((.rowR rfl (.map fun y=>.vs rfl))) (LendL.cons (.free rfl) LendL.nil))),trivial⟩ (qLo fl _ _ (hx117)) (qAc _) rfl) ?_
 refine gs2 ?_
 refine AW.cH hH (fun _ hH=>?_) (fun hc hH=>?_)
 refine gs3 ?_
 refine AO.se T [.w 0 [],.w 0 [],.v (.bool false)] ?_
 refine gs3 ?_
 exact fin
 refine gs4 ?_
 refine AO.se T [.R 21,.R 23,.v (.bool x1.2)] ?_
 refine gs3 ?_
 exact fin
 rw[hd8,qAn]at hH
 have hlt10:=qAG hd8
 refine gs7 ?_
 obtain⟨o143,hH,hK144⟩:=zB hH
 refine AW.seqJ (fun s:(List ByteArray)×(List Int)=>(⟨[(2,.p 1 0),(4,.p 2 0),(21,.R 3),(22,(x3.length:Int)),(23,(k5:Int))],[(1,.box [.w 0 [],.w 0 [],.v (.bool false)]),(2,.box [.R 37,.R 39,.v (.bool x1.2)]),(3,ro 1 ze2 x3),(37,ro 1 ze2 s.1),(39,ro 1 ze0 s.2)],60,[]⟩:St)) (fun s=>s=o143) ?_ ?_
 refine gs4 ?_
 refine AO.w (zLr T rfl rfl rfl rfl (zgG (zgD hd8)) rfl rfl rfl) ?_
 iterate 12 refine gs ?_
 refine AW.loopS (fun s:Nat×Int=>(⟨[(2,.p 1 0),(4,.p 2 0),(6,.v (.string y6)),(7,(0:Int)),(8,s.2),(21,.R 3),(22,(x3.length:Int)),(23,(k5:Int))],[(1,.box [.w 0 [],.w 0 [],.v (.bool false)]),(2,.box [.R 21,.R 23,.v (.bool x1.2)]),(3,ro 1 ze2 x3),(21,ro 1 ze2 v113),(23,ro 1 ze0 v114)],60,[]⟩:St)) (fun s=>qBh y6 v113 v114 s.1 s.2=some o143) (fun s=>s.1) (fl,1) hH ?_ ?_
 exact Le.ct 0 0
 rintro⟨k145,v155⟩ hH
 try dsimp only at hH⊢
 rcases k145 with _|k145
 cases (show none=some _ from hH)
 rw[qBh]at hH
 refine gs6 ?_
 refine AW.cH hH (fun hc hH=>?_) (fun _ hH=>?_)
 refine gs4 ?_
 obtain⟨x157,hx158,x159,hx160,hH⟩:=qAI hH
 refine gs3 ?_
 refine AO.w (qWM T (l:=[(⟨#[]⟩:ByteArray),(⟨#[60]⟩:ByteArray),(⟨#[101]⟩:ByteArray),(⟨#[42]⟩:ByteArray)]) (f:=ze2) rfl rfl rfl rfl rfl rfl rfl (fun _=>rfl) (hx158)) ?_
 refine AO.pu T ?_
 refine AO.w (cVs (qIJ _ _ _ (hx160))) ?_
 iterate 10 refine gs ?_
 refine AW.cH hH (fun _ hH=>?_) (fun hc hH=>?_)
 refine gs9 ?_
 obtain⟨u161,hx162,hH⟩:=zB hH
 refine gs4 ?_
 refine AO.x (mks T 44 ze2 ([x159.1])) ?_
 refine AO.x (rvs T 45 (hfit:=by exact qAS (hx162))) ?_
 refine AO.pu T ?_
 refine AO.se T [.R 45,.R 23,.v (.bool x1.2)] ?_
 refine AO.n (AW.le (Le.ct 0 0 (σ':=(⟨[(2,.p 1 0),(4,.p 2 0),(7,v155),(21,.R 3),(22,(x3.length:Int)),(23,(k5:Int))],[(1,.box [.w 0 [],.w 0 [],.v (.bool false)]),(2,.box [.R 45,.R 23,.v (.bool x1.2)]),(3,ro 1 ze2 x3),(23,ro 1 ze0 v114),(45,ro 1 ze2 (v113++[x159.1]))],60,[]⟩:St))) ?_)
 obtain⟨u163,hx164,hH⟩:=zB hH
 refine gs4 ?_
 refine AO.x (mks T 46 ze0 ([v155])) ?_
 refine AO.x (rvs T 47 (hfit:=by exact qAS (hx164))) ?_
 refine AO.pu T ?_
 refine AO.se T [.R 45,.R 47,.v (.bool x1.2)] ?_
 refine AO.n ?_
 refine⟨_,zS hH,?_⟩
 refine Le.trans (Le.ct 45 37 (σ':=(⟨[(2,.p 1 0),(4,.p 2 0),(21,.R 3),(22,(x3.length:Int)),(23,(k5:Int))],[(1,.box [.w 0 [],.w 0 [],.v (.bool false)]),(2,.box [.R 37,.R 47,.v (.bool x1.2)]),(3,ro 1 ze2 x3),(37,ro 1 ze2 (v113++[x159.1])),(47,ro 1 ze0 (v114++[v155]))],60,[]⟩:St))) ?_
 exact Le.ct 47 39
 refine gs6 ?_
 refine⟨(k145,w64 (v155+1)),hH,Nat.lt_succ_self _,?_⟩
 exact Le.ct 0 0
 refine gs2 ?_
 obtain⟨u165,hx166,hH⟩:=zB hH
 refine gs4 ?_
 refine AO.x (mks T 48 ze2 ([y6])) ?_
 refine AO.x (rvs T 49 (hfit:=by exact qAS (hx166))) ?_
 refine AO.pu T ?_
 refine AO.se T [.R 49,.R 23,.v (.bool x1.2)] ?_
 refine AO.n ?_
 obtain⟨u167,hx168,hH⟩:=zB hH
 refine gs4 ?_
 refine AO.x (mks T 50 ze0 (([0]:List Int))) ?_
 refine AO.x (rvs T 51 (hfit:=by exact qAS (hx168))) ?_
 refine AO.pu T ?_
 refine AO.se T [.R 49,.R 51,.v (.bool x1.2)] ?_
 refine AO.n ?_
 refine⟨_,zS hH,?_⟩
 refine Le.trans (Le.ct 49 37 (σ':=(⟨[(2,.p 1 0),(4,.p 2 0),(21,.R 3),(22,(x3.length:Int)),(23,(k5:Int))],[(1,.box [.w 0 [],.w 0 [],.v (.bool false)]),(2,.box [.R 37,.R 51,.v (.bool x1.2)]),(3,ro 1 ze2 x3),(37,ro 1 ze2 (v113++[y6])),(51,ro 1 ze0 (v114++([0]:List Int)))],60,[]⟩:St))) ?_
 exact Le.ct 51 39
 rintro⟨v141,v142⟩ hs
 subst hs
 replace hH:=hK144
 try dsimp only[qLN,qJm]at hH
 try dsimp only
 refine gs4 ?_
 refine⟨(k5+1,v141,v142),⟨hlt10,(zds hd8▸hH)⟩,qCC hlt10,?_⟩
 refine Le.trans (Le.ct 37 21 (σ':=(⟨[(2,.p 1 0),(4,.p 2 0),(21,.R 3),(22,(x3.length:Int)),(23,((k5+1:Nat):Int))],[(1,.box [.w 0 [],.w 0 [],.v (.bool false)]),(2,.box [.R 21,.R 39,.v (.bool x1.2)]),(3,ro 1 ze2 x3),(21,ro 1 ze2 v141),(39,ro 1 ze0 v142)],60,[]⟩:St))) ?_
 exact Le.ct 39 23
def qDK (l:List Int):Option (List Int) :=
 (qAz (qAh 8 l.length)).bind fun u1 =>
 some l
theorem qH9 (l:List Int) (r:(List Int)) (hH:qDK l=some r):qAC prog 223 [.s (List.map ze0 l)] (.w 1 (r.map ze0)):=by
 refine fns T func223 ?_
 refine gs5 ?_
 obtain⟨u1,hx2,hH⟩:=zB hH
 refine AW.r (AO.x (qGG T rfl rfl rfl rfl) ?_)
 refine AO.pu T ?_
 refine AO.x (qLK T rfl 1 rfl rfl rfl rfl rfl (by decide) (by decide) rfl rfl (fun _=>rfl) (qAS (hx2)) rfl rfl) ?_
 refine gs3 ?_
 exact fin
def qIk (it:Item):Option Item :=
 (qAz (qAh 16 it.names.length)).bind fun u1 =>
 (qDK it.marks).bind fun x3 =>
 some (Item.mk it.names x3 it.late)
theorem qN8 (it:Item) (r:Item) (hH:qIk it=some r):qAC prog 218 [.g (ze1 it)] (.g (qCU r)):=by
 refine fns T func218 ?_
 refine go ?_
 refine AO.x (bxs T 1) ?_
 refine AO.x (als T 2) (go ?_)
 obtain⟨u1,hx2,x3,hx4,hH⟩:=qAI hH
 refine AW.drawn 9 3 [] mix (by kernel_rfl) rfl ?_
 refine AD.v (FStep.mk0 T rfl rfl rfl rfl rfl) ?_
 refine go ?_
 refine AD.q (FStep.app_ws T rfl rfl rfl rfl rfl rfl rfl (by decide) (by decide) rfl rfl (fun _=>rfl) (qAS (hx2)) rfl) (by simp[qAu]) (Nat.le_succ _) rfl ?_
 refine go ?_
 refine AD.q (FStep.call rfl rfl rfl rfl rfl (qH9 _ _ (hx4)) rfl rfl) (qBF _ _) (qDh _ _) rfl ?_
 refine go ?_
 refine AO.se T [.R 3,.R 4,.v (.bool it.late)] ?_
 refine go ?_
 exact fin
def qCR:List Item→Nat→List Item→Option ((List Item))
 | [],k1,v16 =>
  some v16
 |y2::ys3,k1,v16 =>
  (qIk y2).bind fun x18 =>
  (qAz (qAh 56 (v16.length+([x18]).length))).bind fun u20 =>
  qCR ys3 (k1+1) (v16++[x18])
def qFS (l:List Item):Option (List Item) :=
 qCR l 0 []
theorem qHe (l:List Item) (r:(List Item)) (hH:qFS l=some r):qAC prog 153 [.s (List.map ze1 l)] (.w 3 (r.map qCU)):=by
 refine fns T func153 ?_
 refine go ?_
 refine AO.x (qGG T rfl rfl rfl rfl) (go ?_)
 refine AW.loopS (fun s:Nat×(List Item)=>(⟨[(3,.R 10),(7,sv ze1 l),(8,(l.length:Int)),(9,(s.1:Int))],[(10,ro 3 qCU s.2)],20,[]⟩:St)) (fun s=>s.1≤l.length∧qCR (l.drop s.1) s.1 s.2=some r) (fun s=>l.length-s.1) (0,[]) ⟨Nat.zero_le _,hH⟩ ?_ ?_
 refine Le.trans (Le.void 3 10 3 rfl rfl) ?_
 exact Le.ct 0 0
 rintro⟨k1,v16⟩ ⟨hk,hH⟩
 try dsimp only at hH⊢
 refine AW.boundM (t:=7) (l:=l) rfl (fun hb5=>?_)
 rcases hd4:l.drop k1 with _|⟨y2,ys3⟩
 rw[hd4,qCR]at hH
 have hlt6:=qAF hd4
 refine go ?_
 exact fin
 rw[hd4,qCR]at hH
 have hlt6:=qAG hd4
 refine go ?_
 refine AO.x (als T 11) ?_
 refine AO.se T [sv ze2 y2.names,sv ze0 y2.marks,.v (.bool y2.late)] ?_
 refine AO.n ?_
 obtain⟨x18,hx19,u20,hx21,hH⟩:=qAI hH
 refine go ?_
 refine AO.x (qAU rfl 12 rfl rfl rfl (qN8 _ _ (hx19)) rfl rfl rfl) ?_
 refine AO.x (qRo T rfl 14 rfl rfl rfl rfl rfl rfl (f:=qCU) (l:=[x18]) (ids:=[12,13]) rfl rfl (fun _=>rfl) (by exact zC (.rowR rfl) (zC (.rowR rfl) (zC .v (zCn)))) (by decide) rfl rfl rfl rfl rfl) ?_
 refine AO.x (qE2 T rfl 15 rfl rfl rfl rfl rfl (by decide) rfl rfl rfl rfl rfl (qAS (hx21)) rfl rfl) (go ?_)
 refine⟨(k1+1,(v16++[x18])),⟨hlt6,(zds hd4▸hH)⟩,qCC hlt6,?_⟩
 exact Le.ct 15 10
def qCT:List (List Int)→Nat→List (List Int)→Option ((List (List Int)))
 | [],k1,v16 =>
  some v16
 |y2::ys3,k1,v16 =>
  (qDK y2).bind fun x18 =>
  (qAz (qAh 24 (v16.length+([x18]).length))).bind fun u20 =>
  qCT ys3 (k1+1) (v16++[x18])
def qGi (l:List (List Int)):Option (List (List Int)) :=
 qCT l 0 []
theorem qJd (l:List (List Int)) (r:(List (List Int))) (hH:qGi l=some r):qAC prog 219 [.s (List.map ze3 l)] (.w 1 (r.map ze8)):=by
 refine fns T func219 ?_
 refine go ?_
 refine AO.x (qGG T rfl rfl rfl rfl) (go ?_)
 refine AW.loopS (fun s:Nat×(List (List Int))=>(⟨[(3,.R 6),(7,sv ze3 l),(8,(l.length:Int)),(9,(s.1:Int))],[(6,ro 1 ze8 s.2)],20,[]⟩:St)) (fun s=>s.1≤l.length∧qCT (l.drop s.1) s.1 s.2=some r) (fun s=>l.length-s.1) (0,[]) ⟨Nat.zero_le _,hH⟩ ?_ ?_
 refine Le.trans (Le.void 3 6 1 rfl rfl) ?_
 exact Le.ct 0 0
 rintro⟨k1,v16⟩ ⟨hk,hH⟩
 try dsimp only at hH⊢
 refine AW.boundM (t:=7) (l:=l) rfl (fun hb5=>?_)
 rcases hd4:l.drop k1 with _|⟨y2,ys3⟩
 rw[hd4,qCT]at hH
 have hlt6:=qAF hd4
 refine go ?_
 exact fin
 rw[hd4,qCT]at hH
 have hlt6:=qAG hd4
 refine go ?_
 obtain⟨x18,hx19,u20,hx21,hH⟩:=qAI hH
 refine go ?_
 refine AO.x (qAU rfl 7 rfl rfl rfl (qH9 _ _ (hx19)) rfl rfl rfl) ?_
 refine AO.x (qRo T rfl 8 rfl rfl rfl rfl rfl rfl (f:=ze8) (l:=[x18]) (ids:=[7]) rfl rfl (fun _=>rfl) (by exact zC (.rowR rfl) (zCn)) (by decide) rfl rfl rfl rfl rfl) ?_
 refine AO.x (qE2 T rfl 9 rfl rfl rfl rfl rfl (by decide) rfl rfl rfl rfl rfl (qAS (hx21)) rfl rfl) (go ?_)
 refine⟨(k1+1,(v16++[x18])),⟨hlt6,(zds hd4▸hH)⟩,qCC hlt6,?_⟩
 exact Le.ct 9 6
def qCy (m:Marks):Option Marks :=
 (qGi m.grades).bind fun x1 =>
 (qGi m.components).bind fun x3 =>
 some (Marks.mk x1 x3)
theorem qF0 (m:Marks) (r:Marks) (hH:qCy m=some r):qAC prog 154 [.g (qAf m)] (.g (qIq r)):=by
 refine fns T func154 ?_
 refine go ?_
 refine AO.x (bxs T 1) ?_
 refine AO.x (als T 2) (go ?_)
 obtain⟨x1,hx2,x3,hx4,hH⟩:=qAI hH
 refine AW.drawn 5 3 [] mix (by kernel_rfl) rfl ?_
 refine go ?_
 refine AD.q (FStep.call rfl rfl rfl rfl rfl (qJd _ _ (hx2)) rfl rfl) (qBF _ _) (qDh _ _) rfl ?_
 refine go ?_
 refine AO.x (qAU rfl 4 rfl rfl rfl (qJd _ _ (hx4)) rfl rfl rfl) (go ?_)
 refine AO.se T [.R 3,.R 4] ?_
 refine go ?_
 exact fin
def qAy (m:Marks):Option Int :=
 (qAV m.components 0).bind fun x1 =>
 some (x1.length:Int)
theorem qEQ (m:Marks) (r:Int) (hH:qAy m=some r):qAC prog 155 [.g (qAf m)] (.v (.int .i64 r)):=by
 refine fns T func155 ?_
 refine go ?_
 refine AO.x (bxs T 1) (go ?_)
 obtain⟨x1,hx2,hH⟩:=zB hH
 refine go ?_
 exact fin
def qFA (family:Int):Option Bool :=
 (qAN family 0 4).bind fun x1 =>
 some x1
theorem qKO (family:Int) (r:Bool) (hH:qFA family=some r):qAC prog 98 [family] (.v (.bool r)):=by
 refine fns T func98 ?_
 refine go ?_
 obtain⟨x1,hx2,hH⟩:=zB hH
 refine go ?_
 refine AO.w (cVs (qAP _ _ _ _ (hx2))) (go ?_)
 exact fin
def qDv (c:Code) (fl:Nat):List Element→Nat→Option Bool
 | [],k13 =>
  some true
 |y14::ys15,k13 =>
  (qDj fl y14.name).bind fun x40 =>
  (opt (!(!x40)) default (qFA y14.family)).bind fun x42 =>
  (opt (!((!x40)||(!x42))) default (qAN y14.level 0 4)).bind fun x44 =>
  (opt (!(((!x40)||(!x42))||(!x44))) default (qAN y14.base 1 2000)).bind fun x46 =>
  cond ((((!x40)||(!x42))||(!x44))||(!x46))
   (some false)
   ((opt (decide ((k13:Int)>0)) default (qAV c.elements (w64 ((k13:Int)-1)))).bind fun x48 =>
   cond (decide ((k13:Int)>0)&&(!qMp x48.name y14.name))
    (some false)
    (qDv c fl ys15 (k13+1)))
def qBG (fl:Nat) (c:Code):Option Bool :=
 (qAN (c.elements.length:Int) 1 24).bind fun x1 =>
 (opt (!((!x1)||((c.limits.length:Int) != 5))) default (qCE c.limits 0 9)).bind fun x3 =>
 cond (((!x1)||((c.limits.length:Int) != 5))||(!x3))
  (some false)
  ((qAN c.repeats 1 3).bind fun x5 =>
  (opt (!(!x5)) default (qAN c.bonus 0 20)).bind fun x7 =>
  (opt (!((!x5)||(!x7))) default (qAN c.keeps 50 100)).bind fun x9 =>
  (opt (!(((!x5)||(!x7))||(!x9))) default (qAN c.fall 0 500)).bind fun x11 =>
  cond ((((!x5)||(!x7))||(!x9))||(!x11))
   (some false)
   (qDv c fl c.elements 0))
theorem qFg (fl:Nat) (c:Code) (r:Bool) (hH:qBG fl c=some r):qAC prog 70 [.g (ze4 c)] (.v (.bool r)):=by
 refine fns T func70 ?_
 refine go ?_
 refine AO.x (bxs T 1) (go ?_)
 obtain⟨x1,hx2,x3,hx4,hH⟩:=qAI hH
 refine go ?_
 refine AO.w (cVs (qAP _ _ _ _ (hx2))) (go ?_)
 refine AO.g0 T ?_
 refine AO.g1 T 11 ?_
 refine AO.d1 12 (fun hg=>qLn T) ?_
 refine AO.g1 T 13 ?_
 refine go ?_
 refine AO.g0 T ?_
 refine AO.g1 T 17 ?_
 refine AO.d1 18 (fun hg=>cVs (qGD _ _ _ _ (qEv hx4 hg))) ?_
 refine AO.g1 T 19 ?_
 refine go ?_
 refine AW.cH hH (fun _ hH=>?_) (fun hc hH=>?_)
 refine go ?_
 exact fin
 refine go ?_
 obtain⟨x5,hx6,x7,hx8,x9,hx10,hH⟩:=qBB hH
 obtain⟨x11,hx12,hH⟩:=zB hH
 refine go ?_
 refine AO.w (cVs (qAP _ _ _ _ (hx6))) (go ?_)
 refine AO.g0 T ?_
 refine AO.g1 T 27 ?_
 refine AO.d1 28 (fun hg=>cVs (qAP _ _ _ _ (qEv hx8 hg))) ?_
 refine AO.g1 T 29 ?_
 refine go ?_
 refine AO.g0 T ?_
 refine AO.g1 T 33 ?_
 refine AO.d1 34 (fun hg=>cVs (qAP _ _ _ _ (qEv hx10 hg))) ?_
 refine AO.g1 T 35 ?_
 refine go ?_
 refine AO.g0 T ?_
 refine AO.g1 T 39 ?_
 refine AO.d1 40 (fun hg=>cVs (qAP _ _ _ _ (qEv hx12 hg))) ?_
 refine AO.g1 T 41 ?_
 refine gs2 ?_
 refine AW.le (Le.ct 0 0 (σ':=(⟨[(1,.p 1 0),(43,.v (.bool ((((!x5)||(!x7))||(!x9))||(!x11))))],[(1,.box (ze4 c))],89,[]⟩:St))) ?_
 refine AW.cH hH (fun _ hH=>?_) (fun hc hH=>?_)
 refine go ?_
 exact fin
 refine go ?_
 refine AW.loopS (fun s:Nat=>(⟨[(1,.p 1 0),(45,sv ze5 c.elements),(46,(c.elements.length:Int)),(47,(s:Int))],[(1,.box (ze4 c))],89,[]⟩:St)) (fun s=>s≤c.elements.length∧qDv c fl (c.elements.drop s) s=some r) (fun s=>c.elements.length-s) 0 ⟨Nat.zero_le _,hH⟩ ?_ ?_
 exact Le.ct 0 0
 rintro k13 ⟨hk,hH⟩
 try dsimp only at hH⊢
 refine AW.boundM (t:=45) (l:=c.elements) rfl (fun hb17=>?_)
 rcases hd16:c.elements.drop k13 with _|⟨y14,ys15⟩
 rw[hd16,qDv]at hH
 have hlt18:=qAF hd16
 refine go ?_
 exact fin
 rw[hd16,qDv]at hH
 have hlt18:=qAG hd16
 refine go ?_
 refine AO.x (als T 4) ?_
 refine AO.pu T ?_
 refine AO.se T [.v (.string y14.name),y14.family,y14.level,y14.base] ?_
 refine go ?_
 obtain⟨x40,hx41,x42,hx43,x44,hx45,hH⟩:=qBB hH
 obtain⟨x46,hx47,hH⟩:=zB hH
 refine go ?_
 refine AO.w (cVs (qHv fl _ _ (hx41))) (go ?_)
 refine AO.g0 T ?_
 refine AO.g1 T 57 ?_
 refine AO.d1 58 (fun hg=>cVs (qKO _ _ (qEv hx43 hg))) ?_
 refine AO.g1 T 59 ?_
 refine go ?_
 refine AO.g0 T ?_
 refine AO.g1 T 63 ?_
 refine AO.d1 64 (fun hg=>cVs (qAP _ _ _ _ (qEv hx45 hg))) ?_
 refine AO.g1 T 65 ?_
 refine go ?_
 refine AO.g0 T ?_
 refine AO.g1 T 69 ?_
 refine AO.d1 70 (fun hg=>cVs (qAP _ _ _ _ (qEv hx47 hg))) ?_
 refine AO.g1 T 71 ?_
 refine gs2 ?_
 refine AW.le (Le.ct 0 0 (σ':=(⟨[(1,.p 1 0),(3,(k13:Int)),(4,.p 4 0),(45,sv ze5 c.elements),(46,(c.elements.length:Int)),(47,(k13:Int)),(73,.v (.bool ((((!x40)||(!x42))||(!x44))||(!x46))))],[(1,.box (ze4 c)),(4,.box (ze5 y14))],89,[]⟩:St))) ?_
 refine AW.cH hH (fun _ hH=>?_) (fun hc hH=>?_)
 refine go ?_
 exact fin
 refine go ?_
 obtain⟨x48,hx49,hH⟩:=zB hH
 refine AW.drawn 12 5 [] mix (by kernel_rfl) rfl ?_
 refine go ?_
 refine AD.pureG T [] rfl trivial rfl rfl ?_
 refine AD.pureG T [77] rfl ⟨fun h=>h,trivial⟩ rfl rfl ?_
 refine AD.pureG T [] rfl trivial rfl rfl ?_
 refine AD.guard [79] rfl ⟨fun h=>h,trivial⟩ (fun hg=>aws) rfl ?_
 refine AD.guard [78,80] rfl ⟨fun h=>h,fun h=>h,trivial⟩ (fun hg=>ixs T (qEv hx49 hg)) rfl ?_
 refine AD.pureG T [81] rfl ⟨fun h=>h,trivial⟩ rfl rfl ?_
 refine AD.pureG T [82] rfl ⟨fun h=>h,trivial⟩ rfl rfl ?_
 refine AD.pureG T [] rfl trivial rfl rfl ?_
 refine AD.pureG T [84] rfl ⟨fun h=>h,trivial⟩ rfl rfl ?_
 refine AD.nil (AO.g2 T 83 85 ?_)
 refine go ?_
 refine AW.cH hH (fun _ hH=>?_) (fun _ hH=>?_)
 refine go ?_
 exact fin
 refine go ?_
 refine⟨k13+1,⟨hlt18,(zds hd16▸hH)⟩,qCC hlt18,?_⟩
 exact Le.ct 0 0
def qCu (l:List Item) (fl:Nat):List Item→Nat→Option Bool
 | [],k1 =>
  some (decide ((l.length:Int)≤14))
 |y2::ys3,k1 =>
  (qF9 fl y2).bind fun x12 =>
  cond (!x12)
   (some false)
   (qCu l fl ys3 (k1+1))
def qE0 (fl:Nat) (l:List Item):Option Bool :=
 qCu l fl l 0
theorem qKP (fl:Nat) (l:List Item) (r:Bool) (hH:qE0 fl l=some r):qAC prog 126 [.s (List.map ze1 l)] (.v (.bool r)):=by
 refine fns T func126 ?_
 refine go ?_
 refine AW.loopS (fun s:Nat=>(⟨[(0,sv ze1 l),(5,sv ze1 l),(6,(l.length:Int)),(7,(s:Int))],[],18,[]⟩:St)) (fun s=>s≤l.length∧qCu l fl (l.drop s) s=some r) (fun s=>l.length-s) 0 ⟨Nat.zero_le _,hH⟩ ?_ ?_
 exact Le.ct 0 0
 rintro k1 ⟨hk,hH⟩
 try dsimp only at hH⊢
 refine AW.boundM (t:=0) (l:=l) rfl (fun hb5=>?_)
 rcases hd4:l.drop k1 with _|⟨y2,ys3⟩
 rw[hd4,qCu]at hH
 have hlt6:=qAF hd4
 refine go ?_
 exact fin
 rw[hd4,qCu]at hH
 have hlt6:=qAG hd4
 refine go ?_
 refine AO.x (als T 3) ?_
 refine AO.se T [sv ze2 y2.names,sv ze0 y2.marks,.v (.bool y2.late)] ?_
 refine go ?_
 obtain⟨x12,hx13,hH⟩:=zB hH
 refine go ?_
 refine AO.w (cVs (qLo fl _ _ (hx13))) (go ?_)
 refine AW.cH hH (fun _ hH=>?_) (fun _ hH=>?_)
 refine go ?_
 exact fin
 refine go ?_
 refine⟨k1+1,⟨hlt6,(zds hd4▸hH)⟩,qCC hlt6,?_⟩
 exact Le.ct 0 0
def qAk (f:Element→Option Bool):List Element→Nat→Option Int
 | [],k1 =>
  some (-1)
 |y2::ys3,k1 =>
  (f y2).bind fun x12 =>
  cond x12
   (some (k1:Int))
   (qAk f ys3 (k1+1))
def qEP (sA:List Element) (f:Element→Option Bool):Option Int :=
 qAk f sA 0
theorem qIx (sA:List Element) (f_f:Nat) (f_c:List D) (f_k:f_c.all D.capOk=true) (f:Element→Option Bool) (f_h:∀(a0:Element) (q:Bool),f a0=some q→qAC prog f_f ([.g (ze5 a0)]++f_c) (.v (.bool q))) (r:Int) (hH:qEP sA f=some r):qAC prog 296 [.s (List.map ze5 sA),.f f_f f_c] (.v (.int .i64 r)):=by
 have f_r:=qKw f_k
 refine fns T func296 ?_
 refine go ?_
 refine AW.loopS (fun s:Nat=>(⟨[(0,sv ze5 sA),(1,.f f_f f_c),(7,(sA.length:Int)),(8,(s:Int))],[],19,[]⟩:St)) (fun s=>s≤sA.length∧qAk f (sA.drop s) s=some r) (fun s=>sA.length-s) 0 ⟨Nat.zero_le _,hH⟩ ?_ ?_
 exact Le.cut 0 0 rfl ⟨⟨_,rfl,rfl⟩,⟨_,rfl,qP5 f_r⟩,⟨_,rfl,rfl⟩,⟨_,rfl,rfl⟩,trivial⟩ (by repeat' (first|exact trivial|refine⟨⟨_,rfl,rfl⟩,?_⟩)) (qJR (qMw rfl (qMw (qLH f_r) (qMw rfl (qMw rfl qWN)))) rfl)
 rintro k1 ⟨hk,hH⟩
 try dsimp only at hH⊢
 refine AW.boundM (t:=0) (l:=sA) rfl (fun hb5=>?_)
 rcases hd4:sA.drop k1 with _|⟨y2,ys3⟩
 rw[hd4,qAk]at hH
 have hlt6:=qAF hd4
 refine go ?_
 exact fin
 rw[hd4,qAk]at hH
 have hlt6:=qAG hd4
 refine go ?_
 obtain⟨x12,hx13,hH⟩:=zB hH
 refine go ?_
 refine AO.w (zV rfl rfl rfl (qJR rfl (qNT f_r)) (f_h _ _ (hx13)) rfl) ?_
 refine AO.n (AW.cH hH (fun _ hH=>?_) (fun _ hH=>?_))
 refine go ?_
 exact fin
 refine go ?_
 refine⟨k1+1,⟨hlt6,(zds hd4▸hH)⟩,qCC hlt6,?_⟩
 exact Le.cut 0 0 rfl ⟨⟨_,rfl,rfl⟩,⟨_,rfl,qP5 f_r⟩,⟨_,rfl,rfl⟩,⟨_,rfl,rfl⟩,trivial⟩ (by repeat' (first|exact trivial|refine⟨⟨_,rfl,rfl⟩,?_⟩)) (qJR (qMw rfl (qMw (qLH f_r) (qMw rfl (qMw rfl qWN)))) rfl)
def qDX (x:Element) (a:ByteArray):Option Bool :=
 some (decide (x.name=a))
theorem qKW (x:Element) (a:ByteArray) (r:Bool) (hH:qDX x a=some r):qAC prog 297 [.g (ze5 x),.q [.v (.string a)]] (.v (.bool r)):=by
 refine fns T func297 ?_
 refine go ?_
 refine AO.x (bxs T 1) (go ?_)
 exact fin
def qCZ (c:Code) (name:ByteArray):Option Int :=
 (qEP c.elements (fun a0=>qDX a0 name)).bind fun x1 =>
 some x1
theorem qFJ (c:Code) (name:ByteArray) (r:Int) (hH:qCZ c name=some r):qAC prog 246 [.g (ze4 c),.v (.string name)] (.v (.int .i64 r)):=by
 refine fns T func246 ?_
 refine go ?_
 refine AO.x (bxs T 1) ?_
 refine AO.x (bxs T 2) (go ?_)
 obtain⟨x1,hx2,hH⟩:=zB hH
 refine go ?_
 refine AO.w (zLV rfl rfl rfl (es:=[sv ze5 c.elements,.f 297 [.q [.v (.string name)]]]) ⟨.free rfl,qYJ (LendL.cons (Lend.boxF rfl rfl) LendL.nil),trivial⟩ (qIx _ 297 [.q [.v (.string name)]] rfl (fun a0=>qDX a0 name) (fun a0 q h=>qKW a0 name q h) _ (hx2)) (qAc _) rfl) (go ?_)
 exact fin
def qDN (c:Code):List ByteArray→Nat→Option (Except Bool Unit)
 | [],k74 =>
  some (.ok ())
 |y75::ys76,k74 =>
  (qCZ c y75).bind fun x85 =>
  cond (decide (x85<0))
   (some (.error false))
   (qDN c ys76 (k74+1))
def qDH (c:Code):List Item→Nat→Option Bool
 | [],k1 =>
  some true
 |y2::ys3,k1 =>
  (qDN c y2.names 0).bind fun o72=>qLN o72 fun _ =>
  qDH c ys3 (k1+1)
def qDp (c:Code) (l:List Item):Option Bool :=
 qDH c l 0
theorem qKs (c:Code) (l:List Item) (r:Bool) (hH:qDp c l=some r):qAC prog 184 [.g (ze4 c),.s (List.map ze1 l)] (.v (.bool r)):=by
 refine fns T func184 ?_
 refine gs2 ?_
 refine AO.x (bxs T 1) ?_
 iterate 10 refine gs ?_
 refine AW.loopS (fun s:Nat=>(⟨[(2,.p 1 0),(9,sv ze1 l),(10,(l.length:Int)),(11,(s:Int))],[(1,.box (ze4 c))],28,[]⟩:St)) (fun s=>s≤l.length∧qDH c (l.drop s) s=some r) (fun s=>l.length-s) 0 ⟨Nat.zero_le _,hH⟩ ?_ ?_
 exact Le.ct 0 0
 rintro k1 ⟨hk,hH⟩
 try dsimp only at hH⊢
 refine AW.boundM (t:=9) (l:=l) rfl (fun hb5=>?_)
 rcases hd4:l.drop k1 with _|⟨y2,ys3⟩
 rw[hd4,qDH]at hH
 have hlt6:=qAF hd4
 iterate 12 refine gs ?_
 exact fin
 rw[hd4,qDH]at hH
 have hlt6:=qAG hd4
 refine gs7 ?_
 obtain⟨o72,hH,hK73⟩:=zB hH
 refine AW.seqJ (fun s:Unit=>(⟨[(2,.p 1 0),(9,sv ze1 l),(10,(l.length:Int)),(11,(k1:Int))],[(1,.box (ze4 c))],28,[]⟩:St)) (fun s=>.ok s=o72) ?_ ?_
 refine gs5 ?_
 refine AO.x (als T 7) ?_
 refine AO.se T [sv ze2 y2.names,sv ze0 y2.marks,.v (.bool y2.late)] ?_
 refine gs9 ?_
 refine AW.loopS (fun s:Nat=>(⟨[(2,.p 1 0),(9,sv ze1 l),(10,(l.length:Int)),(11,(k1:Int)),(16,sv ze2 y2.names),(17,(y2.names.length:Int)),(18,(s:Int))],[(1,.box (ze4 c))],28,[]⟩:St)) (fun s=>s≤y2.names.length∧qDN c (y2.names.drop s) s=some o72) (fun s=>y2.names.length-s) 0 ⟨Nat.zero_le _,hH⟩ ?_ ?_
 exact Le.ct 0 0
 rintro k74 ⟨hk,hH⟩
 try dsimp only at hH⊢
 refine AW.boundM (t:=16) (l:=y2.names) rfl (fun hb78=>?_)
 rcases hd77:y2.names.drop k74 with _|⟨y75,ys76⟩
 rw[hd77,qDN]at hH
 have hlt79:=qAF hd77
 refine gs7 ?_
 refine⟨_,zS hH,?_⟩
 exact Le.ct 0 0
 rw[hd77,qDN]at hH
 have hlt79:=qAG hd77
 iterate 16 refine gs ?_
 obtain⟨x85,hx86,hH⟩:=zB hH
 refine gs3 ?_
 refine AO.w (cVs (qFJ _ _ _ (hx86))) ?_
 refine gs2 ?_
 refine AW.cH hH (fun _ hH=>?_) (fun _ hH=>?_)
 refine gs5 ?_
 obtain rfl:=zS hH
 replace hH:=hK73
 exact fin
 refine gs5 ?_
 refine⟨k74+1,⟨hlt79,(zds hd77▸hH)⟩,qCC hlt79,?_⟩
 exact Le.ct 0 0
 rintro _ hs
 subst hs
 replace hH:=hK73
 try dsimp only[qLN,qJm]at hH
 try dsimp only
 refine gs4 ?_
 refine⟨k1+1,⟨hlt6,(zds hd4▸hH)⟩,qCC hlt6,?_⟩
 exact Le.ct 0 0
def qA8 (f:Int→Option Bool):List Int→Nat→Option Int
 | [],k1 =>
  some (-1)
 |y2::ys3,k1 =>
  (f y2).bind fun x12 =>
  cond x12
   (some (k1:Int))
   (qA8 f ys3 (k1+1))
def qFi (sA:List Int) (f:Int→Option Bool):Option Int :=
 qA8 f sA 0
theorem qJ2 (sA:List Int) (f_f:Nat) (f_c:List D) (f_k:f_c.all D.capOk=true) (f:Int→Option Bool) (f_h:∀(a0:Int) (q:Bool),f a0=some q→qAC prog f_f ([.v (.int .i64 a0)]++f_c) (.v (.bool q))) (r:Int) (hH:qFi sA f=some r):qAC prog 336 [.s (List.map ze0 sA),.f f_f f_c] (.v (.int .i64 r)):=by
 have f_r:=qKw f_k
 refine fns T func336 ?_
 refine go ?_
 refine AW.loopS (fun s:Nat=>(⟨[(0,sv ze0 sA),(1,.f f_f f_c),(7,(sA.length:Int)),(8,(s:Int))],[],19,[]⟩:St)) (fun s=>s≤sA.length∧qA8 f (sA.drop s) s=some r) (fun s=>sA.length-s) 0 ⟨Nat.zero_le _,hH⟩ ?_ ?_
 exact Le.cut 0 0 rfl ⟨⟨_,rfl,rfl⟩,⟨_,rfl,qP5 f_r⟩,⟨_,rfl,rfl⟩,⟨_,rfl,rfl⟩,trivial⟩ (by repeat' (first|exact trivial|refine⟨⟨_,rfl,rfl⟩,?_⟩)) (qJR (qMw rfl (qMw (qLH f_r) (qMw rfl (qMw rfl qWN)))) rfl)
 rintro k1 ⟨hk,hH⟩
 try dsimp only at hH⊢
 refine AW.boundM (t:=0) (l:=sA) rfl (fun hb5=>?_)
 rcases hd4:sA.drop k1 with _|⟨y2,ys3⟩
 rw[hd4,qA8]at hH
 have hlt6:=qAF hd4
 refine go ?_
 exact fin
 rw[hd4,qA8]at hH
 have hlt6:=qAG hd4
 refine go ?_
 obtain⟨x12,hx13,hH⟩:=zB hH
 refine go ?_
 refine AO.w (zV rfl rfl rfl (qJR rfl (qNT f_r)) (f_h _ _ (hx13)) rfl) ?_
 refine AO.n (AW.cH hH (fun _ hH=>?_) (fun _ hH=>?_))
 refine go ?_
 exact fin
 refine go ?_
 refine⟨k1+1,⟨hlt6,(zds hd4▸hH)⟩,qCC hlt6,?_⟩
 exact Le.cut 0 0 rfl ⟨⟨_,rfl,rfl⟩,⟨_,rfl,qP5 f_r⟩,⟨_,rfl,rfl⟩,⟨_,rfl,rfl⟩,trivial⟩ (by repeat' (first|exact trivial|refine⟨⟨_,rfl,rfl⟩,?_⟩)) (qJR (qMw rfl (qMw (qLH f_r) (qMw rfl (qMw rfl qWN)))) rfl)
def qDG (sA:List Int) (f:Int→Option Bool):Option Bool :=
 (qFi sA f).bind fun x1 =>
 some (decide (x1≥0))
theorem qI5 (sA:List Int) (f_f:Nat) (f_c:List D) (f_k:f_c.all D.capOk=true) (f:Int→Option Bool) (f_h:∀(a0:Int) (q:Bool),f a0=some q→qAC prog f_f ([.v (.int .i64 a0)]++f_c) (.v (.bool q))) (r:Bool) (hH:qDG sA f=some r):qAC prog 298 [.s (List.map ze0 sA),.f f_f f_c] (.v (.bool r)):=by
 have f_r:=qKw f_k
 refine fns T func298 ?_
 refine go ?_
 obtain⟨x1,hx2,hH⟩:=zB hH
 refine go ?_
 refine AO.w (zV rfl rfl rfl (qJR (qMw rfl (qMw f_r qWN)) rfl) (qJ2 _ f_f f_c f_k f f_h _ (hx2)) rfl) (go ?_)
 exact fin
def qFk (mark:Int):Option Bool :=
 (qAN mark 0 1000).bind fun x1 =>
 (opt x1 default (qAz (25 != 0))).bind fun u3 =>
 some (x1&&((mark.tmod 25)==0))
theorem qJ1 (mark:Int) (r:Bool) (hH:qFk mark=some r):qAC prog 300 [mark] (.v (.bool r)):=by
 refine fns T func300 ?_
 refine go ?_
 obtain⟨x1,hx2,u3,hx4,hH⟩:=qAI hH
 refine go ?_
 refine AO.w (cVs (qAP _ _ _ _ (hx2))) ?_
 refine AO.pu T ?_
 refine AO.g0 T ?_
 refine AO.d1 6 (fun hg=>qRA rfl rfl rfl (neZ (qAS (qEv hx4 hg)))) ?_
 refine AO.g1 T 7 ?_
 refine go ?_
 exact fin
def qC3 (mark:Int):Option Bool :=
 (qFk mark).bind fun x1 =>
 some (!x1)
theorem qMT (mark:Int) (r:Bool) (hH:qC3 mark=some r):qAC prog 299 [mark] (.v (.bool r)):=by
 refine fns T func299 ?_
 refine go ?_
 obtain⟨x1,hx2,hH⟩:=zB hH
 refine go ?_
 refine AO.w (cVs (qJ1 _ _ (hx2))) (go ?_)
 exact fin
def qDI (m:Marks):List (List Int)→Nat→Option Bool
 | [],k20 =>
  some true
 |y21::ys22,k20 =>
  (qAy m).bind fun x35 =>
  (opt (!((y21.length:Int) != x35)) default (qDG y21 (fun a0=>qC3 a0 ))).bind fun x37 =>
  cond (((y21.length:Int) != x35)||x37)
   (some false)
   (qDI m ys22 (k20+1))
def qDQ (m:Marks):List (List Int)→Nat→Option Bool
 | [],k5 =>
  qDI m m.components 0
 |y6::ys7,k5 =>
  (qAy m).bind fun x39 =>
  (opt (!((y6.length:Int) != x39)) default (qCE y6 (-5) 5)).bind fun x41 =>
  cond (((y6.length:Int) != x39)||(!x41))
   (some false)
   (qDQ m ys7 (k5+1))
def qDt (m:Marks):Option Bool :=
 (opt (!(decide ((m.grades.length:Int)>14)||((m.components.length:Int) != 3))) default (qAV m.components 0)).bind fun x1 =>
 (opt (!(decide ((m.grades.length:Int)>14)||((m.components.length:Int) != 3))) default (qAN (x1.length:Int) 3 9)).bind fun x3 =>
 cond ((decide ((m.grades.length:Int)>14)||((m.components.length:Int) != 3))||(!x3))
  (some false)
  (qDQ m m.grades 0)
theorem qIj (m:Marks) (r:Bool) (hH:qDt m=some r):qAC prog 247 [.g (qAf m)] (.v (.bool r)):=by
 refine fns T func247 ?_
 refine go ?_
 refine AO.x (bxs T 1) (go ?_)
 obtain⟨x1,hx2,x3,hx4,hH⟩:=qAI hH
 refine go ?_
 refine AO.g0 T ?_
 refine AO.g1 T 12 ?_
 refine AO.d1 13 (fun hg=>qLn T) ?_
 refine AO.g1 T 14 ?_
 refine go ?_
 refine AO.g0 T ?_
 refine AO.g1 T 18 ?_
 refine AO.d1 19 (fun hg=>ixs T (qEv hx2 hg)) ?_
 refine AO.g1 T 20 ?_
 refine AO.d1 21 (fun hg=>qLn T) ?_
 refine AO.d1 22 (fun hg=>cVs (qAP _ _ _ _ (qEv hx4 hg))) ?_
 refine AO.g1 T 23 ?_
 refine go ?_
 refine AW.cH hH (fun _ hH=>?_) (fun hc hH=>?_)
 refine go ?_
 exact fin
 refine gs9 ?_
 refine AW.le (Le.ct 0 0 (σ':=(⟨[(1,.p 1 0),(27,sv ze3 m.grades),(28,(m.grades.length:Int)),(29,(0:Int))],[(1,.box [sv ze3 m.grades,sv ze3 m.components])],61,[]⟩:St))) ?_
 refine AW.b (AW.loopS (fun s:Nat=>(⟨[(1,.p 1 0),(27,sv ze3 m.grades),(28,(m.grades.length:Int)),(29,(s:Int))],[(1,.box [sv ze3 m.grades,sv ze3 m.components])],61,[]⟩:St)) (fun s=>s≤m.grades.length∧qDQ m (m.grades.drop s) s=some r) (fun s=>m.grades.length-s) 0 ⟨Nat.zero_le _,hH⟩ ?_ ?_)
 exact Le.ct 0 0
 rintro k5 ⟨hk,hH⟩
 try dsimp only at hH⊢
 refine AW.boundM (t:=27) (l:=m.grades) rfl (fun hb9=>?_)
 rcases hd8:m.grades.drop k5 with _|⟨y6,ys7⟩
 rw[hd8,qDQ]at hH
 have hlt10:=qAF hd8
 refine go ?_
 refine AW.loopS (fun s:Nat=>(⟨[(1,.p 1 0),(45,sv ze3 m.components),(46,(m.components.length:Int)),(47,(s:Int))],[(1,.box [sv ze3 m.grades,sv ze3 m.components])],61,[]⟩:St)) (fun s=>s≤m.components.length∧qDI m (m.components.drop s) s=some r) (fun s=>m.components.length-s) 0 ⟨Nat.zero_le _,hH⟩ ?_ ?_
 exact Le.ct 0 0
 rintro k20 ⟨hk,hH⟩
 try dsimp only at hH⊢
 refine AW.boundM (t:=45) (l:=m.components) rfl (fun hb24=>?_)
 rcases hd23:m.components.drop k20 with _|⟨y21,ys22⟩
 rw[hd23,qDI]at hH
 have hlt25:=qAF hd23
 refine go ?_
 exact fin
 rw[hd23,qDI]at hH
 have hlt25:=qAG hd23
 refine go ?_
 obtain⟨x35,hx36,x37,hx38,hH⟩:=qAI hH
 refine go ?_
 refine AO.w (cVs (qEQ _ _ (hx36))) (go ?_)
 refine AO.g0 T ?_
 refine AO.d1 57 (fun hg=>cVs (qI5 _ 299 [] rfl (fun a0=>qC3 a0 ) (fun a0 q h=>qMT a0  q h) _ (qEv hx38 hg))) ?_
 refine go ?_
 refine AW.cH hH (fun _ hH=>?_) (fun hc hH=>?_)
 refine go ?_
 exact fin
 refine go ?_
 refine⟨k20+1,⟨hlt25,(zds hd23▸hH)⟩,qCC hlt25,?_⟩
 exact Le.ct 0 0
 rw[hd8,qDQ]at hH
 have hlt10:=qAG hd8
 refine go ?_
 obtain⟨x39,hx40,x41,hx42,hH⟩:=qAI hH
 refine go ?_
 refine AO.w (cVs (qEQ _ _ (hx40))) (go ?_)
 refine AO.g0 T ?_
 refine AO.d1 39 (fun hg=>cVs (qGD _ _ _ _ (qEv hx42 hg))) ?_
 refine AO.g1 T 40 ?_
 refine go ?_
 refine AW.cH hH (fun _ hH=>?_) (fun _ hH=>?_)
 refine go ?_
 exact fin
 refine go ?_
 refine⟨k5+1,⟨hlt10,(zds hd8▸hH)⟩,qCC hlt10,?_⟩
 exact Le.ct 0 0
def qIu (m:Marks) (items:Int):Option Bool :=
 (qDt m).bind fun x1 =>
 some (x1&&((m.grades.length:Int)==items))
theorem qNw (m:Marks) (items:Int) (r:Bool) (hH:qIu m items=some r):qAC prog 185 [.g (qAf m),items] (.v (.bool r)):=by
 refine fns T func185 ?_
 refine go ?_
 refine AO.x (bxs T 1) (go ?_)
 obtain⟨x1,hx2,hH⟩:=zB hH
 refine go ?_
 refine AO.w (cVs (qIj _ _ (hx2))) ?_
 refine AO.pu T ?_
 refine AO.g0 T ?_
 refine AO.g1 T 8 ?_
 refine AO.d1 9 (fun hg=>qLn T) ?_
 refine AO.g0 T ?_
 refine AO.g2 T 10 11 ?_
 refine go ?_
 exact fin
def qJ6 (c:Code) (l:List Item) (m:Marks):Option Bool :=
 (qDp c l).bind fun x1 =>
 (opt x1 default (qIu m (l.length:Int))).bind fun x3 =>
 some (x1&&x3)
theorem qPa (c:Code) (l:List Item) (m:Marks) (r:Bool) (hH:qJ6 c l m=some r):qAC prog 127 [.g (ze4 c),.s (List.map ze1 l),.g (qAf m)] (.v (.bool r)):=by
 refine fns T func127 ?_
 refine go ?_
 refine AO.x (bxs T 1) ?_
 refine AO.x (bxs T 2) (go ?_)
 obtain⟨x1,hx2,x3,hx4,hH⟩:=qAI hH
 refine go ?_
 refine AO.w (cVs (qKs _ _ _ (hx2))) ?_
 refine AO.pu T ?_
 refine AO.g T (d:=.g [sv ze3 m.grades,sv ze3 m.components]) [] rfl trivial rfl rfl ?_
 refine AO.g0 T ?_
 refine AO.d1 12 (fun hg=>qLn T) ?_
 refine AO.d2 11 13 (fun hg=>cVs (qNw _ _ _ (qEv hx4 hg))) ?_
 refine go ?_
 exact fin
def qIE (fl:Nat) (c:Code) (l:List Item) (m:Marks):Option Bool :=
 (qBG fl c).bind fun x1 =>
 (opt x1 default (qE0 fl l)).bind fun x3 =>
 (opt (x1&&x3) default (qJ6 c l m)).bind fun x5 =>
 some ((x1&&x3)&&x5)
theorem qNG (fl:Nat) (c:Code) (l:List Item) (m:Marks) (r:Bool) (hH:qIE fl c l m=some r):qAC prog 99 [.g (ze4 c),.s (List.map ze1 l),.g (qAf m)] (.v (.bool r)):=by
 refine fns T func99 ?_
 refine go ?_
 refine AO.x (bxs T 1) ?_
 refine AO.x (bxs T 2) (go ?_)
 obtain⟨x1,hx2,x3,hx4,x5,hx6,hH⟩:=qBB hH
 refine go ?_
 refine AO.w (cVs (qFg fl _ _ (hx2))) ?_
 refine AO.pu T ?_
 refine AO.g0 T ?_
 refine AO.d1 10 (fun hg=>cVs (qKP fl _ _ (qEv hx4 hg))) ?_
 refine go ?_
 refine AO.g T (d:=.g (ze4 c)) [] rfl trivial rfl rfl ?_
 refine AO.g0 T ?_
 refine AO.g T (d:=.g [sv ze3 m.grades,sv ze3 m.components]) [] rfl trivial rfl rfl ?_
 refine AO.d [14,15,16] rfl ⟨fun h=>h,fun h=>h,fun h=>h,trivial⟩ (fun hg=>cVs (qPa _ _ _ _ (qEv hx6 hg))) rfl ?_
 refine go ?_
 exact fin
def qEF (sA:Slips):Option Bool :=
 (qAN sA.falls 0 9).bind fun x1 =>
 (opt x1 default (qAN sA.seconds 0 60)).bind fun x3 =>
 (opt (x1&&x3) default (qAN sA.other 0 500)).bind fun x5 =>
 some ((x1&&x3)&&x5)
theorem qKS (sA:Slips) (r:Bool) (hH:qEF sA=some r):qAC prog 100 [.g (qOF sA)] (.v (.bool r)):=by
 refine fns T func100 ?_
 refine go ?_
 refine AO.x (bxs T 1) (go ?_)
 obtain⟨x1,hx2,x3,hx4,x5,hx6,hH⟩:=qBB hH
 refine go ?_
 refine AO.w (cVs (qAP _ _ _ _ (hx2))) ?_
 refine AO.pu T ?_
 refine AO.g0 T ?_
 refine AO.g1 T 7 ?_
 refine AO.d1 8 (fun hg=>cVs (qAP _ _ _ _ (qEv hx4 hg))) ?_
 refine go ?_
 refine AO.g0 T ?_
 refine AO.g1 T 12 ?_
 refine AO.d1 13 (fun hg=>cVs (qAP _ _ _ _ (qEv hx6 hg))) ?_
 refine go ?_
 exact fin
def qBj (fl:Nat) (c:Code) (p:Performance):Option Bool :=
 (qIE fl c p.items p.marks).bind fun x1 =>
 (opt x1 default (qEF p.slips)).bind fun x3 =>
 some (x1&&x3)
theorem qH1 (fl:Nat) (c:Code) (p:Performance) (r:Bool) (hH:qBj fl c p=some r):qAC prog 71 [.g (ze4 c),.g (qHY p)] (.v (.bool r)):=by
 refine fns T func71 ?_
 refine go ?_
 refine AO.x (bxs T 1) ?_
 refine AO.x (bxs T 2) (go ?_)
 obtain⟨x1,hx2,x3,hx4,hH⟩:=qAI hH
 refine go ?_
 refine AO.w (cVs (qNG fl _ _ _ _ (hx2))) ?_
 refine AO.pu T ?_
 refine AO.g0 T ?_
 refine AO.g T (d:=.g [p.slips.falls,p.slips.seconds,p.slips.other]) [12] rfl ⟨fun h=>h,trivial⟩ rfl rfl ?_
 refine AO.d1 13 (fun hg=>cVs (qKS _ _ (qEv hx4 hg))) ?_
 refine go ?_
 exact fin
def qBM (fl:Nat) (sA:ScriptState) (text:ByteArray):Option (ScriptState×ByteArray) :=
 (qGn fl text).bind fun x1 =>
 cond (!x1.2)
  (some (sA,(⟨#[110,111]⟩:ByteArray)))
  ((qFS sA.performance.items).bind fun x3 =>
  (qAz (qAh 56 (x3.length+([x1.1]).length))).bind fun u5 =>
  (qCy sA.performance.marks).bind fun x7 =>
  (qAy x7).bind fun x9 =>
  (qAz (decide (0≤x9)&&qAh 8 x9.toNat)).bind fun u11 =>
  (qAz (qAh 24 (x7.grades.length+([(List.replicate x9.toNat (0:Int))]).length))).bind fun u13 =>
  (qBj fl sA.code (Performance.mk (x3++[x1.1]) (Marks.mk (x7.grades++[(List.replicate x9.toNat (0:Int))]) x7.components) sA.performance.slips)).bind fun x15 =>
  cond (!x15)
   (some (sA,(⟨#[110,111]⟩:ByteArray)))
   (some ((ScriptState.mk sA.code (Performance.mk (x3++[x1.1]) (Marks.mk (x7.grades++[(List.replicate x9.toNat (0:Int))]) x7.components) sA.performance.slips) sA.factor sA.results),(⟨#[111,107]⟩:ByteArray))))
theorem qIi (fl:Nat) (sA:ScriptState) (text:ByteArray) (r:(ScriptState×ByteArray)) (hH:qBM fl sA text=some r):qF3 prog 112 [.pn (qHp sA),.v (.string text)] [.pn (qHp r.1),.u] (.v (.string r.2)):=by
 refine qFN T func112 rfl (by decide) rfl rfl [.p 1 0,.v (.string text)] [(1,.box (qH4 sA 2)),(2,.row 2 (List.map qGA sA.results))] 3 (by kernel_rfl) [1] rfl rfl ?_
 intro L
 show AW _ _ _ (⟨[(0,.p 1 0),(1,.v (.string text))],[(1,.box (qH4 sA 2)),(2,.row 2 (List.map qGA sA.results))],58,[(1,L 1)]⟩:St)
 refine AW.q (AW.r (AO.pu T ?_))
 refine AO.n (AW.q ?_)
 obtain⟨x1,hx2,hH⟩:=zB hH
 refine AW.r (AO.pu T ?_)
 refine AO.x (qAU rfl 3 rfl rfl rfl (qNP fl _ _ (hx2)) rfl rfl rfl) ?_
 refine AO.pu T ?_
 refine AO.pu T (d:=.g [.R 3,.R 4,.v (.bool x1.1.late)]) ?_
 refine AO.pu T ?_
 refine AO.x (als T 5) ?_
 refine AO.se T [.R 3,.R 4,.v (.bool x1.1.late)] ?_
 refine AO.pu T ?_
 refine AO.n (AW.q (AW.q ?_))
 refine AW.r (AO.p2 T ?_)
 refine AO.n (AW.c (b:=(!x1.2)) rfl (fun hc=>?_) (fun hc=>?_))
 replace hH:=condT hc hH
 refine AW.q (AW.r (AO.pu T ?_))
 refine AO.n (AW.t ?_)
 have hR:=zS hH;subst hR
 exact⟨trivial,rfl,_,[],[1,2],rfl,zG (.pb rfl (qAJ rfl)) (zG (.c .u) (zGn)),.c (.c .v),by decide⟩
 replace hH:=condF hc hH
 refine AW.k (AW.q ?_)
 obtain⟨x3,hx4,hH⟩:=zB hH
 obtain⟨u5,hx6,hH⟩:=zB hH
 obtain⟨x7,hx8,hH⟩:=zB hH
 refine AW.le (Le.fM 3 (g:=ze2) rfl (fun y=>.vs rfl)) ?_
 refine AW.le (Le.fM 4 (g:=ze0) rfl (fun y=>.vs rfl)) ?_
 refine AW.drawn 22 6 [] mix (by kernel_rfl) rfl ?_
 iterate 5 refine AD.pu T ?_
 refine AD.q (FStep.frzInE (k0:=6) (sz:=3) (l:=x3) (p:=qCU) (q:=ze1) (fun y=>qGs y) (FStep.call rfl rfl rfl rfl rfl (qHe _ _ (hx4)) rfl rfl) rfl) (by simp[qAu];exact Nat.lt_succ_self _) (Nat.le_succ _) rfl ?_
 refine AD.p T (d:=.g [.s (List.map ze2 x1.1.names),.s (List.map ze0 x1.1.marks),.v (.bool x1.1.late)]) rfl rfl rfl ?_
 refine AD.q (FStep.mk T (f:=ze1) (l:=[x1.1]) rfl rfl rfl rfl rfl rfl rfl rfl rfl (fun _=>rfl) rfl rfl rfl rfl) (by simp[qAu]) (Nat.le_succ _) rfl ?_
 refine AD.kk (FStep.app_rv T rfl rfl rfl rfl rfl rfl rfl (by decide) rfl rfl rfl rfl (fun _=>rfl) (qAS (hx6)) rfl) ?_
 iterate 4 refine AD.pu T ?_
 refine AD.p T (d:=.g [.s (List.map ze3 sA.performance.marks.grades),.s (List.map ze3 sA.performance.marks.components)]) rfl rfl rfl ?_
 refine AD.q (FStep.call rfl rfl rfl rfl rfl (qF0 _ _ (hx8)) rfl rfl) (qBF _ _) (qDh _ _) rfl ?_
 iterate 4 refine AD.pu T ?_
 refine AD.p T (d:=.g [sA.performance.slips.falls,sA.performance.slips.seconds,sA.performance.slips.other]) rfl rfl rfl ?_
 refine AD.pured T (d:=.g [.R 8,.R 9,.R 10,sA.performance.slips.falls,sA.performance.slips.seconds,sA.performance.slips.other]) rfl rfl rfl rfl ?_
 refine AD.q (FStep.alloc T rfl rfl rfl rfl rfl rfl) (by simp[qAu]) (Nat.le_succ _) rfl ?_
 refine AD.nil (AO.se T [.R 8,.R 9,.R 10,sA.performance.slips.falls,sA.performance.slips.seconds,sA.performance.slips.other] ?_)
 refine AO.n (AW.le (Le.ct 0 0 (σ':=(⟨[(0,.p 1 0),(7,.p 11 0)],[(1,.box (qH4 sA 2)),(2,.row 2 (List.map qGA sA.results)),(8,.row 3 (List.map ze1 (x3++[x1.1]))),(9,.row 1 (List.map ze8 x7.grades)),(10,.row 1 (List.map ze8 x7.components)),(11,.box [.R 8,.R 9,.R 10,sA.performance.slips.falls,sA.performance.slips.seconds,sA.performance.slips.other])],58,[(1,L 1)]⟩:St)) (hpin:=⟨⟨rfl,rfl⟩,trivial⟩)) ?_)
 refine AW.q ?_
 obtain⟨x9,hx10,hH⟩:=zB hH
 obtain⟨u11,hx12,hH⟩:=zB hH
 obtain⟨u13,hx14,hH⟩:=zB hH
 refine AW.drawn 8 12 [] mix (by kernel_rfl) rfl ?_
 iterate 4 refine AD.pu T ?_
 refine AD.p T (d:=.g [.R 9,.R 10]) rfl rfl rfl ?_
 refine AD.vv (zLV rfl rfl rfl (es:=[.g (qAf x7)]) ⟨qIK (LendL.cons ((.rowR rfl (.map fun y=>qAl y))) (LendL.cons ((.rowR rfl (.map fun y=>qAl y))) LendL.nil)),trivial⟩ (qEQ _ _ (hx10)) (qAc _) rfl) ?_
 refine AD.q (FStep.make T rfl rfl rfl rfl rfl rfl rfl (f:=ze0) (zo:=0) (by repeat constructor) (by decide) rfl rfl (Bool.and_eq_true_iff.1 (qAS (hx12))).1 (Bool.and_eq_true_iff.1 (qAS (hx12))).2 rfl) (by simp[qAu]) (Nat.le_succ _) rfl ?_
 refine AD.kk (FStep.mk_o T rfl rfl rfl rfl rfl rfl rfl rfl (f:=ze8) (l:=[(List.replicate x9.toNat (0:Int))]) (ids:=[12]) rfl rfl (fun _=>rfl) (by exact zC (.rowR rfl) (zCn)) (by decide) rfl rfl rfl rfl) ?_
 refine AD.nil (AO.x (qE2 T rfl 14 rfl rfl rfl rfl rfl (by decide) rfl rfl rfl rfl rfl (qAS (hx14)) rfl rfl) ?_)
 refine AO.p2 T ?_
 refine AO.se T [.R 8,.R 14,.R 10,sA.performance.slips.falls,sA.performance.slips.seconds,sA.performance.slips.other] ?_
 refine AO.n (AW.q (AW.q ?_))
 obtain⟨x15,hx16,hH⟩:=zB hH
 refine AW.drawn 5 15 [] mix (by kernel_rfl) rfl ?_
 iterate 3 refine AD.pu T ?_
 refine AD.p T (d:=.g (ze4 sA.code)) rfl rfl rfl ?_
 refine AD.p T (d:=.g [.R 8,.R 14,.R 10,sA.performance.slips.falls,sA.performance.slips.seconds,sA.performance.slips.other]) rfl rfl rfl ?_
 refine AD.nil (AO.w (zLV rfl rfl rfl (es:=[.g (ze4 sA.code),.g (qHY (Performance.mk (x3++[x1.1]) (Marks.mk (x7.grades++[(List.replicate x9.toNat (0:Int))]) x7.components) sA.performance.slips))]) ⟨.free rfl,qIK (LendL.cons ((.rowR rfl (.map fun y=>.vs rfl))) (LendL.cons ((.rowR rfl (.map fun y=>qAl y))) (LendL.cons ((.rowR rfl (.map fun y=>qAl y))) (LendL.cons (.free rfl) (LendL.cons (.free rfl) (LendL.cons (.free rfl) LendL.nil)))))),trivial⟩ (qH1 fl _ _ _ (hx16)) (qAc _) rfl) ?_)
 refine AO.pu T ?_
 refine AO.n (AW.c (b:=(!x15)) rfl (fun hc=>?_) (fun hc=>?_))
 replace hH:=condT hc hH
 refine AW.q (AW.r (AO.pu T ?_))
 refine AO.n (AW.t ?_)
 have hR:=zS hH;subst hR
 exact⟨trivial,rfl,_,[],[1,2],rfl,zG (.pb rfl (qAJ rfl)) (zG (.c .u) (zGn)),.c (.c .v),by decide⟩
 replace hH:=condF hc hH
 refine AW.k (AW.q (AW.r ?_))
 refine AO.pu T ?_
 refine AO.pu T (d:=.g [.R 8,.R 14,.R 10,sA.performance.slips.falls,sA.performance.slips.seconds,sA.performance.slips.other]) ?_
 refine AO.p2 T ?_
 refine AO.se T [.s (List.map ze5 sA.code.elements),.s (List.map ze0 sA.code.limits),sA.code.repeats,sA.code.bonus,sA.code.keeps,sA.code.fall,.R 8,.R 14,.R 10,sA.performance.slips.falls,sA.performance.slips.seconds,sA.performance.slips.other,sA.factor,.R 2] ?_
 refine AO.n (AW.le (Le.ct 0 0 (σ':=(⟨[],[(1,.box [.s (List.map ze5 sA.code.elements),.s (List.map ze0 sA.code.limits),sA.code.repeats,sA.code.bonus,sA.code.keeps,sA.code.fall,.R 8,.R 14,.R 10,sA.performance.slips.falls,sA.performance.slips.seconds,sA.performance.slips.other,sA.factor,.R 2]),(2,.row 2 (List.map qGA sA.results)),(8,.row 3 (List.map ze1 (x3++[x1.1]))),(10,.row 1 (List.map ze8 x7.components)),(14,.row 1 (List.map ze8 (x7.grades++[(List.replicate x9.toNat (0:Int))])))],58,[(1,L 1)]⟩:St)) (hpin:=⟨⟨rfl,rfl⟩,trivial⟩)) ?_)
 refine AW.q (AW.r (AO.pu T ?_))
 refine AO.n (AW.le (Le.fM 10 (g:=ze3) rfl (fun y=>qAl y)) ?_)
 refine AW.le (Le.fM 14 (g:=ze3) rfl (fun y=>qAl y)) ?_
 refine AW.le (Le.fM 8 (g:=ze1) rfl (fun y=>.vs rfl)) ?_
 refine AW.t ?_
 have hR:=zS hH;subst hR
 exact⟨trivial,rfl,_,[],[1,2],rfl,zG (.pb rfl (qAJ rfl)) (zG (.c .u) (zGn)),.c (.c .v),by decide⟩
def qFI (command:ByteArray):Option (ByteArray×Bool) :=
 cond (decide (command=(⟨#[101,108,101,109,101,110,116]⟩:ByteArray)))
  (some ((⟨#[119,110,110,110]⟩:ByteArray),true))
  (cond (decide (command=(⟨#[108,105,109,105,116]⟩:ByteArray)))
   (some ((⟨#[110,110]⟩:ByteArray),true))
   (cond (decide (command=(⟨#[114,117,108,101,115]⟩:ByteArray)))
    (some ((⟨#[110,110,110,110]⟩:ByteArray),true))
    (cond (decide (command=(⟨#[106,117,100,103,101,115]⟩:ByteArray)))
     (some ((⟨#[110]⟩:ByteArray),true))
     (cond (decide (command=(⟨#[102,97,99,116,111,114]⟩:ByteArray)))
      (some ((⟨#[110]⟩:ByteArray),true))
      (cond (decide (command=(⟨#[114,97,110,103,101]⟩:ByteArray)))
       (some ((⟨#[110]⟩:ByteArray),true))
       (cond (decide (command=(⟨#[115,107,97,116,101,114]⟩:ByteArray)))
        (some ((⟨#[110]⟩:ByteArray),true))
        (cond (decide (command=(⟨#[103,114,97,100,101]⟩:ByteArray)))
         (some ((⟨#[110,110,103]⟩:ByteArray),true))
         (cond (decide (command=(⟨#[99,111,109,112,111,110,101,110,116]⟩:ByteArray)))
          (some ((⟨#[110,110,110]⟩:ByteArray),true))
          (cond (decide (command=(⟨#[115,108,105,112,115]⟩:ByteArray)))
           (some ((⟨#[110,110,110]⟩:ByteArray),true))
           (cond (decide (command=(⟨#[99,97,108,108]⟩:ByteArray)))
            (some ((⟨#[110,110,109]⟩:ByteArray),true))
            (cond (decide (command=(⟨#[108,97,116,101]⟩:ByteArray)))
             (some ((⟨#[]⟩:ByteArray),true))
             (cond (decide (command=(⟨#[99,104,101,99,107]⟩:ByteArray)))
              (some ((⟨#[]⟩:ByteArray),true))
              (cond (decide (command=(⟨#[98,97,115,101]⟩:ByteArray)))
               (some ((⟨#[]⟩:ByteArray),true))
               (cond (decide (command=(⟨#[115,99,111,114,101]⟩:ByteArray)))
                (some ((⟨#[]⟩:ByteArray),true))
                (cond (decide (command=(⟨#[98,111,117,110,100]⟩:ByteArray)))
                 (some ((⟨#[]⟩:ByteArray),true))
                 (cond (decide (command=(⟨#[98,101,115,116]⟩:ByteArray)))
                  (some ((⟨#[]⟩:ByteArray),true))
                  (cond (decide (command=(⟨#[112,108,97,99,101,115]⟩:ByteArray)))
                   (some ((⟨#[]⟩:ByteArray),true))
                   (some ((⟨#[]⟩:ByteArray),false)))))))))))))))))))
theorem qPU (command:ByteArray) (r:(ByteArray×Bool)) (hH:qFI command=some r):qAC prog 114 [.v (.string command)] (.t [.v (.string r.1),.v (.bool r.2)]):=by
 refine fns T func114 ?_
 refine go ?_
 refine AW.cH hH (fun _ hH=>?_) (fun _ hH=>?_)
 refine go ?_
 exact fin
 refine go ?_
 refine AW.cH hH (fun _ hH=>?_) (fun _ hH=>?_)
 refine go ?_
 exact fin
 refine go ?_
 refine AW.cH hH (fun _ hH=>?_) (fun _ hH=>?_)
 refine go ?_
 exact fin
 refine go ?_
 refine AW.cH hH (fun hc4 hH=>?_) (fun _ hH=>?_)
 refine AW.k (AW.condT' rfl hc4 ?_)
 refine go ?_
 exact fin
 refine go ?_
 refine AW.cH hH (fun hc5 hH=>?_) (fun _ hH=>?_)
 refine AW.k (AW.condT' rfl hc5 ?_)
 refine go ?_
 exact fin
 refine go ?_
 refine AW.cH hH (fun hc6 hH=>?_) (fun _ hH=>?_)
 refine AW.k (AW.condT' rfl hc6 ?_)
 refine go ?_
 exact fin
 refine go ?_
 refine AW.cH hH (fun _ hH=>?_) (fun _ hH=>?_)
 refine go ?_
 exact fin
 refine go ?_
 refine AW.cH hH (fun _ hH=>?_) (fun _ hH=>?_)
 refine go ?_
 exact fin
 refine go ?_
 refine AW.cH hH (fun hc9 hH=>?_) (fun _ hH=>?_)
 refine AW.k (AW.condT' rfl hc9 ?_)
 refine go ?_
 exact fin
 refine go ?_
 refine AW.cH hH (fun _ hH=>?_) (fun _ hH=>?_)
 refine gs5 ?_
 refine AW.le (Le.ct 0 0 (σ':=(⟨[(2,.v (.string (⟨#[110,110,110]⟩:ByteArray))),(3,.v (.bool true))],[],31,[]⟩:St))) ?_
 refine AW.t ?_
 exact fin
 refine gs5 ?_
 refine AW.le (Le.ct 0 0 (σ':=(⟨[(4,.v (.string command)),(21,.v (.bool (decide (command=(⟨#[99,97,108,108]⟩:ByteArray)))))],[],31,[]⟩:St))) ?_
 refine AW.cH hH (fun _ hH=>?_) (fun _ hH=>?_)
 refine go ?_
 exact fin
 refine go ?_
 refine AW.cH hH (fun hc12 hH=>?_) (fun _ hH=>?_)
 refine AW.k (AW.condT' rfl hc12 ?_)
 refine go ?_
 exact fin
 refine go ?_
 refine AW.cH hH (fun hc13 hH=>?_) (fun _ hH=>?_)
 refine AW.k (AW.condT' rfl hc13 ?_)
 refine go ?_
 exact fin
 refine go ?_
 refine AW.cH hH (fun hc14 hH=>?_) (fun _ hH=>?_)
 refine AW.k (AW.condT' rfl hc14 ?_)
 refine go ?_
 exact fin
 refine go ?_
 refine AW.cH hH (fun hc15 hH=>?_) (fun _ hH=>?_)
 refine AW.k (AW.condT' rfl hc15 ?_)
 refine go ?_
 exact fin
 refine go ?_
 refine AW.cH hH (fun hc16 hH=>?_) (fun _ hH=>?_)
 refine AW.k (AW.condT' rfl hc16 ?_)
 refine go ?_
 exact fin
 refine go ?_
 refine AW.cH hH (fun hc17 hH=>?_) (fun _ hH=>?_)
 refine AW.k (AW.condT' rfl hc17 ?_)
 refine go ?_
 exact fin
 refine go ?_
 refine AW.cH hH (fun _ hH=>?_) (fun _ hH=>?_)
 refine go ?_
 exact fin
 refine go ?_
 exact fin
def qDY (sA:ByteArray):Nat→Int→Int→Option ((Int×Bool))
 |0,_,_=>none
 |k4+1,v11,v12 =>
  cond (decide (v12<(sA.size:Int)))
   ((qNk sA v12).bind fun b14 =>
   cond (decide ((b14.toNat:Int)<48)||decide ((b14.toNat:Int)>57))
    (some (0,false))
    (qDY sA k4 (w64 ((w64 (10*v11))+(IntKind.wrap .i64 (IntKind.wrap .u8 ((b14.toNat:Int)-48))))) (w64 (v12+1))))
   (some (v11,true))
def qGW (fl:Nat) (sA:ByteArray):Option (Int×Bool) :=
 (opt ((!(decide (sA=(⟨#[]⟩:ByteArray))||decide ((sA.size:Int)>12)))&&decide ((sA.size:Int)>1)) default (qNk sA 0)).bind fun b1 =>
 cond ((decide (sA=(⟨#[]⟩:ByteArray))||decide ((sA.size:Int)>12))||(decide ((sA.size:Int)>1)&&((b1.toNat:Int)==48)))
  (some (0,false))
  (qDY sA fl 0 0)
theorem qKc (fl:Nat) (sA:ByteArray) (r:(Int×Bool)) (hH:qGW fl sA=some r):qAC prog 157 [.v (.string sA)] (.t [.v (.int .i64 r.1),.v (.bool r.2)]):=by
 refine fns T func157 ?_
 refine go ?_
 obtain⟨b1,hx2,hH⟩:=zB hH
 refine go ?_
 refine AO.g0 T ?_
 refine AO.g1 T 9 ?_
 refine AO.g1 T 10 ?_
 refine go ?_
 refine AO.g0 T ?_
 refine AO.g1 T 14 ?_
 refine AO.g1 T 15 ?_
 refine AO.g1 T 16 ?_
 refine AO.g0 T ?_
 refine AO.d1 18 (fun hg=>qBL T rfl rfl rfl rfl (qEv hx2 hg)) ?_
 refine AO.g1 T 19 ?_
 refine AO.d [17] rfl ⟨fun h=>h,trivial⟩ (fun hg=>zN rfl rfl rfl (by rw[hg];exact Bool.true_and _)) rfl ?_
 refine go ?_
 refine AW.cH hH (fun _ hH=>?_) (fun _ hH=>?_)
 refine go ?_
 exact fin
 refine go ?_
 refine AW.loopS (fun s:Nat×Int×Int=>(⟨[(0,.v (.string sA)),(4,s.2.1),(5,s.2.2)],[],48,[]⟩:St)) (fun s=>qDY sA s.1 s.2.1 s.2.2=some r) (fun s=>s.1) (fl,0,0) hH ?_ ?_
 exact Le.ct 0 0
 rintro⟨k4,v11,v12⟩ hH
 try dsimp only at hH⊢
 rcases k4 with _|k4
 cases (show none=some _ from hH)
 rw[qDY]at hH
 refine go ?_
 refine AW.cH hH (fun hc hH=>?_) (fun _ hH=>?_)
 refine go ?_
 obtain⟨b14,hx15,hH⟩:=zB hH
 refine go ?_
 refine AO.w (qBL T rfl rfl rfl rfl (hx15)) (go ?_)
 refine AO.g0 T ?_
 refine AO.g0 T ?_
 refine AO.d2 34 35 (fun hg=>qBL T rfl rfl rfl rfl (hx15)) ?_
 refine AO.g1 T 36 ?_
 refine go ?_
 refine AW.cH hH (fun _ hH=>?_) (fun hc hH=>?_)
 refine go ?_
 exact fin
 refine go ?_
 refine AO.w (qBL T rfl rfl rfl rfl (hx15)) ?_
 refine AO.w aws ?_
 refine AO.w (qOQ T rfl rfl rfl rfl) (go ?_)
 refine⟨(k4,w64 ((w64 (10*v11))+(IntKind.wrap .i64 (IntKind.wrap .u8 ((b14.toNat:Int)-48)))),w64 (v12+1)),hH,Nat.lt_succ_self _,?_⟩
 exact Le.ct 0 0
 refine go ?_
 exact fin
def qJW (fl:Nat) (sA:ByteArray):Option (Int×Bool) :=
 (qBf sA (⟨#[45]⟩:ByteArray)).bind fun x1 =>
 (qGW fl x1.1).bind fun x3 =>
 cond ((!x3.2)||(x1.2&&(x3.1==0)))
  (some (0,false))
  (cond x1.2
   (some (w64 (-x3.1),true))
   (some (x3.1,true)))
theorem qPC (fl:Nat) (sA:ByteArray) (r:(Int×Bool)) (hH:qJW fl sA=some r):qAC prog 158 [.v (.string sA)] (.t [.v (.int .i64 r.1),.v (.bool r.2)]):=by
 refine fns T func158 ?_
 refine go ?_
 obtain⟨x1,hx2,hH⟩:=zB hH
 refine go ?_
 refine AO.w (cVs (qII _ _ _ (hx2))) (go ?_)
 obtain⟨x3,hx4,hH⟩:=zB hH
 refine go ?_
 refine AO.w (cVs (qKc fl _ _ (hx4))) (go ?_)
 refine AO.g0 T ?_
 refine AO.g1 T 21 ?_
 refine AO.g0 T ?_
 refine AO.g1 T 23 ?_
 refine AO.d [22] rfl ⟨fun h=>h,trivial⟩ (fun hg=>zN rfl rfl rfl (by rw[hg];exact Bool.true_and _)) rfl ?_
 refine gs2 ?_
 refine AW.le (Le.ct 0 0 (σ':=(⟨[(5,.v (.bool x1.2)),(6,x3.1),(26,.v (.bool ((!x3.2)||(x1.2&&(x3.1==0)))))],[],31,[]⟩:St))) ?_
 refine AW.cH hH (fun _ hH=>?_) (fun hc hH=>?_)
 refine go ?_
 exact fin
 refine go ?_
 refine AW.cH hH (fun _ hH=>?_) (fun _ hH=>?_)
 refine go ?_
 refine AO.w (qOm rfl rfl) (go ?_)
 exact fin
 refine go ?_
 exact fin
def qKm (n:Int):Option Int :=
 some (max n (w64 (-n)))
theorem qQR (n:Int) (r:Int) (hH:qKm n=some r):qAC prog 159 [n] (.v (.int .i64 r)):=by
 refine fns T func159 ?_
 refine go ?_
 refine AO.w (qOm rfl rfl) ?_
 refine AO.w (qRB rfl rfl rfl) (go ?_)
 exact fin
def qAT (v:ByteArray):List ByteArray→Nat→Option Int
 | [],k1 =>
  some (-1)
 |y2::ys3,k1 =>
  cond (decide (v=y2))
   (some (k1:Int))
   (qAT v ys3 (k1+1))
def qHy (sA:List ByteArray) (v:ByteArray):Option Int :=
 qAT v sA 0
theorem qKV (sA:List ByteArray) (v:ByteArray) (r:Int) (hH:qHy sA v=some r):qAC prog 160 [.s (List.map ze2 sA),.v (.string v)] (.v (.int .i64 r)):=by
 refine fns T func160 ?_
 refine go ?_
 refine AW.loopS (fun s:Nat=>(⟨[(0,sv ze2 sA),(1,.v (.string v)),(7,(sA.length:Int)),(8,(s:Int))],[],19,[]⟩:St)) (fun s=>s≤sA.length∧qAT v (sA.drop s) s=some r) (fun s=>sA.length-s) 0 ⟨Nat.zero_le _,hH⟩ ?_ ?_
 exact Le.ct 0 0
 rintro k1 ⟨hk,hH⟩
 try dsimp only at hH⊢
 refine AW.boundM (t:=0) (l:=sA) rfl (fun hb5=>?_)
 rcases hd4:sA.drop k1 with _|⟨y2,ys3⟩
 rw[hd4,qAT]at hH
 have hlt6:=qAF hd4
 refine go ?_
 exact fin
 rw[hd4,qAT]at hH
 have hlt6:=qAG hd4
 refine go ?_
 refine AW.cH hH (fun _ hH=>?_) (fun _ hH=>?_)
 refine go ?_
 exact fin
 refine go ?_
 refine⟨k1+1,⟨hlt6,(zds hd4▸hH)⟩,qCC hlt6,?_⟩
 exact Le.ct 0 0
def qCl (fl:Nat) (form:Int) (word:ByteArray):Option (Int×Bool) :=
 cond (form==110)
  ((qGW fl word).bind fun x1 =>
  some (x1.1,(x1.2&&decide (x1.1≤9999))))
  (cond (form==103)
   ((qJW fl word).bind fun x3 =>
   (opt x3.2 default (qKm x3.1)).bind fun x5 =>
   some (x3.1,(x3.2&&decide (x5≤9999))))
   (cond (form==109)
    ((qHy [(⟨#[110,111,110,101]⟩:ByteArray),(⟨#[100,111,119,110]⟩:ByteArray),(⟨#[101,100,103,101]⟩:ByteArray),(⟨#[118,111,105,100]⟩:ByteArray)] word).bind fun x7 =>
    some (x7,decide (x7≥0)))
    (some (0,true))))
theorem qNv (fl:Nat) (form:Int) (word:ByteArray) (r:(Int×Bool)) (hH:qCl fl form word=some r):qAC prog 115 [.v (.int .u8 form),.v (.string word)] (.t [.v (.int .i64 r.1),.v (.bool r.2)]):=by
 refine fns T func115 ?_
 refine go ?_
 refine AW.cH hH (fun _ hH=>?_) (fun hc hH=>?_)
 refine AW.q ?_
 obtain⟨x1,hx2,hH⟩:=zB hH
 refine go ?_
 refine AO.w (cVs (qKc fl _ _ (hx2))) (go ?_)
 refine AO.g0 T ?_
 refine AO.g1 T 22 ?_
 refine go ?_
 exact fin
 refine go ?_
 refine AW.cH hH (fun _ hH=>?_) (fun hc hH=>?_)
 refine AW.q ?_
 obtain⟨x3,hx4,hH⟩:=zB hH
 refine go ?_
 refine AO.w (cVs (qPC fl _ _ (hx4))) (go ?_)
 obtain⟨x5,hx6,hH⟩:=zB hH
 refine go ?_
 refine AO.g0 T ?_
 refine AO.d1 35 (fun hg=>cVs (qQR _ _ (qEv hx6 hg))) ?_
 refine AO.g1 T 36 ?_
 refine go ?_
 exact fin
 refine go ?_
 refine AW.cH hH (fun _ hH=>?_) (fun _ hH=>?_)
 refine AW.q ?_
 obtain⟨x7,hx8,hH⟩:=zB hH
 refine AW.r (AO.w (qYI T (l:=[(⟨#[110,111,110,101]⟩:ByteArray),(⟨#[100,111,119,110]⟩:ByteArray),(⟨#[101,100,103,101]⟩:ByteArray),(⟨#[118,111,105,100]⟩:ByteArray)]) (f:=ze2) rfl rfl rfl rfl rfl rfl (by decide) (by decide) (fun _=>rfl)) ?_)
 refine AO.pu T ?_
 refine AO.w (cVs (qKV _ _ _ (hx8))) (go ?_)
 exact fin
 refine go ?_
 exact fin
end Go.Proofs.YtkidpkmpnbibmaaGreatDoor

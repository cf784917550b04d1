/- The walk, part 4: what each function reached by the law FnExactPerformanceAfter computes. No condition. -/
import Derived.Test.YtkidpkmpnbibmaaGreatDoorWalk3
set_option maxRecDepth 4000
set_option maxHeartbeats 1000000
set_option linter.unusedVariables false
set_option linter.unusedSimpArgs false
set_option linter.unusedSectionVars false
namespace Go.Proofs.YtkidpkmpnbibmaaGreatDoor
open Go.AM Tryz
def qBs (k1:Nat) (k434:Nat) (y435:Int):Nat->List ac->Int->Option (List ac)
 |0,_,_=>none
 |k507+1,v514,v515 =>
  cond (decide (v515<=3))
   (cond (v515 != y435)
    ((qAq (qAi 24 (v514.length+([[(k1:Int),(k434:Int),v515]]).length))).bind fun u517 =>
    qBs k1 k434 y435 k507 (v514++[[(k1:Int),(k434:Int),v515]]) (w64 (v515+1)))
    (qBs k1 k434 y435 k507 v514 (w64 (v515+1))))
   (some v514)
def qBv (fl:Nat) (k1:Nat):ac->Nat->List ac->Option (List ac)
 | [],k434,v491 =>
  some v491
 |y435::ys436,k434,v491 =>
  (qBs k1 k434 y435 fl v491 0).bind fun v504 =>
  qBv fl k1 ys436 (k434+1) v504
def qBp (fl:Nat):List Item->Nat->List ac->Option ((List ac))
 | [],k1,v346 =>
  some v346
 |y2::ys3,k1,v346 =>
  (qBv fl k1 y2.marks 0 v346).bind fun v431 =>
  qBp fl ys3 (k1+1) v431
def qHy (fl:Nat) (l:List Item):Option (List ac) :=
 qBp fl l 0 []
theorem qNK (fl:Nat) (l:List Item) (r:(List ac)) (hH:qHy fl l=some r):qAC prog 243 [.s (List.map ze3 l)] (.w 1 (r.map ze5)):=by
 refine fns T func243 ?_
 refine gs6 ?_
 refine AO.x (qGV T rfl rfl rfl rfl) ?_
 iterate 10 refine gs ?_
 refine AW.loopS (fun s:Nat×(List ac)=>(⟨[(3,.R 7),(10,sv ze3 l),(11,(l.length:Int)),(12,(s.1:Int))],[(7,ro 1 ze5 s.2)],42,[]⟩:St)) (fun s=>s.1<=l.length/\qBp fl (l.drop s.1) s.1 s.2=some r) (fun s=>l.length-s.1) (0,[]) ⟨Nat.zero_le _,hH⟩ ?_ ?_
 refine Le.trans (Le.void 3 7 1 rfl rfl) ?_
 exact Le.ct 0 0
 rintro⟨k1,v346⟩ ⟨hk,hH⟩
 try dsimp only at hH⊢
 refine AW.boundM (t:=10) (l:=l) rfl (fun hb5=>?_)
 rcases hd4:l.drop k1 with _|⟨y2,ys3⟩
 rw[hd4,qBp]at hH
 have hlt6:=qAF hd4
 iterate 13 refine gs ?_
 exact fin
 rw[hd4,qBp]at hH
 have hlt6:=qAG hd4
 refine gs7 ?_
 obtain⟨o432,hH,hK433⟩:=zB hH
 refine AW.seqJ (fun s:List ac=>(⟨[(3,.R 7),(10,sv ze3 l),(11,(l.length:Int)),(12,(k1:Int))],[(7,ro 1 ze5 s)],42,[]⟩:St)) (fun s=>s=o432) ?_ ?_
 refine gs6 ?_
 refine AO.x (als T 276) ?_
 refine AO.pu T ?_
 refine AO.se T [sv ze2 y2.names,sv ze0 y2.marks,.v (.bool y2.late)] ?_
 refine gs9 ?_
 refine AW.loopS (fun s:Nat×(List ac)=>(⟨[(3,.R 7),(4,(k1:Int)),(10,sv ze3 l),(11,(l.length:Int)),(12,(k1:Int)),(18,sv ze0 y2.marks),(19,(y2.marks.length:Int)),(20,(s.1:Int))],[(7,ro 1 ze5 s.2)],42,[]⟩:St)) (fun s=>s.1<=y2.marks.length/\qBv fl k1 (y2.marks.drop s.1) s.1 s.2=some o432) (fun s=>y2.marks.length-s.1) (0,v346) ⟨Nat.zero_le _,hH⟩ ?_ ?_
 exact Le.ct 0 0
 rintro⟨k434,v491⟩ ⟨hk,hH⟩
 try dsimp only at hH⊢
 refine AW.boundM (t:=18) (l:=y2.marks) rfl (fun hb438=>?_)
 rcases hd437:y2.marks.drop k434 with _|⟨y435,ys436⟩
 rw[hd437,qBv]at hH
 have hlt439:=qAF hd437
 refine gs7 ?_
 refine⟨_,zS hH,?_⟩
 exact Le.ct 0 0
 rw[hd437,qBv]at hH
 have hlt439:=qAG hd437
 refine gs7 ?_
 obtain⟨o505,hH,hK506⟩:=zB hH
 refine AW.seqJ (fun s:List ac=>(⟨[(3,.R 7),(4,(k1:Int)),(10,sv ze3 l),(11,(l.length:Int)),(12,(k1:Int)),(18,sv ze0 y2.marks),(19,(y2.marks.length:Int)),(20,(k434:Int))],[(7,ro 1 ze5 s)],42,[]⟩:St)) (fun s=>s=o505) ?_ ?_
 iterate 14 refine gs ?_
 refine AW.loopS (fun s:Nat×(List ac)×Int=>(⟨[(3,.R 7),(4,(k1:Int)),(6,(k434:Int)),(7,y435),(8,s.2.2),(10,sv ze3 l),(11,(l.length:Int)),(12,(k1:Int)),(18,sv ze0 y2.marks),(19,(y2.marks.length:Int)),(20,(k434:Int))],[(7,ro 1 ze5 s.2.1)],42,[]⟩:St)) (fun s=>qBs k1 k434 y435 s.1 s.2.1 s.2.2=some o505) (fun s=>s.1) (fl,v491,0) hH ?_ ?_
 exact Le.ct 0 0
 rintro⟨k507,v514,v515⟩ hH
 try dsimp only at hH⊢
 rcases k507 with _|k507
 cases (show none=some _ from hH)
 rw[qBs]at hH
 refine gs6 ?_
 refine AW.cH hH (fun hc hH=>?_) (fun _ hH=>?_)
 refine gs9 ?_
 refine AW.cH hH (fun _ hH=>?_) (fun hc hH=>?_)
 obtain⟨u517,hx518,hH⟩:=zB hH
 refine gs5 ?_
 refine AO.x (mks T 328 ze0 ([(k1:Int),(k434:Int),v515])) ?_
 refine AO.le (Le.fM 328 (g:=ze0) rfl (fun y=>.vs rfl)) ?_
 refine AO.x (mks T 329 ze5 ([[(k1:Int),(k434:Int),v515]])) ?_
 refine AO.x (rvs T 330 (hfit:=by exact qAP (hx518))) ?_
 refine gs7 ?_
 refine⟨(k507,(v514++[[(k1:Int),(k434:Int),v515]]),w64 (v515+1)),hH,Nat.lt_succ_self _,?_⟩
 exact Le.ct 330 7
 refine gs6 ?_
 refine⟨(k507,v514,w64 (v515+1)),hH,Nat.lt_succ_self _,?_⟩
 exact Le.ct 0 0
 refine AW.exit ?_
 refine⟨_,zS hH,?_⟩
 exact Le.ct 0 0
 rintro v504 hs
 subst hs
 replace hH:=hK506
 try dsimp only[qLW,qJg]at hH
 try dsimp only
 refine gs4 ?_
 refine⟨(k434+1,v504),⟨hlt439,(zds hd437▸hH)⟩,qBl hlt439,?_⟩
 exact Le.ct 0 0
 rintro v431 hs
 subst hs
 replace hH:=hK433
 try dsimp only[qLW,qJg]at hH
 try dsimp only
 refine gs4 ?_
 refine⟨(k1+1,v431),⟨hlt6,(zds hd4▸hH)⟩,qBl hlt6,?_⟩
 exact Le.ct 0 0
def qG8 (fl:Nat) (c:Code) (p:Performance) (factor:Int) (l:List Item):Option Int :=
 (qBN fl c (Performance.mk l p.marks p.slips) factor).bind fun x1 =>
 some x1
theorem qNg (fl:Nat) (c:Code) (p:Performance) (factor:Int) (l:List Item) (r:Int) (hH:qG8 fl c p factor l=some r):qAC prog 244 [.g (ze4 c),.g (ze8 p),factor,.s (List.map ze3 l)] (.v (.int .i64 r)):=by
 refine fns T func244 ?_
 refine go ?_
 refine AO.x (bxs T 1) ?_
 refine AO.x (bxs T 2) (go ?_)
 refine AO.se T [sv ze3 l,sv ze5 p.marks.grades,sv ze5 p.marks.components,p.slips.falls,p.slips.seconds,p.slips.other] ?_
 refine go ?_
 obtain⟨x1,hx2,hH⟩:=zB hH
 refine go ?_
 refine AO.w (cVs (qDv fl _ _ _ _ (hx2))) (go ?_)
 exact fin
def qBS (c:Code) (p:Performance) (factor:Int) (fl:Nat):List ac->Nat->Int->ac->Option ((Int×Int×Int×Bool))
 | [],k7,v35,v36 =>
  cond ((v36.length:Int)==0)
   (some (0,0,0,false))
   ((qAT v36 0).bind fun x38 =>
   (qAT v36 1).bind fun x40 =>
   (qAT v36 2).bind fun x42 =>
   some (x38,x40,x42,true))
 |y8::ys9,k7,v35,v36 =>
  (qAT y8 0).bind fun x44 =>
  (qAT y8 1).bind fun x46 =>
  (qAT y8 2).bind fun x48 =>
  (qEM p.items x44 x46 x48).bind fun x50 =>
  (qG8 fl c p factor x50).bind fun x52 =>
  cond (decide (x52>v35))
   (qBS c p factor fl ys9 (k7+1) x52 y8)
   (qBS c p factor fl ys9 (k7+1) v35 v36)
def qEt (fl:Nat) (c:Code) (p:Performance) (factor:Int):Option (Int×Int×Int×Bool) :=
 (qFH fl c p factor).bind fun x1 =>
 cond (!x1)
  (some (0,0,0,false))
  ((qBN fl c p factor).bind fun x3 =>
  (qHy fl p.items).bind fun x5 =>
  qBS c p factor fl x5 0 x3 [])
theorem qMU (fl:Nat) (c:Code) (p:Performance) (factor:Int) (r:(Int×Int×Int×Bool)) (hH:qEt fl c p factor=some r):qAC prog 182 [.g (ze4 c),.g (ze8 p),factor] (.t [.v (.int .i64 r.1),.v (.int .i64 r.2.1),.v (.int .i64 r.2.2.1),.v (.bool r.2.2.2)]):=by
 refine fns T func182 ?_
 refine go ?_
 refine AO.x (bxs T 1) ?_
 refine AO.x (bxs T 2) (go ?_)
 obtain⟨x1,hx2,hH⟩:=zB hH
 refine go ?_
 refine AO.w (cVs (qIj fl _ _ _ _ (hx2))) (go ?_)
 refine AW.cH hH (fun _ hH=>?_) (fun hc hH=>?_)
 refine go ?_
 exact fin
 refine go ?_
 obtain⟨x3,hx4,hH⟩:=zB hH
 refine go ?_
 refine AO.w (cVs (qDv fl _ _ _ _ (hx4))) ?_
 refine AO.x (qGV T rfl rfl rfl rfl) (go ?_)
 obtain⟨x5,hx6,hH⟩:=zB hH
 refine go ?_
 refine AO.x (qAV rfl 3 rfl rfl rfl (qNK fl _ _ (hx6)) rfl rfl rfl) (go ?_)
 refine AW.loopS (fun s:Nat×Int×(ac)=>(⟨[(2,factor),(3,.p 1 0),(4,.p 2 0),(10,s.2.1),(11,sv ze0 s.2.2),(27,.R 3),(28,(x5.length:Int)),(29,(s.1:Int))],[(1,.box (ze4 c)),(2,.box (ze8 p)),(3,ro 1 ze5 x5)],67,[]⟩:St)) (fun s=>s.1<=x5.length/\qBS c p factor fl (x5.drop s.1) s.1 s.2.1 s.2.2=some r) (fun s=>x5.length-s.1) (0,x3,[]) ⟨Nat.zero_le _,hH⟩ ?_ ?_
 refine Le.trans (Le.nilS 11 rfl) ?_
 exact Le.ct 0 0
 rintro⟨k7,v35,v36⟩ ⟨hk,hH⟩
 try dsimp only at hH⊢
 refine AW.boundR (id:=3) (l:=x5) rfl (fun hb11=>?_)
 rcases hd10:x5.drop k7 with _|⟨y8,ys9⟩
 rw[hd10,qBS]at hH
 have hlt12:=qAF hd10
 refine go ?_
 refine AW.cH hH (fun _ hH=>?_) (fun hc hH=>?_)
 refine go ?_
 exact fin
 refine go ?_
 obtain⟨x38,hx39,x40,hx41,x42,hx43,hH⟩:=qBC hH
 refine AW.drawn 11 6 [] mix (by kernel_rfl) rfl ?_
 refine go ?_
 exact fin
 rw[hd10,qBS]at hH
 have hlt12:=qAG hd10
 refine go ?_
 refine AO.w (zLr T rfl rfl rfl rfl (zgG (zgD hd10)) rfl rfl rfl) (go ?_)
 obtain⟨x44,hx45,x46,hx47,x48,hx49,hH⟩:=qBC hH
 obtain⟨x50,hx51,x52,hx53,hH⟩:=qAH hH
 refine AW.drawn 15 6 [] mix (by kernel_rfl) rfl ?_
 refine go ?_
 refine AD.q (FStep.call rfl rfl rfl rfl rfl (qKv _ _ _ _ _ (hx51)) rfl rfl) (qAu _ _) (qC5 _ _) rfl ?_
 refine AD.nil (AO.w (zLV rfl rfl rfl (es:=[.g (ze4 c),.g (ze8 p),factor,sv ze3 x50]) ⟨.free rfl,.free rfl,.free rfl,(.rowR rfl (.map fun y=>qCJ y)),trivial⟩ (qNg fl _ _ _ _ _ (hx53)) (qAJ _) rfl) ?_)
 refine gs8 ?_
 refine AW.le (Le.ct 0 0 (σ':=(⟨[(2,factor),(3,.p 1 0),(4,.p 2 0),(10,v35),(11,sv ze0 v36),(13,sv ze0 y8),(14,x52),(27,.R 3),(28,(x5.length:Int)),(29,(k7:Int)),(51,.v (.bool (decide (x52>v35))))],[(1,.box (ze4 c)),(2,.box (ze8 p)),(3,ro 1 ze5 x5)],67,[]⟩:St))) ?_
 refine AW.cH hH (fun _ hH=>?_) (fun _ hH=>?_)
 refine go ?_
 refine⟨(k7+1,x52,y8),⟨hlt12,(zds hd10▸hH)⟩,qBl hlt12,?_⟩
 exact Le.ct 0 0
 refine go ?_
 refine⟨(k7+1,v35,v36),⟨hlt12,(zds hd10▸hH)⟩,qBl hlt12,?_⟩
 exact Le.ct 0 0
def qAL (fl:Nat) (sA:ScriptState) (command:aa) (l:ac):Option (ScriptState×aa) :=
 cond (decide (command=(⟨#[99,104,101,99,107]⟩:aa)))
  ((qEr fl sA.code sA.performance.items).bind fun x2 =>
  (qCg x2.1).bind fun x4 =>
  some (sA,x4))
  (cond (decide (command=(⟨#[98,97,115,101]⟩:aa)))
   ((qGL sA.code sA.performance.items).bind fun x7 =>
   (qBD x7).bind fun x9 =>
   (qB5 x9).bind fun x11 =>
   some (sA,x11))
   (cond (decide (command=(⟨#[115,99,111,114,101]⟩:aa)))
    ((qFn fl sA.code sA.performance sA.factor).bind fun x14 =>
    (qAx x14).bind fun x16 =>
    some (sA,x16))
    (cond (decide (command=(⟨#[98,111,117,110,100]⟩:aa)))
     ((qET fl sA.code sA.performance sA.factor).bind fun x19 =>
     (qB5 x19.1).bind fun x21 =>
     some (sA,x21))
     (cond (decide (command=(⟨#[114,97,110,103,101]⟩:aa)))
      ((qAT l 0).bind fun x24 =>
      (qFf fl sA.code sA.performance sA.factor x24).bind fun x26 =>
      cond (!x26.2.2)
       (some (sA,(⟨#[110,111]⟩:aa)))
       ((qAx [x26.1,x26.2.1]).bind fun x28 =>
       some (sA,x28)))
      ((qEt fl sA.code sA.performance sA.factor).bind fun x30 =>
      cond (!x30.2.2.2)
       (some (sA,(⟨#[110,111,110,101]⟩:aa)))
       ((qAx [x30.1,x30.2.1]).bind fun x32 =>
       (qAq (Nat.ble (x32.size+(⟨#[32]⟩:aa).size) qDx)).bind fun u34 =>
       (qAT [(⟨#[110,111,110,101]⟩:aa),(⟨#[100,111,119,110]⟩:aa),(⟨#[101,100,103,101]⟩:aa),(⟨#[118,111,105,100]⟩:aa)] x30.2.2.1).bind fun x36 =>
       (qAq (Nat.ble ((x32++(⟨#[32]⟩:aa)).size+x36.size) qDx)).bind fun u38 =>
       some (sA,((x32++(⟨#[32]⟩:aa))++x36))))))))
theorem qKP (fl:Nat) (sA:ScriptState) (command:aa) (l:ac) (r:(ScriptState×aa)) (hH:qAL fl sA command l=some r):qFe prog 122 [.pn (qIF sA),.v (.string command),.s (List.map ze0 l)] [.pn (qIF r.1),.u,.u] (.v (.string r.2)):=by
 refine qFh T func122 rfl (by decide) rfl rfl [.p 1 0,.v (.string command),sv ze0 l] [(1,.box (qHv sA 2 3 4)),(4,ro 1 ze1 sA.performance.marks.components),(3,ro 1 ze1 sA.performance.marks.grades),(2,ro 3 ze6 sA.performance.items)] 5 (by kernel_rfl) [1] rfl rfl ?_
 intro L
 show AW _ _ _ (⟨[(0,.p 1 0),(1,.v (.string command)),(2,sv ze0 l)],[(1,.box (qHv sA 2 3 4)),(4,ro 1 ze1 sA.performance.marks.components),(3,ro 1 ze1 sA.performance.marks.grades),(2,ro 3 ze6 sA.performance.items)],143,[(1,L 1)]⟩:St)
 refine go ?_
 refine AW.cH hH (fun _ hH=>?_) (fun _ hH=>?_)
 refine AW.q ?_
 obtain⟨x2,hx3,hH⟩:=zB hH
 refine AW.drawn 14 5 [] mix (by kernel_rfl) rfl ?_
 refine go ?_
 refine AD.q (FStep.callL rfl rfl rfl rfl (es:=[.g (ze4 sA.code),sv ze3 sA.performance.items]) ⟨.free rfl,(.rowR rfl (.map fun y=>qCJ y)),trivial⟩ (qMe fl _ _ _ (hx3)) (qMa (zfl (.cons (qAz (fun y=>(.cons (qAJ _) .nil))) (.cons (qAJ _) .nil)))) rfl rfl) (qAu _ _) (qC5 _ _) rfl ?_
 refine go ?_
 obtain⟨x4,hx5,hH⟩:=zB hH
 refine go ?_
 refine AO.w (zLV rfl rfl rfl (es:=[sv ze0 x2.1]) ⟨(.rowR rfl (.map fun y=>.vs rfl)),trivial⟩ (qJB _ _ (hx5)) (qAJ _) rfl) (go ?_)
 exact qEa
 refine go ?_
 refine AW.cH hH (fun _ hH=>?_) (fun _ hH=>?_)
 refine AW.q ?_
 obtain⟨x7,hx8,x9,hx10,x11,hx12,hH⟩:=qBC hH
 refine AW.drawn 9 6 [] mix (by kernel_rfl) rfl ?_
 refine go ?_
 refine AO.x (qRC rfl 6 rfl rfl (es:=[.g (ze4 sA.code),sv ze3 sA.performance.items]) (by exact⟨.free rfl,(.rowR rfl (.map fun y=>qCJ y)),trivial⟩) (qM3 _ _ _ (hx8)) (qAz (fun y=>(.cons (qAJ _) .nil))) rfl rfl rfl) ?_
 refine AO.w (zLV rfl rfl rfl (es:=[sv ze0 x7]) ⟨(.rowR rfl (.map fun y=>.vs rfl)),trivial⟩ (qFN _ _ (hx10)) (qAJ _) rfl) ?_
 refine AO.w (cVs (qHR _ _ (hx12))) (go ?_)
 exact qEa
 refine go ?_
 refine AW.cH hH (fun _ hH=>?_) (fun _ hH=>?_)
 refine AW.q ?_
 obtain⟨x14,hx15,x16,hx17,hH⟩:=qAH hH
 refine AW.drawn 12 7 [] mix (by kernel_rfl) rfl ?_
 refine go ?_
 refine AO.x (qRC rfl 7 rfl rfl (es:=[.g (ze4 sA.code),.g (ze8 sA.performance),sA.factor]) (by exact⟨.free rfl,qEN (LendL.cons ((.rowR rfl (.map fun y=>qCJ y))) (LendL.cons ((.rowR rfl (.map fun y=>qAR y))) (LendL.cons ((.rowR rfl (.map fun y=>qAR y))) (LendL.cons (.free rfl) (LendL.cons (.free rfl) (LendL.cons (.free rfl) LendL.nil)))))),.free rfl,trivial⟩) (qLi fl _ _ _ _ (hx15)) (qAz (fun y=>(.cons (qAJ _) .nil))) rfl rfl rfl) ?_
 refine AO.w (zLV rfl rfl rfl (es:=[sv ze0 x14]) ⟨(.rowR rfl (.map fun y=>.vs rfl)),trivial⟩ (qFU _ _ (hx17)) (qAJ _) rfl) (go ?_)
 exact qEa
 refine go ?_
 refine AW.cH hH (fun _ hH=>?_) (fun _ hH=>?_)
 refine AW.q ?_
 obtain⟨x19,hx20,hH⟩:=zB hH
 refine AW.drawn 17 8 [] mix (by kernel_rfl) rfl ?_
 refine go ?_
 refine AD.vv (zLV rfl rfl rfl (es:=[.g (ze4 sA.code),.g (ze8 sA.performance),sA.factor]) ⟨.free rfl,qEN (LendL.cons ((.rowR rfl (.map fun y=>qCJ y))) (LendL.cons ((.rowR rfl (.map fun y=>qAR y))) (LendL.cons ((.rowR rfl (.map fun y=>qAR y))) (LendL.cons (.free rfl) (LendL.cons (.free rfl) (LendL.cons (.free rfl) LendL.nil)))))),.free rfl,trivial⟩ (qL2 fl _ _ _ _ (hx20)) (qMa (zfl (.cons (qAJ _) (.cons (qAJ _) .nil)))) rfl) ?_
 refine gs7 ?_
 refine AW.le (Le.ct 0 0 (σ':=(⟨[(9,x19.1)],[(1,.box (qHv sA 2 3 4)),(2,ro 3 ze6 sA.performance.items),(3,ro 1 ze1 sA.performance.marks.grades),(4,ro 1 ze1 sA.performance.marks.components)],143,[(1,L 1)]⟩:St)) (hpin:=⟨⟨rfl,rfl⟩,trivial⟩)) ?_
 refine AW.q ?_
 obtain⟨x21,hx22,hH⟩:=zB hH
 refine go ?_
 refine AO.w (cVs (qHR _ _ (hx22))) (go ?_)
 exact qEa
 refine go ?_
 refine AW.cH hH (fun _ hH=>?_) (fun _ hH=>?_)
 refine AW.q ?_
 obtain⟨x24,hx25,x26,hx27,hH⟩:=qAH hH
 refine AW.drawn 22 8 [] mix (by kernel_rfl) rfl ?_
 refine go ?_
 refine AD.vv (zLV rfl rfl rfl (es:=[.g (ze4 sA.code),.g (ze8 sA.performance),sA.factor,x24]) ⟨.free rfl,qEN (LendL.cons ((.rowR rfl (.map fun y=>qCJ y))) (LendL.cons ((.rowR rfl (.map fun y=>qAR y))) (LendL.cons ((.rowR rfl (.map fun y=>qAR y))) (LendL.cons (.free rfl) (LendL.cons (.free rfl) (LendL.cons (.free rfl) LendL.nil)))))),.free rfl,.free rfl,trivial⟩ (qLz fl _ _ _ _ _ (hx27)) (qMa (zfl (.cons (qAJ _) (.cons (qAJ _) (.cons (qAJ _) .nil))))) rfl) ?_
 refine gs9 ?_
 refine AW.le (Le.ct 0 0 (σ':=(⟨[(11,x26.1),(12,x26.2.1),(13,.v (.bool x26.2.2))],[(1,.box (qHv sA 2 3 4)),(2,ro 3 ze6 sA.performance.items),(3,ro 1 ze1 sA.performance.marks.grades),(4,ro 1 ze1 sA.performance.marks.components)],143,[(1,L 1)]⟩:St)) (hpin:=⟨⟨rfl,rfl⟩,trivial⟩)) ?_
 refine go ?_
 refine AW.cH hH (fun _ hH=>?_) (fun hc hH=>?_)
 refine go ?_
 exact qEa
 refine go ?_
 obtain⟨x28,hx29,hH⟩:=zB hH
 refine go ?_
 refine AO.x (mks T 8 ze0 ([x26.1,x26.2.1])) ?_
 refine AO.w (zLV rfl rfl rfl (es:=[sv ze0 [x26.1,x26.2.1]]) ⟨(.rowR rfl (.map fun y=>.vs rfl)),trivial⟩ (qFU _ _ (hx29)) (qAJ _) rfl) (go ?_)
 exact qEa
 refine go ?_
 obtain⟨x30,hx31,hH⟩:=zB hH
 refine AW.drawn 21 9 [] mix (by kernel_rfl) rfl ?_
 refine go ?_
 refine AD.vv (zLV rfl rfl rfl (es:=[.g (ze4 sA.code),.g (ze8 sA.performance),sA.factor]) ⟨.free rfl,qEN (LendL.cons ((.rowR rfl (.map fun y=>qCJ y))) (LendL.cons ((.rowR rfl (.map fun y=>qAR y))) (LendL.cons ((.rowR rfl (.map fun y=>qAR y))) (LendL.cons (.free rfl) (LendL.cons (.free rfl) (LendL.cons (.free rfl) LendL.nil)))))),.free rfl,trivial⟩ (qMU fl _ _ _ _ (hx31)) (qMa (zfl (.cons (qAJ _) (.cons (qAJ _) (.cons (qAJ _) (.cons (qAJ _) .nil)))))) rfl) ?_
 iterate 11 refine gs ?_
 refine AW.le (Le.ct 0 0 (σ':=(⟨[(14,x30.1),(15,x30.2.1),(16,x30.2.2.1),(17,.v (.bool x30.2.2.2))],[(1,.box (qHv sA 2 3 4)),(2,ro 3 ze6 sA.performance.items),(3,ro 1 ze1 sA.performance.marks.grades),(4,ro 1 ze1 sA.performance.marks.components)],143,[(1,L 1)]⟩:St)) (hpin:=⟨⟨rfl,rfl⟩,trivial⟩)) ?_
 refine go ?_
 refine AW.cH hH (fun _ hH=>?_) (fun _ hH=>?_)
 refine go ?_
 exact qEa
 refine go ?_
 obtain⟨x32,hx33,u34,hx35,x36,hx37,hH⟩:=qBC hH
 obtain⟨u38,hx39,hH⟩:=zB hH
 refine AW.drawn 8 9 [] mix (by kernel_rfl) rfl ?_
 refine go ?_
 refine AD.q (FStep.mk T (f:=ze0) (l:=[x30.1,x30.2.1]) rfl rfl rfl rfl rfl rfl rfl rfl rfl (fun _=>rfl) rfl rfl rfl rfl) (by simp[qA1]) (Nat.le_succ _) rfl ?_
 refine AD.vald rfl rfl rfl (zLV rfl rfl rfl (es:=[sv ze0 [x30.1,x30.2.1]]) ⟨(.rowR rfl (.map fun y=>.vs rfl)),trivial⟩ (qFU _ _ (hx33)) (qAJ _) rfl) ?_
 refine AD.vv (qBe rfl rfl rfl (Nat.le_of_ble_eq_true (qAP (hx35)))) ?_
 refine AD.pu T ?_
 refine AD.vv (qW6 T (l:=[(⟨#[110,111,110,101]⟩:aa),(⟨#[100,111,119,110]⟩:aa),(⟨#[101,100,103,101]⟩:aa),(⟨#[118,111,105,100]⟩:aa)]) (f:=ze2) rfl rfl rfl rfl rfl rfl rfl (fun _=>rfl) (hx37)) ?_
 refine go ?_
 refine AO.w (qBe rfl rfl rfl (Nat.le_of_ble_eq_true (qAP (hx39)))) (go ?_)
 exact qEa
def qAA (sA:ScriptState) (fl:Nat) (x5:(List aa)) (x7:aa) (x9:(aa×Bool)):List aa->Nat->ac->Option ((ScriptState×aa))
 | [],k13,v32 =>
  cond (decide (x7=(⟨#[101,108,101,109,101,110,116]⟩:aa)))
   ((qAT x5 1).bind fun x35 =>
   (qAT v32 1).bind fun x37 =>
   (qAT v32 2).bind fun x39 =>
   (qAT v32 3).bind fun x41 =>
   (qFM fl sA.code (Element.mk x35 x37 x39 x41)).bind fun x43 =>
   (qAp sA x43.1 x43.2).bind fun x45 =>
   some (x45.1,x45.2))
   (cond (decide (x7=(⟨#[108,105,109,105,116]⟩:aa)))
    ((qAj fl sA x7 v32).bind fun x48 =>
    some (x48.1,x48.2))
    (cond (decide (x7=(⟨#[114,117,108,101,115]⟩:aa)))
     ((qAj fl sA x7 v32).bind fun x51 =>
     some (x51.1,x51.2))
     (cond (decide (x7=(⟨#[106,117,100,103,101,115]⟩:aa)))
      ((qAO fl sA x7 v32).bind fun x54 =>
      some (x54.1,x54.2))
      (cond (decide (x7=(⟨#[103,114,97,100,101]⟩:aa)))
       ((qAO fl sA x7 v32).bind fun x57 =>
       some (x57.1,x57.2))
       (cond (decide (x7=(⟨#[99,111,109,112,111,110,101,110,116]⟩:aa)))
        ((qAO fl sA x7 v32).bind fun x60 =>
        some (x60.1,x60.2))
        (cond (decide (x7=(⟨#[99,97,108,108]⟩:aa)))
         ((qAI fl sA x7 v32).bind fun x63 =>
         some (x63.1,x63.2))
         (cond (decide (x7=(⟨#[115,108,105,112,115]⟩:aa)))
          ((qAI fl sA x7 v32).bind fun x66 =>
          some (x66.1,x66.2))
          (cond (decide (x7=(⟨#[102,97,99,116,111,114]⟩:aa)))
           ((qAI fl sA x7 v32).bind fun x69 =>
           some (x69.1,x69.2))
           (cond (decide (x7=(⟨#[108,97,116,101]⟩:aa)))
            ((qAI fl sA x7 v32).bind fun x72 =>
            some (x72.1,x72.2))
            (cond (decide (x7=(⟨#[115,107,97,116,101,114]⟩:aa)))
             ((qA7 fl sA x7 v32).bind fun x75 =>
             some (x75.1,x75.2))
             (cond (decide (x7=(⟨#[112,108,97,99,101,115]⟩:aa)))
              ((qA7 fl sA x7 v32).bind fun x78 =>
              some (x78.1,x78.2))
              ((qAL fl sA x7 v32).bind fun x80 =>
              some (x80.1,x80.2)))))))))))))
 |y14::ys15,k13,v32 =>
  (qOD x9.1 (k13:Int)).bind fun b82 =>
  (qCh fl (b82.toNat:Int) y14).bind fun x84 =>
  cond (!x84.2)
   (some (sA,(⟨#[119,104,97,116]⟩:aa)))
   ((qAq (qAi 8 (v32.length+([x84.1]).length))).bind fun u86 =>
   qAA sA fl x5 x7 x9 ys15 (k13+1) (v32++[x84.1]))
def qAg (fl:Nat) (sA:ScriptState) (line:aa):Option (ScriptState×aa) :=
 (qBf line (⟨#[105,116,101,109,32]⟩:aa)).bind fun x1 =>
 cond x1.2
  ((qBL fl sA x1.1).bind fun x3 =>
  some (x3.1,x3.2))
  ((qB7 line (⟨#[32]⟩:aa)).bind fun x5 =>
  (qAT x5 0).bind fun x7 =>
  (qFY x7).bind fun x9 =>
  cond ((!x9.2)||((x9.1.size:Int) != (w64 ((x5.length:Int)-1))))
   (some (sA,(⟨#[119,104,97,116]⟩:aa)))
   ((qDC x5 1).bind fun x11 =>
   qAA sA fl x5 x7 x9 x11 0 []))
theorem qKZ (fl:Nat) (sA:ScriptState) (line:aa) (r:(ScriptState×aa)) (hH:qAg fl sA line=some r):qFe prog 76 [.pn (qIF sA),.v (.string line)] [.pn (qIF r.1),.u] (.v (.string r.2)):=by
 refine qFh T func76 rfl (by decide) rfl rfl [.p 1 0,.v (.string line)] [(1,.box (qHv sA 2 3 4)),(4,ro 1 ze1 sA.performance.marks.components),(3,ro 1 ze1 sA.performance.marks.grades),(2,ro 3 ze6 sA.performance.items)] 5 (by kernel_rfl) [1] rfl rfl ?_
 intro L
 show AW _ _ _ (⟨[(0,.p 1 0),(1,.v (.string line))],[(1,.box (qHv sA 2 3 4)),(4,ro 1 ze1 sA.performance.marks.components),(3,ro 1 ze1 sA.performance.marks.grades),(2,ro 3 ze6 sA.performance.items)],129,[(1,L 1)]⟩:St)
 refine gs6 ?_
 obtain⟨x1,hx2,hH⟩:=zB hH
 refine gs2 ?_
 refine AO.w (cVs (qIm _ _ _ (hx2))) ?_
 iterate 10 refine gs ?_
 refine AW.cH hH (fun _ hH=>?_) (fun hc hH=>?_)
 refine AW.q ?_
 obtain⟨x3,hx4,hH⟩:=zB hH
 refine gs3 ?_
 refine AO.x (qAd (qHv x3.1 5 6 7) [(7,ro 1 ze1 x3.1.performance.marks.components),(6,ro 1 ze1 x3.1.performance.marks.grades),(5,ro 3 ze6 x3.1.performance.items)] 8 (by kernel_rfl) rfl 5 rfl rfl rfl rfl (es:=[.pn (qIF sA),.v (.string x1.1)]) (us:=[.u]) (cs:=qIF x3.1) (ids:=[1,2,3,4]) (by exact zG (.pb rfl (zC .s (zC .s (zC .v (zC .v (zC .v (zC .v (zC (.rowR rfl) (zC (.rowR rfl) (zC (.rowR rfl) (zC .v (zC .v (zC .v (zC .v (zC .s (zCn)))))))))))))))) (zG (.c .v) (zGn))) (by decide) (by decide) (qI9 fl _ _ _ (hx4)) rfl rfl (by rfl) rfl) ?_
 refine gs3 ?_
 exact qEa
 refine gs2 ?_
 obtain⟨x5,hx6,hH⟩:=zB hH
 refine gs2 ?_
 refine AO.x (qAV rfl 8 rfl rfl rfl (qIY _ _ _ (hx6)) rfl rfl rfl) ?_
 refine gs3 ?_
 obtain⟨x7,hx8,hH⟩:=zB hH
 refine gs3 ?_
 refine AO.w (zLr T rfl rfl rfl rfl (zgG (hx8)) rfl rfl rfl) ?_
 refine AO.x (qGV T rfl rfl rfl rfl) ?_
 refine gs4 ?_
 obtain⟨x9,hx10,hH⟩:=zB hH
 refine gs2 ?_
 refine AO.w (cVs (qP3 _ _ (hx10))) ?_
 refine gs6 ?_
 refine AW.le (Le.ct 0 0 (σ':=(⟨[(0,.p 1 0),(7,.R 8),(8,.v (.string x7)),(9,.w 1 []),(10,.v (.string x9.1)),(11,.v (.bool x9.2))],[(1,.box (qHv sA 2 3 4)),(2,ro 3 ze6 sA.performance.items),(3,ro 1 ze1 sA.performance.marks.grades),(4,ro 1 ze1 sA.performance.marks.components),(8,ro 1 ze2 x5)],129,[(1,L 1)]⟩:St)) (hpin:=⟨⟨rfl,rfl⟩,trivial⟩)) ?_
 refine gs6 ?_
 refine AO.g0 T ?_
 refine AO.g1 T 39 ?_
 refine AO.g0 T ?_
 refine AO.d1 41 (fun hg=>qJv T rfl rfl rfl rfl) ?_
 refine AO.d1 42 (fun hg=>aws) ?_
 refine AO.g2 T 40 43 ?_
 refine gs2 ?_
 refine AW.cH hH (fun _ hH=>?_) (fun hc hH=>?_)
 refine gs5 ?_
 exact qEa
 refine gs3 ?_
 obtain⟨x11,hx12,hH⟩:=zB hH
 refine AW.le (Le.fM 8 (g:=ze2) rfl (fun y=>.vs rfl)) ?_
 refine gs2 ?_
 refine AO.w (qDf T rfl rfl rfl rfl rfl (hx12) (fun _=>rfl)) ?_
 refine gs4 ?_
 refine AW.loopS (fun s:Nat×(ac)=>(⟨[(0,.p 1 0),(7,sv ze2 x5),(8,.v (.string x7)),(9,.R 12),(10,.v (.string x9.1)),(47,sv ze2 x11),(48,(x11.length:Int)),(49,(s.1:Int))],[(1,.box (qHv sA 2 3 4)),(2,ro 3 ze6 sA.performance.items),(3,ro 1 ze1 sA.performance.marks.grades),(4,ro 1 ze1 sA.performance.marks.components),(12,ro 1 ze0 s.2)],129,[(1,L 1)]⟩:St)) (fun s=>s.1<=x11.length/\qAA sA fl x5 x7 x9 (x11.drop s.1) s.1 s.2=some r) (fun s=>x11.length-s.1) (0,[]) ⟨Nat.zero_le _,hH⟩ ?_ ?_
 refine Le.trans (Le.void 9 12 1 rfl rfl) ?_
 exact Le.ct 0 0 (hpin:=⟨⟨rfl,rfl⟩,trivial⟩)
 rintro⟨k13,v32⟩ ⟨hk,hH⟩
 try dsimp only at hH⊢
 refine AW.boundM (t:=47) (l:=x11) rfl (fun hb17=>?_)
 rcases hd16:x11.drop k13 with _|⟨y14,ys15⟩
 rw[hd16,qAA]at hH
 have hlt18:=qAF hd16
 iterate 18 refine gs ?_
 refine AW.cH hH (fun _ hH=>?_) (fun _ hH=>?_)
 refine AW.q ?_
 obtain⟨x35,hx36,x37,hx38,x39,hx40,hH⟩:=qBC hH
 obtain⟨x41,hx42,x43,hx44,x45,hx46,hH⟩:=qBC hH
 refine AW.drawn 21 13 [] mix (by kernel_rfl) rfl ?_
 refine gs9 ?_
 refine AD.vv (ixr T (hx38)) ?_
 refine AD.vv (zLr T rfl rfl rfl rfl (zgG (hx38)) rfl rfl rfl) ?_
 refine AD.pu T ?_
 refine AD.vv (ixr T (hx40)) ?_
 refine AD.vv (zLr T rfl rfl rfl rfl (zgG (hx40)) rfl rfl rfl) ?_
 refine AD.pu T ?_
 refine AD.vv (ixr T (hx42)) ?_
 refine AD.vv (zLr T rfl rfl rfl rfl (zgG (hx42)) rfl rfl rfl) ?_
 refine gs ?_
 refine AD.q (FStep.call rfl rfl rfl rfl rfl (qMw fl _ _ _ (hx44)) rfl rfl) (qAu _ _) (qC5 _ _) rfl ?_
 refine gs3 ?_
 refine AO.le (Le.fM 13 (g:=ze7) rfl (fun y=>.vs rfl)) ?_
 refine AO.le (Le.fM 14 (g:=ze0) rfl (fun y=>.vs rfl)) ?_
 refine AO.x (qAd (qHv x45.1 15 16 17) [(17,ro 1 ze1 x45.1.performance.marks.components),(16,ro 1 ze1 x45.1.performance.marks.grades),(15,ro 3 ze6 x45.1.performance.items)] 18 (by kernel_rfl) rfl 15 rfl rfl rfl rfl (es:=[.pn (qIF sA),.g (ze4 x43.1),.v (.bool x43.2)]) (us:=[.u,.u]) (cs:=qIF x45.1) (ids:=[1,2,3,4]) (by exact zG (.pb rfl (zC .s (zC .s (zC .v (zC .v (zC .v (zC .v (zC (.rowR rfl) (zC (.rowR rfl) (zC (.rowR rfl) (zC .v (zC .v (zC .v (zC .v (zC .s (zCn)))))))))))))))) (zG (.g (zC .s (zC .s (zC .v (zC .v (zC .v (zC .v (zCn)))))))) (zG (.c .v) (zGn)))) (by decide) (by decide) (qEQ _ _ _ _ (hx46)) rfl rfl (by rfl) rfl) ?_
 refine gs2 ?_
 refine AW.le (Le.ct 0 0 (σ':=(⟨[(4,.v (.string x45.2))],[(1,.box (qHv x45.1 15 16 17)),(15,ro 3 ze6 x45.1.performance.items),(16,ro 1 ze1 x45.1.performance.marks.grades),(17,ro 1 ze1 x45.1.performance.marks.components)],129,[(1,L 1)]⟩:St)) (hpin:=⟨⟨rfl,rfl⟩,trivial⟩)) ?_
 refine AW.t ?_
 exact qEa
 refine gs6 ?_
 refine AW.cH hH (fun hc47 hH=>?_) (fun _ hH=>?_)
 refine AW.k (AW.condT' rfl hc47 ?_)
 refine AW.q ?_
 obtain⟨x48,hx49,hH⟩:=zB hH
 refine AW.le (Le.fM 12 (g:=ze0) rfl (fun y=>.vs rfl)) ?_
 refine gs4 ?_
 refine AO.x (qAd (qHv x48.1 18 19 20) [(20,ro 1 ze1 x48.1.performance.marks.components),(19,ro 1 ze1 x48.1.performance.marks.grades),(18,ro 3 ze6 x48.1.performance.items)] 21 (by kernel_rfl) rfl 18 rfl rfl rfl rfl (es:=[.pn (qIF sA),.v (.string x7),.s (v32.map ze0)]) (us:=[.u,.u]) (cs:=qIF x48.1) (ids:=[1,2,3,4]) (by exact zG (.pb rfl (zC .s (zC .s (zC .v (zC .v (zC .v (zC .v (zC (.rowR rfl) (zC (.rowR rfl) (zC (.rowR rfl) (zC .v (zC .v (zC .v (zC .v (zC .s (zCn)))))))))))))))) (zG (.c .v) (zG (.c .s) (zGn)))) (by decide) (by decide) (qHD fl _ _ _ _ (hx49)) rfl rfl (by rfl) rfl) ?_
 refine gs3 ?_
 exact qEa
 refine gs4 ?_
 refine AW.cH hH (fun _ hH=>?_) (fun _ hH=>?_)
 refine AW.q ?_
 obtain⟨x51,hx52,hH⟩:=zB hH
 refine AW.le (Le.fM 12 (g:=ze0) rfl (fun y=>.vs rfl)) ?_
 refine gs4 ?_
 refine AO.x (qAd (qHv x51.1 21 22 23) [(23,ro 1 ze1 x51.1.performance.marks.components),(22,ro 1 ze1 x51.1.performance.marks.grades),(21,ro 3 ze6 x51.1.performance.items)] 24 (by kernel_rfl) rfl 21 rfl rfl rfl rfl (es:=[.pn (qIF sA),.v (.string x7),.s (v32.map ze0)]) (us:=[.u,.u]) (cs:=qIF x51.1) (ids:=[1,2,3,4]) (by exact zG (.pb rfl (zC .s (zC .s (zC .v (zC .v (zC .v (zC .v (zC (.rowR rfl) (zC (.rowR rfl) (zC (.rowR rfl) (zC .v (zC .v (zC .v (zC .v (zC .s (zCn)))))))))))))))) (zG (.c .v) (zG (.c .s) (zGn)))) (by decide) (by decide) (qHD fl _ _ _ _ (hx52)) rfl rfl (by rfl) rfl) ?_
 refine gs3 ?_
 exact qEa
 refine gs6 ?_
 refine AW.cH hH (fun hc53 hH=>?_) (fun _ hH=>?_)
 refine AW.k (AW.condT' rfl hc53 ?_)
 refine AW.q ?_
 obtain⟨x54,hx55,hH⟩:=zB hH
 refine AW.le (Le.fM 12 (g:=ze0) rfl (fun y=>.vs rfl)) ?_
 refine gs4 ?_
 refine AO.x (qAd (qHv x54.1 24 25 26) [(26,ro 1 ze1 x54.1.performance.marks.components),(25,ro 1 ze1 x54.1.performance.marks.grades),(24,ro 3 ze6 x54.1.performance.items)] 27 (by kernel_rfl) rfl 24 rfl rfl rfl rfl (es:=[.pn (qIF sA),.v (.string x7),.s (v32.map ze0)]) (us:=[.u,.u]) (cs:=qIF x54.1) (ids:=[1,2,3,4]) (by exact zG (.pb rfl (zC .s (zC .s (zC .v (zC .v (zC .v (zC .v (zC (.rowR rfl) (zC (.rowR rfl) (zC (.rowR rfl) (zC .v (zC .v (zC .v (zC .v (zC .s (zCn)))))))))))))))) (zG (.c .v) (zG (.c .s) (zGn)))) (by decide) (by decide) (qE7 fl _ _ _ _ (hx55)) rfl rfl (by rfl) rfl) ?_
 refine gs3 ?_
 exact qEa
 refine gs5 ?_
 refine AW.cH hH (fun hc56 hH=>?_) (fun _ hH=>?_)
 refine AW.k (AW.condT' rfl hc56 ?_)
 refine AW.q ?_
 obtain⟨x57,hx58,hH⟩:=zB hH
 refine AW.le (Le.fM 12 (g:=ze0) rfl (fun y=>.vs rfl)) ?_
 refine gs4 ?_
 refine AO.x (qAd (qHv x57.1 27 28 29) [(29,ro 1 ze1 x57.1.performance.marks.components),(28,ro 1 ze1 x57.1.performance.marks.grades),(27,ro 3 ze6 x57.1.performance.items)] 30 (by kernel_rfl) rfl 27 rfl rfl rfl rfl (es:=[.pn (qIF sA),.v (.string x7),.s (v32.map ze0)]) (us:=[.u,.u]) (cs:=qIF x57.1) (ids:=[1,2,3,4]) (by exact zG (.pb rfl (zC .s (zC .s (zC .v (zC .v (zC .v (zC .v (zC (.rowR rfl) (zC (.rowR rfl) (zC (.rowR rfl) (zC .v (zC .v (zC .v (zC .v (zC .s (zCn)))))))))))))))) (zG (.c .v) (zG (.c .s) (zGn)))) (by decide) (by decide) (qE7 fl _ _ _ _ (hx58)) rfl rfl (by rfl) rfl) ?_
 refine gs3 ?_
 exact qEa
 refine gs4 ?_
 refine AW.cH hH (fun _ hH=>?_) (fun _ hH=>?_)
 refine AW.q ?_
 obtain⟨x60,hx61,hH⟩:=zB hH
 refine AW.le (Le.fM 12 (g:=ze0) rfl (fun y=>.vs rfl)) ?_
 refine gs4 ?_
 refine AO.x (qAd (qHv x60.1 30 31 32) [(32,ro 1 ze1 x60.1.performance.marks.components),(31,ro 1 ze1 x60.1.performance.marks.grades),(30,ro 3 ze6 x60.1.performance.items)] 33 (by kernel_rfl) rfl 30 rfl rfl rfl rfl (es:=[.pn (qIF sA),.v (.string x7),.s (v32.map ze0)]) (us:=[.u,.u]) (cs:=qIF x60.1) (ids:=[1,2,3,4]) (by exact zG (.pb rfl (zC .s (zC .s (zC .v (zC .v (zC .v (zC .v (zC (.rowR rfl) (zC (.rowR rfl) (zC (.rowR rfl) (zC .v (zC .v (zC .v (zC .v (zC .s (zCn)))))))))))))))) (zG (.c .v) (zG (.c .s) (zGn)))) (by decide) (by decide) (qE7 fl _ _ _ _ (hx61)) rfl rfl (by rfl) rfl) ?_
 refine gs3 ?_
 exact qEa
 refine gs6 ?_
 refine AW.cH hH (fun hc62 hH=>?_) (fun _ hH=>?_)
 refine AW.k (AW.condT' rfl hc62 ?_)
 refine AW.q ?_
 obtain⟨x63,hx64,hH⟩:=zB hH
 refine AW.le (Le.fM 12 (g:=ze0) rfl (fun y=>.vs rfl)) ?_
 refine gs4 ?_
 refine AO.x (qAd (qHv x63.1 33 34 35) [(35,ro 1 ze1 x63.1.performance.marks.components),(34,ro 1 ze1 x63.1.performance.marks.grades),(33,ro 3 ze6 x63.1.performance.items)] 36 (by kernel_rfl) rfl 33 rfl rfl rfl rfl (es:=[.pn (qIF sA),.v (.string x7),.s (v32.map ze0)]) (us:=[.u,.u]) (cs:=qIF x63.1) (ids:=[1,2,3,4]) (by exact zG (.pb rfl (zC .s (zC .s (zC .v (zC .v (zC .v (zC .v (zC (.rowR rfl) (zC (.rowR rfl) (zC (.rowR rfl) (zC .v (zC .v (zC .v (zC .v (zC .s (zCn)))))))))))))))) (zG (.c .v) (zG (.c .s) (zGn)))) (by decide) (by decide) (qC6 fl _ _ _ _ (hx64)) rfl rfl (by rfl) rfl) ?_
 refine gs3 ?_
 exact qEa
 refine gs5 ?_
 refine AW.cH hH (fun hc65 hH=>?_) (fun _ hH=>?_)
 refine AW.k (AW.condT' rfl hc65 ?_)
 refine AW.q ?_
 obtain⟨x66,hx67,hH⟩:=zB hH
 refine AW.le (Le.fM 12 (g:=ze0) rfl (fun y=>.vs rfl)) ?_
 refine gs4 ?_
 refine AO.x (qAd (qHv x66.1 36 37 38) [(38,ro 1 ze1 x66.1.performance.marks.components),(37,ro 1 ze1 x66.1.performance.marks.grades),(36,ro 3 ze6 x66.1.performance.items)] 39 (by kernel_rfl) rfl 36 rfl rfl rfl rfl (es:=[.pn (qIF sA),.v (.string x7),.s (v32.map ze0)]) (us:=[.u,.u]) (cs:=qIF x66.1) (ids:=[1,2,3,4]) (by exact zG (.pb rfl (zC .s (zC .s (zC .v (zC .v (zC .v (zC .v (zC (.rowR rfl) (zC (.rowR rfl) (zC (.rowR rfl) (zC .v (zC .v (zC .v (zC .v (zC .s (zCn)))))))))))))))) (zG (.c .v) (zG (.c .s) (zGn)))) (by decide) (by decide) (qC6 fl _ _ _ _ (hx67)) rfl rfl (by rfl) rfl) ?_
 refine gs3 ?_
 exact qEa
 refine gs5 ?_
 refine AW.cH hH (fun hc68 hH=>?_) (fun _ hH=>?_)
 refine AW.k (AW.condT' rfl hc68 ?_)
 refine AW.q ?_
 obtain⟨x69,hx70,hH⟩:=zB hH
 refine AW.le (Le.fM 12 (g:=ze0) rfl (fun y=>.vs rfl)) ?_
 refine gs4 ?_
 refine AO.x (qAd (qHv x69.1 39 40 41) [(41,ro 1 ze1 x69.1.performance.marks.components),(40,ro 1 ze1 x69.1.performance.marks.grades),(39,ro 3 ze6 x69.1.performance.items)] 42 (by kernel_rfl) rfl 39 rfl rfl rfl rfl (es:=[.pn (qIF sA),.v (.string x7),.s (v32.map ze0)]) (us:=[.u,.u]) (cs:=qIF x69.1) (ids:=[1,2,3,4]) (by exact zG (.pb rfl (zC .s (zC .s (zC .v (zC .v (zC .v (zC .v (zC (.rowR rfl) (zC (.rowR rfl) (zC (.rowR rfl) (zC .v (zC .v (zC .v (zC .v (zC .s (zCn)))))))))))))))) (zG (.c .v) (zG (.c .s) (zGn)))) (by decide) (by decide) (qC6 fl _ _ _ _ (hx70)) rfl rfl (by rfl) rfl) ?_
 refine gs2 ?_
 refine AW.le (Le.ct 0 0 (σ':=(⟨[(4,.v (.string x69.2))],[(1,.box (qHv x69.1 39 40 41)),(39,ro 3 ze6 x69.1.performance.items),(40,ro 1 ze1 x69.1.performance.marks.grades),(41,ro 1 ze1 x69.1.performance.marks.components)],129,[(1,L 1)]⟩:St)) (hpin:=⟨⟨rfl,rfl⟩,trivial⟩)) ?_
 refine AW.t ?_
 exact qEa
 refine gs4 ?_
 refine AW.cH hH (fun _ hH=>?_) (fun _ hH=>?_)
 refine AW.q ?_
 obtain⟨x72,hx73,hH⟩:=zB hH
 refine AW.le (Le.fM 12 (g:=ze0) rfl (fun y=>.vs rfl)) ?_
 refine gs4 ?_
 refine AO.x (qAd (qHv x72.1 42 43 44) [(44,ro 1 ze1 x72.1.performance.marks.components),(43,ro 1 ze1 x72.1.performance.marks.grades),(42,ro 3 ze6 x72.1.performance.items)] 45 (by kernel_rfl) rfl 42 rfl rfl rfl rfl (es:=[.pn (qIF sA),.v (.string x7),.s (v32.map ze0)]) (us:=[.u,.u]) (cs:=qIF x72.1) (ids:=[1,2,3,4]) (by exact zG (.pb rfl (zC .s (zC .s (zC .v (zC .v (zC .v (zC .v (zC (.rowR rfl) (zC (.rowR rfl) (zC (.rowR rfl) (zC .v (zC .v (zC .v (zC .v (zC .s (zCn)))))))))))))))) (zG (.c .v) (zG (.c .s) (zGn)))) (by decide) (by decide) (qC6 fl _ _ _ _ (hx73)) rfl rfl (by rfl) rfl) ?_
 refine gs2 ?_
 refine AW.le (Le.ct 0 0 (σ':=(⟨[(4,.v (.string x72.2))],[(1,.box (qHv x72.1 42 43 44)),(42,ro 3 ze6 x72.1.performance.items),(43,ro 1 ze1 x72.1.performance.marks.grades),(44,ro 1 ze1 x72.1.performance.marks.components)],129,[(1,L 1)]⟩:St)) (hpin:=⟨⟨rfl,rfl⟩,trivial⟩)) ?_
 refine AW.t ?_
 exact qEa
 refine gs6 ?_
 refine AW.le (Le.ct 0 0 (σ':=(⟨[(0,.p 1 0),(8,.v (.string x7)),(9,.R 12),(69,.v (.string x7)),(118,.v (.bool (decide (x7=(⟨#[115,107,97,116,101,114]⟩:aa)))))],[(1,.box (qHv sA 2 3 4)),(2,ro 3 ze6 sA.performance.items),(3,ro 1 ze1 sA.performance.marks.grades),(4,ro 1 ze1 sA.performance.marks.components),(12,ro 1 ze0 v32)],129,[(1,L 1)]⟩:St)) (hpin:=⟨⟨rfl,rfl⟩,trivial⟩)) ?_
 refine AW.cH hH (fun hc74 hH=>?_) (fun _ hH=>?_)
 refine AW.k (AW.condT' rfl hc74 ?_)
 refine AW.q ?_
 obtain⟨x75,hx76,hH⟩:=zB hH
 refine AW.le (Le.fM 12 (g:=ze0) rfl (fun y=>.vs rfl)) ?_
 refine gs4 ?_
 refine AO.x (qAd (qHv x75.1 45 46 47) [(47,ro 1 ze1 x75.1.performance.marks.components),(46,ro 1 ze1 x75.1.performance.marks.grades),(45,ro 3 ze6 x75.1.performance.items)] 48 (by kernel_rfl) rfl 45 rfl rfl rfl rfl (es:=[.pn (qIF sA),.v (.string x7),.s (v32.map ze0)]) (us:=[.u,.u]) (cs:=qIF x75.1) (ids:=[1,2,3,4]) (by exact zG (.pb rfl (zC .s (zC .s (zC .v (zC .v (zC .v (zC .v (zC (.rowR rfl) (zC (.rowR rfl) (zC (.rowR rfl) (zC .v (zC .v (zC .v (zC .v (zC .s (zCn)))))))))))))))) (zG (.c .v) (zG (.c .s) (zGn)))) (by decide) (by decide) (qHE fl _ _ _ _ (hx76)) rfl rfl (by rfl) rfl) ?_
 refine gs3 ?_
 exact qEa
 refine gs4 ?_
 refine AW.cH hH (fun _ hH=>?_) (fun _ hH=>?_)
 refine AW.q ?_
 obtain⟨x78,hx79,hH⟩:=zB hH
 refine AW.le (Le.fM 12 (g:=ze0) rfl (fun y=>.vs rfl)) ?_
 refine gs4 ?_
 refine AO.x (qAd (qHv x78.1 48 49 50) [(50,ro 1 ze1 x78.1.performance.marks.components),(49,ro 1 ze1 x78.1.performance.marks.grades),(48,ro 3 ze6 x78.1.performance.items)] 51 (by kernel_rfl) rfl 48 rfl rfl rfl rfl (es:=[.pn (qIF sA),.v (.string x7),.s (v32.map ze0)]) (us:=[.u,.u]) (cs:=qIF x78.1) (ids:=[1,2,3,4]) (by exact zG (.pb rfl (zC .s (zC .s (zC .v (zC .v (zC .v (zC .v (zC (.rowR rfl) (zC (.rowR rfl) (zC (.rowR rfl) (zC .v (zC .v (zC .v (zC .v (zC .s (zCn)))))))))))))))) (zG (.c .v) (zG (.c .s) (zGn)))) (by decide) (by decide) (qHE fl _ _ _ _ (hx79)) rfl rfl (by rfl) rfl) ?_
 refine gs3 ?_
 exact qEa
 refine gs2 ?_
 obtain⟨x80,hx81,hH⟩:=zB hH
 refine AW.le (Le.fM 12 (g:=ze0) rfl (fun y=>.vs rfl)) ?_
 refine gs4 ?_
 refine AO.x (qAd (qHv x80.1 51 52 53) [(53,ro 1 ze1 x80.1.performance.marks.components),(52,ro 1 ze1 x80.1.performance.marks.grades),(51,ro 3 ze6 x80.1.performance.items)] 54 (by kernel_rfl) rfl 51 rfl rfl rfl rfl (es:=[.pn (qIF sA),.v (.string x7),.s (v32.map ze0)]) (us:=[.u,.u]) (cs:=qIF x80.1) (ids:=[1,2,3,4]) (by exact zG (.pb rfl (zC .s (zC .s (zC .v (zC .v (zC .v (zC .v (zC (.rowR rfl) (zC (.rowR rfl) (zC (.rowR rfl) (zC .v (zC .v (zC .v (zC .v (zC .s (zCn)))))))))))))))) (zG (.c .v) (zG (.c .s) (zGn)))) (by decide) (by decide) (qKP fl _ _ _ _ (hx81)) rfl rfl (by rfl) rfl) ?_
 refine gs3 ?_
 exact qEa
 rw[hd16,qAA]at hH
 have hlt18:=qAG hd16
 iterate 18 refine gs ?_
 obtain⟨b82,hx83,x84,hx85,hH⟩:=qAH hH
 refine gs3 ?_
 refine AO.w (qBM T rfl rfl rfl rfl (hx83)) ?_
 refine AO.pu T ?_
 refine AO.w (cVs (qOj fl _ _ _ (hx85))) ?_
 iterate 12 refine gs ?_
 refine AW.cH hH (fun _ hH=>?_) (fun _ hH=>?_)
 refine gs5 ?_
 exact qEa
 refine AW.k ?_
 obtain⟨u86,hx87,hH⟩:=zB hH
 refine gs3 ?_
 refine AO.x (mks T 54 ze0 ([x84.1])) ?_
 refine AO.x (rvs T 55 (hfit:=by exact qAP (hx87))) ?_
 refine gs6 ?_
 refine⟨(k13+1,(v32++[x84.1])),⟨hlt18,(zds hd16▸hH)⟩,qBl hlt18,?_⟩
 exact Le.ct 55 12 (hpin:=⟨⟨rfl,rfl⟩,trivial⟩)
def qBU (fl:Nat):List aa->Nat->List Element->ac->Int->Int->Int->Int->List Item->List ac->List ac->Int->Int->Int->Int->List Result->List aa->Option (((Option ScriptState)×(List aa)×Bool))
 | [],k5,v34,v35,v36,v37,v38,v39,v40,v41,v42,v43,v44,v45,v46,v47,v48 =>
  some ((some (ScriptState.mk (Code.mk v34 v35 v36 v37 v38 v39) (Performance.mk v40 (Marks.mk v41 v42) (Slips.mk v43 v44 v45)) v46 v47)),v48,true)
 |y6::ys7,k5,v34,v35,v36,v37,v38,v39,v40,v41,v42,v43,v44,v45,v46,v47,v48 =>
  (qAg fl (ScriptState.mk (Code.mk v34 v35 v36 v37 v38 v39) (Performance.mk v40 (Marks.mk v41 v42) (Slips.mk v43 v44 v45)) v46 v47) y6).bind fun x50 =>
  (qAq (qAi 16 (v48.length+([x50.2]).length))).bind fun u52 =>
  qBU fl ys7 (k5+1) x50.1.code.elements x50.1.code.limits x50.1.code.repeats x50.1.code.bonus x50.1.code.keeps x50.1.code.fall x50.1.performance.items x50.1.performance.marks.grades x50.1.performance.marks.components x50.1.performance.slips.falls x50.1.performance.slips.seconds x50.1.performance.slips.other x50.1.factor x50.1.results (v48++[x50.2])
def qFk (fl:Nat) (script:aa):Option ((Option ScriptState)×(List aa)×Bool) :=
 (qCc script).bind fun x1 =>
 cond (!x1.2)
  (some (none,[],false))
  ((qHT fl ).bind fun x3 =>
  qBU fl x1.1 0 x3.code.elements x3.code.limits x3.code.repeats x3.code.bonus x3.code.keeps x3.code.fall x3.performance.items x3.performance.marks.grades x3.performance.marks.components x3.performance.slips.falls x3.performance.slips.seconds x3.performance.slips.other x3.factor x3.results [])
theorem qKA (fl:Nat) (script:aa) (r:((Option ScriptState)×(List aa)×Bool)) (hH:qFk fl script=some r):qAC prog 46 [.v (.string script)] (.t [pnO qIF r.1,.w 1 (r.2.1.map ze2),.v (.bool r.2.2)]):=by
 refine fns T func46 ?_
 refine gs7 ?_
 obtain⟨x1,hx2,hH⟩:=zB hH
 refine gs2 ?_
 refine AO.x (qAV rfl 1 rfl rfl rfl (qMn _ _ (hx2)) rfl rfl rfl) ?_
 iterate 12 refine gs ?_
 refine AW.cH hH (fun _ hH=>?_) (fun _ hH=>?_)
 refine gs7 ?_
 exact fin
 refine gs2 ?_
 obtain⟨x3,hx4,hH⟩:=zB hH
 refine AW.r (AO.x (qQ2 (.p 2 0) [(2,.box (qHv x3 3 4 5)),(5,ro 1 ze1 x3.performance.marks.components),(4,ro 1 ze1 x3.performance.marks.grades),(3,ro 3 ze6 x3.performance.items)] 6 (by kernel_rfl) rfl 2 rfl rfl rfl rfl (qOg fl _ (hx4)) rfl rfl rfl) ?_)
 refine AO.x (qGV T rfl rfl rfl rfl) ?_
 iterate 11 refine gs ?_
 refine AW.loopS (fun s:Nat×(List Element)×ac×Int×Int×Int×Int×(List Item)×(List ac)×(List ac)×Int×Int×Int×Int×(List Result)×(List aa)=>(⟨[(7,.p 2 0),(8,.R 15),(20,.R 1),(21,(x1.1.length:Int)),(22,(s.1:Int))],[(1,ro 1 ze2 x1.1),(2,.box [sv ze7 s.2.1,sv ze0 s.2.2.1,s.2.2.2.1,s.2.2.2.2.1,s.2.2.2.2.2.1,s.2.2.2.2.2.2.1,.R 3,.R 4,.R 5,s.2.2.2.2.2.2.2.2.2.2.1,s.2.2.2.2.2.2.2.2.2.2.2.1,s.2.2.2.2.2.2.2.2.2.2.2.2.1,s.2.2.2.2.2.2.2.2.2.2.2.2.2.1,sv ze9 s.2.2.2.2.2.2.2.2.2.2.2.2.2.2.1]),(3,ro 3 ze6 s.2.2.2.2.2.2.2.1),(4,ro 1 ze1 s.2.2.2.2.2.2.2.2.1),(5,ro 1 ze1 s.2.2.2.2.2.2.2.2.2.1),(15,ro 1 ze2 s.2.2.2.2.2.2.2.2.2.2.2.2.2.2.2)],35,[]⟩:St)) (fun s=>s.1<=x1.1.length/\qBU fl (x1.1.drop s.1) s.1 s.2.1 s.2.2.1 s.2.2.2.1 s.2.2.2.2.1 s.2.2.2.2.2.1 s.2.2.2.2.2.2.1 s.2.2.2.2.2.2.2.1 s.2.2.2.2.2.2.2.2.1 s.2.2.2.2.2.2.2.2.2.1 s.2.2.2.2.2.2.2.2.2.2.1 s.2.2.2.2.2.2.2.2.2.2.2.1 s.2.2.2.2.2.2.2.2.2.2.2.2.1 s.2.2.2.2.2.2.2.2.2.2.2.2.2.1 s.2.2.2.2.2.2.2.2.2.2.2.2.2.2.1 s.2.2.2.2.2.2.2.2.2.2.2.2.2.2.2=some r) (fun s=>x1.1.length-s.1) (0,x3.code.elements,x3.code.limits,x3.code.repeats,x3.code.bonus,x3.code.keeps,x3.code.fall,x3.performance.items,x3.performance.marks.grades,x3.performance.marks.components,x3.performance.slips.falls,x3.performance.slips.seconds,x3.performance.slips.other,x3.factor,x3.results,[]) ⟨Nat.zero_le _,hH⟩ ?_ ?_
 refine Le.trans (Le.void 8 15 1 rfl rfl) ?_
 exact Le.ct 0 0
 rintro⟨k5,v34,v35,v36,v37,v38,v39,v40,v41,v42,v43,v44,v45,v46,v47,v48⟩ ⟨hk,hH⟩
 try dsimp only at hH⊢
 refine AW.boundR (id:=1) (l:=x1.1) rfl (fun hb9=>?_)
 rcases hd8:x1.1.drop k5 with _|⟨y6,ys7⟩
 rw[hd8,qBU]at hH
 have hlt10:=qAF hd8
 iterate 16 refine gs ?_
 have hR:=zS hH;subst hR
 exact retQ.i [2,3,4,5,15] rfl (.t (zG (.pb rfl (zC .s (zC .s (zC .v (zC .v (zC .v (zC .v (zC (.rowR rfl) (zC (.rowR rfl) (zC (.rowR rfl) (zC .v (zC .v (zC .v (zC .v (zC .s (zCn)))))))))))))))) (zG (.c (.rowR rfl)) (zG (.c .v) (zGn)))))
 rw[hd8,qBU]at hH
 have hlt10:=qAG hd8
 iterate 12 refine gs ?_
 refine AO.w (zLr T rfl rfl rfl rfl (zgG (zgD hd8)) rfl rfl rfl) ?_
 refine gs2 ?_
 obtain⟨x50,hx51,u52,hx53,hH⟩:=qAH hH
 refine gs4 ?_
 refine AO.x (qAd (qHv x50.1 16 17 18) [(18,ro 1 ze1 x50.1.performance.marks.components),(17,ro 1 ze1 x50.1.performance.marks.grades),(16,ro 3 ze6 x50.1.performance.items)] 19 (by kernel_rfl) rfl 16 rfl rfl rfl rfl (es:=[.pn (qIF (ScriptState.mk (Code.mk v34 v35 v36 v37 v38 v39) (Performance.mk v40 (Marks.mk v41 v42) (Slips.mk v43 v44 v45)) v46 v47)),.v (.string y6)]) (us:=[.u]) (cs:=qIF x50.1) (ids:=[2,3,4,5]) (by exact zG (.pb rfl (zC .s (zC .s (zC .v (zC .v (zC .v (zC .v (zC (.rowR rfl) (zC (.rowR rfl) (zC (.rowR rfl) (zC .v (zC .v (zC .v (zC .v (zC .s (zCn)))))))))))))))) (zG (.c .v) (zGn))) (by decide) (by decide) (qKZ fl _ _ _ (hx51)) rfl rfl (by rfl) rfl) ?_
 refine AO.x (mks T 19 ze2 ([x50.2])) ?_
 refine AO.x (rvs T 20 (hfit:=by exact qAP (hx53))) ?_
 refine gs6 ?_
 refine⟨(k5+1,x50.1.code.elements,x50.1.code.limits,x50.1.code.repeats,x50.1.code.bonus,x50.1.code.keeps,x50.1.code.fall,x50.1.performance.items,x50.1.performance.marks.grades,x50.1.performance.marks.components,x50.1.performance.slips.falls,x50.1.performance.slips.seconds,x50.1.performance.slips.other,x50.1.factor,x50.1.results,(v48++[x50.2])),⟨hlt10,(zds hd8▸hH)⟩,qBl hlt10,?_⟩
 refine Le.trans (Le.ct 20 15 (σ':=(⟨[(7,.p 2 0),(8,.R 15),(20,.R 1),(21,(x1.1.length:Int)),(22,((k5+1:Nat):Int))],[(1,ro 1 ze2 x1.1),(2,.box (qHv x50.1 16 17 18)),(15,ro 1 ze2 (v48++[x50.2])),(16,ro 3 ze6 x50.1.performance.items),(17,ro 1 ze1 x50.1.performance.marks.grades),(18,ro 1 ze1 x50.1.performance.marks.components)],35,[]⟩:St))) ?_
 refine Le.trans (Le.ct 16 3 (σ':=(⟨[(7,.p 2 0),(8,.R 15),(20,.R 1),(21,(x1.1.length:Int)),(22,((k5+1:Nat):Int))],[(1,ro 1 ze2 x1.1),(2,.box (qHv x50.1 3 17 18)),(3,ro 3 ze6 x50.1.performance.items),(15,ro 1 ze2 (v48++[x50.2])),(17,ro 1 ze1 x50.1.performance.marks.grades),(18,ro 1 ze1 x50.1.performance.marks.components)],35,[]⟩:St))) ?_
 refine Le.trans (Le.ct 17 4 (σ':=(⟨[(7,.p 2 0),(8,.R 15),(20,.R 1),(21,(x1.1.length:Int)),(22,((k5+1:Nat):Int))],[(1,ro 1 ze2 x1.1),(2,.box (qHv x50.1 3 4 18)),(3,ro 3 ze6 x50.1.performance.items),(4,ro 1 ze1 x50.1.performance.marks.grades),(15,ro 1 ze2 (v48++[x50.2])),(18,ro 1 ze1 x50.1.performance.marks.components)],35,[]⟩:St))) ?_
 exact Le.ct 18 5
def qFW (fl:Nat) (script:aa):Option (Performance×Bool) :=
 (qFk fl script).bind fun x1 =>
 (match x1.1 with
  |none =>
   cond (!x1.2.2)
    (some ((Performance.mk [] (Marks.mk [] []) (Slips.mk 0 0 0)),false))
    (none)
  |some p0_0 =>
   cond (!x1.2.2)
    (some ((Performance.mk [] (Marks.mk [] []) (Slips.mk 0 0 0)),false))
    (some (p0_0.performance,true)))
theorem qHH (fl:Nat) (script:aa) (r:(Performance×Bool)) (hH:qFW fl script=some r):qAC prog 30 [.v (.string script)] (.t [.g (qGA r.1),.v (.bool r.2)]):=by
 refine fns T func30 ?_
 refine go ?_
 refine AO.x (als T 1) (go ?_)
 obtain⟨x1,hx2,hH⟩:=zB hH
 rcases hq0_0:x1.1 with _|p0_0
 rw[hq0_0]at hH
 try dsimp only at hH
 refine go ?_
 refine AO.x (qAV rfl 2 rfl rfl rfl ((by have q:=qKA fl _ _ (hx2);rw[hq0_0]at q;exact q)) rfl rfl rfl) (go ?_)
 refine AW.cH hH (fun _ hH=>?_) (fun hc hH=>?_)
 refine go ?_
 refine AO.se T [.w 0 [],.w 0 [],.w 0 [],(0:Int),(0:Int),(0:Int)] ?_
 refine go ?_
 exact fin
 refine go ?_
 cases hH
 rw[hq0_0]at hH
 try dsimp only at hH
 refine go ?_
 refine AO.x (qAV rfl 2 rfl rfl rfl ((by have q:=qKA fl _ _ (hx2);rw[hq0_0]at q;exact q)) rfl rfl rfl) (go ?_)
 refine AW.cH hH (fun _ hH=>?_) (fun _ hH=>?_)
 refine go ?_
 refine AO.se T [.w 0 [],.w 0 [],.w 0 [],(0:Int),(0:Int),(0:Int)] ?_
 refine go ?_
 exact fin
 refine go ?_
 refine AO.se T [.R 3,.R 4,.R 5,p0_0.performance.slips.falls,p0_0.performance.slips.seconds,p0_0.performance.slips.other] ?_
 refine go ?_
 exact fin
def qCR (b:List aa):List aa->Nat->ad
 | [],k1 =>
  some true
 |y2::ys3,k1 =>
  (qAT b (k1:Int)).bind fun x12 =>
  cond (!decide (y2=x12))
   (some false)
   (qCR b ys3 (k1+1))
def qGv (a:List aa) (b:List aa):ad :=
 cond ((a.length:Int) != (b.length:Int))
  (some false)
  (qCR b a 0)
theorem qNa (a:List aa) (b:List aa) (r:Bool) (hH:qGv a b=some r):qAC prog 125 [.s (List.map ze2 a),.s (List.map ze2 b)] (.v (.bool r)):=by
 refine fns T func125 ?_
 refine go ?_
 refine AW.cH hH (fun _ hH=>?_) (fun hc hH=>?_)
 refine go ?_
 exact fin
 refine go ?_
 refine AW.loopS (fun s:Nat=>(⟨[(0,sv ze2 a),(1,sv ze2 b),(5,(s:Int))],[],26,[]⟩:St)) (fun s=>s<=a.length/\qCR b (a.drop s) s=some r) (fun s=>a.length-s) 0 ⟨Nat.zero_le _,hH⟩ ?_ ?_
 exact Le.ct 0 0
 rintro k1 ⟨hk,hH⟩
 try dsimp only at hH⊢
 refine AW.boundM (t:=0) (l:=a) rfl (fun hb5=>?_)
 rcases hd4:a.drop k1 with _|⟨y2,ys3⟩
 rw[hd4,qCR]at hH
 have hlt6:=qAF hd4
 refine go ?_
 exact fin
 rw[hd4,qCR]at hH
 have hlt6:=qAG hd4
 refine go ?_
 obtain⟨x12,hx13,hH⟩:=zB hH
 refine AW.drawn 8 1 [] mix (by kernel_rfl) rfl ?_
 refine go ?_
 refine AW.cH hH (fun _ hH=>?_) (fun _ hH=>?_)
 refine go ?_
 exact fin
 refine go ?_
 refine⟨k1+1,⟨hlt6,(zds hd4▸hH)⟩,qBl hlt6,?_⟩
 exact Le.ct 0 0
def qD4 (b:ac):ac->Nat->ad
 | [],k1 =>
  some true
 |y2::ys3,k1 =>
  (qAT b (k1:Int)).bind fun x12 =>
  cond (y2 != x12)
   (some false)
   (qD4 b ys3 (k1+1))
def qHc (a:ac) (b:ac):ad :=
 cond ((a.length:Int) != (b.length:Int))
  (some false)
  (qD4 b a 0)
theorem qML (a:ac) (b:ac) (r:Bool) (hH:qHc a b=some r):qAC prog 16 [.s (List.map ze0 a),.s (List.map ze0 b)] (.v (.bool r)):=by
 refine fns T func16 ?_
 refine go ?_
 refine AW.cH hH (fun _ hH=>?_) (fun hc hH=>?_)
 refine go ?_
 exact fin
 refine go ?_
 refine AW.loopS (fun s:Nat=>(⟨[(0,sv ze0 a),(1,sv ze0 b),(5,(s:Int))],[],26,[]⟩:St)) (fun s=>s<=a.length/\qD4 b (a.drop s) s=some r) (fun s=>a.length-s) 0 ⟨Nat.zero_le _,hH⟩ ?_ ?_
 exact Le.ct 0 0
 rintro k1 ⟨hk,hH⟩
 try dsimp only at hH⊢
 refine AW.boundM (t:=0) (l:=a) rfl (fun hb5=>?_)
 rcases hd4:a.drop k1 with _|⟨y2,ys3⟩
 rw[hd4,qD4]at hH
 have hlt6:=qAF hd4
 refine go ?_
 exact fin
 rw[hd4,qD4]at hH
 have hlt6:=qAG hd4
 refine go ?_
 obtain⟨x12,hx13,hH⟩:=zB hH
 refine AW.drawn 8 1 [] mix (by kernel_rfl) rfl ?_
 refine go ?_
 refine AW.cH hH (fun _ hH=>?_) (fun _ hH=>?_)
 refine go ?_
 exact fin
 refine go ?_
 refine⟨k1+1,⟨hlt6,(zds hd4▸hH)⟩,qBl hlt6,?_⟩
 exact Le.ct 0 0
def qIs (a:Item) (b:Item):ad :=
 (qGv a.names b.names).bind fun x1 =>
 cond (!x1)
  (some false)
  ((qHc a.marks b.marks).bind fun x3 =>
  cond (!x3)
   (some false)
   (cond (!(a.late==b.late))
    (some false)
    (some true)))
theorem qQI (a:Item) (b:Item) (r:Bool) (hH:qIs a b=some r):qAC prog 82 [.g (ze3 a),.g (ze3 b)] (.v (.bool r)):=by
 refine fns T func82 ?_
 refine go ?_
 refine AO.x (bxs T 1) ?_
 refine AO.x (bxs T 2) (go ?_)
 obtain⟨x1,hx2,hH⟩:=zB hH
 refine go ?_
 refine AO.w (cVs (qNa _ _ _ (hx2))) (go ?_)
 refine AW.cH hH (fun _ hH=>?_) (fun hc hH=>?_)
 refine go ?_
 exact fin
 refine go ?_
 obtain⟨x3,hx4,hH⟩:=zB hH
 refine go ?_
 refine AO.w (cVs (qML _ _ _ (hx4))) (go ?_)
 refine AW.cH hH (fun _ hH=>?_) (fun hc hH=>?_)
 refine go ?_
 exact fin
 refine go ?_
 refine AW.cH hH (fun _ hH=>?_) (fun _ hH=>?_)
 refine go ?_
 exact fin
 refine go ?_
 exact fin
def qDV (b:List Item):List Item->Nat->ad
 | [],k1 =>
  some true
 |y2::ys3,k1 =>
  (qAT b (k1:Int)).bind fun x16 =>
  (qIs y2 x16).bind fun x18 =>
  cond (!x18)
   (some false)
   (qDV b ys3 (k1+1))
def qIK (a:List Item) (b:List Item):ad :=
 cond ((a.length:Int) != (b.length:Int))
  (some false)
  (qDV b a 0)
theorem qPK (a:List Item) (b:List Item) (r:Bool) (hH:qIK a b=some r):qAC prog 56 [.s (List.map ze3 a),.s (List.map ze3 b)] (.v (.bool r)):=by
 refine fns T func56 ?_
 refine go ?_
 refine AW.cH hH (fun _ hH=>?_) (fun hc hH=>?_)
 refine go ?_
 exact fin
 refine go ?_
 refine AW.loopS (fun s:Nat=>(⟨[(0,sv ze3 a),(1,sv ze3 b),(5,(s:Int))],[],27,[]⟩:St)) (fun s=>s<=a.length/\qDV b (a.drop s) s=some r) (fun s=>a.length-s) 0 ⟨Nat.zero_le _,hH⟩ ?_ ?_
 exact Le.ct 0 0
 rintro k1 ⟨hk,hH⟩
 try dsimp only at hH⊢
 refine AW.boundM (t:=0) (l:=a) rfl (fun hb5=>?_)
 rcases hd4:a.drop k1 with _|⟨y2,ys3⟩
 rw[hd4,qDV]at hH
 have hlt6:=qAF hd4
 refine go ?_
 exact fin
 rw[hd4,qDV]at hH
 have hlt6:=qAG hd4
 refine go ?_
 obtain⟨x16,hx17,x18,hx19,hH⟩:=qAH hH
 refine AW.drawn 8 1 [] mix (by kernel_rfl) rfl ?_
 refine go ?_
 refine AO.w (cVs (qQI _ _ _ (hx19))) (go ?_)
 refine AW.cH hH (fun _ hH=>?_) (fun _ hH=>?_)
 refine go ?_
 exact fin
 refine go ?_
 refine⟨k1+1,⟨hlt6,(zds hd4▸hH)⟩,qBl hlt6,?_⟩
 exact Le.ct 0 0
def qDb (b:List ac):List ac->Nat->ad
 | [],k1 =>
  some true
 |y2::ys3,k1 =>
  (qAT b (k1:Int)).bind fun x16 =>
  (qHc y2 x16).bind fun x18 =>
  cond (!x18)
   (some false)
   (qDb b ys3 (k1+1))
def qGo (a:List ac) (b:List ac):ad :=
 cond ((a.length:Int) != (b.length:Int))
  (some false)
  (qDb b a 0)
theorem qLc (a:List ac) (b:List ac) (r:Bool) (hH:qGo a b=some r):qAC prog 83 [.s (List.map ze5 a),.s (List.map ze5 b)] (.v (.bool r)):=by
 refine fns T func83 ?_
 refine go ?_
 refine AW.cH hH (fun _ hH=>?_) (fun hc hH=>?_)
 refine go ?_
 exact fin
 refine go ?_
 refine AW.loopS (fun s:Nat=>(⟨[(0,sv ze5 a),(1,sv ze5 b),(5,(s:Int))],[],27,[]⟩:St)) (fun s=>s<=a.length/\qDb b (a.drop s) s=some r) (fun s=>a.length-s) 0 ⟨Nat.zero_le _,hH⟩ ?_ ?_
 exact Le.ct 0 0
 rintro k1 ⟨hk,hH⟩
 try dsimp only at hH⊢
 refine AW.boundM (t:=0) (l:=a) rfl (fun hb5=>?_)
 rcases hd4:a.drop k1 with _|⟨y2,ys3⟩
 rw[hd4,qDb]at hH
 have hlt6:=qAF hd4
 refine go ?_
 exact fin
 rw[hd4,qDb]at hH
 have hlt6:=qAG hd4
 refine go ?_
 obtain⟨x16,hx17,x18,hx19,hH⟩:=qAH hH
 refine AW.drawn 8 1 [] mix (by kernel_rfl) rfl ?_
 refine go ?_
 refine AO.w (cVs (qML _ _ _ (hx19))) (go ?_)
 refine AW.cH hH (fun _ hH=>?_) (fun _ hH=>?_)
 refine go ?_
 exact fin
 refine go ?_
 refine⟨k1+1,⟨hlt6,(zds hd4▸hH)⟩,qBl hlt6,?_⟩
 exact Le.ct 0 0
def qH9 (a:Marks) (b:Marks):ad :=
 (qGo a.grades b.grades).bind fun x1 =>
 cond (!x1)
  (some false)
  ((qGo a.components b.components).bind fun x3 =>
  cond (!x3)
   (some false)
   (some true))
theorem qPT (a:Marks) (b:Marks) (r:Bool) (hH:qH9 a b=some r):qAC prog 57 [.g (qAb a),.g (qAb b)] (.v (.bool r)):=by
 refine fns T func57 ?_
 refine go ?_
 refine AO.x (bxs T 1) ?_
 refine AO.x (bxs T 2) (go ?_)
 obtain⟨x1,hx2,hH⟩:=zB hH
 refine go ?_
 refine AO.w (cVs (qLc _ _ _ (hx2))) (go ?_)
 refine AW.cH hH (fun _ hH=>?_) (fun hc hH=>?_)
 refine go ?_
 exact fin
 refine go ?_
 obtain⟨x3,hx4,hH⟩:=zB hH
 refine go ?_
 refine AO.w (cVs (qLc _ _ _ (hx4))) (go ?_)
 refine AW.cH hH (fun _ hH=>?_) (fun _ hH=>?_)
 refine go ?_
 exact fin
 refine go ?_
 exact fin
def qIM (a:Slips) (b:Slips):ad :=
 cond (a.falls != b.falls)
  (some false)
  (cond (a.seconds != b.seconds)
   (some false)
   (cond (a.other != b.other)
    (some false)
    (some true)))
theorem qPl (a:Slips) (b:Slips) (r:Bool) (hH:qIM a b=some r):qAC prog 58 [.g (qLn a),.g (qLn b)] (.v (.bool r)):=by
 refine fns T func58 ?_
 refine go ?_
 refine AO.x (bxs T 1) ?_
 refine AO.x (bxs T 2) (go ?_)
 refine AW.cH hH (fun _ hH=>?_) (fun hc hH=>?_)
 refine go ?_
 exact fin
 refine go ?_
 refine AW.cH hH (fun _ hH=>?_) (fun hc hH=>?_)
 refine go ?_
 exact fin
 refine go ?_
 refine AW.cH hH (fun _ hH=>?_) (fun _ hH=>?_)
 refine go ?_
 exact fin
 refine go ?_
 exact fin
def qDu (a:Performance) (b:Performance):ad :=
 (qIK a.items b.items).bind fun x1 =>
 cond (!x1)
  (some false)
  ((qH9 a.marks b.marks).bind fun x3 =>
  cond (!x3)
   (some false)
   ((qIM a.slips b.slips).bind fun x5 =>
   cond (!x5)
    (some false)
    (some true)))
theorem qIN (a:Performance) (b:Performance) (r:Bool) (hH:qDu a b=some r):qAC prog 31 [.g (ze8 a),.g (ze8 b)] (.v (.bool r)):=by
 refine fns T func31 ?_
 refine go ?_
 refine AO.x (bxs T 1) ?_
 refine AO.x (bxs T 2) (go ?_)
 obtain⟨x1,hx2,hH⟩:=zB hH
 refine go ?_
 refine AO.w (cVs (qPK _ _ _ (hx2))) (go ?_)
 refine AW.cH hH (fun _ hH=>?_) (fun hc hH=>?_)
 refine go ?_
 exact fin
 refine go ?_
 obtain⟨x3,hx4,hH⟩:=zB hH
 refine go ?_
 refine AO.w (cVs (qPT _ _ _ (hx4))) (go ?_)
 refine AW.cH hH (fun _ hH=>?_) (fun hc hH=>?_)
 refine go ?_
 exact fin
 refine go ?_
 obtain⟨x5,hx6,hH⟩:=zB hH
 refine go ?_
 refine AO.w (cVs (qPl _ _ _ (hx6))) (go ?_)
 refine AW.cH hH (fun _ hH=>?_) (fun _ hH=>?_)
 refine go ?_
 exact fin
 refine go ?_
 exact fin
def qDr:Nat->Int->aa->Option aa
 |0,_,_=>none
 |k21+1,v32,v33 =>
  cond (decide (v32>0))
   ((qAq (10 != 0)).bind fun u35 =>
   (qAq (Nat.ble ((strOfNums [IntKind.wrap .u8 (w64 (48+(v32.tmod 10)))]).size+v33.size) qDx)).bind fun u37 =>
   qDr k21 (w64 (v32.tdiv 10)) ((strOfNums [IntKind.wrap .u8 (w64 (48+(v32.tmod 10)))])++v33))
   (some v33)
def qGF (fl:Nat) (k:Int):Option aa :=
 cond (decide (k<=0))
  (some (⟨#[109,48]⟩:aa))
  ((qDr fl k (⟨#[]⟩:aa)).bind fun v18 =>
  (qAq (Nat.ble ((⟨#[109]⟩:aa).size+v18.size) qDx)).bind fun u39 =>
  some ((⟨#[109]⟩:aa)++v18))
theorem qKr (fl:Nat) (k:Int) (r:aa) (hH:qGF fl k=some r):qAC prog 79 [k] (.v (.string r)):=by
 refine fns T func79 ?_
 iterate 10 refine gs ?_
 refine AW.cH hH (fun _ hH=>?_) (fun hc hH=>?_)
 refine gs5 ?_
 exact fin
 refine gs5 ?_
 obtain⟨o19,hH,hK20⟩:=zB hH
 refine AW.seqJ (fun s:aa=>(⟨[(3,.v (.string s))],[],20,[]⟩:St)) (fun s=>s=o19) ?_ ?_
 refine AW.b (AW.loopS (fun s:Nat×Int×aa=>(⟨[(0,s.2.1),(3,.v (.string s.2.2))],[],20,[]⟩:St)) (fun s=>qDr s.1 s.2.1 s.2.2=some o19) (fun s=>s.1) (fl,k,(⟨#[]⟩:aa)) hH ?_ ?_)
 exact Le.ct 0 0
 rintro⟨k21,v32,v33⟩ hH
 try dsimp only at hH⊢
 rcases k21 with _|k21
 cases (show none=some _ from hH)
 rw[qDr]at hH
 refine gs6 ?_
 refine AW.cH hH (fun _ hH=>?_) (fun _ hH=>?_)
 refine gs3 ?_
 obtain⟨u35,hx36,u37,hx38,hH⟩:=qAH hH
 refine gs2 ?_
 refine AO.w (qOJ rfl rfl rfl (neZ (qAP (hx36)))) ?_
 refine AO.w aws ?_
 refine AO.w (qNM T rfl rfl rfl rfl) ?_
 refine AO.x (mks T 6 qO7 ([IntKind.wrap .u8 (w64 (48+(v32.tmod 10)))])) ?_
 refine AO.w (qKI T rfl rfl rfl rfl rfl rfl (fun _=>rfl) rfl) ?_
 refine AO.pu T ?_
 refine AO.w (qBe rfl rfl rfl (Nat.le_of_ble_eq_true (qAP (hx38)))) ?_
 refine gs4 ?_
 refine AO.w (qHA rfl rfl rfl (neZ (qAP (hx36)))) ?_
 refine gs2 ?_
 refine⟨(k21,w64 (v32.tdiv 10),((strOfNums [IntKind.wrap .u8 (w64 (48+(v32.tmod 10)))])++v33)),hH,Nat.lt_succ_self _,?_⟩
 exact Le.ct 0 0
 refine AW.exit ?_
 refine⟨_,zS hH,?_⟩
 exact Le.ct 0 0
 rintro v18 hs
 subst hs
 replace hH:=hK20
 try dsimp only[qLW,qJg]at hH
 try dsimp only
 refine AW.q ?_
 obtain⟨u39,hx40,hH⟩:=zB hH
 refine gs2 ?_
 refine AO.w (qBe rfl rfl rfl (Nat.le_of_ble_eq_true (qAP (hx40)))) ?_
 refine gs3 ?_
 exact fin
def qCK (fl:Nat):Nat->List aa->Int->Int->Option (((List aa)×Int))
 |0,_,_,_=>none
 |k1+1,v13,v14,v15 =>
  cond (decide (v15<(v13.length:Int)))
   ((qGF fl v14).bind fun x17 =>
   (qAT v13 v15).bind fun x19 =>
   qCK fl k1 (v13.set v15.toNat x17) (w64 (v14+1)) (w64 (v15+1)))
   (some (v13,v14))
def qHe (fl:Nat) (a:List aa) (k:Int):Option ((List aa)×Int) :=
 qCK fl fl a k 0
theorem qMb (fl:Nat) (a:List aa) (k:Int) (r:((List aa)×Int)) (hH:qHe fl a k=some r):qFe prog 84 [.w 1 (a.map ze2),k] [.w 1 (r.1.map ze2),.u] (.v (.int .i64 r.2)):=by
 refine qOL T func84 rfl (by decide) rfl rfl ?_
 intro L
 show AW _ _ _ (⟨[(0,.R 1),(1,k)],[(1,ro 1 ze2 a)],20,[(1,L 1)]⟩:St)
 refine go ?_
 refine AW.loopS (fun s:Nat×(List aa)×Int×Int=>(⟨[(0,.R 1),(1,s.2.2.1),(5,s.2.2.2)],[(1,ro 1 ze2 s.2.1)],20,[(1,L 1)]⟩:St)) (fun s=>qCK fl s.1 s.2.1 s.2.2.1 s.2.2.2=some r) (fun s=>s.1) (fl,a,k,0) hH ?_ ?_
 exact Le.ct 0 0 (hpin:=⟨⟨rfl,rfl⟩,trivial⟩)
 rintro⟨k1,v13,v14,v15⟩ hH
 try dsimp only at hH⊢
 rcases k1 with _|k1
 cases (show none=some _ from hH)
 rw[qCK]at hH
 refine go ?_
 refine AW.cH hH (fun _ hH=>?_) (fun _ hH=>?_)
 refine go ?_
 obtain⟨x17,hx18,x19,hx20,hH⟩:=qAH hH
 refine go ?_
 refine AO.w (cVs (qKr fl _ _ (hx18))) (go ?_)
 refine AO.x (zSr T rfl rfl rfl rfl rfl (zgG (hx20)) rfl rfl rfl rfl (u':=x17) rfl rfl) (go ?_)
 refine⟨(k1,(v13.set v15.toNat x17),w64 (v14+1),w64 (v15+1)),hH,Nat.lt_succ_self _,?_⟩
 exact Le.ct 0 0 (hpin:=⟨⟨rfl,rfl⟩,trivial⟩)
 refine go ?_
 exact qEa
def qC4:Nat->ac->Int->Int->Option ((ac×Int))
 |0,_,_,_=>none
 |k1+1,v9,v10,v11 =>
  cond (decide (v11<(v9.length:Int)))
   ((qAT v9 v11).bind fun x13 =>
   qC4 k1 (v9.set v11.toNat v10) (w64 (v10+1)) (w64 (v11+1)))
   (some (v9,v10))
def qHf (fl:Nat) (a:ac) (k:Int):Option (ac×Int) :=
 qC4 fl a k 0
theorem qKq (fl:Nat) (a:ac) (k:Int) (r:(ac×Int)) (hH:qHf fl a k=some r):qFe prog 17 [.w 1 (a.map ze0),k] [.w 1 (r.1.map ze0),.u] (.v (.int .i64 r.2)):=by
 refine qOL T func17 rfl (by decide) rfl rfl ?_
 intro L
 show AW _ _ _ (⟨[(0,.R 1),(1,k)],[(1,.row 1 (List.map ze0 a))],19,[(1,L 1)]⟩:St)
 refine AW.q (AW.r (AO.pu T ?_))
 refine AO.n (AW.q (AW.q ?_))
 refine AW.r (AO.pu T ?_)
 refine AO.n (AW.b ?_)
 refine AW.loopS (fun s:Nat×ac×Int×Int=>(⟨[(0,.R 1),(1,s.2.2.1),(5,s.2.2.2)],[(1,.row 1 (List.map ze0 s.2.1))],19,[(1,L 1)]⟩:St)) (fun s=>qC4 s.1 s.2.1 s.2.2.1 s.2.2.2=some r) (fun s=>s.1) (fl,a,k,0) hH ?_ ?_
 exact Le.ct 0 0 (hpin:=⟨⟨rfl,rfl⟩,trivial⟩)
 rintro⟨k1,v9,v10,v11⟩ hH
 replace hH:qC4 k1 v9 v10 v11=some r:=hH
 try dsimp only
 rcases k1 with _|k1
 cases (show none=some _ from hH)
 rw[qC4]at hH
 refine AW.q (AW.q (AW.r ?_))
 refine AO.p2 T ?_
 refine AO.w (qXH T) ?_
 refine AO.pu T ?_
 refine AO.n (AW.c (b:=decide (v11<(v9.length:Int))) rfl (fun hc=>?_) (fun hc=>?_))
 replace hH:=condT hc hH
 refine AW.k (AW.q ?_)
 refine AW.b (AW.q ?_)
 obtain⟨x13,hx14,hH⟩:=zB hH
 refine AW.r ?_
 iterate 3 refine AO.pu T ?_
 refine AO.w (ixr T (hx14)) ?_
 refine AO.x (zSr T rfl rfl rfl rfl rfl (zgG (hx14)) rfl rfl rfl rfl (u':=v10) rfl rfl) ?_
 refine AO.n (AW.r ?_)
 refine AO.pu T ?_
 refine AO.w aws ?_
 refine AO.pu T ?_
 refine AO.n (AW.r ?_)
 refine AO.pu T ?_
 refine AO.w aws ?_
 refine AO.pu T ?_
 refine AO.n ?_
 refine⟨(k1,(v9.set v11.toNat v10),w64 (v10+1),w64 (v11+1)),hH,Nat.lt_succ_self _,?_⟩
 exact Le.ct 0 0 (hpin:=⟨⟨rfl,rfl⟩,trivial⟩)
 replace hH:=condF hc hH
 refine AW.exit (AW.q (AW.r ?_))
 refine AO.p2 T ?_
 refine AO.n (AW.t ?_)
 have hR:=zS hH;subst hR
 exact⟨trivial,rfl,_,[],[1],rfl,zG (.c (.rowR rfl)) (zG (.c .u) (zGn)),.c (.c .v),by decide⟩
def qCY (fl:Nat):Nat->List Item->Int->Int->Option (((List Item)×Int))
 |0,_,_,_=>none
 |k1+1,v29,v30,v31 =>
  cond (decide (v31<(v29.length:Int)))
   ((qAT v29 v31).bind fun x33 =>
   (qHe fl x33.names v30).bind fun x35 =>
   (qAT (v29.set v31.toNat (Item.mk x35.1 x33.marks x33.late)) v31).bind fun x37 =>
   (qHf fl x37.marks x35.2).bind fun x39 =>
   (qAq (3 != 0)).bind fun u41 =>
   (qAT ((v29.set v31.toNat (Item.mk x35.1 x33.marks x33.late)).set v31.toNat (Item.mk x37.names x39.1 x37.late)) v31).bind fun x43 =>
   qCY fl k1 (((v29.set v31.toNat (Item.mk x35.1 x33.marks x33.late)).set v31.toNat (Item.mk x37.names x39.1 x37.late)).set v31.toNat (Item.mk x43.names x43.marks ((x39.2.tmod 3)==0))) (w64 (x39.2+1)) (w64 (v31+1)))
   (some (v29,v30))
def qIa (fl:Nat) (a:List Item) (k:Int):Option ((List Item)×Int) :=
 qCY fl fl a k 0
theorem qNu (fl:Nat) (a:List Item) (k:Int) (r:((List Item)×Int)) (hH:qIa fl a k=some r):qFe prog 59 [.w 3 (a.map ze6),k] [.w 3 (r.1.map ze6),.u] (.v (.int .i64 r.2)):=by
 refine qOL T func59 rfl (by decide) rfl rfl ?_
 intro L
 show AW _ _ _ (⟨[(0,.R 1),(1,k)],[(1,ro 3 ze6 a)],36,[(1,L 1)]⟩:St)
 iterate 10 refine gs ?_
 refine AW.loopS (fun s:Nat×(List Item)×Int×Int=>(⟨[(0,.R 1),(1,s.2.2.1),(5,s.2.2.2)],[(1,ro 3 ze6 s.2.1)],36,[(1,L 1)]⟩:St)) (fun s=>qCY fl s.1 s.2.1 s.2.2.1 s.2.2.2=some r) (fun s=>s.1) (fl,a,k,0) hH ?_ ?_
 exact Le.ct 0 0 (hpin:=⟨⟨rfl,rfl⟩,trivial⟩)
 rintro⟨k1,v29,v30,v31⟩ hH
 try dsimp only at hH⊢
 rcases k1 with _|k1
 cases (show none=some _ from hH)
 rw[qCY]at hH
 refine gs8 ?_
 refine AW.cH hH (fun _ hH=>?_) (fun _ hH=>?_)
 refine gs4 ?_
 obtain⟨x33,hx34,x35,hx36,hH⟩:=qAH hH
 refine AW.le (Le.openM 1 v31.toNat 0 6 rfl (zgG (hx34)) rfl rfl) ?_
 refine gs3 ?_
 refine AO.w (qCq T rfl rfl rfl rfl rfl rfl (hx34)) ?_
 refine AO.pu T ?_
 refine AO.w (qBV T rfl rfl rfl rfl rfl) ?_
 refine AO.pu T ?_
 refine AO.x (cMs 7 [6] (S:=qMb fl _ _ _ (hx36)) (hp:=by exact zG (.c (.rowR rfl)) (zG (.c .v) (zGn)))) ?_
 refine AO.pu T ?_
 refine AO.le (Le.closeM 1 v31.toNat 0 6 rfl rfl (zgG (hx34)) rfl (u':=(Item.mk x35.1 x33.marks x33.late)) rfl) ?_
 refine gs2 ?_
 obtain⟨x37,hx38,x39,hx40,hH⟩:=qAH hH
 refine AW.le (Le.openM 1 v31.toNat 1 7 rfl (zgG (hx38)) rfl rfl) ?_
 refine gs3 ?_
 refine AO.w (qCq T rfl rfl rfl rfl rfl rfl (hx38)) ?_
 refine AO.pu T ?_
 refine AO.w (qBV T rfl rfl rfl rfl rfl) ?_
 refine AO.pu T ?_
 refine AO.x (cMs 8 [7] (S:=qKq fl _ _ _ (hx40)) (hp:=by exact zG (.c (.rowR rfl)) (zG (.c .v) (zGn)))) ?_
 refine AO.pu T ?_
 refine AO.le (Le.closeM 1 v31.toNat 1 7 rfl rfl (zgG (hx38)) rfl (u':=(Item.mk x37.names x39.1 x37.late)) rfl) ?_
 refine gs2 ?_
 obtain⟨u41,hx42,x43,hx44,hH⟩:=qAH hH
 refine gs4 ?_
 refine AO.w (qOJ rfl rfl rfl (neZ (qAP (hx42)))) ?_
 refine gs3 ?_
 refine AO.x (zSr T rfl rfl rfl rfl rfl (zgG (hx44)) rfl rfl rfl rfl (u':=(Item.mk x43.names x43.marks ((x39.2.tmod 3)==0))) rfl rfl) ?_
 refine AO.n (AW.le (Le.ct 0 0 (σ':=(⟨[(0,.R 1),(1,x39.2),(5,v31)],[(1,ro 3 ze6 (((v29.set v31.toNat (Item.mk x35.1 x33.marks x33.late)).set v31.toNat (Item.mk x37.names x39.1 x37.late)).set v31.toNat (Item.mk x43.names x43.marks ((x39.2.tmod 3)==0))))],36,[(1,L 1)]⟩:St)) (hpin:=⟨⟨rfl,rfl⟩,trivial⟩)) ?_)
 iterate 10 refine gs ?_
 refine⟨(k1,(((v29.set v31.toNat (Item.mk x35.1 x33.marks x33.late)).set v31.toNat (Item.mk x37.names x39.1 x37.late)).set v31.toNat (Item.mk x43.names x43.marks ((x39.2.tmod 3)==0))),w64 (x39.2+1),w64 (v31+1)),hH,Nat.lt_succ_self _,?_⟩
 exact Le.ct 0 0 (hpin:=⟨⟨rfl,rfl⟩,trivial⟩)
 refine gs7 ?_
 exact qEa
def qDD (fl:Nat):Nat->List ac->Int->Int->Option (((List ac)×Int))
 |0,_,_,_=>none
 |k1+1,v13,v14,v15 =>
  cond (decide (v15<(v13.length:Int)))
   ((qAT v13 v15).bind fun x17 =>
   (qHf fl x17 v14).bind fun x19 =>
   qDD fl k1 (v13.set v15.toNat x19.1) x19.2 (w64 (v15+1)))
   (some (v13,v14))
def qGz (fl:Nat) (a:List ac) (k:Int):Option ((List ac)×Int) :=
 qDD fl fl a k 0
theorem qJz (fl:Nat) (a:List ac) (k:Int) (r:((List ac)×Int)) (hH:qGz fl a k=some r):qFe prog 85 [.w 1 (a.map ze1),k] [.w 1 (r.1.map ze1),.u] (.v (.int .i64 r.2)):=by
 refine qOL T func85 rfl (by decide) rfl rfl ?_
 intro L
 show AW _ _ _ (⟨[(0,.R 1),(1,k)],[(1,ro 1 ze1 a)],19,[(1,L 1)]⟩:St)
 iterate 10 refine gs ?_
 refine AW.loopS (fun s:Nat×(List ac)×Int×Int=>(⟨[(0,.R 1),(1,s.2.2.1),(5,s.2.2.2)],[(1,ro 1 ze1 s.2.1)],19,[(1,L 1)]⟩:St)) (fun s=>qDD fl s.1 s.2.1 s.2.2.1 s.2.2.2=some r) (fun s=>s.1) (fl,a,k,0) hH ?_ ?_
 exact Le.ct 0 0 (hpin:=⟨⟨rfl,rfl⟩,trivial⟩)
 rintro⟨k1,v13,v14,v15⟩ hH
 try dsimp only at hH⊢
 rcases k1 with _|k1
 cases (show none=some _ from hH)
 rw[qDD]at hH
 refine gs8 ?_
 refine AW.cH hH (fun _ hH=>?_) (fun _ hH=>?_)
 refine gs3 ?_
 obtain⟨x17,hx18,x19,hx20,hH⟩:=qAH hH
 refine AW.le (Le.openM 1 v15.toNat 0 4 rfl (zgG (hx18)) rfl rfl) ?_
 refine gs3 ?_
 refine AO.w (qCq T rfl rfl rfl rfl rfl rfl (hx18)) ?_
 refine AO.w (qBV T rfl rfl rfl rfl rfl) ?_
 refine AO.pu T ?_
 refine AO.x (cMs 5 [4] (S:=qKq fl _ _ _ (hx20)) (hp:=by exact zG (.c (.rowR rfl)) (zG (.c .v) (zGn)))) ?_
 refine AO.pu T ?_
 refine AO.le (Le.closeM 1 v15.toNat 0 4 rfl rfl (zgG (hx18)) rfl (u':=x19.1) rfl) ?_
 refine gs6 ?_
 refine⟨(k1,(v13.set v15.toNat x19.1),x19.2,w64 (v15+1)),hH,Nat.lt_succ_self _,?_⟩
 exact Le.ct 0 0 (hpin:=⟨⟨rfl,rfl⟩,trivial⟩)
 refine gs7 ?_
 exact qEa
def qEg (fl:Nat) (a:Marks) (k:Int):Option (Marks×Int) :=
 (qGz fl a.grades k).bind fun x1 =>
 (qGz fl a.components x1.2).bind fun x3 =>
 some ((Marks.mk x1.1 x3.1),x3.2)
theorem qNT (fl:Nat) (a:Marks) (k:Int) (r:(Marks×Int)) (hH:qEg fl a k=some r):qFe prog 60 [.g (qEy a),k] [.g [.w 1 (r.1.grades.map ze1),.w 1 (r.1.components.map ze1)],.u] (.v (.int .i64 r.2)):=by
 refine qOL T func60 rfl (by decide) rfl rfl ?_
 intro L
 show AW _ _ _ (⟨[(0,.g [.R 1,.R 2]),(1,k)],[(2,.row 1 (List.map ze1 a.components)),(1,.row 1 (List.map ze1 a.grades))],14,[(2,L 2),(1,L 1)]⟩:St)
 refine AW.q (AW.r (AO.x (bxs T 3) ?_))
 refine AO.pu T ?_
 refine AO.n (AW.q ?_)
 obtain⟨x1,hx2,hH⟩:=zB hH
 refine AW.r ?_
 iterate 3 refine AO.pu T ?_
 refine AO.x (cMs 4 [1] (S:=qJz fl _ _ _ (hx2)) (hp:=by exact zG (.c (.rowR rfl)) (zG (.c .v) (zGn)))) ?_
 refine AO.pu T ?_
 refine AO.n (AW.q ?_)
 obtain⟨x3,hx4,hH⟩:=zB hH
 refine AW.r ?_
 iterate 3 refine AO.pu T ?_
 refine AO.x (cMs 4 [2] (S:=qJz fl _ _ _ (hx4)) (hp:=by exact zG (.c (.rowR rfl)) (zG (.c .v) (zGn)))) ?_
 refine AO.pu T ?_
 refine AO.n (AW.q (AW.r ?_))
 refine AO.p2 T ?_
 refine AO.n (AW.t ?_)
 have hR:=zS hH;subst hR
 exact⟨trivial,rfl,_,[],[1,2],rfl,zG (.g (zC (.rowR rfl) (zC (.rowR rfl) (zCn)))) (zG (.c .u) (zGn)),.c (.c .v),by decide⟩
def qBw (fl:Nat) (a:Performance) (k:Int):Option (Performance×Int) :=
 (qIa fl a.items k).bind fun x1 =>
 (qEg fl a.marks x1.2).bind fun x3 =>
 some ((Performance.mk x1.1 x3.1 a.slips),x3.2)
theorem qKV (fl:Nat) (a:Performance) (k:Int) (r:(Performance×Int)) (hH:qBw fl a k=some r):qFe prog 32 [.g (qGA a),k] [.g [.w 3 (r.1.items.map ze6),.w 1 (r.1.marks.grades.map ze1),.w 1 (r.1.marks.components.map ze1),.u,.u,.u],.u] (.v (.int .i64 r.2)):=by
 refine qOL T func32 rfl (by decide) rfl rfl ?_
 intro L
 show AW _ _ _ (⟨[(0,.g [.R 1,.R 2,.R 3,a.slips.falls,a.slips.seconds,a.slips.other]),(1,k)],[(3,.row 1 (List.map ze1 a.marks.components)),(2,.row 1 (List.map ze1 a.marks.grades)),(1,.row 3 (List.map ze6 a.items))],14,[(3,L 3),(2,L 2),(1,L 1)]⟩:St)
 refine AW.q (AW.r (AO.x (bxs T 4) ?_))
 refine AO.pu T ?_
 refine AO.n (AW.q ?_)
 obtain⟨x1,hx2,hH⟩:=zB hH
 refine AW.r ?_
 iterate 3 refine AO.pu T ?_
 refine AO.x (cMs 5 [1] (S:=qNu fl _ _ _ (hx2)) (hp:=by exact zG (.c (.rowR rfl)) (zG (.c .v) (zGn)))) ?_
 refine AO.pu T ?_
 refine AO.n (AW.q ?_)
 obtain⟨x3,hx4,hH⟩:=zB hH
 refine AW.r (AO.pu T ?_)
 refine AO.pu T (d:=.g [.R 2,.R 3]) ?_
 refine AO.pu T ?_
 refine AO.x (cMs 5 [2,3] (S:=qNT fl _ _ _ (hx4)) (hp:=by exact zG (.g (zC (.rowR rfl) (zC (.rowR rfl) (zCn)))) (zG (.c .v) (zGn)))) ?_
 refine AO.pu T ?_
 refine AO.n (AW.q (AW.r ?_))
 refine AO.p2 T ?_
 refine AO.n (AW.t ?_)
 have hR:=zS hH;subst hR
 exact⟨trivial,rfl,_,[],[1,2,3],rfl,zG (.g (zC (.rowR rfl) (zC (.rowR rfl) (zC (.rowR rfl) (zC .u (zC .u (zC .u (zCn)))))))) (zG (.c .u) (zGn)),.c (.c .v),by decide⟩
def qBc (fl:Nat):List aa->Nat->Int->Option Int
 | [],k1,v12 =>
  some v12
 |y2::ys3,k1,v12 =>
  (qGF fl v12).bind fun x14 =>
  cond (!decide (y2=x14))
   (some (-1))
   (qBc fl ys3 (k1+1) (w64 (v12+1)))
def qHW (fl:Nat) (a:List aa) (k:Int):Option Int :=
 qBc fl a 0 k
theorem qMp (fl:Nat) (a:List aa) (k:Int) (r:Int) (hH:qHW fl a k=some r):qAC prog 86 [.s (List.map ze2 a),k] (.v (.int .i64 r)):=by
 refine fns T func86 ?_
 refine go ?_
 refine AW.loopS (fun s:Nat×Int=>(⟨[(0,sv ze2 a),(1,s.2),(5,(s.1:Int))],[],22,[]⟩:St)) (fun s=>s.1<=a.length/\qBc fl (a.drop s.1) s.1 s.2=some r) (fun s=>a.length-s.1) (0,k) ⟨Nat.zero_le _,hH⟩ ?_ ?_
 exact Le.ct 0 0
 rintro⟨k1,v12⟩ ⟨hk,hH⟩
 try dsimp only at hH⊢
 refine AW.boundM (t:=0) (l:=a) rfl (fun hb5=>?_)
 rcases hd4:a.drop k1 with _|⟨y2,ys3⟩
 rw[hd4,qBc]at hH
 have hlt6:=qAF hd4
 refine go ?_
 exact fin
 rw[hd4,qBc]at hH
 have hlt6:=qAG hd4
 refine go ?_
 obtain⟨x14,hx15,hH⟩:=zB hH
 refine AW.drawn 6 1 [] mix (by kernel_rfl) rfl ?_
 refine go ?_
 refine AD.vv (cVs (qKr fl _ _ (hx15))) ?_
 refine go ?_
 refine AW.cH hH (fun _ hH=>?_) (fun _ hH=>?_)
 refine go ?_
 exact fin
 refine go ?_
 refine⟨(k1+1,w64 (v12+1)),⟨hlt6,(zds hd4▸hH)⟩,qBl hlt6,?_⟩
 exact Le.ct 0 0
def qCy:ac->Nat->Int->Option Int
 | [],k1,v8 =>
  some v8
 |y2::ys3,k1,v8 =>
  cond (y2 != v8)
   (some (-1))
   (qCy ys3 (k1+1) (w64 (v8+1)))
def qHs (a:ac) (k:Int):Option Int :=
 qCy a 0 k
theorem qKn (a:ac) (k:Int) (r:Int) (hH:qHs a k=some r):qAC prog 18 [.s (List.map ze0 a),k] (.v (.int .i64 r)):=by
 refine fns T func18 ?_
 refine go ?_
 refine AW.loopS (fun s:Nat×Int=>(⟨[(0,sv ze0 a),(1,s.2),(5,(s.1:Int))],[],21,[]⟩:St)) (fun s=>s.1<=a.length/\qCy (a.drop s.1) s.1 s.2=some r) (fun s=>a.length-s.1) (0,k) ⟨Nat.zero_le _,hH⟩ ?_ ?_
 exact Le.ct 0 0
 rintro⟨k1,v8⟩ ⟨hk,hH⟩
 try dsimp only at hH⊢
 refine AW.boundM (t:=0) (l:=a) rfl (fun hb5=>?_)
 rcases hd4:a.drop k1 with _|⟨y2,ys3⟩
 rw[hd4,qCy]at hH
 have hlt6:=qAF hd4
 refine go ?_
 exact fin
 rw[hd4,qCy]at hH
 have hlt6:=qAG hd4
 refine go ?_
 refine AW.cH hH (fun _ hH=>?_) (fun _ hH=>?_)
 refine go ?_
 exact fin
 refine go ?_
 refine⟨(k1+1,w64 (v8+1)),⟨hlt6,(zds hd4▸hH)⟩,qBl hlt6,?_⟩
 exact Le.ct 0 0
def qCW (fl:Nat):List Item->Nat->Int->Option Int
 | [],k1,v20 =>
  some v20
 |y2::ys3,k1,v20 =>
  (qHW fl y2.names v20).bind fun x22 =>
  cond (decide (x22<0))
   (some (-1))
   ((qHs y2.marks x22).bind fun x24 =>
   cond (decide (x24<0))
    (some (-1))
    ((qAq (3 != 0)).bind fun u26 =>
    cond (!(y2.late==((x24.tmod 3)==0)))
     (some (-1))
     (qCW fl ys3 (k1+1) (w64 (x24+1)))))
def qIg (fl:Nat) (a:List Item) (k:Int):Option Int :=
 qCW fl a 0 k
theorem qNj (fl:Nat) (a:List Item) (k:Int) (r:Int) (hH:qIg fl a k=some r):qAC prog 61 [.s (List.map ze3 a),k] (.v (.int .i64 r)):=by
 refine fns T func61 ?_
 refine go ?_
 refine AW.loopS (fun s:Nat×Int=>(⟨[(0,sv ze3 a),(1,s.2),(5,(s.1:Int))],[],42,[]⟩:St)) (fun s=>s.1<=a.length/\qCW fl (a.drop s.1) s.1 s.2=some r) (fun s=>a.length-s.1) (0,k) ⟨Nat.zero_le _,hH⟩ ?_ ?_
 exact Le.ct 0 0
 rintro⟨k1,v20⟩ ⟨hk,hH⟩
 try dsimp only at hH⊢
 refine AW.boundM (t:=0) (l:=a) rfl (fun hb5=>?_)
 rcases hd4:a.drop k1 with _|⟨y2,ys3⟩
 rw[hd4,qCW]at hH
 have hlt6:=qAF hd4
 refine go ?_
 exact fin
 rw[hd4,qCW]at hH
 have hlt6:=qAG hd4
 refine go ?_
 obtain⟨x22,hx23,hH⟩:=zB hH
 refine go ?_
 refine AO.w (cVs (qMp fl _ _ _ (hx23))) (go ?_)
 refine AW.cH hH (fun _ hH=>?_) (fun hc hH=>?_)
 refine go ?_
 exact fin
 refine go ?_
 obtain⟨x24,hx25,hH⟩:=zB hH
 refine go ?_
 refine AO.w (cVs (qKn _ _ _ (hx25))) ?_
 refine gs8 ?_
 refine AW.le (Le.ct 0 0 (σ':=(⟨[(0,sv ze3 a),(1,x24),(5,(k1:Int)),(29,.v (.bool (decide (x24<0))))],[],42,[]⟩:St))) ?_
 refine AW.cH hH (fun _ hH=>?_) (fun hc hH=>?_)
 refine go ?_
 exact fin
 refine go ?_
 obtain⟨u26,hx27,hH⟩:=zB hH
 refine go ?_
 refine AO.w (qOJ rfl rfl rfl (neZ (qAP (hx27)))) (go ?_)
 refine AW.cH hH (fun _ hH=>?_) (fun _ hH=>?_)
 refine go ?_
 exact fin
 refine go ?_
 refine⟨(k1+1,w64 (x24+1)),⟨hlt6,(zds hd4▸hH)⟩,qBl hlt6,?_⟩
 exact Le.ct 0 0
def qCS:List ac->Nat->Int->Option Int
 | [],k1,v12 =>
  some v12
 |y2::ys3,k1,v12 =>
  (qHs y2 v12).bind fun x14 =>
  cond (decide (x14<0))
   (some (-1))
   (qCS ys3 (k1+1) x14)
def qGw (a:List ac) (k:Int):Option Int :=
 qCS a 0 k
theorem qJ9 (a:List ac) (k:Int) (r:Int) (hH:qGw a k=some r):qAC prog 87 [.s (List.map ze5 a),k] (.v (.int .i64 r)):=by
 refine fns T func87 ?_
 refine go ?_
 refine AW.loopS (fun s:Nat×Int=>(⟨[(0,sv ze5 a),(1,s.2),(5,(s.1:Int))],[],21,[]⟩:St)) (fun s=>s.1<=a.length/\qCS (a.drop s.1) s.1 s.2=some r) (fun s=>a.length-s.1) (0,k) ⟨Nat.zero_le _,hH⟩ ?_ ?_
 exact Le.ct 0 0
 rintro⟨k1,v12⟩ ⟨hk,hH⟩
 try dsimp only at hH⊢
 refine AW.boundM (t:=0) (l:=a) rfl (fun hb5=>?_)
 rcases hd4:a.drop k1 with _|⟨y2,ys3⟩
 rw[hd4,qCS]at hH
 have hlt6:=qAF hd4
 refine go ?_
 exact fin
 rw[hd4,qCS]at hH
 have hlt6:=qAG hd4
 refine go ?_
 obtain⟨x14,hx15,hH⟩:=zB hH
 refine go ?_
 refine AO.w (cVs (qKn _ _ _ (hx15))) (go ?_)
 refine AW.cH hH (fun _ hH=>?_) (fun _ hH=>?_)
 refine go ?_
 exact fin
 refine go ?_
 refine⟨(k1+1,x14),⟨hlt6,(zds hd4▸hH)⟩,qBl hlt6,?_⟩
 exact Le.ct 0 0
def qGy (a:Marks) (k:Int):Option Int :=
 (qGw a.grades k).bind fun x1 =>
 cond (decide (x1<0))
  (some (-1))
  ((qGw a.components x1).bind fun x3 =>
  cond (decide (x3<0))
   (some (-1))
   (some x3))
theorem qNY (a:Marks) (k:Int) (r:Int) (hH:qGy a k=some r):qAC prog 62 [.g (qAb a),k] (.v (.int .i64 r)):=by
 refine fns T func62 ?_
 refine go ?_
 refine AO.x (bxs T 1) (go ?_)
 obtain⟨x1,hx2,hH⟩:=zB hH
 refine go ?_
 refine AO.w (cVs (qJ9 _ _ _ (hx2))) (go ?_)
 refine AW.cH hH (fun _ hH=>?_) (fun hc hH=>?_)
 refine go ?_
 exact fin
 refine go ?_
 obtain⟨x3,hx4,hH⟩:=zB hH
 refine go ?_
 refine AO.w (cVs (qJ9 _ _ _ (hx4))) (go ?_)
 refine AW.cH hH (fun _ hH=>?_) (fun _ hH=>?_)
 refine go ?_
 exact fin
 refine go ?_
 exact fin
def qC7 (fl:Nat) (a:Performance) (k:Int):Option Int :=
 (qIg fl a.items k).bind fun x1 =>
 cond (decide (x1<0))
  (some (-1))
  ((qGy a.marks x1).bind fun x3 =>
  cond (decide (x3<0))
   (some (-1))
   (some x3))
theorem qHL (fl:Nat) (a:Performance) (k:Int) (r:Int) (hH:qC7 fl a k=some r):qAC prog 33 [.g (ze8 a),k] (.v (.int .i64 r)):=by
 refine fns T func33 ?_
 refine go ?_
 refine AO.x (bxs T 1) (go ?_)
 obtain⟨x1,hx2,hH⟩:=zB hH
 refine go ?_
 refine AO.w (cVs (qNj fl _ _ _ (hx2))) (go ?_)
 refine AW.cH hH (fun _ hH=>?_) (fun hc hH=>?_)
 refine go ?_
 exact fin
 refine go ?_
 obtain⟨x3,hx4,hH⟩:=zB hH
 refine go ?_
 refine AO.w (cVs (qNY _ _ _ (hx4))) (go ?_)
 refine AW.cH hH (fun _ hH=>?_) (fun _ hH=>?_)
 refine go ?_
 exact fin
 refine go ?_
 exact fin
def qBo (fl:Nat) (aScript:aa):ad :=
 cond (decide ((aScript.size:Int)>1048576))
  (some true)
  ((qFT fl aScript).bind fun x1 =>
  (qFW fl aScript).bind fun x3 =>
  (qDu x3.1 x1.1).bind fun x5 =>
  cond ((!x5)||(!(x3.2==x1.2)))
   (some false)
   ((qBw fl x3.1 1).bind fun x7 =>
   (qC7 fl (Performance.mk x7.1.items x7.1.marks x3.1.slips) 1).bind fun x9 =>
   cond (decide (x9<0))
    (some false)
    (cond (x9 != x7.2)
     (some false)
     (cond ((!x5)||(!(x3.2==x1.2)))
      (some false)
      (cond (decide (x9<0))
       (some false)
       (cond (x9 != x7.2)
        (some false)
        (some true)))))))
theorem qH3 (fl:Nat) (aScript:aa) (r:Bool) (hH:qBo fl aScript=some r):qAC prog 8 [.v (.string aScript)] (.v (.bool r)):=by
 refine fns T func8 ?_
 refine go ?_
 refine AW.cH hH (fun _ hH=>?_) (fun hc hH=>?_)
 refine go ?_
 exact fin
 refine go ?_
 obtain⟨x1,hx2,hH⟩:=zB hH
 refine go ?_
 refine AO.x (qAV rfl 1 rfl rfl rfl (qJ7 fl _ _ (hx2)) rfl rfl rfl) (go ?_)
 refine AO.x (als T 4) ?_
 refine AO.se T [.R 1,.R 2,.R 3,x1.1.slips.falls,x1.1.slips.seconds,x1.1.slips.other] ?_
 refine go ?_
 obtain⟨x3,hx4,hH⟩:=zB hH
 refine go ?_
 refine AO.x (qAV rfl 5 rfl rfl rfl (qHH fl _ _ (hx4)) rfl rfl rfl) (go ?_)
 refine AO.x (als T 8) ?_
 refine AO.se T [.R 5,.R 6,.R 7,x3.1.slips.falls,x3.1.slips.seconds,x3.1.slips.other] ?_
 refine go ?_
 obtain⟨x5,hx6,hH⟩:=zB hH
 refine go ?_
 refine AO.w (zLV rfl rfl rfl (es:=[.g (ze8 x3.1),.g (ze8 x1.1)]) ⟨qEN (LendL.cons ((.rowR rfl (.map fun y=>qCJ y))) (LendL.cons ((.rowR rfl (.map fun y=>qAR y))) (LendL.cons ((.rowR rfl (.map fun y=>qAR y))) (LendL.cons (.free rfl) (LendL.cons (.free rfl) (LendL.cons (.free rfl) LendL.nil)))))),qEN (LendL.cons ((.rowR rfl (.map fun y=>qCJ y))) (LendL.cons ((.rowR rfl (.map fun y=>qAR y))) (LendL.cons ((.rowR rfl (.map fun y=>qAR y))) (LendL.cons (.free rfl) (LendL.cons (.free rfl) (LendL.cons (.free rfl) LendL.nil)))))),trivial⟩ (qIN _ _ _ (hx6)) (qAJ _) rfl) (go ?_)
 refine AO.g0 T ?_
 refine AO.g0 T ?_
 refine AO.g2 T 29 30 ?_
 refine gs2 ?_
 refine AW.le (Le.ct 0 0 (σ':=(⟨[(0,.v (.string aScript)),(3,.p 4 0),(4,.v (.bool x1.2)),(5,.p 8 0),(32,.v (.bool ((!x5)||(!(x3.2==x1.2)))))],[(1,ro 3 ze6 x1.1.items),(2,ro 1 ze1 x1.1.marks.grades),(3,ro 1 ze1 x1.1.marks.components),(4,.box [.R 1,.R 2,.R 3,x1.1.slips.falls,x1.1.slips.seconds,x1.1.slips.other]),(5,ro 3 ze6 x3.1.items),(6,ro 1 ze1 x3.1.marks.grades),(7,ro 1 ze1 x3.1.marks.components),(8,.box [.R 5,.R 6,.R 7,x3.1.slips.falls,x3.1.slips.seconds,x3.1.slips.other])],66,[]⟩:St))) ?_
 refine AW.cH hH (fun _ hH=>?_) (fun hc hH=>?_)
 refine go ?_
 exact fin
 refine go ?_
 obtain⟨x7,hx8,hH⟩:=zB hH
 refine go ?_
 refine AO.x (cMs 9 [5,6,7] (S:=qKV fl _ _ _ (hx8)) (hp:=by exact zG (.g (zC (.rowR rfl) (zC (.rowR rfl) (zC (.rowR rfl) (zC .v (zC .v (zC .v (zCn)))))))) (zG (.c .v) (zGn)))) (go ?_)
 obtain⟨x9,hx10,hH⟩:=zB hH
 refine go ?_
 refine AO.w (zLV rfl rfl rfl (es:=[.g (ze8 (Performance.mk x7.1.items x7.1.marks x3.1.slips)),(1:Int)]) ⟨qEN (LendL.cons ((.rowR rfl (.map fun y=>qCJ y))) (LendL.cons ((.rowR rfl (.map fun y=>qAR y))) (LendL.cons ((.rowR rfl (.map fun y=>qAR y))) (LendL.cons (.free rfl) (LendL.cons (.free rfl) (LendL.cons (.free rfl) LendL.nil)))))),.free rfl,trivial⟩ (qHL fl _ _ _ (hx10)) (qAJ _) rfl) (go ?_)
 refine AW.cH hH (fun _ hH=>?_) (fun hc hH=>?_)
 refine go ?_
 exact fin
 refine go ?_
 refine AW.cH hH (fun _ hH=>?_) (fun hc hH=>?_)
 refine go ?_
 exact fin
 refine go ?_
 refine AO.x (qAV rfl 9 rfl rfl rfl (qHH fl _ _ (hx4)) rfl rfl rfl) (go ?_)
 refine AO.x (als T 12) ?_
 refine AO.se T [.R 9,.R 10,.R 11,x3.1.slips.falls,x3.1.slips.seconds,x3.1.slips.other] ?_
 refine go ?_
 refine AO.w (zLV rfl rfl rfl (es:=[.g (ze8 x3.1),.g (ze8 x1.1)]) ⟨qEN (LendL.cons ((.rowR rfl (.map fun y=>qCJ y))) (LendL.cons ((.rowR rfl (.map fun y=>qAR y))) (LendL.cons ((.rowR rfl (.map fun y=>qAR y))) (LendL.cons (.free rfl) (LendL.cons (.free rfl) (LendL.cons (.free rfl) LendL.nil)))))),qEN (LendL.cons ((.rowR rfl (.map fun y=>qCJ y))) (LendL.cons ((.rowR rfl (.map fun y=>qAR y))) (LendL.cons ((.rowR rfl (.map fun y=>qAR y))) (LendL.cons (.free rfl) (LendL.cons (.free rfl) (LendL.cons (.free rfl) LendL.nil)))))),trivial⟩ (qIN _ _ _ (hx6)) (qAJ _) rfl) (go ?_)
 refine AO.g0 T ?_
 refine AO.g0 T ?_
 refine AO.g2 T 54 55 ?_
 refine gs2 ?_
 refine AW.le (Le.ct 0 0 (σ':=(⟨[(5,.p 8 0),(7,x7.2),(57,.v (.bool ((!x5)||(!(x3.2==x1.2)))))],[(5,ro 3 ze6 x7.1.items),(6,ro 1 ze1 x7.1.marks.grades),(7,ro 1 ze1 x7.1.marks.components),(8,.box [.R 5,.R 6,.R 7,x3.1.slips.falls,x3.1.slips.seconds,x3.1.slips.other])],66,[]⟩:St))) ?_
 refine AW.cH hH (fun _ hH=>?_) (fun hc hH=>?_)
 refine go ?_
 exact fin
 refine go ?_
 refine AO.w (zLV rfl rfl rfl (es:=[.g (ze8 (Performance.mk x7.1.items x7.1.marks x3.1.slips)),(1:Int)]) ⟨qEN (LendL.cons ((.rowR rfl (.map fun y=>qCJ y))) (LendL.cons ((.rowR rfl (.map fun y=>qAR y))) (LendL.cons ((.rowR rfl (.map fun y=>qAR y))) (LendL.cons (.free rfl) (LendL.cons (.free rfl) (LendL.cons (.free rfl) LendL.nil)))))),.free rfl,trivial⟩ (qHL fl _ _ _ (hx10)) (qAJ _) rfl) (go ?_)
 refine AW.cH hH (fun _ hH=>?_) (fun hc hH=>?_)
 refine go ?_
 exact fin
 refine go ?_
 refine AW.cH hH (fun _ hH=>?_) (fun _ hH=>?_)
 refine go ?_
 exact fin
 refine go ?_
 exact fin
end Go.Proofs.YtkidpkmpnbibmaaGreatDoor

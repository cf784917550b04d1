/- The walk, part 4: what each function reached by the law FnExactCodeAfter computes. No condition. -/
import Derived.Test.YtkidpkmpnbibmaaGreatDoorCaWalk3
set_option maxRecDepth 4000
set_option maxHeartbeats 1000000
set_option linter.unusedVariables false
set_option linter.unusedSimpArgs false
set_option linter.unusedSectionVars false
namespace Go.Proofs.YtkidpkmpnbibmaaGreatDoor
open Go.AM Tryz
def qGe (fl:Nat) (c:Code) (p:Performance) (factor:Int) (l:List Item):Option Int :=
 (qBP fl c (Performance.mk l p.marks p.slips) factor).bind fun x1 =>
 some x1
theorem qNP (fl:Nat) (c:Code) (p:Performance) (factor:Int) (l:List Item) (r:Int) (hH:qGe fl c p factor l=some r):qAC prog 244 [.g (ze4 c),.g (qGw p),factor,.s (List.map ze1 l)] (.v (.int .i64 r)):=by
 refine fns T func244 ?_
 refine go ?_
 refine AO.x (bxs T 1) ?_
 refine AO.x (bxs T 2) (go ?_)
 refine AO.se T [sv ze1 l,sv ze3 p.marks.grades,sv ze3 p.marks.components,p.slips.falls,p.slips.seconds,p.slips.other] ?_
 refine go ?_
 obtain⟨x1,hx2,hH⟩:=zB hH
 refine go ?_
 refine AO.w (cVs (qDj fl _ _ _ _ (hx2))) (go ?_)
 exact fin
def qBN (c:Code) (p:Performance) (factor:Int) (fl:Nat):List (List Int)→Nat→Int→List Int→Option ((Int×Int×Int×Bool))
 | [],k7,v35,v36 =>
  cond ((v36.length:Int)==0)
   (some (0,0,0,false))
   ((qAT v36 0).bind fun x38 =>
   (qAT v36 1).bind fun x40 =>
   (qAT v36 2).bind fun x42 =>
   some (x38,x40,x42,true))
 |y8::ys9,k7,v35,v36 =>
  (qAT y8 0).bind fun x44 =>
  (qAT y8 1).bind fun x46 =>
  (qAT y8 2).bind fun x48 =>
  (qEA p.items x44 x46 x48).bind fun x50 =>
  (qGe fl c p factor x50).bind fun x52 =>
  cond (decide (x52>v35))
   (qBN c p factor fl ys9 (k7+1) x52 y8)
   (qBN c p factor fl ys9 (k7+1) v35 v36)
def qEX (fl:Nat) (c:Code) (p:Performance) (factor:Int):Option (Int×Int×Int×Bool) :=
 (qE8 fl c p factor).bind fun x1 =>
 cond (!x1)
  (some (0,0,0,false))
  ((qBP fl c p factor).bind fun x3 =>
  (qHg fl p.items).bind fun x5 =>
  qBN c p factor fl x5 0 x3 [])
theorem qMA (fl:Nat) (c:Code) (p:Performance) (factor:Int) (r:(Int×Int×Int×Bool)) (hH:qEX fl c p factor=some r):qAC prog 182 [.g (ze4 c),.g (qGw p),factor] (.t [.v (.int .i64 r.1),.v (.int .i64 r.2.1),.v (.int .i64 r.2.2.1),.v (.bool r.2.2.2)]):=by
 refine fns T func182 ?_
 refine go ?_
 refine AO.x (bxs T 1) ?_
 refine AO.x (bxs T 2) (go ?_)
 obtain⟨x1,hx2,hH⟩:=zB hH
 refine go ?_
 refine AO.w (cVs (qH9 fl _ _ _ _ (hx2))) (go ?_)
 refine AW.cH hH (fun _ hH=>?_) (fun hc hH=>?_)
 refine go ?_
 exact fin
 refine go ?_
 obtain⟨x3,hx4,hH⟩:=zB hH
 refine go ?_
 refine AO.w (cVs (qDj fl _ _ _ _ (hx4))) ?_
 refine AO.x (qGF T rfl rfl rfl rfl) (go ?_)
 obtain⟨x5,hx6,hH⟩:=zB hH
 refine go ?_
 refine AO.x (qAU rfl 3 rfl rfl rfl (qMt fl _ _ (hx6)) rfl rfl rfl) (go ?_)
 refine AW.loopS (fun s:Nat×Int×(List Int)=>(⟨[(2,factor),(3,.p 1 0),(4,.p 2 0),(10,s.2.1),(11,sv ze0 s.2.2),(27,.R 3),(28,(x5.length:Int)),(29,(s.1:Int))],[(1,.box (ze4 c)),(2,.box (qGw p)),(3,ro 1 ze3 x5)],67,[]⟩:St)) (fun s=>s.1≤x5.length∧qBN c p factor fl (x5.drop s.1) s.1 s.2.1 s.2.2=some r) (fun s=>x5.length-s.1) (0,x3,[]) ⟨Nat.zero_le _,hH⟩ ?_ ?_
 refine Le.trans (Le.nilS 11 rfl) ?_
 exact Le.ct 0 0
 rintro⟨k7,v35,v36⟩ ⟨hk,hH⟩
 try dsimp only at hH⊢
 refine AW.boundR (id:=3) (l:=x5) rfl (fun hb11=>?_)
 rcases hd10:x5.drop k7 with _|⟨y8,ys9⟩
 rw[hd10,qBN]at hH
 have hlt12:=qAF hd10
 refine go ?_
 refine AW.cH hH (fun _ hH=>?_) (fun hc hH=>?_)
 refine go ?_
 exact fin
 refine go ?_
 obtain⟨x38,hx39,x40,hx41,x42,hx43,hH⟩:=qA9 hH
 refine AW.drawn 11 6 [] mix (by kernel_rfl) rfl ?_
 refine go ?_
 exact fin
 rw[hd10,qBN]at hH
 have hlt12:=qAG hd10
 refine go ?_
 refine AO.w (zLr T rfl rfl rfl rfl (zgG (zgD hd10)) rfl rfl rfl) (go ?_)
 obtain⟨x44,hx45,x46,hx47,x48,hx49,hH⟩:=qA9 hH
 obtain⟨x50,hx51,x52,hx53,hH⟩:=qAH hH
 refine AW.drawn 15 6 [] mix (by kernel_rfl) rfl ?_
 refine go ?_
 refine AD.q (FStep.call rfl rfl rfl rfl rfl (qKW _ _ _ _ _ (hx51)) rfl rfl) (qBD _ _) (qDe _ _) rfl ?_
 refine AD.nil (AO.w (zLV rfl rfl rfl (es:=[.g (ze4 c),.g (qGw p),factor,sv ze1 x50]) ⟨.free rfl,.free rfl,.free rfl,(.rowR rfl (.map fun y=>qGp y)),trivial⟩ (qNP fl _ _ _ _ _ (hx53)) (qAJ _) rfl) ?_)
 refine gs8 ?_
 refine AW.le (Le.ct 0 0 (σ':=(⟨[(2,factor),(3,.p 1 0),(4,.p 2 0),(10,v35),(11,sv ze0 v36),(13,sv ze0 y8),(14,x52),(27,.R 3),(28,(x5.length:Int)),(29,(k7:Int)),(51,.v (.bool (decide (x52>v35))))],[(1,.box (ze4 c)),(2,.box (qGw p)),(3,ro 1 ze3 x5)],67,[]⟩:St))) ?_
 refine AW.cH hH (fun _ hH=>?_) (fun _ hH=>?_)
 refine go ?_
 refine⟨(k7+1,x52,y8),⟨hlt12,(zds hd10▸hH)⟩,qBz hlt12,?_⟩
 exact Le.ct 0 0
 refine go ?_
 refine⟨(k7+1,v35,v36),⟨hlt12,(zds hd10▸hH)⟩,qBz hlt12,?_⟩
 exact Le.ct 0 0
def qAL (fl:Nat) (sA:ScriptState) (command:ByteArray) (l:List Int):Option (ScriptState×ByteArray) :=
 cond (decide (command=(⟨#[99,104,101,99,107]⟩:ByteArray)))
  ((qEV fl sA.code sA.performance.items).bind fun x2 =>
  (qCh x2.1).bind fun x4 =>
  some (sA,x4))
  (cond (decide (command=(⟨#[98,97,115,101]⟩:ByteArray)))
   ((qGB sA.code sA.performance.items).bind fun x7 =>
   (qBA x7).bind fun x9 =>
   (qB3 x9).bind fun x11 =>
   some (sA,x11))
   (cond (decide (command=(⟨#[115,99,111,114,101]⟩:ByteArray)))
    ((qFf fl sA.code sA.performance sA.factor).bind fun x14 =>
    (qAw x14).bind fun x16 =>
    some (sA,x16))
    (cond (decide (command=(⟨#[98,111,117,110,100]⟩:ByteArray)))
     ((qED fl sA.code sA.performance sA.factor).bind fun x19 =>
     (qB3 x19.1).bind fun x21 =>
     some (sA,x21))
     (cond (decide (command=(⟨#[114,97,110,103,101]⟩:ByteArray)))
      ((qAT l 0).bind fun x24 =>
      (qFT fl sA.code sA.performance sA.factor x24).bind fun x26 =>
      cond (!x26.2.2)
       (some (sA,(⟨#[110,111]⟩:ByteArray)))
       ((qAw [x26.1,x26.2.1]).bind fun x28 =>
       some (sA,x28)))
      ((qEX fl sA.code sA.performance sA.factor).bind fun x30 =>
      cond (!x30.2.2.2)
       (some (sA,(⟨#[110,111,110,101]⟩:ByteArray)))
       ((qAw [x30.1,x30.2.1]).bind fun x32 =>
       (qAr (Nat.ble (x32.size+(⟨#[32]⟩:ByteArray).size) qDp)).bind fun u34 =>
       (qAT [(⟨#[110,111,110,101]⟩:ByteArray),(⟨#[100,111,119,110]⟩:ByteArray),(⟨#[101,100,103,101]⟩:ByteArray),(⟨#[118,111,105,100]⟩:ByteArray)] x30.2.2.1).bind fun x36 =>
       (qAr (Nat.ble ((x32++(⟨#[32]⟩:ByteArray)).size+x36.size) qDp)).bind fun u38 =>
       some (sA,((x32++(⟨#[32]⟩:ByteArray))++x36))))))))
theorem qKI (fl:Nat) (sA:ScriptState) (command:ByteArray) (l:List Int) (r:(ScriptState×ByteArray)) (hH:qAL fl sA command l=some r):qFk prog 122 [.pn (qHm sA),.v (.string command),.s (List.map ze0 l)] [.pn (qHm r.1),.u,.u] (.v (.string r.2)):=by
 refine qFI T func122 rfl (by decide) rfl rfl [.p 1 0,.v (.string command),sv ze0 l] [(1,.box (qH5 sA 2 3)),(3,ro 1 ze0 sA.code.limits),(2,ro 4 ze5 sA.code.elements)] 4 (by kernel_rfl) [1] rfl rfl ?_
 intro L
 show AW _ _ _ (⟨[(0,.p 1 0),(1,.v (.string command)),(2,sv ze0 l)],[(1,.box (qH5 sA 2 3)),(3,ro 1 ze0 sA.code.limits),(2,ro 4 ze5 sA.code.elements)],143,[(1,L 1)]⟩:St)
 refine go ?_
 refine AW.cH hH (fun _ hH=>?_) (fun _ hH=>?_)
 refine AW.q ?_
 obtain⟨x2,hx3,hH⟩:=zB hH
 refine AW.drawn 14 4 [] mix (by kernel_rfl) rfl ?_
 refine go ?_
 refine AD.q (FStep.callL rfl rfl rfl rfl (es:=[.g (ze4 sA.code),sv ze1 sA.performance.items]) ⟨qDs (LendL.cons ((.rowR rfl (.map fun y=>.vs rfl))) (LendL.cons ((.rowR rfl (.map fun y=>.vs rfl))) (LendL.cons (.free rfl) (LendL.cons (.free rfl) (LendL.cons (.free rfl) (LendL.cons (.free rfl) LendL.nil)))))),.free rfl,trivial⟩ (qMK fl _ _ _ (hx3)) (qMO (zfl (.cons (qEZ (fun y=>(.cons (qAJ _) .nil))) (.cons (qAJ _) .nil)))) rfl rfl) (qBD _ _) (qDe _ _) rfl ?_
 refine go ?_
 obtain⟨x4,hx5,hH⟩:=zB hH
 refine go ?_
 refine AO.w (zLV rfl rfl rfl (es:=[sv ze0 x2.1]) ⟨(.rowR rfl (.map fun y=>.vs rfl)),trivial⟩ (qIj _ _ (hx5)) (qAJ _) rfl) (go ?_)
 exact qET
 refine go ?_
 refine AW.cH hH (fun _ hH=>?_) (fun _ hH=>?_)
 refine AW.q ?_
 obtain⟨x7,hx8,x9,hx10,x11,hx12,hH⟩:=qA9 hH
 refine AW.drawn 9 5 [] mix (by kernel_rfl) rfl ?_
 refine go ?_
 refine AO.x (qR4 rfl 5 rfl rfl (es:=[.g (ze4 sA.code),sv ze1 sA.performance.items]) (by exact⟨qDs (LendL.cons ((.rowR rfl (.map fun y=>.vs rfl))) (LendL.cons ((.rowR rfl (.map fun y=>.vs rfl))) (LendL.cons (.free rfl) (LendL.cons (.free rfl) (LendL.cons (.free rfl) (LendL.cons (.free rfl) LendL.nil)))))),.free rfl,trivial⟩) (qMy _ _ _ (hx8)) (qEZ (fun y=>(.cons (qAJ _) .nil))) rfl rfl rfl) ?_
 refine AO.w (zLV rfl rfl rfl (es:=[sv ze0 x7]) ⟨(.rowR rfl (.map fun y=>.vs rfl)),trivial⟩ (qFB _ _ (hx10)) (qAJ _) rfl) ?_
 refine AO.w (cVs (qHK _ _ (hx12))) (go ?_)
 exact qET
 refine go ?_
 refine AW.cH hH (fun _ hH=>?_) (fun _ hH=>?_)
 refine AW.q ?_
 obtain⟨x14,hx15,x16,hx17,hH⟩:=qAH hH
 refine AW.drawn 12 6 [] mix (by kernel_rfl) rfl ?_
 refine go ?_
 refine AO.x (qR4 rfl 6 rfl rfl (es:=[.g (ze4 sA.code),.g (qGw sA.performance),sA.factor]) (by exact⟨qDs (LendL.cons ((.rowR rfl (.map fun y=>.vs rfl))) (LendL.cons ((.rowR rfl (.map fun y=>.vs rfl))) (LendL.cons (.free rfl) (LendL.cons (.free rfl) (LendL.cons (.free rfl) (LendL.cons (.free rfl) LendL.nil)))))),.free rfl,.free rfl,trivial⟩) (qKt fl _ _ _ _ (hx15)) (qEZ (fun y=>(.cons (qAJ _) .nil))) rfl rfl rfl) ?_
 refine AO.w (zLV rfl rfl rfl (es:=[sv ze0 x14]) ⟨(.rowR rfl (.map fun y=>.vs rfl)),trivial⟩ (qFQ _ _ (hx17)) (qAJ _) rfl) (go ?_)
 exact qET
 refine go ?_
 refine AW.cH hH (fun _ hH=>?_) (fun _ hH=>?_)
 refine AW.q ?_
 obtain⟨x19,hx20,hH⟩:=zB hH
 refine AW.drawn 17 7 [] mix (by kernel_rfl) rfl ?_
 refine go ?_
 refine AD.vv (zLV rfl rfl rfl (es:=[.g (ze4 sA.code),.g (qGw sA.performance),sA.factor]) ⟨qDs (LendL.cons ((.rowR rfl (.map fun y=>.vs rfl))) (LendL.cons ((.rowR rfl (.map fun y=>.vs rfl))) (LendL.cons (.free rfl) (LendL.cons (.free rfl) (LendL.cons (.free rfl) (LendL.cons (.free rfl) LendL.nil)))))),.free rfl,.free rfl,trivial⟩ (qLk fl _ _ _ _ (hx20)) (qMO (zfl (.cons (qAJ _) (.cons (qAJ _) .nil)))) rfl) ?_
 refine gs7 ?_
 refine AW.le (Le.ct 0 0 (σ':=(⟨[(9,x19.1)],[(1,.box (qH5 sA 2 3)),(2,ro 4 ze5 sA.code.elements),(3,ro 1 ze0 sA.code.limits)],143,[(1,L 1)]⟩:St)) (hpin:=⟨⟨rfl,rfl⟩,trivial⟩)) ?_
 refine AW.q ?_
 obtain⟨x21,hx22,hH⟩:=zB hH
 refine go ?_
 refine AO.w (cVs (qHK _ _ (hx22))) (go ?_)
 exact qET
 refine go ?_
 refine AW.cH hH (fun _ hH=>?_) (fun _ hH=>?_)
 refine AW.q ?_
 obtain⟨x24,hx25,x26,hx27,hH⟩:=qAH hH
 refine AW.drawn 22 7 [] mix (by kernel_rfl) rfl ?_
 refine go ?_
 refine AD.vv (zLV rfl rfl rfl (es:=[.g (ze4 sA.code),.g (qGw sA.performance),sA.factor,x24]) ⟨qDs (LendL.cons ((.rowR rfl (.map fun y=>.vs rfl))) (LendL.cons ((.rowR rfl (.map fun y=>.vs rfl))) (LendL.cons (.free rfl) (LendL.cons (.free rfl) (LendL.cons (.free rfl) (LendL.cons (.free rfl) LendL.nil)))))),.free rfl,.free rfl,.free rfl,trivial⟩ (qLb fl _ _ _ _ _ (hx27)) (qMO (zfl (.cons (qAJ _) (.cons (qAJ _) (.cons (qAJ _) .nil))))) rfl) ?_
 refine gs9 ?_
 refine AW.le (Le.ct 0 0 (σ':=(⟨[(11,x26.1),(12,x26.2.1),(13,.v (.bool x26.2.2))],[(1,.box (qH5 sA 2 3)),(2,ro 4 ze5 sA.code.elements),(3,ro 1 ze0 sA.code.limits)],143,[(1,L 1)]⟩:St)) (hpin:=⟨⟨rfl,rfl⟩,trivial⟩)) ?_
 refine go ?_
 refine AW.cH hH (fun _ hH=>?_) (fun hc hH=>?_)
 refine go ?_
 exact qET
 refine go ?_
 obtain⟨x28,hx29,hH⟩:=zB hH
 refine go ?_
 refine AO.x (mks T 7 ze0 ([x26.1,x26.2.1])) ?_
 refine AO.w (zLV rfl rfl rfl (es:=[sv ze0 [x26.1,x26.2.1]]) ⟨(.rowR rfl (.map fun y=>.vs rfl)),trivial⟩ (qFQ _ _ (hx29)) (qAJ _) rfl) (go ?_)
 exact qET
 refine go ?_
 obtain⟨x30,hx31,hH⟩:=zB hH
 refine AW.drawn 21 8 [] mix (by kernel_rfl) rfl ?_
 refine go ?_
 refine AD.vv (zLV rfl rfl rfl (es:=[.g (ze4 sA.code),.g (qGw sA.performance),sA.factor]) ⟨qDs (LendL.cons ((.rowR rfl (.map fun y=>.vs rfl))) (LendL.cons ((.rowR rfl (.map fun y=>.vs rfl))) (LendL.cons (.free rfl) (LendL.cons (.free rfl) (LendL.cons (.free rfl) (LendL.cons (.free rfl) LendL.nil)))))),.free rfl,.free rfl,trivial⟩ (qMA fl _ _ _ _ (hx31)) (qMO (zfl (.cons (qAJ _) (.cons (qAJ _) (.cons (qAJ _) (.cons (qAJ _) .nil)))))) rfl) ?_
 iterate 11 refine gs ?_
 refine AW.le (Le.ct 0 0 (σ':=(⟨[(14,x30.1),(15,x30.2.1),(16,x30.2.2.1),(17,.v (.bool x30.2.2.2))],[(1,.box (qH5 sA 2 3)),(2,ro 4 ze5 sA.code.elements),(3,ro 1 ze0 sA.code.limits)],143,[(1,L 1)]⟩:St)) (hpin:=⟨⟨rfl,rfl⟩,trivial⟩)) ?_
 refine go ?_
 refine AW.cH hH (fun _ hH=>?_) (fun _ hH=>?_)
 refine go ?_
 exact qET
 refine go ?_
 obtain⟨x32,hx33,u34,hx35,x36,hx37,hH⟩:=qA9 hH
 obtain⟨u38,hx39,hH⟩:=zB hH
 refine AW.drawn 8 8 [] mix (by kernel_rfl) rfl ?_
 refine go ?_
 refine AD.q (FStep.mk T (f:=ze0) (l:=[x30.1,x30.2.1]) rfl rfl rfl rfl rfl rfl rfl rfl rfl (fun _=>rfl) rfl rfl rfl rfl) (by simp[qAu]) (Nat.le_succ _) rfl ?_
 refine AD.vald rfl rfl rfl (zLV rfl rfl rfl (es:=[sv ze0 [x30.1,x30.2.1]]) ⟨(.rowR rfl (.map fun y=>.vs rfl)),trivial⟩ (qFQ _ _ (hx33)) (qAJ _) rfl) ?_
 refine AD.vv (qBd rfl rfl rfl (Nat.le_of_ble_eq_true (qAQ (hx35)))) ?_
 refine AD.pu T ?_
 refine AD.vv (qWW T (l:=[(⟨#[110,111,110,101]⟩:ByteArray),(⟨#[100,111,119,110]⟩:ByteArray),(⟨#[101,100,103,101]⟩:ByteArray),(⟨#[118,111,105,100]⟩:ByteArray)]) (f:=ze2) rfl rfl rfl rfl rfl rfl rfl (fun _=>rfl) (hx37)) ?_
 refine go ?_
 refine AO.w (qBd rfl rfl rfl (Nat.le_of_ble_eq_true (qAQ (hx39)))) (go ?_)
 exact qET
def qAA (sA:ScriptState) (fl:Nat) (x5:(List ByteArray)) (x7:ByteArray) (x9:(ByteArray×Bool)):List ByteArray→Nat→List Int→Option ((ScriptState×ByteArray))
 | [],k13,v32 =>
  cond (decide (x7=(⟨#[101,108,101,109,101,110,116]⟩:ByteArray)))
   ((qAT x5 1).bind fun x35 =>
   (qAT v32 1).bind fun x37 =>
   (qAT v32 2).bind fun x39 =>
   (qAT v32 3).bind fun x41 =>
   (qFA fl sA.code (Element.mk x35 x37 x39 x41)).bind fun x43 =>
   (qAp sA x43.1 x43.2).bind fun x45 =>
   some (x45.1,x45.2))
   (cond (decide (x7=(⟨#[108,105,109,105,116]⟩:ByteArray)))
    ((qAh fl sA x7 v32).bind fun x48 =>
    some (x48.1,x48.2))
    (cond (decide (x7=(⟨#[114,117,108,101,115]⟩:ByteArray)))
     ((qAh fl sA x7 v32).bind fun x51 =>
     some (x51.1,x51.2))
     (cond (decide (x7=(⟨#[106,117,100,103,101,115]⟩:ByteArray)))
      ((qAO fl sA x7 v32).bind fun x54 =>
      some (x54.1,x54.2))
      (cond (decide (x7=(⟨#[103,114,97,100,101]⟩:ByteArray)))
       ((qAO fl sA x7 v32).bind fun x57 =>
       some (x57.1,x57.2))
       (cond (decide (x7=(⟨#[99,111,109,112,111,110,101,110,116]⟩:ByteArray)))
        ((qAO fl sA x7 v32).bind fun x60 =>
        some (x60.1,x60.2))
        (cond (decide (x7=(⟨#[99,97,108,108]⟩:ByteArray)))
         ((qAI fl sA x7 v32).bind fun x63 =>
         some (x63.1,x63.2))
         (cond (decide (x7=(⟨#[115,108,105,112,115]⟩:ByteArray)))
          ((qAI fl sA x7 v32).bind fun x66 =>
          some (x66.1,x66.2))
          (cond (decide (x7=(⟨#[102,97,99,116,111,114]⟩:ByteArray)))
           ((qAI fl sA x7 v32).bind fun x69 =>
           some (x69.1,x69.2))
           (cond (decide (x7=(⟨#[108,97,116,101]⟩:ByteArray)))
            ((qAI fl sA x7 v32).bind fun x72 =>
            some (x72.1,x72.2))
            (cond (decide (x7=(⟨#[115,107,97,116,101,114]⟩:ByteArray)))
             ((qA5 fl sA x7 v32).bind fun x75 =>
             some (x75.1,x75.2))
             (cond (decide (x7=(⟨#[112,108,97,99,101,115]⟩:ByteArray)))
              ((qA5 fl sA x7 v32).bind fun x78 =>
              some (x78.1,x78.2))
              ((qAL fl sA x7 v32).bind fun x80 =>
              some (x80.1,x80.2)))))))))))))
 |y14::ys15,k13,v32 =>
  (qNo x9.1 (k13:Int)).bind fun b82 =>
  (qCX fl (b82.toNat:Int) y14).bind fun x84 =>
  cond (!x84.2)
   (some (sA,(⟨#[119,104,97,116]⟩:ByteArray)))
   ((qAr (qAf 8 (v32.length+([x84.1]).length))).bind fun u86 =>
   qAA sA fl x5 x7 x9 ys15 (k13+1) (v32++[x84.1]))
def qAe (fl:Nat) (sA:ScriptState) (line:ByteArray):Option (ScriptState×ByteArray) :=
 (qBb line (⟨#[105,116,101,109,32]⟩:ByteArray)).bind fun x1 =>
 cond x1.2
  ((qBJ fl sA x1.1).bind fun x3 =>
  some (x3.1,x3.2))
  ((qBx line (⟨#[32]⟩:ByteArray)).bind fun x5 =>
  (qAT x5 0).bind fun x7 =>
  (qFS x7).bind fun x9 =>
  cond ((!x9.2)||((x9.1.size:Int) != (w64 ((x5.length:Int)-1))))
   (some (sA,(⟨#[119,104,97,116]⟩:ByteArray)))
   ((qC0 x5 1).bind fun x11 =>
   qAA sA fl x5 x7 x9 x11 0 []))
theorem qJy (fl:Nat) (sA:ScriptState) (line:ByteArray) (r:(ScriptState×ByteArray)) (hH:qAe fl sA line=some r):qFk prog 76 [.pn (qHm sA),.v (.string line)] [.pn (qHm r.1),.u] (.v (.string r.2)):=by
 refine qFI T func76 rfl (by decide) rfl rfl [.p 1 0,.v (.string line)] [(1,.box (qH5 sA 2 3)),(3,ro 1 ze0 sA.code.limits),(2,ro 4 ze5 sA.code.elements)] 4 (by kernel_rfl) [1] rfl rfl ?_
 intro L
 show AW _ _ _ (⟨[(0,.p 1 0),(1,.v (.string line))],[(1,.box (qH5 sA 2 3)),(3,ro 1 ze0 sA.code.limits),(2,ro 4 ze5 sA.code.elements)],129,[(1,L 1)]⟩:St)
 refine gs6 ?_
 obtain⟨x1,hx2,hH⟩:=zB hH
 refine gs2 ?_
 refine AO.w (cVs (qIL _ _ _ (hx2))) ?_
 iterate 10 refine gs ?_
 refine AW.cH hH (fun _ hH=>?_) (fun hc hH=>?_)
 refine AW.q ?_
 obtain⟨x3,hx4,hH⟩:=zB hH
 refine gs3 ?_
 refine AO.x (qAc (qH5 x3.1 4 5) [(5,ro 1 ze0 x3.1.code.limits),(4,ro 4 ze5 x3.1.code.elements)] 6 (by kernel_rfl) rfl 4 rfl rfl rfl rfl (es:=[.pn (qHm sA),.v (.string x1.1)]) (us:=[.u]) (cs:=qHm x3.1) (ids:=[1,2,3]) (by exact zG (.pb rfl (zC (.rowR rfl) (zC (.rowR rfl) (zC .v (zC .v (zC .v (zC .v (zC .s (zC .s (zC .s (zC .v (zC .v (zC .v (zC .v (zC .s (zCn)))))))))))))))) (zG (.c .v) (zGn))) (by decide) (by decide) (qIu fl _ _ _ (hx4)) rfl rfl (by rfl) rfl) ?_
 refine gs3 ?_
 exact qET
 refine gs2 ?_
 obtain⟨x5,hx6,hH⟩:=zB hH
 refine gs2 ?_
 refine AO.x (qAU rfl 6 rfl rfl rfl (qIA _ _ _ (hx6)) rfl rfl rfl) ?_
 refine gs3 ?_
 obtain⟨x7,hx8,hH⟩:=zB hH
 refine gs3 ?_
 refine AO.w (zLr T rfl rfl rfl rfl (zgG (hx8)) rfl rfl rfl) ?_
 refine AO.x (qGF T rfl rfl rfl rfl) ?_
 refine gs4 ?_
 obtain⟨x9,hx10,hH⟩:=zB hH
 refine gs2 ?_
 refine AO.w (cVs (qPQ _ _ (hx10))) ?_
 refine gs6 ?_
 refine AW.le (Le.ct 0 0 (σ':=(⟨[(0,.p 1 0),(7,.R 6),(8,.v (.string x7)),(9,.w 1 []),(10,.v (.string x9.1)),(11,.v (.bool x9.2))],[(1,.box (qH5 sA 2 3)),(2,ro 4 ze5 sA.code.elements),(3,ro 1 ze0 sA.code.limits),(6,ro 1 ze2 x5)],129,[(1,L 1)]⟩:St)) (hpin:=⟨⟨rfl,rfl⟩,trivial⟩)) ?_
 refine gs6 ?_
 refine AO.g0 T ?_
 refine AO.g1 T 39 ?_
 refine AO.g0 T ?_
 refine AO.d1 41 (fun hg=>qJa T rfl rfl rfl rfl) ?_
 refine AO.d1 42 (fun hg=>aws) ?_
 refine AO.g2 T 40 43 ?_
 refine gs2 ?_
 refine AW.cH hH (fun _ hH=>?_) (fun hc hH=>?_)
 refine gs5 ?_
 exact qET
 refine gs3 ?_
 obtain⟨x11,hx12,hH⟩:=zB hH
 refine AW.le (Le.fM 6 (g:=ze2) rfl (fun y=>.vs rfl)) ?_
 refine gs2 ?_
 refine AO.w (qDW T rfl rfl rfl rfl rfl (hx12) (fun _=>rfl)) ?_
 refine gs4 ?_
 refine AW.loopS (fun s:Nat×(List Int)=>(⟨[(0,.p 1 0),(7,sv ze2 x5),(8,.v (.string x7)),(9,.R 10),(10,.v (.string x9.1)),(47,sv ze2 x11),(48,(x11.length:Int)),(49,(s.1:Int))],[(1,.box (qH5 sA 2 3)),(2,ro 4 ze5 sA.code.elements),(3,ro 1 ze0 sA.code.limits),(10,ro 1 ze0 s.2)],129,[(1,L 1)]⟩:St)) (fun s=>s.1≤x11.length∧qAA sA fl x5 x7 x9 (x11.drop s.1) s.1 s.2=some r) (fun s=>x11.length-s.1) (0,[]) ⟨Nat.zero_le _,hH⟩ ?_ ?_
 refine Le.trans (Le.void 9 10 1 rfl rfl) ?_
 exact Le.ct 0 0 (hpin:=⟨⟨rfl,rfl⟩,trivial⟩)
 rintro⟨k13,v32⟩ ⟨hk,hH⟩
 try dsimp only at hH⊢
 refine AW.boundM (t:=47) (l:=x11) rfl (fun hb17=>?_)
 rcases hd16:x11.drop k13 with _|⟨y14,ys15⟩
 rw[hd16,qAA]at hH
 have hlt18:=qAF hd16
 iterate 18 refine gs ?_
 refine AW.cH hH (fun _ hH=>?_) (fun _ hH=>?_)
 refine AW.q ?_
 obtain⟨x35,hx36,x37,hx38,x39,hx40,hH⟩:=qA9 hH
 obtain⟨x41,hx42,x43,hx44,x45,hx46,hH⟩:=qA9 hH
 refine AW.drawn 21 11 [] mix (by kernel_rfl) rfl ?_
 refine gs9 ?_
 refine AD.vv (ixr T (hx38)) ?_
 refine AD.vv (zLr T rfl rfl rfl rfl (zgG (hx38)) rfl rfl rfl) ?_
 refine AD.pu T ?_
 refine AD.vv (ixr T (hx40)) ?_
 refine AD.vv (zLr T rfl rfl rfl rfl (zgG (hx40)) rfl rfl rfl) ?_
 refine AD.pu T ?_
 refine AD.vv (ixr T (hx42)) ?_
 refine AD.vv (zLr T rfl rfl rfl rfl (zgG (hx42)) rfl rfl rfl) ?_
 refine gs ?_
 refine AD.q (FStep.callL rfl rfl rfl rfl (es:=[.g (ze4 sA.code),.g (ze5 (Element.mk x35 x37 x39 x41))]) ⟨qDs (LendL.cons ((.rowR rfl (.map fun y=>.vs rfl))) (LendL.cons ((.rowR rfl (.map fun y=>.vs rfl))) (LendL.cons (.free rfl) (LendL.cons (.free rfl) (LendL.cons (.free rfl) (LendL.cons (.free rfl) LendL.nil)))))),.free rfl,trivial⟩ (qMa fl _ _ _ (hx44)) (qMO (zfl (.cons (qRu (zfl (.cons (qEZ (fun y=>(.cons (qAJ _) (.cons (qAJ _) (.cons (qAJ _) (.cons (qAJ _) .nil)))))) (.cons (qEZ (fun y=>(.cons (qAJ _) .nil))) (.cons (qAJ _) (.cons (qAJ _) (.cons (qAJ _) (.cons (qAJ _) .nil)))))))) (.cons (qAJ _) .nil)))) rfl rfl) (qBD _ _) (qDe _ _) rfl ?_
 refine gs3 ?_
 refine AO.x (qAc (qH5 x45.1 13 14) [(14,ro 1 ze0 x45.1.code.limits),(13,ro 4 ze5 x45.1.code.elements)] 15 (by kernel_rfl) rfl 13 rfl rfl rfl rfl (es:=[.pn (qHm sA),.g (qHx x43.1),.v (.bool x43.2)]) (us:=[.u,.u]) (cs:=qHm x45.1) (ids:=[1,2,3,11,12]) (by exact zG (.pb rfl (zC (.rowR rfl) (zC (.rowR rfl) (zC .v (zC .v (zC .v (zC .v (zC .s (zC .s (zC .s (zC .v (zC .v (zC .v (zC .v (zC .s (zCn)))))))))))))))) (zG (.g (zC (.rowR rfl) (zC (.rowR rfl) (zC .v (zC .v (zC .v (zC .v (zCn)))))))) (zG (.c .v) (zGn)))) (by decide) (by decide) (qEN _ _ _ _ (hx46)) rfl rfl (by rfl) rfl) ?_
 refine gs2 ?_
 refine AW.le (Le.ct 0 0 (σ':=(⟨[(4,.v (.string x45.2))],[(1,.box (qH5 x45.1 13 14)),(13,ro 4 ze5 x45.1.code.elements),(14,ro 1 ze0 x45.1.code.limits)],129,[(1,L 1)]⟩:St)) (hpin:=⟨⟨rfl,rfl⟩,trivial⟩)) ?_
 refine AW.t ?_
 exact qET
 refine gs6 ?_
 refine AW.cH hH (fun hc47 hH=>?_) (fun _ hH=>?_)
 refine AW.k (AW.condT' rfl hc47 ?_)
 refine AW.q ?_
 obtain⟨x48,hx49,hH⟩:=zB hH
 refine AW.le (Le.fM 10 (g:=ze0) rfl (fun y=>.vs rfl)) ?_
 refine gs4 ?_
 refine AO.x (qAc (qH5 x48.1 15 16) [(16,ro 1 ze0 x48.1.code.limits),(15,ro 4 ze5 x48.1.code.elements)] 17 (by kernel_rfl) rfl 15 rfl rfl rfl rfl (es:=[.pn (qHm sA),.v (.string x7),.s (v32.map ze0)]) (us:=[.u,.u]) (cs:=qHm x48.1) (ids:=[1,2,3]) (by exact zG (.pb rfl (zC (.rowR rfl) (zC (.rowR rfl) (zC .v (zC .v (zC .v (zC .v (zC .s (zC .s (zC .s (zC .v (zC .v (zC .v (zC .v (zC .s (zCn)))))))))))))))) (zG (.c .v) (zG (.c .s) (zGn)))) (by decide) (by decide) (qG0 fl _ _ _ _ (hx49)) rfl rfl (by rfl) rfl) ?_
 refine gs3 ?_
 exact qET
 refine gs4 ?_
 refine AW.cH hH (fun _ hH=>?_) (fun _ hH=>?_)
 refine AW.q ?_
 obtain⟨x51,hx52,hH⟩:=zB hH
 refine AW.le (Le.fM 10 (g:=ze0) rfl (fun y=>.vs rfl)) ?_
 refine gs4 ?_
 refine AO.x (qAc (qH5 x51.1 17 18) [(18,ro 1 ze0 x51.1.code.limits),(17,ro 4 ze5 x51.1.code.elements)] 19 (by kernel_rfl) rfl 17 rfl rfl rfl rfl (es:=[.pn (qHm sA),.v (.string x7),.s (v32.map ze0)]) (us:=[.u,.u]) (cs:=qHm x51.1) (ids:=[1,2,3]) (by exact zG (.pb rfl (zC (.rowR rfl) (zC (.rowR rfl) (zC .v (zC .v (zC .v (zC .v (zC .s (zC .s (zC .s (zC .v (zC .v (zC .v (zC .v (zC .s (zCn)))))))))))))))) (zG (.c .v) (zG (.c .s) (zGn)))) (by decide) (by decide) (qG0 fl _ _ _ _ (hx52)) rfl rfl (by rfl) rfl) ?_
 refine gs3 ?_
 exact qET
 refine gs6 ?_
 refine AW.cH hH (fun hc53 hH=>?_) (fun _ hH=>?_)
 refine AW.k (AW.condT' rfl hc53 ?_)
 refine AW.q ?_
 obtain⟨x54,hx55,hH⟩:=zB hH
 refine AW.le (Le.fM 10 (g:=ze0) rfl (fun y=>.vs rfl)) ?_
 refine gs4 ?_
 refine AO.x (qAc (qH5 x54.1 19 20) [(20,ro 1 ze0 x54.1.code.limits),(19,ro 4 ze5 x54.1.code.elements)] 21 (by kernel_rfl) rfl 19 rfl rfl rfl rfl (es:=[.pn (qHm sA),.v (.string x7),.s (v32.map ze0)]) (us:=[.u,.u]) (cs:=qHm x54.1) (ids:=[1,2,3]) (by exact zG (.pb rfl (zC (.rowR rfl) (zC (.rowR rfl) (zC .v (zC .v (zC .v (zC .v (zC .s (zC .s (zC .s (zC .v (zC .v (zC .v (zC .v (zC .s (zCn)))))))))))))))) (zG (.c .v) (zG (.c .s) (zGn)))) (by decide) (by decide) (qEq fl _ _ _ _ (hx55)) rfl rfl (by rfl) rfl) ?_
 refine gs3 ?_
 exact qET
 refine gs5 ?_
 refine AW.cH hH (fun hc56 hH=>?_) (fun _ hH=>?_)
 refine AW.k (AW.condT' rfl hc56 ?_)
 refine AW.q ?_
 obtain⟨x57,hx58,hH⟩:=zB hH
 refine AW.le (Le.fM 10 (g:=ze0) rfl (fun y=>.vs rfl)) ?_
 refine gs4 ?_
 refine AO.x (qAc (qH5 x57.1 21 22) [(22,ro 1 ze0 x57.1.code.limits),(21,ro 4 ze5 x57.1.code.elements)] 23 (by kernel_rfl) rfl 21 rfl rfl rfl rfl (es:=[.pn (qHm sA),.v (.string x7),.s (v32.map ze0)]) (us:=[.u,.u]) (cs:=qHm x57.1) (ids:=[1,2,3]) (by exact zG (.pb rfl (zC (.rowR rfl) (zC (.rowR rfl) (zC .v (zC .v (zC .v (zC .v (zC .s (zC .s (zC .s (zC .v (zC .v (zC .v (zC .v (zC .s (zCn)))))))))))))))) (zG (.c .v) (zG (.c .s) (zGn)))) (by decide) (by decide) (qEq fl _ _ _ _ (hx58)) rfl rfl (by rfl) rfl) ?_
 refine gs3 ?_
 exact qET
 refine gs4 ?_
 refine AW.cH hH (fun _ hH=>?_) (fun _ hH=>?_)
 refine AW.q ?_
 obtain⟨x60,hx61,hH⟩:=zB hH
 refine AW.le (Le.fM 10 (g:=ze0) rfl (fun y=>.vs rfl)) ?_
 refine gs4 ?_
 refine AO.x (qAc (qH5 x60.1 23 24) [(24,ro 1 ze0 x60.1.code.limits),(23,ro 4 ze5 x60.1.code.elements)] 25 (by kernel_rfl) rfl 23 rfl rfl rfl rfl (es:=[.pn (qHm sA),.v (.string x7),.s (v32.map ze0)]) (us:=[.u,.u]) (cs:=qHm x60.1) (ids:=[1,2,3]) (by exact zG (.pb rfl (zC (.rowR rfl) (zC (.rowR rfl) (zC .v (zC .v (zC .v (zC .v (zC .s (zC .s (zC .s (zC .v (zC .v (zC .v (zC .v (zC .s (zCn)))))))))))))))) (zG (.c .v) (zG (.c .s) (zGn)))) (by decide) (by decide) (qEq fl _ _ _ _ (hx61)) rfl rfl (by rfl) rfl) ?_
 refine gs3 ?_
 exact qET
 refine gs6 ?_
 refine AW.cH hH (fun hc62 hH=>?_) (fun _ hH=>?_)
 refine AW.k (AW.condT' rfl hc62 ?_)
 refine AW.q ?_
 obtain⟨x63,hx64,hH⟩:=zB hH
 refine AW.le (Le.fM 10 (g:=ze0) rfl (fun y=>.vs rfl)) ?_
 refine gs4 ?_
 refine AO.x (qAc (qH5 x63.1 25 26) [(26,ro 1 ze0 x63.1.code.limits),(25,ro 4 ze5 x63.1.code.elements)] 27 (by kernel_rfl) rfl 25 rfl rfl rfl rfl (es:=[.pn (qHm sA),.v (.string x7),.s (v32.map ze0)]) (us:=[.u,.u]) (cs:=qHm x63.1) (ids:=[1,2,3]) (by exact zG (.pb rfl (zC (.rowR rfl) (zC (.rowR rfl) (zC .v (zC .v (zC .v (zC .v (zC .s (zC .s (zC .s (zC .v (zC .v (zC .v (zC .v (zC .s (zCn)))))))))))))))) (zG (.c .v) (zG (.c .s) (zGn)))) (by decide) (by decide) (qCx fl _ _ _ _ (hx64)) rfl rfl (by rfl) rfl) ?_
 refine gs3 ?_
 exact qET
 refine gs5 ?_
 refine AW.cH hH (fun hc65 hH=>?_) (fun _ hH=>?_)
 refine AW.k (AW.condT' rfl hc65 ?_)
 refine AW.q ?_
 obtain⟨x66,hx67,hH⟩:=zB hH
 refine AW.le (Le.fM 10 (g:=ze0) rfl (fun y=>.vs rfl)) ?_
 refine gs4 ?_
 refine AO.x (qAc (qH5 x66.1 27 28) [(28,ro 1 ze0 x66.1.code.limits),(27,ro 4 ze5 x66.1.code.elements)] 29 (by kernel_rfl) rfl 27 rfl rfl rfl rfl (es:=[.pn (qHm sA),.v (.string x7),.s (v32.map ze0)]) (us:=[.u,.u]) (cs:=qHm x66.1) (ids:=[1,2,3]) (by exact zG (.pb rfl (zC (.rowR rfl) (zC (.rowR rfl) (zC .v (zC .v (zC .v (zC .v (zC .s (zC .s (zC .s (zC .v (zC .v (zC .v (zC .v (zC .s (zCn)))))))))))))))) (zG (.c .v) (zG (.c .s) (zGn)))) (by decide) (by decide) (qCx fl _ _ _ _ (hx67)) rfl rfl (by rfl) rfl) ?_
 refine gs3 ?_
 exact qET
 refine gs5 ?_
 refine AW.cH hH (fun hc68 hH=>?_) (fun _ hH=>?_)
 refine AW.k (AW.condT' rfl hc68 ?_)
 refine AW.q ?_
 obtain⟨x69,hx70,hH⟩:=zB hH
 refine AW.le (Le.fM 10 (g:=ze0) rfl (fun y=>.vs rfl)) ?_
 refine gs4 ?_
 refine AO.x (qAc (qH5 x69.1 29 30) [(30,ro 1 ze0 x69.1.code.limits),(29,ro 4 ze5 x69.1.code.elements)] 31 (by kernel_rfl) rfl 29 rfl rfl rfl rfl (es:=[.pn (qHm sA),.v (.string x7),.s (v32.map ze0)]) (us:=[.u,.u]) (cs:=qHm x69.1) (ids:=[1,2,3]) (by exact zG (.pb rfl (zC (.rowR rfl) (zC (.rowR rfl) (zC .v (zC .v (zC .v (zC .v (zC .s (zC .s (zC .s (zC .v (zC .v (zC .v (zC .v (zC .s (zCn)))))))))))))))) (zG (.c .v) (zG (.c .s) (zGn)))) (by decide) (by decide) (qCx fl _ _ _ _ (hx70)) rfl rfl (by rfl) rfl) ?_
 refine gs2 ?_
 refine AW.le (Le.ct 0 0 (σ':=(⟨[(4,.v (.string x69.2))],[(1,.box (qH5 x69.1 29 30)),(29,ro 4 ze5 x69.1.code.elements),(30,ro 1 ze0 x69.1.code.limits)],129,[(1,L 1)]⟩:St)) (hpin:=⟨⟨rfl,rfl⟩,trivial⟩)) ?_
 refine AW.t ?_
 exact qET
 refine gs4 ?_
 refine AW.cH hH (fun _ hH=>?_) (fun _ hH=>?_)
 refine AW.q ?_
 obtain⟨x72,hx73,hH⟩:=zB hH
 refine AW.le (Le.fM 10 (g:=ze0) rfl (fun y=>.vs rfl)) ?_
 refine gs4 ?_
 refine AO.x (qAc (qH5 x72.1 31 32) [(32,ro 1 ze0 x72.1.code.limits),(31,ro 4 ze5 x72.1.code.elements)] 33 (by kernel_rfl) rfl 31 rfl rfl rfl rfl (es:=[.pn (qHm sA),.v (.string x7),.s (v32.map ze0)]) (us:=[.u,.u]) (cs:=qHm x72.1) (ids:=[1,2,3]) (by exact zG (.pb rfl (zC (.rowR rfl) (zC (.rowR rfl) (zC .v (zC .v (zC .v (zC .v (zC .s (zC .s (zC .s (zC .v (zC .v (zC .v (zC .v (zC .s (zCn)))))))))))))))) (zG (.c .v) (zG (.c .s) (zGn)))) (by decide) (by decide) (qCx fl _ _ _ _ (hx73)) rfl rfl (by rfl) rfl) ?_
 refine gs2 ?_
 refine AW.le (Le.ct 0 0 (σ':=(⟨[(4,.v (.string x72.2))],[(1,.box (qH5 x72.1 31 32)),(31,ro 4 ze5 x72.1.code.elements),(32,ro 1 ze0 x72.1.code.limits)],129,[(1,L 1)]⟩:St)) (hpin:=⟨⟨rfl,rfl⟩,trivial⟩)) ?_
 refine AW.t ?_
 exact qET
 refine gs6 ?_
 refine AW.le (Le.ct 0 0 (σ':=(⟨[(0,.p 1 0),(8,.v (.string x7)),(9,.R 10),(69,.v (.string x7)),(118,.v (.bool (decide (x7=(⟨#[115,107,97,116,101,114]⟩:ByteArray)))))],[(1,.box (qH5 sA 2 3)),(2,ro 4 ze5 sA.code.elements),(3,ro 1 ze0 sA.code.limits),(10,ro 1 ze0 v32)],129,[(1,L 1)]⟩:St)) (hpin:=⟨⟨rfl,rfl⟩,trivial⟩)) ?_
 refine AW.cH hH (fun hc74 hH=>?_) (fun _ hH=>?_)
 refine AW.k (AW.condT' rfl hc74 ?_)
 refine AW.q ?_
 obtain⟨x75,hx76,hH⟩:=zB hH
 refine AW.le (Le.fM 10 (g:=ze0) rfl (fun y=>.vs rfl)) ?_
 refine gs4 ?_
 refine AO.x (qAc (qH5 x75.1 33 34) [(34,ro 1 ze0 x75.1.code.limits),(33,ro 4 ze5 x75.1.code.elements)] 35 (by kernel_rfl) rfl 33 rfl rfl rfl rfl (es:=[.pn (qHm sA),.v (.string x7),.s (v32.map ze0)]) (us:=[.u,.u]) (cs:=qHm x75.1) (ids:=[1,2,3]) (by exact zG (.pb rfl (zC (.rowR rfl) (zC (.rowR rfl) (zC .v (zC .v (zC .v (zC .v (zC .s (zC .s (zC .s (zC .v (zC .v (zC .v (zC .v (zC .s (zCn)))))))))))))))) (zG (.c .v) (zG (.c .s) (zGn)))) (by decide) (by decide) (qG3 fl _ _ _ _ (hx76)) rfl rfl (by rfl) rfl) ?_
 refine gs3 ?_
 exact qET
 refine gs4 ?_
 refine AW.cH hH (fun _ hH=>?_) (fun _ hH=>?_)
 refine AW.q ?_
 obtain⟨x78,hx79,hH⟩:=zB hH
 refine AW.le (Le.fM 10 (g:=ze0) rfl (fun y=>.vs rfl)) ?_
 refine gs4 ?_
 refine AO.x (qAc (qH5 x78.1 35 36) [(36,ro 1 ze0 x78.1.code.limits),(35,ro 4 ze5 x78.1.code.elements)] 37 (by kernel_rfl) rfl 35 rfl rfl rfl rfl (es:=[.pn (qHm sA),.v (.string x7),.s (v32.map ze0)]) (us:=[.u,.u]) (cs:=qHm x78.1) (ids:=[1,2,3]) (by exact zG (.pb rfl (zC (.rowR rfl) (zC (.rowR rfl) (zC .v (zC .v (zC .v (zC .v (zC .s (zC .s (zC .s (zC .v (zC .v (zC .v (zC .v (zC .s (zCn)))))))))))))))) (zG (.c .v) (zG (.c .s) (zGn)))) (by decide) (by decide) (qG3 fl _ _ _ _ (hx79)) rfl rfl (by rfl) rfl) ?_
 refine gs3 ?_
 exact qET
 refine gs2 ?_
 obtain⟨x80,hx81,hH⟩:=zB hH
 refine AW.le (Le.fM 10 (g:=ze0) rfl (fun y=>.vs rfl)) ?_
 refine gs4 ?_
 refine AO.x (qAc (qH5 x80.1 37 38) [(38,ro 1 ze0 x80.1.code.limits),(37,ro 4 ze5 x80.1.code.elements)] 39 (by kernel_rfl) rfl 37 rfl rfl rfl rfl (es:=[.pn (qHm sA),.v (.string x7),.s (v32.map ze0)]) (us:=[.u,.u]) (cs:=qHm x80.1) (ids:=[1,2,3]) (by exact zG (.pb rfl (zC (.rowR rfl) (zC (.rowR rfl) (zC .v (zC .v (zC .v (zC .v (zC .s (zC .s (zC .s (zC .v (zC .v (zC .v (zC .v (zC .s (zCn)))))))))))))))) (zG (.c .v) (zG (.c .s) (zGn)))) (by decide) (by decide) (qKI fl _ _ _ _ (hx81)) rfl rfl (by rfl) rfl) ?_
 refine gs3 ?_
 exact qET
 rw[hd16,qAA]at hH
 have hlt18:=qAG hd16
 iterate 18 refine gs ?_
 obtain⟨b82,hx83,x84,hx85,hH⟩:=qAH hH
 refine gs3 ?_
 refine AO.w (qBK T rfl rfl rfl rfl (hx83)) ?_
 refine AO.pu T ?_
 refine AO.w (cVs (qNv fl _ _ _ (hx85))) ?_
 iterate 12 refine gs ?_
 refine AW.cH hH (fun _ hH=>?_) (fun _ hH=>?_)
 refine gs5 ?_
 exact qET
 refine AW.k ?_
 obtain⟨u86,hx87,hH⟩:=zB hH
 refine gs3 ?_
 refine AO.x (mks T 39 ze0 ([x84.1])) ?_
 refine AO.x (rvs T 40 (hfit:=by exact qAQ (hx87))) ?_
 refine gs6 ?_
 refine⟨(k13+1,(v32++[x84.1])),⟨hlt18,(zds hd16▸hH)⟩,qBz hlt18,?_⟩
 exact Le.ct 40 10 (hpin:=⟨⟨rfl,rfl⟩,trivial⟩)
def qBS (fl:Nat):List ByteArray→Nat→List Element→List Int→Int→Int→Int→Int→List Item→List (List Int)→List (List Int)→Int→Int→Int→Int→List Result→List ByteArray→Option (((Option ScriptState)×(List ByteArray)×Bool))
 | [],k5,v34,v35,v36,v37,v38,v39,v40,v41,v42,v43,v44,v45,v46,v47,v48 =>
  some ((some (ScriptState.mk (Code.mk v34 v35 v36 v37 v38 v39) (Performance.mk v40 (Marks.mk v41 v42) (Slips.mk v43 v44 v45)) v46 v47)),v48,true)
 |y6::ys7,k5,v34,v35,v36,v37,v38,v39,v40,v41,v42,v43,v44,v45,v46,v47,v48 =>
  (qAe fl (ScriptState.mk (Code.mk v34 v35 v36 v37 v38 v39) (Performance.mk v40 (Marks.mk v41 v42) (Slips.mk v43 v44 v45)) v46 v47) y6).bind fun x50 =>
  (qAr (qAf 16 (v48.length+([x50.2]).length))).bind fun u52 =>
  qBS fl ys7 (k5+1) x50.1.code.elements x50.1.code.limits x50.1.code.repeats x50.1.code.bonus x50.1.code.keeps x50.1.code.fall x50.1.performance.items x50.1.performance.marks.grades x50.1.performance.marks.components x50.1.performance.slips.falls x50.1.performance.slips.seconds x50.1.performance.slips.other x50.1.factor x50.1.results (v48++[x50.2])
def qFU (fl:Nat) (script:ByteArray):Option ((Option ScriptState)×(List ByteArray)×Bool) :=
 (qCV script).bind fun x1 =>
 cond (!x1.2)
  (some (none,[],false))
  ((qHD fl ).bind fun x3 =>
  qBS fl x1.1 0 x3.code.elements x3.code.limits x3.code.repeats x3.code.bonus x3.code.keeps x3.code.fall x3.performance.items x3.performance.marks.grades x3.performance.marks.components x3.performance.slips.falls x3.performance.slips.seconds x3.performance.slips.other x3.factor x3.results [])
theorem qJm (fl:Nat) (script:ByteArray) (r:((Option ScriptState)×(List ByteArray)×Bool)) (hH:qFU fl script=some r):qAC prog 46 [.v (.string script)] (.t [pnO qHm r.1,.w 1 (r.2.1.map ze2),.v (.bool r.2.2)]):=by
 refine fns T func46 ?_
 refine gs7 ?_
 obtain⟨x1,hx2,hH⟩:=zB hH
 refine gs2 ?_
 refine AO.x (qAU rfl 1 rfl rfl rfl (qL7 _ _ (hx2)) rfl rfl rfl) ?_
 iterate 12 refine gs ?_
 refine AW.cH hH (fun _ hH=>?_) (fun _ hH=>?_)
 refine gs7 ?_
 exact fin
 refine gs2 ?_
 obtain⟨x3,hx4,hH⟩:=zB hH
 refine AW.r (AO.x (qQg (.p 2 0) [(2,.box (qH5 x3 3 4)),(4,ro 1 ze0 x3.code.limits),(3,ro 4 ze5 x3.code.elements)] 5 (by kernel_rfl) rfl 2 rfl rfl rfl rfl (qOH fl _ (hx4)) rfl rfl rfl) ?_)
 refine AO.x (qGF T rfl rfl rfl rfl) ?_
 iterate 11 refine gs ?_
 refine AW.loopS (fun s:Nat×(List Element)×(List Int)×Int×Int×Int×Int×(List Item)×(List (List Int))×(List (List Int))×Int×Int×Int×Int×(List Result)×(List ByteArray)=>(⟨[(7,.p 2 0),(8,.R 12),(20,.R 1),(21,(x1.1.length:Int)),(22,(s.1:Int))],[(1,ro 1 ze2 x1.1),(2,.box [.R 3,.R 4,s.2.2.2.1,s.2.2.2.2.1,s.2.2.2.2.2.1,s.2.2.2.2.2.2.1,sv ze1 s.2.2.2.2.2.2.2.1,sv ze3 s.2.2.2.2.2.2.2.2.1,sv ze3 s.2.2.2.2.2.2.2.2.2.1,s.2.2.2.2.2.2.2.2.2.2.1,s.2.2.2.2.2.2.2.2.2.2.2.1,s.2.2.2.2.2.2.2.2.2.2.2.2.1,s.2.2.2.2.2.2.2.2.2.2.2.2.2.1,sv ze6 s.2.2.2.2.2.2.2.2.2.2.2.2.2.2.1]),(3,ro 4 ze5 s.2.1),(4,ro 1 ze0 s.2.2.1),(12,ro 1 ze2 s.2.2.2.2.2.2.2.2.2.2.2.2.2.2.2)],35,[]⟩:St)) (fun s=>s.1≤x1.1.length∧qBS fl (x1.1.drop s.1) s.1 s.2.1 s.2.2.1 s.2.2.2.1 s.2.2.2.2.1 s.2.2.2.2.2.1 s.2.2.2.2.2.2.1 s.2.2.2.2.2.2.2.1 s.2.2.2.2.2.2.2.2.1 s.2.2.2.2.2.2.2.2.2.1 s.2.2.2.2.2.2.2.2.2.2.1 s.2.2.2.2.2.2.2.2.2.2.2.1 s.2.2.2.2.2.2.2.2.2.2.2.2.1 s.2.2.2.2.2.2.2.2.2.2.2.2.2.1 s.2.2.2.2.2.2.2.2.2.2.2.2.2.2.1 s.2.2.2.2.2.2.2.2.2.2.2.2.2.2.2=some r) (fun s=>x1.1.length-s.1) (0,x3.code.elements,x3.code.limits,x3.code.repeats,x3.code.bonus,x3.code.keeps,x3.code.fall,x3.performance.items,x3.performance.marks.grades,x3.performance.marks.components,x3.performance.slips.falls,x3.performance.slips.seconds,x3.performance.slips.other,x3.factor,x3.results,[]) ⟨Nat.zero_le _,hH⟩ ?_ ?_
 refine Le.trans (Le.void 8 12 1 rfl rfl) ?_
 exact Le.ct 0 0
 rintro⟨k5,v34,v35,v36,v37,v38,v39,v40,v41,v42,v43,v44,v45,v46,v47,v48⟩ ⟨hk,hH⟩
 try dsimp only at hH⊢
 refine AW.boundR (id:=1) (l:=x1.1) rfl (fun hb9=>?_)
 rcases hd8:x1.1.drop k5 with _|⟨y6,ys7⟩
 rw[hd8,qBS]at hH
 have hlt10:=qAF hd8
 iterate 16 refine gs ?_
 have hR:=zS hH;subst hR
 exact retQ.i [2,3,4,12] rfl (.t (zG (.pb rfl (zC (.rowR rfl) (zC (.rowR rfl) (zC .v (zC .v (zC .v (zC .v (zC .s (zC .s (zC .s (zC .v (zC .v (zC .v (zC .v (zC .s (zCn)))))))))))))))) (zG (.c (.rowR rfl)) (zG (.c .v) (zGn)))))
 rw[hd8,qBS]at hH
 have hlt10:=qAG hd8
 iterate 12 refine gs ?_
 refine AO.w (zLr T rfl rfl rfl rfl (zgG (zgD hd8)) rfl rfl rfl) ?_
 refine gs2 ?_
 obtain⟨x50,hx51,u52,hx53,hH⟩:=qAH hH
 refine gs4 ?_
 refine AO.x (qAc (qH5 x50.1 13 14) [(14,ro 1 ze0 x50.1.code.limits),(13,ro 4 ze5 x50.1.code.elements)] 15 (by kernel_rfl) rfl 13 rfl rfl rfl rfl (es:=[.pn (qHm (ScriptState.mk (Code.mk v34 v35 v36 v37 v38 v39) (Performance.mk v40 (Marks.mk v41 v42) (Slips.mk v43 v44 v45)) v46 v47)),.v (.string y6)]) (us:=[.u]) (cs:=qHm x50.1) (ids:=[2,3,4]) (by exact zG (.pb rfl (zC (.rowR rfl) (zC (.rowR rfl) (zC .v (zC .v (zC .v (zC .v (zC .s (zC .s (zC .s (zC .v (zC .v (zC .v (zC .v (zC .s (zCn)))))))))))))))) (zG (.c .v) (zGn))) (by decide) (by decide) (qJy fl _ _ _ (hx51)) rfl rfl (by rfl) rfl) ?_
 refine AO.x (mks T 15 ze2 ([x50.2])) ?_
 refine AO.x (rvs T 16 (hfit:=by exact qAQ (hx53))) ?_
 refine gs6 ?_
 refine⟨(k5+1,x50.1.code.elements,x50.1.code.limits,x50.1.code.repeats,x50.1.code.bonus,x50.1.code.keeps,x50.1.code.fall,x50.1.performance.items,x50.1.performance.marks.grades,x50.1.performance.marks.components,x50.1.performance.slips.falls,x50.1.performance.slips.seconds,x50.1.performance.slips.other,x50.1.factor,x50.1.results,(v48++[x50.2])),⟨hlt10,(zds hd8▸hH)⟩,qBz hlt10,?_⟩
 refine Le.trans (Le.ct 16 12 (σ':=(⟨[(7,.p 2 0),(8,.R 12),(20,.R 1),(21,(x1.1.length:Int)),(22,((k5+1:Nat):Int))],[(1,ro 1 ze2 x1.1),(2,.box (qH5 x50.1 13 14)),(12,ro 1 ze2 (v48++[x50.2])),(13,ro 4 ze5 x50.1.code.elements),(14,ro 1 ze0 x50.1.code.limits)],35,[]⟩:St))) ?_
 refine Le.trans (Le.ct 13 3 (σ':=(⟨[(7,.p 2 0),(8,.R 12),(20,.R 1),(21,(x1.1.length:Int)),(22,((k5+1:Nat):Int))],[(1,ro 1 ze2 x1.1),(2,.box (qH5 x50.1 3 14)),(3,ro 4 ze5 x50.1.code.elements),(12,ro 1 ze2 (v48++[x50.2])),(14,ro 1 ze0 x50.1.code.limits)],35,[]⟩:St))) ?_
 exact Le.ct 14 4
def qIC (fl:Nat) (script:ByteArray):Option (Code×Bool) :=
 (qFU fl script).bind fun x1 =>
 (match x1.1 with
  |none =>
   cond (!x1.2.2)
    (some ((Code.mk [] [] 0 0 0 0),false))
    (none)
  |some p0_0 =>
   cond (!x1.2.2)
    (some ((Code.mk [] [] 0 0 0 0),false))
    (some (p0_0.code,true)))
theorem qJl (fl:Nat) (script:ByteArray) (r:(Code×Bool)) (hH:qIC fl script=some r):qAC prog 25 [.v (.string script)] (.t [.g (qHx r.1),.v (.bool r.2)]):=by
 refine fns T func25 ?_
 refine go ?_
 refine AO.x (als T 1) (go ?_)
 obtain⟨x1,hx2,hH⟩:=zB hH
 rcases hq0_0:x1.1 with _|p0_0
 rw[hq0_0]at hH
 try dsimp only at hH
 refine go ?_
 refine AO.x (qAU rfl 2 rfl rfl rfl ((by have q:=qJm fl _ _ (hx2);rw[hq0_0]at q;exact q)) rfl rfl rfl) (go ?_)
 refine AW.cH hH (fun _ hH=>?_) (fun hc hH=>?_)
 refine go ?_
 refine AO.se T [.w 0 [],.w 0 [],(0:Int),(0:Int),(0:Int),(0:Int)] ?_
 refine go ?_
 exact fin
 refine go ?_
 cases hH
 rw[hq0_0]at hH
 try dsimp only at hH
 refine go ?_
 refine AO.x (qAU rfl 2 rfl rfl rfl ((by have q:=qJm fl _ _ (hx2);rw[hq0_0]at q;exact q)) rfl rfl rfl) (go ?_)
 refine AW.cH hH (fun _ hH=>?_) (fun _ hH=>?_)
 refine go ?_
 refine AO.se T [.w 0 [],.w 0 [],(0:Int),(0:Int),(0:Int),(0:Int)] ?_
 refine go ?_
 exact fin
 refine go ?_
 refine AO.se T [.R 3,.R 4,p0_0.code.repeats,p0_0.code.bonus,p0_0.code.keeps,p0_0.code.fall] ?_
 refine go ?_
 exact fin
def qGn (a:Element) (b:Element):Option Bool :=
 cond (!decide (a.name=b.name))
  (some false)
  (cond (a.family != b.family)
   (some false)
   (cond (a.level != b.level)
    (some false)
    (cond (a.base != b.base)
     (some false)
     (some true))))
theorem qNX (a:Element) (b:Element) (r:Bool) (hH:qGn a b=some r):qAC prog 78 [.g (ze5 a),.g (ze5 b)] (.v (.bool r)):=by
 refine fns T func78 ?_
 refine go ?_
 refine AO.x (bxs T 1) ?_
 refine AO.x (bxs T 2) (go ?_)
 refine AW.cH hH (fun _ hH=>?_) (fun hc hH=>?_)
 refine go ?_
 exact fin
 refine go ?_
 refine AW.cH hH (fun _ hH=>?_) (fun hc hH=>?_)
 refine go ?_
 exact fin
 refine go ?_
 refine AW.cH hH (fun _ hH=>?_) (fun hc hH=>?_)
 refine go ?_
 exact fin
 refine go ?_
 refine AW.cH hH (fun _ hH=>?_) (fun _ hH=>?_)
 refine gs4 ?_
 refine AW.le (Le.ct 0 0 (σ':=(⟨[(4,.v (.bool false))],[],25,[]⟩:St))) ?_
 refine AW.t ?_
 exact fin
 refine gs5 ?_
 refine AW.le (Le.ct 0 0 (σ':=(⟨[(4,.v (.bool true))],[],25,[]⟩:St))) ?_
 refine AW.t ?_
 exact fin
def qBt (b:List Element):List Element→Nat→Option Bool
 | [],k1 =>
  some true
 |y2::ys3,k1 =>
  (qAT b (k1:Int)).bind fun x16 =>
  (qGn y2 x16).bind fun x18 =>
  cond (!x18)
   (some false)
   (qBt b ys3 (k1+1))
def qF8 (a:List Element) (b:List Element):Option Bool :=
 cond ((a.length:Int) != (b.length:Int))
  (some false)
  (qBt b a 0)
theorem qMg (a:List Element) (b:List Element) (r:Bool) (hH:qF8 a b=some r):qAC prog 52 [.s (List.map ze5 a),.s (List.map ze5 b)] (.v (.bool r)):=by
 refine fns T func52 ?_
 refine go ?_
 refine AW.cH hH (fun _ hH=>?_) (fun hc hH=>?_)
 refine go ?_
 exact fin
 refine go ?_
 refine AW.loopS (fun s:Nat=>(⟨[(0,sv ze5 a),(1,sv ze5 b),(5,(s:Int))],[],27,[]⟩:St)) (fun s=>s≤a.length∧qBt b (a.drop s) s=some r) (fun s=>a.length-s) 0 ⟨Nat.zero_le _,hH⟩ ?_ ?_
 exact Le.ct 0 0
 rintro k1 ⟨hk,hH⟩
 try dsimp only at hH⊢
 refine AW.boundM (t:=0) (l:=a) rfl (fun hb5=>?_)
 rcases hd4:a.drop k1 with _|⟨y2,ys3⟩
 rw[hd4,qBt]at hH
 have hlt6:=qAF hd4
 refine go ?_
 exact fin
 rw[hd4,qBt]at hH
 have hlt6:=qAG hd4
 refine go ?_
 obtain⟨x16,hx17,x18,hx19,hH⟩:=qAH hH
 refine AW.drawn 8 1 [] mix (by kernel_rfl) rfl ?_
 refine go ?_
 refine AO.w (cVs (qNX _ _ _ (hx19))) (go ?_)
 refine AW.cH hH (fun _ hH=>?_) (fun _ hH=>?_)
 refine go ?_
 exact fin
 refine go ?_
 refine⟨k1+1,⟨hlt6,(zds hd4▸hH)⟩,qBz hlt6,?_⟩
 exact Le.ct 0 0
def qDz (b:List Int):List Int→Nat→Option Bool
 | [],k1 =>
  some true
 |y2::ys3,k1 =>
  (qAT b (k1:Int)).bind fun x12 =>
  cond (y2 != x12)
   (some false)
   (qDz b ys3 (k1+1))
def qIY (a:List Int) (b:List Int):Option Bool :=
 cond ((a.length:Int) != (b.length:Int))
  (some false)
  (qDz b a 0)
theorem qPW (a:List Int) (b:List Int) (r:Bool) (hH:qIY a b=some r):qAC prog 16 [.s (List.map ze0 a),.s (List.map ze0 b)] (.v (.bool r)):=by
 refine fns T func16 ?_
 refine go ?_
 refine AW.cH hH (fun _ hH=>?_) (fun hc hH=>?_)
 refine go ?_
 exact fin
 refine go ?_
 refine AW.loopS (fun s:Nat=>(⟨[(0,sv ze0 a),(1,sv ze0 b),(5,(s:Int))],[],26,[]⟩:St)) (fun s=>s≤a.length∧qDz b (a.drop s) s=some r) (fun s=>a.length-s) 0 ⟨Nat.zero_le _,hH⟩ ?_ ?_
 exact Le.ct 0 0
 rintro k1 ⟨hk,hH⟩
 try dsimp only at hH⊢
 refine AW.boundM (t:=0) (l:=a) rfl (fun hb5=>?_)
 rcases hd4:a.drop k1 with _|⟨y2,ys3⟩
 rw[hd4,qDz]at hH
 have hlt6:=qAF hd4
 refine go ?_
 exact fin
 rw[hd4,qDz]at hH
 have hlt6:=qAG hd4
 refine go ?_
 obtain⟨x12,hx13,hH⟩:=zB hH
 refine AW.drawn 8 1 [] mix (by kernel_rfl) rfl ?_
 refine go ?_
 refine AW.cH hH (fun _ hH=>?_) (fun _ hH=>?_)
 refine go ?_
 exact fin
 refine go ?_
 refine⟨k1+1,⟨hlt6,(zds hd4▸hH)⟩,qBz hlt6,?_⟩
 exact Le.ct 0 0
def qHC (a:Code) (b:Code):Option Bool :=
 (qF8 a.elements b.elements).bind fun x1 =>
 cond (!x1)
  (some false)
  ((qIY a.limits b.limits).bind fun x3 =>
  cond (!x3)
   (some false)
   (cond (a.repeats != b.repeats)
    (some false)
    (cond (a.bonus != b.bonus)
     (some false)
     (cond (a.keeps != b.keeps)
      (some false)
      (cond (a.fall != b.fall)
       (some false)
       (some true))))))
theorem qLy (a:Code) (b:Code) (r:Bool) (hH:qHC a b=some r):qAC prog 26 [.g (ze4 a),.g (ze4 b)] (.v (.bool r)):=by
 refine fns T func26 ?_
 refine go ?_
 refine AO.x (bxs T 1) ?_
 refine AO.x (bxs T 2) (go ?_)
 obtain⟨x1,hx2,hH⟩:=zB hH
 refine go ?_
 refine AO.w (cVs (qMg _ _ _ (hx2))) (go ?_)
 refine AW.cH hH (fun _ hH=>?_) (fun hc hH=>?_)
 refine go ?_
 exact fin
 refine go ?_
 obtain⟨x3,hx4,hH⟩:=zB hH
 refine go ?_
 refine AO.w (cVs (qPW _ _ _ (hx4))) (go ?_)
 refine AW.cH hH (fun _ hH=>?_) (fun hc hH=>?_)
 refine go ?_
 exact fin
 refine go ?_
 refine AW.cH hH (fun _ hH=>?_) (fun hc hH=>?_)
 refine go ?_
 exact fin
 iterate 10 refine gs ?_
 refine AW.le (Le.ct 0 0 (σ':=(⟨[(2,.p 1 0),(3,.p 2 0),(26,.v (.bool (a.bonus != b.bonus)))],[(1,.box (ze4 a)),(2,.box (ze4 b))],37,[]⟩:St))) ?_
 refine AW.cH hH (fun _ hH=>?_) (fun hc hH=>?_)
 refine go ?_
 exact fin
 refine go ?_
 refine AW.cH hH (fun _ hH=>?_) (fun hc hH=>?_)
 refine go ?_
 exact fin
 refine go ?_
 refine AW.cH hH (fun _ hH=>?_) (fun _ hH=>?_)
 refine go ?_
 exact fin
 refine go ?_
 exact fin
def qDh:Nat→Int→ByteArray→Option ByteArray
 |0,_,_=>none
 |k21+1,v32,v33 =>
  cond (decide (v32>0))
   ((qAr (10 != 0)).bind fun u35 =>
   (qAr (Nat.ble ((strOfNums [IntKind.wrap .u8 (w64 (48+(v32.tmod 10)))]).size+v33.size) qDp)).bind fun u37 =>
   qDh k21 (w64 (v32.tdiv 10)) ((strOfNums [IntKind.wrap .u8 (w64 (48+(v32.tmod 10)))])++v33))
   (some v33)
def qFp (fl:Nat) (k:Int):Option ByteArray :=
 cond (decide (k≤0))
  (some (⟨#[109,48]⟩:ByteArray))
  ((qDh fl k (⟨#[]⟩:ByteArray)).bind fun v18 =>
  (qAr (Nat.ble ((⟨#[109]⟩:ByteArray).size+v18.size) qDp)).bind fun u39 =>
  some ((⟨#[109]⟩:ByteArray)++v18))
theorem qKO (fl:Nat) (k:Int) (r:ByteArray) (hH:qFp fl k=some r):qAC prog 79 [k] (.v (.string r)):=by
 refine fns T func79 ?_
 iterate 10 refine gs ?_
 refine AW.cH hH (fun _ hH=>?_) (fun hc hH=>?_)
 refine gs5 ?_
 exact fin
 refine gs5 ?_
 obtain⟨o19,hH,hK20⟩:=zB hH
 refine AW.seqJ (fun s:ByteArray=>(⟨[(3,.v (.string s))],[],20,[]⟩:St)) (fun s=>s=o19) ?_ ?_
 refine AW.b (AW.loopS (fun s:Nat×Int×ByteArray=>(⟨[(0,s.2.1),(3,.v (.string s.2.2))],[],20,[]⟩:St)) (fun s=>qDh s.1 s.2.1 s.2.2=some o19) (fun s=>s.1) (fl,k,(⟨#[]⟩:ByteArray)) hH ?_ ?_)
 exact Le.ct 0 0
 rintro⟨k21,v32,v33⟩ hH
 try dsimp only at hH⊢
 rcases k21 with _|k21
 cases (show none=some _ from hH)
 rw[qDh]at hH
 refine gs6 ?_
 refine AW.cH hH (fun _ hH=>?_) (fun _ hH=>?_)
 refine gs3 ?_
 obtain⟨u35,hx36,u37,hx38,hH⟩:=qAH hH
 refine gs2 ?_
 refine AO.w (qQE rfl rfl rfl (neZ (qAQ (hx36)))) ?_
 refine AO.w aws ?_
 refine AO.w (qMX T rfl rfl rfl rfl) ?_
 refine AO.x (mks T 6 qOw ([IntKind.wrap .u8 (w64 (48+(v32.tmod 10)))])) ?_
 refine AO.w (qJ1 T rfl rfl rfl rfl rfl rfl (fun _=>rfl) rfl) ?_
 refine AO.pu T ?_
 refine AO.w (qBd rfl rfl rfl (Nat.le_of_ble_eq_true (qAQ (hx38)))) ?_
 refine gs4 ?_
 refine AO.w (qGu rfl rfl rfl (neZ (qAQ (hx36)))) ?_
 refine gs2 ?_
 refine⟨(k21,w64 (v32.tdiv 10),((strOfNums [IntKind.wrap .u8 (w64 (48+(v32.tmod 10)))])++v33)),hH,Nat.lt_succ_self _,?_⟩
 exact Le.ct 0 0
 refine AW.exit ?_
 refine⟨_,zS hH,?_⟩
 exact Le.ct 0 0
 rintro v18 hs
 subst hs
 replace hH:=hK20
 try dsimp only[qK9,qJO]at hH
 try dsimp only
 refine AW.q ?_
 obtain⟨u39,hx40,hH⟩:=zB hH
 refine gs2 ?_
 refine AO.w (qBd rfl rfl rfl (Nat.le_of_ble_eq_true (qAQ (hx40)))) ?_
 refine gs3 ?_
 exact fin
def qBW (fl:Nat):Nat→List Element→Int→Int→Option (((List Element)×Int))
 |0,_,_,_=>none
 |k1+1,v25,v26,v27 =>
  cond (decide (v27<(v25.length:Int)))
   ((qFp fl v26).bind fun x29 =>
   (qAT v25 v27).bind fun x31 =>
   (qAT (v25.set v27.toNat (Element.mk x29 x31.family x31.level x31.base)) v27).bind fun x33 =>
   (qAT ((v25.set v27.toNat (Element.mk x29 x31.family x31.level x31.base)).set v27.toNat (Element.mk x33.name (w64 (v26+1)) x33.level x33.base)) v27).bind fun x35 =>
   (qAT (((v25.set v27.toNat (Element.mk x29 x31.family x31.level x31.base)).set v27.toNat (Element.mk x33.name (w64 (v26+1)) x33.level x33.base)).set v27.toNat (Element.mk x35.name x35.family (w64 ((w64 (v26+1))+1)) x35.base)) v27).bind fun x37 =>
   qBW fl k1 ((((v25.set v27.toNat (Element.mk x29 x31.family x31.level x31.base)).set v27.toNat (Element.mk x33.name (w64 (v26+1)) x33.level x33.base)).set v27.toNat (Element.mk x35.name x35.family (w64 ((w64 (v26+1))+1)) x35.base)).set v27.toNat (Element.mk x37.name x37.family x37.level (w64 ((w64 ((w64 (v26+1))+1))+1)))) (w64 ((w64 ((w64 ((w64 (v26+1))+1))+1))+1)) (w64 (v27+1)))
   (some (v25,v26))
def qGv (fl:Nat) (a:List Element) (k:Int):Option ((List Element)×Int) :=
 qBW fl fl a k 0
theorem qLf (fl:Nat) (a:List Element) (k:Int) (r:((List Element)×Int)) (hH:qGv fl a k=some r):qFk prog 53 [.w 4 (a.map ze5),k] [.w 4 (r.1.map ze5),.u] (.v (.int .i64 r.2)):=by
 refine qR5 T func53 rfl (by decide) rfl rfl ?_
 intro L
 show AW _ _ _ (⟨[(0,.R 1),(1,k)],[(1,ro 4 ze5 a)],42,[(1,L 1)]⟩:St)
 refine go ?_
 refine AW.loopS (fun s:Nat×(List Element)×Int×Int=>(⟨[(0,.R 1),(1,s.2.2.1),(5,s.2.2.2)],[(1,ro 4 ze5 s.2.1)],42,[(1,L 1)]⟩:St)) (fun s=>qBW fl s.1 s.2.1 s.2.2.1 s.2.2.2=some r) (fun s=>s.1) (fl,a,k,0) hH ?_ ?_
 exact Le.ct 0 0 (hpin:=⟨⟨rfl,rfl⟩,trivial⟩)
 rintro⟨k1,v25,v26,v27⟩ hH
 try dsimp only at hH⊢
 rcases k1 with _|k1
 cases (show none=some _ from hH)
 rw[qBW]at hH
 refine go ?_
 refine AW.cH hH (fun _ hH=>?_) (fun _ hH=>?_)
 refine go ?_
 obtain⟨x29,hx30,x31,hx32,hH⟩:=qAH hH
 refine go ?_
 refine AO.w (cVs (qKO fl _ _ (hx30))) (go ?_)
 refine AO.x (zSr T rfl rfl rfl rfl rfl (zgG (hx32)) rfl rfl rfl rfl (u':=(Element.mk x29 x31.family x31.level x31.base)) rfl rfl) (go ?_)
 obtain⟨x33,hx34,hH⟩:=zB hH
 refine go ?_
 refine AO.x (zSr T rfl rfl rfl rfl rfl (zgG (hx34)) rfl rfl rfl rfl (u':=(Element.mk x33.name (w64 (v26+1)) x33.level x33.base)) rfl rfl) (go ?_)
 obtain⟨x35,hx36,hH⟩:=zB hH
 refine go ?_
 refine AO.x (zSr T rfl rfl rfl rfl rfl (zgG (hx36)) rfl rfl rfl rfl (u':=(Element.mk x35.name x35.family (w64 ((w64 (v26+1))+1)) x35.base)) rfl rfl) ?_
 refine AO.n (AW.le (Le.ct 0 0 (σ':=(⟨[(0,.R 1),(1,w64 ((w64 (v26+1))+1)),(5,v27)],[(1,ro 4 ze5 (((v25.set v27.toNat (Element.mk x29 x31.family x31.level x31.base)).set v27.toNat (Element.mk x33.name (w64 (v26+1)) x33.level x33.base)).set v27.toNat (Element.mk x35.name x35.family (w64 ((w64 (v26+1))+1)) x35.base)))],42,[(1,L 1)]⟩:St)) (hpin:=⟨⟨rfl,rfl⟩,trivial⟩)) ?_)
 refine go ?_
 obtain⟨x37,hx38,hH⟩:=zB hH
 refine go ?_
 refine AO.x (zSr T rfl rfl rfl rfl rfl (zgG (hx38)) rfl rfl rfl rfl (u':=(Element.mk x37.name x37.family x37.level (w64 ((w64 ((w64 (v26+1))+1))+1)))) rfl rfl) (go ?_)
 refine⟨(k1,((((v25.set v27.toNat (Element.mk x29 x31.family x31.level x31.base)).set v27.toNat (Element.mk x33.name (w64 (v26+1)) x33.level x33.base)).set v27.toNat (Element.mk x35.name x35.family (w64 ((w64 (v26+1))+1)) x35.base)).set v27.toNat (Element.mk x37.name x37.family x37.level (w64 ((w64 ((w64 (v26+1))+1))+1)))),w64 ((w64 ((w64 ((w64 (v26+1))+1))+1))+1),w64 (v27+1)),hH,Nat.lt_succ_self _,?_⟩
 exact Le.ct 0 0 (hpin:=⟨⟨rfl,rfl⟩,trivial⟩)
 refine go ?_
 exact qET
def qCk:Nat→List Int→Int→Int→Option (((List Int)×Int))
 |0,_,_,_=>none
 |k1+1,v9,v10,v11 =>
  cond (decide (v11<(v9.length:Int)))
   ((qAT v9 v11).bind fun x13 =>
   qCk k1 (v9.set v11.toNat v10) (w64 (v10+1)) (w64 (v11+1)))
   (some (v9,v10))
def qI1 (fl:Nat) (a:List Int) (k:Int):Option ((List Int)×Int) :=
 qCk fl a k 0
theorem qN1 (fl:Nat) (a:List Int) (k:Int) (r:((List Int)×Int)) (hH:qI1 fl a k=some r):qFk prog 17 [.w 1 (a.map ze0),k] [.w 1 (r.1.map ze0),.u] (.v (.int .i64 r.2)):=by
 refine qR5 T func17 rfl (by decide) rfl rfl ?_
 intro L
 show AW _ _ _ (⟨[(0,.R 1),(1,k)],[(1,.row 1 (List.map ze0 a))],19,[(1,L 1)]⟩:St)
 refine AW.q (AW.r (AO.pu T ?_))
 refine AO.n (AW.q (AW.q ?_))
 refine AW.r (AO.pu T ?_)
 refine AO.n (AW.b ?_)
 refine AW.loopS (fun s:Nat×(List Int)×Int×Int=>(⟨[(0,.R 1),(1,s.2.2.1),(5,s.2.2.2)],[(1,.row 1 (List.map ze0 s.2.1))],19,[(1,L 1)]⟩:St)) (fun s=>qCk s.1 s.2.1 s.2.2.1 s.2.2.2=some r) (fun s=>s.1) (fl,a,k,0) hH ?_ ?_
 exact Le.ct 0 0 (hpin:=⟨⟨rfl,rfl⟩,trivial⟩)
 rintro⟨k1,v9,v10,v11⟩ hH
 replace hH:qCk k1 v9 v10 v11=some r:=hH
 try dsimp only
 rcases k1 with _|k1
 cases (show none=some _ from hH)
 rw[qCk]at hH
 refine AW.q (AW.q (AW.r ?_))
 refine AO.p2 T ?_
 refine AO.w (qW7 T) ?_
 refine AO.pu T ?_
 refine AO.n (AW.c (b:=decide (v11<(v9.length:Int))) rfl (fun hc=>?_) (fun hc=>?_))
 replace hH:=condT hc hH
 refine AW.k (AW.q ?_)
 refine AW.b (AW.q ?_)
 obtain⟨x13,hx14,hH⟩:=zB hH
 refine AW.r ?_
 iterate 3 refine AO.pu T ?_
 refine AO.w (ixr T (hx14)) ?_
 refine AO.x (zSr T rfl rfl rfl rfl rfl (zgG (hx14)) rfl rfl rfl rfl (u':=v10) rfl rfl) ?_
 refine AO.n (AW.r ?_)
 refine AO.pu T ?_
 refine AO.w aws ?_
 refine AO.pu T ?_
 refine AO.n (AW.r ?_)
 refine AO.pu T ?_
 refine AO.w aws ?_
 refine AO.pu T ?_
 refine AO.n ?_
 refine⟨(k1,(v9.set v11.toNat v10),w64 (v10+1),w64 (v11+1)),hH,Nat.lt_succ_self _,?_⟩
 exact Le.ct 0 0 (hpin:=⟨⟨rfl,rfl⟩,trivial⟩)
 replace hH:=condF hc hH
 refine AW.exit (AW.q (AW.r ?_))
 refine AO.p2 T ?_
 refine AO.n (AW.t ?_)
 have hR:=zS hH;subst hR
 exact⟨trivial,rfl,_,[],[1],rfl,zG (.c (.rowR rfl)) (zG (.c .u) (zGn)),.c (.c .v),by decide⟩
def qE3 (fl:Nat) (a:Code) (k:Int):Option (Code×Int) :=
 (qGv fl a.elements k).bind fun x1 =>
 (qI1 fl a.limits x1.2).bind fun x3 =>
 some ((Code.mk x1.1 x3.1 a.repeats a.bonus a.keeps a.fall),x3.2)
theorem qNt (fl:Nat) (a:Code) (k:Int) (r:(Code×Int)) (hH:qE3 fl a k=some r):qFk prog 27 [.g (qHx a),k] [.g [.w 4 (r.1.elements.map ze5),.w 1 (r.1.limits.map ze0),.u,.u,.u,.u],.u] (.v (.int .i64 r.2)):=by
 refine qR5 T func27 rfl (by decide) rfl rfl ?_
 intro L
 show AW _ _ _ (⟨[(0,.g [.R 1,.R 2,a.repeats,a.bonus,a.keeps,a.fall]),(1,k)],[(2,.row 1 (List.map ze0 a.limits)),(1,.row 4 (List.map ze5 a.elements))],14,[(2,L 2),(1,L 1)]⟩:St)
 refine AW.q (AW.r (AO.x (bxs T 3) ?_))
 refine AO.pu T ?_
 refine AO.n (AW.q ?_)
 obtain⟨x1,hx2,hH⟩:=zB hH
 refine AW.r ?_
 iterate 3 refine AO.pu T ?_
 refine AO.x (cMs 4 [1] (S:=qLf fl _ _ _ (hx2)) (hp:=by exact zG (.c (.rowR rfl)) (zG (.c .v) (zGn)))) ?_
 refine AO.pu T ?_
 refine AO.n (AW.q ?_)
 obtain⟨x3,hx4,hH⟩:=zB hH
 refine AW.r ?_
 iterate 3 refine AO.pu T ?_
 refine AO.x (cMs 4 [2] (S:=qN1 fl _ _ _ (hx4)) (hp:=by exact zG (.c (.rowR rfl)) (zG (.c .v) (zGn)))) ?_
 refine AO.pu T ?_
 refine AO.n (AW.q (AW.r ?_))
 refine AO.p2 T ?_
 refine AO.n (AW.t ?_)
 have hR:=zS hH;subst hR
 exact⟨trivial,rfl,_,[],[1,2],rfl,zG (.g (zC (.rowR rfl) (zC (.rowR rfl) (zC .u (zC .u (zC .u (zC .u (zCn)))))))) (zG (.c .u) (zGn)),.c (.c .v),by decide⟩
def qBU (fl:Nat):List Element→Nat→Int→Option Int
 | [],k1,v12 =>
  some v12
 |y2::ys3,k1,v12 =>
  (qFp fl v12).bind fun x14 =>
  cond (!decide (y2.name=x14))
   (some (-1))
   (cond (y2.family != (w64 (v12+1)))
    (some (-1))
    (cond (y2.level != (w64 ((w64 (v12+1))+1)))
     (some (-1))
     (cond (y2.base != (w64 ((w64 ((w64 (v12+1))+1))+1)))
      (some (-1))
      (qBU fl ys3 (k1+1) (w64 ((w64 ((w64 ((w64 (v12+1))+1))+1))+1))))))
def qGq (fl:Nat) (a:List Element) (k:Int):Option Int :=
 qBU fl a 0 k
theorem qLc (fl:Nat) (a:List Element) (k:Int) (r:Int) (hH:qGq fl a k=some r):qAC prog 54 [.s (List.map ze5 a),k] (.v (.int .i64 r)):=by
 refine fns T func54 ?_
 refine go ?_
 refine AW.loopS (fun s:Nat×Int=>(⟨[(0,sv ze5 a),(1,s.2),(5,(s.1:Int))],[],50,[]⟩:St)) (fun s=>s.1≤a.length∧qBU fl (a.drop s.1) s.1 s.2=some r) (fun s=>a.length-s.1) (0,k) ⟨Nat.zero_le _,hH⟩ ?_ ?_
 exact Le.ct 0 0
 rintro⟨k1,v12⟩ ⟨hk,hH⟩
 try dsimp only at hH⊢
 refine AW.boundM (t:=0) (l:=a) rfl (fun hb5=>?_)
 rcases hd4:a.drop k1 with _|⟨y2,ys3⟩
 rw[hd4,qBU]at hH
 have hlt6:=qAF hd4
 refine go ?_
 exact fin
 rw[hd4,qBU]at hH
 have hlt6:=qAG hd4
 refine go ?_
 obtain⟨x14,hx15,hH⟩:=zB hH
 refine AW.drawn 7 1 [] mix (by kernel_rfl) rfl ?_
 refine go ?_
 refine AD.vv (cVs (qKO fl _ _ (hx15))) ?_
 refine go ?_
 refine AW.cH hH (fun _ hH=>?_) (fun hc hH=>?_)
 refine go ?_
 exact fin
 refine go ?_
 refine AW.cH hH (fun _ hH=>?_) (fun hc hH=>?_)
 refine go ?_
 exact fin
 refine gs7 ?_
 refine AW.le (Le.ct 0 0 (σ':=(⟨[(0,sv ze5 a),(1,w64 ((w64 (v12+1))+1)),(5,(k1:Int))],[],50,[]⟩:St))) ?_
 refine go ?_
 refine AW.cH hH (fun _ hH=>?_) (fun hc hH=>?_)
 refine go ?_
 exact fin
 refine go ?_
 refine AW.cH hH (fun _ hH=>?_) (fun _ hH=>?_)
 refine go ?_
 exact fin
 refine go ?_
 refine⟨(k1+1,w64 ((w64 ((w64 ((w64 (v12+1))+1))+1))+1)),⟨hlt6,(zds hd4▸hH)⟩,qBz hlt6,?_⟩
 exact Le.ct 0 0
def qCj:List Int→Nat→Int→Option Int
 | [],k1,v8 =>
  some v8
 |y2::ys3,k1,v8 =>
  cond (y2 != v8)
   (some (-1))
   (qCj ys3 (k1+1) (w64 (v8+1)))
def qIp (a:List Int) (k:Int):Option Int :=
 qCj a 0 k
theorem qN3 (a:List Int) (k:Int) (r:Int) (hH:qIp a k=some r):qAC prog 18 [.s (List.map ze0 a),k] (.v (.int .i64 r)):=by
 refine fns T func18 ?_
 refine go ?_
 refine AW.loopS (fun s:Nat×Int=>(⟨[(0,sv ze0 a),(1,s.2),(5,(s.1:Int))],[],21,[]⟩:St)) (fun s=>s.1≤a.length∧qCj (a.drop s.1) s.1 s.2=some r) (fun s=>a.length-s.1) (0,k) ⟨Nat.zero_le _,hH⟩ ?_ ?_
 exact Le.ct 0 0
 rintro⟨k1,v8⟩ ⟨hk,hH⟩
 try dsimp only at hH⊢
 refine AW.boundM (t:=0) (l:=a) rfl (fun hb5=>?_)
 rcases hd4:a.drop k1 with _|⟨y2,ys3⟩
 rw[hd4,qCj]at hH
 have hlt6:=qAF hd4
 refine go ?_
 exact fin
 rw[hd4,qCj]at hH
 have hlt6:=qAG hd4
 refine go ?_
 refine AW.cH hH (fun _ hH=>?_) (fun _ hH=>?_)
 refine go ?_
 exact fin
 refine go ?_
 refine⟨(k1+1,w64 (v8+1)),⟨hlt6,(zds hd4▸hH)⟩,qBz hlt6,?_⟩
 exact Le.ct 0 0
def qF0 (fl:Nat) (a:Code) (k:Int):Option Int :=
 (qGq fl a.elements k).bind fun x1 =>
 cond (decide (x1<0))
  (some (-1))
  ((qIp a.limits x1).bind fun x3 =>
  cond (decide (x3<0))
   (some (-1))
   (some x3))
theorem qKP (fl:Nat) (a:Code) (k:Int) (r:Int) (hH:qF0 fl a k=some r):qAC prog 28 [.g (ze4 a),k] (.v (.int .i64 r)):=by
 refine fns T func28 ?_
 refine go ?_
 refine AO.x (bxs T 1) (go ?_)
 obtain⟨x1,hx2,hH⟩:=zB hH
 refine go ?_
 refine AO.w (cVs (qLc fl _ _ _ (hx2))) (go ?_)
 refine AW.cH hH (fun _ hH=>?_) (fun hc hH=>?_)
 refine go ?_
 exact fin
 refine go ?_
 obtain⟨x3,hx4,hH⟩:=zB hH
 refine go ?_
 refine AO.w (cVs (qN3 _ _ _ (hx4))) (go ?_)
 refine AW.cH hH (fun _ hH=>?_) (fun _ hH=>?_)
 refine go ?_
 exact fin
 refine go ?_
 exact fin
def qDk (fl:Nat) (aScript:ByteArray):Option Bool :=
 cond (decide ((aScript.size:Int)>1048576))
  (some true)
  ((qH8 fl aScript).bind fun x1 =>
  (qIC fl aScript).bind fun x3 =>
  (qHC x3.1 x1.1).bind fun x5 =>
  cond ((!x5)||(!(x3.2==x1.2)))
   (some false)
   ((qE3 fl x3.1 1).bind fun x7 =>
   (qF0 fl (Code.mk x7.1.elements x7.1.limits x3.1.repeats x3.1.bonus x3.1.keeps x3.1.fall) 1).bind fun x9 =>
   cond (decide (x9<0))
    (some false)
    (cond (x9 != x7.2)
     (some false)
     (cond ((!x5)||(!(x3.2==x1.2)))
      (some false)
      (cond (decide (x9<0))
       (some false)
       (cond (x9 != x7.2)
        (some false)
        (some true)))))))
theorem qJq (fl:Nat) (aScript:ByteArray) (r:Bool) (hH:qDk fl aScript=some r):qAC prog 7 [.v (.string aScript)] (.v (.bool r)):=by
 refine fns T func7 ?_
 refine go ?_
 refine AW.cH hH (fun _ hH=>?_) (fun hc hH=>?_)
 refine go ?_
 exact fin
 refine go ?_
 obtain⟨x1,hx2,hH⟩:=zB hH
 refine go ?_
 refine AO.w (cVs (qNO fl _ _ (hx2))) (go ?_)
 refine AO.x (als T 1) ?_
 refine AO.se T [sv ze5 x1.1.elements,sv ze0 x1.1.limits,x1.1.repeats,x1.1.bonus,x1.1.keeps,x1.1.fall] ?_
 refine go ?_
 obtain⟨x3,hx4,hH⟩:=zB hH
 refine go ?_
 refine AO.x (qAU rfl 2 rfl rfl rfl (qJl fl _ _ (hx4)) rfl rfl rfl) (go ?_)
 refine AO.x (als T 4) ?_
 refine AO.se T [.R 2,.R 3,x3.1.repeats,x3.1.bonus,x3.1.keeps,x3.1.fall] ?_
 refine go ?_
 obtain⟨x5,hx6,hH⟩:=zB hH
 refine go ?_
 refine AO.w (zLV rfl rfl rfl (es:=[.g (ze4 x3.1),.g (ze4 x1.1)]) ⟨qDs (LendL.cons ((.rowR rfl (.map fun y=>.vs rfl))) (LendL.cons ((.rowR rfl (.map fun y=>.vs rfl))) (LendL.cons (.free rfl) (LendL.cons (.free rfl) (LendL.cons (.free rfl) (LendL.cons (.free rfl) LendL.nil)))))),.free rfl,trivial⟩ (qLy _ _ _ (hx6)) (qAJ _) rfl) (go ?_)
 refine AO.g0 T ?_
 refine AO.g0 T ?_
 refine AO.g2 T 29 30 ?_
 refine gs2 ?_
 refine AW.le (Le.ct 0 0 (σ':=(⟨[(0,.v (.string aScript)),(3,.p 1 0),(4,.v (.bool x1.2)),(5,.p 4 0),(32,.v (.bool ((!x5)||(!(x3.2==x1.2)))))],[(1,.box (ze4 x1.1)),(2,ro 4 ze5 x3.1.elements),(3,ro 1 ze0 x3.1.limits),(4,.box [.R 2,.R 3,x3.1.repeats,x3.1.bonus,x3.1.keeps,x3.1.fall])],66,[]⟩:St))) ?_
 refine AW.cH hH (fun _ hH=>?_) (fun hc hH=>?_)
 refine go ?_
 exact fin
 refine go ?_
 obtain⟨x7,hx8,hH⟩:=zB hH
 refine go ?_
 refine AO.x (cMs 5 [2,3] (S:=qNt fl _ _ _ (hx8)) (hp:=by exact zG (.g (zC (.rowR rfl) (zC (.rowR rfl) (zC .v (zC .v (zC .v (zC .v (zCn)))))))) (zG (.c .v) (zGn)))) (go ?_)
 obtain⟨x9,hx10,hH⟩:=zB hH
 refine go ?_
 refine AO.w (zLV rfl rfl rfl (es:=[.g (ze4 (Code.mk x7.1.elements x7.1.limits x3.1.repeats x3.1.bonus x3.1.keeps x3.1.fall)),(1:Int)]) ⟨qDs (LendL.cons ((.rowR rfl (.map fun y=>.vs rfl))) (LendL.cons ((.rowR rfl (.map fun y=>.vs rfl))) (LendL.cons (.free rfl) (LendL.cons (.free rfl) (LendL.cons (.free rfl) (LendL.cons (.free rfl) LendL.nil)))))),.free rfl,trivial⟩ (qKP fl _ _ _ (hx10)) (qAJ _) rfl) (go ?_)
 refine AW.cH hH (fun _ hH=>?_) (fun hc hH=>?_)
 refine go ?_
 exact fin
 refine go ?_
 refine AW.cH hH (fun _ hH=>?_) (fun hc hH=>?_)
 refine go ?_
 exact fin
 refine go ?_
 refine AO.x (qAU rfl 5 rfl rfl rfl (qJl fl _ _ (hx4)) rfl rfl rfl) (go ?_)
 refine AO.x (als T 7) ?_
 refine AO.se T [.R 5,.R 6,x3.1.repeats,x3.1.bonus,x3.1.keeps,x3.1.fall] ?_
 refine go ?_
 refine AO.w (zLV rfl rfl rfl (es:=[.g (ze4 x3.1),.g (ze4 x1.1)]) ⟨qDs (LendL.cons ((.rowR rfl (.map fun y=>.vs rfl))) (LendL.cons ((.rowR rfl (.map fun y=>.vs rfl))) (LendL.cons (.free rfl) (LendL.cons (.free rfl) (LendL.cons (.free rfl) (LendL.cons (.free rfl) LendL.nil)))))),.free rfl,trivial⟩ (qLy _ _ _ (hx6)) (qAJ _) rfl) (go ?_)
 refine AO.g0 T ?_
 refine AO.g0 T ?_
 refine AO.g2 T 54 55 ?_
 refine gs2 ?_
 refine AW.le (Le.ct 0 0 (σ':=(⟨[(5,.p 4 0),(7,x7.2),(57,.v (.bool ((!x5)||(!(x3.2==x1.2)))))],[(2,ro 4 ze5 x7.1.elements),(3,ro 1 ze0 x7.1.limits),(4,.box [.R 2,.R 3,x3.1.repeats,x3.1.bonus,x3.1.keeps,x3.1.fall])],66,[]⟩:St))) ?_
 refine AW.cH hH (fun _ hH=>?_) (fun hc hH=>?_)
 refine go ?_
 exact fin
 refine go ?_
 refine AO.w (zLV rfl rfl rfl (es:=[.g (ze4 (Code.mk x7.1.elements x7.1.limits x3.1.repeats x3.1.bonus x3.1.keeps x3.1.fall)),(1:Int)]) ⟨qDs (LendL.cons ((.rowR rfl (.map fun y=>.vs rfl))) (LendL.cons ((.rowR rfl (.map fun y=>.vs rfl))) (LendL.cons (.free rfl) (LendL.cons (.free rfl) (LendL.cons (.free rfl) (LendL.cons (.free rfl) LendL.nil)))))),.free rfl,trivial⟩ (qKP fl _ _ _ (hx10)) (qAJ _) rfl) (go ?_)
 refine AW.cH hH (fun _ hH=>?_) (fun hc hH=>?_)
 refine go ?_
 exact fin
 refine go ?_
 refine AW.cH hH (fun _ hH=>?_) (fun _ hH=>?_)
 refine go ?_
 exact fin
 refine go ?_
 exact fin
end Go.Proofs.YtkidpkmpnbibmaaGreatDoor

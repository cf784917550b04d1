/- The walk, part 4: what each function reached by the law FnExactScriptResults computes. No condition. -/
import Derived.Test.YtkidpkmpnbibmaaGreatDoorSrWalk3
set_option maxRecDepth 4000
set_option maxHeartbeats 1000000
set_option linter.unusedVariables false
set_option linter.unusedSimpArgs false
set_option linter.unusedSectionVars false
namespace Go.Proofs.YtkidpkmpnbibmaaGreatDoor
open Go.AM Tryz
def qBP (c:Code) (p:Performance) (factor:Int) (fl:Nat):List (List Int)→Nat→Int→List Int→Option ((Int×Int×Int×Bool))
 | [],k7,v35,v36 =>
  cond ((v36.length:Int)==0)
   (some (0,0,0,false))
   ((qAV v36 0).bind fun x38 =>
   (qAV v36 1).bind fun x40 =>
   (qAV v36 2).bind fun x42 =>
   some (x38,x40,x42,true))
 |y8::ys9,k7,v35,v36 =>
  (qAV y8 0).bind fun x44 =>
  (qAV y8 1).bind fun x46 =>
  (qAV y8 2).bind fun x48 =>
  (qEH p.items x44 x46 x48).bind fun x50 =>
  (qGm fl c p factor x50).bind fun x52 =>
  cond (decide (x52>v35))
   (qBP c p factor fl ys9 (k7+1) x52 y8)
   (qBP c p factor fl ys9 (k7+1) v35 v36)
def qEX (fl:Nat) (c:Code) (p:Performance) (factor:Int):Option (Int×Int×Int×Bool) :=
 (qEz fl c p factor).bind fun x1 =>
 cond (!x1)
  (some (0,0,0,false))
  ((qBQ fl c p factor).bind fun x3 =>
  (qHc fl p.items).bind fun x5 =>
  qBP c p factor fl x5 0 x3 [])
theorem qMA (fl:Nat) (c:Code) (p:Performance) (factor:Int) (r:(Int×Int×Int×Bool)) (hH:qEX fl c p factor=some r):qAC prog 182 [.g (ze4 c),.g (qHY p),factor] (.t [.v (.int .i64 r.1),.v (.int .i64 r.2.1),.v (.int .i64 r.2.2.1),.v (.bool r.2.2.2)]):=by
 refine fns T func182 ?_
 refine go ?_
 refine AO.x (bxs T 1) ?_
 refine AO.x (bxs T 2) (go ?_)
 obtain⟨x1,hx2,hH⟩:=zB hH
 refine go ?_
 refine AO.w (cVs (qH7 fl _ _ _ _ (hx2))) (go ?_)
 refine AW.cH hH (fun _ hH=>?_) (fun hc hH=>?_)
 refine go ?_
 exact fin
 refine go ?_
 obtain⟨x3,hx4,hH⟩:=zB hH
 refine go ?_
 refine AO.w (cVs (qDk fl _ _ _ _ (hx4))) ?_
 refine AO.x (qGG T rfl rfl rfl rfl) (go ?_)
 obtain⟨x5,hx6,hH⟩:=zB hH
 refine go ?_
 refine AO.x (qAU rfl 3 rfl rfl rfl (qMe fl _ _ (hx6)) rfl rfl rfl) (go ?_)
 refine AW.loopS (fun s:Nat×Int×(List Int)=>(⟨[(2,factor),(3,.p 1 0),(4,.p 2 0),(10,s.2.1),(11,sv ze0 s.2.2),(27,.R 3),(28,(x5.length:Int)),(29,(s.1:Int))],[(1,.box (ze4 c)),(2,.box (qHY p)),(3,ro 1 ze3 x5)],67,[]⟩:St)) (fun s=>s.1≤x5.length∧qBP c p factor fl (x5.drop s.1) s.1 s.2.1 s.2.2=some r) (fun s=>x5.length-s.1) (0,x3,[]) ⟨Nat.zero_le _,hH⟩ ?_ ?_
 refine Le.trans (Le.nilS 11 rfl) ?_
 exact Le.ct 0 0
 rintro⟨k7,v35,v36⟩ ⟨hk,hH⟩
 try dsimp only at hH⊢
 refine AW.boundR (id:=3) (l:=x5) rfl (fun hb11=>?_)
 rcases hd10:x5.drop k7 with _|⟨y8,ys9⟩
 rw[hd10,qBP]at hH
 have hlt12:=qAF hd10
 refine go ?_
 refine AW.cH hH (fun _ hH=>?_) (fun hc hH=>?_)
 refine go ?_
 exact fin
 refine go ?_
 obtain⟨x38,hx39,x40,hx41,x42,hx43,hH⟩:=qBB hH
 refine AW.drawn 11 6 [] mix (by kernel_rfl) rfl ?_
 refine go ?_
 exact fin
 rw[hd10,qBP]at hH
 have hlt12:=qAG hd10
 refine go ?_
 refine AO.w (zLr T rfl rfl rfl rfl (zgG (zgD hd10)) rfl rfl rfl) (go ?_)
 obtain⟨x44,hx45,x46,hx47,x48,hx49,hH⟩:=qBB hH
 obtain⟨x50,hx51,x52,hx53,hH⟩:=qAI hH
 refine AW.drawn 15 6 [] mix (by kernel_rfl) rfl ?_
 refine go ?_
 refine AD.q (FStep.call rfl rfl rfl rfl rfl (qKR _ _ _ _ _ (hx51)) rfl rfl) (qBF _ _) (qDh _ _) rfl ?_
 refine AD.nil (AO.w (zLV rfl rfl rfl (es:=[.g (ze4 c),.g (qHY p),factor,sv ze1 x50]) ⟨.free rfl,.free rfl,.free rfl,(.rowR rfl (.map fun y=>qGs y)),trivial⟩ (qNW fl _ _ _ _ _ (hx53)) (qAc _) rfl) ?_)
 refine gs8 ?_
 refine AW.le (Le.ct 0 0 (σ':=(⟨[(2,factor),(3,.p 1 0),(4,.p 2 0),(10,v35),(11,sv ze0 v36),(13,sv ze0 y8),(14,x52),(27,.R 3),(28,(x5.length:Int)),(29,(k7:Int)),(51,.v (.bool (decide (x52>v35))))],[(1,.box (ze4 c)),(2,.box (qHY p)),(3,ro 1 ze3 x5)],67,[]⟩:St))) ?_
 refine AW.cH hH (fun _ hH=>?_) (fun _ hH=>?_)
 refine go ?_
 refine⟨(k7+1,x52,y8),⟨hlt12,(zds hd10▸hH)⟩,qCC hlt12,?_⟩
 exact Le.ct 0 0
 refine go ?_
 refine⟨(k7+1,v35,v36),⟨hlt12,(zds hd10▸hH)⟩,qCC hlt12,?_⟩
 exact Le.ct 0 0
def qAL (fl:Nat) (sA:ScriptState) (command:ByteArray) (l:List Int):Option (ScriptState×ByteArray) :=
 cond (decide (command=(⟨#[99,104,101,99,107]⟩:ByteArray)))
  ((qEi fl sA.code sA.performance.items).bind fun x2 =>
  (qCY x2.1).bind fun x4 =>
  some (sA,x4))
  (cond (decide (command=(⟨#[98,97,115,101]⟩:ByteArray)))
   ((qF7 sA.code sA.performance.items).bind fun x7 =>
   (qBE x7).bind fun x9 =>
   (qCA x9).bind fun x11 =>
   some (sA,x11))
   (cond (decide (command=(⟨#[115,99,111,114,101]⟩:ByteArray)))
    ((qFb fl sA.code sA.performance sA.factor).bind fun x14 =>
    (qAx x14).bind fun x16 =>
    some (sA,x16))
    (cond (decide (command=(⟨#[98,111,117,110,100]⟩:ByteArray)))
     ((qEG fl sA.code sA.performance sA.factor).bind fun x19 =>
     (qCA x19.1).bind fun x21 =>
     some (sA,x21))
     (cond (decide (command=(⟨#[114,97,110,103,101]⟩:ByteArray)))
      ((qAV l 0).bind fun x24 =>
      (qFO fl sA.code sA.performance sA.factor x24).bind fun x26 =>
      cond (!x26.2.2)
       (some (sA,(⟨#[110,111]⟩:ByteArray)))
       ((qAx [x26.1,x26.2.1]).bind fun x28 =>
       some (sA,x28)))
      ((qEX fl sA.code sA.performance sA.factor).bind fun x30 =>
      cond (!x30.2.2.2)
       (some (sA,(⟨#[110,111,110,101]⟩:ByteArray)))
       ((qAx [x30.1,x30.2.1]).bind fun x32 =>
       (qAz (Nat.ble (x32.size+(⟨#[32]⟩:ByteArray).size) qEO)).bind fun u34 =>
       (qAV [(⟨#[110,111,110,101]⟩:ByteArray),(⟨#[100,111,119,110]⟩:ByteArray),(⟨#[101,100,103,101]⟩:ByteArray),(⟨#[118,111,105,100]⟩:ByteArray)] x30.2.2.1).bind fun x36 =>
       (qAz (Nat.ble ((x32++(⟨#[32]⟩:ByteArray)).size+x36.size) qEO)).bind fun u38 =>
       some (sA,((x32++(⟨#[32]⟩:ByteArray))++x36))))))))
theorem qJ5 (fl:Nat) (sA:ScriptState) (command:ByteArray) (l:List Int) (r:(ScriptState×ByteArray)) (hH:qAL fl sA command l=some r):qF3 prog 122 [.pn (qHp sA),.v (.string command),.s (List.map ze0 l)] [.pn (qHp r.1),.u,.u] (.v (.string r.2)):=by
 refine qFN T func122 rfl (by decide) rfl rfl [.p 1 0,.v (.string command),sv ze0 l] [(1,.box (qH4 sA 2)),(2,ro 2 qGA sA.results)] 3 (by kernel_rfl) [1] rfl rfl ?_
 intro L
 show AW _ _ _ (⟨[(0,.p 1 0),(1,.v (.string command)),(2,sv ze0 l)],[(1,.box (qH4 sA 2)),(2,ro 2 qGA sA.results)],143,[(1,L 1)]⟩:St)
 refine go ?_
 refine AW.cH hH (fun _ hH=>?_) (fun _ hH=>?_)
 refine AW.q ?_
 obtain⟨x2,hx3,hH⟩:=zB hH
 refine AW.drawn 14 3 [] mix (by kernel_rfl) rfl ?_
 refine go ?_
 refine AD.q (FStep.call rfl rfl rfl rfl rfl (qMB fl _ _ _ (hx3)) rfl rfl) (qBF _ _) (qDh _ _) rfl ?_
 refine go ?_
 obtain⟨x4,hx5,hH⟩:=zB hH
 refine go ?_
 refine AO.w (zLV rfl rfl rfl (es:=[sv ze0 x2.1]) ⟨(.rowR rfl (.map fun y=>.vs rfl)),trivial⟩ (qIm _ _ (hx5)) (qAc _) rfl) (go ?_)
 exact qEW
 refine go ?_
 refine AW.cH hH (fun _ hH=>?_) (fun _ hH=>?_)
 refine AW.q ?_
 obtain⟨x7,hx8,x9,hx10,x11,hx12,hH⟩:=qBB hH
 refine AW.drawn 9 4 [] mix (by kernel_rfl) rfl ?_
 refine go ?_
 refine AO.x (qAU rfl 4 rfl rfl rfl (qMf _ _ _ (hx8)) rfl rfl rfl) ?_
 refine AO.w (zLV rfl rfl rfl (es:=[sv ze0 x7]) ⟨(.rowR rfl (.map fun y=>.vs rfl)),trivial⟩ (qEy _ _ (hx10)) (qAc _) rfl) ?_
 refine AO.w (cVs (qG8 _ _ (hx12))) (go ?_)
 exact qEW
 refine go ?_
 refine AW.cH hH (fun _ hH=>?_) (fun _ hH=>?_)
 refine AW.q ?_
 obtain⟨x14,hx15,x16,hx17,hH⟩:=qAI hH
 refine AW.drawn 12 5 [] mix (by kernel_rfl) rfl ?_
 refine go ?_
 refine AO.x (qAU rfl 5 rfl rfl rfl (qK3 fl _ _ _ _ (hx15)) rfl rfl rfl) ?_
 refine AO.w (zLV rfl rfl rfl (es:=[sv ze0 x14]) ⟨(.rowR rfl (.map fun y=>.vs rfl)),trivial⟩ (qFG _ _ (hx17)) (qAc _) rfl) (go ?_)
 exact qEW
 refine go ?_
 refine AW.cH hH (fun _ hH=>?_) (fun _ hH=>?_)
 refine AW.q ?_
 obtain⟨x19,hx20,hH⟩:=zB hH
 refine AW.drawn 17 6 [] mix (by kernel_rfl) rfl ?_
 refine go ?_
 refine AD.vv (cVs (qLZ fl _ _ _ _ (hx20))) ?_
 refine gs7 ?_
 refine AW.le (Le.ct 0 0 (σ':=(⟨[(9,x19.1)],[(1,.box (qH4 sA 2)),(2,ro 2 qGA sA.results)],143,[(1,L 1)]⟩:St)) (hpin:=⟨⟨rfl,rfl⟩,trivial⟩)) ?_
 refine AW.q ?_
 obtain⟨x21,hx22,hH⟩:=zB hH
 refine go ?_
 refine AO.w (cVs (qG8 _ _ (hx22))) (go ?_)
 exact qEW
 refine go ?_
 refine AW.cH hH (fun _ hH=>?_) (fun _ hH=>?_)
 refine AW.q ?_
 obtain⟨x24,hx25,x26,hx27,hH⟩:=qAI hH
 refine AW.drawn 22 6 [] mix (by kernel_rfl) rfl ?_
 refine go ?_
 refine AD.vv (cVs (qLa fl _ _ _ _ _ (hx27))) ?_
 refine gs9 ?_
 refine AW.le (Le.ct 0 0 (σ':=(⟨[(11,x26.1),(12,x26.2.1),(13,.v (.bool x26.2.2))],[(1,.box (qH4 sA 2)),(2,ro 2 qGA sA.results)],143,[(1,L 1)]⟩:St)) (hpin:=⟨⟨rfl,rfl⟩,trivial⟩)) ?_
 refine go ?_
 refine AW.cH hH (fun _ hH=>?_) (fun hc hH=>?_)
 refine go ?_
 exact qEW
 refine go ?_
 obtain⟨x28,hx29,hH⟩:=zB hH
 refine go ?_
 refine AO.x (mks T 6 ze0 ([x26.1,x26.2.1])) ?_
 refine AO.w (zLV rfl rfl rfl (es:=[sv ze0 [x26.1,x26.2.1]]) ⟨(.rowR rfl (.map fun y=>.vs rfl)),trivial⟩ (qFG _ _ (hx29)) (qAc _) rfl) (go ?_)
 exact qEW
 refine go ?_
 obtain⟨x30,hx31,hH⟩:=zB hH
 refine AW.drawn 21 7 [] mix (by kernel_rfl) rfl ?_
 refine go ?_
 refine AD.vv (cVs (qMA fl _ _ _ _ (hx31))) ?_
 iterate 11 refine gs ?_
 refine AW.le (Le.ct 0 0 (σ':=(⟨[(14,x30.1),(15,x30.2.1),(16,x30.2.2.1),(17,.v (.bool x30.2.2.2))],[(1,.box (qH4 sA 2)),(2,ro 2 qGA sA.results)],143,[(1,L 1)]⟩:St)) (hpin:=⟨⟨rfl,rfl⟩,trivial⟩)) ?_
 refine go ?_
 refine AW.cH hH (fun _ hH=>?_) (fun _ hH=>?_)
 refine go ?_
 exact qEW
 refine go ?_
 obtain⟨x32,hx33,u34,hx35,x36,hx37,hH⟩:=qBB hH
 obtain⟨u38,hx39,hH⟩:=zB hH
 refine AW.drawn 8 7 [] mix (by kernel_rfl) rfl ?_
 refine go ?_
 refine AD.q (FStep.mk T (f:=ze0) (l:=[x30.1,x30.2.1]) rfl rfl rfl rfl rfl rfl rfl rfl rfl (fun _=>rfl) rfl rfl rfl rfl) (by simp[qAu]) (Nat.le_succ _) rfl ?_
 refine AD.vald rfl rfl rfl (zLV rfl rfl rfl (es:=[sv ze0 [x30.1,x30.2.1]]) ⟨(.rowR rfl (.map fun y=>.vs rfl)),trivial⟩ (qFG _ _ (hx33)) (qAc _) rfl) ?_
 refine AD.vv (qB1 rfl rfl rfl (Nat.le_of_ble_eq_true (qAS (hx35)))) ?_
 refine AD.pu T ?_
 refine AD.vv (qWM T (l:=[(⟨#[110,111,110,101]⟩:ByteArray),(⟨#[100,111,119,110]⟩:ByteArray),(⟨#[101,100,103,101]⟩:ByteArray),(⟨#[118,111,105,100]⟩:ByteArray)]) (f:=ze2) rfl rfl rfl rfl rfl rfl rfl (fun _=>rfl) (hx37)) ?_
 refine go ?_
 refine AO.w (qB1 rfl rfl rfl (Nat.le_of_ble_eq_true (qAS (hx39)))) (go ?_)
 exact qEW
def qAA (sA:ScriptState) (fl:Nat) (x5:(List ByteArray)) (x7:ByteArray) (x9:(ByteArray×Bool)):List ByteArray→Nat→List Int→Option ((ScriptState×ByteArray))
 | [],k13,v32 =>
  cond (decide (x7=(⟨#[101,108,101,109,101,110,116]⟩:ByteArray)))
   ((qAV x5 1).bind fun x35 =>
   (qAV v32 1).bind fun x37 =>
   (qAV v32 2).bind fun x39 =>
   (qAV v32 3).bind fun x41 =>
   (qE9 fl sA.code (Element.mk x35 x37 x39 x41)).bind fun x43 =>
   (qAr sA x43.1 x43.2).bind fun x45 =>
   some (x45.1,x45.2))
   (cond (decide (x7=(⟨#[108,105,109,105,116]⟩:ByteArray)))
    ((qAi fl sA x7 v32).bind fun x48 =>
    some (x48.1,x48.2))
    (cond (decide (x7=(⟨#[114,117,108,101,115]⟩:ByteArray)))
     ((qAi fl sA x7 v32).bind fun x51 =>
     some (x51.1,x51.2))
     (cond (decide (x7=(⟨#[106,117,100,103,101,115]⟩:ByteArray)))
      ((qAO fl sA x7 v32).bind fun x54 =>
      some (x54.1,x54.2))
      (cond (decide (x7=(⟨#[103,114,97,100,101]⟩:ByteArray)))
       ((qAO fl sA x7 v32).bind fun x57 =>
       some (x57.1,x57.2))
       (cond (decide (x7=(⟨#[99,111,109,112,111,110,101,110,116]⟩:ByteArray)))
        ((qAO fl sA x7 v32).bind fun x60 =>
        some (x60.1,x60.2))
        (cond (decide (x7=(⟨#[99,97,108,108]⟩:ByteArray)))
         ((qAH fl sA x7 v32).bind fun x63 =>
         some (x63.1,x63.2))
         (cond (decide (x7=(⟨#[115,108,105,112,115]⟩:ByteArray)))
          ((qAH fl sA x7 v32).bind fun x66 =>
          some (x66.1,x66.2))
          (cond (decide (x7=(⟨#[102,97,99,116,111,114]⟩:ByteArray)))
           ((qAH fl sA x7 v32).bind fun x69 =>
           some (x69.1,x69.2))
           (cond (decide (x7=(⟨#[108,97,116,101]⟩:ByteArray)))
            ((qAH fl sA x7 v32).bind fun x72 =>
            some (x72.1,x72.2))
            (cond (decide (x7=(⟨#[115,107,97,116,101,114]⟩:ByteArray)))
             ((qA7 fl sA x7 v32).bind fun x75 =>
             some (x75.1,x75.2))
             (cond (decide (x7=(⟨#[112,108,97,99,101,115]⟩:ByteArray)))
              ((qA7 fl sA x7 v32).bind fun x78 =>
              some (x78.1,x78.2))
              ((qAL fl sA x7 v32).bind fun x80 =>
              some (x80.1,x80.2)))))))))))))
 |y14::ys15,k13,v32 =>
  (qNk x9.1 (k13:Int)).bind fun b82 =>
  (qCl fl (b82.toNat:Int) y14).bind fun x84 =>
  cond (!x84.2)
   (some (sA,(⟨#[119,104,97,116]⟩:ByteArray)))
   ((qAz (qAh 8 (v32.length+([x84.1]).length))).bind fun u86 =>
   qAA sA fl x5 x7 x9 ys15 (k13+1) (v32++[x84.1]))
def qAg (fl:Nat) (sA:ScriptState) (line:ByteArray):Option (ScriptState×ByteArray) :=
 (qBf line (⟨#[105,116,101,109,32]⟩:ByteArray)).bind fun x1 =>
 cond x1.2
  ((qBM fl sA x1.1).bind fun x3 =>
  some (x3.1,x3.2))
  ((qB2 line (⟨#[32]⟩:ByteArray)).bind fun x5 =>
  (qAV x5 0).bind fun x7 =>
  (qFI x7).bind fun x9 =>
  cond ((!x9.2)||((x9.1.size:Int) != (w64 ((x5.length:Int)-1))))
   (some (sA,(⟨#[119,104,97,116]⟩:ByteArray)))
   ((qC7 x5 1).bind fun x11 =>
   qAA sA fl x5 x7 x9 x11 0 []))
theorem qJt (fl:Nat) (sA:ScriptState) (line:ByteArray) (r:(ScriptState×ByteArray)) (hH:qAg fl sA line=some r):qF3 prog 76 [.pn (qHp sA),.v (.string line)] [.pn (qHp r.1),.u] (.v (.string r.2)):=by
 refine qFN T func76 rfl (by decide) rfl rfl [.p 1 0,.v (.string line)] [(1,.box (qH4 sA 2)),(2,ro 2 qGA sA.results)] 3 (by kernel_rfl) [1] rfl rfl ?_
 intro L
 show AW _ _ _ (⟨[(0,.p 1 0),(1,.v (.string line))],[(1,.box (qH4 sA 2)),(2,ro 2 qGA sA.results)],129,[(1,L 1)]⟩:St)
 refine gs6 ?_
 obtain⟨x1,hx2,hH⟩:=zB hH
 refine gs2 ?_
 refine AO.w (cVs (qII _ _ _ (hx2))) ?_
 iterate 10 refine gs ?_
 refine AW.cH hH (fun _ hH=>?_) (fun hc hH=>?_)
 refine AW.q ?_
 obtain⟨x3,hx4,hH⟩:=zB hH
 refine gs3 ?_
 refine AO.x (qAd (qH4 x3.1 3) [(3,ro 2 qGA x3.1.results)] 4 (by kernel_rfl) rfl 3 rfl rfl rfl rfl (es:=[.pn (qHp sA),.v (.string x1.1)]) (us:=[.u]) (cs:=qHp x3.1) (ids:=[1,2]) (by exact zG (.pb rfl (qAJ rfl)) (zG (.c .v) (zGn))) (by decide) (by decide) (qIi fl _ _ _ (hx4)) rfl rfl (by rfl) rfl) ?_
 refine gs3 ?_
 exact qEW
 refine gs2 ?_
 obtain⟨x5,hx6,hH⟩:=zB hH
 refine gs2 ?_
 refine AO.x (qAU rfl 4 rfl rfl rfl (qH5 _ _ _ (hx6)) rfl rfl rfl) ?_
 refine gs3 ?_
 obtain⟨x7,hx8,hH⟩:=zB hH
 refine gs3 ?_
 refine AO.w (zLr T rfl rfl rfl rfl (zgG (hx8)) rfl rfl rfl) ?_
 refine AO.x (qGG T rfl rfl rfl rfl) ?_
 refine gs4 ?_
 obtain⟨x9,hx10,hH⟩:=zB hH
 refine gs2 ?_
 refine AO.w (cVs (qPU _ _ (hx10))) ?_
 refine gs6 ?_
 refine AW.le (Le.ct 0 0 (σ':=(⟨[(0,.p 1 0),(7,.R 4),(8,.v (.string x7)),(9,.w 1 []),(10,.v (.string x9.1)),(11,.v (.bool x9.2))],[(1,.box (qH4 sA 2)),(2,ro 2 qGA sA.results),(4,ro 1 ze2 x5)],129,[(1,L 1)]⟩:St)) (hpin:=⟨⟨rfl,rfl⟩,trivial⟩)) ?_
 refine gs6 ?_
 refine AO.g0 T ?_
 refine AO.g1 T 39 ?_
 refine AO.g0 T ?_
 refine AO.d1 41 (fun hg=>qJk T rfl rfl rfl rfl) ?_
 refine AO.d1 42 (fun hg=>aws) ?_
 refine AO.g2 T 40 43 ?_
 refine gs2 ?_
 refine AW.cH hH (fun _ hH=>?_) (fun hc hH=>?_)
 refine gs5 ?_
 exact qEW
 refine gs3 ?_
 obtain⟨x11,hx12,hH⟩:=zB hH
 refine AW.le (Le.fM 4 (g:=ze2) rfl (fun y=>.vs rfl)) ?_
 refine gs2 ?_
 refine AO.w (qDS T rfl rfl rfl rfl rfl (hx12) (fun _=>rfl)) ?_
 refine gs4 ?_
 refine AW.loopS (fun s:Nat×(List Int)=>(⟨[(0,.p 1 0),(7,sv ze2 x5),(8,.v (.string x7)),(9,.R 8),(10,.v (.string x9.1)),(47,sv ze2 x11),(48,(x11.length:Int)),(49,(s.1:Int))],[(1,.box (qH4 sA 2)),(2,ro 2 qGA sA.results),(8,ro 1 ze0 s.2)],129,[(1,L 1)]⟩:St)) (fun s=>s.1≤x11.length∧qAA sA fl x5 x7 x9 (x11.drop s.1) s.1 s.2=some r) (fun s=>x11.length-s.1) (0,[]) ⟨Nat.zero_le _,hH⟩ ?_ ?_
 refine Le.trans (Le.void 9 8 1 rfl rfl) ?_
 exact Le.ct 0 0 (hpin:=⟨⟨rfl,rfl⟩,trivial⟩)
 rintro⟨k13,v32⟩ ⟨hk,hH⟩
 try dsimp only at hH⊢
 refine AW.boundM (t:=47) (l:=x11) rfl (fun hb17=>?_)
 rcases hd16:x11.drop k13 with _|⟨y14,ys15⟩
 rw[hd16,qAA]at hH
 have hlt18:=qAF hd16
 iterate 18 refine gs ?_
 refine AW.cH hH (fun _ hH=>?_) (fun _ hH=>?_)
 refine AW.q ?_
 obtain⟨x35,hx36,x37,hx38,x39,hx40,hH⟩:=qBB hH
 obtain⟨x41,hx42,x43,hx44,x45,hx46,hH⟩:=qBB hH
 refine AW.drawn 21 9 [] mix (by kernel_rfl) rfl ?_
 refine gs9 ?_
 refine AD.vv (ixr T (hx38)) ?_
 refine AD.vv (zLr T rfl rfl rfl rfl (zgG (hx38)) rfl rfl rfl) ?_
 refine AD.pu T ?_
 refine AD.vv (ixr T (hx40)) ?_
 refine AD.vv (zLr T rfl rfl rfl rfl (zgG (hx40)) rfl rfl rfl) ?_
 refine AD.pu T ?_
 refine AD.vv (ixr T (hx42)) ?_
 refine AD.vv (zLr T rfl rfl rfl rfl (zgG (hx42)) rfl rfl rfl) ?_
 refine gs ?_
 refine AD.q (FStep.call rfl rfl rfl rfl rfl (qMo fl _ _ _ (hx44)) rfl rfl) (qBF _ _) (qDh _ _) rfl ?_
 refine gs3 ?_
 refine AO.le (Le.fM 9 (g:=ze5) rfl (fun y=>.vs rfl)) ?_
 refine AO.le (Le.fM 10 (g:=ze0) rfl (fun y=>.vs rfl)) ?_
 refine AO.x (qAd (qH4 x45.1 11) [(11,ro 2 qGA x45.1.results)] 12 (by kernel_rfl) rfl 11 rfl rfl rfl rfl (es:=[.pn (qHp sA),.g (ze4 x43.1),.v (.bool x43.2)]) (us:=[.u,.u]) (cs:=qHp x45.1) (ids:=[1,2]) (by exact zG (.pb rfl (qAJ rfl)) (zG (.g (zC .s (zC .s (zC .v (zC .v (zC .v (zC .v (zCn)))))))) (zG (.c .v) (zGn)))) (by decide) (by decide) (qD6 _ _ _ _ (hx46)) rfl rfl (by rfl) rfl) ?_
 refine gs2 ?_
 refine AW.le (Le.ct 0 0 (σ':=(⟨[(4,.v (.string x45.2))],[(1,.box (qH4 x45.1 11)),(11,ro 2 qGA x45.1.results)],129,[(1,L 1)]⟩:St)) (hpin:=⟨⟨rfl,rfl⟩,trivial⟩)) ?_
 refine AW.t ?_
 exact qEW
 refine gs6 ?_
 refine AW.cH hH (fun hc47 hH=>?_) (fun _ hH=>?_)
 refine AW.k (AW.condT' rfl hc47 ?_)
 refine AW.q ?_
 obtain⟨x48,hx49,hH⟩:=zB hH
 refine AW.le (Le.fM 8 (g:=ze0) rfl (fun y=>.vs rfl)) ?_
 refine gs4 ?_
 refine AO.x (qAd (qH4 x48.1 12) [(12,ro 2 qGA x48.1.results)] 13 (by kernel_rfl) rfl 12 rfl rfl rfl rfl (es:=[.pn (qHp sA),.v (.string x7),.s (v32.map ze0)]) (us:=[.u,.u]) (cs:=qHp x48.1) (ids:=[1,2]) (by exact zG (.pb rfl (qAJ rfl)) (zG (.c .v) (zG (.c .s) (zGn)))) (by decide) (by decide) (qGz fl _ _ _ _ (hx49)) rfl rfl (by rfl) rfl) ?_
 refine gs3 ?_
 exact qEW
 refine gs4 ?_
 refine AW.cH hH (fun _ hH=>?_) (fun _ hH=>?_)
 refine AW.q ?_
 obtain⟨x51,hx52,hH⟩:=zB hH
 refine AW.le (Le.fM 8 (g:=ze0) rfl (fun y=>.vs rfl)) ?_
 refine gs4 ?_
 refine AO.x (qAd (qH4 x51.1 13) [(13,ro 2 qGA x51.1.results)] 14 (by kernel_rfl) rfl 13 rfl rfl rfl rfl (es:=[.pn (qHp sA),.v (.string x7),.s (v32.map ze0)]) (us:=[.u,.u]) (cs:=qHp x51.1) (ids:=[1,2]) (by exact zG (.pb rfl (qAJ rfl)) (zG (.c .v) (zG (.c .s) (zGn)))) (by decide) (by decide) (qGz fl _ _ _ _ (hx52)) rfl rfl (by rfl) rfl) ?_
 refine gs3 ?_
 exact qEW
 refine gs6 ?_
 refine AW.cH hH (fun hc53 hH=>?_) (fun _ hH=>?_)
 refine AW.k (AW.condT' rfl hc53 ?_)
 refine AW.q ?_
 obtain⟨x54,hx55,hH⟩:=zB hH
 refine AW.le (Le.fM 8 (g:=ze0) rfl (fun y=>.vs rfl)) ?_
 refine gs4 ?_
 refine AO.x (qAd (qH4 x54.1 14) [(14,ro 2 qGA x54.1.results)] 15 (by kernel_rfl) rfl 14 rfl rfl rfl rfl (es:=[.pn (qHp sA),.v (.string x7),.s (v32.map ze0)]) (us:=[.u,.u]) (cs:=qHp x54.1) (ids:=[1,2]) (by exact zG (.pb rfl (qAJ rfl)) (zG (.c .v) (zG (.c .s) (zGn)))) (by decide) (by decide) (qEs fl _ _ _ _ (hx55)) rfl rfl (by rfl) rfl) ?_
 refine gs3 ?_
 exact qEW
 refine gs5 ?_
 refine AW.cH hH (fun hc56 hH=>?_) (fun _ hH=>?_)
 refine AW.k (AW.condT' rfl hc56 ?_)
 refine AW.q ?_
 obtain⟨x57,hx58,hH⟩:=zB hH
 refine AW.le (Le.fM 8 (g:=ze0) rfl (fun y=>.vs rfl)) ?_
 refine gs4 ?_
 refine AO.x (qAd (qH4 x57.1 15) [(15,ro 2 qGA x57.1.results)] 16 (by kernel_rfl) rfl 15 rfl rfl rfl rfl (es:=[.pn (qHp sA),.v (.string x7),.s (v32.map ze0)]) (us:=[.u,.u]) (cs:=qHp x57.1) (ids:=[1,2]) (by exact zG (.pb rfl (qAJ rfl)) (zG (.c .v) (zG (.c .s) (zGn)))) (by decide) (by decide) (qEs fl _ _ _ _ (hx58)) rfl rfl (by rfl) rfl) ?_
 refine gs3 ?_
 exact qEW
 refine gs4 ?_
 refine AW.cH hH (fun _ hH=>?_) (fun _ hH=>?_)
 refine AW.q ?_
 obtain⟨x60,hx61,hH⟩:=zB hH
 refine AW.le (Le.fM 8 (g:=ze0) rfl (fun y=>.vs rfl)) ?_
 refine gs4 ?_
 refine AO.x (qAd (qH4 x60.1 16) [(16,ro 2 qGA x60.1.results)] 17 (by kernel_rfl) rfl 16 rfl rfl rfl rfl (es:=[.pn (qHp sA),.v (.string x7),.s (v32.map ze0)]) (us:=[.u,.u]) (cs:=qHp x60.1) (ids:=[1,2]) (by exact zG (.pb rfl (qAJ rfl)) (zG (.c .v) (zG (.c .s) (zGn)))) (by decide) (by decide) (qEs fl _ _ _ _ (hx61)) rfl rfl (by rfl) rfl) ?_
 refine gs3 ?_
 exact qEW
 refine gs6 ?_
 refine AW.cH hH (fun hc62 hH=>?_) (fun _ hH=>?_)
 refine AW.k (AW.condT' rfl hc62 ?_)
 refine AW.q ?_
 obtain⟨x63,hx64,hH⟩:=zB hH
 refine AW.le (Le.fM 8 (g:=ze0) rfl (fun y=>.vs rfl)) ?_
 refine gs4 ?_
 refine AO.x (qAd (qH4 x63.1 17) [(17,ro 2 qGA x63.1.results)] 18 (by kernel_rfl) rfl 17 rfl rfl rfl rfl (es:=[.pn (qHp sA),.v (.string x7),.s (v32.map ze0)]) (us:=[.u,.u]) (cs:=qHp x63.1) (ids:=[1,2]) (by exact zG (.pb rfl (qAJ rfl)) (zG (.c .v) (zG (.c .s) (zGn)))) (by decide) (by decide) (qC0 fl _ _ _ _ (hx64)) rfl rfl (by rfl) rfl) ?_
 refine gs3 ?_
 exact qEW
 refine gs5 ?_
 refine AW.cH hH (fun hc65 hH=>?_) (fun _ hH=>?_)
 refine AW.k (AW.condT' rfl hc65 ?_)
 refine AW.q ?_
 obtain⟨x66,hx67,hH⟩:=zB hH
 refine AW.le (Le.fM 8 (g:=ze0) rfl (fun y=>.vs rfl)) ?_
 refine gs4 ?_
 refine AO.x (qAd (qH4 x66.1 18) [(18,ro 2 qGA x66.1.results)] 19 (by kernel_rfl) rfl 18 rfl rfl rfl rfl (es:=[.pn (qHp sA),.v (.string x7),.s (v32.map ze0)]) (us:=[.u,.u]) (cs:=qHp x66.1) (ids:=[1,2]) (by exact zG (.pb rfl (qAJ rfl)) (zG (.c .v) (zG (.c .s) (zGn)))) (by decide) (by decide) (qC0 fl _ _ _ _ (hx67)) rfl rfl (by rfl) rfl) ?_
 refine gs3 ?_
 exact qEW
 refine gs5 ?_
 refine AW.cH hH (fun hc68 hH=>?_) (fun _ hH=>?_)
 refine AW.k (AW.condT' rfl hc68 ?_)
 refine AW.q ?_
 obtain⟨x69,hx70,hH⟩:=zB hH
 refine AW.le (Le.fM 8 (g:=ze0) rfl (fun y=>.vs rfl)) ?_
 refine gs4 ?_
 refine AO.x (qAd (qH4 x69.1 19) [(19,ro 2 qGA x69.1.results)] 20 (by kernel_rfl) rfl 19 rfl rfl rfl rfl (es:=[.pn (qHp sA),.v (.string x7),.s (v32.map ze0)]) (us:=[.u,.u]) (cs:=qHp x69.1) (ids:=[1,2]) (by exact zG (.pb rfl (qAJ rfl)) (zG (.c .v) (zG (.c .s) (zGn)))) (by decide) (by decide) (qC0 fl _ _ _ _ (hx70)) rfl rfl (by rfl) rfl) ?_
 refine gs2 ?_
 refine AW.le (Le.ct 0 0 (σ':=(⟨[(4,.v (.string x69.2))],[(1,.box (qH4 x69.1 19)),(19,ro 2 qGA x69.1.results)],129,[(1,L 1)]⟩:St)) (hpin:=⟨⟨rfl,rfl⟩,trivial⟩)) ?_
 refine AW.t ?_
 exact qEW
 refine gs4 ?_
 refine AW.cH hH (fun _ hH=>?_) (fun _ hH=>?_)
 refine AW.q ?_
 obtain⟨x72,hx73,hH⟩:=zB hH
 refine AW.le (Le.fM 8 (g:=ze0) rfl (fun y=>.vs rfl)) ?_
 refine gs4 ?_
 refine AO.x (qAd (qH4 x72.1 20) [(20,ro 2 qGA x72.1.results)] 21 (by kernel_rfl) rfl 20 rfl rfl rfl rfl (es:=[.pn (qHp sA),.v (.string x7),.s (v32.map ze0)]) (us:=[.u,.u]) (cs:=qHp x72.1) (ids:=[1,2]) (by exact zG (.pb rfl (qAJ rfl)) (zG (.c .v) (zG (.c .s) (zGn)))) (by decide) (by decide) (qC0 fl _ _ _ _ (hx73)) rfl rfl (by rfl) rfl) ?_
 refine gs2 ?_
 refine AW.le (Le.ct 0 0 (σ':=(⟨[(4,.v (.string x72.2))],[(1,.box (qH4 x72.1 20)),(20,ro 2 qGA x72.1.results)],129,[(1,L 1)]⟩:St)) (hpin:=⟨⟨rfl,rfl⟩,trivial⟩)) ?_
 refine AW.t ?_
 exact qEW
 refine gs6 ?_
 refine AW.le (Le.ct 0 0 (σ':=(⟨[(0,.p 1 0),(8,.v (.string x7)),(9,.R 8),(69,.v (.string x7)),(118,.v (.bool (decide (x7=(⟨#[115,107,97,116,101,114]⟩:ByteArray)))))],[(1,.box (qH4 sA 2)),(2,ro 2 qGA sA.results),(8,ro 1 ze0 v32)],129,[(1,L 1)]⟩:St)) (hpin:=⟨⟨rfl,rfl⟩,trivial⟩)) ?_
 refine AW.cH hH (fun hc74 hH=>?_) (fun _ hH=>?_)
 refine AW.k (AW.condT' rfl hc74 ?_)
 refine AW.q ?_
 obtain⟨x75,hx76,hH⟩:=zB hH
 refine AW.le (Le.fM 8 (g:=ze0) rfl (fun y=>.vs rfl)) ?_
 refine gs4 ?_
 refine AO.x (qAd (qH4 x75.1 21) [(21,ro 2 qGA x75.1.results)] 22 (by kernel_rfl) rfl 21 rfl rfl rfl rfl (es:=[.pn (qHp sA),.v (.string x7),.s (v32.map ze0)]) (us:=[.u,.u]) (cs:=qHp x75.1) (ids:=[1,2]) (by exact zG (.pb rfl (qAJ rfl)) (zG (.c .v) (zG (.c .s) (zGn)))) (by decide) (by decide) (qGu fl _ _ _ _ (hx76)) rfl rfl (by rfl) rfl) ?_
 refine gs3 ?_
 exact qEW
 refine gs4 ?_
 refine AW.cH hH (fun _ hH=>?_) (fun _ hH=>?_)
 refine AW.q ?_
 obtain⟨x78,hx79,hH⟩:=zB hH
 refine AW.le (Le.fM 8 (g:=ze0) rfl (fun y=>.vs rfl)) ?_
 refine gs4 ?_
 refine AO.x (qAd (qH4 x78.1 22) [(22,ro 2 qGA x78.1.results)] 23 (by kernel_rfl) rfl 22 rfl rfl rfl rfl (es:=[.pn (qHp sA),.v (.string x7),.s (v32.map ze0)]) (us:=[.u,.u]) (cs:=qHp x78.1) (ids:=[1,2]) (by exact zG (.pb rfl (qAJ rfl)) (zG (.c .v) (zG (.c .s) (zGn)))) (by decide) (by decide) (qGu fl _ _ _ _ (hx79)) rfl rfl (by rfl) rfl) ?_
 refine gs3 ?_
 exact qEW
 refine gs2 ?_
 obtain⟨x80,hx81,hH⟩:=zB hH
 refine AW.le (Le.fM 8 (g:=ze0) rfl (fun y=>.vs rfl)) ?_
 refine gs4 ?_
 refine AO.x (qAd (qH4 x80.1 23) [(23,ro 2 qGA x80.1.results)] 24 (by kernel_rfl) rfl 23 rfl rfl rfl rfl (es:=[.pn (qHp sA),.v (.string x7),.s (v32.map ze0)]) (us:=[.u,.u]) (cs:=qHp x80.1) (ids:=[1,2]) (by exact zG (.pb rfl (qAJ rfl)) (zG (.c .v) (zG (.c .s) (zGn)))) (by decide) (by decide) (qJ5 fl _ _ _ _ (hx81)) rfl rfl (by rfl) rfl) ?_
 refine gs3 ?_
 exact qEW
 rw[hd16,qAA]at hH
 have hlt18:=qAG hd16
 iterate 18 refine gs ?_
 obtain⟨b82,hx83,x84,hx85,hH⟩:=qAI hH
 refine gs3 ?_
 refine AO.w (qBL T rfl rfl rfl rfl (hx83)) ?_
 refine AO.pu T ?_
 refine AO.w (cVs (qNv fl _ _ _ (hx85))) ?_
 iterate 12 refine gs ?_
 refine AW.cH hH (fun _ hH=>?_) (fun _ hH=>?_)
 refine gs5 ?_
 exact qEW
 refine AW.k ?_
 obtain⟨u86,hx87,hH⟩:=zB hH
 refine gs3 ?_
 refine AO.x (mks T 24 ze0 ([x84.1])) ?_
 refine AO.x (rvs T 25 (hfit:=by exact qAS (hx87))) ?_
 refine gs6 ?_
 refine⟨(k13+1,(v32++[x84.1])),⟨hlt18,(zds hd16▸hH)⟩,qCC hlt18,?_⟩
 exact Le.ct 25 8 (hpin:=⟨⟨rfl,rfl⟩,trivial⟩)
def qBU (fl:Nat):List ByteArray→Nat→List Element→List Int→Int→Int→Int→Int→List Item→List (List Int)→List (List Int)→Int→Int→Int→Int→List Result→List ByteArray→Option (((Option ScriptState)×(List ByteArray)×Bool))
 | [],k5,v34,v35,v36,v37,v38,v39,v40,v41,v42,v43,v44,v45,v46,v47,v48 =>
  some ((some (ScriptState.mk (Code.mk v34 v35 v36 v37 v38 v39) (Performance.mk v40 (Marks.mk v41 v42) (Slips.mk v43 v44 v45)) v46 v47)),v48,true)
 |y6::ys7,k5,v34,v35,v36,v37,v38,v39,v40,v41,v42,v43,v44,v45,v46,v47,v48 =>
  (qAg fl (ScriptState.mk (Code.mk v34 v35 v36 v37 v38 v39) (Performance.mk v40 (Marks.mk v41 v42) (Slips.mk v43 v44 v45)) v46 v47) y6).bind fun x50 =>
  (qAz (qAh 16 (v48.length+([x50.2]).length))).bind fun u52 =>
  qBU fl ys7 (k5+1) x50.1.code.elements x50.1.code.limits x50.1.code.repeats x50.1.code.bonus x50.1.code.keeps x50.1.code.fall x50.1.performance.items x50.1.performance.marks.grades x50.1.performance.marks.components x50.1.performance.slips.falls x50.1.performance.slips.seconds x50.1.performance.slips.other x50.1.factor x50.1.results (v48++[x50.2])
def qFZ (fl:Nat) (script:ByteArray):Option ((Option ScriptState)×(List ByteArray)×Bool) :=
 (qCe script).bind fun x1 =>
 cond (!x1.2)
  (some (none,[],false))
  ((qHU fl ).bind fun x3 =>
  qBU fl x1.1 0 x3.code.elements x3.code.limits x3.code.repeats x3.code.bonus x3.code.keeps x3.code.fall x3.performance.items x3.performance.marks.grades x3.performance.marks.components x3.performance.slips.falls x3.performance.slips.seconds x3.performance.slips.other x3.factor x3.results [])
theorem qJc (fl:Nat) (script:ByteArray) (r:((Option ScriptState)×(List ByteArray)×Bool)) (hH:qFZ fl script=some r):qAC prog 46 [.v (.string script)] (.t [pnO qHp r.1,.w 1 (r.2.1.map ze2),.v (.bool r.2.2)]):=by
 refine fns T func46 ?_
 refine gs7 ?_
 obtain⟨x1,hx2,hH⟩:=zB hH
 refine gs2 ?_
 refine AO.x (qAU rfl 1 rfl rfl rfl (qMF _ _ (hx2)) rfl rfl rfl) ?_
 iterate 12 refine gs ?_
 refine AW.cH hH (fun _ hH=>?_) (fun _ hH=>?_)
 refine gs7 ?_
 exact fin
 refine gs2 ?_
 obtain⟨x3,hx4,hH⟩:=zB hH
 refine AW.r (AO.x (qQa (.p 2 0) [(2,.box (qH4 x3 3)),(3,ro 2 qGA x3.results)] 4 (by kernel_rfl) rfl 2 rfl rfl rfl rfl (qOB fl _ (hx4)) rfl rfl rfl) ?_)
 refine AO.x (qGG T rfl rfl rfl rfl) ?_
 iterate 11 refine gs ?_
 refine AW.loopS (fun s:Nat×(List Element)×(List Int)×Int×Int×Int×Int×(List Item)×(List (List Int))×(List (List Int))×Int×Int×Int×Int×(List Result)×(List ByteArray)=>(⟨[(7,.p 2 0),(8,.R 9),(20,.R 1),(21,(x1.1.length:Int)),(22,(s.1:Int))],[(1,ro 1 ze2 x1.1),(2,.box [sv ze5 s.2.1,sv ze0 s.2.2.1,s.2.2.2.1,s.2.2.2.2.1,s.2.2.2.2.2.1,s.2.2.2.2.2.2.1,sv ze1 s.2.2.2.2.2.2.2.1,sv ze3 s.2.2.2.2.2.2.2.2.1,sv ze3 s.2.2.2.2.2.2.2.2.2.1,s.2.2.2.2.2.2.2.2.2.2.1,s.2.2.2.2.2.2.2.2.2.2.2.1,s.2.2.2.2.2.2.2.2.2.2.2.2.1,s.2.2.2.2.2.2.2.2.2.2.2.2.2.1,.R 3]),(3,ro 2 qGA s.2.2.2.2.2.2.2.2.2.2.2.2.2.2.1),(9,ro 1 ze2 s.2.2.2.2.2.2.2.2.2.2.2.2.2.2.2)],35,[]⟩:St)) (fun s=>s.1≤x1.1.length∧qBU fl (x1.1.drop s.1) s.1 s.2.1 s.2.2.1 s.2.2.2.1 s.2.2.2.2.1 s.2.2.2.2.2.1 s.2.2.2.2.2.2.1 s.2.2.2.2.2.2.2.1 s.2.2.2.2.2.2.2.2.1 s.2.2.2.2.2.2.2.2.2.1 s.2.2.2.2.2.2.2.2.2.2.1 s.2.2.2.2.2.2.2.2.2.2.2.1 s.2.2.2.2.2.2.2.2.2.2.2.2.1 s.2.2.2.2.2.2.2.2.2.2.2.2.2.1 s.2.2.2.2.2.2.2.2.2.2.2.2.2.2.1 s.2.2.2.2.2.2.2.2.2.2.2.2.2.2.2=some r) (fun s=>x1.1.length-s.1) (0,x3.code.elements,x3.code.limits,x3.code.repeats,x3.code.bonus,x3.code.keeps,x3.code.fall,x3.performance.items,x3.performance.marks.grades,x3.performance.marks.components,x3.performance.slips.falls,x3.performance.slips.seconds,x3.performance.slips.other,x3.factor,x3.results,[]) ⟨Nat.zero_le _,hH⟩ ?_ ?_
 refine Le.trans (Le.void 8 9 1 rfl rfl) ?_
 exact Le.ct 0 0
 rintro⟨k5,v34,v35,v36,v37,v38,v39,v40,v41,v42,v43,v44,v45,v46,v47,v48⟩ ⟨hk,hH⟩
 try dsimp only at hH⊢
 refine AW.boundR (id:=1) (l:=x1.1) rfl (fun hb9=>?_)
 rcases hd8:x1.1.drop k5 with _|⟨y6,ys7⟩
 rw[hd8,qBU]at hH
 have hlt10:=qAF hd8
 iterate 16 refine gs ?_
 have hR:=zS hH;subst hR
 exact retQ.i [2,3,9] rfl (.t (zG (.pb rfl (qAJ rfl)) (zG (.c (.rowR rfl)) (zG (.c .v) (zGn)))))
 rw[hd8,qBU]at hH
 have hlt10:=qAG hd8
 iterate 12 refine gs ?_
 refine AO.w (zLr T rfl rfl rfl rfl (zgG (zgD hd8)) rfl rfl rfl) ?_
 refine gs2 ?_
 obtain⟨x50,hx51,u52,hx53,hH⟩:=qAI hH
 refine gs4 ?_
 refine AO.x (qAd (qH4 x50.1 10) [(10,ro 2 qGA x50.1.results)] 11 (by kernel_rfl) rfl 10 rfl rfl rfl rfl (es:=[.pn (qHp (ScriptState.mk (Code.mk v34 v35 v36 v37 v38 v39) (Performance.mk v40 (Marks.mk v41 v42) (Slips.mk v43 v44 v45)) v46 v47)),.v (.string y6)]) (us:=[.u]) (cs:=qHp x50.1) (ids:=[2,3]) (by exact zG (.pb rfl (qAJ rfl)) (zG (.c .v) (zGn))) (by decide) (by decide) (qJt fl _ _ _ (hx51)) rfl rfl (by rfl) rfl) ?_
 refine AO.x (mks T 11 ze2 ([x50.2])) ?_
 refine AO.x (rvs T 12 (hfit:=by exact qAS (hx53))) ?_
 refine gs6 ?_
 refine⟨(k5+1,x50.1.code.elements,x50.1.code.limits,x50.1.code.repeats,x50.1.code.bonus,x50.1.code.keeps,x50.1.code.fall,x50.1.performance.items,x50.1.performance.marks.grades,x50.1.performance.marks.components,x50.1.performance.slips.falls,x50.1.performance.slips.seconds,x50.1.performance.slips.other,x50.1.factor,x50.1.results,(v48++[x50.2])),⟨hlt10,(zds hd8▸hH)⟩,qCC hlt10,?_⟩
 refine Le.trans (Le.ct 12 9 (σ':=(⟨[(7,.p 2 0),(8,.R 9),(20,.R 1),(21,(x1.1.length:Int)),(22,((k5+1:Nat):Int))],[(1,ro 1 ze2 x1.1),(2,.box (qH4 x50.1 10)),(9,ro 1 ze2 (v48++[x50.2])),(10,ro 2 qGA x50.1.results)],35,[]⟩:St))) ?_
 exact Le.ct 10 3
def qGJ (fl:Nat) (script:ByteArray):Option ((List Result)×Bool) :=
 (qFZ fl script).bind fun x1 =>
 (match x1.1 with
  |none =>
   cond (!x1.2.2)
    (some ([],false))
    (none)
  |some p0_0 =>
   cond (!x1.2.2)
    (some ([],false))
    (some (p0_0.results,true)))
theorem qHx (fl:Nat) (script:ByteArray) (r:((List Result)×Bool)) (hH:qGJ fl script=some r):qAC prog 20 [.v (.string script)] (.t [.w 2 (r.1.map qGA),.v (.bool r.2)]):=by
 refine fns T func20 ?_
 refine AW.q (AW.r (AO.p2 T ?_))
 refine AO.n (AW.q ?_)
 obtain⟨x1,hx2,hH⟩:=zB hH
 rcases hq0_0:x1.1 with _|p0_0
 rw[hq0_0]at hH
 try dsimp only at hH
 refine AW.r (AO.pu T ?_)
 refine AO.x (qAU rfl 1 rfl rfl rfl ((by have q:=qJc fl _ _ (hx2);rw[hq0_0]at q;exact q)) rfl rfl rfl) ?_
 iterate 7 refine AO.pu T ?_
 refine AO.n (AW.q (AW.q ?_))
 refine AW.r (AO.p2 T ?_)
 refine AO.n (AW.c (b:=(!x1.2.2)) rfl (fun hc=>?_) (fun hc=>?_))
 replace hH:=condT hc hH
 refine AW.q (AW.r (AO.p2 T ?_))
 refine AO.n (AW.t ?_)
 have hR:=zS hH;subst hR
 exact retQ.i [] rfl (.t (zG (.c .nil) (zG (.c .v) (zGn))))
 replace hH:=condF hc hH
 refine AW.k (AW.q ?_)
 cases hH
 rw[hq0_0]at hH
 try dsimp only at hH
 refine AW.r (AO.pu T ?_)
 refine AO.x (qAU rfl 1 rfl rfl rfl ((by have q:=qJc fl _ _ (hx2);rw[hq0_0]at q;exact q)) rfl rfl rfl) ?_
 iterate 7 refine AO.pu T ?_
 refine AO.n (AW.q (AW.q ?_))
 refine AW.r (AO.p2 T ?_)
 refine AO.n (AW.c (b:=(!x1.2.2)) rfl (fun hc=>?_) (fun hc=>?_))
 replace hH:=condT hc hH
 refine AW.q (AW.r (AO.p2 T ?_))
 refine AO.n (AW.t ?_)
 have hR:=zS hH;subst hR
 exact retQ.i [] rfl (.t (zG (.c .nil) (zG (.c .v) (zGn))))
 replace hH:=condF hc hH
 refine AW.k (AW.q (AW.r ?_))
 iterate 6 refine AO.pu T ?_
 refine AO.n (AW.t ?_)
 have hR:=zS hH;subst hR
 exact retQ.i [2] rfl (.t (zG (.c (.rowR rfl)) (zG (.c .v) (zGn))))
def qDy (b:List Int):List Int→Nat→Option Bool
 | [],k1 =>
  some true
 |y2::ys3,k1 =>
  (qAV b (k1:Int)).bind fun x12 =>
  cond (y2 != x12)
   (some false)
   (qDy b ys3 (k1+1))
def qIb (a:List Int) (b:List Int):Option Bool :=
 cond ((a.length:Int) != (b.length:Int))
  (some false)
  (qDy b a 0)
theorem qPT (a:List Int) (b:List Int) (r:Bool) (hH:qIb a b=some r):qAC prog 16 [.s (List.map ze0 a),.s (List.map ze0 b)] (.v (.bool r)):=by
 refine fns T func16 ?_
 refine go ?_
 refine AW.cH hH (fun _ hH=>?_) (fun hc hH=>?_)
 refine go ?_
 exact fin
 refine go ?_
 refine AW.loopS (fun s:Nat=>(⟨[(0,sv ze0 a),(1,sv ze0 b),(5,(s:Int))],[],26,[]⟩:St)) (fun s=>s≤a.length∧qDy b (a.drop s) s=some r) (fun s=>a.length-s) 0 ⟨Nat.zero_le _,hH⟩ ?_ ?_
 exact Le.ct 0 0
 rintro k1 ⟨hk,hH⟩
 try dsimp only at hH⊢
 refine AW.boundM (t:=0) (l:=a) rfl (fun hb5=>?_)
 rcases hd4:a.drop k1 with _|⟨y2,ys3⟩
 rw[hd4,qDy]at hH
 have hlt6:=qAF hd4
 refine go ?_
 exact fin
 rw[hd4,qDy]at hH
 have hlt6:=qAG hd4
 refine go ?_
 obtain⟨x12,hx13,hH⟩:=zB hH
 refine AW.drawn 8 1 [] mix (by kernel_rfl) rfl ?_
 refine go ?_
 refine AW.cH hH (fun _ hH=>?_) (fun _ hH=>?_)
 refine go ?_
 exact fin
 refine go ?_
 refine⟨k1+1,⟨hlt6,(zds hd4▸hH)⟩,qCC hlt6,?_⟩
 exact Le.ct 0 0
def qG5 (a:Result) (b:Result):Option Bool :=
 cond (a.skater != b.skater)
  (some false)
  ((qIb a.scores b.scores).bind fun x1 =>
  cond (!x1)
   (some false)
   (some true))
theorem qNs (a:Result) (b:Result) (r:Bool) (hH:qG5 a b=some r):qAC prog 51 [.g (ze6 a),.g (ze6 b)] (.v (.bool r)):=by
 refine fns T func51 ?_
 refine go ?_
 refine AO.x (bxs T 1) ?_
 refine AO.x (bxs T 2) (go ?_)
 refine AW.cH hH (fun _ hH=>?_) (fun hc hH=>?_)
 refine go ?_
 exact fin
 refine go ?_
 obtain⟨x1,hx2,hH⟩:=zB hH
 refine go ?_
 refine AO.w (cVs (qPT _ _ _ (hx2))) (go ?_)
 refine AW.cH hH (fun _ hH=>?_) (fun _ hH=>?_)
 refine go ?_
 exact fin
 refine go ?_
 exact fin
def qCN (b:List Result):List Result→Nat→Option Bool
 | [],k1 =>
  some true
 |y2::ys3,k1 =>
  (qAV b (k1:Int)).bind fun x16 =>
  (qG5 y2 x16).bind fun x18 =>
  cond (!x18)
   (some false)
   (qCN b ys3 (k1+1))
def qFT (a:List Result) (b:List Result):Option Bool :=
 cond ((a.length:Int) != (b.length:Int))
  (some false)
  (qCN b a 0)
theorem qJY (a:List Result) (b:List Result) (r:Bool) (hH:qFT a b=some r):qAC prog 21 [.s (List.map ze6 a),.s (List.map ze6 b)] (.v (.bool r)):=by
 refine fns T func21 ?_
 refine go ?_
 refine AW.cH hH (fun _ hH=>?_) (fun hc hH=>?_)
 refine go ?_
 exact fin
 refine go ?_
 refine AW.loopS (fun s:Nat=>(⟨[(0,sv ze6 a),(1,sv ze6 b),(5,(s:Int))],[],27,[]⟩:St)) (fun s=>s≤a.length∧qCN b (a.drop s) s=some r) (fun s=>a.length-s) 0 ⟨Nat.zero_le _,hH⟩ ?_ ?_
 exact Le.ct 0 0
 rintro k1 ⟨hk,hH⟩
 try dsimp only at hH⊢
 refine AW.boundM (t:=0) (l:=a) rfl (fun hb5=>?_)
 rcases hd4:a.drop k1 with _|⟨y2,ys3⟩
 rw[hd4,qCN]at hH
 have hlt6:=qAF hd4
 refine go ?_
 exact fin
 rw[hd4,qCN]at hH
 have hlt6:=qAG hd4
 refine go ?_
 obtain⟨x16,hx17,x18,hx19,hH⟩:=qAI hH
 refine AW.drawn 8 1 [] mix (by kernel_rfl) rfl ?_
 refine go ?_
 refine AO.w (cVs (qNs _ _ _ (hx19))) (go ?_)
 refine AW.cH hH (fun _ hH=>?_) (fun _ hH=>?_)
 refine go ?_
 exact fin
 refine go ?_
 refine⟨k1+1,⟨hlt6,(zds hd4▸hH)⟩,qCC hlt6,?_⟩
 exact Le.ct 0 0
def qCr:Nat→List Int→Int→Int→Option (((List Int)×Int))
 |0,_,_,_=>none
 |k1+1,v9,v10,v11 =>
  cond (decide (v11<(v9.length:Int)))
   ((qAV v9 v11).bind fun x13 =>
   qCr k1 (v9.set v11.toNat v10) (w64 (v10+1)) (w64 (v11+1)))
   (some (v9,v10))
def qI4 (fl:Nat) (a:List Int) (k:Int):Option ((List Int)×Int) :=
 qCr fl a k 0
theorem qN3 (fl:Nat) (a:List Int) (k:Int) (r:((List Int)×Int)) (hH:qI4 fl a k=some r):qF3 prog 17 [.w 1 (a.map ze0),k] [.w 1 (r.1.map ze0),.u] (.v (.int .i64 r.2)):=by
 refine qUy T func17 rfl (by decide) rfl rfl ?_
 intro L
 show AW _ _ _ (⟨[(0,.R 1),(1,k)],[(1,.row 1 (List.map ze0 a))],19,[(1,L 1)]⟩:St)
 refine AW.q (AW.r (AO.pu T ?_))
 refine AO.n (AW.q (AW.q ?_))
 refine AW.r (AO.pu T ?_)
 refine AO.n (AW.b ?_)
 refine AW.loopS (fun s:Nat×(List Int)×Int×Int=>(⟨[(0,.R 1),(1,s.2.2.1),(5,s.2.2.2)],[(1,.row 1 (List.map ze0 s.2.1))],19,[(1,L 1)]⟩:St)) (fun s=>qCr s.1 s.2.1 s.2.2.1 s.2.2.2=some r) (fun s=>s.1) (fl,a,k,0) hH ?_ ?_
 exact Le.ct 0 0 (hpin:=⟨⟨rfl,rfl⟩,trivial⟩)
 rintro⟨k1,v9,v10,v11⟩ hH
 replace hH:qCr k1 v9 v10 v11=some r:=hH
 try dsimp only
 rcases k1 with _|k1
 cases (show none=some _ from hH)
 rw[qCr]at hH
 refine AW.q (AW.q (AW.r ?_))
 refine AO.p2 T ?_
 refine AO.w (qV6 T) ?_
 refine AO.pu T ?_
 refine AO.n (AW.c (b:=decide (v11<(v9.length:Int))) rfl (fun hc=>?_) (fun hc=>?_))
 replace hH:=condT hc hH
 refine AW.k (AW.q ?_)
 refine AW.b (AW.q ?_)
 obtain⟨x13,hx14,hH⟩:=zB hH
 refine AW.r ?_
 iterate 3 refine AO.pu T ?_
 refine AO.w (ixr T (hx14)) ?_
 refine AO.x (zSr T rfl rfl rfl rfl rfl (zgG (hx14)) rfl rfl rfl rfl (u':=v10) rfl rfl) ?_
 refine AO.n (AW.r ?_)
 refine AO.pu T ?_
 refine AO.w aws ?_
 refine AO.pu T ?_
 refine AO.n (AW.r ?_)
 refine AO.pu T ?_
 refine AO.w aws ?_
 refine AO.pu T ?_
 refine AO.n ?_
 refine⟨(k1,(v9.set v11.toNat v10),w64 (v10+1),w64 (v11+1)),hH,Nat.lt_succ_self _,?_⟩
 exact Le.ct 0 0 (hpin:=⟨⟨rfl,rfl⟩,trivial⟩)
 replace hH:=condF hc hH
 refine AW.exit (AW.q (AW.r ?_))
 refine AO.p2 T ?_
 refine AO.n (AW.t ?_)
 have hR:=zS hH;subst hR
 exact⟨trivial,rfl,_,[],[1],rfl,zG (.c (.rowR rfl)) (zG (.c .u) (zGn)),.c (.c .v),by decide⟩
def qBc (fl:Nat):Nat→List Result→Int→Int→Option (((List Result)×Int))
 |0,_,_,_=>none
 |k1+1,v17,v18,v19 =>
  cond (decide (v19<(v17.length:Int)))
   ((qAV v17 v19).bind fun x21 =>
   (qAV (v17.set v19.toNat (Result.mk v18 x21.scores)) v19).bind fun x23 =>
   (qI4 fl x23.scores (w64 (v18+1))).bind fun x25 =>
   qBc fl k1 ((v17.set v19.toNat (Result.mk v18 x21.scores)).set v19.toNat (Result.mk x23.skater x25.1)) x25.2 (w64 (v19+1)))
   (some (v17,v18))
def qFo (fl:Nat) (a:List Result) (k:Int):Option ((List Result)×Int) :=
 qBc fl fl a k 0
theorem qL3 (fl:Nat) (a:List Result) (k:Int) (r:((List Result)×Int)) (hH:qFo fl a k=some r):qF3 prog 22 [.w 2 (a.map qGA),k] [.w 2 (r.1.map qGA),.u] (.v (.int .i64 r.2)):=by
 refine qUy T func22 rfl (by decide) rfl rfl ?_
 intro L
 show AW _ _ _ (⟨[(0,.R 1),(1,k)],[(1,.row 2 (List.map qGA a))],27,[(1,L 1)]⟩:St)
 refine AW.q (AW.r (AO.pu T ?_))
 refine AO.n (AW.q (AW.q ?_))
 refine AW.r (AO.pu T ?_)
 refine AO.n (AW.b ?_)
 refine AW.loopS (fun s:Nat×(List Result)×Int×Int=>(⟨[(0,.R 1),(1,s.2.2.1),(5,s.2.2.2)],[(1,.row 2 (List.map qGA s.2.1))],27,[(1,L 1)]⟩:St)) (fun s=>qBc fl s.1 s.2.1 s.2.2.1 s.2.2.2=some r) (fun s=>s.1) (fl,a,k,0) hH ?_ ?_
 exact Le.ct 0 0 (hpin:=⟨⟨rfl,rfl⟩,trivial⟩)
 rintro⟨k1,v17,v18,v19⟩ hH
 replace hH:qBc fl k1 v17 v18 v19=some r:=hH
 try dsimp only
 rcases k1 with _|k1
 cases (show none=some _ from hH)
 rw[qBc]at hH
 refine AW.q (AW.q (AW.r ?_))
 refine AO.p2 T ?_
 refine AO.w (qV6 T) ?_
 refine AO.pu T ?_
 refine AO.n (AW.c (b:=decide (v19<(v17.length:Int))) rfl (fun hc=>?_) (fun hc=>?_))
 replace hH:=condT hc hH
 refine AW.k (AW.q ?_)
 refine AW.b (AW.q ?_)
 obtain⟨x21,hx22,hH⟩:=zB hH
 refine AW.r ?_
 iterate 3 refine AO.pu T ?_
 refine AO.w (ixr T (hx22)) ?_
 refine AO.pu T ?_
 refine AO.x (zSr T rfl rfl rfl rfl rfl (zgG (hx22)) rfl rfl rfl rfl (u':=(Result.mk v18 x21.scores)) rfl rfl) ?_
 refine AO.n (AW.q (AW.r ?_))
 refine AO.pu T ?_
 refine AO.w aws ?_
 refine AO.pu T ?_
 refine AO.n ?_
 obtain⟨x23,hx24,hH⟩:=zB hH
 obtain⟨x25,hx26,hH⟩:=zB hH
 refine AW.le (Le.openM 1 v19.toNat 1 4 rfl (zgG (hx24)) rfl rfl) ?_
 refine AW.r (AO.p2 T ?_)
 refine AO.w (qDd T rfl rfl rfl rfl rfl rfl (hx24)) ?_
 refine AO.pu T ?_
 refine AO.w (qBl T rfl rfl rfl rfl rfl) ?_
 refine AO.pu T ?_
 refine AO.x (cMs 5 [4] (S:=qN3 fl _ _ _ (hx26)) (hp:=by exact zG (.c (.rowR rfl)) (zG (.c .v) (zGn)))) ?_
 refine AO.pu T ?_
 refine AO.le (Le.closeM 1 v19.toNat 1 4 rfl rfl (zgG (hx24)) rfl (u':=(Result.mk x23.skater x25.1)) rfl) ?_
 refine AO.n (AW.r ?_)
 refine AO.pu T ?_
 refine AO.w aws ?_
 refine AO.pu T ?_
 refine AO.n ?_
 refine⟨(k1,((v17.set v19.toNat (Result.mk v18 x21.scores)).set v19.toNat (Result.mk x23.skater x25.1)),x25.2,w64 (v19+1)),hH,Nat.lt_succ_self _,?_⟩
 exact Le.ct 0 0 (hpin:=⟨⟨rfl,rfl⟩,trivial⟩)
 replace hH:=condF hc hH
 refine AW.exit (AW.q (AW.r ?_))
 refine AO.p2 T ?_
 refine AO.n (AW.t ?_)
 have hR:=zS hH;subst hR
 exact⟨trivial,rfl,_,[],[1],rfl,zG (.c (.rowR rfl)) (zG (.c .u) (zGn)),.c (.c .v),by decide⟩
def qCt:List Int→Nat→Int→Option Int
 | [],k1,v8 =>
  some v8
 |y2::ys3,k1,v8 =>
  cond (y2 != v8)
   (some (-1))
   (qCt ys3 (k1+1) (w64 (v8+1)))
def qI0 (a:List Int) (k:Int):Option Int :=
 qCt a 0 k
theorem qNu (a:List Int) (k:Int) (r:Int) (hH:qI0 a k=some r):qAC prog 18 [.s (List.map ze0 a),k] (.v (.int .i64 r)):=by
 refine fns T func18 ?_
 refine go ?_
 refine AW.loopS (fun s:Nat×Int=>(⟨[(0,sv ze0 a),(1,s.2),(5,(s.1:Int))],[],21,[]⟩:St)) (fun s=>s.1≤a.length∧qCt (a.drop s.1) s.1 s.2=some r) (fun s=>a.length-s.1) (0,k) ⟨Nat.zero_le _,hH⟩ ?_ ?_
 exact Le.ct 0 0
 rintro⟨k1,v8⟩ ⟨hk,hH⟩
 try dsimp only at hH⊢
 refine AW.boundM (t:=0) (l:=a) rfl (fun hb5=>?_)
 rcases hd4:a.drop k1 with _|⟨y2,ys3⟩
 rw[hd4,qCt]at hH
 have hlt6:=qAF hd4
 refine go ?_
 exact fin
 rw[hd4,qCt]at hH
 have hlt6:=qAG hd4
 refine go ?_
 refine AW.cH hH (fun _ hH=>?_) (fun _ hH=>?_)
 refine go ?_
 exact fin
 refine go ?_
 refine⟨(k1+1,w64 (v8+1)),⟨hlt6,(zds hd4▸hH)⟩,qCC hlt6,?_⟩
 exact Le.ct 0 0
def qBa:List Result→Nat→Int→Option Int
 | [],k1,v12 =>
  some v12
 |y2::ys3,k1,v12 =>
  cond (y2.skater != v12)
   (some (-1))
   ((qI0 y2.scores (w64 (v12+1))).bind fun x14 =>
   cond (decide (x14<0))
    (some (-1))
    (qBa ys3 (k1+1) x14))
def qFm (a:List Result) (k:Int):Option Int :=
 qBa a 0 k
theorem qI3 (a:List Result) (k:Int) (r:Int) (hH:qFm a k=some r):qAC prog 23 [.s (List.map ze6 a),k] (.v (.int .i64 r)):=by
 refine fns T func23 ?_
 refine go ?_
 refine AW.loopS (fun s:Nat×Int=>(⟨[(0,sv ze6 a),(1,s.2),(5,(s.1:Int))],[],31,[]⟩:St)) (fun s=>s.1≤a.length∧qBa (a.drop s.1) s.1 s.2=some r) (fun s=>a.length-s.1) (0,k) ⟨Nat.zero_le _,hH⟩ ?_ ?_
 exact Le.ct 0 0
 rintro⟨k1,v12⟩ ⟨hk,hH⟩
 try dsimp only at hH⊢
 refine AW.boundM (t:=0) (l:=a) rfl (fun hb5=>?_)
 rcases hd4:a.drop k1 with _|⟨y2,ys3⟩
 rw[hd4,qBa]at hH
 have hlt6:=qAF hd4
 refine go ?_
 exact fin
 rw[hd4,qBa]at hH
 have hlt6:=qAG hd4
 refine go ?_
 refine AW.cH hH (fun _ hH=>?_) (fun hc hH=>?_)
 refine go ?_
 exact fin
 refine go ?_
 obtain⟨x14,hx15,hH⟩:=zB hH
 refine go ?_
 refine AO.w (cVs (qNu _ _ _ (hx15))) ?_
 refine gs7 ?_
 refine AW.le (Le.ct 0 0 (σ':=(⟨[(0,sv ze6 a),(1,x14),(5,(k1:Int)),(29,.v (.bool (decide (x14<0))))],[],31,[]⟩:St))) ?_
 refine AW.cH hH (fun _ hH=>?_) (fun _ hH=>?_)
 refine go ?_
 exact fin
 refine go ?_
 refine⟨(k1+1,x14),⟨hlt6,(zds hd4▸hH)⟩,qCC hlt6,?_⟩
 exact Le.ct 0 0
def qCi (fl:Nat) (aScript:ByteArray):Option Bool :=
 cond (decide ((aScript.size:Int)>1048576))
  (some true)
  ((qGM fl aScript).bind fun x1 =>
  (qGJ fl aScript).bind fun x3 =>
  (qFT x3.1 x1.1).bind fun x5 =>
  cond ((!x5)||(!(x3.2==x1.2)))
   (some false)
   ((qFo fl x3.1 1).bind fun x7 =>
   (qFm x7.1 1).bind fun x9 =>
   cond (decide (x9<0))
    (some false)
    (cond (x9 != x7.2)
     (some false)
     (cond ((!x5)||(!(x3.2==x1.2)))
      (some false)
      (cond (decide (x9<0))
       (some false)
       (cond (x9 != x7.2)
        (some false)
        (some true)))))))
theorem qIM (fl:Nat) (aScript:ByteArray) (r:Bool) (hH:qCi fl aScript=some r):qAC prog 6 [.v (.string aScript)] (.v (.bool r)):=by
 refine fns T func6 ?_
 refine go ?_
 refine AW.cH hH (fun _ hH=>?_) (fun hc hH=>?_)
 refine go ?_
 exact fin
 refine go ?_
 obtain⟨x1,hx2,hH⟩:=zB hH
 refine go ?_
 refine AO.w (cVs (qKo fl _ _ (hx2))) (go ?_)
 obtain⟨x3,hx4,hH⟩:=zB hH
 refine go ?_
 refine AO.x (qAU rfl 1 rfl rfl rfl (qHx fl _ _ (hx4)) rfl rfl rfl) (go ?_)
 obtain⟨x5,hx6,hH⟩:=zB hH
 refine go ?_
 refine AO.w (zLV rfl rfl rfl (es:=[sv ze6 x3.1,sv ze6 x1.1]) ⟨(.rowR rfl (.map fun y=>qHw y)),.free rfl,trivial⟩ (qJY _ _ _ (hx6)) (qAc _) rfl) (go ?_)
 refine AO.g0 T ?_
 refine AO.g0 T ?_
 refine AO.g2 T 29 30 ?_
 refine gs2 ?_
 refine AW.le (Le.ct 0 0 (σ':=(⟨[(0,.v (.string aScript)),(3,sv ze6 x1.1),(4,.v (.bool x1.2)),(5,.R 1),(32,.v (.bool ((!x5)||(!(x3.2==x1.2)))))],[(1,ro 2 qGA x3.1)],66,[]⟩:St))) ?_
 refine AW.cH hH (fun _ hH=>?_) (fun hc hH=>?_)
 refine go ?_
 exact fin
 refine go ?_
 obtain⟨x7,hx8,hH⟩:=zB hH
 refine go ?_
 refine AO.x (cMs 2 [1] (S:=qL3 fl _ _ _ (hx8)) (hp:=by exact zG (.c (.rowR rfl)) (zG (.c .v) (zGn)))) (go ?_)
 obtain⟨x9,hx10,hH⟩:=zB hH
 refine go ?_
 refine AO.w (zLV rfl rfl rfl (es:=[sv ze6 x7.1,(1:Int)]) ⟨(.rowR rfl (.map fun y=>qHw y)),.free rfl,trivial⟩ (qI3 _ _ _ (hx10)) (qAc _) rfl) (go ?_)
 refine AW.cH hH (fun _ hH=>?_) (fun hc hH=>?_)
 refine go ?_
 exact fin
 refine go ?_
 refine AW.cH hH (fun _ hH=>?_) (fun hc hH=>?_)
 refine go ?_
 exact fin
 refine go ?_
 refine AO.x (qAU rfl 2 rfl rfl rfl (qHx fl _ _ (hx4)) rfl rfl rfl) (go ?_)
 refine AO.w (zLV rfl rfl rfl (es:=[sv ze6 x3.1,sv ze6 x1.1]) ⟨(.rowR rfl (.map fun y=>qHw y)),.free rfl,trivial⟩ (qJY _ _ _ (hx6)) (qAc _) rfl) (go ?_)
 refine AO.g0 T ?_
 refine AO.g0 T ?_
 refine AO.g2 T 54 55 ?_
 refine gs2 ?_
 refine AW.le (Le.ct 0 0 (σ':=(⟨[(5,.R 1),(7,x7.2),(57,.v (.bool ((!x5)||(!(x3.2==x1.2)))))],[(1,ro 2 qGA x7.1)],66,[]⟩:St))) ?_
 refine AW.cH hH (fun _ hH=>?_) (fun hc hH=>?_)
 refine go ?_
 exact fin
 refine go ?_
 refine AO.w (zLV rfl rfl rfl (es:=[sv ze6 x7.1,(1:Int)]) ⟨(.rowR rfl (.map fun y=>qHw y)),.free rfl,trivial⟩ (qI3 _ _ _ (hx10)) (qAc _) rfl) (go ?_)
 refine AW.cH hH (fun _ hH=>?_) (fun hc hH=>?_)
 refine go ?_
 exact fin
 refine go ?_
 refine AW.cH hH (fun _ hH=>?_) (fun _ hH=>?_)
 refine go ?_
 exact fin
 refine go ?_
 exact fin
end Go.Proofs.YtkidpkmpnbibmaaGreatDoor

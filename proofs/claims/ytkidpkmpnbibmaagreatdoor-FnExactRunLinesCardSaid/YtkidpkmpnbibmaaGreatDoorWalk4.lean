/- The walk, part 4: what each function reached by the law FnExactRunLines computes. No condition. -/
import Derived.Test.YtkidpkmpnbibmaaGreatDoorWalk3
set_option maxRecDepth 4000
set_option maxHeartbeats 1000000
set_option linter.unusedVariables false
set_option linter.unusedSimpArgs false
set_option linter.unusedSectionVars false

namespace Go.Proofs.YtkidpkmpnbibmaaGreatDoor
open Go.AM

def qBK (c:Code) (p:Performance) (factor:Int) (fuel:Nat):List (List Int)→Nat→Int→List Int→Option ((Int × Int × Int × Bool))
 | [],k7,v35,v36 =>
  cond ((v36.length:Int) == 0)
   (some (0,0,0,false))
   ((qAT v36 0).bind fun x38 =>
   (qAT v36 1).bind fun x40 =>
   (qAT v36 2).bind fun x42 =>
   some (x38,x40,x42,true))
 | y8::ys9,k7,v35,v36 =>
  (qAT y8 0).bind fun x44 =>
  (qAT y8 1).bind fun x46 =>
  (qAT y8 2).bind fun x48 =>
  (qD6 p.items x44 x46 x48).bind fun x50 =>
  (qGP fuel c p factor x50).bind fun x52 =>
  cond (decide (x52 > v35))
   (qBK c p factor fuel ys9 (k7+1) x52 y8)
   (qBK c p factor fuel ys9 (k7+1) v35 v36)
def qEK (fuel:Nat) (c:Code) (p:Performance) (factor:Int):Option (Int × Int × Int × Bool) :=
 (qEs fuel c p factor).bind fun x1 =>
 cond (!x1)
  (some (0,0,0,false))
  ((qBM fuel c p factor).bind fun x3 =>
  (qHH fuel p.items).bind fun x5 =>
  qBK c p factor fuel x5 0 x3 [])
theorem qLe (fuel:Nat) (c:Code) (p:Performance) (factor:Int) (r:(Int × Int × Int × Bool)) (hH:qEK fuel c p factor=some r):qAC Tryz.prog 182 [.g (ze4 c),.g (qHE p),factor] (.t [.v (.int .i64 r.1),.v (.int .i64 r.2.1),.v (.int .i64 r.2.2.1),.v (.bool r.2.2.2)]):=by
 refine fns T Tryz.func182 ?_
 refine go ?_
 refine AO.x (bxs T 1) ?_
 refine AO.x (bxs T 2) (go ?_)
 obtain ⟨x1,hx2,hH⟩:=zB hH
 refine go ?_
 refine AO.w (cVs (qHt fuel _ _ _ _ (hx2))) (go ?_)
 refine AW.cH hH (fun _ hH=>?_) (fun hc hH=>?_)
 refine go ?_
 exact fin
 refine go ?_
 obtain ⟨x3,hx4,hH⟩:=zB hH
 refine go ?_
 refine AO.w (cVs (qDc fuel _ _ _ _ (hx4))) ?_
 refine AO.x (qFz T rfl rfl rfl rfl) (go ?_)
 obtain ⟨x5,hx6,hH⟩:=zB hH
 refine go ?_
 refine AO.x (qAQ rfl 3 rfl rfl rfl (qME fuel _ _ (hx6)) rfl rfl rfl) (go ?_)
 refine AW.loopS (fun s:Nat × Int × (List Int)=>(⟨[(2,factor),(3,.p 1 0),(4,.p 2 0),(10,s.2.1),(11,.s (List.map ze0 s.2.2)),(27,.R 3),(28,(x5.length:Int)),(29,(s.1:Int))],[(1,.box (ze4 c)),(2,.box (qHE p)),(3,.row 1 (List.map ze3 x5))],67,[]⟩:St)) (fun s=>s.1 ≤ x5.length∧qBK c p factor fuel (x5.drop s.1) s.1 s.2.1 s.2.2=some r) (fun s=>x5.length - s.1) (0,x3,[]) ⟨Nat.zero_le _,hH⟩ ?_ ?_
 refine Le.trans (Le.nilS 11 rfl) ?_
 exact Le.ct 0 0
 rintro ⟨k7,v35,v36⟩ ⟨hk,hH⟩
 try dsimp only at hH ⊢
 refine AW.boundR (id:=3) (l:=x5) rfl (fun hb11=>?_)
 rcases hd10:x5.drop k7 with _ | ⟨y8,ys9⟩
 rw [hd10,qBK] at hH
 have hlt12:=qAG hd10
 refine go ?_
 refine AW.cH hH (fun _ hH=>?_) (fun hc hH=>?_)
 refine go ?_
 exact fin
 refine go ?_
 obtain ⟨x38,hx39,hH⟩:=zB hH
 obtain ⟨x40,hx41,hH⟩:=zB hH
 obtain ⟨x42,hx43,hH⟩:=zB hH
 refine AW.drawn 11 6 [] mix (by kernel_rfl) rfl ?_
 refine go ?_
 exact fin
 rw [hd10,qBK] at hH
 have hlt12:=qAF hd10
 refine go ?_
 refine AO.w (zLr T rfl rfl rfl rfl (zgG (zgD hd10)) rfl rfl rfl) (go ?_)
 obtain ⟨x44,hx45,hH⟩:=zB hH
 obtain ⟨x46,hx47,hH⟩:=zB hH
 obtain ⟨x48,hx49,hH⟩:=zB hH
 obtain ⟨x50,hx51,hH⟩:=zB hH
 obtain ⟨x52,hx53,hH⟩:=zB hH
 refine AW.drawn 15 6 [] mix (by kernel_rfl) rfl ?_
 refine go ?_
 refine AD.q (FStep.call rfl rfl rfl rfl rfl (qJ3 _ _ _ _ _ (hx51)) rfl rfl) (qBA _ _) (qDY _ _) rfl ?_
 refine AD.nil (AO.w (zLV rfl rfl rfl (es:=[.g (ze4 c),.g (qHE p),factor,.s (List.map ze1 x50)]) ⟨.free rfl,.free rfl,.free rfl,(.rowR rfl (.map fun y=>qF4 y)),trivial⟩ (qMl fuel _ _ _ _ _ (hx53)) (qAi _) rfl) ?_)
 iterate 8 refine gs ?_
 refine AW.le (Le.ct 0 0 (σ':=(⟨[(2,factor),(3,.p 1 0),(4,.p 2 0),(10,v35),(11,.s (List.map ze0 v36)),(13,.s (List.map ze0 y8)),(14,x52),(27,.R 3),(28,(x5.length:Int)),(29,(k7:Int)),(51,.v (.bool (decide (x52 > v35))))],[(1,.box (ze4 c)),(2,.box (qHE p)),(3,.row 1 (List.map ze3 x5))],67,[]⟩:St))) ?_
 refine AW.cH hH (fun _ hH=>?_) (fun _ hH=>?_)
 refine go ?_
 refine ⟨(k7+1,x52,y8),⟨hlt12,(zds hd10 ▸ hH)⟩,qB7 hlt12,?_⟩
 exact Le.ct 0 0
 refine go ?_
 refine ⟨(k7+1,v35,v36),⟨hlt12,(zds hd10 ▸ hH)⟩,qB7 hlt12,?_⟩
 exact Le.ct 0 0

def qAJ (fuel:Nat) (sA:ScriptState) (command:ByteArray) (l:List Int):Option (ScriptState × ByteArray) :=
 cond (decide (command=(⟨#[99,104,101,99,107]⟩:ByteArray)))
  ((qEO fuel sA.code sA.performance.items).bind fun x2 =>
  (qCT x2.1).bind fun x4 =>
  some (sA,x4))
  (cond (decide (command=(⟨#[98,97,115,101]⟩:ByteArray)))
   ((qFo sA.code sA.performance.items).bind fun x7 =>
   (qA8 x7).bind fun x9 =>
   (qB0 x9).bind fun x11 =>
   some (sA,x11))
   (cond (decide (command=(⟨#[115,99,111,114,101]⟩:ByteArray)))
    ((qFR fuel sA.code sA.performance sA.factor).bind fun x14 =>
    (qAu x14).bind fun x16 =>
    some (sA,x16))
    (cond (decide (command=(⟨#[98,111,117,110,100]⟩:ByteArray)))
     ((qEA fuel sA.code sA.performance sA.factor).bind fun x19 =>
     (qB0 x19.1).bind fun x21 =>
     some (sA,x21))
     (cond (decide (command=(⟨#[114,97,110,103,101]⟩:ByteArray)))
      ((qAT l 0).bind fun x24 =>
      (qFC fuel sA.code sA.performance sA.factor x24).bind fun x26 =>
      cond (!x26.2.2)
       (some (sA,(⟨#[110,111]⟩:ByteArray)))
       ((qAu [x26.1,x26.2.1]).bind fun x28 =>
       some (sA,x28)))
      ((qEK fuel sA.code sA.performance sA.factor).bind fun x30 =>
      cond (!x30.2.2.2)
       (some (sA,(⟨#[110,111,110,101]⟩:ByteArray)))
       ((qAu [x30.1,x30.2.1]).bind fun x32 =>
       (qAp (Nat.ble (x32.size+(⟨#[32]⟩:ByteArray).size) qEB)).bind fun u34 =>
       (qAT [(⟨#[110,111,110,101]⟩:ByteArray),(⟨#[100,111,119,110]⟩:ByteArray),(⟨#[101,100,103,101]⟩:ByteArray),(⟨#[118,111,105,100]⟩:ByteArray)] x30.2.2.1).bind fun x36 =>
       (qAp (Nat.ble ((x32++(⟨#[32]⟩:ByteArray)).size+x36.size) qEB)).bind fun u38 =>
       some (sA,((x32++(⟨#[32]⟩:ByteArray))++x36))))))))
theorem qJw (fuel:Nat) (sA:ScriptState) (command:ByteArray) (l:List Int) (r:(ScriptState × ByteArray)) (hH:qAJ fuel sA command l=some r):qGC Tryz.prog 122 [.pw (qI5 sA),.v (.string command),.s (List.map ze0 l)] [.pw (qI5 r.1),.u,.u] (.v (.string r.2)):=by
 refine qML T Tryz.func122 rfl (by decide) rfl rfl ?_
 intro L
 show AW _ _ _ (⟨[(0,.p 1 0),(1,.v (.string command)),(2,.s (List.map ze0 l))],[(1,.box (qI5 sA))],143,[(1,L 1)]⟩:St)
 refine go ?_
 refine AW.cH hH (fun _ hH=>?_) (fun _ hH=>?_)
 refine AW.q ?_
 obtain ⟨x2,hx3,hH⟩:=zB hH
 refine AW.drawn 14 2 [] mix (by kernel_rfl) rfl ?_
 refine go ?_
 refine AD.q (FStep.call rfl rfl rfl rfl rfl (qLv fuel _ _ _ (hx3)) rfl rfl) (qBA _ _) (qDY _ _) rfl ?_
 refine go ?_
 obtain ⟨x4,hx5,hH⟩:=zB hH
 refine go ?_
 refine AO.w (zLV rfl rfl rfl (es:=[.s (List.map ze0 x2.1)]) ⟨(.rowR rfl (.map fun y=>.vs rfl)),trivial⟩ (qIX _ _ (hx5)) (qAi _) rfl) (go ?_)
 exact qEP
 refine go ?_
 refine AW.cH hH (fun _ hH=>?_) (fun _ hH=>?_)
 refine AW.q ?_
 obtain ⟨x7,hx8,hH⟩:=zB hH
 obtain ⟨x9,hx10,hH⟩:=zB hH
 obtain ⟨x11,hx12,hH⟩:=zB hH
 refine AW.drawn 9 3 [] mix (by kernel_rfl) rfl ?_
 refine go ?_
 refine AO.x (qAQ rfl 3 rfl rfl rfl (qMG _ _ _ (hx8)) rfl rfl rfl) ?_
 refine AO.w (zLV rfl rfl rfl (es:=[.s (List.map ze0 x7)]) ⟨(.rowR rfl (.map fun y=>.vs rfl)),trivial⟩ (qEt _ _ (hx10)) (qAi _) rfl) ?_
 refine AO.w (cVs (qGq _ _ (hx12))) (go ?_)
 exact qEP
 refine go ?_
 refine AW.cH hH (fun _ hH=>?_) (fun _ hH=>?_)
 refine AW.q ?_
 obtain ⟨x14,hx15,hH⟩:=zB hH
 obtain ⟨x16,hx17,hH⟩:=zB hH
 refine AW.drawn 12 4 [] mix (by kernel_rfl) rfl ?_
 refine go ?_
 refine AO.x (qAQ rfl 4 rfl rfl rfl (qKK fuel _ _ _ _ (hx15)) rfl rfl rfl) ?_
 refine AO.w (zLV rfl rfl rfl (es:=[.s (List.map ze0 x14)]) ⟨(.rowR rfl (.map fun y=>.vs rfl)),trivial⟩ (qE7 _ _ (hx17)) (qAi _) rfl) (go ?_)
 exact qEP
 refine go ?_
 refine AW.cH hH (fun _ hH=>?_) (fun _ hH=>?_)
 refine AW.q ?_
 obtain ⟨x19,hx20,hH⟩:=zB hH
 refine AW.drawn 17 5 [] mix (by kernel_rfl) rfl ?_
 refine go ?_
 refine AD.vv (cVs (qLC fuel _ _ _ _ (hx20))) ?_
 iterate 7 refine gs ?_
 refine AW.le (Le.ct 0 0 (σ':=(⟨[(9,x19.1)],[(1,.box (qI5 sA))],143,[(1,L 1)]⟩:St)) (hpin:=⟨⟨rfl,rfl⟩,trivial⟩)) ?_
 refine AW.q ?_
 obtain ⟨x21,hx22,hH⟩:=zB hH
 refine go ?_
 refine AO.w (cVs (qGq _ _ (hx22))) (go ?_)
 exact qEP
 refine go ?_
 refine AW.cH hH (fun _ hH=>?_) (fun _ hH=>?_)
 refine AW.q ?_
 obtain ⟨x24,hx25,hH⟩:=zB hH
 obtain ⟨x26,hx27,hH⟩:=zB hH
 refine AW.drawn 22 5 [] mix (by kernel_rfl) rfl ?_
 refine go ?_
 refine AD.vv (cVs (qK7 fuel _ _ _ _ _ (hx27))) ?_
 iterate 9 refine gs ?_
 refine AW.le (Le.ct 0 0 (σ':=(⟨[(11,x26.1),(12,x26.2.1),(13,.v (.bool x26.2.2))],[(1,.box (qI5 sA))],143,[(1,L 1)]⟩:St)) (hpin:=⟨⟨rfl,rfl⟩,trivial⟩)) ?_
 refine go ?_
 refine AW.cH hH (fun _ hH=>?_) (fun hc hH=>?_)
 refine go ?_
 exact qEP
 refine go ?_
 obtain ⟨x28,hx29,hH⟩:=zB hH
 refine go ?_
 refine AO.x (mks T 5 ze0 ([x26.1,x26.2.1])) ?_
 refine AO.w (zLV rfl rfl rfl (es:=[.s (List.map ze0 [x26.1,x26.2.1])]) ⟨(.rowR rfl (.map fun y=>.vs rfl)),trivial⟩ (qE7 _ _ (hx29)) (qAi _) rfl) (go ?_)
 exact qEP
 refine go ?_
 obtain ⟨x30,hx31,hH⟩:=zB hH
 refine AW.drawn 21 6 [] mix (by kernel_rfl) rfl ?_
 refine go ?_
 refine AD.vv (cVs (qLe fuel _ _ _ _ (hx31))) ?_
 iterate 11 refine gs ?_
 refine AW.le (Le.ct 0 0 (σ':=(⟨[(14,x30.1),(15,x30.2.1),(16,x30.2.2.1),(17,.v (.bool x30.2.2.2))],[(1,.box (qI5 sA))],143,[(1,L 1)]⟩:St)) (hpin:=⟨⟨rfl,rfl⟩,trivial⟩)) ?_
 refine go ?_
 refine AW.cH hH (fun _ hH=>?_) (fun _ hH=>?_)
 refine go ?_
 exact qEP
 refine go ?_
 obtain ⟨x32,hx33,hH⟩:=zB hH
 obtain ⟨u34,hx35,hH⟩:=zB hH
 obtain ⟨x36,hx37,hH⟩:=zB hH
 obtain ⟨u38,hx39,hH⟩:=zB hH
 refine AW.drawn 8 6 [] mix (by kernel_rfl) rfl ?_
 refine go ?_
 refine AD.q (FStep.mk T (f:=ze0) (l:=[x30.1,x30.2.1]) rfl rfl rfl rfl rfl rfl rfl rfl rfl (fun _=>rfl) rfl rfl rfl rfl) (by simp [qAr]) (Nat.le_succ _) rfl ?_
 refine AD.vald rfl rfl rfl (zLV rfl rfl rfl (es:=[.s (List.map ze0 [x30.1,x30.2.1])]) ⟨(.rowR rfl (.map fun y=>.vs rfl)),trivial⟩ (qE7 _ _ (hx33)) (qAi _) rfl) ?_
 refine AD.vv (qBX rfl rfl rfl (Nat.le_of_ble_eq_true (qAO (hx35)))) ?_
 refine AD.pu T ?_
 refine AD.vv (qVZ T (l:=[(⟨#[110,111,110,101]⟩:ByteArray),(⟨#[100,111,119,110]⟩:ByteArray),(⟨#[101,100,103,101]⟩:ByteArray),(⟨#[118,111,105,100]⟩:ByteArray)]) (f:=ze2) rfl rfl rfl rfl rfl rfl rfl (fun _=>rfl) (hx37)) ?_
 refine go ?_
 refine AO.w (qBX rfl rfl rfl (Nat.le_of_ble_eq_true (qAO (hx39)))) (go ?_)
 exact qEP

def qAA (sA:ScriptState) (fuel:Nat) (x5:(List ByteArray)) (x7:ByteArray) (x9:(ByteArray × Bool)):List ByteArray→Nat→List Int→Option ((ScriptState × ByteArray))
 | [],k13,v32 =>
  cond (decide (x7=(⟨#[101,108,101,109,101,110,116]⟩:ByteArray)))
   ((qAT x5 1).bind fun x35 =>
   (qAT v32 1).bind fun x37 =>
   (qAT v32 2).bind fun x39 =>
   (qAT v32 3).bind fun x41 =>
   (qEu fuel sA.code (Element.mk x35 x37 x39 x41)).bind fun x43 =>
   (qAn sA x43.1 x43.2).bind fun x45 =>
   some (x45.1,x45.2))
   (cond (decide (x7=(⟨#[108,105,109,105,116]⟩:ByteArray)))
    ((qAe fuel sA x7 v32).bind fun x48 =>
    some (x48.1,x48.2))
    (cond (decide (x7=(⟨#[114,117,108,101,115]⟩:ByteArray)))
     ((qAe fuel sA x7 v32).bind fun x51 =>
     some (x51.1,x51.2))
     (cond (decide (x7=(⟨#[106,117,100,103,101,115]⟩:ByteArray)))
      ((qAM fuel sA x7 v32).bind fun x54 =>
      some (x54.1,x54.2))
      (cond (decide (x7=(⟨#[103,114,97,100,101]⟩:ByteArray)))
       ((qAM fuel sA x7 v32).bind fun x57 =>
       some (x57.1,x57.2))
       (cond (decide (x7=(⟨#[99,111,109,112,111,110,101,110,116]⟩:ByteArray)))
        ((qAM fuel sA x7 v32).bind fun x60 =>
        some (x60.1,x60.2))
        (cond (decide (x7=(⟨#[99,97,108,108]⟩:ByteArray)))
         ((qAH fuel sA x7 v32).bind fun x63 =>
         some (x63.1,x63.2))
         (cond (decide (x7=(⟨#[115,108,105,112,115]⟩:ByteArray)))
          ((qAH fuel sA x7 v32).bind fun x66 =>
          some (x66.1,x66.2))
          (cond (decide (x7=(⟨#[102,97,99,116,111,114]⟩:ByteArray)))
           ((qAH fuel sA x7 v32).bind fun x69 =>
           some (x69.1,x69.2))
           (cond (decide (x7=(⟨#[108,97,116,101]⟩:ByteArray)))
            ((qAH fuel sA x7 v32).bind fun x72 =>
            some (x72.1,x72.2))
            (cond (decide (x7=(⟨#[115,107,97,116,101,114]⟩:ByteArray)))
             ((qA6 fuel sA x7 v32).bind fun x75 =>
             some (x75.1,x75.2))
             (cond (decide (x7=(⟨#[112,108,97,99,101,115]⟩:ByteArray)))
              ((qA6 fuel sA x7 v32).bind fun x78 =>
              some (x78.1,x78.2))
              ((qAJ fuel sA x7 v32).bind fun x80 =>
              some (x80.1,x80.2)))))))))))))
 | y14::ys15,k13,v32 =>
  (qM7 x9.1 (k13:Int)).bind fun b82 =>
  (qCV fuel (b82.toNat:Int) y14).bind fun x84 =>
  cond (!x84.2)
   (some (sA,(⟨#[119,104,97,116]⟩:ByteArray)))
   ((qAp (qAf 8 (v32.length+([x84.1]).length))).bind fun u86 =>
   qAA sA fuel x5 x7 x9 ys15 (k13+1) (v32++[x84.1]))
def qAc (fuel:Nat) (sA:ScriptState) (line:ByteArray):Option (ScriptState × ByteArray) :=
 (qBZ line (⟨#[105,116,101,109,32]⟩:ByteArray)).bind fun x1 =>
 cond x1.2
  ((qBF fuel sA x1.1).bind fun x3 =>
  some (x3.1,x3.2))
  ((qB5 line (⟨#[32]⟩:ByteArray)).bind fun x5 =>
  (qAT x5 0).bind fun x7 =>
  (qFD x7).bind fun x9 =>
  cond ((!x9.2) || ((x9.1.size:Int) != (w64 ((x5.length:Int) - 1))))
   (some (sA,(⟨#[119,104,97,116]⟩:ByteArray)))
   ((qCx x5 1).bind fun x11 =>
   qAA sA fuel x5 x7 x9 x11 0 []))
theorem qJg (fuel:Nat) (sA:ScriptState) (line:ByteArray) (r:(ScriptState × ByteArray)) (hH:qAc fuel sA line=some r):qGC Tryz.prog 76 [.pw (qI5 sA),.v (.string line)] [.pw (qI5 r.1),.u] (.v (.string r.2)):=by
 refine qML T Tryz.func76 rfl (by decide) rfl rfl ?_
 intro L
 show AW _ _ _ (⟨[(0,.p 1 0),(1,.v (.string line))],[(1,.box (qI5 sA))],129,[(1,L 1)]⟩:St)
 iterate 6 refine gs ?_
 obtain ⟨x1,hx2,hH⟩:=zB hH
 iterate 2 refine gs ?_
 refine AO.w (cVs (qHv _ _ _ (hx2))) ?_
 iterate 10 refine gs ?_
 refine AW.cH hH (fun _ hH=>?_) (fun hc hH=>?_)
 refine AW.q ?_
 obtain ⟨x3,hx4,hH⟩:=zB hH
 iterate 3 refine gs ?_
 refine AO.x (cMs 2 [1] (S:=qIF fuel _ _ _ (hx4)) (hp:=by exact zG (.c (.box rfl rfl)) (zG (.c .v) (zGn)))) ?_
 iterate 3 refine gs ?_
 exact qEP
 iterate 2 refine gs ?_
 obtain ⟨x5,hx6,hH⟩:=zB hH
 iterate 2 refine gs ?_
 refine AO.x (qAQ rfl 2 rfl rfl rfl (qHp _ _ _ (hx6)) rfl rfl rfl) ?_
 iterate 3 refine gs ?_
 obtain ⟨x7,hx8,hH⟩:=zB hH
 iterate 3 refine gs ?_
 refine AO.w (zLr T rfl rfl rfl rfl (zgG (hx8)) rfl rfl rfl) ?_
 refine AO.x (qFz T rfl rfl rfl rfl) ?_
 iterate 4 refine gs ?_
 obtain ⟨x9,hx10,hH⟩:=zB hH
 iterate 2 refine gs ?_
 refine AO.w (cVs (qO7 _ _ (hx10))) ?_
 iterate 6 refine gs ?_
 refine AW.le (Le.ct 0 0 (σ':=(⟨[(0,.p 1 0),(7,.R 2),(8,.v (.string x7)),(9,.w 1 []),(10,.v (.string x9.1)),(11,.v (.bool x9.2))],[(1,.box (qI5 sA)),(2,.row 1 (List.map ze2 x5))],129,[(1,L 1)]⟩:St)) (hpin:=⟨⟨rfl,rfl⟩,trivial⟩)) ?_
 iterate 6 refine gs ?_
 refine AO.g0 T ?_
 refine AO.g1 T 39 ?_
 refine AO.g0 T ?_
 refine AO.d1 41 (fun hg=>qJO T rfl rfl rfl rfl) ?_
 refine AO.d1 42 (fun hg=>aws) ?_
 refine AO.g2 T 40 43 ?_
 iterate 2 refine gs ?_
 refine AW.cH hH (fun _ hH=>?_) (fun hc hH=>?_)
 iterate 5 refine gs ?_
 exact qEP
 iterate 3 refine gs ?_
 obtain ⟨x11,hx12,hH⟩:=zB hH
 refine AW.le (Le.fM 2 (g:=ze2) rfl (fun y=>.vs rfl)) ?_
 iterate 2 refine gs ?_
 refine AO.w (qDG T rfl rfl rfl rfl rfl (hx12) (fun _=>rfl)) ?_
 iterate 4 refine gs ?_
 refine AW.loopS (fun s:Nat × (List Int)=>(⟨[(0,.p 1 0),(7,.s (List.map ze2 x5)),(8,.v (.string x7)),(9,.R 6),(10,.v (.string x9.1)),(47,.s (List.map ze2 x11)),(48,(x11.length:Int)),(49,(s.1:Int))],[(1,.box (qI5 sA)),(6,.row 1 (List.map ze0 s.2))],129,[(1,L 1)]⟩:St)) (fun s=>s.1 ≤ x11.length∧qAA sA fuel x5 x7 x9 (x11.drop s.1) s.1 s.2=some r) (fun s=>x11.length - s.1) (0,[]) ⟨Nat.zero_le _,hH⟩ ?_ ?_
 refine Le.trans (Le.void 9 6 1 rfl rfl) ?_
 exact Le.ct 0 0 (hpin:=⟨⟨rfl,rfl⟩,trivial⟩)
 rintro ⟨k13,v32⟩ ⟨hk,hH⟩
 try dsimp only at hH ⊢
 refine AW.boundM (t:=47) (l:=x11) rfl (fun hb17=>?_)
 rcases hd16:x11.drop k13 with _ | ⟨y14,ys15⟩
 rw [hd16,qAA] at hH
 have hlt18:=qAG hd16
 iterate 18 refine gs ?_
 refine AW.cH hH (fun _ hH=>?_) (fun _ hH=>?_)
 refine AW.q ?_
 obtain ⟨x35,hx36,hH⟩:=zB hH
 obtain ⟨x37,hx38,hH⟩:=zB hH
 obtain ⟨x39,hx40,hH⟩:=zB hH
 obtain ⟨x41,hx42,hH⟩:=zB hH
 obtain ⟨x43,hx44,hH⟩:=zB hH
 obtain ⟨x45,hx46,hH⟩:=zB hH
 refine AW.drawn 21 7 [] mix (by kernel_rfl) rfl ?_
 iterate 9 refine gs ?_
 refine AD.vv (ixr T (hx38)) ?_
 refine AD.vv (zLr T rfl rfl rfl rfl (zgG (hx38)) rfl rfl rfl) ?_
 refine AD.pu T ?_
 refine AD.vv (ixr T (hx40)) ?_
 refine AD.vv (zLr T rfl rfl rfl rfl (zgG (hx40)) rfl rfl rfl) ?_
 refine AD.pu T ?_
 refine AD.vv (ixr T (hx42)) ?_
 refine AD.vv (zLr T rfl rfl rfl rfl (zgG (hx42)) rfl rfl rfl) ?_
 refine gs ?_
 refine AD.q (FStep.call rfl rfl rfl rfl rfl (qL2 fuel _ _ _ (hx44)) rfl rfl) (qBA _ _) (qDY _ _) rfl ?_
 iterate 3 refine gs ?_
 refine AO.le (Le.fM 7 (g:=ze5) rfl (fun y=>.vs rfl)) ?_
 refine AO.le (Le.fM 8 (g:=ze0) rfl (fun y=>.vs rfl)) ?_
 refine AO.x (cMs 9 [1] (S:=qD7 _ _ _ _ (hx46)) (hp:=by exact zG (.c (.box rfl rfl)) (zG (.g (zC .s (zC .s (zC .v (zC .v (zC .v (zC .v (zCn)))))))) (zG (.c .v) (zGn))))) ?_
 iterate 2 refine gs ?_
 refine AW.le (Le.ct 0 0 (σ':=(⟨[(4,.v (.string x45.2))],[(1,.box (qI5 x45.1))],129,[(1,L 1)]⟩:St)) (hpin:=⟨⟨rfl,rfl⟩,trivial⟩)) ?_
 refine AW.t ?_
 exact qEP
 iterate 6 refine gs ?_
 refine AW.cH hH (fun hc47 hH=>?_) (fun _ hH=>?_)
 refine AW.k (AW.condT' rfl hc47 ?_)
 refine AW.q ?_
 obtain ⟨x48,hx49,hH⟩:=zB hH
 refine AW.le (Le.fM 6 (g:=ze0) rfl (fun y=>.vs rfl)) ?_
 iterate 4 refine gs ?_
 refine AO.x (cMs 9 [1] (S:=qGd fuel _ _ _ _ (hx49)) (hp:=by exact zG (.c (.box rfl rfl)) (zG (.c .v) (zG (.c .s) (zGn))))) ?_
 iterate 3 refine gs ?_
 exact qEP
 iterate 4 refine gs ?_
 refine AW.cH hH (fun _ hH=>?_) (fun _ hH=>?_)
 refine AW.q ?_
 obtain ⟨x51,hx52,hH⟩:=zB hH
 refine AW.le (Le.fM 6 (g:=ze0) rfl (fun y=>.vs rfl)) ?_
 iterate 4 refine gs ?_
 refine AO.x (cMs 9 [1] (S:=qGd fuel _ _ _ _ (hx52)) (hp:=by exact zG (.c (.box rfl rfl)) (zG (.c .v) (zG (.c .s) (zGn))))) ?_
 iterate 3 refine gs ?_
 exact qEP
 iterate 6 refine gs ?_
 refine AW.cH hH (fun hc53 hH=>?_) (fun _ hH=>?_)
 refine AW.k (AW.condT' rfl hc53 ?_)
 refine AW.q ?_
 obtain ⟨x54,hx55,hH⟩:=zB hH
 refine AW.le (Le.fM 6 (g:=ze0) rfl (fun y=>.vs rfl)) ?_
 iterate 4 refine gs ?_
 refine AO.x (cMs 9 [1] (S:=qEj fuel _ _ _ _ (hx55)) (hp:=by exact zG (.c (.box rfl rfl)) (zG (.c .v) (zG (.c .s) (zGn))))) ?_
 iterate 3 refine gs ?_
 exact qEP
 iterate 5 refine gs ?_
 refine AW.cH hH (fun hc56 hH=>?_) (fun _ hH=>?_)
 refine AW.k (AW.condT' rfl hc56 ?_)
 refine AW.q ?_
 obtain ⟨x57,hx58,hH⟩:=zB hH
 refine AW.le (Le.fM 6 (g:=ze0) rfl (fun y=>.vs rfl)) ?_
 iterate 4 refine gs ?_
 refine AO.x (cMs 9 [1] (S:=qEj fuel _ _ _ _ (hx58)) (hp:=by exact zG (.c (.box rfl rfl)) (zG (.c .v) (zG (.c .s) (zGn))))) ?_
 iterate 3 refine gs ?_
 exact qEP
 iterate 4 refine gs ?_
 refine AW.cH hH (fun _ hH=>?_) (fun _ hH=>?_)
 refine AW.q ?_
 obtain ⟨x60,hx61,hH⟩:=zB hH
 refine AW.le (Le.fM 6 (g:=ze0) rfl (fun y=>.vs rfl)) ?_
 iterate 4 refine gs ?_
 refine AO.x (cMs 9 [1] (S:=qEj fuel _ _ _ _ (hx61)) (hp:=by exact zG (.c (.box rfl rfl)) (zG (.c .v) (zG (.c .s) (zGn))))) ?_
 iterate 3 refine gs ?_
 exact qEP
 iterate 6 refine gs ?_
 refine AW.cH hH (fun hc62 hH=>?_) (fun _ hH=>?_)
 refine AW.k (AW.condT' rfl hc62 ?_)
 refine AW.q ?_
 obtain ⟨x63,hx64,hH⟩:=zB hH
 refine AW.le (Le.fM 6 (g:=ze0) rfl (fun y=>.vs rfl)) ?_
 iterate 4 refine gs ?_
 refine AO.x (cMs 9 [1] (S:=qCq fuel _ _ _ _ (hx64)) (hp:=by exact zG (.c (.box rfl rfl)) (zG (.c .v) (zG (.c .s) (zGn))))) ?_
 iterate 3 refine gs ?_
 exact qEP
 iterate 5 refine gs ?_
 refine AW.cH hH (fun hc65 hH=>?_) (fun _ hH=>?_)
 refine AW.k (AW.condT' rfl hc65 ?_)
 refine AW.q ?_
 obtain ⟨x66,hx67,hH⟩:=zB hH
 refine AW.le (Le.fM 6 (g:=ze0) rfl (fun y=>.vs rfl)) ?_
 iterate 4 refine gs ?_
 refine AO.x (cMs 9 [1] (S:=qCq fuel _ _ _ _ (hx67)) (hp:=by exact zG (.c (.box rfl rfl)) (zG (.c .v) (zG (.c .s) (zGn))))) ?_
 iterate 3 refine gs ?_
 exact qEP
 iterate 5 refine gs ?_
 refine AW.cH hH (fun hc68 hH=>?_) (fun _ hH=>?_)
 refine AW.k (AW.condT' rfl hc68 ?_)
 refine AW.q ?_
 obtain ⟨x69,hx70,hH⟩:=zB hH
 refine AW.le (Le.fM 6 (g:=ze0) rfl (fun y=>.vs rfl)) ?_
 iterate 4 refine gs ?_
 refine AO.x (cMs 9 [1] (S:=qCq fuel _ _ _ _ (hx70)) (hp:=by exact zG (.c (.box rfl rfl)) (zG (.c .v) (zG (.c .s) (zGn))))) ?_
 iterate 2 refine gs ?_
 refine AW.le (Le.ct 0 0 (σ':=(⟨[(4,.v (.string x69.2))],[(1,.box (qI5 x69.1))],129,[(1,L 1)]⟩:St)) (hpin:=⟨⟨rfl,rfl⟩,trivial⟩)) ?_
 refine AW.t ?_
 exact qEP
 iterate 4 refine gs ?_
 refine AW.cH hH (fun _ hH=>?_) (fun _ hH=>?_)
 refine AW.q ?_
 obtain ⟨x72,hx73,hH⟩:=zB hH
 refine AW.le (Le.fM 6 (g:=ze0) rfl (fun y=>.vs rfl)) ?_
 iterate 4 refine gs ?_
 refine AO.x (cMs 9 [1] (S:=qCq fuel _ _ _ _ (hx73)) (hp:=by exact zG (.c (.box rfl rfl)) (zG (.c .v) (zG (.c .s) (zGn))))) ?_
 iterate 2 refine gs ?_
 refine AW.le (Le.ct 0 0 (σ':=(⟨[(4,.v (.string x72.2))],[(1,.box (qI5 x72.1))],129,[(1,L 1)]⟩:St)) (hpin:=⟨⟨rfl,rfl⟩,trivial⟩)) ?_
 refine AW.t ?_
 exact qEP
 iterate 6 refine gs ?_
 refine AW.le (Le.ct 0 0 (σ':=(⟨[(0,.p 1 0),(8,.v (.string x7)),(9,.R 6),(69,.v (.string x7)),(118,.v (.bool (decide (x7=(⟨#[115,107,97,116,101,114]⟩:ByteArray)))))],[(1,.box (qI5 sA)),(6,.row 1 (List.map ze0 v32))],129,[(1,L 1)]⟩:St)) (hpin:=⟨⟨rfl,rfl⟩,trivial⟩)) ?_
 refine AW.cH hH (fun hc74 hH=>?_) (fun _ hH=>?_)
 refine AW.k (AW.condT' rfl hc74 ?_)
 refine AW.q ?_
 obtain ⟨x75,hx76,hH⟩:=zB hH
 refine AW.le (Le.fM 6 (g:=ze0) rfl (fun y=>.vs rfl)) ?_
 iterate 4 refine gs ?_
 refine AO.x (cMs 9 [1] (S:=qGc fuel _ _ _ _ (hx76)) (hp:=by exact zG (.c (.box rfl rfl)) (zG (.c .v) (zG (.c .s) (zGn))))) ?_
 iterate 3 refine gs ?_
 exact qEP
 iterate 4 refine gs ?_
 refine AW.cH hH (fun _ hH=>?_) (fun _ hH=>?_)
 refine AW.q ?_
 obtain ⟨x78,hx79,hH⟩:=zB hH
 refine AW.le (Le.fM 6 (g:=ze0) rfl (fun y=>.vs rfl)) ?_
 iterate 4 refine gs ?_
 refine AO.x (cMs 9 [1] (S:=qGc fuel _ _ _ _ (hx79)) (hp:=by exact zG (.c (.box rfl rfl)) (zG (.c .v) (zG (.c .s) (zGn))))) ?_
 iterate 3 refine gs ?_
 exact qEP
 iterate 2 refine gs ?_
 obtain ⟨x80,hx81,hH⟩:=zB hH
 refine AW.le (Le.fM 6 (g:=ze0) rfl (fun y=>.vs rfl)) ?_
 iterate 4 refine gs ?_
 refine AO.x (cMs 9 [1] (S:=qJw fuel _ _ _ _ (hx81)) (hp:=by exact zG (.c (.box rfl rfl)) (zG (.c .v) (zG (.c .s) (zGn))))) ?_
 iterate 3 refine gs ?_
 exact qEP
 rw [hd16,qAA] at hH
 have hlt18:=qAF hd16
 iterate 18 refine gs ?_
 obtain ⟨b82,hx83,hH⟩:=zB hH
 obtain ⟨x84,hx85,hH⟩:=zB hH
 iterate 3 refine gs ?_
 refine AO.w (qBG T rfl rfl rfl rfl (hx83)) ?_
 refine AO.pu T ?_
 refine AO.w (cVs (qNc fuel _ _ _ (hx85))) ?_
 iterate 12 refine gs ?_
 refine AW.cH hH (fun _ hH=>?_) (fun _ hH=>?_)
 iterate 5 refine gs ?_
 exact qEP
 refine AW.k ?_
 obtain ⟨u86,hx87,hH⟩:=zB hH
 iterate 3 refine gs ?_
 refine AO.x (mks T 9 ze0 ([x84.1])) ?_
 refine AO.x (rvs T 10 (hfit:=by exact qAO (hx87))) ?_
 iterate 6 refine gs ?_
 refine ⟨(k13+1,(v32++[x84.1])),⟨hlt18,(zds hd16 ▸ hH)⟩,qB7 hlt18,?_⟩
 exact Le.ct 10 6 (hpin:=⟨⟨rfl,rfl⟩,trivial⟩)

def qBP (fuel:Nat):List ByteArray→Nat→List Element→List Int→Int→Int→Int→Int→List Item→List (List Int)→List (List Int)→Int→Int→Int→Int→List Result→List ByteArray→Option (((Option ScriptState) × (List ByteArray) × Bool))
 | [],k5,v34,v35,v36,v37,v38,v39,v40,v41,v42,v43,v44,v45,v46,v47,v48 =>
  some ((some (ScriptState.mk (Code.mk v34 v35 v36 v37 v38 v39) (Performance.mk v40 (Marks.mk v41 v42) (Slips.mk v43 v44 v45)) v46 v47)),v48,true)
 | y6::ys7,k5,v34,v35,v36,v37,v38,v39,v40,v41,v42,v43,v44,v45,v46,v47,v48 =>
  (qAc fuel (ScriptState.mk (Code.mk v34 v35 v36 v37 v38 v39) (Performance.mk v40 (Marks.mk v41 v42) (Slips.mk v43 v44 v45)) v46 v47) y6).bind fun x50 =>
  (qAp (qAf 16 (v48.length+([x50.2]).length))).bind fun u52 =>
  qBP fuel ys7 (k5+1) x50.1.code.elements x50.1.code.limits x50.1.code.repeats x50.1.code.bonus x50.1.code.keeps x50.1.code.fall x50.1.performance.items x50.1.performance.marks.grades x50.1.performance.marks.components x50.1.performance.slips.falls x50.1.performance.slips.seconds x50.1.performance.slips.other x50.1.factor x50.1.results (v48++[x50.2])
def qFJ (fuel:Nat) (script:ByteArray):Option ((Option ScriptState) × (List ByteArray) × Bool) :=
 (qCS script).bind fun x1 =>
 cond (!x1.2)
  (some (none,[],false))
  ((qGo fuel ).bind fun x3 =>
  qBP fuel x1.1 0 x3.code.elements x3.code.limits x3.code.repeats x3.code.bonus x3.code.keeps x3.code.fall x3.performance.items x3.performance.marks.grades x3.performance.marks.components x3.performance.slips.falls x3.performance.slips.seconds x3.performance.slips.other x3.factor x3.results [])
theorem qJM (fuel:Nat) (script:ByteArray) (r:((Option ScriptState) × (List ByteArray) × Bool)) (hH:qFJ fuel script=some r):qAC Tryz.prog 46 [.v (.string script)] (.t [pnO qI5 r.1,.w 1 (r.2.1.map ze2),.v (.bool r.2.2)]):=by
 refine fns T Tryz.func46 ?_
 iterate 7 refine gs ?_
 obtain ⟨x1,hx2,hH⟩:=zB hH
 iterate 2 refine gs ?_
 refine AO.x (qAQ rfl 1 rfl rfl rfl (qLl _ _ (hx2)) rfl rfl rfl) ?_
 iterate 12 refine gs ?_
 refine AW.cH hH (fun _ hH=>?_) (fun _ hH=>?_)
 iterate 7 refine gs ?_
 exact fin
 iterate 2 refine gs ?_
 obtain ⟨x3,hx4,hH⟩:=zB hH
 refine AW.r (AO.x (qAQ rfl 2 rfl rfl rfl (qNR fuel _ (hx4)) rfl rfl rfl) ?_)
 refine AO.x (qFz T rfl rfl rfl rfl) ?_
 iterate 11 refine gs ?_
 refine AW.loopS (fun s:Nat × (List Element) × (List Int) × Int × Int × Int × Int × (List Item) × (List (List Int)) × (List (List Int)) × Int × Int × Int × Int × (List Result) × (List ByteArray)=>(⟨[(7,.p 2 0),(8,.R 6),(20,.R 1),(21,(x1.1.length:Int)),(22,(s.1:Int))],[(1,.row 1 (List.map ze2 x1.1)),(2,.box [.s (List.map ze5 s.2.1),.s (List.map ze0 s.2.2.1),s.2.2.2.1,s.2.2.2.2.1,s.2.2.2.2.2.1,s.2.2.2.2.2.2.1,.s (List.map ze1 s.2.2.2.2.2.2.2.1),.s (List.map ze3 s.2.2.2.2.2.2.2.2.1),.s (List.map ze3 s.2.2.2.2.2.2.2.2.2.1),s.2.2.2.2.2.2.2.2.2.2.1,s.2.2.2.2.2.2.2.2.2.2.2.1,s.2.2.2.2.2.2.2.2.2.2.2.2.1,s.2.2.2.2.2.2.2.2.2.2.2.2.2.1,.s (List.map ze7 s.2.2.2.2.2.2.2.2.2.2.2.2.2.2.1)]),(6,.row 1 (List.map ze2 s.2.2.2.2.2.2.2.2.2.2.2.2.2.2.2))],35,[]⟩:St)) (fun s=>s.1 ≤ x1.1.length∧qBP fuel (x1.1.drop s.1) s.1 s.2.1 s.2.2.1 s.2.2.2.1 s.2.2.2.2.1 s.2.2.2.2.2.1 s.2.2.2.2.2.2.1 s.2.2.2.2.2.2.2.1 s.2.2.2.2.2.2.2.2.1 s.2.2.2.2.2.2.2.2.2.1 s.2.2.2.2.2.2.2.2.2.2.1 s.2.2.2.2.2.2.2.2.2.2.2.1 s.2.2.2.2.2.2.2.2.2.2.2.2.1 s.2.2.2.2.2.2.2.2.2.2.2.2.2.1 s.2.2.2.2.2.2.2.2.2.2.2.2.2.2.1 s.2.2.2.2.2.2.2.2.2.2.2.2.2.2.2=some r) (fun s=>x1.1.length - s.1) (0,x3.code.elements,x3.code.limits,x3.code.repeats,x3.code.bonus,x3.code.keeps,x3.code.fall,x3.performance.items,x3.performance.marks.grades,x3.performance.marks.components,x3.performance.slips.falls,x3.performance.slips.seconds,x3.performance.slips.other,x3.factor,x3.results,[]) ⟨Nat.zero_le _,hH⟩ ?_ ?_
 refine Le.trans (Le.void 8 6 1 rfl rfl) ?_
 exact Le.ct 0 0
 rintro ⟨k5,v34,v35,v36,v37,v38,v39,v40,v41,v42,v43,v44,v45,v46,v47,v48⟩ ⟨hk,hH⟩
 try dsimp only at hH ⊢
 refine AW.boundR (id:=1) (l:=x1.1) rfl (fun hb9=>?_)
 rcases hd8:x1.1.drop k5 with _ | ⟨y6,ys7⟩
 rw [hd8,qBP] at hH
 have hlt10:=qAG hd8
 iterate 16 refine gs ?_
 have hR:=zS hH;subst hR
 exact retQ.i [2,6] rfl (.t (zG (.pb rfl (zC .s (zC .s (zC .v (zC .v (zC .v (zC .v (zC .s (zC .s (zC .s (zC .v (zC .v (zC .v (zC .v (zC .s (zCn)))))))))))))))) (zG (.c (.rowR rfl)) (zG (.c .v) (zGn)))))
 rw [hd8,qBP] at hH
 have hlt10:=qAF hd8
 iterate 12 refine gs ?_
 refine AO.w (zLr T rfl rfl rfl rfl (zgG (zgD hd8)) rfl rfl rfl) ?_
 iterate 2 refine gs ?_
 obtain ⟨x50,hx51,hH⟩:=zB hH
 obtain ⟨u52,hx53,hH⟩:=zB hH
 iterate 4 refine gs ?_
 refine AO.x (cMs 7 [2] (S:=qJg fuel _ _ _ (hx51)) (hp:=by exact zG (.c (.box rfl rfl)) (zG (.c .v) (zGn)))) ?_
 refine AO.x (mks T 7 ze2 ([x50.2])) ?_
 refine AO.x (rvs T 8 (hfit:=by exact qAO (hx53))) ?_
 iterate 6 refine gs ?_
 refine ⟨(k5+1,x50.1.code.elements,x50.1.code.limits,x50.1.code.repeats,x50.1.code.bonus,x50.1.code.keeps,x50.1.code.fall,x50.1.performance.items,x50.1.performance.marks.grades,x50.1.performance.marks.components,x50.1.performance.slips.falls,x50.1.performance.slips.seconds,x50.1.performance.slips.other,x50.1.factor,x50.1.results,(v48++[x50.2])),⟨hlt10,(zds hd8 ▸ hH)⟩,qB7 hlt10,?_⟩
 exact Le.ct 8 6

def qFL:List ByteArray→Nat→ByteArray→Option ByteArray
 | [],k3,v18 =>
  some v18
 | y4::ys5,k3,v18 =>
  (qAp (Nat.ble (y4.size+(⟨#[10]⟩:ByteArray).size) qEB)).bind fun u20 =>
  (qAp (Nat.ble (v18.size+(y4++(⟨#[10]⟩:ByteArray)).size) 140737488355328)).bind fun u22 =>
  qFL ys5 (k3+1) (v18++(y4++(⟨#[10]⟩:ByteArray)))
def qCe:List ByteArray→Nat→ByteArray→Option ByteArray
 | [],k3,v18 =>
  some v18
 | y4::ys5,k3,v18 =>
  (qAp (Nat.ble (y4.size+(⟨#[10]⟩:ByteArray).size) qEB)).bind fun u20 =>
  (qAp (Nat.ble (v18.size+(y4++(⟨#[10]⟩:ByteArray)).size) 140737488355328)).bind fun u22 =>
  qCe ys5 (k3+1) (v18++(y4++(⟨#[10]⟩:ByteArray)))
def qIb (fuel:Nat) (script:ByteArray):Option ByteArray :=
 (qFJ fuel script).bind fun x1 =>
 (match x1.1 with
  | none =>
   qFL x1.2.1 0 (⟨#[]⟩:ByteArray)
  | some p0_0 =>
   qCe x1.2.1 0 (⟨#[]⟩:ByteArray))
theorem qNa (fuel:Nat) (script:ByteArray) (r:ByteArray) (hH:qIb fuel script=some r):qAC Tryz.prog 11 [.v (.string script)] (.v (.string r)):=by
 refine fns T Tryz.func11 ?_
 refine go ?_
 obtain ⟨x1,hx2,hH⟩:=zB hH
 rcases hq0_0:x1.1 with _ | p0_0
 rw [hq0_0] at hH
 try dsimp only at hH
 refine go ?_
 refine AO.x (qAQ rfl 1 rfl rfl rfl ((by have q:=qJM fuel _ _ (hx2);rw [hq0_0] at q;exact q)) rfl rfl rfl) (go ?_)
 refine AO.x (qIs T false (U:=5) rfl 2 rfl rfl rfl rfl rfl) (go ?_)
 refine AW.loopS (fun s:Nat × ByteArray=>(⟨[(6,.p 2 0),(15,.R 1),(16,(x1.2.1.length:Int)),(17,(s.1:Int))],[(1,.row 1 (List.map ze2 x1.2.1)),(2,.bld false 75 5 s.2)],26,[]⟩:St)) (fun s=>s.1 ≤ x1.2.1.length∧qFL (x1.2.1.drop s.1) s.1 s.2=some r) (fun s=>x1.2.1.length - s.1) (0,(⟨#[]⟩:ByteArray)) ⟨Nat.zero_le _,hH⟩ ?_ ?_
 exact Le.ct 0 0
 rintro ⟨k3,v18⟩ ⟨hk,hH⟩
 try dsimp only at hH ⊢
 refine AW.boundR (id:=1) (l:=x1.2.1) rfl (fun hb7=>?_)
 rcases hd6:x1.2.1.drop k3 with _ | ⟨y4,ys5⟩
 rw [hd6,qFL] at hH
 have hlt8:=qAG hd6
 refine go ?_
 refine AO.x (qPs rfl rfl rfl rfl qC2 rfl) (go ?_)
 exact fin
 rw [hd6,qFL] at hH
 have hlt8:=qAF hd6
 refine go ?_
 refine AO.w (zLr T rfl rfl rfl rfl (zgG (zgD hd6)) rfl rfl rfl) (go ?_)
 obtain ⟨u20,hx21,hH⟩:=zB hH
 obtain ⟨u22,hx23,hH⟩:=zB hH
 refine go ?_
 refine AO.w (qBX rfl rfl rfl (Nat.le_of_ble_eq_true (qAO (hx21)))) ?_
 refine AO.x (qKQ rfl rfl rfl rfl (qAO (hx23)) qAZ rfl) (go ?_)
 refine ⟨(k3+1,(v18++(y4++(⟨#[10]⟩:ByteArray)))),⟨hlt8,(zds hd6 ▸ hH)⟩,qB7 hlt8,?_⟩
 exact Le.ct 0 0
 rw [hq0_0] at hH
 try dsimp only at hH
 refine go ?_
 refine AO.x (qAQ rfl 1 rfl rfl rfl ((by have q:=qJM fuel _ _ (hx2);rw [hq0_0] at q;exact q)) rfl rfl rfl) (go ?_)
 refine AO.x (qIs T false (U:=5) rfl 3 rfl rfl rfl rfl rfl) (go ?_)
 refine AW.loopS (fun s:Nat × ByteArray=>(⟨[(6,.p 3 0),(15,.R 2),(16,(x1.2.1.length:Int)),(17,(s.1:Int))],[(2,.row 1 (List.map ze2 x1.2.1)),(3,.bld false 75 5 s.2)],26,[]⟩:St)) (fun s=>s.1 ≤ x1.2.1.length∧qCe (x1.2.1.drop s.1) s.1 s.2=some r) (fun s=>x1.2.1.length - s.1) (0,(⟨#[]⟩:ByteArray)) ⟨Nat.zero_le _,hH⟩ ?_ ?_
 exact Le.ct 0 0
 rintro ⟨k3,v18⟩ ⟨hk,hH⟩
 try dsimp only at hH ⊢
 refine AW.boundR (id:=2) (l:=x1.2.1) rfl (fun hb7=>?_)
 rcases hd6:x1.2.1.drop k3 with _ | ⟨y4,ys5⟩
 rw [hd6,qCe] at hH
 have hlt8:=qAG hd6
 refine go ?_
 refine AO.x (qPs rfl rfl rfl rfl qC2 rfl) (go ?_)
 exact fin
 rw [hd6,qCe] at hH
 have hlt8:=qAF hd6
 refine go ?_
 refine AO.w (zLr T rfl rfl rfl rfl (zgG (zgD hd6)) rfl rfl rfl) (go ?_)
 obtain ⟨u20,hx21,hH⟩:=zB hH
 obtain ⟨u22,hx23,hH⟩:=zB hH
 refine go ?_
 refine AO.w (qBX rfl rfl rfl (Nat.le_of_ble_eq_true (qAO (hx21)))) ?_
 refine AO.x (qKQ rfl rfl rfl rfl (qAO (hx23)) qAZ rfl) (go ?_)
 refine ⟨(k3+1,(v18++(y4++(⟨#[10]⟩:ByteArray)))),⟨hlt8,(zds hd6 ▸ hH)⟩,qB7 hlt8,?_⟩
 exact Le.ct 0 0

def qEF (fuel:Nat) (aScript:ByteArray):Option Bool :=
 cond (decide ((aScript.size:Int) > 1048576))
  (some true)
  ((qIQ fuel aScript).bind fun x1 =>
  (qIb fuel aScript).bind fun x3 =>
  cond (!decide (x3=x1))
   (some false)
   (some true))
theorem qJh (fuel:Nat) (aScript:ByteArray) (r:Bool) (hH:qEF fuel aScript=some r):qAC Tryz.prog 3 [.v (.string aScript)] (.v (.bool r)):=by
 refine fns T Tryz.func3 ?_
 refine go ?_
 refine AW.cH hH (fun _ hH=>?_) (fun hc hH=>?_)
 refine go ?_
 exact fin
 refine go ?_
 obtain ⟨x1,hx2,hH⟩:=zB hH
 refine go ?_
 refine AO.w (cVs (qNQ fuel _ _ (hx2))) (go ?_)
 obtain ⟨x3,hx4,hH⟩:=zB hH
 refine go ?_
 refine AO.w (cVs (qNa fuel _ _ (hx4))) (go ?_)
 refine AW.cH hH (fun _ hH=>?_) (fun _ hH=>?_)
 refine go ?_
 exact fin
 refine go ?_
 exact fin

end Go.Proofs.YtkidpkmpnbibmaaGreatDoor

/- The walk, part 4: what each function reached by the law FnExactCountReplies computes. No condition. -/
import Derived.Test.YtkidpkmpnbibmaaGreatDoorWalk3
set_option maxRecDepth 4000
set_option maxHeartbeats 1000000
set_option linter.unusedVariables false
set_option linter.unusedSimpArgs false
set_option linter.unusedSectionVars false

namespace Go.Proofs.YtkidpkmpnbibmaaGreatDoor
open Go.AM

def qAK (fuel:Nat) (sA:ScriptState) (command:ByteArray) (l:List Int):Option (ScriptState × ByteArray) :=
 cond (decide (command=(⟨#[99,104,101,99,107]⟩:ByteArray)))
  ((qEc fuel sA.code sA.performance.items).bind fun x2 =>
  (qCY x2.1).bind fun x4 =>
  some (sA,x4))
  (cond (decide (command=(⟨#[98,97,115,101]⟩:ByteArray)))
   ((qFo sA.code sA.performance.items).bind fun x7 =>
   (qBC x7).bind fun x9 =>
   (qBw x9).bind fun x11 =>
   some (sA,x11))
   (cond (decide (command=(⟨#[115,99,111,114,101]⟩:ByteArray)))
    ((qFP fuel sA.code sA.performance sA.factor).bind fun x14 =>
    (qAs x14).bind fun x16 =>
    some (sA,x16))
    (cond (decide (command=(⟨#[98,111,117,110,100]⟩:ByteArray)))
     ((qD3 fuel sA.code sA.performance sA.factor).bind fun x19 =>
     (qBw x19.1).bind fun x21 =>
     some (sA,x21))
     (cond (decide (command=(⟨#[114,97,110,103,101]⟩:ByteArray)))
      ((qAU l 0).bind fun x24 =>
      (qFC fuel sA.code sA.performance sA.factor x24).bind fun x26 =>
      cond (!x26.2.2)
       (some (sA,(⟨#[110,111]⟩:ByteArray)))
       ((qAs [x26.1,x26.2.1]).bind fun x28 =>
       some (sA,x28)))
      ((qES fuel sA.code sA.performance sA.factor).bind fun x30 =>
      cond (!x30.2.2.2)
       (some (sA,(⟨#[110,111,110,101]⟩:ByteArray)))
       ((qAs [x30.1,x30.2.1]).bind fun x32 =>
       (qAv (Nat.ble (x32.size+(⟨#[32]⟩:ByteArray).size) qEH)).bind fun u34 =>
       (qAU [(⟨#[110,111,110,101]⟩:ByteArray),(⟨#[100,111,119,110]⟩:ByteArray),(⟨#[101,100,103,101]⟩:ByteArray),(⟨#[118,111,105,100]⟩:ByteArray)] x30.2.2.1).bind fun x36 =>
       (qAv (Nat.ble ((x32++(⟨#[32]⟩:ByteArray)).size+x36.size) qEH)).bind fun u38 =>
       some (sA,((x32++(⟨#[32]⟩:ByteArray))++x36))))))))
theorem qJa (fuel:Nat) (sA:ScriptState) (command:ByteArray) (l:List Int) (r:(ScriptState × ByteArray)) (hH:qAK fuel sA command l=some r):qGB Tryz.prog 122 [.pw (qIx sA),.v (.string command),.s (List.map ze0 l)] [.pw (qIx r.1),.u,.u] (.v (.string r.2)):=by
 refine qMU T Tryz.func122 rfl (by decide) rfl rfl ?_
 intro L
 show AW _ _ _ (⟨[(0,.p 1 0),(1,.v (.string command)),(2,sv ze0 l)],[(1,.box (qIx sA))],143,[(1,L 1)]⟩:St)
 refine go ?_
 refine AW.cH hH (fun _ hH=>?_) (fun _ hH=>?_)
 refine AW.q ?_
 obtain ⟨x2,hx3,hH⟩:=zB hH
 refine AW.drawn 14 2 [] mix (by kernel_rfl) rfl ?_
 refine go ?_
 refine AD.q (FStep.call rfl rfl rfl rfl rfl (qLe fuel _ _ _ (hx3)) rfl rfl) (qBD _ _) (qDc _ _) rfl ?_
 refine go ?_
 obtain ⟨x4,hx5,hH⟩:=zB hH
 refine go ?_
 refine AO.w (zLV rfl rfl rfl (es:=[sv ze0 x2.1]) ⟨(.rowR rfl (.map fun y=>.vs rfl)),trivial⟩ (qIJ _ _ (hx5)) (qAj _) rfl) (go ?_)
 exact qEM
 refine go ?_
 refine AW.cH hH (fun _ hH=>?_) (fun _ hH=>?_)
 refine AW.q ?_
 obtain ⟨x7,hx8,x9,hx10,x11,hx12,hH⟩:=qA9 hH
 refine AW.drawn 9 3 [] mix (by kernel_rfl) rfl ?_
 refine go ?_
 refine AO.x (qAS rfl 3 rfl rfl rfl (qMH _ _ _ (hx8)) rfl rfl rfl) ?_
 refine AO.w (zLV rfl rfl rfl (es:=[sv ze0 x7]) ⟨(.rowR rfl (.map fun y=>.vs rfl)),trivial⟩ (qEs _ _ (hx10)) (qAj _) rfl) ?_
 refine AO.w (cVs (qHH _ _ (hx12))) (go ?_)
 exact qEM
 refine go ?_
 refine AW.cH hH (fun _ hH=>?_) (fun _ hH=>?_)
 refine AW.q ?_
 obtain ⟨x14,hx15,x16,hx17,hH⟩:=qAI hH
 refine AW.drawn 12 4 [] mix (by kernel_rfl) rfl ?_
 refine go ?_
 refine AO.x (qAS rfl 4 rfl rfl rfl (qKi fuel _ _ _ _ (hx15)) rfl rfl rfl) ?_
 refine AO.w (zLV rfl rfl rfl (es:=[sv ze0 x14]) ⟨(.rowR rfl (.map fun y=>.vs rfl)),trivial⟩ (qFA _ _ (hx17)) (qAj _) rfl) (go ?_)
 exact qEM
 refine go ?_
 refine AW.cH hH (fun _ hH=>?_) (fun _ hH=>?_)
 refine AW.q ?_
 obtain ⟨x19,hx20,hH⟩:=zB hH
 refine AW.drawn 17 5 [] mix (by kernel_rfl) rfl ?_
 refine go ?_
 refine AD.vv (cVs (qLE fuel _ _ _ _ (hx20))) ?_
 iterate 7 refine gs ?_
 refine AW.le (Le.ct 0 0 (σ':=(⟨[(9,x19.1)],[(1,.box (qIx sA))],143,[(1,L 1)]⟩:St)) (hpin:=⟨⟨rfl,rfl⟩,trivial⟩)) ?_
 refine AW.q ?_
 obtain ⟨x21,hx22,hH⟩:=zB hH
 refine go ?_
 refine AO.w (cVs (qHH _ _ (hx22))) (go ?_)
 exact qEM
 refine go ?_
 refine AW.cH hH (fun _ hH=>?_) (fun _ hH=>?_)
 refine AW.q ?_
 obtain ⟨x24,hx25,x26,hx27,hH⟩:=qAI hH
 refine AW.drawn 22 5 [] mix (by kernel_rfl) rfl ?_
 refine go ?_
 refine AD.vv (cVs (qLG fuel _ _ _ _ _ (hx27))) ?_
 iterate 9 refine gs ?_
 refine AW.le (Le.ct 0 0 (σ':=(⟨[(11,x26.1),(12,x26.2.1),(13,.v (.bool x26.2.2))],[(1,.box (qIx sA))],143,[(1,L 1)]⟩:St)) (hpin:=⟨⟨rfl,rfl⟩,trivial⟩)) ?_
 refine go ?_
 refine AW.cH hH (fun _ hH=>?_) (fun hc hH=>?_)
 refine go ?_
 exact qEM
 refine go ?_
 obtain ⟨x28,hx29,hH⟩:=zB hH
 refine go ?_
 refine AO.x (mks T 5 ze0 ([x26.1,x26.2.1])) ?_
 refine AO.w (zLV rfl rfl rfl (es:=[sv ze0 [x26.1,x26.2.1]]) ⟨(.rowR rfl (.map fun y=>.vs rfl)),trivial⟩ (qFA _ _ (hx29)) (qAj _) rfl) (go ?_)
 exact qEM
 refine go ?_
 obtain ⟨x30,hx31,hH⟩:=zB hH
 refine AW.drawn 21 6 [] mix (by kernel_rfl) rfl ?_
 refine go ?_
 refine AD.vv (cVs (qLr fuel _ _ _ _ (hx31))) ?_
 iterate 11 refine gs ?_
 refine AW.le (Le.ct 0 0 (σ':=(⟨[(14,x30.1),(15,x30.2.1),(16,x30.2.2.1),(17,.v (.bool x30.2.2.2))],[(1,.box (qIx sA))],143,[(1,L 1)]⟩:St)) (hpin:=⟨⟨rfl,rfl⟩,trivial⟩)) ?_
 refine go ?_
 refine AW.cH hH (fun _ hH=>?_) (fun _ hH=>?_)
 refine go ?_
 exact qEM
 refine go ?_
 obtain ⟨x32,hx33,u34,hx35,x36,hx37,hH⟩:=qA9 hH
 obtain ⟨u38,hx39,hH⟩:=zB hH
 refine AW.drawn 8 6 [] mix (by kernel_rfl) rfl ?_
 refine go ?_
 refine AD.q (FStep.mk T (f:=ze0) (l:=[x30.1,x30.2.1]) rfl rfl rfl rfl rfl rfl rfl rfl rfl (fun _=>rfl) rfl rfl rfl rfl) (by simp [qAr]) (Nat.le_succ _) rfl ?_
 refine AD.vald rfl rfl rfl (zLV rfl rfl rfl (es:=[sv ze0 [x30.1,x30.2.1]]) ⟨(.rowR rfl (.map fun y=>.vs rfl)),trivial⟩ (qFA _ _ (hx33)) (qAj _) rfl) ?_
 refine AD.vv (qB1 rfl rfl rfl (Nat.le_of_ble_eq_true (qAQ (hx35)))) ?_
 refine AD.pu T ?_
 refine AD.vv (qVo T (l:=[(⟨#[110,111,110,101]⟩:ByteArray),(⟨#[100,111,119,110]⟩:ByteArray),(⟨#[101,100,103,101]⟩:ByteArray),(⟨#[118,111,105,100]⟩:ByteArray)]) (f:=ze2) rfl rfl rfl rfl rfl rfl rfl (fun _=>rfl) (hx37)) ?_
 refine go ?_
 refine AO.w (qB1 rfl rfl rfl (Nat.le_of_ble_eq_true (qAQ (hx39)))) (go ?_)
 exact qEM

def qAA (sA:ScriptState) (fuel:Nat) (x5:(List ByteArray)) (x7:ByteArray) (x9:(ByteArray × Bool)):List ByteArray→Nat→List Int→Option ((ScriptState × ByteArray))
 | [],k13,v32 =>
  cond (decide (x7=(⟨#[101,108,101,109,101,110,116]⟩:ByteArray)))
   ((qAU x5 1).bind fun x35 =>
   (qAU v32 1).bind fun x37 =>
   (qAU v32 2).bind fun x39 =>
   (qAU v32 3).bind fun x41 =>
   (qEx fuel sA.code (Element.mk x35 x37 x39 x41)).bind fun x43 =>
   (qAn sA x43.1 x43.2).bind fun x45 =>
   some (x45.1,x45.2))
   (cond (decide (x7=(⟨#[108,105,109,105,116]⟩:ByteArray)))
    ((qAg fuel sA x7 v32).bind fun x48 =>
    some (x48.1,x48.2))
    (cond (decide (x7=(⟨#[114,117,108,101,115]⟩:ByteArray)))
     ((qAg fuel sA x7 v32).bind fun x51 =>
     some (x51.1,x51.2))
     (cond (decide (x7=(⟨#[106,117,100,103,101,115]⟩:ByteArray)))
      ((qAN fuel sA x7 v32).bind fun x54 =>
      some (x54.1,x54.2))
      (cond (decide (x7=(⟨#[103,114,97,100,101]⟩:ByteArray)))
       ((qAN fuel sA x7 v32).bind fun x57 =>
       some (x57.1,x57.2))
       (cond (decide (x7=(⟨#[99,111,109,112,111,110,101,110,116]⟩:ByteArray)))
        ((qAN fuel sA x7 v32).bind fun x60 =>
        some (x60.1,x60.2))
        (cond (decide (x7=(⟨#[99,97,108,108]⟩:ByteArray)))
         ((qAH fuel sA x7 v32).bind fun x63 =>
         some (x63.1,x63.2))
         (cond (decide (x7=(⟨#[115,108,105,112,115]⟩:ByteArray)))
          ((qAH fuel sA x7 v32).bind fun x66 =>
          some (x66.1,x66.2))
          (cond (decide (x7=(⟨#[102,97,99,116,111,114]⟩:ByteArray)))
           ((qAH fuel sA x7 v32).bind fun x69 =>
           some (x69.1,x69.2))
           (cond (decide (x7=(⟨#[108,97,116,101]⟩:ByteArray)))
            ((qAH fuel sA x7 v32).bind fun x72 =>
            some (x72.1,x72.2))
            (cond (decide (x7=(⟨#[115,107,97,116,101,114]⟩:ByteArray)))
             ((qA4 fuel sA x7 v32).bind fun x75 =>
             some (x75.1,x75.2))
             (cond (decide (x7=(⟨#[112,108,97,99,101,115]⟩:ByteArray)))
              ((qA4 fuel sA x7 v32).bind fun x78 =>
              some (x78.1,x78.2))
              ((qAK fuel sA x7 v32).bind fun x80 =>
              some (x80.1,x80.2)))))))))))))
 | y14::ys15,k13,v32 =>
  (qNC x9.1 (k13:Int)).bind fun b82 =>
  (qCU fuel (b82.toNat:Int) y14).bind fun x84 =>
  cond (!x84.2)
   (some (sA,(⟨#[119,104,97,116]⟩:ByteArray)))
   ((qAv (qAf 8 (v32.length+([x84.1]).length))).bind fun u86 =>
   qAA sA fuel x5 x7 x9 ys15 (k13+1) (v32++[x84.1]))
def qAc (fuel:Nat) (sA:ScriptState) (line:ByteArray):Option (ScriptState × ByteArray) :=
 (qBY line (⟨#[105,116,101,109,32]⟩:ByteArray)).bind fun x1 =>
 cond x1.2
  ((qBJ fuel sA x1.1).bind fun x3 =>
  some (x3.1,x3.2))
  ((qBx line (⟨#[32]⟩:ByteArray)).bind fun x5 =>
  (qAU x5 0).bind fun x7 =>
  (qFI x7).bind fun x9 =>
  cond ((!x9.2) || ((x9.1.size:Int) != (w64 ((x5.length:Int) - 1))))
   (some (sA,(⟨#[119,104,97,116]⟩:ByteArray)))
   ((qC0 x5 1).bind fun x11 =>
   qAA sA fuel x5 x7 x9 x11 0 []))
theorem qJx (fuel:Nat) (sA:ScriptState) (line:ByteArray) (r:(ScriptState × ByteArray)) (hH:qAc fuel sA line=some r):qGB Tryz.prog 76 [.pw (qIx sA),.v (.string line)] [.pw (qIx r.1),.u] (.v (.string r.2)):=by
 refine qMU T Tryz.func76 rfl (by decide) rfl rfl ?_
 intro L
 show AW _ _ _ (⟨[(0,.p 1 0),(1,.v (.string line))],[(1,.box (qIx sA))],129,[(1,L 1)]⟩:St)
 iterate 6 refine gs ?_
 obtain ⟨x1,hx2,hH⟩:=zB hH
 iterate 2 refine gs ?_
 refine AO.w (cVs (qH0 _ _ _ (hx2))) ?_
 iterate 10 refine gs ?_
 refine AW.cH hH (fun _ hH=>?_) (fun hc hH=>?_)
 refine AW.q ?_
 obtain ⟨x3,hx4,hH⟩:=zB hH
 iterate 3 refine gs ?_
 refine AO.x (cMs 2 [1] (S:=qIS fuel _ _ _ (hx4)) (hp:=by exact zG (.c (.box rfl rfl)) (zG (.c .v) (zGn)))) ?_
 iterate 3 refine gs ?_
 exact qEM
 iterate 2 refine gs ?_
 obtain ⟨x5,hx6,hH⟩:=zB hH
 iterate 2 refine gs ?_
 refine AO.x (qAS rfl 2 rfl rfl rfl (qHr _ _ _ (hx6)) rfl rfl rfl) ?_
 iterate 3 refine gs ?_
 obtain ⟨x7,hx8,hH⟩:=zB hH
 iterate 3 refine gs ?_
 refine AO.w (zLr T rfl rfl rfl rfl (zgG (hx8)) rfl rfl rfl) ?_
 refine AO.x (qF1 T rfl rfl rfl rfl) ?_
 iterate 4 refine gs ?_
 obtain ⟨x9,hx10,hH⟩:=zB hH
 iterate 2 refine gs ?_
 refine AO.w (cVs (qO8 _ _ (hx10))) ?_
 iterate 6 refine gs ?_
 refine AW.le (Le.ct 0 0 (σ':=(⟨[(0,.p 1 0),(7,.R 2),(8,.v (.string x7)),(9,.w 1 []),(10,.v (.string x9.1)),(11,.v (.bool x9.2))],[(1,.box (qIx sA)),(2,ro 1 ze2 x5)],129,[(1,L 1)]⟩:St)) (hpin:=⟨⟨rfl,rfl⟩,trivial⟩)) ?_
 iterate 6 refine gs ?_
 refine AO.g0 T ?_
 refine AO.g1 T 39 ?_
 refine AO.g0 T ?_
 refine AO.d1 41 (fun hg=>qJI T rfl rfl rfl rfl) ?_
 refine AO.d1 42 (fun hg=>aws) ?_
 refine AO.g2 T 40 43 ?_
 iterate 2 refine gs ?_
 refine AW.cH hH (fun _ hH=>?_) (fun hc hH=>?_)
 iterate 5 refine gs ?_
 exact qEM
 iterate 3 refine gs ?_
 obtain ⟨x11,hx12,hH⟩:=zB hH
 refine AW.le (Le.fM 2 (g:=ze2) rfl (fun y=>.vs rfl)) ?_
 iterate 2 refine gs ?_
 refine AO.w (qDI T rfl rfl rfl rfl rfl (hx12) (fun _=>rfl)) ?_
 iterate 4 refine gs ?_
 refine AW.loopS (fun s:Nat × (List Int)=>(⟨[(0,.p 1 0),(7,sv ze2 x5),(8,.v (.string x7)),(9,.R 6),(10,.v (.string x9.1)),(47,sv ze2 x11),(48,(x11.length:Int)),(49,(s.1:Int))],[(1,.box (qIx sA)),(6,ro 1 ze0 s.2)],129,[(1,L 1)]⟩:St)) (fun s=>s.1 ≤ x11.length∧qAA sA fuel x5 x7 x9 (x11.drop s.1) s.1 s.2=some r) (fun s=>x11.length - s.1) (0,[]) ⟨Nat.zero_le _,hH⟩ ?_ ?_
 refine Le.trans (Le.void 9 6 1 rfl rfl) ?_
 exact Le.ct 0 0 (hpin:=⟨⟨rfl,rfl⟩,trivial⟩)
 rintro ⟨k13,v32⟩ ⟨hk,hH⟩
 try dsimp only at hH ⊢
 refine AW.boundM (t:=47) (l:=x11) rfl (fun hb17=>?_)
 rcases hd16:x11.drop k13 with _ | ⟨y14,ys15⟩
 rw [hd16,qAA] at hH
 have hlt18:=qAG hd16
 iterate 18 refine gs ?_
 refine AW.cH hH (fun _ hH=>?_) (fun _ hH=>?_)
 refine AW.q ?_
 obtain ⟨x35,hx36,x37,hx38,x39,hx40,hH⟩:=qA9 hH
 obtain ⟨x41,hx42,x43,hx44,x45,hx46,hH⟩:=qA9 hH
 refine AW.drawn 21 7 [] mix (by kernel_rfl) rfl ?_
 iterate 9 refine gs ?_
 refine AD.vv (ixr T (hx38)) ?_
 refine AD.vv (zLr T rfl rfl rfl rfl (zgG (hx38)) rfl rfl rfl) ?_
 refine AD.pu T ?_
 refine AD.vv (ixr T (hx40)) ?_
 refine AD.vv (zLr T rfl rfl rfl rfl (zgG (hx40)) rfl rfl rfl) ?_
 refine AD.pu T ?_
 refine AD.vv (ixr T (hx42)) ?_
 refine AD.vv (zLr T rfl rfl rfl rfl (zgG (hx42)) rfl rfl rfl) ?_
 refine gs ?_
 refine AD.q (FStep.call rfl rfl rfl rfl rfl (qME fuel _ _ _ (hx44)) rfl rfl) (qBD _ _) (qDc _ _) rfl ?_
 iterate 3 refine gs ?_
 refine AO.le (Le.fM 7 (g:=ze5) rfl (fun y=>.vs rfl)) ?_
 refine AO.le (Le.fM 8 (g:=ze0) rfl (fun y=>.vs rfl)) ?_
 refine AO.x (cMs 9 [1] (S:=qD2 _ _ _ _ (hx46)) (hp:=by exact zG (.c (.box rfl rfl)) (zG (.g (zC .s (zC .s (zC .v (zC .v (zC .v (zC .v (zCn)))))))) (zG (.c .v) (zGn))))) ?_
 iterate 2 refine gs ?_
 refine AW.le (Le.ct 0 0 (σ':=(⟨[(4,.v (.string x45.2))],[(1,.box (qIx x45.1))],129,[(1,L 1)]⟩:St)) (hpin:=⟨⟨rfl,rfl⟩,trivial⟩)) ?_
 refine AW.t ?_
 exact qEM
 iterate 6 refine gs ?_
 refine AW.cH hH (fun hc47 hH=>?_) (fun _ hH=>?_)
 refine AW.k (AW.condT' rfl hc47 ?_)
 refine AW.q ?_
 obtain ⟨x48,hx49,hH⟩:=zB hH
 refine AW.le (Le.fM 6 (g:=ze0) rfl (fun y=>.vs rfl)) ?_
 iterate 4 refine gs ?_
 refine AO.x (cMs 9 [1] (S:=qGk fuel _ _ _ _ (hx49)) (hp:=by exact zG (.c (.box rfl rfl)) (zG (.c .v) (zG (.c .s) (zGn))))) ?_
 iterate 3 refine gs ?_
 exact qEM
 iterate 4 refine gs ?_
 refine AW.cH hH (fun _ hH=>?_) (fun _ hH=>?_)
 refine AW.q ?_
 obtain ⟨x51,hx52,hH⟩:=zB hH
 refine AW.le (Le.fM 6 (g:=ze0) rfl (fun y=>.vs rfl)) ?_
 iterate 4 refine gs ?_
 refine AO.x (cMs 9 [1] (S:=qGk fuel _ _ _ _ (hx52)) (hp:=by exact zG (.c (.box rfl rfl)) (zG (.c .v) (zG (.c .s) (zGn))))) ?_
 iterate 3 refine gs ?_
 exact qEM
 iterate 6 refine gs ?_
 refine AW.cH hH (fun hc53 hH=>?_) (fun _ hH=>?_)
 refine AW.k (AW.condT' rfl hc53 ?_)
 refine AW.q ?_
 obtain ⟨x54,hx55,hH⟩:=zB hH
 refine AW.le (Le.fM 6 (g:=ze0) rfl (fun y=>.vs rfl)) ?_
 iterate 4 refine gs ?_
 refine AO.x (cMs 9 [1] (S:=qEj fuel _ _ _ _ (hx55)) (hp:=by exact zG (.c (.box rfl rfl)) (zG (.c .v) (zG (.c .s) (zGn))))) ?_
 iterate 3 refine gs ?_
 exact qEM
 iterate 5 refine gs ?_
 refine AW.cH hH (fun hc56 hH=>?_) (fun _ hH=>?_)
 refine AW.k (AW.condT' rfl hc56 ?_)
 refine AW.q ?_
 obtain ⟨x57,hx58,hH⟩:=zB hH
 refine AW.le (Le.fM 6 (g:=ze0) rfl (fun y=>.vs rfl)) ?_
 iterate 4 refine gs ?_
 refine AO.x (cMs 9 [1] (S:=qEj fuel _ _ _ _ (hx58)) (hp:=by exact zG (.c (.box rfl rfl)) (zG (.c .v) (zG (.c .s) (zGn))))) ?_
 iterate 3 refine gs ?_
 exact qEM
 iterate 4 refine gs ?_
 refine AW.cH hH (fun _ hH=>?_) (fun _ hH=>?_)
 refine AW.q ?_
 obtain ⟨x60,hx61,hH⟩:=zB hH
 refine AW.le (Le.fM 6 (g:=ze0) rfl (fun y=>.vs rfl)) ?_
 iterate 4 refine gs ?_
 refine AO.x (cMs 9 [1] (S:=qEj fuel _ _ _ _ (hx61)) (hp:=by exact zG (.c (.box rfl rfl)) (zG (.c .v) (zG (.c .s) (zGn))))) ?_
 iterate 3 refine gs ?_
 exact qEM
 iterate 6 refine gs ?_
 refine AW.cH hH (fun hc62 hH=>?_) (fun _ hH=>?_)
 refine AW.k (AW.condT' rfl hc62 ?_)
 refine AW.q ?_
 obtain ⟨x63,hx64,hH⟩:=zB hH
 refine AW.le (Le.fM 6 (g:=ze0) rfl (fun y=>.vs rfl)) ?_
 iterate 4 refine gs ?_
 refine AO.x (cMs 9 [1] (S:=qCu fuel _ _ _ _ (hx64)) (hp:=by exact zG (.c (.box rfl rfl)) (zG (.c .v) (zG (.c .s) (zGn))))) ?_
 iterate 3 refine gs ?_
 exact qEM
 iterate 5 refine gs ?_
 refine AW.cH hH (fun hc65 hH=>?_) (fun _ hH=>?_)
 refine AW.k (AW.condT' rfl hc65 ?_)
 refine AW.q ?_
 obtain ⟨x66,hx67,hH⟩:=zB hH
 refine AW.le (Le.fM 6 (g:=ze0) rfl (fun y=>.vs rfl)) ?_
 iterate 4 refine gs ?_
 refine AO.x (cMs 9 [1] (S:=qCu fuel _ _ _ _ (hx67)) (hp:=by exact zG (.c (.box rfl rfl)) (zG (.c .v) (zG (.c .s) (zGn))))) ?_
 iterate 3 refine gs ?_
 exact qEM
 iterate 5 refine gs ?_
 refine AW.cH hH (fun hc68 hH=>?_) (fun _ hH=>?_)
 refine AW.k (AW.condT' rfl hc68 ?_)
 refine AW.q ?_
 obtain ⟨x69,hx70,hH⟩:=zB hH
 refine AW.le (Le.fM 6 (g:=ze0) rfl (fun y=>.vs rfl)) ?_
 iterate 4 refine gs ?_
 refine AO.x (cMs 9 [1] (S:=qCu fuel _ _ _ _ (hx70)) (hp:=by exact zG (.c (.box rfl rfl)) (zG (.c .v) (zG (.c .s) (zGn))))) ?_
 iterate 2 refine gs ?_
 refine AW.le (Le.ct 0 0 (σ':=(⟨[(4,.v (.string x69.2))],[(1,.box (qIx x69.1))],129,[(1,L 1)]⟩:St)) (hpin:=⟨⟨rfl,rfl⟩,trivial⟩)) ?_
 refine AW.t ?_
 exact qEM
 iterate 4 refine gs ?_
 refine AW.cH hH (fun _ hH=>?_) (fun _ hH=>?_)
 refine AW.q ?_
 obtain ⟨x72,hx73,hH⟩:=zB hH
 refine AW.le (Le.fM 6 (g:=ze0) rfl (fun y=>.vs rfl)) ?_
 iterate 4 refine gs ?_
 refine AO.x (cMs 9 [1] (S:=qCu fuel _ _ _ _ (hx73)) (hp:=by exact zG (.c (.box rfl rfl)) (zG (.c .v) (zG (.c .s) (zGn))))) ?_
 iterate 2 refine gs ?_
 refine AW.le (Le.ct 0 0 (σ':=(⟨[(4,.v (.string x72.2))],[(1,.box (qIx x72.1))],129,[(1,L 1)]⟩:St)) (hpin:=⟨⟨rfl,rfl⟩,trivial⟩)) ?_
 refine AW.t ?_
 exact qEM
 iterate 6 refine gs ?_
 refine AW.le (Le.ct 0 0 (σ':=(⟨[(0,.p 1 0),(8,.v (.string x7)),(9,.R 6),(69,.v (.string x7)),(118,.v (.bool (decide (x7=(⟨#[115,107,97,116,101,114]⟩:ByteArray)))))],[(1,.box (qIx sA)),(6,ro 1 ze0 v32)],129,[(1,L 1)]⟩:St)) (hpin:=⟨⟨rfl,rfl⟩,trivial⟩)) ?_
 refine AW.cH hH (fun hc74 hH=>?_) (fun _ hH=>?_)
 refine AW.k (AW.condT' rfl hc74 ?_)
 refine AW.q ?_
 obtain ⟨x75,hx76,hH⟩:=zB hH
 refine AW.le (Le.fM 6 (g:=ze0) rfl (fun y=>.vs rfl)) ?_
 iterate 4 refine gs ?_
 refine AO.x (cMs 9 [1] (S:=qGm fuel _ _ _ _ (hx76)) (hp:=by exact zG (.c (.box rfl rfl)) (zG (.c .v) (zG (.c .s) (zGn))))) ?_
 iterate 3 refine gs ?_
 exact qEM
 iterate 4 refine gs ?_
 refine AW.cH hH (fun _ hH=>?_) (fun _ hH=>?_)
 refine AW.q ?_
 obtain ⟨x78,hx79,hH⟩:=zB hH
 refine AW.le (Le.fM 6 (g:=ze0) rfl (fun y=>.vs rfl)) ?_
 iterate 4 refine gs ?_
 refine AO.x (cMs 9 [1] (S:=qGm fuel _ _ _ _ (hx79)) (hp:=by exact zG (.c (.box rfl rfl)) (zG (.c .v) (zG (.c .s) (zGn))))) ?_
 iterate 3 refine gs ?_
 exact qEM
 iterate 2 refine gs ?_
 obtain ⟨x80,hx81,hH⟩:=zB hH
 refine AW.le (Le.fM 6 (g:=ze0) rfl (fun y=>.vs rfl)) ?_
 iterate 4 refine gs ?_
 refine AO.x (cMs 9 [1] (S:=qJa fuel _ _ _ _ (hx81)) (hp:=by exact zG (.c (.box rfl rfl)) (zG (.c .v) (zG (.c .s) (zGn))))) ?_
 iterate 3 refine gs ?_
 exact qEM
 rw [hd16,qAA] at hH
 have hlt18:=qAF hd16
 iterate 18 refine gs ?_
 obtain ⟨b82,hx83,x84,hx85,hH⟩:=qAI hH
 iterate 3 refine gs ?_
 refine AO.w (qBI T rfl rfl rfl rfl (hx83)) ?_
 refine AO.pu T ?_
 refine AO.w (cVs (qNV fuel _ _ _ (hx85))) ?_
 iterate 12 refine gs ?_
 refine AW.cH hH (fun _ hH=>?_) (fun _ hH=>?_)
 iterate 5 refine gs ?_
 exact qEM
 refine AW.k ?_
 obtain ⟨u86,hx87,hH⟩:=zB hH
 iterate 3 refine gs ?_
 refine AO.x (mks T 9 ze0 ([x84.1])) ?_
 refine AO.x (rvs T 10 (hfit:=by exact qAQ (hx87))) ?_
 iterate 6 refine gs ?_
 refine ⟨(k13+1,(v32++[x84.1])),⟨hlt18,(zds hd16 ▸ hH)⟩,qBr hlt18,?_⟩
 exact Le.ct 10 6 (hpin:=⟨⟨rfl,rfl⟩,trivial⟩)

def qBS (fuel:Nat):List ByteArray→Nat→List Element→List Int→Int→Int→Int→Int→List Item→List (List Int)→List (List Int)→Int→Int→Int→Int→List Result→List ByteArray→Option (((Option ScriptState) × (List ByteArray) × Bool))
 | [],k5,v34,v35,v36,v37,v38,v39,v40,v41,v42,v43,v44,v45,v46,v47,v48 =>
  some ((some (ScriptState.mk (Code.mk v34 v35 v36 v37 v38 v39) (Performance.mk v40 (Marks.mk v41 v42) (Slips.mk v43 v44 v45)) v46 v47)),v48,true)
 | y6::ys7,k5,v34,v35,v36,v37,v38,v39,v40,v41,v42,v43,v44,v45,v46,v47,v48 =>
  (qAc fuel (ScriptState.mk (Code.mk v34 v35 v36 v37 v38 v39) (Performance.mk v40 (Marks.mk v41 v42) (Slips.mk v43 v44 v45)) v46 v47) y6).bind fun x50 =>
  (qAv (qAf 16 (v48.length+([x50.2]).length))).bind fun u52 =>
  qBS fuel ys7 (k5+1) x50.1.code.elements x50.1.code.limits x50.1.code.repeats x50.1.code.bonus x50.1.code.keeps x50.1.code.fall x50.1.performance.items x50.1.performance.marks.grades x50.1.performance.marks.components x50.1.performance.slips.falls x50.1.performance.slips.seconds x50.1.performance.slips.other x50.1.factor x50.1.results (v48++[x50.2])
def qFO (fuel:Nat) (script:ByteArray):Option ((Option ScriptState) × (List ByteArray) × Bool) :=
 (qCW script).bind fun x1 =>
 cond (!x1.2)
  (some (none,[],false))
  ((qGq fuel ).bind fun x3 =>
  qBS fuel x1.1 0 x3.code.elements x3.code.limits x3.code.repeats x3.code.bonus x3.code.keeps x3.code.fall x3.performance.items x3.performance.marks.grades x3.performance.marks.components x3.performance.slips.falls x3.performance.slips.seconds x3.performance.slips.other x3.factor x3.results [])
theorem qJD (fuel:Nat) (script:ByteArray) (r:((Option ScriptState) × (List ByteArray) × Bool)) (hH:qFO fuel script=some r):qAC Tryz.prog 46 [.v (.string script)] (.t [pnO qIx r.1,.w 1 (r.2.1.map ze2),.v (.bool r.2.2)]):=by
 refine fns T Tryz.func46 ?_
 iterate 7 refine gs ?_
 obtain ⟨x1,hx2,hH⟩:=zB hH
 iterate 2 refine gs ?_
 refine AO.x (qAS rfl 1 rfl rfl rfl (qLf _ _ (hx2)) rfl rfl rfl) ?_
 iterate 12 refine gs ?_
 refine AW.cH hH (fun _ hH=>?_) (fun _ hH=>?_)
 iterate 7 refine gs ?_
 exact fin
 iterate 2 refine gs ?_
 obtain ⟨x3,hx4,hH⟩:=zB hH
 refine AW.r (AO.x (qAS rfl 2 rfl rfl rfl (qNZ fuel _ (hx4)) rfl rfl rfl) ?_)
 refine AO.x (qF1 T rfl rfl rfl rfl) ?_
 iterate 11 refine gs ?_
 refine AW.loopS (fun s:Nat × (List Element) × (List Int) × Int × Int × Int × Int × (List Item) × (List (List Int)) × (List (List Int)) × Int × Int × Int × Int × (List Result) × (List ByteArray)=>(⟨[(7,.p 2 0),(8,.R 6),(20,.R 1),(21,(x1.1.length:Int)),(22,(s.1:Int))],[(1,ro 1 ze2 x1.1),(2,.box [sv ze5 s.2.1,sv ze0 s.2.2.1,s.2.2.2.1,s.2.2.2.2.1,s.2.2.2.2.2.1,s.2.2.2.2.2.2.1,sv ze1 s.2.2.2.2.2.2.2.1,sv ze3 s.2.2.2.2.2.2.2.2.1,sv ze3 s.2.2.2.2.2.2.2.2.2.1,s.2.2.2.2.2.2.2.2.2.2.1,s.2.2.2.2.2.2.2.2.2.2.2.1,s.2.2.2.2.2.2.2.2.2.2.2.2.1,s.2.2.2.2.2.2.2.2.2.2.2.2.2.1,sv ze7 s.2.2.2.2.2.2.2.2.2.2.2.2.2.2.1]),(6,ro 1 ze2 s.2.2.2.2.2.2.2.2.2.2.2.2.2.2.2)],35,[]⟩:St)) (fun s=>s.1 ≤ x1.1.length∧qBS fuel (x1.1.drop s.1) s.1 s.2.1 s.2.2.1 s.2.2.2.1 s.2.2.2.2.1 s.2.2.2.2.2.1 s.2.2.2.2.2.2.1 s.2.2.2.2.2.2.2.1 s.2.2.2.2.2.2.2.2.1 s.2.2.2.2.2.2.2.2.2.1 s.2.2.2.2.2.2.2.2.2.2.1 s.2.2.2.2.2.2.2.2.2.2.2.1 s.2.2.2.2.2.2.2.2.2.2.2.2.1 s.2.2.2.2.2.2.2.2.2.2.2.2.2.1 s.2.2.2.2.2.2.2.2.2.2.2.2.2.2.1 s.2.2.2.2.2.2.2.2.2.2.2.2.2.2.2=some r) (fun s=>x1.1.length - s.1) (0,x3.code.elements,x3.code.limits,x3.code.repeats,x3.code.bonus,x3.code.keeps,x3.code.fall,x3.performance.items,x3.performance.marks.grades,x3.performance.marks.components,x3.performance.slips.falls,x3.performance.slips.seconds,x3.performance.slips.other,x3.factor,x3.results,[]) ⟨Nat.zero_le _,hH⟩ ?_ ?_
 refine Le.trans (Le.void 8 6 1 rfl rfl) ?_
 exact Le.ct 0 0
 rintro ⟨k5,v34,v35,v36,v37,v38,v39,v40,v41,v42,v43,v44,v45,v46,v47,v48⟩ ⟨hk,hH⟩
 try dsimp only at hH ⊢
 refine AW.boundR (id:=1) (l:=x1.1) rfl (fun hb9=>?_)
 rcases hd8:x1.1.drop k5 with _ | ⟨y6,ys7⟩
 rw [hd8,qBS] at hH
 have hlt10:=qAG hd8
 iterate 16 refine gs ?_
 have hR:=zS hH;subst hR
 exact retQ.i [2,6] rfl (.t (zG (.pb rfl (zC .s (zC .s (zC .v (zC .v (zC .v (zC .v (zC .s (zC .s (zC .s (zC .v (zC .v (zC .v (zC .v (zC .s (zCn)))))))))))))))) (zG (.c (.rowR rfl)) (zG (.c .v) (zGn)))))
 rw [hd8,qBS] at hH
 have hlt10:=qAF hd8
 iterate 12 refine gs ?_
 refine AO.w (zLr T rfl rfl rfl rfl (zgG (zgD hd8)) rfl rfl rfl) ?_
 iterate 2 refine gs ?_
 obtain ⟨x50,hx51,u52,hx53,hH⟩:=qAI hH
 iterate 4 refine gs ?_
 refine AO.x (cMs 7 [2] (S:=qJx fuel _ _ _ (hx51)) (hp:=by exact zG (.c (.box rfl rfl)) (zG (.c .v) (zGn)))) ?_
 refine AO.x (mks T 7 ze2 ([x50.2])) ?_
 refine AO.x (rvs T 8 (hfit:=by exact qAQ (hx53))) ?_
 iterate 6 refine gs ?_
 refine ⟨(k5+1,x50.1.code.elements,x50.1.code.limits,x50.1.code.repeats,x50.1.code.bonus,x50.1.code.keeps,x50.1.code.fall,x50.1.performance.items,x50.1.performance.marks.grades,x50.1.performance.marks.components,x50.1.performance.slips.falls,x50.1.performance.slips.seconds,x50.1.performance.slips.other,x50.1.factor,x50.1.results,(v48++[x50.2])),⟨hlt10,(zds hd8 ▸ hH)⟩,qBr hlt10,?_⟩
 exact Le.ct 8 6

def qBh (x1:((Option ScriptState) × (List ByteArray) × Bool)):List ByteArray→Nat→Int→Int→Option ((Int × Int × Int × Bool))
 | [],k3,v11,v12 =>
  some (v11,v12,w64 ((w64 ((x1.2.1.length:Int) - v11)) - v12),true)
 | y4::ys5,k3,v11,v12 =>
  cond (decide (y4=(⟨#[110,111]⟩:ByteArray)))
   (qBh x1 ys5 (k3+1) (w64 (v11+1)) v12)
   (cond (decide (y4=(⟨#[119,104,97,116]⟩:ByteArray)))
    (qBh x1 ys5 (k3+1) v11 (w64 (v12+1)))
    (qBh x1 ys5 (k3+1) v11 v12))
def qAz (x1:((Option ScriptState) × (List ByteArray) × Bool)):List ByteArray→Nat→Int→Int→Option ((Int × Int × Int × Bool))
 | [],k3,v11,v12 =>
  some (v11,v12,w64 ((w64 ((x1.2.1.length:Int) - v11)) - v12),true)
 | y4::ys5,k3,v11,v12 =>
  cond (decide (y4=(⟨#[110,111]⟩:ByteArray)))
   (qAz x1 ys5 (k3+1) (w64 (v11+1)) v12)
   (cond (decide (y4=(⟨#[119,104,97,116]⟩:ByteArray)))
    (qAz x1 ys5 (k3+1) v11 (w64 (v12+1)))
    (qAz x1 ys5 (k3+1) v11 v12))
def qGb (fuel:Nat) (script:ByteArray):Option (Int × Int × Int × Bool) :=
 (qFO fuel script).bind fun x1 =>
 (match x1.1 with
  | none =>
   cond (!x1.2.2)
    (some (0,0,0,false))
    (qBh x1 x1.2.1 0 0 0)
  | some p0_0 =>
   cond (!x1.2.2)
    (some (0,0,0,false))
    (qAz x1 x1.2.1 0 0 0))
theorem qK9 (fuel:Nat) (script:ByteArray) (r:(Int × Int × Int × Bool)) (hH:qGb fuel script=some r):qAC Tryz.prog 13 [.v (.string script)] (.t [.v (.int .i64 r.1),.v (.int .i64 r.2.1),.v (.int .i64 r.2.2.1),.v (.bool r.2.2.2)]):=by
 refine fns T Tryz.func13 ?_
 refine go ?_
 obtain ⟨x1,hx2,hH⟩:=zB hH
 rcases hq0_0:x1.1 with _ | p0_0
 rw [hq0_0] at hH
 try dsimp only at hH
 refine go ?_
 refine AO.x (qAS rfl 1 rfl rfl rfl ((by have q:=qJD fuel _ _ (hx2);rw [hq0_0] at q;exact q)) rfl rfl rfl) (go ?_)
 refine AW.cH hH (fun _ hH=>?_) (fun hc hH=>?_)
 refine go ?_
 exact fin
 refine go ?_
 refine AW.loopS (fun s:Nat × Int × Int=>(⟨[(7,.R 1),(9,s.2.1),(10,s.2.2),(21,.R 1),(22,(x1.2.1.length:Int)),(23,(s.1:Int))],[(1,ro 1 ze2 x1.2.1)],45,[]⟩:St)) (fun s=>s.1 ≤ x1.2.1.length∧qBh x1 (x1.2.1.drop s.1) s.1 s.2.1 s.2.2=some r) (fun s=>x1.2.1.length - s.1) (0,0,0) ⟨Nat.zero_le _,hH⟩ ?_ ?_
 exact Le.ct 0 0
 rintro ⟨k3,v11,v12⟩ ⟨hk,hH⟩
 try dsimp only at hH ⊢
 refine AW.boundR (id:=1) (l:=x1.2.1) rfl (fun hb7=>?_)
 rcases hd6:x1.2.1.drop k3 with _ | ⟨y4,ys5⟩
 rw [hd6,qBh] at hH
 have hlt8:=qAG hd6
 refine go ?_
 exact fin
 rw [hd6,qBh] at hH
 have hlt8:=qAF hd6
 refine go ?_
 refine AO.w (zLr T rfl rfl rfl rfl (zgG (zgD hd6)) rfl rfl rfl) (go ?_)
 refine AW.cH hH (fun _ hH=>?_) (fun hc14 hH=>?_)
 refine go ?_
 refine ⟨(k3+1,w64 (v11+1),v12),⟨hlt8,(zds hd6 ▸ hH)⟩,qBr hlt8,?_⟩
 exact Le.ct 0 0
 refine go ?_
 refine AW.cH hH (fun _ hH=>?_) (fun hc15 hH=>?_)
 refine go ?_
 refine ⟨(k3+1,v11,w64 (v12+1)),⟨hlt8,(zds hd6 ▸ hH)⟩,qBr hlt8,?_⟩
 exact Le.ct 0 0
 refine go ?_
 refine ⟨(k3+1,v11,v12),⟨hlt8,(zds hd6 ▸ hH)⟩,qBr hlt8,?_⟩
 exact Le.ct 0 0
 rw [hq0_0] at hH
 try dsimp only at hH
 refine go ?_
 refine AO.x (qAS rfl 1 rfl rfl rfl ((by have q:=qJD fuel _ _ (hx2);rw [hq0_0] at q;exact q)) rfl rfl rfl) (go ?_)
 refine AW.cH hH (fun _ hH=>?_) (fun _ hH=>?_)
 refine go ?_
 exact fin
 refine go ?_
 refine AW.loopS (fun s:Nat × Int × Int=>(⟨[(7,.R 2),(9,s.2.1),(10,s.2.2),(21,.R 2),(22,(x1.2.1.length:Int)),(23,(s.1:Int))],[(2,ro 1 ze2 x1.2.1)],45,[]⟩:St)) (fun s=>s.1 ≤ x1.2.1.length∧qAz x1 (x1.2.1.drop s.1) s.1 s.2.1 s.2.2=some r) (fun s=>x1.2.1.length - s.1) (0,0,0) ⟨Nat.zero_le _,hH⟩ ?_ ?_
 exact Le.ct 0 0
 rintro ⟨k3,v11,v12⟩ ⟨hk,hH⟩
 try dsimp only at hH ⊢
 refine AW.boundR (id:=2) (l:=x1.2.1) rfl (fun hb7=>?_)
 rcases hd6:x1.2.1.drop k3 with _ | ⟨y4,ys5⟩
 rw [hd6,qAz] at hH
 have hlt8:=qAG hd6
 refine go ?_
 exact fin
 rw [hd6,qAz] at hH
 have hlt8:=qAF hd6
 refine go ?_
 refine AO.w (zLr T rfl rfl rfl rfl (zgG (zgD hd6)) rfl rfl rfl) (go ?_)
 refine AW.cH hH (fun _ hH=>?_) (fun _ hH=>?_)
 refine go ?_
 refine ⟨(k3+1,w64 (v11+1),v12),⟨hlt8,(zds hd6 ▸ hH)⟩,qBr hlt8,?_⟩
 exact Le.ct 0 0
 refine go ?_
 refine AW.cH hH (fun _ hH=>?_) (fun _ hH=>?_)
 refine go ?_
 refine ⟨(k3+1,v11,w64 (v12+1)),⟨hlt8,(zds hd6 ▸ hH)⟩,qBr hlt8,?_⟩
 exact Le.ct 0 0
 refine go ?_
 refine ⟨(k3+1,v11,v12),⟨hlt8,(zds hd6 ▸ hH)⟩,qBr hlt8,?_⟩
 exact Le.ct 0 0

def qCt (fuel:Nat) (aScript:ByteArray):Option Bool :=
 cond (decide ((aScript.size:Int) > 1048576))
  (some true)
  ((qGf fuel aScript).bind fun x1 =>
  (qGb fuel aScript).bind fun x3 =>
  cond ((((x3.1 != x1.1) || (x3.2.1 != x1.2.1)) || (x3.2.2.1 != x1.2.2.1)) || (!(x3.2.2.2 == x1.2.2.2)))
   (some false)
   (some true))
theorem qIV (fuel:Nat) (aScript:ByteArray) (r:Bool) (hH:qCt fuel aScript=some r):qAC Tryz.prog 4 [.v (.string aScript)] (.v (.bool r)):=by
 refine fns T Tryz.func4 ?_
 refine go ?_
 refine AW.cH hH (fun _ hH=>?_) (fun hc hH=>?_)
 refine go ?_
 exact fin
 refine go ?_
 obtain ⟨x1,hx2,hH⟩:=zB hH
 refine go ?_
 refine AO.w (cVs (qLK fuel _ _ (hx2))) (go ?_)
 obtain ⟨x3,hx4,hH⟩:=zB hH
 refine go ?_
 refine AO.w (cVs (qK9 fuel _ _ (hx4))) ?_
 iterate 10 refine gs ?_
 refine AW.le (Le.ct 0 0 (σ':=(⟨[(3,x1.1),(4,x1.2.1),(5,x1.2.2.1),(6,.v (.bool x1.2.2.2)),(7,x3.1),(8,x3.2.1),(9,x3.2.2.1),(10,.v (.bool x3.2.2.2))],[],46,[]⟩:St))) ?_
 refine go ?_
 refine AO.g0 T ?_
 refine AO.g0 T ?_
 refine AO.g2 T 32 33 ?_
 refine go ?_
 refine AO.g0 T ?_
 refine AO.g0 T ?_
 refine AO.g2 T 37 38 ?_
 refine go ?_
 refine AO.g0 T ?_
 refine AO.g0 T ?_
 refine AO.g2 T 42 43 ?_
 refine go ?_
 refine AW.cH hH (fun _ hH=>?_) (fun _ hH=>?_)
 refine go ?_
 exact fin
 refine go ?_
 exact fin

end Go.Proofs.YtkidpkmpnbibmaaGreatDoor

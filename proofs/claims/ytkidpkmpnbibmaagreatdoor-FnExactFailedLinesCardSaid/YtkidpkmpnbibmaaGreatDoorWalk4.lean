/- The walk, part 4: what each function reached by the law FnExactFailedLines computes. No condition. -/
import Derived.Test.YtkidpkmpnbibmaaGreatDoorWalk3
set_option maxRecDepth 4000
set_option maxHeartbeats 1000000
set_option linter.unusedVariables false
set_option linter.unusedSimpArgs false
set_option linter.unusedSectionVars false
namespace Go.Proofs.YtkidpkmpnbibmaaGreatDoor
open Go.AM Tryz
def qAK (fl:Nat) (sA:ScriptState) (command:ByteArray) (l:List Int):Option (ScriptState×ByteArray) :=
 cond (decide (command=(⟨#[99,104,101,99,107]⟩:ByteArray)))
  ((qER fl sA.code sA.performance.items).bind fun x2 =>
  (qCc x2.1).bind fun x4 =>
  some (sA,x4))
  (cond (decide (command=(⟨#[98,97,115,101]⟩:ByteArray)))
   ((qFv sA.code sA.performance.items).bind fun x7 =>
   (qBA x7).bind fun x9 =>
   (qB5 x9).bind fun x11 =>
   some (sA,x11))
   (cond (decide (command=(⟨#[115,99,111,114,101]⟩:ByteArray)))
    ((qFY fl sA.code sA.performance sA.factor).bind fun x14 =>
    (qAt x14).bind fun x16 =>
    some (sA,x16))
    (cond (decide (command=(⟨#[98,111,117,110,100]⟩:ByteArray)))
     ((qD7 fl sA.code sA.performance sA.factor).bind fun x19 =>
     (qB5 x19.1).bind fun x21 =>
     some (sA,x21))
     (cond (decide (command=(⟨#[114,97,110,103,101]⟩:ByteArray)))
      ((qAT l 0).bind fun x24 =>
      (qFK fl sA.code sA.performance sA.factor x24).bind fun x26 =>
      cond (!x26.2.2)
       (some (sA,(⟨#[110,111]⟩:ByteArray)))
       ((qAt [x26.1,x26.2.1]).bind fun x28 =>
       some (sA,x28)))
      ((qEa fl sA.code sA.performance sA.factor).bind fun x30 =>
      cond (!x30.2.2.2)
       (some (sA,(⟨#[110,111,110,101]⟩:ByteArray)))
       ((qAt [x30.1,x30.2.1]).bind fun x32 =>
       (qAo (Nat.ble (x32.size+(⟨#[32]⟩:ByteArray).size) qEJ)).bind fun u34 =>
       (qAT [(⟨#[110,111,110,101]⟩:ByteArray),(⟨#[100,111,119,110]⟩:ByteArray),(⟨#[101,100,103,101]⟩:ByteArray),(⟨#[118,111,105,100]⟩:ByteArray)] x30.2.2.1).bind fun x36 =>
       (qAo (Nat.ble ((x32++(⟨#[32]⟩:ByteArray)).size+x36.size) qEJ)).bind fun u38 =>
       some (sA,((x32++(⟨#[32]⟩:ByteArray))++x36))))))))
theorem qJf (fl:Nat) (sA:ScriptState) (command:ByteArray) (l:List Int) (r:(ScriptState×ByteArray)) (hH:qAK fl sA command l=some r):qF9 prog 122 [.pw (qJJ sA),.v (.string command),.s (List.map ze0 l)] [.pw (qJJ r.1),.u,.u] (.v (.string r.2)):=by
 refine qLj T func122 rfl (by decide) rfl rfl ?_
 intro L
 show AW _ _ _ (⟨[(0,.p 1 0),(1,.v (.string command)),(2,sv ze0 l)],[(1,.box (qJJ sA))],143,[(1,L 1)]⟩:St)
 refine go ?_
 refine AW.cH hH (fun _ hH=>?_) (fun _ hH=>?_)
 refine AW.q ?_
 obtain⟨x2,hx3,hH⟩:=zB hH
 refine AW.drawn 14 2 [] mix (by kernel_rfl) rfl ?_
 refine go ?_
 refine AD.q (FStep.call rfl rfl rfl rfl rfl (qL6 fl _ _ _ (hx3)) rfl rfl) (qA0 _ _) (qDJ _ _) rfl ?_
 refine go ?_
 obtain⟨x4,hx5,hH⟩:=zB hH
 refine go ?_
 refine AO.w (zLV rfl rfl rfl (es:=[sv ze0 x2.1]) ⟨(.rowR rfl (.map fun y=>.vs rfl)),trivial⟩ (qIi _ _ (hx5)) (qAb _) rfl) (go ?_)
 exact qEi
 refine go ?_
 refine AW.cH hH (fun _ hH=>?_) (fun _ hH=>?_)
 refine AW.q ?_
 obtain⟨x7,hx8,x9,hx10,x11,hx12,hH⟩:=qA9 hH
 refine AW.drawn 9 3 [] mix (by kernel_rfl) rfl ?_
 refine go ?_
 refine AO.x (qAR rfl 3 rfl rfl rfl (qME _ _ _ (hx8)) rfl rfl rfl) ?_
 refine AO.w (zLV rfl rfl rfl (es:=[sv ze0 x7]) ⟨(.rowR rfl (.map fun y=>.vs rfl)),trivial⟩ (qE7 _ _ (hx10)) (qAb _) rfl) ?_
 refine AO.w (cVs (qHD _ _ (hx12))) (go ?_)
 exact qEi
 refine go ?_
 refine AW.cH hH (fun _ hH=>?_) (fun _ hH=>?_)
 refine AW.q ?_
 obtain⟨x14,hx15,x16,hx17,hH⟩:=qAH hH
 refine AW.drawn 12 4 [] mix (by kernel_rfl) rfl ?_
 refine go ?_
 refine AO.x (qAR rfl 4 rfl rfl rfl (qK3 fl _ _ _ _ (hx15)) rfl rfl rfl) ?_
 refine AO.w (zLV rfl rfl rfl (es:=[sv ze0 x14]) ⟨(.rowR rfl (.map fun y=>.vs rfl)),trivial⟩ (qFN _ _ (hx17)) (qAb _) rfl) (go ?_)
 exact qEi
 refine go ?_
 refine AW.cH hH (fun _ hH=>?_) (fun _ hH=>?_)
 refine AW.q ?_
 obtain⟨x19,hx20,hH⟩:=zB hH
 refine AW.drawn 17 5 [] mix (by kernel_rfl) rfl ?_
 refine go ?_
 refine AD.vv (cVs (qLM fl _ _ _ _ (hx20))) ?_
 refine gs7 ?_
 refine AW.le (Le.ct 0 0 (σ':=(⟨[(9,x19.1)],[(1,.box (qJJ sA))],143,[(1,L 1)]⟩:St)) (hpin:=⟨⟨rfl,rfl⟩,trivial⟩)) ?_
 refine AW.q ?_
 obtain⟨x21,hx22,hH⟩:=zB hH
 refine go ?_
 refine AO.w (cVs (qHD _ _ (hx22))) (go ?_)
 exact qEi
 refine go ?_
 refine AW.cH hH (fun _ hH=>?_) (fun _ hH=>?_)
 refine AW.q ?_
 obtain⟨x24,hx25,x26,hx27,hH⟩:=qAH hH
 refine AW.drawn 22 5 [] mix (by kernel_rfl) rfl ?_
 refine go ?_
 refine AD.vv (cVs (qLT fl _ _ _ _ _ (hx27))) ?_
 refine gs9 ?_
 refine AW.le (Le.ct 0 0 (σ':=(⟨[(11,x26.1),(12,x26.2.1),(13,.v (.bool x26.2.2))],[(1,.box (qJJ sA))],143,[(1,L 1)]⟩:St)) (hpin:=⟨⟨rfl,rfl⟩,trivial⟩)) ?_
 refine go ?_
 refine AW.cH hH (fun _ hH=>?_) (fun hc hH=>?_)
 refine go ?_
 exact qEi
 refine go ?_
 obtain⟨x28,hx29,hH⟩:=zB hH
 refine go ?_
 refine AO.x (mks T 5 ze0 ([x26.1,x26.2.1])) ?_
 refine AO.w (zLV rfl rfl rfl (es:=[sv ze0 [x26.1,x26.2.1]]) ⟨(.rowR rfl (.map fun y=>.vs rfl)),trivial⟩ (qFN _ _ (hx29)) (qAb _) rfl) (go ?_)
 exact qEi
 refine go ?_
 obtain⟨x30,hx31,hH⟩:=zB hH
 refine AW.drawn 21 6 [] mix (by kernel_rfl) rfl ?_
 refine go ?_
 refine AD.vv (cVs (qL2 fl _ _ _ _ (hx31))) ?_
 iterate 11 refine gs ?_
 refine AW.le (Le.ct 0 0 (σ':=(⟨[(14,x30.1),(15,x30.2.1),(16,x30.2.2.1),(17,.v (.bool x30.2.2.2))],[(1,.box (qJJ sA))],143,[(1,L 1)]⟩:St)) (hpin:=⟨⟨rfl,rfl⟩,trivial⟩)) ?_
 refine go ?_
 refine AW.cH hH (fun _ hH=>?_) (fun _ hH=>?_)
 refine go ?_
 exact qEi
 refine go ?_
 obtain⟨x32,hx33,u34,hx35,x36,hx37,hH⟩:=qA9 hH
 obtain⟨u38,hx39,hH⟩:=zB hH
 refine AW.drawn 8 6 [] mix (by kernel_rfl) rfl ?_
 refine go ?_
 refine AD.q (FStep.mk T (f:=ze0) (l:=[x30.1,x30.2.1]) rfl rfl rfl rfl rfl rfl rfl rfl rfl (fun _=>rfl) rfl rfl rfl rfl) (by simp[qAs]) (Nat.le_succ _) rfl ?_
 refine AD.vald rfl rfl rfl (zLV rfl rfl rfl (es:=[sv ze0 [x30.1,x30.2.1]]) ⟨(.rowR rfl (.map fun y=>.vs rfl)),trivial⟩ (qFN _ _ (hx33)) (qAb _) rfl) ?_
 refine AD.vv (qB4 rfl rfl rfl (Nat.le_of_ble_eq_true (qAO (hx35)))) ?_
 refine AD.pu T ?_
 refine AD.vv (qV6 T (l:=[(⟨#[110,111,110,101]⟩:ByteArray),(⟨#[100,111,119,110]⟩:ByteArray),(⟨#[101,100,103,101]⟩:ByteArray),(⟨#[118,111,105,100]⟩:ByteArray)]) (f:=ze2) rfl rfl rfl rfl rfl rfl rfl (fun _=>rfl) (hx37)) ?_
 refine go ?_
 refine AO.w (qB4 rfl rfl rfl (Nat.le_of_ble_eq_true (qAO (hx39)))) (go ?_)
 exact qEi
def qAA (sA:ScriptState) (fl:Nat) (x5:(List ByteArray)) (x7:ByteArray) (x9:(ByteArray×Bool)):List ByteArray→Nat→List Int→Option ((ScriptState×ByteArray))
 | [],k13,v32 =>
  cond (decide (x7=(⟨#[101,108,101,109,101,110,116]⟩:ByteArray)))
   ((qAT x5 1).bind fun x35 =>
   (qAT v32 1).bind fun x37 =>
   (qAT v32 2).bind fun x39 =>
   (qAT v32 3).bind fun x41 =>
   (qEx fl sA.code (Element.mk x35 x37 x39 x41)).bind fun x43 =>
   (qAn sA x43.1 x43.2).bind fun x45 =>
   some (x45.1,x45.2))
   (cond (decide (x7=(⟨#[108,105,109,105,116]⟩:ByteArray)))
    ((qAg fl sA x7 v32).bind fun x48 =>
    some (x48.1,x48.2))
    (cond (decide (x7=(⟨#[114,117,108,101,115]⟩:ByteArray)))
     ((qAg fl sA x7 v32).bind fun x51 =>
     some (x51.1,x51.2))
     (cond (decide (x7=(⟨#[106,117,100,103,101,115]⟩:ByteArray)))
      ((qAN fl sA x7 v32).bind fun x54 =>
      some (x54.1,x54.2))
      (cond (decide (x7=(⟨#[103,114,97,100,101]⟩:ByteArray)))
       ((qAN fl sA x7 v32).bind fun x57 =>
       some (x57.1,x57.2))
       (cond (decide (x7=(⟨#[99,111,109,112,111,110,101,110,116]⟩:ByteArray)))
        ((qAN fl sA x7 v32).bind fun x60 =>
        some (x60.1,x60.2))
        (cond (decide (x7=(⟨#[99,97,108,108]⟩:ByteArray)))
         ((qAI fl sA x7 v32).bind fun x63 =>
         some (x63.1,x63.2))
         (cond (decide (x7=(⟨#[115,108,105,112,115]⟩:ByteArray)))
          ((qAI fl sA x7 v32).bind fun x66 =>
          some (x66.1,x66.2))
          (cond (decide (x7=(⟨#[102,97,99,116,111,114]⟩:ByteArray)))
           ((qAI fl sA x7 v32).bind fun x69 =>
           some (x69.1,x69.2))
           (cond (decide (x7=(⟨#[108,97,116,101]⟩:ByteArray)))
            ((qAI fl sA x7 v32).bind fun x72 =>
            some (x72.1,x72.2))
            (cond (decide (x7=(⟨#[115,107,97,116,101,114]⟩:ByteArray)))
             ((qA5 fl sA x7 v32).bind fun x75 =>
             some (x75.1,x75.2))
             (cond (decide (x7=(⟨#[112,108,97,99,101,115]⟩:ByteArray)))
              ((qA5 fl sA x7 v32).bind fun x78 =>
              some (x78.1,x78.2))
              ((qAK fl sA x7 v32).bind fun x80 =>
              some (x80.1,x80.2)))))))))))))
 |y14::ys15,k13,v32 =>
  (qNQ x9.1 (k13:Int)).bind fun b82 =>
  (qCd fl (b82.toNat:Int) y14).bind fun x84 =>
  cond (!x84.2)
   (some (sA,(⟨#[119,104,97,116]⟩:ByteArray)))
   ((qAo (qAa 8 (v32.length+([x84.1]).length))).bind fun u86 =>
   qAA sA fl x5 x7 x9 ys15 (k13+1) (v32++[x84.1]))
def qAe (fl:Nat) (sA:ScriptState) (line:ByteArray):Option (ScriptState×ByteArray) :=
 (qBc line (⟨#[105,116,101,109,32]⟩:ByteArray)).bind fun x1 =>
 cond x1.2
  ((qBH fl sA x1.1).bind fun x3 =>
  some (x3.1,x3.2))
  ((qB0 line (⟨#[32]⟩:ByteArray)).bind fun x5 =>
  (qAT x5 0).bind fun x7 =>
  (qFI x7).bind fun x9 =>
  cond ((!x9.2)||((x9.1.size:Int) != (w64 ((x5.length:Int)-1))))
   (some (sA,(⟨#[119,104,97,116]⟩:ByteArray)))
   ((qCY x5 1).bind fun x11 =>
   qAA sA fl x5 x7 x9 x11 0 []))
theorem qJw (fl:Nat) (sA:ScriptState) (line:ByteArray) (r:(ScriptState×ByteArray)) (hH:qAe fl sA line=some r):qF9 prog 76 [.pw (qJJ sA),.v (.string line)] [.pw (qJJ r.1),.u] (.v (.string r.2)):=by
 refine qLj T func76 rfl (by decide) rfl rfl ?_
 intro L
 show AW _ _ _ (⟨[(0,.p 1 0),(1,.v (.string line))],[(1,.box (qJJ sA))],129,[(1,L 1)]⟩:St)
 refine gs6 ?_
 obtain⟨x1,hx2,hH⟩:=zB hH
 refine gs2 ?_
 refine AO.w (cVs (qH9 _ _ _ (hx2))) ?_
 iterate 10 refine gs ?_
 refine AW.cH hH (fun _ hH=>?_) (fun hc hH=>?_)
 refine AW.q ?_
 obtain⟨x3,hx4,hH⟩:=zB hH
 refine gs3 ?_
 refine AO.x (cMs 2 [1] (S:=qIc fl _ _ _ (hx4)) (hp:=by exact zG (.c (.box rfl rfl)) (zG (.c .v) (zGn)))) ?_
 refine gs3 ?_
 exact qEi
 refine gs2 ?_
 obtain⟨x5,hx6,hH⟩:=zB hH
 refine gs2 ?_
 refine AO.x (qAR rfl 2 rfl rfl rfl (qH6 _ _ _ (hx6)) rfl rfl rfl) ?_
 refine gs3 ?_
 obtain⟨x7,hx8,hH⟩:=zB hH
 refine gs3 ?_
 refine AO.w (zLr T rfl rfl rfl rfl (zgG (hx8)) rfl rfl rfl) ?_
 refine AO.x (qFQ T rfl rfl rfl rfl) ?_
 refine gs4 ?_
 obtain⟨x9,hx10,hH⟩:=zB hH
 refine gs2 ?_
 refine AO.w (cVs (qPT _ _ (hx10))) ?_
 refine gs6 ?_
 refine AW.le (Le.ct 0 0 (σ':=(⟨[(0,.p 1 0),(7,.R 2),(8,.v (.string x7)),(9,.w 1 []),(10,.v (.string x9.1)),(11,.v (.bool x9.2))],[(1,.box (qJJ sA)),(2,ro 1 ze2 x5)],129,[(1,L 1)]⟩:St)) (hpin:=⟨⟨rfl,rfl⟩,trivial⟩)) ?_
 refine gs6 ?_
 refine AO.g0 T ?_
 refine AO.g1 T 39 ?_
 refine AO.g0 T ?_
 refine AO.d1 41 (fun hg=>qIQ T rfl rfl rfl rfl) ?_
 refine AO.d1 42 (fun hg=>aws) ?_
 refine AO.g2 T 40 43 ?_
 refine gs2 ?_
 refine AW.cH hH (fun _ hH=>?_) (fun hc hH=>?_)
 refine gs5 ?_
 exact qEi
 refine gs3 ?_
 obtain⟨x11,hx12,hH⟩:=zB hH
 refine AW.le (Le.fM 2 (g:=ze2) rfl (fun y=>.vs rfl)) ?_
 refine gs2 ?_
 refine AO.w (qCf T rfl rfl rfl rfl rfl (hx12) (fun _=>rfl)) ?_
 refine gs4 ?_
 refine AW.loopS (fun s:Nat×(List Int)=>(⟨[(0,.p 1 0),(7,sv ze2 x5),(8,.v (.string x7)),(9,.R 6),(10,.v (.string x9.1)),(47,sv ze2 x11),(48,(x11.length:Int)),(49,(s.1:Int))],[(1,.box (qJJ sA)),(6,ro 1 ze0 s.2)],129,[(1,L 1)]⟩:St)) (fun s=>s.1≤x11.length∧qAA sA fl x5 x7 x9 (x11.drop s.1) s.1 s.2=some r) (fun s=>x11.length-s.1) (0,[]) ⟨Nat.zero_le _,hH⟩ ?_ ?_
 refine Le.trans (Le.void 9 6 1 rfl rfl) ?_
 exact Le.ct 0 0 (hpin:=⟨⟨rfl,rfl⟩,trivial⟩)
 rintro⟨k13,v32⟩ ⟨hk,hH⟩
 try dsimp only at hH⊢
 refine AW.boundM (t:=47) (l:=x11) rfl (fun hb17=>?_)
 rcases hd16:x11.drop k13 with _|⟨y14,ys15⟩
 rw[hd16,qAA]at hH
 have hlt18:=qAF hd16
 iterate 18 refine gs ?_
 refine AW.cH hH (fun _ hH=>?_) (fun _ hH=>?_)
 refine AW.q ?_
 obtain⟨x35,hx36,x37,hx38,x39,hx40,hH⟩:=qA9 hH
 obtain⟨x41,hx42,x43,hx44,x45,hx46,hH⟩:=qA9 hH
 refine AW.drawn 21 7 [] mix (by kernel_rfl) rfl ?_
 refine gs9 ?_
 refine AD.vv (ixr T (hx38)) ?_
 refine AD.vv (zLr T rfl rfl rfl rfl (zgG (hx38)) rfl rfl rfl) ?_
 refine AD.pu T ?_
 refine AD.vv (ixr T (hx40)) ?_
 refine AD.vv (zLr T rfl rfl rfl rfl (zgG (hx40)) rfl rfl rfl) ?_
 refine AD.pu T ?_
 refine AD.vv (ixr T (hx42)) ?_
 refine AD.vv (zLr T rfl rfl rfl rfl (zgG (hx42)) rfl rfl rfl) ?_
 refine gs ?_
 refine AD.q (FStep.call rfl rfl rfl rfl rfl (qMg fl _ _ _ (hx44)) rfl rfl) (qA0 _ _) (qDJ _ _) rfl ?_
 refine gs3 ?_
 refine AO.le (Le.fM 7 (g:=ze5) rfl (fun y=>.vs rfl)) ?_
 refine AO.le (Le.fM 8 (g:=ze0) rfl (fun y=>.vs rfl)) ?_
 refine AO.x (cMs 9 [1] (S:=qD8 _ _ _ _ (hx46)) (hp:=by exact zG (.c (.box rfl rfl)) (zG (.g (zC .s (zC .s (zC .v (zC .v (zC .v (zC .v (zCn)))))))) (zG (.c .v) (zGn))))) ?_
 refine gs2 ?_
 refine AW.le (Le.ct 0 0 (σ':=(⟨[(4,.v (.string x45.2))],[(1,.box (qJJ x45.1))],129,[(1,L 1)]⟩:St)) (hpin:=⟨⟨rfl,rfl⟩,trivial⟩)) ?_
 refine AW.t ?_
 exact qEi
 refine gs6 ?_
 refine AW.cH hH (fun hc47 hH=>?_) (fun _ hH=>?_)
 refine AW.k (AW.condT' rfl hc47 ?_)
 refine AW.q ?_
 obtain⟨x48,hx49,hH⟩:=zB hH
 refine AW.le (Le.fM 6 (g:=ze0) rfl (fun y=>.vs rfl)) ?_
 refine gs4 ?_
 refine AO.x (cMs 9 [1] (S:=qGq fl _ _ _ _ (hx49)) (hp:=by exact zG (.c (.box rfl rfl)) (zG (.c .v) (zG (.c .s) (zGn))))) ?_
 refine gs3 ?_
 exact qEi
 refine gs4 ?_
 refine AW.cH hH (fun _ hH=>?_) (fun _ hH=>?_)
 refine AW.q ?_
 obtain⟨x51,hx52,hH⟩:=zB hH
 refine AW.le (Le.fM 6 (g:=ze0) rfl (fun y=>.vs rfl)) ?_
 refine gs4 ?_
 refine AO.x (cMs 9 [1] (S:=qGq fl _ _ _ _ (hx52)) (hp:=by exact zG (.c (.box rfl rfl)) (zG (.c .v) (zG (.c .s) (zGn))))) ?_
 refine gs3 ?_
 exact qEi
 refine gs6 ?_
 refine AW.cH hH (fun hc53 hH=>?_) (fun _ hH=>?_)
 refine AW.k (AW.condT' rfl hc53 ?_)
 refine AW.q ?_
 obtain⟨x54,hx55,hH⟩:=zB hH
 refine AW.le (Le.fM 6 (g:=ze0) rfl (fun y=>.vs rfl)) ?_
 refine gs4 ?_
 refine AO.x (cMs 9 [1] (S:=qEp fl _ _ _ _ (hx55)) (hp:=by exact zG (.c (.box rfl rfl)) (zG (.c .v) (zG (.c .s) (zGn))))) ?_
 refine gs3 ?_
 exact qEi
 refine gs5 ?_
 refine AW.cH hH (fun hc56 hH=>?_) (fun _ hH=>?_)
 refine AW.k (AW.condT' rfl hc56 ?_)
 refine AW.q ?_
 obtain⟨x57,hx58,hH⟩:=zB hH
 refine AW.le (Le.fM 6 (g:=ze0) rfl (fun y=>.vs rfl)) ?_
 refine gs4 ?_
 refine AO.x (cMs 9 [1] (S:=qEp fl _ _ _ _ (hx58)) (hp:=by exact zG (.c (.box rfl rfl)) (zG (.c .v) (zG (.c .s) (zGn))))) ?_
 refine gs3 ?_
 exact qEi
 refine gs4 ?_
 refine AW.cH hH (fun _ hH=>?_) (fun _ hH=>?_)
 refine AW.q ?_
 obtain⟨x60,hx61,hH⟩:=zB hH
 refine AW.le (Le.fM 6 (g:=ze0) rfl (fun y=>.vs rfl)) ?_
 refine gs4 ?_
 refine AO.x (cMs 9 [1] (S:=qEp fl _ _ _ _ (hx61)) (hp:=by exact zG (.c (.box rfl rfl)) (zG (.c .v) (zG (.c .s) (zGn))))) ?_
 refine gs3 ?_
 exact qEi
 refine gs6 ?_
 refine AW.cH hH (fun hc62 hH=>?_) (fun _ hH=>?_)
 refine AW.k (AW.condT' rfl hc62 ?_)
 refine AW.q ?_
 obtain⟨x63,hx64,hH⟩:=zB hH
 refine AW.le (Le.fM 6 (g:=ze0) rfl (fun y=>.vs rfl)) ?_
 refine gs4 ?_
 refine AO.x (cMs 9 [1] (S:=qCx fl _ _ _ _ (hx64)) (hp:=by exact zG (.c (.box rfl rfl)) (zG (.c .v) (zG (.c .s) (zGn))))) ?_
 refine gs3 ?_
 exact qEi
 refine gs5 ?_
 refine AW.cH hH (fun hc65 hH=>?_) (fun _ hH=>?_)
 refine AW.k (AW.condT' rfl hc65 ?_)
 refine AW.q ?_
 obtain⟨x66,hx67,hH⟩:=zB hH
 refine AW.le (Le.fM 6 (g:=ze0) rfl (fun y=>.vs rfl)) ?_
 refine gs4 ?_
 refine AO.x (cMs 9 [1] (S:=qCx fl _ _ _ _ (hx67)) (hp:=by exact zG (.c (.box rfl rfl)) (zG (.c .v) (zG (.c .s) (zGn))))) ?_
 refine gs3 ?_
 exact qEi
 refine gs5 ?_
 refine AW.cH hH (fun hc68 hH=>?_) (fun _ hH=>?_)
 refine AW.k (AW.condT' rfl hc68 ?_)
 refine AW.q ?_
 obtain⟨x69,hx70,hH⟩:=zB hH
 refine AW.le (Le.fM 6 (g:=ze0) rfl (fun y=>.vs rfl)) ?_
 refine gs4 ?_
 refine AO.x (cMs 9 [1] (S:=qCx fl _ _ _ _ (hx70)) (hp:=by exact zG (.c (.box rfl rfl)) (zG (.c .v) (zG (.c .s) (zGn))))) ?_
 refine gs2 ?_
 refine AW.le (Le.ct 0 0 (σ':=(⟨[(4,.v (.string x69.2))],[(1,.box (qJJ x69.1))],129,[(1,L 1)]⟩:St)) (hpin:=⟨⟨rfl,rfl⟩,trivial⟩)) ?_
 refine AW.t ?_
 exact qEi
 refine gs4 ?_
 refine AW.cH hH (fun _ hH=>?_) (fun _ hH=>?_)
 refine AW.q ?_
 obtain⟨x72,hx73,hH⟩:=zB hH
 refine AW.le (Le.fM 6 (g:=ze0) rfl (fun y=>.vs rfl)) ?_
 refine gs4 ?_
 refine AO.x (cMs 9 [1] (S:=qCx fl _ _ _ _ (hx73)) (hp:=by exact zG (.c (.box rfl rfl)) (zG (.c .v) (zG (.c .s) (zGn))))) ?_
 refine gs2 ?_
 refine AW.le (Le.ct 0 0 (σ':=(⟨[(4,.v (.string x72.2))],[(1,.box (qJJ x72.1))],129,[(1,L 1)]⟩:St)) (hpin:=⟨⟨rfl,rfl⟩,trivial⟩)) ?_
 refine AW.t ?_
 exact qEi
 refine gs6 ?_
 refine AW.le (Le.ct 0 0 (σ':=(⟨[(0,.p 1 0),(8,.v (.string x7)),(9,.R 6),(69,.v (.string x7)),(118,.v (.bool (decide (x7=(⟨#[115,107,97,116,101,114]⟩:ByteArray)))))],[(1,.box (qJJ sA)),(6,ro 1 ze0 v32)],129,[(1,L 1)]⟩:St)) (hpin:=⟨⟨rfl,rfl⟩,trivial⟩)) ?_
 refine AW.cH hH (fun hc74 hH=>?_) (fun _ hH=>?_)
 refine AW.k (AW.condT' rfl hc74 ?_)
 refine AW.q ?_
 obtain⟨x75,hx76,hH⟩:=zB hH
 refine AW.le (Le.fM 6 (g:=ze0) rfl (fun y=>.vs rfl)) ?_
 refine gs4 ?_
 refine AO.x (cMs 9 [1] (S:=qGj fl _ _ _ _ (hx76)) (hp:=by exact zG (.c (.box rfl rfl)) (zG (.c .v) (zG (.c .s) (zGn))))) ?_
 refine gs3 ?_
 exact qEi
 refine gs4 ?_
 refine AW.cH hH (fun _ hH=>?_) (fun _ hH=>?_)
 refine AW.q ?_
 obtain⟨x78,hx79,hH⟩:=zB hH
 refine AW.le (Le.fM 6 (g:=ze0) rfl (fun y=>.vs rfl)) ?_
 refine gs4 ?_
 refine AO.x (cMs 9 [1] (S:=qGj fl _ _ _ _ (hx79)) (hp:=by exact zG (.c (.box rfl rfl)) (zG (.c .v) (zG (.c .s) (zGn))))) ?_
 refine gs3 ?_
 exact qEi
 refine gs2 ?_
 obtain⟨x80,hx81,hH⟩:=zB hH
 refine AW.le (Le.fM 6 (g:=ze0) rfl (fun y=>.vs rfl)) ?_
 refine gs4 ?_
 refine AO.x (cMs 9 [1] (S:=qJf fl _ _ _ _ (hx81)) (hp:=by exact zG (.c (.box rfl rfl)) (zG (.c .v) (zG (.c .s) (zGn))))) ?_
 refine gs3 ?_
 exact qEi
 rw[hd16,qAA]at hH
 have hlt18:=qAG hd16
 iterate 18 refine gs ?_
 obtain⟨b82,hx83,x84,hx85,hH⟩:=qAH hH
 refine gs3 ?_
 refine AO.w (qBI T rfl rfl rfl rfl (hx83)) ?_
 refine AO.pu T ?_
 refine AO.w (cVs (qNc fl _ _ _ (hx85))) ?_
 iterate 12 refine gs ?_
 refine AW.cH hH (fun _ hH=>?_) (fun _ hH=>?_)
 refine gs5 ?_
 exact qEi
 refine AW.k ?_
 obtain⟨u86,hx87,hH⟩:=zB hH
 refine gs3 ?_
 refine AO.x (mks T 9 ze0 ([x84.1])) ?_
 refine AO.x (rvs T 10 (hfit:=by exact qAO (hx87))) ?_
 refine gs6 ?_
 refine⟨(k13+1,(v32++[x84.1])),⟨hlt18,(zds hd16▸hH)⟩,qBr hlt18,?_⟩
 exact Le.ct 10 6 (hpin:=⟨⟨rfl,rfl⟩,trivial⟩)
def qBS (fl:Nat):List ByteArray→Nat→List Element→List Int→Int→Int→Int→Int→List Item→List (List Int)→List (List Int)→Int→Int→Int→Int→List Result→List ByteArray→Option (((Option ScriptState)×(List ByteArray)×Bool))
 | [],k5,v34,v35,v36,v37,v38,v39,v40,v41,v42,v43,v44,v45,v46,v47,v48 =>
  some ((some (ScriptState.mk (Code.mk v34 v35 v36 v37 v38 v39) (Performance.mk v40 (Marks.mk v41 v42) (Slips.mk v43 v44 v45)) v46 v47)),v48,true)
 |y6::ys7,k5,v34,v35,v36,v37,v38,v39,v40,v41,v42,v43,v44,v45,v46,v47,v48 =>
  (qAe fl (ScriptState.mk (Code.mk v34 v35 v36 v37 v38 v39) (Performance.mk v40 (Marks.mk v41 v42) (Slips.mk v43 v44 v45)) v46 v47) y6).bind fun x50 =>
  (qAo (qAa 16 (v48.length+([x50.2]).length))).bind fun u52 =>
  qBS fl ys7 (k5+1) x50.1.code.elements x50.1.code.limits x50.1.code.repeats x50.1.code.bonus x50.1.code.keeps x50.1.code.fall x50.1.performance.items x50.1.performance.marks.grades x50.1.performance.marks.components x50.1.performance.slips.falls x50.1.performance.slips.seconds x50.1.performance.slips.other x50.1.factor x50.1.results (v48++[x50.2])
def qFS (fl:Nat) (script:ByteArray):Option ((Option ScriptState)×(List ByteArray)×Bool) :=
 (qCT script).bind fun x1 =>
 cond (!x1.2)
  (some (none,[],false))
  ((qGx fl ).bind fun x3 =>
  qBS fl x1.1 0 x3.code.elements x3.code.limits x3.code.repeats x3.code.bonus x3.code.keeps x3.code.fall x3.performance.items x3.performance.marks.grades x3.performance.marks.components x3.performance.slips.falls x3.performance.slips.seconds x3.performance.slips.other x3.factor x3.results [])
theorem qJb (fl:Nat) (script:ByteArray) (r:((Option ScriptState)×(List ByteArray)×Bool)) (hH:qFS fl script=some r):qAC prog 46 [.v (.string script)] (.t [pnO qJJ r.1,.w 1 (r.2.1.map ze2),.v (.bool r.2.2)]):=by
 refine fns T func46 ?_
 refine gs7 ?_
 obtain⟨x1,hx2,hH⟩:=zB hH
 refine gs2 ?_
 refine AO.x (qAR rfl 1 rfl rfl rfl (qL7 _ _ (hx2)) rfl rfl rfl) ?_
 iterate 12 refine gs ?_
 refine AW.cH hH (fun _ hH=>?_) (fun _ hH=>?_)
 refine gs7 ?_
 exact fin
 refine gs2 ?_
 obtain⟨x3,hx4,hH⟩:=zB hH
 refine AW.r (AO.x (qAR rfl 2 rfl rfl rfl (qNu fl _ (hx4)) rfl rfl rfl) ?_)
 refine AO.x (qFQ T rfl rfl rfl rfl) ?_
 iterate 11 refine gs ?_
 refine AW.loopS (fun s:Nat×(List Element)×(List Int)×Int×Int×Int×Int×(List Item)×(List (List Int))×(List (List Int))×Int×Int×Int×Int×(List Result)×(List ByteArray)=>(⟨[(7,.p 2 0),(8,.R 6),(20,.R 1),(21,(x1.1.length:Int)),(22,(s.1:Int))],[(1,ro 1 ze2 x1.1),(2,.box [sv ze5 s.2.1,sv ze0 s.2.2.1,s.2.2.2.1,s.2.2.2.2.1,s.2.2.2.2.2.1,s.2.2.2.2.2.2.1,sv ze1 s.2.2.2.2.2.2.2.1,sv ze3 s.2.2.2.2.2.2.2.2.1,sv ze3 s.2.2.2.2.2.2.2.2.2.1,s.2.2.2.2.2.2.2.2.2.2.1,s.2.2.2.2.2.2.2.2.2.2.2.1,s.2.2.2.2.2.2.2.2.2.2.2.2.1,s.2.2.2.2.2.2.2.2.2.2.2.2.2.1,sv ze7 s.2.2.2.2.2.2.2.2.2.2.2.2.2.2.1]),(6,ro 1 ze2 s.2.2.2.2.2.2.2.2.2.2.2.2.2.2.2)],35,[]⟩:St)) (fun s=>s.1≤x1.1.length∧qBS fl (x1.1.drop s.1) s.1 s.2.1 s.2.2.1 s.2.2.2.1 s.2.2.2.2.1 s.2.2.2.2.2.1 s.2.2.2.2.2.2.1 s.2.2.2.2.2.2.2.1 s.2.2.2.2.2.2.2.2.1 s.2.2.2.2.2.2.2.2.2.1 s.2.2.2.2.2.2.2.2.2.2.1 s.2.2.2.2.2.2.2.2.2.2.2.1 s.2.2.2.2.2.2.2.2.2.2.2.2.1 s.2.2.2.2.2.2.2.2.2.2.2.2.2.1 s.2.2.2.2.2.2.2.2.2.2.2.2.2.2.1 s.2.2.2.2.2.2.2.2.2.2.2.2.2.2.2=some r) (fun s=>x1.1.length-s.1) (0,x3.code.elements,x3.code.limits,x3.code.repeats,x3.code.bonus,x3.code.keeps,x3.code.fall,x3.performance.items,x3.performance.marks.grades,x3.performance.marks.components,x3.performance.slips.falls,x3.performance.slips.seconds,x3.performance.slips.other,x3.factor,x3.results,[]) ⟨Nat.zero_le _,hH⟩ ?_ ?_
 refine Le.trans (Le.void 8 6 1 rfl rfl) ?_
 exact Le.ct 0 0
 rintro⟨k5,v34,v35,v36,v37,v38,v39,v40,v41,v42,v43,v44,v45,v46,v47,v48⟩ ⟨hk,hH⟩
 try dsimp only at hH⊢
 refine AW.boundR (id:=1) (l:=x1.1) rfl (fun hb9=>?_)
 rcases hd8:x1.1.drop k5 with _|⟨y6,ys7⟩
 rw[hd8,qBS]at hH
 have hlt10:=qAF hd8
 iterate 16 refine gs ?_
 have hR:=zS hH;subst hR
 exact retQ.i [2,6] rfl (.t (zG (.pb rfl (zC .s (zC .s (zC .v (zC .v (zC .v (zC .v (zC .s (zC .s (zC .s (zC .v (zC .v (zC .v (zC .v (zC .s (zCn)))))))))))))))) (zG (.c (.rowR rfl)) (zG (.c .v) (zGn)))))
 rw[hd8,qBS]at hH
 have hlt10:=qAG hd8
 iterate 12 refine gs ?_
 refine AO.w (zLr T rfl rfl rfl rfl (zgG (zgD hd8)) rfl rfl rfl) ?_
 refine gs2 ?_
 obtain⟨x50,hx51,u52,hx53,hH⟩:=qAH hH
 refine gs4 ?_
 refine AO.x (cMs 7 [2] (S:=qJw fl _ _ _ (hx51)) (hp:=by exact zG (.c (.box rfl rfl)) (zG (.c .v) (zGn)))) ?_
 refine AO.x (mks T 7 ze2 ([x50.2])) ?_
 refine AO.x (rvs T 8 (hfit:=by exact qAO (hx53))) ?_
 refine gs6 ?_
 refine⟨(k5+1,x50.1.code.elements,x50.1.code.limits,x50.1.code.repeats,x50.1.code.bonus,x50.1.code.keeps,x50.1.code.fall,x50.1.performance.items,x50.1.performance.marks.grades,x50.1.performance.marks.components,x50.1.performance.slips.falls,x50.1.performance.slips.seconds,x50.1.performance.slips.other,x50.1.factor,x50.1.results,(v48++[x50.2])),⟨hlt10,(zds hd8▸hH)⟩,qBr hlt10,?_⟩
 exact Le.ct 8 6
def qC4:List ByteArray→Nat→List Int→Option (((List Int)×Bool))
 | [],k3,v14 =>
  some (v14,true)
 |y4::ys5,k3,v14 =>
  cond (decide (y4=(⟨#[110,111]⟩:ByteArray))||decide (y4=(⟨#[119,104,97,116]⟩:ByteArray)))
   ((qAo (qAa 8 (v14.length+(([((k3+1:Nat):Int)]:List Int)).length))).bind fun u17 =>
   qC4 ys5 (k3+1) (v14++([((k3+1:Nat):Int)]:List Int)))
   (qC4 ys5 (k3+1) v14)
def qBQ:List ByteArray→Nat→List Int→Option (((List Int)×Bool))
 | [],k3,v14 =>
  some (v14,true)
 |y4::ys5,k3,v14 =>
  cond (decide (y4=(⟨#[110,111]⟩:ByteArray))||decide (y4=(⟨#[119,104,97,116]⟩:ByteArray)))
   ((qAo (qAa 8 (v14.length+(([((k3+1:Nat):Int)]:List Int)).length))).bind fun u17 =>
   qBQ ys5 (k3+1) (v14++([((k3+1:Nat):Int)]:List Int)))
   (qBQ ys5 (k3+1) v14)
def qG8 (fl:Nat) (script:ByteArray):Option ((List Int)×Bool) :=
 (qFS fl script).bind fun x1 =>
 (match x1.1 with
  |none =>
   cond (!x1.2.2)
    (some ([],false))
    (qC4 x1.2.1 0 [])
  |some p0_0 =>
   cond (!x1.2.2)
    (some ([],false))
    (qBQ x1.2.1 0 []))
theorem qIa (fl:Nat) (script:ByteArray) (r:((List Int)×Bool)) (hH:qG8 fl script=some r):qAC prog 15 [.v (.string script)] (.t [.w 1 (r.1.map ze0),.v (.bool r.2)]):=by
 refine fns T func15 ?_
 refine go ?_
 obtain⟨x1,hx2,hH⟩:=zB hH
 rcases hq0_0:x1.1 with _|p0_0
 rw[hq0_0]at hH
 try dsimp only at hH
 refine go ?_
 refine AO.x (qAR rfl 1 rfl rfl rfl ((by have q:=qJb fl _ _ (hx2);rw[hq0_0]at q;exact q)) rfl rfl rfl) (go ?_)
 refine AW.cH hH (fun _ hH=>?_) (fun hc hH=>?_)
 refine go ?_
 exact fin
 refine go ?_
 refine AO.x (qFQ T rfl rfl rfl rfl) (go ?_)
 refine AW.loopS (fun s:Nat×(List Int)=>(⟨[(7,.R 5),(19,.R 1),(20,(x1.2.1.length:Int)),(21,(s.1:Int))],[(1,ro 1 ze2 x1.2.1),(5,ro 1 ze0 s.2)],39,[]⟩:St)) (fun s=>s.1≤x1.2.1.length∧qC4 (x1.2.1.drop s.1) s.1 s.2=some r) (fun s=>x1.2.1.length-s.1) (0,[]) ⟨Nat.zero_le _,hH⟩ ?_ ?_
 refine Le.trans (Le.void 7 5 1 rfl rfl) ?_
 exact Le.ct 0 0
 rintro⟨k3,v14⟩ ⟨hk,hH⟩
 try dsimp only at hH⊢
 refine AW.boundR (id:=1) (l:=x1.2.1) rfl (fun hb7=>?_)
 rcases hd6:x1.2.1.drop k3 with _|⟨y4,ys5⟩
 rw[hd6,qC4]at hH
 have hlt8:=qAF hd6
 refine go ?_
 exact fin
 rw[hd6,qC4]at hH
 have hlt8:=qAG hd6
 refine go ?_
 refine AO.w (zLr T rfl rfl rfl rfl (zgG (zgD hd6)) rfl rfl rfl) (go ?_)
 refine AO.g0 T ?_
 refine AO.g1 T 29 ?_
 refine go ?_
 refine AW.cH hH (fun _ hH=>?_) (fun hc16 hH=>?_)
 obtain⟨u17,hx18,hH⟩:=zB hH
 refine go ?_
 refine AO.x (mks T 6 ze0 (([((k3+1:Nat):Int)]:List Int))) ?_
 refine AO.x (rvs T 7 (hfit:=by exact qAO (hx18))) (go ?_)
 refine⟨(k3+1,(v14++([((k3+1:Nat):Int)]:List Int))),⟨hlt8,(zds hd6▸hH)⟩,qBr hlt8,?_⟩
 exact Le.ct 7 5
 refine go ?_
 refine⟨(k3+1,v14),⟨hlt8,(zds hd6▸hH)⟩,qBr hlt8,?_⟩
 exact Le.ct 0 0
 rw[hq0_0]at hH
 try dsimp only at hH
 refine go ?_
 refine AO.x (qAR rfl 1 rfl rfl rfl ((by have q:=qJb fl _ _ (hx2);rw[hq0_0]at q;exact q)) rfl rfl rfl) (go ?_)
 refine AW.cH hH (fun _ hH=>?_) (fun _ hH=>?_)
 refine go ?_
 exact fin
 refine go ?_
 refine AO.x (qFQ T rfl rfl rfl rfl) (go ?_)
 refine AW.loopS (fun s:Nat×(List Int)=>(⟨[(7,.R 6),(19,.R 2),(20,(x1.2.1.length:Int)),(21,(s.1:Int))],[(2,ro 1 ze2 x1.2.1),(6,ro 1 ze0 s.2)],39,[]⟩:St)) (fun s=>s.1≤x1.2.1.length∧qBQ (x1.2.1.drop s.1) s.1 s.2=some r) (fun s=>x1.2.1.length-s.1) (0,[]) ⟨Nat.zero_le _,hH⟩ ?_ ?_
 refine Le.trans (Le.void 7 6 1 rfl rfl) ?_
 exact Le.ct 0 0
 rintro⟨k3,v14⟩ ⟨hk,hH⟩
 try dsimp only at hH⊢
 refine AW.boundR (id:=2) (l:=x1.2.1) rfl (fun hb7=>?_)
 rcases hd6:x1.2.1.drop k3 with _|⟨y4,ys5⟩
 rw[hd6,qBQ]at hH
 have hlt8:=qAF hd6
 refine go ?_
 exact fin
 rw[hd6,qBQ]at hH
 have hlt8:=qAG hd6
 refine go ?_
 refine AO.w (zLr T rfl rfl rfl rfl (zgG (zgD hd6)) rfl rfl rfl) (go ?_)
 refine AO.g0 T ?_
 refine AO.g1 T 29 ?_
 refine go ?_
 refine AW.cH hH (fun _ hH=>?_) (fun _ hH=>?_)
 obtain⟨u17,hx18,hH⟩:=zB hH
 refine go ?_
 refine AO.x (mks T 7 ze0 (([((k3+1:Nat):Int)]:List Int))) ?_
 refine AO.x (rvs T 8 (hfit:=by exact qAO (hx18))) (go ?_)
 refine⟨(k3+1,(v14++([((k3+1:Nat):Int)]:List Int))),⟨hlt8,(zds hd6▸hH)⟩,qBr hlt8,?_⟩
 exact Le.ct 8 6
 refine go ?_
 refine⟨(k3+1,v14),⟨hlt8,(zds hd6▸hH)⟩,qBr hlt8,?_⟩
 exact Le.ct 0 0
def qDz (b:List Int):List Int→Nat→Option Bool
 | [],k1 =>
  some true
 |y2::ys3,k1 =>
  (qAT b (k1:Int)).bind fun x12 =>
  cond (y2 != x12)
   (some false)
   (qDz b ys3 (k1+1))
def qG2 (a:List Int) (b:List Int):Option Bool :=
 cond ((a.length:Int) != (b.length:Int))
  (some false)
  (qDz b a 0)
theorem qLi (a:List Int) (b:List Int) (r:Bool) (hH:qG2 a b=some r):qAC prog 16 [.s (List.map ze0 a),.s (List.map ze0 b)] (.v (.bool r)):=by
 refine fns T func16 ?_
 refine go ?_
 refine AW.cH hH (fun _ hH=>?_) (fun hc hH=>?_)
 refine go ?_
 exact fin
 refine go ?_
 refine AW.loopS (fun s:Nat=>(⟨[(0,sv ze0 a),(1,sv ze0 b),(5,(s:Int))],[],26,[]⟩:St)) (fun s=>s≤a.length∧qDz b (a.drop s) s=some r) (fun s=>a.length-s) 0 ⟨Nat.zero_le _,hH⟩ ?_ ?_
 exact Le.ct 0 0
 rintro k1 ⟨hk,hH⟩
 try dsimp only at hH⊢
 refine AW.boundM (t:=0) (l:=a) rfl (fun hb5=>?_)
 rcases hd4:a.drop k1 with _|⟨y2,ys3⟩
 rw[hd4,qDz]at hH
 have hlt6:=qAF hd4
 refine go ?_
 exact fin
 rw[hd4,qDz]at hH
 have hlt6:=qAG hd4
 refine go ?_
 obtain⟨x12,hx13,hH⟩:=zB hH
 refine AW.drawn 8 1 [] mix (by kernel_rfl) rfl ?_
 refine go ?_
 refine AW.cH hH (fun _ hH=>?_) (fun _ hH=>?_)
 refine go ?_
 exact fin
 refine go ?_
 refine⟨k1+1,⟨hlt6,(zds hd4▸hH)⟩,qBr hlt6,?_⟩
 exact Le.ct 0 0
def qCj:Nat→List Int→Int→Int→Option (((List Int)×Int))
 |0,_,_,_=>none
 |k1+1,v9,v10,v11 =>
  cond (decide (v11<(v9.length:Int)))
   ((qAT v9 v11).bind fun x13 =>
   qCj k1 (v9.set v11.toNat v10) (w64 (v10+1)) (w64 (v11+1)))
   (some (v9,v10))
def qG5 (fl:Nat) (a:List Int) (k:Int):Option ((List Int)×Int) :=
 qCj fl a k 0
theorem qNy (fl:Nat) (a:List Int) (k:Int) (r:((List Int)×Int)) (hH:qG5 fl a k=some r):qF9 prog 17 [.w 1 (a.map ze0),k] [.w 1 (r.1.map ze0),.u] (.v (.int .i64 r.2)):=by
 refine qLj T func17 rfl (by decide) rfl rfl ?_
 intro L
 show AW _ _ _ (⟨[(0,.R 1),(1,k)],[(1,.row 1 (List.map ze0 a))],19,[(1,L 1)]⟩:St)
 refine AW.q (AW.r (AO.pu T ?_))
 refine AO.n (AW.q (AW.q ?_))
 refine AW.r (AO.pu T ?_)
 refine AO.n (AW.b ?_)
 refine AW.loopS (fun s:Nat×(List Int)×Int×Int=>(⟨[(0,.R 1),(1,s.2.2.1),(5,s.2.2.2)],[(1,.row 1 (List.map ze0 s.2.1))],19,[(1,L 1)]⟩:St)) (fun s=>qCj s.1 s.2.1 s.2.2.1 s.2.2.2=some r) (fun s=>s.1) (fl,a,k,0) hH ?_ ?_
 exact Le.ct 0 0 (hpin:=⟨⟨rfl,rfl⟩,trivial⟩)
 rintro⟨k1,v9,v10,v11⟩ hH
 replace hH:qCj k1 v9 v10 v11=some r:=hH
 try dsimp only
 rcases k1 with _|k1
 cases (show none=some _ from hH)
 rw[qCj]at hH
 refine AW.q (AW.q (AW.r ?_))
 refine AO.p2 T ?_
 refine AO.w (qWF T) ?_
 refine AO.pu T ?_
 refine AO.n (AW.c (b:=decide (v11<(v9.length:Int))) rfl (fun hc=>?_) (fun hc=>?_))
 replace hH:=condT hc hH
 refine AW.k (AW.q ?_)
 refine AW.b (AW.q ?_)
 obtain⟨x13,hx14,hH⟩:=zB hH
 refine AW.r ?_
 iterate 3 refine AO.pu T ?_
 refine AO.w (ixr T (hx14)) ?_
 refine AO.x (zSr T rfl rfl rfl rfl rfl (zgG (hx14)) rfl rfl rfl rfl (u':=v10) rfl rfl) ?_
 refine AO.n (AW.r ?_)
 refine AO.pu T ?_
 refine AO.w aws ?_
 refine AO.pu T ?_
 refine AO.n (AW.r ?_)
 refine AO.pu T ?_
 refine AO.w aws ?_
 refine AO.pu T ?_
 refine AO.n ?_
 refine⟨(k1,(v9.set v11.toNat v10),w64 (v10+1),w64 (v11+1)),hH,Nat.lt_succ_self _,?_⟩
 exact Le.ct 0 0 (hpin:=⟨⟨rfl,rfl⟩,trivial⟩)
 replace hH:=condF hc hH
 refine AW.exit (AW.q (AW.r ?_))
 refine AO.p2 T ?_
 refine AO.n (AW.t ?_)
 have hR:=zS hH;subst hR
 exact⟨trivial,rfl,_,[],[1],rfl,zG (.c (.rowR rfl)) (zG (.c .u) (zGn)),.c (.c .v),by decide⟩
def qCl:List Int→Nat→Int→Option Int
 | [],k1,v8 =>
  some v8
 |y2::ys3,k1,v8 =>
  cond (y2 != v8)
   (some (-1))
   (qCl ys3 (k1+1) (w64 (v8+1)))
def qHI (a:List Int) (k:Int):Option Int :=
 qCl a 0 k
theorem qKE (a:List Int) (k:Int) (r:Int) (hH:qHI a k=some r):qAC prog 18 [.s (List.map ze0 a),k] (.v (.int .i64 r)):=by
 refine fns T func18 ?_
 refine go ?_
 refine AW.loopS (fun s:Nat×Int=>(⟨[(0,sv ze0 a),(1,s.2),(5,(s.1:Int))],[],21,[]⟩:St)) (fun s=>s.1≤a.length∧qCl (a.drop s.1) s.1 s.2=some r) (fun s=>a.length-s.1) (0,k) ⟨Nat.zero_le _,hH⟩ ?_ ?_
 exact Le.ct 0 0
 rintro⟨k1,v8⟩ ⟨hk,hH⟩
 try dsimp only at hH⊢
 refine AW.boundM (t:=0) (l:=a) rfl (fun hb5=>?_)
 rcases hd4:a.drop k1 with _|⟨y2,ys3⟩
 rw[hd4,qCl]at hH
 have hlt6:=qAF hd4
 refine go ?_
 exact fin
 rw[hd4,qCl]at hH
 have hlt6:=qAG hd4
 refine go ?_
 refine AW.cH hH (fun _ hH=>?_) (fun _ hH=>?_)
 refine go ?_
 exact fin
 refine go ?_
 refine⟨(k1+1,w64 (v8+1)),⟨hlt6,(zds hd4▸hH)⟩,qBr hlt6,?_⟩
 exact Le.ct 0 0
def qDD (fl:Nat) (aScript:ByteArray):Option Bool :=
 cond (decide ((aScript.size:Int)>1048576))
  (some true)
  ((qGv fl aScript).bind fun x1 =>
  (qG8 fl aScript).bind fun x3 =>
  (qG2 x3.1 x1.1).bind fun x5 =>
  cond ((!x5)||(!(x3.2==x1.2)))
   (some false)
   ((qG5 fl x3.1 1).bind fun x7 =>
   (qHI x7.1 1).bind fun x9 =>
   cond (decide (x9<0))
    (some false)
    (cond (x9 != x7.2)
     (some false)
     (cond ((!x5)||(!(x3.2==x1.2)))
      (some false)
      (cond (decide (x9<0))
       (some false)
       (cond (x9 != x7.2)
        (some false)
        (some true)))))))
theorem qIr (fl:Nat) (aScript:ByteArray) (r:Bool) (hH:qDD fl aScript=some r):qAC prog 5 [.v (.string aScript)] (.v (.bool r)):=by
 refine fns T func5 ?_
 refine go ?_
 refine AW.cH hH (fun _ hH=>?_) (fun hc hH=>?_)
 refine go ?_
 exact fin
 refine go ?_
 obtain⟨x1,hx2,hH⟩:=zB hH
 refine go ?_
 refine AO.w (cVs (qLs fl _ _ (hx2))) (go ?_)
 obtain⟨x3,hx4,hH⟩:=zB hH
 refine go ?_
 refine AO.x (qAR rfl 1 rfl rfl rfl (qIa fl _ _ (hx4)) rfl rfl rfl) (go ?_)
 obtain⟨x5,hx6,hH⟩:=zB hH
 refine go ?_
 refine AO.w (zLV rfl rfl rfl (es:=[sv ze0 x3.1,sv ze0 x1.1]) ⟨(.rowR rfl (.map fun y=>.vs rfl)),.free rfl,trivial⟩ (qLi _ _ _ (hx6)) (qAb _) rfl) (go ?_)
 refine AO.g0 T ?_
 refine AO.g0 T ?_
 refine AO.g2 T 29 30 ?_
 refine gs2 ?_
 refine AW.le (Le.ct 0 0 (σ':=(⟨[(0,.v (.string aScript)),(3,sv ze0 x1.1),(4,.v (.bool x1.2)),(5,.R 1),(32,.v (.bool ((!x5)||(!(x3.2==x1.2)))))],[(1,ro 1 ze0 x3.1)],66,[]⟩:St))) ?_
 refine AW.cH hH (fun _ hH=>?_) (fun hc hH=>?_)
 refine go ?_
 exact fin
 refine go ?_
 obtain⟨x7,hx8,hH⟩:=zB hH
 refine go ?_
 refine AO.x (cMs 2 [1] (S:=qNy fl _ _ _ (hx8)) (hp:=by exact zG (.c (.rowR rfl)) (zG (.c .v) (zGn)))) (go ?_)
 obtain⟨x9,hx10,hH⟩:=zB hH
 refine go ?_
 refine AO.w (zLV rfl rfl rfl (es:=[sv ze0 x7.1,(1:Int)]) ⟨(.rowR rfl (.map fun y=>.vs rfl)),.free rfl,trivial⟩ (qKE _ _ _ (hx10)) (qAb _) rfl) (go ?_)
 refine AW.cH hH (fun _ hH=>?_) (fun hc hH=>?_)
 refine go ?_
 exact fin
 refine go ?_
 refine AW.cH hH (fun _ hH=>?_) (fun hc hH=>?_)
 refine go ?_
 exact fin
 refine go ?_
 refine AO.x (qAR rfl 2 rfl rfl rfl (qIa fl _ _ (hx4)) rfl rfl rfl) (go ?_)
 refine AO.w (zLV rfl rfl rfl (es:=[sv ze0 x3.1,sv ze0 x1.1]) ⟨(.rowR rfl (.map fun y=>.vs rfl)),.free rfl,trivial⟩ (qLi _ _ _ (hx6)) (qAb _) rfl) (go ?_)
 refine AO.g0 T ?_
 refine AO.g0 T ?_
 refine AO.g2 T 54 55 ?_
 refine gs2 ?_
 refine AW.le (Le.ct 0 0 (σ':=(⟨[(5,.R 1),(7,x7.2),(57,.v (.bool ((!x5)||(!(x3.2==x1.2)))))],[(1,ro 1 ze0 x7.1)],66,[]⟩:St))) ?_
 refine AW.cH hH (fun _ hH=>?_) (fun hc hH=>?_)
 refine go ?_
 exact fin
 refine go ?_
 refine AO.w (zLV rfl rfl rfl (es:=[sv ze0 x7.1,(1:Int)]) ⟨(.rowR rfl (.map fun y=>.vs rfl)),.free rfl,trivial⟩ (qKE _ _ _ (hx10)) (qAb _) rfl) (go ?_)
 refine AW.cH hH (fun _ hH=>?_) (fun hc hH=>?_)
 refine go ?_
 exact fin
 refine go ?_
 refine AW.cH hH (fun _ hH=>?_) (fun _ hH=>?_)
 refine go ?_
 exact fin
 refine go ?_
 exact fin
end Go.Proofs.YtkidpkmpnbibmaaGreatDoor

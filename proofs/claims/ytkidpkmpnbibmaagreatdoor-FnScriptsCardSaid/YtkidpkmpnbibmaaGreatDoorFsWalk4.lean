/- The walk, part 4: what each function reached by the law FnScripts computes. No condition. -/
import Derived.Test.YtkidpkmpnbibmaaGreatDoorFsWalk3
set_option maxRecDepth 4000
set_option maxHeartbeats 1000000
set_option linter.unusedVariables false
set_option linter.unusedSimpArgs false
set_option linter.unusedSectionVars false
namespace Go.Proofs.YtkidpkmpnbibmaaGreatDoor
open Go.AM Tryz
def qEO (l:List Result):List Result->Nat->bE->bF
 | [],e,a =>
  some (decide ((l.length:Int)<=40))
 |b::f,e,a =>
  (qJf b).bind fun c =>
  (opt (!(!c)) default (qL6 a b.ax)).bind fun d =>
  (opt (!((!c)||d)) default (qAV l 0)).bind fun g =>
  cond (((!c)||d)||((b.ap.length:Int) != (g.ap.length:Int)))
   (some false)
   ((qAl (qAg 8 (a.length+([b.ax]).length))).bind fun h =>
   qEO l f (e+1) (a++[b.ax]))
def qJF (l:List Result):bF :=
 qEO l l 0 []
theorem qQQ (l:List Result) (r:Bool) (J:qJF l=some r):qAC prog 215 [.s (List.map ze6 l)] (.v (.bool r)):=by
 refine fns T func215 ?_
 refine go ?_
 refine AW.loopS (fun s:Nat×(bE)=>(⟨[(0,sv ze6 l),(3,.R 6),(6,sv ze6 l),(7,(l.length:Int)),(8,(s.1:Int))],[(6,ro 1 ze0 s.2)],41,[]⟩:St)) (fun s=>s.1<=l.length/\qEO l (l.drop s.1) s.1 s.2=some r) (fun s=>l.length-s.1) (0,[]) ⟨Nat.zero_le _,J⟩ ?_ ?_
 refine Le.trans (Le.void 3 6 1 rfl rfl) ?_
 exact Le.ct 0 0
 rintro⟨e,d⟩ ⟨z,J⟩
 try dsimp only at J⊢
 refine AW.boundM (t:=0) (l:=l) rfl (fun q=>?_)
 rcases a:l.drop e with _|⟨b,u⟩
 rw[a,qEO]at J
 have c:=qAG a
 refine go ?_
 exact fin
 rw[a,qEO]at J
 have c:=qAF a
 refine go ?_
 refine AO.x (als T 7) ?_
 refine AO.se T [b.ax,sv ze0 b.ap] ?_
 refine go ?_
 obtain⟨m,f,n,g,o,i,J⟩:=qAq J
 refine AW.drawn 18 8 [] mix (by kernel_rfl) rfl ?_
 refine go ?_
 refine AD.vv (cVs (qOx _ _ (f))) ?_
 refine go ?_
 refine AD.pureG T [] rfl trivial rfl rfl ?_
 refine AD.pureG T [] rfl trivial rfl rfl ?_
 refine AD.pureG T [17] rfl ⟨fun h=>h,trivial⟩ rfl rfl ?_
 refine AD.guard [16,18] rfl ⟨fun h=>h,fun h=>h,trivial⟩ (fun hg=>zLV rfl rfl rfl (es:=[sv ze0 d,b.ax]) ⟨(.rowR rfl (.map fun y=>.vs rfl)),.free rfl,trivial⟩ (qRm _ _ _ (qD7 g hg)) (qAj _) rfl) rfl ?_
 refine AD.vv ors ?_
 refine AD.pu T ?_
 refine AD.pureG T [] rfl trivial rfl rfl ?_
 refine AD.pureG T [22] rfl ⟨fun h=>h,trivial⟩ rfl rfl ?_
 refine AD.guard [23] rfl ⟨fun h=>h,trivial⟩ (fun hg=>qMc T) rfl ?_
 refine AD.pureG T [] rfl trivial rfl rfl ?_
 refine AD.guard [25] rfl ⟨fun h=>h,trivial⟩ (fun hg=>ixs T (qD7 i hg)) rfl ?_
 refine AD.pureG T [26] rfl ⟨fun h=>h,trivial⟩ rfl rfl ?_
 refine AD.pureG T [27] rfl ⟨fun h=>h,trivial⟩ rfl rfl ?_
 refine AD.guard [28] rfl ⟨fun h=>h,trivial⟩ (fun hg=>qMc T) rfl ?_
 refine AD.nil (AO.g2 T 24 29 ?_)
 refine gs2 ?_
 refine AW.le (Le.ct 0 0 (σ':=(⟨[(0,sv ze6 l),(3,.R 6),(5,.p 7 0),(6,sv ze6 l),(7,(l.length:Int)),(8,(e:Int)),(31,.v (.bool (((!m)||n)||((b.ap.length:Int) != (o.ap.length:Int)))))],[(6,ro 1 ze0 d),(7,.box [b.ax,sv ze0 b.ap])],41,[]⟩:St))) ?_
 refine Cf J fun _ J=>?_
 refine AW.k ?_
 obtain⟨w,j,J⟩:=zB J
 refine go ?_
 refine AO.x (mks T 8 ze0 ([b.ax])) ?_
 refine AO.x (rvs T 9 (hfit:=by exact qAJ (j))) (go ?_)
 refine⟨(e+1,(d++[b.ax])),⟨c,(zds a▸J)⟩,qBm c,?_⟩
 exact Le.ct 9 6
def qE6 (a8:Nat) (x:CsState) (n:Int):Option (CsState×bD) :=
 (qAl (qAg 32 x.ak.length)).bind fun e =>
 (qDU a8 x.ag x.p x.am).bind fun a =>
 (qAl (qAg 32 (x.ak.length+([(Result.mk n [a])]).length))).bind fun f =>
 (qJF (x.ak++[(Result.mk n [a])])).bind fun c =>
 cond (!c)
  (some (x,(bz [110,111])))
  ((qCf a8 (x.ak++[(Result.mk n [a])]) (w64 ((((x.ak++[(Result.mk n [a])])).length:Int)-1))).bind fun d =>
  (qBQ a8 a8 d).bind fun b =>
  some ((CsState.mk x.ag x.p x.am (x.ak++[(Result.mk n [a])]) x.no x.aA x.aF),b))
theorem qLW (a8:Nat) (x:CsState) (n:Int) (r:(CsState×bD)) (J:qE6 a8 x n=some r):qGM prog 150 [.pn (qGi x),n] [.pn (qGi r.1),.u] (.v (.string r.2)):=by
 refine qJU T func150 rfl (by decide) rfl rfl [.p 1 0,n] [(1,.box (ze8 x 2 3)),(3,ro 1 ze0 x.aA),(2,ro 1 ze0 x.no)] 4 (by kernel_rfl) [1] rfl rfl ?_
 intro L
 show AW _ _ _ (⟨[(0,.p 1 0),(1,n)],[(1,.box (ze8 x 2 3)),(3,ro 1 ze0 x.aA),(2,ro 1 ze0 x.no)],43,[(1,L 1)]⟩:St)
 refine go ?_
 obtain⟨k,d,a,e,m,h,J⟩:=qAq J
 refine AW.drawn 21 4 [] mix (by kernel_rfl) rfl ?_
 refine AD.v (FStep.mk0 T rfl rfl rfl rfl rfl) ?_
 refine go ?_
 refine AD.q (FStep.app_ws T rfl rfl rfl rfl rfl rfl rfl (by decide) (by decide) rfl rfl (fun _=>rfl) (qAJ (d)) rfl) (by simp[qA1]) (Nat.le_succ _) rfl ?_
 refine go ?_
 refine AD.vv (cVs (qHs a8 _ _ _ _ (e))) ?_
 refine AD.q (FStep.mk T (f:=ze0) (l:=[a]) rfl rfl rfl rfl rfl rfl rfl rfl rfl (fun _=>rfl) rfl rfl rfl rfl) (by simp[qA1]) (Nat.le_succ _) rfl ?_
 refine gs2 ?_
 refine AO.le (Le.fM 5 (g:=ze0) rfl (fun y=>.vs rfl)) ?_
 refine AO.x (mks T 6 ze6 ([(Result.mk n [a])])) ?_
 refine AO.x (rvs T 7 (hfit:=by exact qAJ (h))) ?_
 refine gs2 ?_
 refine AW.le (Le.ct 0 0 (σ':=(⟨[(0,.p 1 0),(5,.R 7)],[(1,.box (ze8 x 2 3)),(2,ro 1 ze0 x.no),(3,ro 1 ze0 x.aA),(7,ro 2 ze6 (x.ak++[(Result.mk n [a])]))],43,[(1,L 1)]⟩:St)) (hpin:=⟨⟨rfl,rfl⟩,trivial⟩)) ?_
 refine go ?_
 obtain⟨o,i,J⟩:=zB J
 refine go ?_
 refine AO.w (zLV rfl rfl rfl (es:=[sv ze6 (x.ak++[(Result.mk n [a])])]) ⟨(.rowR rfl (.map fun y=>.vs rfl)),trivial⟩ (qQQ _ _ (i)) (qAj _) rfl) (go ?_)
 refine AW.cH J (fun _ J=>?_) (fun _ J=>?_)
 refine go ?_
 exact qDO
 refine go ?_
 refine AO.se T [sv ze5 x.ag.ad,sv ze0 x.ag.ar,x.ag.aq,x.ag.av,x.ag.au,x.ag.ay,sv ze2 x.p.ai,sv ze3 x.p.ae.ah,sv ze3 x.p.ae.ac,x.p.af.falls,x.p.af.an,x.p.af.aw,x.am,.R 7,.R 2,.R 3,x.aF] ?_
 refine go ?_
 obtain⟨s,b,j,c,J⟩:=qAE J
 refine go ?_
 refine AO.w (zLV rfl rfl rfl (es:=[sv ze6 (x.ak++[(Result.mk n [a])]),w64 ((((x.ak++[(Result.mk n [a])])).length:Int)-1)]) ⟨(.rowR rfl (.map fun y=>.vs rfl)),.free rfl,trivial⟩ (qL3 a8 _ _ _ (b)) (qAj _) rfl) ?_
 refine AO.w (cVs (qF0 a8 a8 _ _ (c))) ?_
 refine gs2 ?_
 refine AW.le (Le.fM 7 (g:=ze6) rfl (fun y=>.vs rfl)) ?_
 refine AW.t ?_
 exact qDO
def qAI (a8:Nat) (x:CsState) (w:bD) (n:bE):Option (CsState×bD) :=
 (qAZ x.p x.p.ai).bind fun a =>
 cond (decide (w=(bz [108,105,109,105,116])))
  ((qBa a8 x w n).bind fun j =>
  some (j.1,j.2))
  (cond (decide (w=(bz [114,117,108,101,115])))
   ((qBa a8 x w n).bind fun k =>
   some (k.1,k.2))
   (cond (decide (w=(bz [106,117,100,103,101,115])))
    ((qAk a8 x w n).bind fun b =>
    some (b.1,b.2))
    (cond (decide (w=(bz [103,114,97,100,101])))
     ((qAk a8 x w n).bind fun c =>
     some (c.1,c.2))
     (cond (decide (w=(bz [99,111,109,112,111,110,101,110,116])))
      ((qAk a8 x w n).bind fun d =>
      some (d.1,d.2))
      (cond (decide (w=(bz [115,108,105,112,115])))
       ((qAV n 0).bind fun l =>
       (qAV n 1).bind fun m =>
       (qAV n 2).bind fun o =>
       (qAR a8 x x.ag (Performance.mk a.ai a.ae (Slips.mk l m o))).bind fun e =>
       some (e.1,e.2))
       (cond (decide (w=(bz [102,97,99,116,111,114])))
        ((qAV n 0).bind fun f =>
        (qFS f).bind fun q =>
        cond (!q)
         (some (x,(bz [110,111])))
         (some ((CsState.mk x.ag x.p f x.ak x.no x.aA x.aF),(bz [111,107]))))
        (cond (decide (w=(bz [114,97,110,103,101])))
         ((qAV n 0).bind fun g =>
         (qGf a.ae g).bind fun r =>
         cond (!r)
          (some (x,(bz [110,111])))
          ((qG1 a8 x.ag a x.am g).bind fun h =>
          (qBN a8 [h.1,h.2]).bind fun s =>
          some (x,s)))
         ((qAV n 0).bind fun t =>
         (qE6 a8 x t).bind fun i =>
         some (i.1,i.2)))))))))
theorem qK1 (a8:Nat) (x:CsState) (w:bD) (n:bE) (r:(CsState×bD)) (J:qAI a8 x w n=some r):qGM prog 109 [.pn (qGi x),.v (.string w),.s (List.map ze0 n)] [.pn (qGi r.1),.u,.u] (.v (.string r.2)):=by
 refine qJU T func109 rfl (by decide) rfl rfl [.p 1 0,.v (.string w),sv ze0 n] [(1,.box (ze8 x 2 3)),(3,ro 1 ze0 x.aA),(2,ro 1 ze0 x.no)] 4 (by kernel_rfl) [1] rfl rfl ?_
 intro L
 show AW _ _ _ (⟨[(0,.p 1 0),(1,.v (.string w)),(2,sv ze0 n)],[(1,.box (ze8 x 2 3)),(3,ro 1 ze0 x.aA),(2,ro 1 ze0 x.no)],103,[(1,L 1)]⟩:St)
 refine go ?_
 obtain⟨a,O,J⟩:=zB J
 refine AW.drawn 11 4 [] mix (by kernel_rfl) rfl ?_
 refine go ?_
 refine AD.q (FStep.call rfl rfl rfl rfl rfl (qGD _ _ _ (O)) rfl rfl) (qBD _ _) (qDi _ _) rfl ?_
 refine AD.q (FStep.alloc T rfl rfl rfl rfl rfl rfl) (by simp[qA1]) (Nat.le_succ _) rfl ?_
 refine AD.nil (AO.se T [.R 4,.R 5,.R 6,a.af.falls,a.af.an,a.af.aw] ?_)
 refine go ?_
 refine AW.cH J (fun P J=>?_) (fun _ J=>?_)
 refine AW.k (AW.condT' rfl P ?_)
 refine AW.q ?_
 obtain⟨j,Q,J⟩:=zB J
 refine go ?_
 refine AO.x (qBv (ze8 j.1 8 9) [(9,ro 1 ze0 j.1.aA),(8,ro 1 ze0 j.1.no)] 10 (by kernel_rfl) rfl 8 rfl rfl rfl rfl (es:=[.pn (qGi x),.v (.string w),.s (n.map ze0)]) (us:=[.u,.u]) (cs:=qGi j.1) (ids:=[1,2,3]) (by exact zG (.pb rfl (qBB rfl rfl)) (zG (.c .v) (zG (.c .s) (zGn)))) (by decide) (by decide) (qHf a8 _ _ _ _ (Q)) rfl rfl (by rfl) rfl) (go ?_)
 exact qDO
 refine go ?_
 refine AW.cH J (fun _ J=>?_) (fun _ J=>?_)
 refine AW.q ?_
 obtain⟨l,S,J⟩:=zB J
 refine go ?_
 refine AO.x (qBv (ze8 l.1 10 11) [(11,ro 1 ze0 l.1.aA),(10,ro 1 ze0 l.1.no)] 12 (by kernel_rfl) rfl 10 rfl rfl rfl rfl (es:=[.pn (qGi x),.v (.string w),.s (n.map ze0)]) (us:=[.u,.u]) (cs:=qGi l.1) (ids:=[1,2,3]) (by exact zG (.pb rfl (qBB rfl rfl)) (zG (.c .v) (zG (.c .s) (zGn)))) (by decide) (by decide) (qHf a8 _ _ _ _ (S)) rfl rfl (by rfl) rfl) (go ?_)
 exact qDO
 refine go ?_
 refine AW.cH J (fun U J=>?_) (fun _ J=>?_)
 refine AW.k (AW.condT' rfl U ?_)
 refine AW.q ?_
 obtain⟨b,B,J⟩:=zB J
 refine go ?_
 refine AO.x (qBv (ze8 b.1 12 13) [(13,ro 1 ze0 b.1.aA),(12,ro 1 ze0 b.1.no)] 14 (by kernel_rfl) rfl 12 rfl rfl rfl rfl (es:=[.pn (qGi x),.v (.string w),.s (n.map ze0)]) (us:=[.u,.u]) (cs:=qGi b.1) (ids:=[1,2,3]) (by exact zG (.pb rfl (qBB rfl rfl)) (zG (.c .v) (zG (.c .s) (zGn)))) (by decide) (by decide) (qFJ a8 _ _ _ _ (B)) rfl rfl (by rfl) rfl) ?_
 refine gs2 ?_
 refine AW.le (Le.ct 0 0 (σ':=(⟨[(6,.v (.string b.2))],[(1,.box (ze8 b.1 12 13)),(12,ro 1 ze0 b.1.no),(13,ro 1 ze0 b.1.aA)],103,[(1,L 1)]⟩:St)) (hpin:=⟨⟨rfl,rfl⟩,trivial⟩)) ?_
 refine AW.t ?_
 exact qDO
 refine go ?_
 refine AW.cH J (fun C J=>?_) (fun _ J=>?_)
 refine AW.k (AW.condT' rfl C ?_)
 refine AW.q ?_
 obtain⟨d,E,J⟩:=zB J
 refine go ?_
 refine AO.x (qBv (ze8 d.1 14 15) [(15,ro 1 ze0 d.1.aA),(14,ro 1 ze0 d.1.no)] 16 (by kernel_rfl) rfl 14 rfl rfl rfl rfl (es:=[.pn (qGi x),.v (.string w),.s (n.map ze0)]) (us:=[.u,.u]) (cs:=qGi d.1) (ids:=[1,2,3]) (by exact zG (.pb rfl (qBB rfl rfl)) (zG (.c .v) (zG (.c .s) (zGn)))) (by decide) (by decide) (qFJ a8 _ _ _ _ (E)) rfl rfl (by rfl) rfl) ?_
 refine gs2 ?_
 refine AW.le (Le.ct 0 0 (σ':=(⟨[(6,.v (.string d.2))],[(1,.box (ze8 d.1 14 15)),(14,ro 1 ze0 d.1.no),(15,ro 1 ze0 d.1.aA)],103,[(1,L 1)]⟩:St)) (hpin:=⟨⟨rfl,rfl⟩,trivial⟩)) ?_
 refine AW.t ?_
 exact qDO
 refine gs4 ?_
 refine AW.le (Le.ct 0 0 (σ':=(⟨[(0,.p 1 0),(1,.v (.string w)),(2,sv ze0 n),(7,.p 7 0),(20,.v (.string w)),(28,.v (.bool (decide (w=(bz [99,111,109,112,111,110,101,110,116])))))],[(1,.box (ze8 x 2 3)),(2,ro 1 ze0 x.no),(3,ro 1 ze0 x.aA),(4,ro 3 qBn a.ai),(5,ro 1 ze7 a.ae.ah),(6,ro 1 ze7 a.ae.ac),(7,.box [.R 4,.R 5,.R 6,a.af.falls,a.af.an,a.af.aw])],103,[(1,L 1)]⟩:St)) (hpin:=⟨⟨rfl,rfl⟩,trivial⟩)) ?_
 refine AW.cH J (fun _ J=>?_) (fun _ J=>?_)
 refine AW.q ?_
 obtain⟨f,F,J⟩:=zB J
 refine go ?_
 refine AO.x (qBv (ze8 f.1 16 17) [(17,ro 1 ze0 f.1.aA),(16,ro 1 ze0 f.1.no)] 18 (by kernel_rfl) rfl 16 rfl rfl rfl rfl (es:=[.pn (qGi x),.v (.string w),.s (n.map ze0)]) (us:=[.u,.u]) (cs:=qGi f.1) (ids:=[1,2,3]) (by exact zG (.pb rfl (qBB rfl rfl)) (zG (.c .v) (zG (.c .s) (zGn)))) (by decide) (by decide) (qFJ a8 _ _ _ _ (F)) rfl rfl (by rfl) rfl) (go ?_)
 exact qDO
 refine go ?_
 refine AW.cH J (fun _ J=>?_) (fun _ J=>?_)
 refine AW.q ?_
 obtain⟨m,X,o,Y,z,Z,J⟩:=qAq J
 refine AW.drawn 9 18 [] mix (by kernel_rfl) rfl ?_
 refine go ?_
 refine AO.se T [.R 4,.R 5,.R 6,m,o,z] ?_
 refine go ?_
 obtain⟨h,G,J⟩:=zB J
 refine AW.le (Le.fM 4 (g:=ze2) rfl (fun y=>qGO y)) ?_
 refine AW.le (Le.fM 5 (g:=ze3) rfl (fun y=>qAh y)) ?_
 refine AW.le (Le.fM 6 (g:=ze3) rfl (fun y=>qAh y)) ?_
 refine AW.drawn 6 18 [] mix (by kernel_rfl) rfl ?_
 refine go ?_
 refine AO.x (qBv (ze8 h.1 18 19) [(19,ro 1 ze0 h.1.aA),(18,ro 1 ze0 h.1.no)] 20 (by kernel_rfl) rfl 18 rfl rfl rfl rfl (es:=[.pn (qGi x),.g (ze4 x.ag),.g (ze9 (Performance.mk a.ai a.ae (Slips.mk m o z)))]) (us:=[.u,.u]) (cs:=qGi h.1) (ids:=[1,2,3]) (by exact zG (.pb rfl (qBB rfl rfl)) (zG (.g (zC .s (zC .s (zC .v (zC .v (zC .v (zC .v (zCn)))))))) (zG (.g (zC .s (zC .s (zC .s (zC .v (zC .v (zC .v (zCn)))))))) (zGn)))) (by decide) (by decide) (qBR a8 _ _ _ _ (G)) rfl rfl (by rfl) rfl) (go ?_)
 exact qDO
 refine go ?_
 refine AW.cH J (fun _ J=>?_) (fun _ J=>?_)
 refine go ?_
 obtain⟨V,aa,al,H,J⟩:=qAE J
 refine go ?_
 refine AO.w (cVs (qLK _ _ (H))) (go ?_)
 refine AW.cH J (fun _ J=>?_) (fun hc J=>?_)
 refine go ?_
 exact qDO
 refine go ?_
 refine AO.se T [sv ze5 x.ag.ad,sv ze0 x.ag.ar,x.ag.aq,x.ag.av,x.ag.au,x.ag.ay,sv ze2 x.p.ai,sv ze3 x.p.ae.ah,sv ze3 x.p.ae.ac,x.p.af.falls,x.p.af.an,x.p.af.aw,V,sv ze6 x.ak,.R 2,.R 3,x.aF] ?_
 refine go ?_
 exact qDO
 refine go ?_
 refine AW.cH J (fun _ J=>?_) (fun _ J=>?_)
 refine go ?_
 obtain⟨A,ab,ao,I,J⟩:=qAE J
 refine AW.drawn 5 20 [] mix (by kernel_rfl) rfl ?_
 refine go ?_
 refine AO.w (zLV rfl rfl rfl (es:=[.g (qJb a.ae),A]) ⟨qIK (LendL.cons ((.rowR rfl (.map fun y=>qAh y))) (LendL.cons ((.rowR rfl (.map fun y=>qAh y))) LendL.nil)),.free rfl,trivial⟩ (qLA _ _ _ (I)) (qAj _) rfl) (go ?_)
 refine AW.cH J (fun _ J=>?_) (fun _ J=>?_)
 refine go ?_
 exact qDO
 refine go ?_
 obtain⟨e,K,J⟩:=zB J
 refine AW.drawn 17 20 [] mix (by kernel_rfl) rfl ?_
 refine go ?_
 refine AD.vv (zLV rfl rfl rfl (es:=[.g (ze4 x.ag),.g (ze9 a),x.am,A]) ⟨.free rfl,qIK (LendL.cons ((.rowR rfl (.map fun y=>qGO y))) (LendL.cons ((.rowR rfl (.map fun y=>qAh y))) (LendL.cons ((.rowR rfl (.map fun y=>qAh y))) (LendL.cons (.free rfl) (LendL.cons (.free rfl) (LendL.cons (.free rfl) LendL.nil)))))),.free rfl,.free rfl,trivial⟩ (qPv a8 _ _ _ _ _ (K)) (qYp (zfl (.cons (qAj _) (.cons (qAj _) .nil)))) rfl) ?_
 refine gs7 ?_
 refine AW.le (Le.ct 0 0 (σ':=(⟨[(8,e.1),(9,e.2)],[(1,.box (ze8 x 2 3)),(2,ro 1 ze0 x.no),(3,ro 1 ze0 x.aA)],103,[(1,L 1)]⟩:St)) (hpin:=⟨⟨rfl,rfl⟩,trivial⟩)) ?_
 refine AW.q ?_
 obtain⟨ap,M,J⟩:=zB J
 refine go ?_
 refine AO.x (mks T 20 ze0 ([e.1,e.2])) ?_
 refine AO.w (zLV rfl rfl rfl (es:=[sv ze0 [e.1,e.2]]) ⟨(.rowR rfl (.map fun y=>.vs rfl)),trivial⟩ (qGV a8 _ _ (M)) (qAj _) rfl) (go ?_)
 exact qDO
 refine go ?_
 obtain⟨W,aj,i,N,J⟩:=qAE J
 refine go ?_
 refine AO.x (qBv (ze8 i.1 21 22) [(22,ro 1 ze0 i.1.aA),(21,ro 1 ze0 i.1.no)] 23 (by kernel_rfl) rfl 21 rfl rfl rfl rfl (es:=[.pn (qGi x),.v (.int .i64 W)]) (us:=[.u]) (cs:=qGi i.1) (ids:=[1,2,3]) (by exact zG (.pb rfl (qBB rfl rfl)) (zG (.c .v) (zGn))) (by decide) (by decide) (qLW a8 _ _ _ (N)) rfl rfl (by rfl) rfl) (go ?_)
 exact qDO
def qAB (a8:Nat) (x:CsState) (t:bD):Option (CsState×bD) :=
 (qA8 a8 t 32).bind fun b =>
 cond ((b.length:Int)==1)
  ((qAY a8 x t).bind fun i =>
  some (i.1,i.2))
  ((qAV b 0).bind fun c =>
  cond (decide (c=(bz [105,116,101,109])))
   ((qAl (inB 5 t.size t.size)).bind fun o =>
   (qCT a8 x (ByteArray.extract t (5:Int).toNat t.size)).bind fun e =>
   some (e.1,e.2))
   (cond (decide (c=(bz [99,97,108,108])))
    ((qCq b 1).bind fun j =>
    (qBu a8 x j).bind fun f =>
    some (f.1,f.2))
    (cond (decide (c=(bz [101,108,101,109,101,110,116])))
     ((qCq b 2).bind fun k =>
     (qCy a8 k false).bind fun d =>
     cond ((!d.2)||((d.1.length:Int) != 3))
      (some (x,(bz [119,104,97,116])))
      ((qAV b 1).bind fun l =>
      (qDG a8 x l d.1).bind fun g =>
      some (g.1,g.2)))
     ((qCq b 1).bind fun m =>
     (qCy a8 m (decide (c=(bz [103,114,97,100,101])))).bind fun a =>
     (opt (!(!a.2)) default (qFE c)).bind fun n =>
     cond ((!a.2)||((a.1.length:Int) != n))
      (some (x,(bz [119,104,97,116])))
      ((qAI a8 x c a.1).bind fun h =>
      some (h.1,h.2))))))
theorem qMe (a8:Nat) (x:CsState) (t:bD) (r:(CsState×bD)) (J:qAB a8 x t=some r):qGM prog 74 [.pn (qGi x),.v (.string t)] [.pn (qGi r.1),.u] (.v (.string r.2)):=by
 refine qJU T func74 rfl (by decide) rfl rfl [.p 1 0,.v (.string t)] [(1,.box (ze8 x 2 3)),(3,ro 1 ze0 x.aA),(2,ro 1 ze0 x.no)] 4 (by kernel_rfl) [1] rfl rfl ?_
 intro L
 show AW _ _ _ (⟨[(0,.p 1 0),(1,.v (.string t))],[(1,.box (ze8 x 2 3)),(3,ro 1 ze0 x.aA),(2,ro 1 ze0 x.no)],88,[(1,L 1)]⟩:St)
 refine gs5 ?_
 obtain⟨F,G,J⟩:=zB J
 refine gs2 ?_
 refine AO.x (qAO rfl 4 rfl rfl rfl (qH4 a8 _ _ _ (G)) rfl rfl rfl) ?_
 iterate 11 refine gs ?_
 refine AW.cH J (fun _ J=>?_) (fun hc J=>?_)
 refine AW.q ?_
 obtain⟨j,H,J⟩:=zB J
 refine gs3 ?_
 refine AO.x (qBv (ze8 j.1 5 6) [(6,ro 1 ze0 j.1.aA),(5,ro 1 ze0 j.1.no)] 7 (by kernel_rfl) rfl 5 rfl rfl rfl rfl (es:=[.pn (qGi x),.v (.string t)]) (us:=[.u]) (cs:=qGi j.1) (ids:=[1,2,3]) (by exact zG (.pb rfl (qBB rfl rfl)) (zG (.c .v) (zGn))) (by decide) (by decide) (qLl a8 _ _ _ (H)) rfl rfl (by rfl) rfl) ?_
 refine gs3 ?_
 exact qDO
 refine AW.q ?_
 obtain⟨N,a,J⟩:=zB J
 refine gs3 ?_
 refine AO.w (zLr T rfl rfl rfl rfl (zgG (a)) rfl rfl rfl) ?_
 refine gs3 ?_
 refine AW.cH J (fun _ J=>?_) (fun _ J=>?_)
 refine AW.q ?_
 obtain⟨U,I,b,k,J⟩:=qAE J
 refine gs3 ?_
 refine AO.w (qFk T rfl rfl rfl rfl (qAJ (I))) ?_
 refine AO.x (qBv (ze8 b.1 7 8) [(8,ro 1 ze0 b.1.aA),(7,ro 1 ze0 b.1.no)] 9 (by kernel_rfl) rfl 7 rfl rfl rfl rfl (es:=[.pn (qGi x),.v (.string (ByteArray.extract t (5:Int).toNat t.size))]) (us:=[.u]) (cs:=qGi b.1) (ids:=[1,2,3]) (by exact zG (.pb rfl (qBB rfl rfl)) (zG (.c .v) (zGn))) (by decide) (by decide) (qMa a8 _ _ _ (k)) rfl rfl (by rfl) rfl) ?_
 refine gs3 ?_
 exact qDO
 refine gs4 ?_
 refine AO.w (zLr T rfl rfl rfl rfl (zgG (a)) rfl rfl rfl) ?_
 refine gs3 ?_
 refine AW.cH J (fun _ J=>?_) (fun _ J=>?_)
 refine AW.q ?_
 obtain⟨K,l,d,m,J⟩:=qAE J
 refine AW.le (Le.fM 4 (g:=ze1) rfl (fun y=>.vs rfl)) ?_
 refine gs3 ?_
 refine AO.w (qCg T rfl rfl rfl rfl rfl (l) (fun _=>rfl)) ?_
 refine AO.x (qBv (ze8 d.1 9 10) [(10,ro 1 ze0 d.1.aA),(9,ro 1 ze0 d.1.no)] 11 (by kernel_rfl) rfl 9 rfl rfl rfl rfl (es:=[.pn (qGi x),.s (K.map ze1)]) (us:=[.u]) (cs:=qGi d.1) (ids:=[1,2,3]) (by exact zG (.pb rfl (qBB rfl rfl)) (zG (.c .s) (zGn))) (by decide) (by decide) (qKW a8 _ _ _ (m)) rfl rfl (by rfl) rfl) ?_
 refine gs3 ?_
 exact qDO
 refine gs4 ?_
 refine AO.w (zLr T rfl rfl rfl rfl (zgG (a)) rfl rfl rfl) ?_
 refine gs3 ?_
 refine AW.cH J (fun _ J=>?_) (fun _ J=>?_)
 refine AW.q ?_
 obtain⟨P,n,h,o,J⟩:=qAE J
 refine AW.le (Le.fM 4 (g:=ze1) rfl (fun y=>.vs rfl)) ?_
 refine gs2 ?_
 refine AO.w (qCg T rfl rfl rfl rfl rfl (n) (fun _=>rfl)) ?_
 refine AO.x (qAO rfl 11 rfl rfl rfl (qIT a8 _ _ _ (o)) rfl rfl rfl) ?_
 refine gs6 ?_
 refine AW.le (Le.ct 0 0 (σ':=(⟨[(0,.p 1 0),(5,sv ze1 F),(6,.R 11),(7,.v (.bool h.2))],[(1,.box (ze8 x 2 3)),(2,ro 1 ze0 x.no),(3,ro 1 ze0 x.aA),(11,ro 1 ze0 h.1)],88,[(1,L 1)]⟩:St)) (hpin:=⟨⟨rfl,rfl⟩,trivial⟩)) ?_
 refine gs6 ?_
 refine AO.g0 T ?_
 refine AO.d1 51 (fun hg=>qJP T rfl rfl rfl rfl) ?_
 refine AO.g1 T 52 ?_
 refine gs2 ?_
 refine AW.cH J (fun _ J=>?_) (fun hc J=>?_)
 refine gs5 ?_
 exact qDO
 refine gs2 ?_
 obtain⟨M,O,e,z,J⟩:=qAE J
 refine AW.le (Le.fM 11 (g:=ze0) rfl (fun y=>.vs rfl)) ?_
 refine gs6 ?_
 refine AO.x (qBv (ze8 e.1 12 13) [(13,ro 1 ze0 e.1.aA),(12,ro 1 ze0 e.1.no)] 14 (by kernel_rfl) rfl 12 rfl rfl rfl rfl (es:=[.pn (qGi x),.v (.string M),.s (h.1.map ze0)]) (us:=[.u,.u]) (cs:=qGi e.1) (ids:=[1,2,3]) (by exact zG (.pb rfl (qBB rfl rfl)) (zG (.c .v) (zG (.c .s) (zGn)))) (by decide) (by decide) (qKi a8 _ _ _ _ (z)) rfl rfl (by rfl) rfl) ?_
 refine gs3 ?_
 exact qDO
 refine gs2 ?_
 obtain⟨Q,A,i,B,J⟩:=qAE J
 refine AW.le (Le.fM 4 (g:=ze1) rfl (fun y=>.vs rfl)) ?_
 refine AW.drawn 11 14 [] mix (by kernel_rfl) rfl ?_
 refine AD.pu T ?_
 refine AD.vv (qCg T rfl rfl rfl rfl rfl (A) (fun _=>rfl)) ?_
 refine gs4 ?_
 refine AD.q (FStep.call rfl rfl rfl rfl rfl (qIT a8 _ _ _ (B)) rfl rfl) (qBD _ _) (qDi _ _) rfl ?_
 refine gs7 ?_
 refine AW.le (Le.ct 0 0 (σ':=(⟨[(0,.p 1 0),(5,sv ze1 F),(8,.R 14),(9,.v (.bool i.2))],[(1,.box (ze8 x 2 3)),(2,ro 1 ze0 x.no),(3,ro 1 ze0 x.aA),(14,ro 1 ze0 i.1)],88,[(1,L 1)]⟩:St)) (hpin:=⟨⟨rfl,rfl⟩,trivial⟩)) ?_
 refine gs2 ?_
 obtain⟨S,C,J⟩:=zB J
 refine gs4 ?_
 refine AO.g0 T ?_
 refine AO.d1 74 (fun hg=>qJP T rfl rfl rfl rfl) ?_
 refine AO.g0 T ?_
 refine AO.d1 76 (fun hg=>ixs T (a)) ?_
 refine AO.g1 T 77 ?_
 refine AO.d1 78 (fun hg=>cVs (qQT _ _ (qD7 C hg))) ?_
 refine AO.g2 T 75 79 ?_
 refine gs2 ?_
 refine AW.cH J (fun _ J=>?_) (fun _ J=>?_)
 refine gs5 ?_
 exact qDO
 refine gs2 ?_
 obtain⟨f,E,J⟩:=zB J
 refine AW.le (Le.fM 14 (g:=ze0) rfl (fun y=>.vs rfl)) ?_
 refine gs6 ?_
 refine AO.x (qBv (ze8 f.1 15 16) [(16,ro 1 ze0 f.1.aA),(15,ro 1 ze0 f.1.no)] 17 (by kernel_rfl) rfl 15 rfl rfl rfl rfl (es:=[.pn (qGi x),.v (.string N),.s (i.1.map ze0)]) (us:=[.u,.u]) (cs:=qGi f.1) (ids:=[1,2,3]) (by exact zG (.pb rfl (qBB rfl rfl)) (zG (.c .v) (zG (.c .s) (zGn)))) (by decide) (by decide) (qK1 a8 _ _ _ _ (E)) rfl rfl (by rfl) rfl) ?_
 refine gs3 ?_
 exact qDO
def qCP (a8:Nat) (v:((List bD)×Bool)):List bD->Nat->List Element->bE->Int->Int->Int->Int->List Item->List bE->List bE->Int->Int->Int->Int->List Result->bE->bE->Int->bD->Option ((CsState×bD×Bool))
 | [],c,d,e,f,g,h,i,j,k,l,m,n,o,q,r,s,t,w,b =>
  some ((CsState.mk (Code.mk d e f g h i) (Performance.mk j (Marks.mk k l) (Slips.mk m n o)) q r s t (v.1.length:Int)),b,true)
 |x::u,c,d,e,f,g,h,i,j,k,l,m,n,o,q,r,s,t,w,b =>
  (qAB a8 (CsState.mk (Code.mk d e f g h i) (Performance.mk j (Marks.mk k l) (Slips.mk m n o)) q r s t w) x).bind fun a =>
  cond (decide (a.2=(bz [110,111])))
   ((qAl (qAg 8 (a.1.no.length+(([((c+1:Nat):Int)]:bE)).length))).bind fun A =>
   (qAl (Nat.ble (a.2.size+(bz [10]).size) qDF)).bind fun B =>
   (qAl (Nat.ble (b.size+(a.2++(bz [10])).size) qDF)).bind fun C =>
   qCP a8 v u (c+1) a.1.ag.ad a.1.ag.ar a.1.ag.aq a.1.ag.av a.1.ag.au a.1.ag.ay a.1.p.ai a.1.p.ae.ah a.1.p.ae.ac a.1.p.af.falls a.1.p.af.an a.1.p.af.aw a.1.am a.1.ak (a.1.no++([((c+1:Nat):Int)]:bE)) a.1.aA a.1.aF (b++(a.2++(bz [10]))))
   (cond (decide (a.2=(bz [119,104,97,116])))
    ((qAl (qAg 8 (a.1.aA.length+(([((c+1:Nat):Int)]:bE)).length))).bind fun E =>
    (qAl (Nat.ble (a.2.size+(bz [10]).size) qDF)).bind fun F =>
    (qAl (Nat.ble (b.size+(a.2++(bz [10])).size) qDF)).bind fun G =>
    qCP a8 v u (c+1) a.1.ag.ad a.1.ag.ar a.1.ag.aq a.1.ag.av a.1.ag.au a.1.ag.ay a.1.p.ai a.1.p.ae.ah a.1.p.ae.ac a.1.p.af.falls a.1.p.af.an a.1.p.af.aw a.1.am a.1.ak a.1.no (a.1.aA++([((c+1:Nat):Int)]:bE)) a.1.aF (b++(a.2++(bz [10]))))
    ((qAl (Nat.ble (a.2.size+(bz [10]).size) qDF)).bind fun y =>
    (qAl (Nat.ble (b.size+(a.2++(bz [10])).size) qDF)).bind fun z =>
    qCP a8 v u (c+1) a.1.ag.ad a.1.ag.ar a.1.ag.aq a.1.ag.av a.1.ag.au a.1.ag.ay a.1.p.ai a.1.p.ae.ah a.1.p.ae.ac a.1.p.af.falls a.1.p.af.an a.1.p.af.aw a.1.am a.1.ak a.1.no a.1.aA a.1.aF (b++(a.2++(bz [10])))))
def qDc (a8:Nat) (script:bD):Option (CsState×bD×Bool) :=
 (qIV a8 ).bind fun a =>
 (qDR a8 script).bind fun b =>
 cond (!b.2)
  (some (a,(⟨#[]⟩:bD),false))
  (qCP a8 b b.1 0 a.ag.ad a.ag.ar a.ag.aq a.ag.av a.ag.au a.ag.ay a.p.ai a.p.ae.ah a.p.ae.ac a.p.af.falls a.p.af.an a.p.af.aw a.am a.ak a.no a.aA a.aF (⟨#[]⟩:bD))
theorem qIF (a8:Nat) (script:bD) (r:(CsState×bD×Bool)) (J:qDc a8 script=some r):qAC prog 45 [.v (.string script)] (.t [.pn (qGi r.1),.v (.string r.2.1),.v (.bool r.2.2)]):=by
 refine fns T func45 ?_
 refine gs7 ?_
 obtain⟨d,V,J⟩:=zB J
 refine AW.r (AO.x (qNh (.p 1 0) [(1,.box (ze8 d 2 3)),(3,ro 1 ze0 d.aA),(2,ro 1 ze0 d.no)] 4 (by kernel_rfl) rfl 1 rfl rfl rfl rfl (qP4 a8 _ (V)) rfl rfl rfl) ?_)
 refine gs3 ?_
 obtain⟨b,W,J⟩:=zB J
 refine gs2 ?_
 refine AO.w (cVs (qIB a8 _ _ (W))) ?_
 iterate 12 refine gs ?_
 refine AW.cH J (fun _ J=>?_) (fun _ J=>?_)
 refine gs8 ?_
 have hR:=zS J;subst hR
 exact retQ.i [1,2,3] rfl (.t (zG (.pb rfl (qBB rfl rfl)) (zG (.c .v) (zG (.c .v) (zGn)))))
 iterate 13 refine gs ?_
 refine AW.loopS (fun s:Nat×(List Element)×bE×Int×Int×Int×Int×(List Item)×(List bE)×(List bE)×Int×Int×Int×Int×(List Result)×bE×bE×Int×bD=>(⟨[(5,.p 1 0),(6,sv ze1 b.1),(8,.v (.string s.2.2.2.2.2.2.2.2.2.2.2.2.2.2.2.2.2.2)),(21,sv ze1 b.1),(22,(b.1.length:Int)),(23,(s.1:Int))],[(1,.box [sv ze5 s.2.1,sv ze0 s.2.2.1,s.2.2.2.1,s.2.2.2.2.1,s.2.2.2.2.2.1,s.2.2.2.2.2.2.1,sv ze2 s.2.2.2.2.2.2.2.1,sv ze3 s.2.2.2.2.2.2.2.2.1,sv ze3 s.2.2.2.2.2.2.2.2.2.1,s.2.2.2.2.2.2.2.2.2.2.1,s.2.2.2.2.2.2.2.2.2.2.2.1,s.2.2.2.2.2.2.2.2.2.2.2.2.1,s.2.2.2.2.2.2.2.2.2.2.2.2.2.1,sv ze6 s.2.2.2.2.2.2.2.2.2.2.2.2.2.2.1,.R 2,.R 3,s.2.2.2.2.2.2.2.2.2.2.2.2.2.2.2.2.2.1]),(2,ro 1 ze0 s.2.2.2.2.2.2.2.2.2.2.2.2.2.2.2.1),(3,ro 1 ze0 s.2.2.2.2.2.2.2.2.2.2.2.2.2.2.2.2.1)],70,[]⟩:St)) (fun s=>s.1<=b.1.length/\qCP a8 b (b.1.drop s.1) s.1 s.2.1 s.2.2.1 s.2.2.2.1 s.2.2.2.2.1 s.2.2.2.2.2.1 s.2.2.2.2.2.2.1 s.2.2.2.2.2.2.2.1 s.2.2.2.2.2.2.2.2.1 s.2.2.2.2.2.2.2.2.2.1 s.2.2.2.2.2.2.2.2.2.2.1 s.2.2.2.2.2.2.2.2.2.2.2.1 s.2.2.2.2.2.2.2.2.2.2.2.2.1 s.2.2.2.2.2.2.2.2.2.2.2.2.2.1 s.2.2.2.2.2.2.2.2.2.2.2.2.2.2.1 s.2.2.2.2.2.2.2.2.2.2.2.2.2.2.2.1 s.2.2.2.2.2.2.2.2.2.2.2.2.2.2.2.2.1 s.2.2.2.2.2.2.2.2.2.2.2.2.2.2.2.2.2.1 s.2.2.2.2.2.2.2.2.2.2.2.2.2.2.2.2.2.2=some r) (fun s=>b.1.length-s.1) (0,d.ag.ad,d.ag.ar,d.ag.aq,d.ag.av,d.ag.au,d.ag.ay,d.p.ai,d.p.ae.ah,d.p.ae.ac,d.p.af.falls,d.p.af.an,d.p.af.aw,d.am,d.ak,d.no,d.aA,d.aF,(⟨#[]⟩:bD)) ⟨Nat.zero_le _,J⟩ ?_ ?_
 exact Le.ct 0 0
 rintro⟨f,o,q,y,z,A,B,C,E,F,G,H,I,K,L,X,Y,Z,g⟩ ⟨hk,J⟩
 try dsimp only at J⊢
 refine AW.boundM (t:=6) (l:=b.1) rfl (fun al=>?_)
 rcases h:b.1.drop f with _|⟨y6,ao⟩
 rw[h,qCP]at J
 have e:=qAG h
 iterate 14 refine gs ?_
 refine AO.se T [sv ze5 o,sv ze0 q,y,z,A,B,sv ze2 C,sv ze3 E,sv ze3 F,G,H,I,K,sv ze6 L,.R 2,.R 3,(b.1.length:Int)] ?_
 iterate 10 refine gs ?_
 have hR:=zS J;subst hR
 exact retQ.i [1,2,3] rfl (.t (zG (.pb rfl (qBB rfl rfl)) (zG (.c .v) (zG (.c .v) (zGn)))))
 rw[h,qCP]at J
 have e:=qAF h
 iterate 18 refine gs ?_
 obtain⟨a,M,J⟩:=zB J
 refine gs3 ?_
 refine AO.x (qBv (ze8 a.1 16 17) [(17,ro 1 ze0 a.1.aA),(16,ro 1 ze0 a.1.no)] 18 (by kernel_rfl) rfl 16 rfl rfl rfl rfl (es:=[.pn (qGi (CsState.mk (Code.mk o q y z A B) (Performance.mk C (Marks.mk E F) (Slips.mk G H I)) K L X Y Z)),.v (.string y6)]) (us:=[.u]) (cs:=qGi a.1) (ids:=[1,2,3]) (by exact zG (.pb rfl (qBB rfl rfl)) (zG (.c .v) (zGn))) (by decide) (by decide) (qMe a8 _ _ _ (M)) rfl rfl (by rfl) rfl) ?_
 iterate 13 refine gs ?_
 refine AW.cH J (fun _ J=>?_) (fun _ J=>?_)
 obtain⟨ap,N,J⟩:=zB J
 refine gs8 ?_
 refine AO.x (mks T 18 ze0 (([((f+1:Nat):Int)]:bE))) ?_
 refine AO.x (rvs T 19 (hfit:=by exact qAJ (N))) ?_
 refine gs2 ?_
 refine AO.se T [sv ze5 a.1.ag.ad,sv ze0 a.1.ag.ar,a.1.ag.aq,a.1.ag.av,a.1.ag.au,a.1.ag.ay,sv ze2 a.1.p.ai,sv ze3 a.1.p.ae.ah,sv ze3 a.1.p.ae.ac,a.1.p.af.falls,a.1.p.af.an,a.1.p.af.aw,a.1.am,sv ze6 a.1.ak,.R 19,.R 17,a.1.aF] ?_
 refine AO.n (AW.le (Le.ct 0 0 (σ':=(⟨[(5,.p 1 0),(6,sv ze1 b.1),(8,.v (.string g)),(11,.v (.string a.2)),(21,sv ze1 b.1),(22,(b.1.length:Int)),(23,(f:Int))],[(1,.box (ze8 a.1 19 17)),(17,ro 1 ze0 a.1.aA),(19,ro 1 ze0 (a.1.no++([((f+1:Nat):Int)]:bE)))],70,[]⟩:St))) ?_)
 obtain⟨ax,O,az,P,J⟩:=qAE J
 refine gs3 ?_
 refine AO.w (qAP rfl rfl rfl (Nat.le_of_ble_eq_true (qAJ (O)))) ?_
 refine AO.w (qAP rfl rfl rfl (Nat.le_of_ble_eq_true (qAJ (P)))) ?_
 refine gs6 ?_
 refine⟨(f+1,a.1.ag.ad,a.1.ag.ar,a.1.ag.aq,a.1.ag.av,a.1.ag.au,a.1.ag.ay,a.1.p.ai,a.1.p.ae.ah,a.1.p.ae.ac,a.1.p.af.falls,a.1.p.af.an,a.1.p.af.aw,a.1.am,a.1.ak,(a.1.no++([((f+1:Nat):Int)]:bE)),a.1.aA,a.1.aF,(g++(a.2++(bz [10])))),⟨e,(zds h▸J)⟩,qBm e,?_⟩
 refine Le.trans (Le.ct 19 2 (σ':=(⟨[(5,.p 1 0),(6,sv ze1 b.1),(8,.v (.string (g++(a.2++(bz [10]))))),(21,sv ze1 b.1),(22,(b.1.length:Int)),(23,((f+1:Nat):Int))],[(1,.box (ze8 a.1 2 17)),(2,ro 1 ze0 (a.1.no++([((f+1:Nat):Int)]:bE))),(17,ro 1 ze0 a.1.aA)],70,[]⟩:St))) ?_
 exact Le.ct 17 3
 refine gs5 ?_
 refine AW.cH J (fun _ J=>?_) (fun _ J=>?_)
 obtain⟨aB,Q,J⟩:=zB J
 refine gs8 ?_
 refine AO.x (mks T 20 ze0 (([((f+1:Nat):Int)]:bE))) ?_
 refine AO.x (rvs T 21 (hfit:=by exact qAJ (Q))) ?_
 refine gs2 ?_
 refine AO.se T [sv ze5 a.1.ag.ad,sv ze0 a.1.ag.ar,a.1.ag.aq,a.1.ag.av,a.1.ag.au,a.1.ag.ay,sv ze2 a.1.p.ai,sv ze3 a.1.p.ae.ah,sv ze3 a.1.p.ae.ac,a.1.p.af.falls,a.1.p.af.an,a.1.p.af.aw,a.1.am,sv ze6 a.1.ak,.R 16,.R 21,a.1.aF] ?_
 refine AO.n (AW.le (Le.ct 0 0 (σ':=(⟨[(5,.p 1 0),(6,sv ze1 b.1),(8,.v (.string g)),(11,.v (.string a.2)),(21,sv ze1 b.1),(22,(b.1.length:Int)),(23,(f:Int))],[(1,.box (ze8 a.1 16 21)),(16,ro 1 ze0 a.1.no),(21,ro 1 ze0 (a.1.aA++([((f+1:Nat):Int)]:bE)))],70,[]⟩:St))) ?_)
 obtain⟨aC,S,aD,U,J⟩:=qAE J
 refine gs3 ?_
 refine AO.w (qAP rfl rfl rfl (Nat.le_of_ble_eq_true (qAJ (S)))) ?_
 refine AO.w (qAP rfl rfl rfl (Nat.le_of_ble_eq_true (qAJ (U)))) ?_
 refine gs6 ?_
 refine⟨(f+1,a.1.ag.ad,a.1.ag.ar,a.1.ag.aq,a.1.ag.av,a.1.ag.au,a.1.ag.ay,a.1.p.ai,a.1.p.ae.ah,a.1.p.ae.ac,a.1.p.af.falls,a.1.p.af.an,a.1.p.af.aw,a.1.am,a.1.ak,a.1.no,(a.1.aA++([((f+1:Nat):Int)]:bE)),a.1.aF,(g++(a.2++(bz [10])))),⟨e,(zds h▸J)⟩,qBm e,?_⟩
 refine Le.trans (Le.ct 16 2 (σ':=(⟨[(5,.p 1 0),(6,sv ze1 b.1),(8,.v (.string (g++(a.2++(bz [10]))))),(21,sv ze1 b.1),(22,(b.1.length:Int)),(23,((f+1:Nat):Int))],[(1,.box (ze8 a.1 2 21)),(2,ro 1 ze0 a.1.no),(21,ro 1 ze0 (a.1.aA++([((f+1:Nat):Int)]:bE)))],70,[]⟩:St))) ?_
 exact Le.ct 21 3
 refine AW.k ?_
 obtain⟨ab,j,aj,m,J⟩:=qAE J
 refine gs3 ?_
 refine AO.w (qAP rfl rfl rfl (Nat.le_of_ble_eq_true (qAJ (j)))) ?_
 refine AO.w (qAP rfl rfl rfl (Nat.le_of_ble_eq_true (qAJ (m)))) ?_
 refine gs6 ?_
 refine⟨(f+1,a.1.ag.ad,a.1.ag.ar,a.1.ag.aq,a.1.ag.av,a.1.ag.au,a.1.ag.ay,a.1.p.ai,a.1.p.ae.ah,a.1.p.ae.ac,a.1.p.af.falls,a.1.p.af.an,a.1.p.af.aw,a.1.am,a.1.ak,a.1.no,a.1.aA,a.1.aF,(g++(a.2++(bz [10])))),⟨e,(zds h▸J)⟩,qBm e,?_⟩
 refine Le.trans (Le.ct 16 2 (σ':=(⟨[(5,.p 1 0),(6,sv ze1 b.1),(8,.v (.string (g++(a.2++(bz [10]))))),(21,sv ze1 b.1),(22,(b.1.length:Int)),(23,((f+1:Nat):Int))],[(1,.box (ze8 a.1 2 17)),(2,ro 1 ze0 a.1.no),(17,ro 1 ze0 a.1.aA)],70,[]⟩:St))) ?_
 exact Le.ct 17 3
def qFe (a8:Nat) (script:bD):Option bD :=
 (qDc a8 script).bind fun a =>
 some a.2.1
theorem qPD (a8:Nat) (script:bD) (r:bD) (J:qFe a8 script=some r):qAC prog 10 [.v (.string script)] (.v (.string r)):=by
 refine fns T func10 ?_
 refine go ?_
 obtain⟨b,a,J⟩:=zB J
 refine go ?_
 refine AO.x (qAO rfl 1 rfl rfl rfl (qIF a8 _ _ (a)) rfl rfl rfl) (go ?_)
 exact fin
def qDJ:List bD->Nat->bE->Option ((bE×Bool))
 | [],b,a =>
  some (a,true)
 |d::c,b,a =>
  cond (decide (d=(bz [110,111]))||decide (d=(bz [119,104,97,116])))
   ((qAl (qAg 8 (a.length+(([((b+1:Nat):Int)]:bE)).length))).bind fun e =>
   qDJ c (b+1) (a++([((b+1:Nat):Int)]:bE)))
   (qDJ c (b+1) a)
def qBZ:List bD->Nat->bE->Option ((bE×Bool))
 | [],b,a =>
  some (a,true)
 |d::c,b,a =>
  cond (decide (d=(bz [110,111]))||decide (d=(bz [119,104,97,116])))
   ((qAl (qAg 8 (a.length+(([((b+1:Nat):Int)]:bE)).length))).bind fun e =>
   qBZ c (b+1) (a++([((b+1:Nat):Int)]:bE)))
   (qBZ c (b+1) a)
def qD1 (a8:Nat) (script:bD):Option (bE×Bool) :=
 (qAt a8 script).bind fun a =>
 (match a.1 with
  |none =>
   cond (!a.2.2)
    (some ([],false))
    (qDJ a.2.1 0 [])
  |some b =>
   cond (!a.2.2)
    (some ([],false))
    (qBZ a.2.1 0 []))
theorem qM3 (a8:Nat) (script:bD) (r:(bE×Bool)) (J:qD1 a8 script=some r):qAC prog 15 [.v (.string script)] (.t [.w 1 (r.1.map ze0),.v (.bool r.2)]):=by
 refine fns T func15 ?_
 refine go ?_
 obtain⟨c,h,J⟩:=zB J
 rcases d:c.1 with _|m
 rw[d]at J
 try dsimp only at J
 refine go ?_
 refine AO.x (qAO rfl 1 rfl rfl rfl ((by have q:=qBC a8 _ _ (h);rw[d]at q;exact q)) rfl rfl rfl) (go ?_)
 refine Cf J fun hc J=>?_
 refine go ?_
 refine AO.x (qF6 T rfl rfl rfl rfl) (go ?_)
 refine AW.loopS (fun s:Nat×(bE)=>(⟨[(7,.R 5),(19,.R 1),(20,(c.2.1.length:Int)),(21,(s.1:Int))],[(1,ro 1 ze1 c.2.1),(5,ro 1 ze0 s.2)],39,[]⟩:St)) (fun s=>s.1<=c.2.1.length/\qDJ (c.2.1.drop s.1) s.1 s.2=some r) (fun s=>c.2.1.length-s.1) (0,[]) ⟨Nat.zero_le _,J⟩ ?_ ?_
 refine Le.trans (Le.void 7 5 1 rfl rfl) ?_
 exact Le.ct 0 0
 rintro⟨e,f⟩ ⟨n,J⟩
 try dsimp only at J⊢
 refine AW.boundR (id:=1) (l:=c.2.1) rfl (fun i=>?_)
 rcases a:c.2.1.drop e with _|⟨o,j⟩
 rw[a,qDJ]at J
 have b:=qAG a
 refine go ?_
 exact fin
 rw[a,qDJ]at J
 have b:=qAF a
 refine go ?_
 refine AO.w (zLr T rfl rfl rfl rfl (zgG (zgD a)) rfl rfl rfl) (go ?_)
 refine AO.g0 T ?_
 refine AO.g1 T 29 ?_
 refine go ?_
 refine AW.cH J (fun _ J=>?_) (fun p J=>?_)
 obtain⟨k,g,J⟩:=zB J
 refine go ?_
 refine AO.x (mks T 6 ze0 (([((e+1:Nat):Int)]:bE))) ?_
 refine AO.x (rvs T 7 (hfit:=by exact qAJ (g))) (go ?_)
 refine⟨(e+1,(f++([((e+1:Nat):Int)]:bE))),⟨b,(zds a▸J)⟩,qBm b,?_⟩
 exact Le.ct 7 5
 refine go ?_
 refine⟨(e+1,f),⟨b,(zds a▸J)⟩,qBm b,?_⟩
 exact Le.ct 0 0
 rw[d]at J
 try dsimp only at J
 refine go ?_
 refine AO.x (qAO rfl 1 rfl rfl rfl ((by have q:=qBC a8 _ _ (h);rw[d]at q;exact q)) rfl rfl rfl) (go ?_)
 refine Cf J fun _ J=>?_
 refine go ?_
 refine AO.x (qF6 T rfl rfl rfl rfl) (go ?_)
 refine AW.loopS (fun s:Nat×(bE)=>(⟨[(7,.R 6),(19,.R 2),(20,(c.2.1.length:Int)),(21,(s.1:Int))],[(2,ro 1 ze1 c.2.1),(6,ro 1 ze0 s.2)],39,[]⟩:St)) (fun s=>s.1<=c.2.1.length/\qBZ (c.2.1.drop s.1) s.1 s.2=some r) (fun s=>c.2.1.length-s.1) (0,[]) ⟨Nat.zero_le _,J⟩ ?_ ?_
 refine Le.trans (Le.void 7 6 1 rfl rfl) ?_
 exact Le.ct 0 0
 rintro⟨e,f⟩ ⟨n,J⟩
 try dsimp only at J⊢
 refine AW.boundR (id:=2) (l:=c.2.1) rfl (fun i=>?_)
 rcases a:c.2.1.drop e with _|⟨o,j⟩
 rw[a,qBZ]at J
 have b:=qAG a
 refine go ?_
 exact fin
 rw[a,qBZ]at J
 have b:=qAF a
 refine go ?_
 refine AO.w (zLr T rfl rfl rfl rfl (zgG (zgD a)) rfl rfl rfl) (go ?_)
 refine AO.g0 T ?_
 refine AO.g1 T 29 ?_
 refine go ?_
 refine AW.cH J (fun _ J=>?_) (fun _ J=>?_)
 obtain⟨k,g,J⟩:=zB J
 refine go ?_
 refine AO.x (mks T 7 ze0 (([((e+1:Nat):Int)]:bE))) ?_
 refine AO.x (rvs T 8 (hfit:=by exact qAJ (g))) (go ?_)
 refine⟨(e+1,(f++([((e+1:Nat):Int)]:bE))),⟨b,(zds a▸J)⟩,qBm b,?_⟩
 exact Le.ct 8 6
 refine go ?_
 refine⟨(e+1,f),⟨b,(zds a▸J)⟩,qBm b,?_⟩
 exact Le.ct 0 0
def qFF (l:bE) (n:Int):Nat->Int->Option Int
 |0,_=>none
 |b+1,a =>
  (opt (decide (a<(l.length:Int))) default (qAV l a)).bind fun c =>
  cond (decide (a<(l.length:Int))&&decide (c<n))
   (qFF l n b (w64 (a+1)))
   (some a)
def qJv (a8:Nat) (l:bE) (n:Int):Option bE :=
 (qFF l n a8 0).bind fun a =>
 (opt (decide (a<(l.length:Int))) default (qAV l a)).bind fun d =>
 cond (decide (a<(l.length:Int))&&(d==n))
  (some l)
  ((qFT l a).bind fun b =>
  (qAl (qAg 8 b.length)).bind fun e =>
  (qAl (qAg 8 (b.length+([n]).length))).bind fun f =>
  (qCq l a).bind fun c =>
  (qAl (qAg 8 (((b++[n])).length+c.length))).bind fun g =>
  some ((b++[n])++c))
theorem qRi (a8:Nat) (l:bE) (n:Int) (r:(bE)) (J:qJv a8 l n=some r):qAC prog 50 [.s (List.map ze0 l),n] (.s (r.map ze0)):=by
 refine fns T func50 ?_
 refine gs8 ?_
 obtain⟨c,J,d⟩:=zB J
 refine AW.seqJ (fun s:Int=>(⟨[(0,sv ze0 l),(1,n),(5,s)],[],48,[]⟩:St)) (fun s=>s=c) ?_ ?_
 refine AW.b (AW.loopS (fun s:Nat×Int=>(⟨[(0,sv ze0 l),(1,n),(5,s.2)],[],48,[]⟩:St)) (fun s=>qFF l n s.1 s.2=some c) (fun s=>s.1) (a8,0) J ?_ ?_)
 exact Le.ct 0 0
 rintro⟨a,o⟩ J
 try dsimp only at J⊢
 rcases a with _|a
 cases (show none=some _ from J)
 rw[qFF]at J
 refine gs2 ?_
 obtain⟨u,e,J⟩:=zB J
 refine gs6 ?_
 refine AO.g0 T ?_
 refine AO.g0 T ?_
 refine AO.d2 12 13 (fun hg=>ixs T (qD7 e hg)) ?_
 refine AO.g1 T 14 ?_
 refine AO.g0 T ?_
 refine AO.g2 T 15 16 ?_
 refine gs2 ?_
 refine AW.cH J (fun _ J=>?_) (fun hc J=>?_)
 refine gs7 ?_
 refine⟨(a,w64 (o+1)),J,Nat.lt_succ_self _,?_⟩
 exact Le.ct 0 0
 refine AW.exit ?_
 refine⟨_,zS J,?_⟩
 exact Le.ct 0 0
 rintro v hs
 subst hs
 replace J:=d
 try dsimp only[qKL,qIN]at J
 try dsimp only
 refine gs2 ?_
 obtain⟨z,f,J⟩:=zB J
 refine gs6 ?_
 refine AO.g0 T ?_
 refine AO.g0 T ?_
 refine AO.d2 26 27 (fun hg=>ixs T (qD7 f hg)) ?_
 refine AO.g1 T 28 ?_
 refine AO.g0 T ?_
 refine AO.g2 T 29 30 ?_
 refine gs2 ?_
 refine Cf J fun _ J=>?_
 refine gs2 ?_
 obtain⟨p,h,A,i,J⟩:=qAE J
 refine AW.r (AO.x (qF6 T rfl rfl rfl rfl) ?_)
 refine gs2 ?_
 refine AO.w (qDv T rfl rfl rfl rfl rfl (h) (fun _=>rfl)) ?_
 refine AO.x (qKd T rfl 1 rfl rfl rfl rfl rfl (by decide) (by decide) rfl rfl (fun _=>rfl) (qAJ (i)) rfl rfl) ?_
 refine gs3 ?_
 obtain⟨B,j,J⟩:=zB J
 refine gs3 ?_
 refine AO.x (mks T 2 ze0 ([n])) ?_
 refine AO.x (rvs T 3 (hfit:=by exact qAJ (j))) ?_
 refine gs3 ?_
 obtain⟨q,k,C,m,J⟩:=qAE J
 refine gs4 ?_
 refine AO.w (qCg T rfl rfl rfl rfl rfl (k) (fun _=>rfl)) ?_
 refine AO.x (qOb T rfl 4 rfl rfl rfl rfl rfl (by decide) (by decide) rfl rfl rfl (fun _=>rfl) (qAJ (m)) rfl rfl) ?_
 refine gs2 ?_
 refine AW.le (Le.ct 0 0 (σ':=(⟨[(4,.R 4)],[(4,ro 1 ze0 ((p++[n])++q))],48,[]⟩:St))) ?_
 refine AW.le (Le.fM 4 (g:=ze0) rfl (fun y=>.vs rfl)) ?_
 refine AW.t ?_
 exact fin
def qBr (a8:Nat) (c:(CsState×bD×Bool)) (d:(bE)):Nat->bE->Int->Option ((bE×Bool))
 |0,_,_=>none
 |g+1,b,a =>
  cond (decide (a<(((d++c.1.aA)).length:Int)))
   ((qAV (d++c.1.aA) a).bind fun e =>
   (qJv a8 b e).bind fun f =>
   qBr a8 c d g f (w64 (a+1)))
   (some (b,true))
def qDz (a8:Nat) (script:bD):Option (bE×Bool) :=
 (qDc a8 script).bind fun a =>
 cond (!a.2.2)
  (some ([],false))
  ((qE2 a.1.no).bind fun b =>
  (qAl (qAg 8 (b.length+a.1.aA.length))).bind fun c =>
  qBr a8 a b a8 [] 0)
theorem qNH (a8:Nat) (script:bD) (r:(bE×Bool)) (J:qDz a8 script=some r):qAC prog 14 [.v (.string script)] (.t [.s (r.1.map ze0),.v (.bool r.2)]):=by
 refine fns T func14 ?_
 refine gs6 ?_
 obtain⟨a,g,J⟩:=zB J
 refine gs2 ?_
 refine AO.x (qNh (.t [.p 1 0,.v (.string a.2.1),.v (.bool a.2.2)]) [(1,.box (ze8 a.1 2 3)),(3,ro 1 ze0 a.1.aA),(2,ro 1 ze0 a.1.no)] 4 (by kernel_rfl) rfl 1 rfl rfl rfl rfl (qIF a8 _ _ (g)) rfl rfl rfl) ?_
 iterate 14 refine gs ?_
 refine Cf J fun hc J=>?_
 refine gs7 ?_
 obtain⟨c,h,n,i,J⟩:=qAE J
 refine AW.drawn 12 4 [] mix (by kernel_rfl) (by kernel_rfl) ?_
 refine gs4 ?_
 refine AD.q (FStep.callL rfl rfl rfl rfl (es:=[sv ze0 a.1.no]) ⟨(.rowR rfl (.map fun y=>.vs rfl)),trivial⟩ (qHq _ _ (h)) (qIk (fun y=>(.cons (qAj _) .nil))) rfl rfl) (qBD _ _) (qDi _ _) rfl ?_
 refine gs4 ?_
 refine AD.kk (FStep.app_rv T rfl rfl rfl rfl rfl rfl rfl (by decide) rfl rfl rfl rfl (fun _=>rfl) (qAJ (i)) rfl) ?_
 refine AD.vald rfl rfl rfl (qJP T rfl rfl rfl rfl) ?_
 refine gs3 ?_
 refine AW.le (Le.ct 0 0 (σ':=(⟨[(7,.w 0 []),(27,.R 5),(28,(((c++a.1.aA)).length:Int)),(29,(0:Int))],[(5,ro 1 ze0 (c++a.1.aA))],38,[]⟩:St))) ?_
 refine AW.b (AW.loopS (fun s:Nat×bE×Int=>(⟨[(7,sv ze0 s.2.1),(27,.R 5),(28,(((c++a.1.aA)).length:Int)),(29,s.2.2)],[(5,ro 1 ze0 (c++a.1.aA))],38,[]⟩:St)) (fun s=>qBr a8 a c s.1 s.2.1 s.2.2=some r) (fun s=>s.1) (a8,[],0) J ?_ ?_)
 refine Le.trans (Le.nilS 7 rfl) ?_
 exact Le.ct 0 0
 rintro⟨d,l,j⟩ J
 try dsimp only at J⊢
 rcases d with _|d
 cases (show none=some _ from J)
 rw[qBr]at J
 refine gs5 ?_
 refine AW.cH J (fun _ J=>?_) (fun _ J=>?_)
 refine gs4 ?_
 obtain⟨m,e,J⟩:=zB J
 refine gs2 ?_
 refine AO.w (zLr T rfl rfl rfl rfl (zgG (e)) rfl rfl rfl) ?_
 refine gs2 ?_
 obtain⟨k,f,J⟩:=zB J
 refine gs3 ?_
 refine AO.w (cVs (qRi a8 _ _ _ (f))) ?_
 refine gs6 ?_
 refine⟨(d,k,w64 (j+1)),J,Nat.lt_succ_self _,?_⟩
 exact Le.ct 0 0
 refine gs8 ?_
 exact fin
def qEp (a8:Nat) (code:bE):Option (bD×bD) :=
 (qEZ a8 code).bind fun b =>
 (qCn a8 (L1Cur.mk code 0 0)).bind fun a =>
 (qAl (Nat.ble (a.2.size+(bz [10]).size) qDF)).bind fun d =>
 (qF7 a.1 10).bind fun c =>
 cond c.2
  (some (b,(bz [98,97,115,101])))
  (some (b,(a.2++(bz [10]))))
theorem qKz (a8:Nat) (code:bE) (r:(bD×bD)) (J:qEp a8 code=some r):qAC prog 35 [.s (List.map qNr code)] (.t [.v (.string r.1),.v (.string r.2)]):=by
 refine fns T func35 ?_
 refine go ?_
 refine AO.x (bxs T 1) (go ?_)
 obtain⟨f,a,g,b,h,d,J⟩:=qAq J
 refine go ?_
 refine AO.w (cVs (qI6 a8 _ _ (a))) ?_
 refine AO.pu T ?_
 refine AO.x (cMs 2 [1] (S:=qHc a8 _ _ (b)) (hp:=by exact zG (.c (.box rfl rfl)) (zGn))) ?_
 refine AO.w (qAP rfl rfl rfl (Nat.le_of_ble_eq_true (qAJ (d)))) (go ?_)
 obtain⟨i,e,J⟩:=zB J
 refine go ?_
 refine AO.x (cMs 2 [1] (S:=qKM _ _ _ (e)) (hp:=by exact zG (.c (.box rfl rfl)) (zG (.c .v) (zGn)))) ?_
 refine AO.n ?_
 refine Cf J fun _ J=>?_
 refine go ?_
 exact fin
def qGR (a:bD) (b:bD):Option (bD×Bool) :=
 (qAL a).bind fun c =>
 (qAL b).bind fun d =>
 (qAl (Nat.ble (a.size+b.size) qDF)).bind fun f =>
 (qAL (a++b)).bind fun e =>
 cond (((!c.2)||(!d.2))||(!e.2))
  (some ((⟨#[]⟩:bD),false))
  (some ((a++b),true))
theorem qMy (a:bD) (b:bD) (r:(bD×Bool)) (J:qGR a b=some r):qAC prog 36 [.v (.string a),.v (.string b)] (.t [.v (.string r.1),.v (.bool r.2)]):=by
 refine fns T func36 ?_
 refine go ?_
 obtain⟨g,d,J⟩:=zB J
 refine go ?_
 refine AO.x (qAO rfl 1 rfl rfl rfl (qF4 _ _ (d)) rfl rfl rfl) (go ?_)
 obtain⟨h,e,J⟩:=zB J
 refine go ?_
 refine AO.x (qAO rfl 2 rfl rfl rfl (qF4 _ _ (e)) rfl rfl rfl) (go ?_)
 obtain⟨j,c,i,f,J⟩:=qAE J
 refine go ?_
 refine AO.w (qAP rfl rfl rfl (Nat.le_of_ble_eq_true (qAJ (c)))) ?_
 refine AO.x (qAO rfl 3 rfl rfl rfl (qF4 _ _ (f)) rfl rfl rfl) ?_
 refine gs6 ?_
 refine AW.le (Le.ct 0 0 (σ':=(⟨[(0,.v (.string a)),(1,.v (.string b)),(7,.v (.bool g.2)),(9,.v (.bool h.2)),(11,.v (.bool i.2))],[],42,[]⟩:St))) ?_
 refine go ?_
 refine AO.g0 T ?_
 refine AO.g1 T 32 ?_
 refine go ?_
 refine AO.g0 T ?_
 refine AO.g1 T 36 ?_
 refine go ?_
 refine Cf J fun _ J=>?_
 refine go ?_
 refine AO.w (qAP rfl rfl rfl (Nat.le_of_ble_eq_true (qAJ (c)))) (go ?_)
 exact fin
def qGP (a8:Nat) (a:bD) (b:bD):Option (bD×Bool) :=
 (qDR a8 a).bind fun c =>
 (qDR a8 b).bind fun d =>
 (qAl (Nat.ble (a.size+b.size) qDF)).bind fun f =>
 (qDR a8 (a++b)).bind fun e =>
 cond (((!c.2)||(!d.2))||(!e.2))
  (some ((⟨#[]⟩:bD),false))
  (some ((a++b),true))
theorem qNJ (a8:Nat) (a:bD) (b:bD) (r:(bD×Bool)) (J:qGP a8 a b=some r):qAC prog 37 [.v (.string a),.v (.string b)] (.t [.v (.string r.1),.v (.bool r.2)]):=by
 refine fns T func37 ?_
 refine go ?_
 obtain⟨g,d,J⟩:=zB J
 refine go ?_
 refine AO.w (cVs (qIB a8 _ _ (d))) (go ?_)
 obtain⟨h,e,J⟩:=zB J
 refine go ?_
 refine AO.w (cVs (qIB a8 _ _ (e))) (go ?_)
 obtain⟨j,c,i,f,J⟩:=qAE J
 refine go ?_
 refine AO.w (qAP rfl rfl rfl (Nat.le_of_ble_eq_true (qAJ (c)))) ?_
 refine AO.w (cVs (qIB a8 _ _ (f))) ?_
 refine gs6 ?_
 refine AW.le (Le.ct 0 0 (σ':=(⟨[(0,.v (.string a)),(1,.v (.string b)),(7,.v (.bool g.2)),(9,.v (.bool h.2)),(11,.v (.bool i.2))],[],42,[]⟩:St))) ?_
 refine go ?_
 refine AO.g0 T ?_
 refine AO.g1 T 32 ?_
 refine go ?_
 refine AO.g0 T ?_
 refine AO.g1 T 36 ?_
 refine go ?_
 refine Cf J fun _ J=>?_
 refine go ?_
 refine AO.w (qAP rfl rfl rfl (Nat.le_of_ble_eq_true (qAJ (c)))) (go ?_)
 exact fin
def qFB (b:bE):bE->Nat->bF
 | [],a =>
  some true
 |e::c,a =>
  (qAV b (a:Int)).bind fun d =>
  cond (e != d)
   (some false)
   (qFB b c (a+1))
def qFp (a:bE) (b:bE):bF :=
 cond ((a.length:Int) != (b.length:Int))
  (some false)
  (qFB b a 0)
theorem qH6 (a:bE) (b:bE) (r:Bool) (J:qFp a b=some r):qAC prog 38 [.s (List.map ze0 a),.s (List.map ze0 b)] (.v (.bool r)):=by
 refine fns T func38 ?_
 refine go ?_
 refine Cf J fun hc J=>?_
 refine go ?_
 refine AW.loopS (fun s:Nat=>(⟨[(0,sv ze0 a),(1,sv ze0 b),(12,(a.length:Int)),(13,(s:Int))],[],26,[]⟩:St)) (fun s=>s<=a.length/\qFB b (a.drop s) s=some r) (fun s=>a.length-s) 0 ⟨Nat.zero_le _,J⟩ ?_ ?_
 exact Le.ct 0 0
 rintro e ⟨j,J⟩
 try dsimp only at J⊢
 refine AW.boundM (t:=0) (l:=a) rfl (fun g=>?_)
 rcases c:a.drop e with _|⟨k,h⟩
 rw[c,qFB]at J
 have d:=qAG c
 refine go ?_
 exact fin
 rw[c,qFB]at J
 have d:=qAF c
 refine go ?_
 obtain⟨i,f,J⟩:=zB J
 refine AW.drawn 8 1 [] mix (by kernel_rfl) rfl ?_
 refine go ?_
 refine Cf J fun _ J=>?_
 refine go ?_
 refine⟨e+1,⟨d,(zds c▸J)⟩,qBm d,?_⟩
 exact Le.ct 0 0
def qFn (n:Int):bE->Nat->bF
 | [],a =>
  some false
 |c::b,a =>
  cond (c==n)
   (some true)
   (qFn n b (a+1))
def qKx (l:bE) (n:Int):bF :=
 qFn n l 0
theorem qSZ (l:bE) (n:Int) (r:Bool) (J:qKx l n=some r):qAC prog 39 [.s (List.map ze0 l),n] (.v (.bool r)):=by
 refine fns T func39 ?_
 refine go ?_
 refine AW.loopS (fun s:Nat=>(⟨[(1,n),(7,sv ze0 l),(8,(l.length:Int)),(9,(s:Int))],[],17,[]⟩:St)) (fun s=>s<=l.length/\qFn n (l.drop s) s=some r) (fun s=>l.length-s) 0 ⟨Nat.zero_le _,J⟩ ?_ ?_
 exact Le.ct 0 0
 rintro c ⟨f,J⟩
 try dsimp only at J⊢
 refine AW.boundM (t:=7) (l:=l) rfl (fun d=>?_)
 rcases a:l.drop c with _|⟨g,e⟩
 rw[a,qFn]at J
 have b:=qAG a
 refine go ?_
 exact fin
 rw[a,qFn]at J
 have b:=qAF a
 refine go ?_
 refine Cf J fun _ J=>?_
 refine go ?_
 refine⟨c+1,⟨b,(zds a▸J)⟩,qBm b,?_⟩
 exact Le.ct 0 0
def qGC (a8:Nat) (script:bD):Option (Code×Bool) :=
 (qAt a8 script).bind fun a =>
 (match a.1 with
  |none =>
   cond (!a.2.2)
    (some ((Code.mk [] [] 0 0 0 0),false))
    (none)
  |some b =>
   cond (!a.2.2)
    (some ((Code.mk [] [] 0 0 0 0),false))
    (some (b.ag,true)))
theorem qKS (a8:Nat) (script:bD) (r:(Code×Bool)) (J:qGC a8 script=some r):qAC prog 25 [.v (.string script)] (.t [.g (ze4 r.1),.v (.bool r.2)]):=by
 refine fns T func25 ?_
 refine go ?_
 refine AO.x (als T 1) (go ?_)
 obtain⟨d,c,J⟩:=zB J
 rcases b:d.1 with _|a
 rw[b]at J
 try dsimp only at J
 refine go ?_
 refine AO.x (qAO rfl 2 rfl rfl rfl ((by have q:=qBC a8 _ _ (c);rw[b]at q;exact q)) rfl rfl rfl) (go ?_)
 refine AW.cH J (fun _ J=>?_) (fun hc J=>?_)
 refine go ?_
 refine AO.se T [.w 0 [],.w 0 [],(0:Int),(0:Int),(0:Int),(0:Int)] ?_
 refine go ?_
 exact fin
 refine go ?_
 cases J
 rw[b]at J
 try dsimp only at J
 refine go ?_
 refine AO.x (qAO rfl 2 rfl rfl rfl ((by have q:=qBC a8 _ _ (c);rw[b]at q;exact q)) rfl rfl rfl) (go ?_)
 refine AW.cH J (fun _ J=>?_) (fun _ J=>?_)
 refine go ?_
 refine AO.se T [.w 0 [],.w 0 [],(0:Int),(0:Int),(0:Int),(0:Int)] ?_
 refine go ?_
 exact fin
 refine go ?_
 refine AO.se T [sv ze5 a.ag.ad,sv ze0 a.ag.ar,a.ag.aq,a.ag.av,a.ag.au,a.ag.ay] ?_
 refine go ?_
 exact fin
def qHS (a8:Nat) (script:bD):Option (Code×Bool) :=
 (qDc a8 script).bind fun a =>
 cond (!a.2.2)
  (some ((Code.mk [] [] 0 0 0 0),false))
  (some (a.1.ag,true))
theorem qN6 (a8:Nat) (script:bD) (r:(Code×Bool)) (J:qHS a8 script=some r):qAC prog 24 [.v (.string script)] (.t [.g (ze4 r.1),.v (.bool r.2)]):=by
 refine fns T func24 ?_
 refine go ?_
 refine AO.x (als T 1) (go ?_)
 obtain⟨a,b,J⟩:=zB J
 refine go ?_
 refine AO.x (qNh (.t [.p 2 0,.v (.string a.2.1),.v (.bool a.2.2)]) [(2,.box (ze8 a.1 3 4)),(4,ro 1 ze0 a.1.aA),(3,ro 1 ze0 a.1.no)] 5 (by kernel_rfl) rfl 2 rfl rfl rfl rfl (qIF a8 _ _ (b)) rfl rfl rfl) (go ?_)
 refine AW.cH J (fun _ J=>?_) (fun _ J=>?_)
 refine go ?_
 refine AO.se T [.w 0 [],.w 0 [],(0:Int),(0:Int),(0:Int),(0:Int)] ?_
 refine go ?_
 exact fin
 refine go ?_
 refine AO.se T [sv ze5 a.1.ag.ad,sv ze0 a.1.ag.ar,a.1.ag.aq,a.1.ag.av,a.1.ag.au,a.1.ag.ay] ?_
 refine go ?_
 exact fin
def qCk (a8:Nat) (script:bD):Option (Performance×Bool) :=
 (qAt a8 script).bind fun a =>
 (match a.1 with
  |none =>
   cond (!a.2.2)
    (some ((Performance.mk [] (Marks.mk [] []) (Slips.mk 0 0 0)),false))
    (none)
  |some b =>
   cond (!a.2.2)
    (some ((Performance.mk [] (Marks.mk [] []) (Slips.mk 0 0 0)),false))
    (some (b.aa,true)))
theorem qHe (a8:Nat) (script:bD) (r:(Performance×Bool)) (J:qCk a8 script=some r):qAC prog 30 [.v (.string script)] (.t [.g (ze9 r.1),.v (.bool r.2)]):=by
 refine fns T func30 ?_
 refine go ?_
 refine AO.x (als T 1) (go ?_)
 obtain⟨d,c,J⟩:=zB J
 rcases b:d.1 with _|a
 rw[b]at J
 try dsimp only at J
 refine go ?_
 refine AO.x (qAO rfl 2 rfl rfl rfl ((by have q:=qBC a8 _ _ (c);rw[b]at q;exact q)) rfl rfl rfl) (go ?_)
 refine AW.cH J (fun _ J=>?_) (fun hc J=>?_)
 refine go ?_
 refine AO.se T [.w 0 [],.w 0 [],.w 0 [],(0:Int),(0:Int),(0:Int)] ?_
 refine go ?_
 exact fin
 refine go ?_
 cases J
 rw[b]at J
 try dsimp only at J
 refine go ?_
 refine AO.x (qAO rfl 2 rfl rfl rfl ((by have q:=qBC a8 _ _ (c);rw[b]at q;exact q)) rfl rfl rfl) (go ?_)
 refine AW.cH J (fun _ J=>?_) (fun _ J=>?_)
 refine go ?_
 refine AO.se T [.w 0 [],.w 0 [],.w 0 [],(0:Int),(0:Int),(0:Int)] ?_
 refine go ?_
 exact fin
 refine go ?_
 refine AO.se T [sv ze2 a.aa.ai,sv ze3 a.aa.ae.ah,sv ze3 a.aa.ae.ac,a.aa.af.falls,a.aa.af.an,a.aa.af.aw] ?_
 refine go ?_
 exact fin
def qD9 (a8:Nat) (script:bD):Option (Performance×Bool) :=
 (qDc a8 script).bind fun a =>
 cond (!a.2.2)
  (some ((Performance.mk [] (Marks.mk [] []) (Slips.mk 0 0 0)),false))
  ((qAZ a.1.p a.1.p.ai).bind fun b =>
  some (b,true))
theorem qKO (a8:Nat) (script:bD) (r:(Performance×Bool)) (J:qD9 a8 script=some r):qAC prog 29 [.v (.string script)] (.t [.g (qJT r.1),.v (.bool r.2)]):=by
 refine fns T func29 ?_
 refine go ?_
 refine AO.x (als T 1) (go ?_)
 obtain⟨b,c,J⟩:=zB J
 refine go ?_
 refine AO.x (qNh (.t [.p 2 0,.v (.string b.2.1),.v (.bool b.2.2)]) [(2,.box (ze8 b.1 3 4)),(4,ro 1 ze0 b.1.aA),(3,ro 1 ze0 b.1.no)] 5 (by kernel_rfl) rfl 2 rfl rfl rfl rfl (qIF a8 _ _ (c)) rfl rfl rfl) (go ?_)
 refine AW.cH J (fun _ J=>?_) (fun _ J=>?_)
 refine go ?_
 refine AO.se T [.w 0 [],.w 0 [],.w 0 [],(0:Int),(0:Int),(0:Int)] ?_
 refine go ?_
 exact fin
 refine go ?_
 obtain⟨a,d,J⟩:=zB J
 refine AW.drawn 9 5 [] mix (by kernel_rfl) (by kernel_rfl) ?_
 refine go ?_
 refine AO.x (qAO rfl 5 rfl rfl rfl (qGD _ _ _ (d)) rfl rfl rfl) ?_
 refine AO.se T [.R 5,.R 6,.R 7,a.af.falls,a.af.an,a.af.aw] ?_
 refine gs2 ?_
 refine AW.le (Le.ct 0 0 (σ':=(⟨[(2,.p 1 0),(3,.v (.bool true))],[(1,.box [.R 5,.R 6,.R 7,a.af.falls,a.af.an,a.af.aw]),(5,ro 3 qBn a.ai),(6,ro 1 ze7 a.ae.ah),(7,ro 1 ze7 a.ae.ac)],26,[]⟩:St))) ?_
 refine AW.t ?_
 exact fin
def qD8 (a8:Nat) (script:bD):Option ((List Result)×Bool) :=
 (qAt a8 script).bind fun a =>
 (match a.1 with
  |none =>
   cond (!a.2.2)
    (some ([],false))
    (none)
  |some b =>
   cond (!a.2.2)
    (some ([],false))
    (some (b.ak,true)))
theorem qIl (a8:Nat) (script:bD) (r:((List Result)×Bool)) (J:qD8 a8 script=some r):qAC prog 20 [.v (.string script)] (.t [.s (r.1.map ze6),.v (.bool r.2)]):=by
 refine fns T func20 ?_
 refine go ?_
 obtain⟨c,b,J⟩:=zB J
 rcases a:c.1 with _|d
 rw[a]at J
 try dsimp only at J
 refine go ?_
 refine AO.x (qAO rfl 1 rfl rfl rfl ((by have q:=qBC a8 _ _ (b);rw[a]at q;exact q)) rfl rfl rfl) (go ?_)
 refine Cf J fun hc J=>?_
 refine go ?_
 cases J
 rw[a]at J
 try dsimp only at J
 refine go ?_
 refine AO.x (qAO rfl 1 rfl rfl rfl ((by have q:=qBC a8 _ _ (b);rw[a]at q;exact q)) rfl rfl rfl) (go ?_)
 refine Cf J fun _ J=>?_
 refine go ?_
 exact fin
def qFQ (a8:Nat) (script:bD):Option ((List Result)×Bool) :=
 (qDc a8 script).bind fun a =>
 cond (!a.2.2)
  (some ([],false))
  (some (a.1.ak,true))
theorem qL0 (a8:Nat) (script:bD) (r:((List Result)×Bool)) (J:qFQ a8 script=some r):qAC prog 19 [.v (.string script)] (.t [.s (r.1.map ze6),.v (.bool r.2)]):=by
 refine fns T func19 ?_
 refine go ?_
 obtain⟨a,b,J⟩:=zB J
 refine go ?_
 refine AO.x (qNh (.t [.p 1 0,.v (.string a.2.1),.v (.bool a.2.2)]) [(1,.box (ze8 a.1 2 3)),(3,ro 1 ze0 a.1.aA),(2,ro 1 ze0 a.1.no)] 4 (by kernel_rfl) rfl 1 rfl rfl rfl rfl (qIF a8 _ _ (b)) rfl rfl rfl) (go ?_)
 refine Cf J fun _ J=>?_
 refine go ?_
 exact fin
def qBy (d:((Option ScriptState)×(List bD)×Bool)):List bD->Nat->Int->Int->Option ((Int×Int×Int×Bool))
 | [],e,a,b =>
  some (a,b,w64 ((w64 ((d.2.1.length:Int)-a))-b),true)
 |f::c,e,a,b =>
  cond (decide (f=(bz [110,111])))
   (qBy d c (e+1) (w64 (a+1)) b)
   (cond (decide (f=(bz [119,104,97,116])))
    (qBy d c (e+1) a (w64 (b+1)))
    (qBy d c (e+1) a b))
def qA9 (d:((Option ScriptState)×(List bD)×Bool)):List bD->Nat->Int->Int->Option ((Int×Int×Int×Bool))
 | [],e,a,b =>
  some (a,b,w64 ((w64 ((d.2.1.length:Int)-a))-b),true)
 |f::c,e,a,b =>
  cond (decide (f=(bz [110,111])))
   (qA9 d c (e+1) (w64 (a+1)) b)
   (cond (decide (f=(bz [119,104,97,116])))
    (qA9 d c (e+1) a (w64 (b+1)))
    (qA9 d c (e+1) a b))
def qFs (a8:Nat) (script:bD):Option (Int×Int×Int×Bool) :=
 (qAt a8 script).bind fun a =>
 (match a.1 with
  |none =>
   cond (!a.2.2)
    (some (0,0,0,false))
    (qBy a a.2.1 0 0 0)
  |some b =>
   cond (!a.2.2)
    (some (0,0,0,false))
    (qA9 a a.2.1 0 0 0))
theorem qMZ (a8:Nat) (script:bD) (r:(Int×Int×Int×Bool)) (J:qFs a8 script=some r):qAC prog 13 [.v (.string script)] (.t [.v (.int .i64 r.1),.v (.int .i64 r.2.1),.v (.int .i64 r.2.2.1),.v (.bool r.2.2.2)]):=by
 refine fns T func13 ?_
 refine go ?_
 obtain⟨c,h,J⟩:=zB J
 rcases d:c.1 with _|k
 rw[d]at J
 try dsimp only at J
 refine go ?_
 refine AO.x (qAO rfl 1 rfl rfl rfl ((by have q:=qBC a8 _ _ (h);rw[d]at q;exact q)) rfl rfl rfl) (go ?_)
 refine Cf J fun hc J=>?_
 refine go ?_
 refine AW.loopS (fun s:Nat×Int×Int=>(⟨[(7,.R 1),(9,s.2.1),(10,s.2.2),(21,.R 1),(22,(c.2.1.length:Int)),(23,(s.1:Int))],[(1,ro 1 ze1 c.2.1)],45,[]⟩:St)) (fun s=>s.1<=c.2.1.length/\qBy c (c.2.1.drop s.1) s.1 s.2.1 s.2.2=some r) (fun s=>c.2.1.length-s.1) (0,0,0) ⟨Nat.zero_le _,J⟩ ?_ ?_
 exact Le.ct 0 0
 rintro⟨g,e,f⟩ ⟨m,J⟩
 try dsimp only at J⊢
 refine AW.boundR (id:=1) (l:=c.2.1) rfl (fun i=>?_)
 rcases b:c.2.1.drop g with _|⟨n,j⟩
 rw[b,qBy]at J
 have a:=qAG b
 refine go ?_
 exact fin
 rw[b,qBy]at J
 have a:=qAF b
 refine go ?_
 refine AO.w (zLr T rfl rfl rfl rfl (zgG (zgD b)) rfl rfl rfl) (go ?_)
 refine AW.cH J (fun _ J=>?_) (fun o J=>?_)
 refine go ?_
 refine⟨(g+1,w64 (e+1),f),⟨a,(zds b▸J)⟩,qBm a,?_⟩
 exact Le.ct 0 0
 refine go ?_
 refine AW.cH J (fun _ J=>?_) (fun p J=>?_)
 refine go ?_
 refine⟨(g+1,e,w64 (f+1)),⟨a,(zds b▸J)⟩,qBm a,?_⟩
 exact Le.ct 0 0
 refine go ?_
 refine⟨(g+1,e,f),⟨a,(zds b▸J)⟩,qBm a,?_⟩
 exact Le.ct 0 0
 rw[d]at J
 try dsimp only at J
 refine go ?_
 refine AO.x (qAO rfl 1 rfl rfl rfl ((by have q:=qBC a8 _ _ (h);rw[d]at q;exact q)) rfl rfl rfl) (go ?_)
 refine Cf J fun _ J=>?_
 refine go ?_
 refine AW.loopS (fun s:Nat×Int×Int=>(⟨[(7,.R 2),(9,s.2.1),(10,s.2.2),(21,.R 2),(22,(c.2.1.length:Int)),(23,(s.1:Int))],[(2,ro 1 ze1 c.2.1)],45,[]⟩:St)) (fun s=>s.1<=c.2.1.length/\qA9 c (c.2.1.drop s.1) s.1 s.2.1 s.2.2=some r) (fun s=>c.2.1.length-s.1) (0,0,0) ⟨Nat.zero_le _,J⟩ ?_ ?_
 exact Le.ct 0 0
 rintro⟨g,e,f⟩ ⟨m,J⟩
 try dsimp only at J⊢
 refine AW.boundR (id:=2) (l:=c.2.1) rfl (fun i=>?_)
 rcases b:c.2.1.drop g with _|⟨n,j⟩
 rw[b,qA9]at J
 have a:=qAG b
 refine go ?_
 exact fin
 rw[b,qA9]at J
 have a:=qAF b
 refine go ?_
 refine AO.w (zLr T rfl rfl rfl rfl (zgG (zgD b)) rfl rfl rfl) (go ?_)
 refine AW.cH J (fun _ J=>?_) (fun _ J=>?_)
 refine go ?_
 refine⟨(g+1,w64 (e+1),f),⟨a,(zds b▸J)⟩,qBm a,?_⟩
 exact Le.ct 0 0
 refine go ?_
 refine AW.cH J (fun _ J=>?_) (fun _ J=>?_)
 refine go ?_
 refine⟨(g+1,e,w64 (f+1)),⟨a,(zds b▸J)⟩,qBm a,?_⟩
 exact Le.ct 0 0
 refine go ?_
 refine⟨(g+1,e,f),⟨a,(zds b▸J)⟩,qBm a,?_⟩
 exact Le.ct 0 0
def qFG (b:Code):List Element->Nat->bF
 | [],a =>
  some true
 |e::c,a =>
  (qAV b.ad (a:Int)).bind fun d =>
  cond (!decide (e=d))
   (some false)
   (qFG b c (a+1))
def qIj (a:Code) (b:Code):bF :=
 (opt (!((a.ad.length:Int) != (b.ad.length:Int))) default (qFp a.ar b.ar)).bind fun c =>
 cond (((((((a.ad.length:Int) != (b.ad.length:Int))||(!c))||(a.aq != b.aq))||(a.av != b.av))||(a.au != b.au))||(a.ay != b.ay))
  (some false)
  (qFG b a.ad 0)
theorem qNm (a:Code) (b:Code) (r:Bool) (J:qIj a b=some r):qAC prog 40 [.g (ze4 a),.g (ze4 b)] (.v (.bool r)):=by
 refine fns T func40 ?_
 refine go ?_
 refine AO.x (bxs T 1) ?_
 refine AO.x (bxs T 2) (go ?_)
 obtain⟨h,e,J⟩:=zB J
 refine go ?_
 refine AO.g0 T ?_
 refine AO.g1 T 14 ?_
 refine AO.g0 T ?_
 refine AO.g1 T 16 ?_
 refine AO.d2 15 17 (fun hg=>cVs (qH6 _ _ _ (qD7 e hg))) ?_
 refine AO.g1 T 18 ?_
 refine go ?_
 refine AO.g0 T ?_
 refine AO.g1 T 22 ?_
 refine AO.g0 T ?_
 refine AO.g1 T 24 ?_
 refine AO.g2 T 23 25 ?_
 refine go ?_
 refine AO.g0 T ?_
 refine AO.g1 T 29 ?_
 refine AO.g0 T ?_
 refine AO.g1 T 31 ?_
 refine AO.g2 T 30 32 ?_
 refine go ?_
 refine AO.g0 T ?_
 refine AO.g1 T 36 ?_
 refine AO.g0 T ?_
 refine AO.g1 T 38 ?_
 refine AO.g2 T 37 39 ?_
 refine go ?_
 refine AO.g0 T ?_
 refine AO.g1 T 43 ?_
 refine AO.g0 T ?_
 refine AO.g1 T 45 ?_
 refine AO.g2 T 44 46 ?_
 refine gs2 ?_
 refine AW.le (Le.ct 0 0 (σ':=(⟨[(2,.p 1 0),(3,.p 2 0),(48,.v (.bool (((((((a.ad.length:Int) != (b.ad.length:Int))||(!h))||(a.aq != b.aq))||(a.av != b.av))||(a.au != b.au))||(a.ay != b.ay))))],[(1,.box (ze4 a)),(2,.box (ze4 b))],67,[]⟩:St))) ?_
 refine Cf J fun hc J=>?_
 refine go ?_
 refine AW.loopS (fun s:Nat=>(⟨[(2,.p 1 0),(3,.p 2 0),(51,(a.ad.length:Int)),(52,(s:Int))],[(1,.box (ze4 a)),(2,.box (ze4 b))],67,[]⟩:St)) (fun s=>s<=a.ad.length/\qFG b (a.ad.drop s) s=some r) (fun s=>a.ad.length-s) 0 ⟨Nat.zero_le _,J⟩ ?_ ?_
 exact Le.ct 0 0
 rintro f ⟨q,J⟩
 try dsimp only at J⊢
 refine AW.boundBox (id:=1) (j:=0) (l:=a.ad) rfl rfl (fun k=>?_)
 rcases c:a.ad.drop f with _|⟨t,m⟩
 rw[c,qFG]at J
 have d:=qAG c
 refine go ?_
 exact fin
 rw[c,qFG]at J
 have d:=qAF c
 refine go ?_
 obtain⟨o,i,J⟩:=zB J
 refine AW.drawn 10 3 [] mix (by kernel_rfl) rfl ?_
 refine go ?_
 refine AO.w (qYr rfl qUF rfl rfl rfl rfl (qUO _ _)) ?_
 refine AO.n ?_
 refine Cf J fun _ J=>?_
 refine go ?_
 refine⟨f+1,⟨d,(zds c▸J)⟩,qBm d,?_⟩
 exact Le.ct 0 0
def qEM (b:List bD):List bD->Nat->bF
 | [],a =>
  some true
 |e::c,a =>
  (qAV b (a:Int)).bind fun d =>
  cond (!decide (e=d))
   (some false)
   (qEM b c (a+1))
def qI8 (a:List bD) (b:List bD):bF :=
 cond ((a.length:Int) != (b.length:Int))
  (some false)
  (qEM b a 0)
theorem qQS (a:List bD) (b:List bD) (r:Bool) (J:qI8 a b=some r):qAC prog 93 [.s (List.map ze1 a),.s (List.map ze1 b)] (.v (.bool r)):=by
 refine fns T func93 ?_
 refine go ?_
 refine Cf J fun hc J=>?_
 refine go ?_
 refine AW.loopS (fun s:Nat=>(⟨[(0,sv ze1 a),(1,sv ze1 b),(12,(a.length:Int)),(13,(s:Int))],[],26,[]⟩:St)) (fun s=>s<=a.length/\qEM b (a.drop s) s=some r) (fun s=>a.length-s) 0 ⟨Nat.zero_le _,J⟩ ?_ ?_
 exact Le.ct 0 0
 rintro e ⟨j,J⟩
 try dsimp only at J⊢
 refine AW.boundM (t:=0) (l:=a) rfl (fun g=>?_)
 rcases c:a.drop e with _|⟨k,h⟩
 rw[c,qEM]at J
 have d:=qAG c
 refine go ?_
 exact fin
 rw[c,qEM]at J
 have d:=qAF c
 refine go ?_
 obtain⟨i,f,J⟩:=zB J
 refine AW.drawn 8 1 [] mix (by kernel_rfl) rfl ?_
 refine go ?_
 refine Cf J fun _ J=>?_
 refine go ?_
 refine⟨e+1,⟨d,(zds c▸J)⟩,qBm d,?_⟩
 exact Le.ct 0 0
def qEI (b:List Item):List Item->Nat->bF
 | [],d =>
  some true
 |e::f,d =>
  (qAV b (d:Int)).bind fun a =>
  (qI8 e.aj a.aj).bind fun c =>
  (opt (!(!c)) default (qFp e.ae a.ae)).bind fun g =>
  cond (((!c)||(!g))||(!(e.aB==a.aB)))
   (some false)
   (qEI b f (d+1))
def qJI (a:List Item) (b:List Item):bF :=
 cond ((a.length:Int) != (b.length:Int))
  (some false)
  (qEI b a 0)
theorem qQq (a:List Item) (b:List Item) (r:Bool) (J:qJI a b=some r):qAC prog 68 [.s (List.map ze2 a),.s (List.map ze2 b)] (.v (.bool r)):=by
 refine fns T func68 ?_
 refine go ?_
 refine Cf J fun hc J=>?_
 refine go ?_
 refine AW.loopS (fun s:Nat=>(⟨[(0,sv ze2 a),(1,sv ze2 b),(12,(a.length:Int)),(13,(s:Int))],[],56,[]⟩:St)) (fun s=>s<=a.length/\qEI b (a.drop s) s=some r) (fun s=>a.length-s) 0 ⟨Nat.zero_le _,J⟩ ?_ ?_
 exact Le.ct 0 0
 rintro f ⟨q,J⟩
 try dsimp only at J⊢
 refine AW.boundM (t:=0) (l:=a) rfl (fun o=>?_)
 rcases c:a.drop f with _|⟨n,p⟩
 rw[c,qEI]at J
 have d:=qAG c
 refine go ?_
 exact fin
 rw[c,qEI]at J
 have d:=qAF c
 refine go ?_
 obtain⟨j,e,k,g,m,i,J⟩:=qAq J
 refine AW.drawn 37 1 [] mix (by kernel_rfl) rfl ?_
 refine go ?_
 refine AD.vv (cVs (qQS _ _ _ (g))) ?_
 refine go ?_
 refine AD.pureG T [] rfl trivial rfl rfl ?_
 refine AD.pureG T [] rfl trivial rfl rfl ?_
 refine AD.guard [29,30] rfl ⟨fun h=>h,fun h=>h,trivial⟩ (fun hg=>ixs T (zgD c)) rfl ?_
 refine AD.pureG T [31] rfl ⟨fun h=>h,trivial⟩ rfl rfl ?_
 refine AD.pureG T [32] rfl ⟨fun h=>h,trivial⟩ rfl rfl ?_
 refine AD.pureG T [] rfl trivial rfl rfl ?_
 refine AD.pureG T [] rfl trivial rfl rfl ?_
 refine AD.guard [34,35] rfl ⟨fun h=>h,fun h=>h,trivial⟩ (fun hg=>ixs T (e)) rfl ?_
 refine AD.pureG T [36] rfl ⟨fun h=>h,trivial⟩ rfl rfl ?_
 refine AD.pureG T [37] rfl ⟨fun h=>h,trivial⟩ rfl rfl ?_
 refine AD.guard [33,38] rfl ⟨fun h=>h,fun h=>h,trivial⟩ (fun hg=>cVs (qH6 _ _ _ (qD7 i hg))) rfl ?_
 refine AD.pureG T [39] rfl ⟨fun h=>h,trivial⟩ rfl rfl ?_
 refine AD.vv ors ?_
 refine AD.pu T ?_
 refine AD.pureG T [] rfl trivial rfl rfl ?_
 refine AD.pureG T [] rfl trivial rfl rfl ?_
 refine AD.guard [43,44] rfl ⟨fun h=>h,fun h=>h,trivial⟩ (fun hg=>ixs T (zgD c)) rfl ?_
 refine AD.pureG T [45] rfl ⟨fun h=>h,trivial⟩ rfl rfl ?_
 refine AD.pureG T [46] rfl ⟨fun h=>h,trivial⟩ rfl rfl ?_
 refine AD.pureG T [] rfl trivial rfl rfl ?_
 refine AD.pureG T [] rfl trivial rfl rfl ?_
 refine AD.guard [48,49] rfl ⟨fun h=>h,fun h=>h,trivial⟩ (fun hg=>ixs T (e)) rfl ?_
 refine AD.pureG T [50] rfl ⟨fun h=>h,trivial⟩ rfl rfl ?_
 refine AD.pureG T [51] rfl ⟨fun h=>h,trivial⟩ rfl rfl ?_
 refine AD.nil (AO.g2 T 47 52 ?_)
 refine gs2 ?_
 refine AW.le (Le.ct 0 0 (σ':=(⟨[(0,sv ze2 a),(1,sv ze2 b),(12,(a.length:Int)),(13,(f:Int)),(54,.v (.bool (((!k)||(!m))||(!(n.aB==j.aB)))))],[],56,[]⟩:St))) ?_
 refine Cf J fun _ J=>?_
 refine go ?_
 refine⟨f+1,⟨d,(zds c▸J)⟩,qBm d,?_⟩
 exact Le.ct 0 0
def qEQ (b:List bE):List bE->Nat->bF
 | [],a =>
  some true
 |f::c,a =>
  (qAV b (a:Int)).bind fun d =>
  (qFp f d).bind fun e =>
  cond (!e)
   (some false)
   (qEQ b c (a+1))
def qHu (a:List bE) (b:List bE):bF :=
 cond ((a.length:Int) != (b.length:Int))
  (some false)
  (qEQ b a 0)
theorem qMm (a:List bE) (b:List bE) (r:Bool) (J:qHu a b=some r):qAC prog 94 [.s (List.map ze3 a),.s (List.map ze3 b)] (.v (.bool r)):=by
 refine fns T func94 ?_
 refine go ?_
 refine Cf J fun hc J=>?_
 refine go ?_
 refine AW.loopS (fun s:Nat=>(⟨[(0,sv ze3 a),(1,sv ze3 b),(12,(a.length:Int)),(13,(s:Int))],[],27,[]⟩:St)) (fun s=>s<=a.length/\qEQ b (a.drop s) s=some r) (fun s=>a.length-s) 0 ⟨Nat.zero_le _,J⟩ ?_ ?_
 exact Le.ct 0 0
 rintro f ⟨m,J⟩
 try dsimp only at J⊢
 refine AW.boundM (t:=0) (l:=a) rfl (fun h=>?_)
 rcases c:a.drop f with _|⟨n,i⟩
 rw[c,qEQ]at J
 have d:=qAG c
 refine go ?_
 exact fin
 rw[c,qEQ]at J
 have d:=qAF c
 refine go ?_
 obtain⟨j,g,k,e,J⟩:=qAE J
 refine AW.drawn 8 1 [] mix (by kernel_rfl) rfl ?_
 refine go ?_
 refine AO.w (cVs (qH6 _ _ _ (e))) (go ?_)
 refine Cf J fun _ J=>?_
 refine go ?_
 refine⟨f+1,⟨d,(zds c▸J)⟩,qBm d,?_⟩
 exact Le.ct 0 0
def qJK (a:Marks) (b:Marks):bF :=
 (qHu a.ah b.ah).bind fun c =>
 (opt c default (qHu a.ac b.ac)).bind fun d =>
 some (c&&d)
theorem qQp (a:Marks) (b:Marks) (r:Bool) (J:qJK a b=some r):qAC prog 69 [.g (qJb a),.g (qJb b)] (.v (.bool r)):=by
 refine fns T func69 ?_
 refine go ?_
 refine AO.x (bxs T 1) ?_
 refine AO.x (bxs T 2) (go ?_)
 obtain⟨e,c,f,d,J⟩:=qAE J
 refine go ?_
 refine AO.w (cVs (qMm _ _ _ (c))) ?_
 refine AO.pu T ?_
 refine AO.g0 T ?_
 refine AO.g1 T 11 ?_
 refine AO.g0 T ?_
 refine AO.g1 T 13 ?_
 refine AO.d2 12 14 (fun hg=>cVs (qMm _ _ _ (qD7 d hg))) ?_
 refine go ?_
 exact fin
def qEh (a:Performance) (b:Performance):bF :=
 (qJI a.ai b.ai).bind fun c =>
 (opt c default (qJK a.ae b.ae)).bind fun d =>
 some ((c&&d)&&decide (a.af=b.af))
theorem qI4 (a:Performance) (b:Performance) (r:Bool) (J:qEh a b=some r):qAC prog 41 [.g (ze9 a),.g (ze9 b)] (.v (.bool r)):=by
 refine fns T func41 ?_
 refine go ?_
 refine AO.x (bxs T 1) ?_
 refine AO.x (bxs T 2) (go ?_)
 obtain⟨f,c,i,e,J⟩:=qAE J
 refine go ?_
 refine AO.w (cVs (qQq _ _ _ (c))) ?_
 refine AO.pu T ?_
 refine AO.g0 T ?_
 refine AO.g T (d:=.g [sv ze3 a.ae.ah,sv ze3 a.ae.ac]) [11] rfl ⟨fun h=>h,trivial⟩ rfl rfl ?_
 refine AO.g0 T ?_
 refine AO.g T (d:=.g [sv ze3 b.ae.ah,sv ze3 b.ae.ac]) [13] rfl ⟨fun h=>h,trivial⟩ rfl rfl ?_
 refine AO.d2 12 14 (fun hg=>cVs (qQp _ _ _ (qD7 e hg))) ?_
 refine go ?_
 refine AO.g0 T ?_
 refine AO.g T (d:=.g [a.af.falls,a.af.an,a.af.aw]) [18] rfl ⟨fun h=>h,trivial⟩ rfl rfl ?_
 refine AO.g0 T ?_
 refine AO.g T (d:=.g [b.af.falls,b.af.an,b.af.aw]) [20] rfl ⟨fun h=>h,trivial⟩ rfl rfl ?_
 refine AO.d2 19 21 (fun hg=>qZ9 rfl qXY rfl rfl rfl rfl (qXE _ _)) ?_
 refine go ?_
 exact fin
def qCx (b:List Result):List Result->Nat->bF
 | [],c =>
  some true
 |d::e,c =>
  (qAV b (c:Int)).bind fun a =>
  (opt (!(d.ax != a.ax)) default (qFp d.ap a.ap)).bind fun f =>
  cond ((d.ax != a.ax)||(!f))
   (some false)
   (qCx b e (c+1))
def qGX (a:List Result) (b:List Result):bF :=
 cond ((a.length:Int) != (b.length:Int))
  (some false)
  (qCx b a 0)
theorem qLJ (a:List Result) (b:List Result) (r:Bool) (J:qGX a b=some r):qAC prog 42 [.s (List.map ze6 a),.s (List.map ze6 b)] (.v (.bool r)):=by
 refine fns T func42 ?_
 refine go ?_
 refine Cf J fun hc J=>?_
 refine go ?_
 refine AW.loopS (fun s:Nat=>(⟨[(0,sv ze6 a),(1,sv ze6 b),(12,(a.length:Int)),(13,(s:Int))],[],42,[]⟩:St)) (fun s=>s<=a.length/\qCx b (a.drop s) s=some r) (fun s=>a.length-s) 0 ⟨Nat.zero_le _,J⟩ ?_ ?_
 exact Le.ct 0 0
 rintro e ⟨o,J⟩
 try dsimp only at J⊢
 refine AW.boundM (t:=0) (l:=a) rfl (fun m=>?_)
 rcases c:a.drop e with _|⟨k,n⟩
 rw[c,qCx]at J
 have d:=qAG c
 refine go ?_
 exact fin
 rw[c,qCx]at J
 have d:=qAF c
 refine go ?_
 obtain⟨i,f,j,g,J⟩:=qAE J
 refine AW.drawn 22 1 [] mix (by kernel_rfl) rfl ?_
 refine go ?_
 refine AD.pureG T [] rfl trivial rfl rfl ?_
 refine AD.pureG T [] rfl trivial rfl rfl ?_
 refine AD.guard [28,29] rfl ⟨fun h=>h,fun h=>h,trivial⟩ (fun hg=>ixs T (zgD c)) rfl ?_
 refine AD.pureG T [30] rfl ⟨fun h=>h,trivial⟩ rfl rfl ?_
 refine AD.pureG T [31] rfl ⟨fun h=>h,trivial⟩ rfl rfl ?_
 refine AD.pureG T [] rfl trivial rfl rfl ?_
 refine AD.pureG T [] rfl trivial rfl rfl ?_
 refine AD.guard [33,34] rfl ⟨fun h=>h,fun h=>h,trivial⟩ (fun hg=>ixs T (f)) rfl ?_
 refine AD.pureG T [35] rfl ⟨fun h=>h,trivial⟩ rfl rfl ?_
 refine AD.pureG T [36] rfl ⟨fun h=>h,trivial⟩ rfl rfl ?_
 refine AD.nil (AO.d2 32 37 (fun hg=>cVs (qH6 _ _ _ (qD7 g hg))) ?_)
 refine AO.g1 T 38 ?_
 refine gs2 ?_
 refine AW.le (Le.ct 0 0 (σ':=(⟨[(0,sv ze6 a),(1,sv ze6 b),(12,(a.length:Int)),(13,(e:Int)),(40,.v (.bool ((k.ax != i.ax)||(!j))))],[],42,[]⟩:St))) ?_
 refine Cf J fun _ J=>?_
 refine go ?_
 refine⟨e+1,⟨d,(zds c▸J)⟩,qBm d,?_⟩
 exact Le.ct 0 0
def qFR (a8:Nat) (c:Code) (p:Performance):Option (Bool×Bool) :=
 (qBE a8 c).bind fun a =>
 cond (!a)
  (some (false,false))
  ((qBh a8 c p).bind fun b =>
  some (b,true))
theorem qLg (a8:Nat) (c:Code) (p:Performance) (r:(Bool×Bool)) (J:qFR a8 c p=some r):qAC prog 43 [.g (ze4 c),.g (ze9 p)] (.t [.v (.bool r.1),.v (.bool r.2)]):=by
 refine fns T func43 ?_
 refine go ?_
 refine AO.x (bxs T 1) ?_
 refine AO.x (bxs T 2) (go ?_)
 obtain⟨d,a,J⟩:=zB J
 refine go ?_
 refine AO.w (cVs (qFP a8 _ _ (a))) (go ?_)
 refine Cf J fun _ J=>?_
 refine go ?_
 obtain⟨e,b,J⟩:=zB J
 refine go ?_
 refine AO.w (cVs (qGg a8 _ _ _ (b))) (go ?_)
 exact fin
def qA0 (a8:Nat) (b:bD) (t:(bE×Bool)):Nat->bD->Int->Int->bF
 |0,_,_,_=>none
 |q+1,e,i,a =>
  cond (decide (a<(b.size:Int)))
   ((qKx t.1 i).bind fun y =>
   cond (!y)
    ((qAl (inB a (w64 (a+1)) b.size)).bind fun B =>
    (qAl (Nat.ble (e.size+(ByteArray.extract b a.toNat (w64 (a+1)).toNat).size) qDF)).bind fun C =>
    (qNC b a).bind fun z =>
    cond ((z.toNat:Int)==10)
     (qA0 a8 b t q (e++(ByteArray.extract b a.toNat (w64 (a+1)).toNat)) (w64 (i+1)) (w64 (a+1)))
     (qA0 a8 b t q (e++(ByteArray.extract b a.toNat (w64 (a+1)).toNat)) i (w64 (a+1))))
    ((qNC b a).bind fun A =>
    cond ((A.toNat:Int)==10)
     (qA0 a8 b t q e (w64 (i+1)) (w64 (a+1)))
     (qA0 a8 b t q e i (w64 (a+1)))))
   ((qGC a8 b).bind fun c =>
   (qGC a8 e).bind fun f =>
   (qHS a8 b).bind fun d =>
   (qCk a8 b).bind fun g =>
   (qCk a8 e).bind fun j =>
   (qD9 a8 b).bind fun h =>
   (qD8 a8 b).bind fun n =>
   (qD8 a8 e).bind fun r =>
   (qFQ a8 b).bind fun o =>
   (qFs a8 b).bind fun k =>
   (opt (!(((!c.2)||(!f.2))||(!d.2))) default (qIj c.1 d.1)).bind fun l =>
   (opt (!((((!c.2)||(!f.2))||(!d.2))||(!l))) default (qIj f.1 d.1)).bind fun p =>
   (opt (!((((((((!c.2)||(!f.2))||(!d.2))||(!l))||(!p))||(!g.2))||(!j.2))||(!h.2))) default (qEh g.1 h.1)).bind fun s =>
   (opt (!(((((((((!c.2)||(!f.2))||(!d.2))||(!l))||(!p))||(!g.2))||(!j.2))||(!h.2))||(!s))) default (qEh j.1 h.1)).bind fun u =>
   (opt (!(((((((((((((!c.2)||(!f.2))||(!d.2))||(!l))||(!p))||(!g.2))||(!j.2))||(!h.2))||(!s))||(!u))||(!n.2))||(!r.2))||(!o.2))) default (qGX n.1 o.1)).bind fun v =>
   (opt (!((((((((((((((!c.2)||(!f.2))||(!d.2))||(!l))||(!p))||(!g.2))||(!j.2))||(!h.2))||(!s))||(!u))||(!n.2))||(!r.2))||(!o.2))||(!v))) default (qGX r.1 o.1)).bind fun w =>
   cond ((((((((((((((((((!c.2)||(!f.2))||(!d.2))||(!l))||(!p))||(!g.2))||(!j.2))||(!h.2))||(!s))||(!u))||(!n.2))||(!r.2))||(!o.2))||(!v))||(!w))||(!k.2.2.2))||((w64 (k.1+k.2.1)) != (t.1.length:Int)))||((w64 ((w64 (k.1+k.2.1))+k.2.2.1)) != (w64 (i-1))))
    (some false)
    ((qFR a8 c.1 g.1).bind fun m =>
    (opt (m.2&&m.1) default (qEU n.1)).bind fun x =>
    some ((m.2&&m.1)&&x)))
def qHM (a8:Nat) (code:bE) (more:bE):bF :=
 cond (decide ((w64 ((code.length:Int)+(more.length:Int)))>1048576))
  (some true)
  ((qEZ a8 code).bind fun e =>
  (qDr a8 e).bind fun i =>
  (qFe a8 e).bind fun j =>
  (qD1 a8 e).bind fun f =>
  (qDz a8 e).bind fun g =>
  (qEp a8 more).bind fun a =>
  (qGR a.1 a.2).bind fun c =>
  (qGP a8 a.1 a.2).bind fun h =>
  (opt (!((!decide (i=j))||(!(f.2==g.2)))) default (qFp f.1 g.1)).bind fun k =>
  cond (((((!decide (i=j))||(!(f.2==g.2)))||(!k))||(!(c.2==h.2)))||(!decide (c.1=h.1)))
   (some false)
   ((cond c.2
    ((qDr a8 a.1).bind fun b =>
    (qDr a8 c.1).bind fun d =>
    (opt (!(decide ((b.size:Int)>(d.size:Int)))) default (qAl (inB 0 (b.size:Int) d.size))).bind fun m =>
    cond (decide ((b.size:Int)>(d.size:Int))||(!decide ((ByteArray.extract d 0 (b.size:Int).toNat)=b)))
     (some (.error false))
     (some (.ok ())))
    (some (.ok ()))).bind fun l=>qKL l fun _ =>
   cond (!f.2)
    (some (decide (i=(⟨#[]⟩:bD))))
    (qA0 a8 e g a8 (⟨#[]⟩:bD) 1 0)))
theorem qOC (a8:Nat) (code:bE) (more:bE) (r:Bool) (J:qHM a8 code more=some r):qAC prog 9 [.s (List.map qNr code),.s (List.map qNr more)] (.v (.bool r)):=by
 refine fns T func9 ?_
 refine go ?_
 refine Cf J fun hc J=>?_
 refine go ?_
 obtain⟨t,aF,J⟩:=zB J
 refine go ?_
 refine AO.w (cVs (qI6 a8 _ _ (aF))) (go ?_)
 obtain⟨F,aG,J⟩:=zB J
 refine go ?_
 refine AO.w (cVs (qIw a8 _ _ (aG))) (go ?_)
 obtain⟨x5,aI,J⟩:=zB J
 refine go ?_
 refine AO.w (cVs (qPD a8 _ _ (aI))) (go ?_)
 obtain⟨A,aJ,J⟩:=zB J
 refine go ?_
 refine AO.x (qAO rfl 1 rfl rfl rfl (qM3 a8 _ _ (aJ)) rfl rfl rfl) (go ?_)
 obtain⟨m,M,J⟩:=zB J
 refine go ?_
 refine AO.w (cVs (qNH a8 _ _ (M))) ?_
 refine gs6 ?_
 refine AW.le (Le.ct 0 0 (σ':=(⟨[(1,sv qNr more),(5,.v (.string t)),(6,.v (.string F)),(7,.v (.string x5)),(8,.R 1),(9,.v (.bool A.2)),(10,sv ze0 m.1),(11,.v (.bool m.2))],[(1,ro 1 ze0 A.1)],313,[]⟩:St))) ?_
 refine AW.q ?_
 obtain⟨aK,N,J⟩:=zB J
 refine go ?_
 refine AO.w (cVs (qKz a8 _ _ (N))) (go ?_)
 obtain⟨u,O,J⟩:=zB J
 refine go ?_
 refine AO.w (cVs (qMy _ _ _ (O))) (go ?_)
 obtain⟨L,P,J⟩:=zB J
 refine go ?_
 refine AO.w (cVs (qNJ a8 _ _ _ (P))) (go ?_)
 obtain⟨aL,Q,J⟩:=zB J
 refine go ?_
 refine AO.g0 T ?_
 refine AO.g0 T ?_
 refine AO.g2 T 90 91 ?_
 refine go ?_
 refine AO.g0 T ?_
 refine AO.g0 T ?_
 refine AO.d2 95 96 (fun hg=>zLV rfl rfl rfl (es:=[sv ze0 A.1,sv ze0 m.1]) ⟨(.rowR rfl (.map fun y=>.vs rfl)),.free rfl,trivial⟩ (qH6 _ _ _ (qD7 Q hg)) (qAj _) rfl) ?_
 refine AO.g1 T 97 ?_
 refine go ?_
 refine AO.g0 T ?_
 refine AO.g0 T ?_
 refine AO.g2 T 101 102 ?_
 refine go ?_
 refine AO.g0 T ?_
 refine AO.g0 T ?_
 refine AO.g2 T 106 107 ?_
 refine gs2 ?_
 refine AW.le (Le.ct 0 0 (σ':=(⟨[(5,.v (.string t)),(6,.v (.string F)),(9,.v (.bool A.2)),(10,sv ze0 m.1),(12,.v (.string aK.1)),(14,.v (.string u.1)),(15,.v (.bool u.2)),(109,.v (.bool (((((!decide (F=x5))||(!(A.2==m.2)))||(!aL))||(!(u.2==L.2)))||(!decide (u.1=L.1)))))],[],313,[]⟩:St))) ?_
 refine Cf J fun hc J=>?_
 refine AW.k ?_
 obtain⟨aM,J,B⟩:=zB J
 refine AW.seqJ (fun s:Unit=>(⟨[(5,.v (.string t)),(6,.v (.string F)),(9,.v (.bool A.2)),(10,sv ze0 m.1)],[],313,[]⟩:St)) (fun s=>.ok s=aM) ?_ ?_
 refine go ?_
 refine AW.cH J (fun hc J=>?_) (fun hc J=>?_)
 refine AW.q ?_
 obtain⟨aU,S,aV,U,J⟩:=qAE J
 refine go ?_
 refine AO.w (cVs (qIw a8 _ _ (S))) ?_
 refine AO.pu T ?_
 refine AO.w (cVs (qIw a8 _ _ (U))) (go ?_)
 obtain⟨aW,V,J⟩:=zB J
 refine go ?_
 refine AO.g0 T ?_
 refine AO.g0 T ?_
 refine AO.g1 T 122 ?_
 refine AO.d2 121 123 (fun hg=>qFo T rfl rfl rfl rfl (qAJ (qD7 V hg))) ?_
 refine AO.g0 T ?_
 refine AO.g2 T 124 125 ?_
 refine go ?_
 refine AW.cH J (fun _ J=>?_) (fun hc J=>?_)
 refine go ?_
 obtain rfl:=zS J
 replace J:=B
 exact fin
 refine AW.k ?_
 refine⟨_,zS J,?_⟩
 exact Le.ct 0 0
 refine AW.k ?_
 refine⟨_,zS J,?_⟩
 exact Le.ct 0 0
 rintro _ hs
 subst hs
 replace J:=B
 try dsimp only[qKL,qIN]at J
 try dsimp only
 refine go ?_
 refine Cf J fun hc J=>?_
 refine go ?_
 refine AW.loopS (fun s:Nat×bD×Int×Int=>(⟨[(5,.v (.string t)),(10,sv ze0 m.1),(20,.v (.string s.2.1)),(21,s.2.2.1),(22,s.2.2.2)],[],313,[]⟩:St)) (fun s=>qA0 a8 t m s.1 s.2.1 s.2.2.1 s.2.2.2=some r) (fun s=>s.1) (a8,(⟨#[]⟩:bD),1,0) J ?_ ?_
 exact Le.ct 0 0
 rintro⟨n,o,j,l⟩ J
 try dsimp only at J⊢
 rcases n with _|n
 cases (show none=some _ from J)
 rw[qA0]at J
 refine go ?_
 refine AW.cH J (fun hc J=>?_) (fun hc J=>?_)
 refine go ?_
 obtain⟨aX,W,J⟩:=zB J
 refine go ?_
 refine AO.w (cVs (qSZ _ _ _ (W))) (go ?_)
 refine AW.cH J (fun hc J=>?_) (fun hc J=>?_)
 obtain⟨aY,X,aZ,Y,J⟩:=qAE J
 refine go ?_
 refine AO.w (qOm T rfl rfl rfl rfl rfl (qAJ (X))) ?_
 refine AO.w (qAP rfl rfl rfl (Nat.le_of_ble_eq_true (qAJ (Y)))) (go ?_)
 obtain⟨a0,Z,J⟩:=zB J
 refine go ?_
 refine AO.w (qBO T rfl rfl rfl rfl (Z)) (go ?_)
 refine AW.cH J (fun _ J=>?_) (fun hc J=>?_)
 refine go ?_
 refine⟨(n,(o++(ByteArray.extract t l.toNat (w64 (l+1)).toNat)),w64 (j+1),w64 (l+1)),J,Nat.lt_succ_self _,?_⟩
 exact Le.ct 0 0
 refine go ?_
 refine⟨(n,(o++(ByteArray.extract t l.toNat (w64 (l+1)).toNat)),j,w64 (l+1)),J,Nat.lt_succ_self _,?_⟩
 exact Le.ct 0 0
 refine go ?_
 obtain⟨a1,aa,J⟩:=zB J
 refine go ?_
 refine AO.w (qBO T rfl rfl rfl rfl (aa)) (go ?_)
 refine AW.cH J (fun _ J=>?_) (fun hc J=>?_)
 refine go ?_
 refine⟨(n,o,w64 (j+1),w64 (l+1)),J,Nat.lt_succ_self _,?_⟩
 exact Le.ct 0 0
 refine go ?_
 refine⟨(n,o,j,w64 (l+1)),J,Nat.lt_succ_self _,?_⟩
 exact Le.ct 0 0
 refine go ?_
 obtain⟨b,ab,J⟩:=zB J
 refine go ?_
 refine AO.w (cVs (qKS a8 _ _ (ab))) (go ?_)
 refine AO.x (als T 2) ?_
 refine AO.se T [sv ze5 b.1.ad,sv ze0 b.1.ar,b.1.aq,b.1.av,b.1.au,b.1.ay] ?_
 refine go ?_
 obtain⟨e,ag,J⟩:=zB J
 refine go ?_
 refine AO.w (cVs (qKS a8 _ _ (ag))) (go ?_)
 refine AO.x (als T 3) ?_
 refine AO.se T [sv ze5 e.1.ad,sv ze0 e.1.ar,e.1.aq,e.1.av,e.1.au,e.1.ay] ?_
 refine go ?_
 obtain⟨c,aj,J⟩:=zB J
 refine go ?_
 refine AO.w (cVs (qN6 a8 _ _ (aj))) (go ?_)
 refine AO.x (als T 4) ?_
 refine AO.se T [sv ze5 c.1.ad,sv ze0 c.1.ar,c.1.aq,c.1.av,c.1.au,c.1.ay] ?_
 refine gs2 ?_
 refine AW.le (Le.ct 0 0 (σ':=(⟨[(5,.v (.string t)),(10,sv ze0 m.1),(20,.v (.string o)),(21,j),(23,.p 2 0),(24,.v (.bool b.2)),(25,.p 3 0),(26,.v (.bool e.2)),(27,.p 4 0),(28,.v (.bool c.2))],[(2,.box (ze4 b.1)),(3,.box (ze4 e.1)),(4,.box (ze4 c.1))],313,[]⟩:St))) ?_
 refine AW.q ?_
 obtain⟨f,ak,J⟩:=zB J
 refine go ?_
 refine AO.w (cVs (qHe a8 _ _ (ak))) (go ?_)
 refine AO.x (als T 5) ?_
 refine AO.se T [sv ze2 f.1.ai,sv ze3 f.1.ae.ah,sv ze3 f.1.ae.ac,f.1.af.falls,f.1.af.an,f.1.af.aw] ?_
 refine go ?_
 obtain⟨h,al,J⟩:=zB J
 refine go ?_
 refine AO.w (cVs (qHe a8 _ _ (al))) (go ?_)
 refine AO.x (als T 6) ?_
 refine AO.se T [sv ze2 h.1.ai,sv ze3 h.1.ae.ah,sv ze3 h.1.ae.ac,h.1.af.falls,h.1.af.an,h.1.af.aw] ?_
 refine go ?_
 obtain⟨a,am,J⟩:=zB J
 refine go ?_
 refine AO.x (qAO rfl 7 rfl rfl rfl (qKO a8 _ _ (am)) rfl rfl rfl) (go ?_)
 refine AO.x (als T 10) ?_
 refine AO.se T [.R 7,.R 8,.R 9,a.1.af.falls,a.1.af.an,a.1.af.aw] ?_
 refine gs2 ?_
 refine AW.le (Le.ct 0 0 (σ':=(⟨[(5,.v (.string t)),(10,sv ze0 m.1),(20,.v (.string o)),(21,j),(23,.p 2 0),(24,.v (.bool b.2)),(25,.p 3 0),(26,.v (.bool e.2)),(27,.p 4 0),(28,.v (.bool c.2)),(29,.p 5 0),(30,.v (.bool f.2)),(31,.p 6 0),(32,.v (.bool h.2)),(33,.p 10 0),(34,.v (.bool a.2))],[(2,.box (ze4 b.1)),(3,.box (ze4 e.1)),(4,.box (ze4 c.1)),(5,.box (ze9 f.1)),(6,.box (ze9 h.1)),(7,ro 3 qBn a.1.ai),(8,ro 1 ze7 a.1.ae.ah),(9,ro 1 ze7 a.1.ae.ac),(10,.box [.R 7,.R 8,.R 9,a.1.af.falls,a.1.af.an,a.1.af.aw])],313,[]⟩:St))) ?_
 refine AW.q ?_
 obtain⟨z,ao,J⟩:=zB J
 refine go ?_
 refine AO.w (cVs (qIl a8 _ _ (ao))) (go ?_)
 obtain⟨C,ap,J⟩:=zB J
 refine go ?_
 refine AO.w (cVs (qIl a8 _ _ (ap))) (go ?_)
 obtain⟨E,ax,J⟩:=zB J
 refine go ?_
 refine AO.w (cVs (qL0 a8 _ _ (ax))) (go ?_)
 obtain⟨i,az,J⟩:=zB J
 refine go ?_
 refine AO.w (cVs (qMZ a8 _ _ (az))) ?_
 iterate 10 refine gs ?_
 refine AW.le (Le.ct 0 0 (σ':=(⟨[(10,sv ze0 m.1),(21,j),(23,.p 2 0),(24,.v (.bool b.2)),(25,.p 3 0),(26,.v (.bool e.2)),(27,.p 4 0),(28,.v (.bool c.2)),(29,.p 5 0),(30,.v (.bool f.2)),(31,.p 6 0),(32,.v (.bool h.2)),(33,.p 10 0),(34,.v (.bool a.2)),(35,sv ze6 z.1),(36,.v (.bool z.2)),(37,sv ze6 C.1),(38,.v (.bool C.2)),(39,sv ze6 E.1),(40,.v (.bool E.2)),(41,i.1),(42,i.2.1),(43,i.2.2.1),(44,.v (.bool i.2.2.2))],[(2,.box (ze4 b.1)),(3,.box (ze4 e.1)),(4,.box (ze4 c.1)),(5,.box (ze9 f.1)),(6,.box (ze9 h.1)),(7,ro 3 qBn a.1.ai),(8,ro 1 ze7 a.1.ae.ah),(9,ro 1 ze7 a.1.ae.ac),(10,.box [.R 7,.R 8,.R 9,a.1.af.falls,a.1.af.an,a.1.af.aw])],313,[]⟩:St))) ?_
 refine go ?_
 obtain⟨aN,aA,aO,aB,aP,aC,J⟩:=qAq J
 obtain⟨aQ,aD,aR,G,aE,H,J⟩:=qAq J
 refine go ?_
 refine AO.g0 T ?_
 refine AO.g1 T 210 ?_
 refine go ?_
 refine AO.g0 T ?_
 refine AO.g1 T 214 ?_
 refine go ?_
 refine AO.g T (d:=.g (ze4 b.1)) [] rfl trivial rfl rfl ?_
 refine AO.g T (d:=.g (ze4 c.1)) [] rfl trivial rfl rfl ?_
 refine AO.d2 218 219 (fun hg=>cVs (qNm _ _ _ (qD7 aA hg))) ?_
 refine AO.g1 T 220 ?_
 refine go ?_
 refine AO.g T (d:=.g (ze4 e.1)) [] rfl trivial rfl rfl ?_
 refine AO.g T (d:=.g (ze4 c.1)) [] rfl trivial rfl rfl ?_
 refine AO.d2 224 225 (fun hg=>cVs (qNm _ _ _ (qD7 aB hg))) ?_
 refine AO.g1 T 226 ?_
 refine go ?_
 refine AO.g0 T ?_
 refine AO.g1 T 230 ?_
 refine go ?_
 refine AO.g0 T ?_
 refine AO.g1 T 234 ?_
 refine go ?_
 refine AO.g0 T ?_
 refine AO.g1 T 238 ?_
 refine go ?_
 refine AO.g T (d:=.g (ze9 f.1)) [] rfl trivial rfl rfl ?_
 refine AO.g T (d:=.g [.R 7,.R 8,.R 9,a.1.af.falls,a.1.af.an,a.1.af.aw]) [] rfl trivial rfl rfl ?_
 refine AO.d2 242 243 (fun hg=>zLV rfl rfl rfl (es:=[.g (ze9 f.1),.g (ze9 a.1)]) ⟨.free rfl,qIK (LendL.cons ((.rowR rfl (.map fun y=>qGO y))) (LendL.cons ((.rowR rfl (.map fun y=>qAh y))) (LendL.cons ((.rowR rfl (.map fun y=>qAh y))) (LendL.cons (.free rfl) (LendL.cons (.free rfl) (LendL.cons (.free rfl) LendL.nil)))))),trivial⟩ (qI4 _ _ _ (qD7 aC hg)) (qAj _) rfl) ?_
 refine AO.g1 T 244 ?_
 refine go ?_
 refine AO.g T (d:=.g (ze9 h.1)) [] rfl trivial rfl rfl ?_
 refine AO.g T (d:=.g [.R 7,.R 8,.R 9,a.1.af.falls,a.1.af.an,a.1.af.aw]) [] rfl trivial rfl rfl ?_
 refine AO.d2 248 249 (fun hg=>zLV rfl rfl rfl (es:=[.g (ze9 h.1),.g (ze9 a.1)]) ⟨.free rfl,qIK (LendL.cons ((.rowR rfl (.map fun y=>qGO y))) (LendL.cons ((.rowR rfl (.map fun y=>qAh y))) (LendL.cons ((.rowR rfl (.map fun y=>qAh y))) (LendL.cons (.free rfl) (LendL.cons (.free rfl) (LendL.cons (.free rfl) LendL.nil)))))),trivial⟩ (qI4 _ _ _ (qD7 aD hg)) (qAj _) rfl) ?_
 refine AO.g1 T 250 ?_
 refine go ?_
 refine AO.g0 T ?_
 refine AO.g1 T 254 ?_
 refine go ?_
 refine AO.g0 T ?_
 refine AO.g1 T 258 ?_
 refine go ?_
 refine AO.g0 T ?_
 refine AO.g1 T 262 ?_
 refine go ?_
 refine AO.g0 T ?_
 refine AO.g0 T ?_
 refine AO.d2 266 267 (fun hg=>cVs (qLJ _ _ _ (qD7 G hg))) ?_
 refine AO.g1 T 268 ?_
 refine go ?_
 refine AO.g0 T ?_
 refine AO.g0 T ?_
 refine AO.d2 272 273 (fun hg=>cVs (qLJ _ _ _ (qD7 H hg))) ?_
 refine AO.g1 T 274 ?_
 refine go ?_
 refine AO.g0 T ?_
 refine AO.g1 T 278 ?_
 refine go ?_
 refine AO.g0 T ?_
 refine AO.g0 T ?_
 refine AO.d2 282 283 (fun hg=>aws) ?_
 refine AO.g0 T ?_
 refine AO.d1 285 (fun hg=>qMc T) ?_
 refine AO.g2 T 284 286 ?_
 refine go ?_
 refine AO.g0 T ?_
 refine AO.g0 T ?_
 refine AO.d2 290 291 (fun hg=>aws) ?_
 refine AO.g0 T ?_
 refine AO.d2 292 293 (fun hg=>aws) ?_
 refine AO.g0 T ?_
 refine AO.d1 295 (fun hg=>aws) ?_
 refine AO.g2 T 294 296 ?_
 refine gs2 ?_
 refine AW.le (Le.ct 0 0 (σ':=(⟨[(23,.p 2 0),(29,.p 5 0),(35,sv ze6 z.1),(298,.v (.bool ((((((((((((((((((!b.2)||(!e.2))||(!c.2))||(!aN))||(!aO))||(!f.2))||(!h.2))||(!a.2))||(!aP))||(!aQ))||(!z.2))||(!C.2))||(!E.2))||(!aR))||(!aE))||(!i.2.2.2))||((w64 (i.1+i.2.1)) != (m.1.length:Int)))||((w64 ((w64 (i.1+i.2.1))+i.2.2.1)) != (w64 (j-1))))))],[(2,.box (ze4 b.1)),(5,.box (ze9 f.1))],313,[]⟩:St))) ?_
 refine Cf J fun _ J=>?_
 refine go ?_
 obtain⟨aS,I,J⟩:=zB J
 refine go ?_
 refine AO.w (cVs (qLg a8 _ _ _ (I))) (go ?_)
 obtain⟨aT,K,J⟩:=zB J
 refine go ?_
 refine AO.g0 T ?_
 refine go ?_
 refine AO.g0 T ?_
 refine AO.d1 310 (fun hg=>cVs (qH2 _ _ (qD7 K hg))) ?_
 refine go ?_
 exact fin
end Go.Proofs.YtkidpkmpnbibmaaGreatDoor

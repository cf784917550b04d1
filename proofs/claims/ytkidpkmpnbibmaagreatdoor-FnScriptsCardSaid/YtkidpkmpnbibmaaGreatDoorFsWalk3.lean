/- The walk, part 3: what each function reached by the law FnScripts computes. No condition. -/
import Derived.Test.YtkidpkmpnbibmaaGreatDoorFsWalk2
set_option maxRecDepth 4000
set_option maxHeartbeats 1000000
set_option linter.unusedVariables false
set_option linter.unusedSimpArgs false
set_option linter.unusedSectionVars false
namespace Go.Proofs.YtkidpkmpnbibmaaGreatDoor
open Go.AM Tryz
def qCz (c:Code) (l:List Item):Nat->bE->Int->Option ((bE))
 |0,_,_=>none
 |d+1,b,a =>
  cond (decide (a<=8))
   ((qKA c l a).bind fun e =>
   cond (!e)
    ((qAl (qAg 8 (b.length+([a]).length))).bind fun f =>
    qCz c l d (b++[a]) (w64 (a+1)))
    (qCz c l d b (w64 (a+1))))
   (some b)
def qHm (a8:Nat) (c:Code) (l:List Item):Option bE :=
 qCz c l a8 [] 1
theorem qPF (a8:Nat) (c:Code) (l:List Item) (r:(bE)) (J:qHm a8 c l=some r):qAC prog 130 [.g (ze4 c),.s (List.map ze2 l)] (.w 1 (r.map ze0)):=by
 refine fns T func130 ?_
 refine go ?_
 refine AO.x (bxs T 1) (go ?_)
 refine AW.loopS (fun s:Nat×bE×Int=>(⟨[(1,sv ze2 l),(2,.p 1 0),(5,.R 5),(6,s.2.2)],[(1,.box (ze4 c)),(5,ro 1 ze0 s.2.1)],21,[]⟩:St)) (fun s=>qCz c l s.1 s.2.1 s.2.2=some r) (fun s=>s.1) (a8,[],1) J ?_ ?_
 refine Le.trans (Le.void 5 5 1 rfl rfl) ?_
 exact Le.ct 0 0
 rintro⟨b,d,a⟩ J
 try dsimp only at J⊢
 rcases b with _|b
 cases (show none=some _ from J)
 rw[qCz]at J
 refine go ?_
 refine AW.cH J (fun hc J=>?_) (fun _ J=>?_)
 refine go ?_
 obtain⟨h,e,J⟩:=zB J
 refine go ?_
 refine AO.w (cVs (qPj _ _ _ _ (e))) (go ?_)
 refine AW.cH J (fun _ J=>?_) (fun hc J=>?_)
 obtain⟨i,f,J⟩:=zB J
 refine go ?_
 refine AO.x (mks T 6 ze0 ([a])) ?_
 refine AO.x (rvs T 7 (hfit:=by exact qAJ (f))) (go ?_)
 refine⟨(b,(d++[a]),w64 (a+1)),J,Nat.lt_succ_self _,?_⟩
 exact Le.ct 7 5
 refine go ?_
 refine⟨(b,d,w64 (a+1)),J,Nat.lt_succ_self _,?_⟩
 exact Le.ct 0 0
 refine go ?_
 exact fin
def qDo (a8:Nat) (n:Int):Option bD :=
 cond (decide (n<0))
  ((qBQ a8 a8 (w64 (-n))).bind fun a =>
  (qAl (Nat.ble ((bz [45]).size+a.size) qDF)).bind fun c =>
  some ((bz [45])++a))
  ((qBQ a8 a8 n).bind fun b =>
  some b)
theorem qIE (a8:Nat) (n:Int) (r:bD) (J:qDo a8 n=some r):qAC prog 131 [n] (.v (.string r)):=by
 refine fns T func131 ?_
 refine go ?_
 refine AW.cH J (fun _ J=>?_) (fun _ J=>?_)
 refine AW.q ?_
 obtain⟨d,a,e,b,J⟩:=qAE J
 refine go ?_
 refine AO.w (qPr rfl rfl) ?_
 refine AO.w (cVs (qF0 a8 a8 _ _ (a))) ?_
 refine AO.w (qAP rfl rfl rfl (Nat.le_of_ble_eq_true (qAJ (b)))) (go ?_)
 exact fin
 refine go ?_
 obtain⟨f,c,J⟩:=zB J
 refine go ?_
 refine AO.w (cVs (qF0 a8 a8 _ _ (c))) (go ?_)
 exact fin
def qCM (a8:Nat):bE->Nat->bD->Option bD
 | [],b,a =>
  cond (decide (a=(⟨#[]⟩:bD)))
   (some (bz [110,111,110,101]))
   (some a)
 |f::c,b,a =>
  cond (decide ((b:Int)>0))
   ((qAl (Nat.ble (a.size+(bz [32]).size) qDF)).bind fun g =>
   (qDo a8 f).bind fun d =>
   (qAl (Nat.ble ((a++(bz [32])).size+d.size) qDF)).bind fun h =>
   qCM a8 c (b+1) ((a++(bz [32]))++d))
   ((qDo a8 f).bind fun e =>
   (qAl (Nat.ble (a.size+e.size) qDF)).bind fun i =>
   qCM a8 c (b+1) (a++e))
def qBN (a8:Nat) (l:bE):Option bD :=
 qCM a8 l 0 (⟨#[]⟩:bD)
theorem qGV (a8:Nat) (l:bE) (r:bD) (J:qBN a8 l=some r):qAC prog 129 [.s (List.map ze0 l)] (.v (.string r)):=by
 refine fns T func129 ?_
 refine go ?_
 refine AW.loopS (fun s:Nat×bD=>(⟨[(3,.v (.string s.2)),(6,sv ze0 l),(7,(l.length:Int)),(8,(s.1:Int))],[],25,[]⟩:St)) (fun s=>s.1<=l.length/\qCM a8 (l.drop s.1) s.1 s.2=some r) (fun s=>l.length-s.1) (0,(⟨#[]⟩:bD)) ⟨Nat.zero_le _,J⟩ ?_ ?_
 exact Le.ct 0 0
 rintro⟨d,c⟩ ⟨x,J⟩
 try dsimp only at J⊢
 refine AW.boundM (t:=6) (l:=l) rfl (fun n=>?_)
 rcases b:l.drop d with _|⟨y,o⟩
 rw[b,qCM]at J
 have a:=qAG b
 refine go ?_
 refine Cf J fun _ J=>?_
 refine go ?_
 exact fin
 rw[b,qCM]at J
 have a:=qAF b
 refine go ?_
 refine AW.cH J (fun _ J=>?_) (fun _ J=>?_)
 obtain⟨p,e,J⟩:=zB J
 refine go ?_
 refine AO.w (qAP rfl rfl rfl (Nat.le_of_ble_eq_true (qAJ (e)))) (go ?_)
 obtain⟨j,f,q,g,J⟩:=qAE J
 refine go ?_
 refine AO.w (cVs (qIE a8 _ _ (f))) ?_
 refine AO.w (qAP rfl rfl rfl (Nat.le_of_ble_eq_true (qAJ (g)))) (go ?_)
 refine⟨(d+1,((c++(bz [32]))++j)),⟨a,(zds b▸J)⟩,qBm a,?_⟩
 exact Le.ct 0 0
 refine AW.k ?_
 obtain⟨m,h,u,i,J⟩:=qAE J
 refine go ?_
 refine AO.w (cVs (qIE a8 _ _ (h))) ?_
 refine AO.w (qAP rfl rfl rfl (Nat.le_of_ble_eq_true (qAJ (i)))) (go ?_)
 refine⟨(d+1,(c++m)),⟨a,(zds b▸J)⟩,qBm a,?_⟩
 exact Le.ct 0 0
def qG8 (c:Code) (name:bD) (mark:Int):Option Int :=
 (qGq c name).bind fun b =>
 cond (decide (b<0))
  (some (-1))
  ((qAV c.ad b).bind fun a =>
  cond (mark==1)
   ((qAl (100 != 0)).bind fun d =>
   some (w64 ((w64 (a.aG*c.au)).tdiv 100)))
   (cond (mark==2)
    ((qAl (10 != 0)).bind fun e =>
    some (w64 ((w64 (a.aG*9)).tdiv 10)))
    (cond (mark==3)
     (some 0)
     (some a.aG))))
theorem qMF (c:Code) (name:bD) (mark:Int) (r:Int) (J:qG8 c name mark=some r):qAC prog 309 [.g (ze4 c),.v (.string name),mark] (.v (.int .i64 r)):=by
 refine fns T func309 ?_
 refine go ?_
 refine AO.x (bxs T 1) (go ?_)
 obtain⟨h,b,J⟩:=zB J
 refine go ?_
 refine AO.w (cVs (qIY _ _ _ (b))) (go ?_)
 refine Cf J fun hc J=>?_
 refine go ?_
 obtain⟨a,f,J⟩:=zB J
 refine go ?_
 refine AW.cH J (fun _ J=>?_) (fun hc J=>?_)
 refine AW.q ?_
 obtain⟨i,d,J⟩:=zB J
 refine go ?_
 refine AO.w (qHt rfl rfl rfl (neZ (qAJ (d)))) ?_
 refine gs2 ?_
 refine AW.le (Le.ct 0 0 (σ':=(⟨[(6,w64 ((w64 (a.aG*c.au)).tdiv 100))],[],36,[]⟩:St))) ?_
 refine AW.t ?_
 exact fin
 refine go ?_
 refine AW.cH J (fun _ J=>?_) (fun hc J=>?_)
 refine AW.q ?_
 obtain⟨j,e,J⟩:=zB J
 refine go ?_
 refine AO.w (qHt rfl rfl rfl (neZ (qAJ (e)))) ?_
 refine gs2 ?_
 refine AW.le (Le.ct 0 0 (σ':=(⟨[(6,w64 ((w64 (a.aG*9)).tdiv 10))],[],36,[]⟩:St))) ?_
 refine AW.t ?_
 exact fin
 refine go ?_
 refine Cf J fun _ J=>?_
 refine gs6 ?_
 refine AW.le (Le.ct 0 0 (σ':=(⟨[(6,a.aG)],[],36,[]⟩:St))) ?_
 refine AW.t ?_
 exact fin
def qJD (a:Int) (b:Int):Option Int :=
 (qAl (b != 0)).bind fun c =>
 cond (decide ((a.tmod b)<0))
  (some (w64 ((w64 (a.tdiv b))-1)))
  (some (w64 (a.tdiv b)))
theorem qQX (a:Int) (b:Int) (r:Int) (J:qJD a b=some r):qAC prog 306 [a,b] (.v (.int .i64 r)):=by
 refine fns T func306 ?_
 refine go ?_
 obtain⟨d,c,J⟩:=zB J
 refine go ?_
 refine AO.w (qHt rfl rfl rfl (neZ (qAJ (c)))) (go ?_)
 refine AO.w (qP7 rfl rfl rfl (neZ (qAJ (c)))) (go ?_)
 refine Cf J fun _ J=>?_
 refine go ?_
 exact fin
def qEK (a:Int) (b:Int):Option Int :=
 (qJD (w64 ((w64 (2*a))+b)) (w64 (2*b))).bind fun c =>
 some c
theorem qHr (a:Int) (b:Int) (r:Int) (J:qEK a b=some r):qAC prog 255 [a,b] (.v (.int .i64 r)):=by
 refine fns T func255 ?_
 refine go ?_
 obtain⟨d,c,J⟩:=zB J
 refine go ?_
 refine AO.w (cVs (qQX _ _ _ (c))) (go ?_)
 exact fin
def qCN (c:Code) (it:Item):List bD->Nat->Int->Option Int
 | [],b,a =>
  cond it.aB
   ((qEK (w64 (a*(w64 (100+c.av)))) 100).bind fun d =>
   some d)
   (some a)
 |h::e,b,a =>
  (qAV it.ae (b:Int)).bind fun f =>
  (qG8 c h f).bind fun g =>
  qCN c it e (b+1) (w64 (a+g))
def qJH (c:Code) (it:Item):Option Int :=
 qCN c it it.aj 0 0
theorem qQU (c:Code) (it:Item) (r:Int) (J:qJH c it=some r):qAC prog 303 [.g (ze4 c),.g (ze2 it)] (.v (.int .i64 r)):=by
 refine fns T func303 ?_
 refine go ?_
 refine AO.x (bxs T 1) ?_
 refine AO.x (bxs T 2) (go ?_)
 refine AW.loopS (fun s:Nat×Int=>(⟨[(2,.p 1 0),(3,.p 2 0),(5,s.2),(9,sv ze1 it.aj),(10,(it.aj.length:Int)),(11,(s.1:Int))],[(1,.box (ze4 c)),(2,.box [sv ze1 it.aj,sv ze0 it.ae,.v (.bool it.aB)])],36,[]⟩:St)) (fun s=>s.1<=it.aj.length/\qCN c it (it.aj.drop s.1) s.1 s.2=some r) (fun s=>it.aj.length-s.1) (0,0) ⟨Nat.zero_le _,J⟩ ?_ ?_
 exact Le.ct 0 0
 rintro⟨f,h⟩ ⟨u,J⟩
 try dsimp only at J⊢
 refine AW.boundM (t:=9) (l:=it.aj) rfl (fun k=>?_)
 rcases a:it.aj.drop f with _|⟨y,m⟩
 rw[a,qCN]at J
 have b:=qAG a
 refine go ?_
 refine AW.cH J (fun _ J=>?_) (fun _ J=>?_)
 refine AW.q ?_
 obtain⟨n,d,J⟩:=zB J
 refine go ?_
 refine AO.w (cVs (qHr _ _ _ (d))) (go ?_)
 exact fin
 refine go ?_
 exact fin
 rw[a,qCN]at J
 have b:=qAF a
 refine go ?_
 obtain⟨o,j,i,e,J⟩:=qAE J
 refine AW.drawn 9 3 [] mix (by kernel_rfl) rfl ?_
 refine go ?_
 refine AD.vv (cVs (qMF _ _ _ _ (e))) ?_
 refine go ?_
 refine⟨(f+1,w64 (h+i)),⟨b,(zds a▸J)⟩,qBm b,?_⟩
 exact Le.ct 0 0
def qAz (l:List Item) (k:Int):List Item->Nat->Int->Option Int
 | [],e,a =>
  some a
 |f::b,e,a =>
  (qAV f.aj 0).bind fun c =>
  (qAV l k).bind fun g =>
  (qAV g.aj 0).bind fun d =>
  (opt (decide (c=d)) default (qAV f.ae 0)).bind fun h =>
  cond (decide (c=d)&&(h != 3))
   (qAz l k b (e+1) (w64 (a+1)))
   (qAz l k b (e+1) a)
def qIm (l:List Item) (k:Int):Option Int :=
 (qFT l k).bind fun a =>
 qAz l k a 0 0
theorem qOM (l:List Item) (k:Int) (r:Int) (J:qIm l k=some r):qAC prog 304 [.s (List.map ze2 l),k] (.v (.int .i64 r)):=by
 refine fns T func304 ?_
 refine go ?_
 obtain⟨c,h,J⟩:=zB J
 refine go ?_
 refine AO.w (qDv T rfl rfl rfl rfl rfl (h) (fun _=>rfl)) (go ?_)
 refine AW.loopS (fun s:Nat×Int=>(⟨[(0,sv ze2 l),(1,k),(5,s.2),(10,sv ze2 c),(11,(c.length:Int)),(12,(s.1:Int))],[],39,[]⟩:St)) (fun s=>s.1<=c.length/\qAz l k (c.drop s.1) s.1 s.2=some r) (fun s=>c.length-s.1) (0,0) ⟨Nat.zero_le _,J⟩ ?_ ?_
 exact Le.ct 0 0
 rintro⟨e,d⟩ ⟨z,J⟩
 try dsimp only at J⊢
 refine AW.boundM (t:=10) (l:=c) rfl (fun q=>?_)
 rcases b:c.drop e with _|⟨f,u⟩
 rw[b,qAz]at J
 have a:=qAG b
 refine go ?_
 exact fin
 rw[b,qAz]at J
 have a:=qAF b
 refine go ?_
 refine AO.x (als T 3) ?_
 refine AO.se T [sv ze1 f.aj,sv ze0 f.ae,.v (.bool f.aB)] ?_
 refine go ?_
 obtain⟨i,n,y,o,j,p,J⟩:=qAq J
 obtain⟨m,g,J⟩:=zB J
 refine AW.drawn 11 4 [] mix (by kernel_rfl) rfl ?_
 refine go ?_
 refine AO.g0 T ?_
 refine AO.g1 T 29 ?_
 refine AO.d1 30 (fun hg=>ixs T (qD7 g hg)) ?_
 refine AO.g1 T 31 ?_
 refine AO.g1 T 32 ?_
 refine gs2 ?_
 refine AW.le (Le.ct 0 0 (σ':=(⟨[(0,sv ze2 l),(1,k),(5,d),(10,sv ze2 c),(11,(c.length:Int)),(12,(e:Int)),(34,.v (.bool (decide (i=j)&&(m != 3))))],[],39,[]⟩:St))) ?_
 refine AW.cH J (fun _ J=>?_) (fun _ J=>?_)
 refine go ?_
 refine⟨(e+1,w64 (d+1)),⟨a,(zds b▸J)⟩,qBm a,?_⟩
 exact Le.ct 0 0
 refine go ?_
 refine⟨(e+1,d),⟨a,(zds b▸J)⟩,qBm a,?_⟩
 exact Le.ct 0 0
def qEz (c:Code) (l:List Item) (k:Int):Option Int :=
 (qAV l k).bind fun d =>
 (qJH c d).bind fun a =>
 (qIm l k).bind fun b =>
 cond (decide (b<c.aq))
  (some a)
  (cond (b==c.aq)
   ((qAl (10 != 0)).bind fun e =>
   some (w64 ((w64 (a*7)).tdiv 10)))
   (some 0))
theorem qIe (c:Code) (l:List Item) (k:Int) (r:Int) (J:qEz c l k=some r):qAC prog 253 [.g (ze4 c),.s (List.map ze2 l),k] (.v (.int .i64 r)):=by
 refine fns T func253 ?_
 refine go ?_
 refine AO.x (bxs T 1) (go ?_)
 obtain⟨h,f,e,a,J⟩:=qAE J
 refine AW.drawn 5 2 [] mix (by kernel_rfl) rfl ?_
 refine go ?_
 refine AO.w (cVs (qQU _ _ _ (a))) (go ?_)
 obtain⟨i,b,J⟩:=zB J
 refine go ?_
 refine AO.w (cVs (qOM _ _ _ (b))) (go ?_)
 refine Cf J fun hc J=>?_
 refine go ?_
 refine AW.cH J (fun _ J=>?_) (fun _ J=>?_)
 refine AW.q ?_
 obtain⟨j,d,J⟩:=zB J
 refine go ?_
 refine AO.w (qHt rfl rfl rfl (neZ (qAJ (d)))) ?_
 refine gs2 ?_
 refine AW.le (Le.ct 0 0 (σ':=(⟨[(6,w64 ((w64 (e*7)).tdiv 10))],[],32,[]⟩:St))) ?_
 refine AW.t ?_
 exact fin
 refine gs5 ?_
 refine AW.le (Le.ct 0 0 (σ':=(⟨[(6,(0:Int))],[],32,[]⟩:St))) ?_
 refine AW.t ?_
 exact fin
def qE0 (c:Code) (l:List Item):List Item->Nat->bE->Option ((bE))
 | [],d,a =>
  some a
 |g::e,d,a =>
  (qEz c l (d:Int)).bind fun b =>
  (qAl (qAg 8 (a.length+([b]).length))).bind fun f =>
  qE0 c l e (d+1) (a++[b])
def qLe (c:Code) (l:List Item):Option bE :=
 qE0 c l l 0 []
theorem qRr (c:Code) (l:List Item) (r:(bE)) (J:qLe c l=some r):qAC prog 188 [.g (ze4 c),.s (List.map ze2 l)] (.w 1 (r.map ze0)):=by
 refine fns T func188 ?_
 refine go ?_
 refine AO.x (bxs T 1) (go ?_)
 refine AW.loopS (fun s:Nat×(bE)=>(⟨[(1,sv ze2 l),(2,.p 1 0),(5,.R 5),(8,(l.length:Int)),(9,(s.1:Int))],[(1,.box (ze4 c)),(5,ro 1 ze0 s.2)],21,[]⟩:St)) (fun s=>s.1<=l.length/\qE0 c l (l.drop s.1) s.1 s.2=some r) (fun s=>l.length-s.1) (0,[]) ⟨Nat.zero_le _,J⟩ ?_ ?_
 refine Le.trans (Le.void 5 5 1 rfl rfl) ?_
 exact Le.ct 0 0
 rintro⟨h,i⟩ ⟨n,J⟩
 try dsimp only at J⊢
 refine AW.boundM (t:=1) (l:=l) rfl (fun j=>?_)
 rcases a:l.drop h with _|⟨o,k⟩
 rw[a,qE0]at J
 have b:=qAG a
 refine go ?_
 exact fin
 rw[a,qE0]at J
 have b:=qAF a
 refine go ?_
 obtain⟨d,e,m,f,J⟩:=qAE J
 refine go ?_
 refine AO.w (cVs (qIe _ _ _ _ (e))) ?_
 refine AO.x (mks T 6 ze0 ([d])) ?_
 refine AO.x (rvs T 7 (hfit:=by exact qAJ (f))) (go ?_)
 refine⟨(h+1,(i++[d])),⟨b,(zds a▸J)⟩,qBm b,?_⟩
 exact Le.ct 7 5
def qCj:bE->Nat->Int->Option Int
 | [],b,a =>
  some a
 |d::c,b,a =>
  qCj c (b+1) (w64 (a+d))
def qDA (l:bE):Option Int :=
 qCj l 0 0
theorem qGr (l:bE) (r:Int) (J:qDA l=some r):qAC prog 187 [.s (List.map ze0 l)] (.v (.int .i64 r)):=by
 refine fns T func187 ?_
 refine go ?_
 refine AW.loopS (fun s:Nat×Int=>(⟨[(3,s.2),(6,sv ze0 l),(7,(l.length:Int)),(8,(s.1:Int))],[],17,[]⟩:St)) (fun s=>s.1<=l.length/\qCj (l.drop s.1) s.1 s.2=some r) (fun s=>l.length-s.1) (0,0) ⟨Nat.zero_le _,J⟩ ?_ ?_
 exact Le.ct 0 0
 rintro⟨c,d⟩ ⟨h,J⟩
 try dsimp only at J⊢
 refine AW.boundM (t:=6) (l:=l) rfl (fun f=>?_)
 rcases a:l.drop c with _|⟨e,g⟩
 rw[a,qCj]at J
 have b:=qAG a
 refine go ?_
 exact fin
 rw[a,qCj]at J
 have b:=qAF a
 refine go ?_
 refine⟨(c+1,w64 (d+e)),⟨b,(zds a▸J)⟩,qBm b,?_⟩
 exact Le.ct 0 0
def qHj (c:Code) (l:List Item):Option Int :=
 (qLe c l).bind fun a =>
 (qDA a).bind fun b =>
 some b
theorem qQY (c:Code) (l:List Item) (r:Int) (J:qHj c l=some r):qAC prog 132 [.g (ze4 c),.s (List.map ze2 l)] (.v (.int .i64 r)):=by
 refine fns T func132 ?_
 refine go ?_
 refine AO.x (bxs T 1) (go ?_)
 obtain⟨d,a,e,b,J⟩:=qAE J
 refine go ?_
 refine AO.x (qAO rfl 2 rfl rfl rfl (qRr _ _ _ (a)) rfl rfl rfl) ?_
 refine AO.w (zLV rfl rfl rfl (es:=[sv ze0 d]) ⟨(.rowR rfl (.map fun y=>.vs rfl)),trivial⟩ (qGr _ _ (b)) (qAj _) rfl) (go ?_)
 exact fin
def qD3 (e:Int) (b:bE):Nat->Int->Option Int
 |0,_=>none
 |c+1,a =>
  (opt (decide (a>0)) default (qAV b (w64 (a-1)))).bind fun d =>
  cond (decide (a>0)&&decide (d<e))
   (qD3 e b c (w64 (a-1)))
   (some a)
def qC9 (a8:Nat):bE->Nat->bE->Option ((bE))
 | [],g,a =>
  some a
 |e::h,g,a =>
  ((qD3 e a a8 (a.length:Int)).bind fun c =>
  (qFT a c).bind fun b =>
  (qAl (qAg 8 b.length)).bind fun i =>
  (qAl (qAg 8 (b.length+([e]).length))).bind fun j =>
  (qCq a c).bind fun d =>
  (qAl (qAg 8 (((b++[e])).length+d.length))).bind fun k =>
  some ((b++[e])++d)).bind fun f =>
  qC9 a8 h (g+1) f
def qJY (a8:Nat) (l:bE):Option bE :=
 qC9 a8 l 0 []
theorem qPC (a8:Nat) (l:bE) (r:(bE)) (J:qJY a8 l=some r):qAC prog 360 [.s (List.map ze0 l)] (.w 1 (r.map ze0)):=by
 refine fns T func360 ?_
 iterate 16 refine gs ?_
 refine AW.loopS (fun s:Nat×(bE)=>(⟨[(3,.R 12),(7,sv ze0 l),(8,(l.length:Int)),(9,(s.1:Int))],[(12,ro 1 ze0 s.2)],42,[]⟩:St)) (fun s=>s.1<=l.length/\qC9 a8 (l.drop s.1) s.1 s.2=some r) (fun s=>l.length-s.1) (0,[]) ⟨Nat.zero_le _,J⟩ ?_ ?_
 refine Le.trans (Le.void 3 12 1 rfl rfl) ?_
 exact Le.ct 0 0
 rintro⟨i,a⟩ ⟨P,J⟩
 try dsimp only at J⊢
 refine AW.boundM (t:=7) (l:=l) rfl (fun N=>?_)
 rcases c:l.drop i with _|⟨k,O⟩
 rw[c,qC9]at J
 have d:=qAG c
 iterate 13 refine gs ?_
 exact fin
 rw[c,qC9]at J
 have d:=qAF c
 refine gs7 ?_
 obtain⟨B,J,m⟩:=zB J
 refine AW.seqJ (fun s:bE=>(⟨[(3,.R 20),(7,sv ze0 l),(8,(l.length:Int)),(9,(i:Int))],[(20,ro 1 ze0 s)],42,[]⟩:St)) (fun s=>s=B) ?_ ?_
 iterate 13 refine gs ?_
 obtain⟨j,J,n⟩:=zB J
 refine AW.seqJ (fun s:Int=>(⟨[(3,.R 12),(5,k),(6,s),(7,sv ze0 l),(8,(l.length:Int)),(9,(i:Int))],[(12,ro 1 ze0 a)],42,[]⟩:St)) (fun s=>s=j) ?_ ?_
 refine AW.b (AW.loopS (fun s:Nat×Int=>(⟨[(3,.R 12),(5,k),(6,s.2),(7,sv ze0 l),(8,(l.length:Int)),(9,(i:Int))],[(12,ro 1 ze0 a)],42,[]⟩:St)) (fun s=>qD3 k a s.1 s.2=some j) (fun s=>s.1) (a8,(a.length:Int)) J ?_ ?_)
 exact Le.ct 0 0
 rintro⟨e,C⟩ J
 try dsimp only at J⊢
 rcases e with _|e
 cases (show none=some _ from J)
 rw[qD3]at J
 refine gs2 ?_
 obtain⟨F,h,J⟩:=zB J
 refine gs4 ?_
 refine AO.g0 T ?_
 refine AO.g0 T ?_
 refine AO.d1 19 (fun hg=>aws) ?_
 refine AO.d2 18 20 (fun hg=>zXr T rfl rfl rfl rfl rfl rfl (qD7 h hg)) ?_
 refine AO.d1 21 (fun hg=>zLr T rfl rfl rfl rfl (zgG (qD7 h hg)) rfl rfl rfl) ?_
 refine AO.g0 T ?_
 refine AO.g2 T 22 23 ?_
 refine gs2 ?_
 refine AW.cH J (fun _ J=>?_) (fun _ J=>?_)
 refine gs7 ?_
 refine⟨(e,w64 (C-1)),J,Nat.lt_succ_self _,?_⟩
 exact Le.ct 0 0
 refine AW.exit ?_
 refine⟨_,zS J,?_⟩
 exact Le.ct 0 0
 rintro G hs
 subst hs
 replace J:=n
 try dsimp only[qKL,qIN]at J
 try dsimp only
 obtain⟨H,o,I,p,K,u,J⟩:=qAq J
 obtain⟨L,z,M,A,J⟩:=qAE J
 refine AW.le (Le.fM 12 (g:=ze0) rfl (fun y=>.vs rfl)) ?_
 refine AW.drawn 11 21 [] mix (by kernel_rfl) rfl ?_
 refine AD.v (FStep.mk0 T rfl rfl rfl rfl rfl) ?_
 refine gs2 ?_
 refine AD.vv (qDv T rfl rfl rfl rfl rfl (o) (fun _=>rfl)) ?_
 refine AD.q (FStep.app_ws T rfl rfl rfl rfl rfl rfl rfl (by decide) (by decide) rfl rfl (fun _=>rfl) (qAJ (p)) rfl) (by simp[qA1]) (Nat.le_succ _) rfl ?_
 refine AD.pu T ?_
 refine AD.q (FStep.mk T (f:=ze0) (l:=[k]) rfl rfl rfl rfl rfl rfl rfl rfl rfl (fun _=>rfl) rfl rfl rfl rfl) (by simp[qA1]) (Nat.le_succ _) rfl ?_
 refine AD.kk (FStep.app_rv T rfl rfl rfl rfl rfl rfl rfl (by decide) rfl rfl rfl rfl (fun _=>rfl) (qAJ (u)) rfl) ?_
 refine gs2 ?_
 refine AD.vv (qCg T rfl rfl rfl rfl rfl (z) (fun _=>rfl)) ?_
 refine AD.nil (AO.x (qOb T rfl 24 rfl rfl rfl rfl rfl (by decide) (by decide) rfl rfl rfl (fun _=>rfl) (qAJ (A)) rfl rfl) ?_)
 refine gs2 ?_
 refine⟨_,zS J,?_⟩
 exact Le.ct 24 20
 rintro E hs
 subst hs
 replace J:=m
 try dsimp only[qKL,qIN]at J
 try dsimp only
 refine gs4 ?_
 refine⟨(i+1,E),⟨d,(zds c▸J)⟩,qBm d,?_⟩
 exact Le.ct 20 12
def qHn (a8:Nat) (l:bE):Option (Int×Int) :=
 (qDA l).bind fun b =>
 cond (decide ((l.length:Int)<5))
  (some (b,(l.length:Int)))
  ((qJY a8 l).bind fun a =>
  (qAV a 0).bind fun c =>
  (qAV a (w64 ((a.length:Int)-1))).bind fun d =>
  some (w64 ((w64 (b-c))-d),w64 ((l.length:Int)-2)))
theorem qMn (a8:Nat) (l:bE) (r:(Int×Int)) (J:qHn a8 l=some r):qAC prog 356 [.s (List.map ze0 l)] (.t [.v (.int .i64 r.1),.v (.int .i64 r.2)]):=by
 refine fns T func356 ?_
 refine gs6 ?_
 obtain⟨e,c,J⟩:=zB J
 refine gs2 ?_
 refine AO.w (cVs (qGr _ _ (c))) ?_
 refine gs9 ?_
 refine Cf J fun _ J=>?_
 refine gs2 ?_
 obtain⟨h,d,J⟩:=zB J
 refine gs2 ?_
 refine AO.x (qAO rfl 1 rfl rfl rfl (qPC a8 _ _ (d)) rfl rfl rfl) ?_
 refine gs3 ?_
 obtain⟨f,a,g,b,J⟩:=qAE J
 refine AW.drawn 16 2 [] mix (by kernel_rfl) rfl ?_
 refine gs2 ?_
 refine AD.vv (ixr T (a)) ?_
 refine AD.vv (zLr T rfl rfl rfl rfl (zgG (a)) rfl rfl rfl) ?_
 refine AD.vv aws ?_
 refine gs2 ?_
 refine AD.vv (qZF T) ?_
 refine AD.vv aws ?_
 refine AD.vv (ixr T (b)) ?_
 refine AD.vv (zLr T rfl rfl rfl rfl (zgG (b)) rfl rfl rfl) ?_
 refine AD.vv aws ?_
 refine gs2 ?_
 refine AD.vv aws ?_
 refine gs4 ?_
 refine AW.le (Le.ct 0 0 (σ':=(⟨[(2,w64 ((w64 (e-f))-g)),(3,w64 ((l.length:Int)-2))],[],31,[]⟩:St))) ?_
 refine AW.t ?_
 exact fin
def qF1 (a:Int) (b:Int):Option Int :=
 cond (decide (a>b))
  (some a)
  (some b)
theorem qMt (a:Int) (b:Int) (r:Int) (J:qF1 a b=some r):qAC prog 192 [a,b] (.v (.int .i64 r)):=by
 refine fns T func192 ?_
 refine go ?_
 refine Cf J fun _ J=>?_
 refine go ?_
 exact fin
def qER (c:Code) (it:Item):List bD->Nat->Int->Option Int
 | [],b,a =>
  some a
 |h::d,b,a =>
  (qAV it.ae (b:Int)).bind fun e =>
  (qG8 c h e).bind fun f =>
  (qF1 a f).bind fun g =>
  qER c it d (b+1) g
def qI9 (c:Code) (it:Item):Option Int :=
 qER c it it.aj 0 0
theorem qMs (c:Code) (it:Item) (r:Int) (J:qI9 c it=some r):qAC prog 259 [.g (ze4 c),.g (ze2 it)] (.v (.int .i64 r)):=by
 refine fns T func259 ?_
 refine go ?_
 refine AO.x (bxs T 1) ?_
 refine AO.x (bxs T 2) (go ?_)
 refine AW.loopS (fun s:Nat×Int=>(⟨[(2,.p 1 0),(3,.p 2 0),(5,s.2),(9,sv ze1 it.aj),(10,(it.aj.length:Int)),(11,(s.1:Int))],[(1,.box (ze4 c)),(2,.box [sv ze1 it.aj,sv ze0 it.ae,.v (.bool it.aB)])],28,[]⟩:St)) (fun s=>s.1<=it.aj.length/\qER c it (it.aj.drop s.1) s.1 s.2=some r) (fun s=>it.aj.length-s.1) (0,0) ⟨Nat.zero_le _,J⟩ ?_ ?_
 exact Le.ct 0 0
 rintro⟨f,j⟩ ⟨q,J⟩
 try dsimp only at J⊢
 refine AW.boundM (t:=9) (l:=it.aj) rfl (fun k=>?_)
 rcases a:it.aj.drop f with _|⟨u,m⟩
 rw[a,qER]at J
 have b:=qAG a
 refine go ?_
 exact fin
 rw[a,qER]at J
 have b:=qAF a
 refine go ?_
 obtain⟨n,i,o,d,h,e,J⟩:=qAq J
 refine AW.drawn 9 3 [] mix (by kernel_rfl) rfl ?_
 refine go ?_
 refine AD.vv (cVs (qMF _ _ _ _ (d))) ?_
 refine AD.nil (AO.w (cVs (qMt _ _ _ (e))) (go ?_))
 refine⟨(f+1,h),⟨b,(zds a▸J)⟩,qBm b,?_⟩
 exact Le.ct 0 0
def qH5 (a8:Nat) (c:Code) (l:List Item) (k:Int) (grades:bE):Option Int :=
 (qEz c l k).bind fun b =>
 cond (b==0)
  (some 0)
  ((qHn a8 grades).bind fun a =>
  (qAV l k).bind fun d =>
  (qI9 c d).bind fun e =>
  (qEK (w64 (a.1*e)) (w64 (10*a.2))).bind fun f =>
  some f)
theorem qO4 (a8:Nat) (c:Code) (l:List Item) (k:Int) (grades:bE) (r:Int) (J:qH5 a8 c l k grades=some r):qAC prog 355 [.g (ze4 c),.s (List.map ze2 l),k,.s (List.map ze0 grades)] (.v (.int .i64 r)):=by
 refine fns T func355 ?_
 refine go ?_
 refine AO.x (bxs T 1) (go ?_)
 obtain⟨i,b,J⟩:=zB J
 refine go ?_
 refine AO.w (cVs (qIe _ _ _ _ (b))) (go ?_)
 refine Cf J fun _ J=>?_
 refine go ?_
 obtain⟨j,d,J⟩:=zB J
 refine go ?_
 refine AO.w (cVs (qMn a8 _ _ (d))) (go ?_)
 obtain⟨m,h,n,e,f,a,J⟩:=qAq J
 refine AW.drawn 10 2 [] mix (by kernel_rfl) rfl ?_
 refine go ?_
 refine AD.vv (cVs (qMs _ _ _ (e))) ?_
 refine AD.vv aws ?_
 refine AD.pu T ?_
 refine AD.vv aws ?_
 refine AD.nil (AO.w (cVs (qHr _ _ _ (a))) ?_)
 refine gs2 ?_
 refine AW.le (Le.ct 0 0 (σ':=(⟨[(8,f)],[],32,[]⟩:St))) ?_
 refine AW.t ?_
 exact fin
def qNB (a8:Nat) (c:Code) (l:List Item) (k:Int) (grades:bE):Option Int :=
 (qEz c l k).bind fun a =>
 (qH5 a8 c l k grades).bind fun b =>
 some (w64 (a+b))
theorem qR1 (a8:Nat) (c:Code) (l:List Item) (k:Int) (grades:bE) (r:Int) (J:qNB a8 c l k grades=some r):qAC prog 339 [.g (ze4 c),.s (List.map ze2 l),k,.s (List.map ze0 grades)] (.v (.int .i64 r)):=by
 refine fns T func339 ?_
 refine go ?_
 refine AO.x (bxs T 1) (go ?_)
 obtain⟨d,a,e,b,J⟩:=qAE J
 refine AW.drawn 8 2 [] mix (by kernel_rfl) rfl ?_
 refine go ?_
 refine AD.vv (cVs (qIe _ _ _ _ (a))) ?_
 refine go ?_
 refine AO.w (cVs (qO4 a8 _ _ _ _ _ (b))) (go ?_)
 exact fin
def qJ6 (a8:Nat) (c:Code) (l:List Item) (m:Marks) (k:Int):Option Int :=
 (qAV m.ah k).bind fun a =>
 (qNB a8 c l k a).bind fun b =>
 some b
theorem qPs (a8:Nat) (c:Code) (l:List Item) (m:Marks) (k:Int) (r:Int) (J:qJ6 a8 c l m k=some r):qAC prog 305 [.g (ze4 c),.s (List.map ze2 l),.g (qJb m),k] (.v (.int .i64 r)):=by
 refine fns T func305 ?_
 refine go ?_
 refine AO.x (bxs T 1) ?_
 refine AO.x (bxs T 2) (go ?_)
 obtain⟨d,b,e,a,J⟩:=qAE J
 refine AW.drawn 8 3 [] mix (by kernel_rfl) rfl ?_
 refine go ?_
 refine AO.w (cVs (qR1 a8 _ _ _ _ _ (a))) (go ?_)
 exact fin
def qC1 (c:Code) (l:List Item) (m:Marks) (a8:Nat):List Item->Nat->bE->Option ((bE))
 | [],d,a =>
  some a
 |g::e,d,a =>
  (qJ6 a8 c l m (d:Int)).bind fun b =>
  (qAl (qAg 8 (a.length+([b]).length))).bind fun f =>
  qC1 c l m a8 e (d+1) (a++[b])
def qJh (a8:Nat) (c:Code) (l:List Item) (m:Marks):Option bE :=
 qC1 c l m a8 l 0 []
theorem qPH (a8:Nat) (c:Code) (l:List Item) (m:Marks) (r:(bE)) (J:qJh a8 c l m=some r):qAC prog 254 [.g (ze4 c),.s (List.map ze2 l),.g (qJb m)] (.w 1 (r.map ze0)):=by
 refine fns T func254 ?_
 refine go ?_
 refine AO.x (bxs T 1) ?_
 refine AO.x (bxs T 2) (go ?_)
 refine AW.loopS (fun s:Nat×(bE)=>(⟨[(1,sv ze2 l),(3,.p 1 0),(5,.p 2 0),(7,.R 6),(10,(l.length:Int)),(11,(s.1:Int))],[(1,.box (ze4 c)),(2,.box [sv ze3 m.ah,sv ze3 m.ac]),(6,ro 1 ze0 s.2)],24,[]⟩:St)) (fun s=>s.1<=l.length/\qC1 c l m a8 (l.drop s.1) s.1 s.2=some r) (fun s=>l.length-s.1) (0,[]) ⟨Nat.zero_le _,J⟩ ?_ ?_
 refine Le.trans (Le.void 7 6 1 rfl rfl) ?_
 exact Le.ct 0 0
 rintro⟨h,i⟩ ⟨o,J⟩
 try dsimp only at J⊢
 refine AW.boundM (t:=1) (l:=l) rfl (fun j=>?_)
 rcases a:l.drop h with _|⟨q,k⟩
 rw[a,qC1]at J
 have b:=qAG a
 refine go ?_
 exact fin
 rw[a,qC1]at J
 have b:=qAF a
 refine go ?_
 obtain⟨d,e,n,f,J⟩:=qAE J
 refine go ?_
 refine AO.w (cVs (qPs a8 _ _ _ _ _ (e))) ?_
 refine AO.x (mks T 7 ze0 ([d])) ?_
 refine AO.x (rvs T 8 (hfit:=by exact qAJ (f))) (go ?_)
 refine⟨(h+1,(i++[d])),⟨b,(zds a▸J)⟩,qBm b,?_⟩
 exact Le.ct 8 6
def qHh (a8:Nat) (c:Code) (p:Performance):Option Int :=
 (qJh a8 c p.ai p.ae).bind fun a =>
 (qDA a).bind fun b =>
 some b
theorem qMz (a8:Nat) (c:Code) (p:Performance) (r:Int) (J:qHh a8 c p=some r):qAC prog 189 [.g (ze4 c),.g (ze9 p)] (.v (.int .i64 r)):=by
 refine fns T func189 ?_
 refine go ?_
 refine AO.x (bxs T 1) ?_
 refine AO.x (bxs T 2) (go ?_)
 obtain⟨d,a,e,b,J⟩:=qAE J
 refine go ?_
 refine AO.x (qAO rfl 3 rfl rfl rfl (qPH a8 _ _ _ _ (a)) rfl rfl rfl) ?_
 refine AO.w (zLV rfl rfl rfl (es:=[sv ze0 d]) ⟨(.rowR rfl (.map fun y=>.vs rfl)),trivial⟩ (qGr _ _ (b)) (qAj _) rfl) (go ?_)
 exact fin
def qIc (a8:Nat) (m:Marks) (k:Int):Option Int :=
 (qAV m.ac k).bind fun b =>
 (qHn a8 b).bind fun a =>
 (qEK a.1 a.2).bind fun c =>
 some c
theorem qPg (a8:Nat) (m:Marks) (k:Int) (r:Int) (J:qIc a8 m k=some r):qAC prog 340 [.g (qJb m),k] (.v (.int .i64 r)):=by
 refine fns T func340 ?_
 refine go ?_
 refine AO.x (bxs T 1) (go ?_)
 obtain⟨d,c,e,a,J⟩:=qAE J
 refine go ?_
 refine AO.w (cVs (qMn a8 _ _ (a))) (go ?_)
 obtain⟨f,b,J⟩:=zB J
 refine go ?_
 refine AO.w (cVs (qHr _ _ _ (b))) (go ?_)
 exact fin
def qGy (a:Int) (b:Int):Option Int :=
 cond (decide (a<b))
  (some a)
  (some b)
theorem qLj (a:Int) (b:Int) (r:Int) (J:qGy a b=some r):qAC prog 308 [a,b] (.v (.int .i64 r)):=by
 refine fns T func308 ?_
 refine go ?_
 refine Cf J fun _ J=>?_
 refine go ?_
 exact fin
def qC8 (m:Marks) (most:Int) (a8:Nat):List bE->Nat->bE->Option ((bE))
 | [],c,a =>
  some a
 |g::d,c,a =>
  (qIc a8 m (c:Int)).bind fun e =>
  (qGy e most).bind fun b =>
  (qAl (qAg 8 (a.length+([b]).length))).bind fun f =>
  qC8 m most a8 d (c+1) (a++[b])
def qGY (a8:Nat) (m:Marks) (most:Int):Option bE :=
 qC8 m most a8 m.ac 0 []
theorem qIz (a8:Nat) (m:Marks) (most:Int) (r:(bE)) (J:qGY a8 m most=some r):qAC prog 307 [.g (qJb m),most] (.w 1 (r.map ze0)):=by
 refine fns T func307 ?_
 refine go ?_
 refine AO.x (bxs T 1) (go ?_)
 refine AW.loopS (fun s:Nat×(bE)=>(⟨[(1,most),(2,.p 1 0),(5,.R 5),(9,(m.ac.length:Int)),(10,(s.1:Int))],[(1,.box [sv ze3 m.ah,sv ze3 m.ac]),(5,ro 1 ze0 s.2)],23,[]⟩:St)) (fun s=>s.1<=m.ac.length/\qC8 m most a8 (m.ac.drop s.1) s.1 s.2=some r) (fun s=>m.ac.length-s.1) (0,[]) ⟨Nat.zero_le _,J⟩ ?_ ?_
 refine Le.trans (Le.void 5 5 1 rfl rfl) ?_
 exact Le.ct 0 0
 rintro⟨h,i⟩ ⟨t,J⟩
 try dsimp only at J⊢
 refine AW.boundBox (id:=1) (j:=1) (l:=m.ac) rfl rfl (fun k=>?_)
 rcases a:m.ac.drop h with _|⟨u,n⟩
 rw[a,qC8]at J
 have b:=qAG a
 refine go ?_
 exact fin
 rw[a,qC8]at J
 have b:=qAF a
 refine go ?_
 obtain⟨o,d,c,e,q,f,J⟩:=qAq J
 refine go ?_
 refine AO.w (cVs (qPg a8 _ _ _ (d))) ?_
 refine AO.pu T ?_
 refine AO.w (cVs (qLj _ _ _ (e))) ?_
 refine AO.x (mks T 6 ze0 ([c])) ?_
 refine AO.x (rvs T 7 (hfit:=by exact qAJ (f))) (go ?_)
 refine⟨(h+1,(i++[c])),⟨b,(zds a▸J)⟩,qBm b,?_⟩
 exact Le.ct 7 5
def qJ2 (a8:Nat) (m:Marks) (falls:Int):Option Int :=
 cond (falls==0)
  ((qGY a8 m 1000).bind fun b =>
  (qDA b).bind fun c =>
  some c)
  (cond (falls==1)
   ((qGY a8 m 950).bind fun d =>
   (qDA d).bind fun e =>
   some e)
   ((qGY a8 m 900).bind fun f =>
   (qDA f).bind fun a =>
   some a))
theorem qRZ (a8:Nat) (m:Marks) (falls:Int) (r:Int) (J:qJ2 a8 m falls=some r):qAC prog 256 [.g (qJb m),falls] (.v (.int .i64 r)):=by
 refine fns T func256 ?_
 refine go ?_
 refine AO.x (bxs T 1) (go ?_)
 refine AW.cH J (fun _ J=>?_) (fun hc J=>?_)
 refine go ?_
 obtain⟨h,c,l,d,J⟩:=qAE J
 refine go ?_
 refine AO.x (qAO rfl 2 rfl rfl rfl (qIz a8 _ _ _ (c)) rfl rfl rfl) ?_
 refine AO.w (zLV rfl rfl rfl (es:=[sv ze0 h]) ⟨(.rowR rfl (.map fun y=>.vs rfl)),trivial⟩ (qGr _ _ (d)) (qAj _) rfl) (go ?_)
 exact fin
 refine go ?_
 refine AW.cH J (fun _ J=>?_) (fun _ J=>?_)
 refine go ?_
 obtain⟨i,e,n,f,J⟩:=qAE J
 refine go ?_
 refine AO.x (qAO rfl 3 rfl rfl rfl (qIz a8 _ _ _ (e)) rfl rfl rfl) ?_
 refine AO.w (zLV rfl rfl rfl (es:=[sv ze0 i]) ⟨(.rowR rfl (.map fun y=>.vs rfl)),trivial⟩ (qGr _ _ (f)) (qAj _) rfl) (go ?_)
 exact fin
 refine go ?_
 obtain⟨j,a,k,b,J⟩:=qAE J
 refine go ?_
 refine AO.x (qAO rfl 4 rfl rfl rfl (qIz a8 _ _ _ (a)) rfl rfl rfl) ?_
 refine AO.w (zLV rfl rfl rfl (es:=[sv ze0 j]) ⟨(.rowR rfl (.map fun y=>.vs rfl)),trivial⟩ (qGr _ _ (b)) (qAj _) rfl) (go ?_)
 exact fin
def qGt (a8:Nat) (m:Marks) (factor:Int) (falls:Int):Option Int :=
 (qJ2 a8 m falls).bind fun a =>
 (qEK (w64 (a*factor)) 100).bind fun b =>
 some b
theorem qNX (a8:Nat) (m:Marks) (factor:Int) (falls:Int) (r:Int) (J:qGt a8 m factor falls=some r):qAC prog 190 [.g (qJb m),factor,falls] (.v (.int .i64 r)):=by
 refine fns T func190 ?_
 refine go ?_
 refine AO.x (bxs T 1) (go ?_)
 obtain⟨c,a,d,b,J⟩:=qAE J
 refine go ?_
 refine AO.w (cVs (qRZ a8 _ _ _ (a))) (go ?_)
 refine AO.w (cVs (qHr _ _ _ (b))) (go ?_)
 exact fin
def qEg (fall:Int) (falls:Int):Nat->Int->Int->Option Int
 |0,_,_=>none
 |d+1,b,a =>
  cond (decide (a<falls))
   ((qAl (2 != 0)).bind fun e =>
   (qGy 3 (w64 ((w64 (a.tdiv 2))+1))).bind fun c =>
   qEg fall falls d (w64 (b+(w64 (fall*c)))) (w64 (a+1)))
   (some b)
def qJ8 (a8:Nat) (fall:Int) (falls:Int):Option Int :=
 qEg fall falls a8 0 0
theorem qPf (a8:Nat) (fall:Int) (falls:Int) (r:Int) (J:qJ8 a8 fall falls=some r):qAC prog 257 [fall,falls] (.v (.int .i64 r)):=by
 refine fns T func257 ?_
 refine go ?_
 refine AW.loopS (fun s:Nat×Int×Int=>(⟨[(0,fall),(1,falls),(5,s.2.1),(6,s.2.2)],[],21,[]⟩:St)) (fun s=>qEg fall falls s.1 s.2.1 s.2.2=some r) (fun s=>s.1) (a8,0,0) J ?_ ?_
 exact Le.ct 0 0
 rintro⟨a,d,e⟩ J
 try dsimp only at J⊢
 rcases a with _|a
 cases (show none=some _ from J)
 rw[qEg]at J
 refine go ?_
 refine AW.cH J (fun _ J=>?_) (fun _ J=>?_)
 refine go ?_
 obtain⟨g,b,f,c,J⟩:=qAE J
 refine go ?_
 refine AO.w (qHt rfl rfl rfl (neZ (qAJ (b)))) ?_
 refine AO.w aws ?_
 refine AO.w (cVs (qLj _ _ _ (c))) (go ?_)
 refine⟨(a,w64 (d+(w64 (fall*f))),w64 (e+1)),J,Nat.lt_succ_self _,?_⟩
 exact Le.ct 0 0
 refine go ?_
 exact fin
def qKr (seconds:Int):Option Int :=
 (qAl (5 != 0)).bind fun a =>
 some (w64 ((w64 ((w64 (seconds+4)).tdiv 5))*100))
theorem qQZ (seconds:Int) (r:Int) (J:qKr seconds=some r):qAC prog 258 [seconds] (.v (.int .i64 r)):=by
 refine fns T func258 ?_
 refine go ?_
 obtain⟨b,a,J⟩:=zB J
 refine go ?_
 refine AO.w (qHt rfl rfl rfl (neZ (qAJ (a)))) (go ?_)
 exact fin
def qJt (a8:Nat) (c:Code) (sA:Slips):Option Int :=
 (qJ8 a8 c.ay sA.falls).bind fun a =>
 (qKr sA.an).bind fun b =>
 some (w64 ((w64 (a+b))+sA.aw))
theorem qRq (a8:Nat) (c:Code) (sA:Slips) (r:Int) (J:qJt a8 c sA=some r):qAC prog 191 [.g (ze4 c),.g (qK9 sA)] (.v (.int .i64 r)):=by
 refine fns T func191 ?_
 refine go ?_
 refine AO.x (bxs T 1) ?_
 refine AO.x (bxs T 2) (go ?_)
 obtain⟨d,a,e,b,J⟩:=qAE J
 refine AW.drawn 11 3 [] mix (by kernel_rfl) rfl ?_
 refine go ?_
 refine AD.vv (cVs (qPf a8 _ _ _ (a))) ?_
 refine go ?_
 refine AD.vv (cVs (qQZ _ _ (b))) ?_
 refine AD.vv aws ?_
 refine go ?_
 exact fin
def qGH (a8:Nat) (c:Code) (p:Performance) (factor:Int):Option bE :=
 (qHh a8 c p).bind fun a =>
 (qGt a8 p.ae factor p.af.falls).bind fun b =>
 (qJt a8 c p.af).bind fun d =>
 (qF1 0 (w64 ((w64 (a+b))-d))).bind fun e =>
 some [a,b,d,e]
theorem qLq (a8:Nat) (c:Code) (p:Performance) (factor:Int) (r:(bE)) (J:qGH a8 c p factor=some r):qAC prog 133 [.g (ze4 c),.g (ze9 p),factor] (.w 1 (r.map ze0)):=by
 refine fns T func133 ?_
 refine go ?_
 refine AO.x (bxs T 1) ?_
 refine AO.x (bxs T 2) (go ?_)
 obtain⟨a,b,d,e,f,h,J⟩:=qAq J
 refine AW.drawn 13 3 [] mix (by kernel_rfl) rfl ?_
 refine go ?_
 refine AD.vv (cVs (qMz a8 _ _ _ (b))) ?_
 refine go ?_
 refine AD.vv (cVs (qNX a8 _ _ _ _ (e))) ?_
 refine go ?_
 refine AO.w (cVs (qRq a8 _ _ _ (h))) (go ?_)
 obtain⟨i,j,J⟩:=zB J
 refine go ?_
 refine AO.w (cVs (qMt _ _ _ (j))) ?_
 refine AO.x (mks T 3 ze0 ([a,d,f,i])) ?_
 refine gs2 ?_
 refine AW.le (Le.ct 0 0 (σ':=(⟨[(6,.R 3)],[(3,ro 1 ze0 [a,d,f,i])],34,[]⟩:St))) ?_
 refine AW.t ?_
 exact fin
def qFL (sA:bD):Nat->Int->bF
 |0,_=>none
 |d+1,b =>
  cond (decide (b<(sA.size:Int)))
   ((qNC sA b).bind fun a =>
   cond ((decide ((a.toNat:Int)<65)||decide ((a.toNat:Int)>90))&&(decide ((a.toNat:Int)<48)||decide ((a.toNat:Int)>57)))
    (some false)
    (qFL sA d (w64 (b+1))))
   ((qAd (sA.size:Int) 1 5).bind fun c =>
   some c)
def qLD (a8:Nat) (sA:bD):bF :=
 qFL sA a8 0
theorem qQr (a8:Nat) (sA:bD) (r:Bool) (J:qLD a8 sA=some r):qAC prog 315 [.v (.string sA)] (.v (.bool r)):=by
 refine fns T func315 ?_
 refine go ?_
 refine AW.loopS (fun s:Nat×Int=>(⟨[(0,.v (.string sA)),(3,s.2)],[],35,[]⟩:St)) (fun s=>qFL sA s.1 s.2=some r) (fun s=>s.1) (a8,0) J ?_ ?_
 exact Le.ct 0 0
 rintro⟨c,f⟩ J
 try dsimp only at J⊢
 rcases c with _|c
 cases (show none=some _ from J)
 rw[qFL]at J
 refine go ?_
 refine AW.cH J (fun hc J=>?_) (fun _ J=>?_)
 refine go ?_
 obtain⟨b,a,J⟩:=zB J
 refine go ?_
 refine AO.w (qBO T rfl rfl rfl rfl (a)) (go ?_)
 refine AO.g0 T ?_
 refine AO.g0 T ?_
 refine AO.d2 15 16 (fun hg=>qBO T rfl rfl rfl rfl (a)) ?_
 refine AO.g1 T 17 ?_
 refine go ?_
 refine AO.g0 T ?_
 refine AO.g0 T ?_
 refine AO.d2 21 22 (fun hg=>qBO T rfl rfl rfl rfl (a)) ?_
 refine AO.g1 T 23 ?_
 refine AO.g1 T 24 ?_
 refine AO.g0 T ?_
 refine AO.g0 T ?_
 refine AO.d2 26 27 (fun hg=>qBO T rfl rfl rfl rfl (a)) ?_
 refine AO.g1 T 28 ?_
 refine AO.d [25] rfl ⟨fun h=>h,trivial⟩ (fun hg=>zO rfl rfl rfl (by rw[hg];exact Bool.true_and _)) rfl ?_
 refine gs2 ?_
 refine AW.le (Le.ct 0 0 (σ':=(⟨[(0,.v (.string sA)),(3,f),(31,.v (.bool ((decide ((b.toNat:Int)<65)||decide ((b.toNat:Int)>90))&&(decide ((b.toNat:Int)<48)||decide ((b.toNat:Int)>57)))))],[],35,[]⟩:St))) ?_
 refine Cf J fun hc J=>?_
 refine go ?_
 refine⟨(c,w64 (f+1)),J,Nat.lt_succ_self _,?_⟩
 exact Le.ct 0 0
 refine go ?_
 obtain⟨g,e,J⟩:=zB J
 refine go ?_
 refine AO.w (cVs (qAf _ _ _ _ (e))) (go ?_)
 exact fin
def qIp (a8:Nat) (x:Element):bF :=
 (qLD a8 x.aC).bind fun a =>
 (opt a default (qAd x.aE 0 4)).bind fun b =>
 (opt (a&&b) default (qAd x.aI 0 4)).bind fun c =>
 (opt ((a&&b)&&c) default (qAd x.aG 1 2000)).bind fun d =>
 some (((a&&b)&&c)&&d)
theorem qN4 (a8:Nat) (x:Element) (r:Bool) (J:qIp a8 x=some r):qAC prog 265 [.g (ze5 x)] (.v (.bool r)):=by
 refine fns T func265 ?_
 refine go ?_
 refine AO.x (bxs T 1) (go ?_)
 obtain⟨e,a,f,b,h,c,J⟩:=qAq J
 obtain⟨i,d,J⟩:=zB J
 refine go ?_
 refine AO.w (cVs (qQr a8 _ _ (a))) ?_
 refine AO.pu T ?_
 refine AO.g0 T ?_
 refine AO.g1 T 7 ?_
 refine AO.d1 8 (fun hg=>cVs (qAf _ _ _ _ (qD7 b hg))) ?_
 refine go ?_
 refine AO.g0 T ?_
 refine AO.g1 T 12 ?_
 refine AO.d1 13 (fun hg=>cVs (qAf _ _ _ _ (qD7 c hg))) ?_
 refine go ?_
 refine AO.g0 T ?_
 refine AO.g1 T 17 ?_
 refine AO.d1 18 (fun hg=>cVs (qAf _ _ _ _ (qD7 d hg))) ?_
 refine go ?_
 exact fin
def qCB (c:Code) (a8:Nat):List Element->Nat->bF
 | [],e =>
  (qAd (c.ad.length:Int) 1 24).bind fun a =>
  (opt (a&&((c.ar.length:Int)==5)) default (qC3 c.ar 0 9)).bind fun b =>
  (opt ((a&&((c.ar.length:Int)==5))&&b) default (qAd c.aq 1 3)).bind fun d =>
  (opt (((a&&((c.ar.length:Int)==5))&&b)&&d) default (qAd c.av 0 20)).bind fun f =>
  (opt ((((a&&((c.ar.length:Int)==5))&&b)&&d)&&f) default (qAd c.au 50 100)).bind fun g =>
  (opt (((((a&&((c.ar.length:Int)==5))&&b)&&d)&&f)&&g) default (qAd c.ay 0 500)).bind fun i =>
  some ((((((a&&((c.ar.length:Int)==5))&&b)&&d)&&f)&&g)&&i)
 |j::k,e =>
  (qIp a8 j).bind fun h =>
  (opt ((!(!h))&&decide ((e:Int)>0)) default (qAV c.ad (w64 ((e:Int)-1)))).bind fun l =>
  cond ((!h)||(decide ((e:Int)>0)&&(!qNe l.aC j.aC)))
   (some false)
   (qCB c a8 k (e+1))
def qDQ (a8:Nat) (c:Code):bF :=
 qCB c a8 c.ad 0
theorem qKK (a8:Nat) (c:Code) (r:Bool) (J:qDQ a8 c=some r):qAC prog 207 [.g (ze4 c)] (.v (.bool r)):=by
 refine fns T func207 ?_
 refine go ?_
 refine AO.x (bxs T 1) (go ?_)
 refine AW.loopS (fun s:Nat=>(⟨[(1,.p 1 0),(6,sv ze5 c.ad),(7,(c.ad.length:Int)),(8,(s:Int))],[(1,.box (ze4 c))],68,[]⟩:St)) (fun s=>s<=c.ad.length/\qCB c a8 (c.ad.drop s) s=some r) (fun s=>c.ad.length-s) 0 ⟨Nat.zero_le _,J⟩ ?_ ?_
 exact Le.ct 0 0
 rintro f ⟨K,J⟩
 try dsimp only at J⊢
 refine AW.boundM (t:=6) (l:=c.ad) rfl (fun H=>?_)
 rcases a:c.ad.drop f with _|⟨e,I⟩
 rw[a,qCB]at J
 have b:=qAG a
 refine go ?_
 obtain⟨y,i,z,j,A,k,J⟩:=qAq J
 obtain⟨B,m,C,n,E,o,J⟩:=qAq J
 refine go ?_
 refine AO.w (cVs (qAf _ _ _ _ (i))) ?_
 refine AO.pu T ?_
 refine AO.g0 T ?_
 refine AO.g1 T 38 ?_
 refine AO.d1 39 (fun hg=>qMc T) ?_
 refine AO.g1 T 40 ?_
 refine go ?_
 refine AO.g0 T ?_
 refine AO.g1 T 44 ?_
 refine AO.d1 45 (fun hg=>cVs (qII _ _ _ _ (qD7 j hg))) ?_
 refine go ?_
 refine AO.g0 T ?_
 refine AO.g1 T 49 ?_
 refine AO.d1 50 (fun hg=>cVs (qAf _ _ _ _ (qD7 k hg))) ?_
 refine go ?_
 refine AO.g0 T ?_
 refine AO.g1 T 54 ?_
 refine AO.d1 55 (fun hg=>cVs (qAf _ _ _ _ (qD7 m hg))) ?_
 refine go ?_
 refine AO.g0 T ?_
 refine AO.g1 T 59 ?_
 refine AO.d1 60 (fun hg=>cVs (qAf _ _ _ _ (qD7 n hg))) ?_
 refine go ?_
 refine AO.g0 T ?_
 refine AO.g1 T 64 ?_
 refine AO.d1 65 (fun hg=>cVs (qAf _ _ _ _ (qD7 o hg))) ?_
 refine gs3 ?_
 refine AW.le (Le.ct 0 0 (σ':=(⟨[(2,.v (.bool ((((((y&&((c.ar.length:Int)==5))&&z)&&A)&&B)&&C)&&E)))],[],68,[]⟩:St))) ?_
 refine AW.t ?_
 exact fin
 rw[a,qCB]at J
 have b:=qAF a
 refine go ?_
 refine AO.x (als T 4) ?_
 refine AO.pu T ?_
 refine AO.se T [.v (.string e.aC),e.aE,e.aI,e.aG] ?_
 refine go ?_
 obtain⟨F,q,G,u,J⟩:=qAE J
 refine AW.drawn 16 5 [] mix (by kernel_rfl) rfl ?_
 refine go ?_
 refine AD.vv (cVs (qN4 a8 _ _ (q))) ?_
 refine go ?_
 refine AD.pureG T [] rfl trivial rfl rfl ?_
 refine AD.pureG T [17] rfl ⟨fun h=>h,trivial⟩ rfl rfl ?_
 refine AD.pureG T [18] rfl ⟨fun h=>h,trivial⟩ rfl rfl ?_
 refine AD.pureG T [] rfl trivial rfl rfl ?_
 refine AD.pureG T [20] rfl ⟨fun h=>h,trivial⟩ rfl rfl ?_
 refine AD.pureG T [] rfl trivial rfl rfl ?_
 refine AD.guard [22] rfl ⟨fun h=>h,trivial⟩ (fun hg=>aws) rfl ?_
 refine AD.guard [21,23] rfl ⟨fun h=>h,fun h=>h,trivial⟩ (fun hg=>ixs T (qD7 u hg)) rfl ?_
 refine AD.pureG T [24] rfl ⟨fun h=>h,trivial⟩ rfl rfl ?_
 refine AD.pureG T [25] rfl ⟨fun h=>h,trivial⟩ rfl rfl ?_
 refine AD.pureG T [] rfl trivial rfl rfl ?_
 refine AD.pureG T [27] rfl ⟨fun h=>h,trivial⟩ rfl rfl ?_
 refine AD.nil (AO.g2 T 26 28 ?_)
 refine AO.d [19] rfl ⟨fun h=>h,trivial⟩ (fun hg=>zN rfl rfl rfl (by rw[hg];exact Bool.true_and _)) rfl ?_
 refine gs2 ?_
 refine AW.le (Le.ct 0 0 (σ':=(⟨[(1,.p 1 0),(6,sv ze5 c.ad),(7,(c.ad.length:Int)),(8,(f:Int)),(31,.v (.bool ((!F)||(decide ((f:Int)>0)&&(!qNe G.aC e.aC)))))],[(1,.box (ze4 c))],68,[]⟩:St))) ?_
 refine Cf J fun _ J=>?_
 refine go ?_
 refine⟨f+1,⟨b,(zds a▸J)⟩,qBm b,?_⟩
 exact Le.ct 0 0
def qK6 (b:Int):bF :=
 some ((decide (b>=65)&&decide (b<=90))||(decide (b>=48)&&decide (b<=57)))
theorem qQL (b:Int) (r:Bool) (J:qK6 b=some r):qAC prog 312 [.v (.int .u8 b)] (.v (.bool r)):=by
 refine fns T func312 ?_
 refine go ?_
 refine AO.g0 T ?_
 refine AO.g1 T 6 ?_
 refine go ?_
 refine AO.g0 T ?_
 refine AO.g1 T 10 ?_
 refine AO.g1 T 11 ?_
 refine AO.g0 T ?_
 refine AO.g1 T 13 ?_
 refine AO.d [12] rfl ⟨fun h=>h,trivial⟩ (fun hg=>zN rfl rfl rfl (by rw[hg];exact Bool.true_and _)) rfl ?_
 refine go ?_
 exact fin
def qFK (sA:bD):Nat->Int->bF
 |0,_=>none
 |e+1,a =>
  cond (decide (a<(sA.size:Int)))
   ((qNC sA a).bind fun b =>
   (qK6 (b.toNat:Int)).bind fun c =>
   cond (!c)
    (some false)
    (qFK sA e (w64 (a+1))))
   ((qAd (sA.size:Int) 1 5).bind fun d =>
   some d)
def qGp (a8:Nat) (sA:bD):bF :=
 qFK sA a8 0
theorem qQn (a8:Nat) (sA:bD) (r:Bool) (J:qGp a8 sA=some r):qAC prog 261 [.v (.string sA)] (.v (.bool r)):=by
 refine fns T func261 ?_
 refine go ?_
 refine AW.loopS (fun s:Nat×Int=>(⟨[(0,.v (.string sA)),(3,s.2)],[],18,[]⟩:St)) (fun s=>qFK sA s.1 s.2=some r) (fun s=>s.1) (a8,0) J ?_ ?_
 exact Le.ct 0 0
 rintro⟨a,e⟩ J
 try dsimp only at J⊢
 rcases a with _|a
 cases (show none=some _ from J)
 rw[qFK]at J
 refine go ?_
 refine AW.cH J (fun hc J=>?_) (fun _ J=>?_)
 refine go ?_
 obtain⟨f,b,g,c,J⟩:=qAE J
 refine go ?_
 refine AO.w (qBO T rfl rfl rfl rfl (b)) ?_
 refine AO.w (cVs (qQL _ _ (c))) (go ?_)
 refine Cf J fun hc J=>?_
 refine go ?_
 refine⟨(a,w64 (e+1)),J,Nat.lt_succ_self _,?_⟩
 exact Le.ct 0 0
 refine go ?_
 obtain⟨h,d,J⟩:=zB J
 refine go ?_
 refine AO.w (cVs (qAf _ _ _ _ (d))) (go ?_)
 exact fin
def qCC (it:Item) (a8:Nat):List bD->Nat->bF
 | [],b =>
  (qAd (it.aj.length:Int) 1 3).bind fun a =>
  (opt (a&&((it.ae.length:Int)==(it.aj.length:Int))) default (qC3 it.ae 0 3)).bind fun c =>
  some ((a&&((it.ae.length:Int)==(it.aj.length:Int)))&&c)
 |f::d,b =>
  (qGp a8 f).bind fun e =>
  cond (!e)
   (some false)
   (qCC it a8 d (b+1))
def qEA (a8:Nat) (it:Item):bF :=
 qCC it a8 it.aj 0
theorem qKH (a8:Nat) (it:Item) (r:Bool) (J:qEA a8 it=some r):qAC prog 202 [.g (ze2 it)] (.v (.bool r)):=by
 refine fns T func202 ?_
 refine go ?_
 refine AO.x (bxs T 1) (go ?_)
 refine AW.loopS (fun s:Nat=>(⟨[(1,.p 1 0),(6,sv ze1 it.aj),(7,(it.aj.length:Int)),(8,(s:Int))],[(1,.box [sv ze1 it.aj,sv ze0 it.ae,.v (.bool it.aB)])],34,[]⟩:St)) (fun s=>s<=it.aj.length/\qCC it a8 (it.aj.drop s) s=some r) (fun s=>it.aj.length-s) 0 ⟨Nat.zero_le _,J⟩ ?_ ?_
 exact Le.ct 0 0
 rintro f ⟨n,J⟩
 try dsimp only at J⊢
 refine AW.boundM (t:=6) (l:=it.aj) rfl (fun h=>?_)
 rcases a:it.aj.drop f with _|⟨o,i⟩
 rw[a,qCC]at J
 have b:=qAG a
 refine go ?_
 obtain⟨j,c,k,d,J⟩:=qAE J
 refine go ?_
 refine AO.w (cVs (qAf _ _ _ _ (c))) ?_
 refine AO.pu T ?_
 refine AO.g0 T ?_
 refine AO.g1 T 21 ?_
 refine AO.d1 22 (fun hg=>qMc T) ?_
 refine AO.g0 T ?_
 refine AO.g1 T 24 ?_
 refine AO.d1 25 (fun hg=>qMc T) ?_
 refine AO.g2 T 23 26 ?_
 refine go ?_
 refine AO.g0 T ?_
 refine AO.g1 T 30 ?_
 refine AO.d1 31 (fun hg=>cVs (qII _ _ _ _ (qD7 d hg))) ?_
 refine go ?_
 exact fin
 rw[a,qCC]at J
 have b:=qAF a
 refine go ?_
 obtain⟨m,e,J⟩:=zB J
 refine go ?_
 refine AO.w (cVs (qQn a8 _ _ (e))) (go ?_)
 refine Cf J fun _ J=>?_
 refine go ?_
 refine⟨f+1,⟨b,(zds a▸J)⟩,qBm b,?_⟩
 exact Le.ct 0 0
def qCI (l:List Item) (a8:Nat):List Item->Nat->bF
 | [],a =>
  some (decide ((l.length:Int)<=14))
 |d::b,a =>
  (qEA a8 d).bind fun c =>
  cond (!c)
   (some false)
   (qCI l a8 b (a+1))
def qFw (a8:Nat) (l:List Item):bF :=
 qCI l a8 l 0
theorem qQl (a8:Nat) (l:List Item) (r:Bool) (J:qFw a8 l=some r):qAC prog 341 [.s (List.map ze2 l)] (.v (.bool r)):=by
 refine fns T func341 ?_
 refine go ?_
 refine AW.loopS (fun s:Nat=>(⟨[(0,sv ze2 l),(5,sv ze2 l),(6,(l.length:Int)),(7,(s:Int))],[],18,[]⟩:St)) (fun s=>s<=l.length/\qCI l a8 (l.drop s) s=some r) (fun s=>l.length-s) 0 ⟨Nat.zero_le _,J⟩ ?_ ?_
 exact Le.ct 0 0
 rintro e ⟨i,J⟩
 try dsimp only at J⊢
 refine AW.boundM (t:=0) (l:=l) rfl (fun f=>?_)
 rcases a:l.drop e with _|⟨c,g⟩
 rw[a,qCI]at J
 have b:=qAG a
 refine go ?_
 exact fin
 rw[a,qCI]at J
 have b:=qAF a
 refine go ?_
 refine AO.x (als T 3) ?_
 refine AO.se T [sv ze1 c.aj,sv ze0 c.ae,.v (.bool c.aB)] ?_
 refine go ?_
 obtain⟨h,d,J⟩:=zB J
 refine go ?_
 refine AO.w (cVs (qKH a8 _ _ (d))) (go ?_)
 refine Cf J fun _ J=>?_
 refine go ?_
 refine⟨e+1,⟨b,(zds a▸J)⟩,qBm b,?_⟩
 exact Le.ct 0 0
def qDk (c:Code):List bD->Nat->Option (Except Bool Unit)
 | [],a =>
  some (.ok ())
 |d::b,a =>
  (qGq c d).bind fun e =>
  cond (decide (e<0))
   (some (.error false))
   (qDk c b (a+1))
def qDm (c:Code):List Item->Nat->bF
 | [],a =>
  some true
 |e::b,a =>
  (qDk c e.aj 0).bind fun d=>qKL d fun _ =>
  qDm c b (a+1)
def qGF (c:Code) (l:List Item):bF :=
 qDm c l 0
theorem qQC (c:Code) (l:List Item) (r:Bool) (J:qGF c l=some r):qAC prog 342 [.g (ze4 c),.s (List.map ze2 l)] (.v (.bool r)):=by
 refine fns T func342 ?_
 refine gs2 ?_
 refine AO.x (bxs T 1) ?_
 iterate 10 refine gs ?_
 refine AW.loopS (fun s:Nat=>(⟨[(2,.p 1 0),(9,sv ze2 l),(10,(l.length:Int)),(11,(s:Int))],[(1,.box (ze4 c))],28,[]⟩:St)) (fun s=>s<=l.length/\qDm c (l.drop s) s=some r) (fun s=>l.length-s) 0 ⟨Nat.zero_le _,J⟩ ?_ ?_
 exact Le.ct 0 0
 rintro i ⟨n,J⟩
 try dsimp only at J⊢
 refine AW.boundM (t:=9) (l:=l) rfl (fun u=>?_)
 rcases e:l.drop i with _|⟨b,y⟩
 rw[e,qDm]at J
 have f:=qAG e
 iterate 12 refine gs ?_
 exact fin
 rw[e,qDm]at J
 have f:=qAF e
 refine gs7 ?_
 obtain⟨j,J,h⟩:=zB J
 refine AW.seqJ (fun s:Unit=>(⟨[(2,.p 1 0),(9,sv ze2 l),(10,(l.length:Int)),(11,(i:Int))],[(1,.box (ze4 c))],28,[]⟩:St)) (fun s=>.ok s=j) ?_ ?_
 refine gs5 ?_
 refine AO.x (als T 7) ?_
 refine AO.se T [sv ze1 b.aj,sv ze0 b.ae,.v (.bool b.aB)] ?_
 refine gs9 ?_
 refine AW.loopS (fun s:Nat=>(⟨[(2,.p 1 0),(9,sv ze2 l),(10,(l.length:Int)),(11,(i:Int)),(16,sv ze1 b.aj),(17,(b.aj.length:Int)),(18,(s:Int))],[(1,.box (ze4 c))],28,[]⟩:St)) (fun s=>s<=b.aj.length/\qDk c (b.aj.drop s) s=some j) (fun s=>b.aj.length-s) 0 ⟨Nat.zero_le _,J⟩ ?_ ?_
 exact Le.ct 0 0
 rintro k ⟨n,J⟩
 try dsimp only at J⊢
 refine AW.boundM (t:=16) (l:=b.aj) rfl (fun o=>?_)
 rcases a:b.aj.drop k with _|⟨z,q⟩
 rw[a,qDk]at J
 have d:=qAG a
 refine gs7 ?_
 refine⟨_,zS J,?_⟩
 exact Le.ct 0 0
 rw[a,qDk]at J
 have d:=qAF a
 iterate 16 refine gs ?_
 obtain⟨A,m,J⟩:=zB J
 refine gs3 ?_
 refine AO.w (cVs (qIY _ _ _ (m))) ?_
 refine gs2 ?_
 refine AW.cH J (fun _ J=>?_) (fun _ J=>?_)
 refine gs5 ?_
 obtain rfl:=zS J
 replace J:=h
 exact fin
 refine gs5 ?_
 refine⟨k+1,⟨d,(zds a▸J)⟩,qBm d,?_⟩
 exact Le.ct 0 0
 rintro _ hs
 subst hs
 replace J:=h
 try dsimp only[qKL,qIN]at J
 try dsimp only
 refine gs4 ?_
 refine⟨i+1,⟨f,(zds e▸J)⟩,qBm f,?_⟩
 exact Le.ct 0 0
def qKn (a8:Nat) (c:Code) (l:List Item):bF :=
 (qDQ a8 c).bind fun a =>
 (opt a default (qFw a8 l)).bind fun b =>
 (opt (a&&b) default (qGF c l)).bind fun d =>
 some ((a&&b)&&d)
theorem qQk (a8:Nat) (c:Code) (l:List Item) (r:Bool) (J:qKn a8 c l=some r):qAC prog 313 [.g (ze4 c),.s (List.map ze2 l)] (.v (.bool r)):=by
 refine fns T func313 ?_
 refine go ?_
 refine AO.x (bxs T 1) (go ?_)
 obtain⟨f,a,h,b,i,e,J⟩:=qAq J
 refine go ?_
 refine AO.w (cVs (qKK a8 _ _ (a))) ?_
 refine AO.pu T ?_
 refine AO.g0 T ?_
 refine AO.d1 8 (fun hg=>cVs (qQl a8 _ _ (qD7 b hg))) ?_
 refine go ?_
 refine AO.g T (d:=.g (ze4 c)) [] rfl trivial rfl rfl ?_
 refine AO.g0 T ?_
 refine AO.d2 12 13 (fun hg=>cVs (qQC _ _ _ (qD7 e hg))) ?_
 refine go ?_
 exact fin
def qCH (l:bE) (judges:Int) (component:Bool):bE->Nat->bF
 | [],a =>
  cond component
   ((opt ((l.length:Int)==judges) default (qC3 l 0 1000)).bind fun b =>
   some (((l.length:Int)==judges)&&b))
   ((opt ((l.length:Int)==judges) default (qC3 l (-5) 5)).bind fun c =>
   some (((l.length:Int)==judges)&&c))
 |e::d,a =>
  (opt component default (qAl (25 != 0))).bind fun f =>
  cond (component&&((e.tmod 25) != 0))
   (some false)
   (qCH l judges component d (a+1))
def qH0 (l:bE) (judges:Int) (component:Bool):bF :=
 qCH l judges component l 0
theorem qMr (l:bE) (judges:Int) (component:Bool) (r:Bool) (J:qH0 l judges component=some r):qAC prog 267 [.s (List.map ze0 l),judges,.v (.bool component)] (.v (.bool r)):=by
 refine fns T func267 ?_
 refine go ?_
 refine AW.loopS (fun s:Nat=>(⟨[(0,sv ze0 l),(1,judges),(2,.v (.bool component)),(9,sv ze0 l),(10,(l.length:Int)),(11,(s:Int))],[],39,[]⟩:St)) (fun s=>s<=l.length/\qCH l judges component (l.drop s) s=some r) (fun s=>l.length-s) 0 ⟨Nat.zero_le _,J⟩ ?_ ?_
 exact Le.ct 0 0
 rintro f ⟨m,J⟩
 try dsimp only at J⊢
 refine AW.boundM (t:=0) (l:=l) rfl (fun g=>?_)
 rcases a:l.drop f with _|⟨n,h⟩
 rw[a,qCH]at J
 have b:=qAG a
 refine go ?_
 refine AW.cH J (fun _ J=>?_) (fun hc J=>?_)
 refine AW.q ?_
 obtain⟨i,c,J⟩:=zB J
 refine go ?_
 refine AO.g0 T ?_
 refine AO.d1 28 (fun hg=>cVs (qII _ _ _ _ (qD7 c hg))) ?_
 refine go ?_
 exact fin
 refine go ?_
 obtain⟨j,d,J⟩:=zB J
 refine go ?_
 refine AO.g0 T ?_
 refine AO.d1 36 (fun hg=>cVs (qII _ _ _ _ (qD7 d hg))) ?_
 refine go ?_
 exact fin
 rw[a,qCH]at J
 have b:=qAF a
 refine go ?_
 obtain⟨k,e,J⟩:=zB J
 refine go ?_
 refine AO.g0 T ?_
 refine AO.d1 17 (fun hg=>qP7 rfl rfl rfl (neZ (qAJ (qD7 e hg)))) ?_
 refine AO.g1 T 18 ?_
 refine go ?_
 refine Cf J fun _ J=>?_
 refine go ?_
 refine⟨f+1,⟨b,(zds a▸J)⟩,qBm b,?_⟩
 exact Le.ct 0 0
def qE7 (b:bE):List bE->Nat->bF
 | [],a =>
  (qAd (b.length:Int) 3 9).bind fun d =>
  some d
 |e::c,a =>
  (qH0 e (b.length:Int) true).bind fun f =>
  cond (!f)
   (some false)
   (qE7 b c (a+1))
def qE4 (m:Marks) (a:bE):List bE->Nat->bF
 | [],b =>
  qE7 a m.ac 0
 |e::c,b =>
  (qH0 e (a.length:Int) false).bind fun d =>
  cond (!d)
   (some false)
   (qE4 m a c (b+1))
def qFl (m:Marks):bF :=
 cond (((m.ac.length:Int) != 3)||decide ((m.ah.length:Int)>14))
  (some false)
  ((qAV m.ac 0).bind fun a =>
  qE4 m a m.ah 0)
theorem qKs (m:Marks) (r:Bool) (J:qFl m=some r):qAC prog 212 [.g (qJb m)] (.v (.bool r)):=by
 refine fns T func212 ?_
 refine go ?_
 refine AO.x (bxs T 1) (go ?_)
 refine AO.g0 T ?_
 refine AO.g1 T 13 ?_
 refine AO.d1 14 (fun hg=>qMc T) ?_
 refine AO.g1 T 15 ?_
 refine go ?_
 refine Cf J fun hc J=>?_
 refine go ?_
 obtain⟨e,u,J⟩:=zB J
 refine go ?_
 refine AW.loopS (fun s:Nat=>(⟨[(1,.p 1 0),(3,(e.length:Int)),(24,sv ze3 m.ah),(25,(m.ah.length:Int)),(26,(s:Int))],[(1,.box [sv ze3 m.ah,sv ze3 m.ac])],49,[]⟩:St)) (fun s=>s<=m.ah.length/\qE4 m e (m.ah.drop s) s=some r) (fun s=>m.ah.length-s) 0 ⟨Nat.zero_le _,J⟩ ?_ ?_
 exact Le.ct 0 0
 rintro k ⟨n,J⟩
 try dsimp only at J⊢
 refine AW.boundM (t:=24) (l:=m.ah) rfl (fun y=>?_)
 rcases c:m.ah.drop k with _|⟨F,z⟩
 rw[c,qE4]at J
 have d:=qAG c
 refine go ?_
 refine AW.loopS (fun s:Nat=>(⟨[(3,(e.length:Int)),(36,sv ze3 m.ac),(37,(m.ac.length:Int)),(38,(s:Int))],[],49,[]⟩:St)) (fun s=>s<=m.ac.length/\qE7 e (m.ac.drop s) s=some r) (fun s=>m.ac.length-s) 0 ⟨Nat.zero_le _,J⟩ ?_ ?_
 exact Le.ct 0 0
 rintro f ⟨n,J⟩
 try dsimp only at J⊢
 refine AW.boundM (t:=36) (l:=m.ac) rfl (fun o=>?_)
 rcases a:m.ac.drop f with _|⟨A,q⟩
 rw[a,qE7]at J
 have b:=qAG a
 refine go ?_
 obtain⟨B,h,J⟩:=zB J
 refine go ?_
 refine AO.w (cVs (qAf _ _ _ _ (h))) (go ?_)
 exact fin
 rw[a,qE7]at J
 have b:=qAF a
 refine go ?_
 obtain⟨C,i,J⟩:=zB J
 refine go ?_
 refine AO.w (cVs (qMr _ _ _ _ (i))) (go ?_)
 refine Cf J fun hc J=>?_
 refine go ?_
 refine⟨f+1,⟨b,(zds a▸J)⟩,qBm b,?_⟩
 exact Le.ct 0 0
 rw[c,qE4]at J
 have d:=qAF c
 refine go ?_
 obtain⟨E,j,J⟩:=zB J
 refine go ?_
 refine AO.w (cVs (qMr _ _ _ _ (j))) (go ?_)
 refine Cf J fun _ J=>?_
 refine go ?_
 refine⟨k+1,⟨d,(zds c▸J)⟩,qBm d,?_⟩
 exact Le.ct 0 0
def qKq (m:Marks) (items:Int):bF :=
 (qFl m).bind fun a =>
 some (a&&((m.ah.length:Int)==items))
theorem qQm (m:Marks) (items:Int) (r:Bool) (J:qKq m items=some r):qAC prog 314 [.g (qJb m),items] (.v (.bool r)):=by
 refine fns T func314 ?_
 refine go ?_
 refine AO.x (bxs T 1) (go ?_)
 obtain⟨b,a,J⟩:=zB J
 refine go ?_
 refine AO.w (cVs (qKs _ _ (a))) ?_
 refine AO.pu T ?_
 refine AO.g0 T ?_
 refine AO.g1 T 8 ?_
 refine AO.d1 9 (fun hg=>qMc T) ?_
 refine AO.g0 T ?_
 refine AO.g2 T 10 11 ?_
 refine go ?_
 exact fin
def qKv (a8:Nat) (c:Code) (l:List Item) (m:Marks):bF :=
 (qKn a8 c l).bind fun a =>
 (opt a default (qKq m (l.length:Int))).bind fun b =>
 some (a&&b)
theorem qQs (a8:Nat) (c:Code) (l:List Item) (m:Marks) (r:Bool) (J:qKv a8 c l m=some r):qAC prog 263 [.g (ze4 c),.s (List.map ze2 l),.g (qJb m)] (.v (.bool r)):=by
 refine fns T func263 ?_
 refine go ?_
 refine AO.x (bxs T 1) ?_
 refine AO.x (bxs T 2) (go ?_)
 obtain⟨e,a,f,b,J⟩:=qAE J
 refine go ?_
 refine AO.w (cVs (qQk a8 _ _ _ (a))) ?_
 refine AO.pu T ?_
 refine AO.g T (d:=.g [sv ze3 m.ah,sv ze3 m.ac]) [] rfl trivial rfl rfl ?_
 refine AO.g0 T ?_
 refine AO.d1 12 (fun hg=>qMc T) ?_
 refine AO.d2 11 13 (fun hg=>cVs (qQm _ _ _ (qD7 b hg))) ?_
 refine go ?_
 exact fin
def qHp (sA:Slips):bF :=
 (qAd sA.falls 0 9).bind fun a =>
 (opt a default (qAd sA.an 0 60)).bind fun b =>
 (opt (a&&b) default (qAd sA.aw 0 500)).bind fun c =>
 some ((a&&b)&&c)
theorem qQg (sA:Slips) (r:Bool) (J:qHp sA=some r):qAC prog 264 [.g (qK9 sA)] (.v (.bool r)):=by
 refine fns T func264 ?_
 refine go ?_
 refine AO.x (bxs T 1) (go ?_)
 obtain⟨d,a,e,b,f,c,J⟩:=qAq J
 refine go ?_
 refine AO.w (cVs (qAf _ _ _ _ (a))) ?_
 refine AO.pu T ?_
 refine AO.g0 T ?_
 refine AO.g1 T 7 ?_
 refine AO.d1 8 (fun hg=>cVs (qAf _ _ _ _ (qD7 b hg))) ?_
 refine go ?_
 refine AO.g0 T ?_
 refine AO.g1 T 12 ?_
 refine AO.d1 13 (fun hg=>cVs (qAf _ _ _ _ (qD7 c hg))) ?_
 refine go ?_
 exact fin
def qBk (a8:Nat) (c:Code) (p:Performance):bF :=
 (qKv a8 c p.ai p.ae).bind fun a =>
 (opt a default (qHp p.af)).bind fun b =>
 some (a&&b)
theorem qMi (a8:Nat) (c:Code) (p:Performance) (r:Bool) (J:qBk a8 c p=some r):qAC prog 204 [.g (ze4 c),.g (ze9 p)] (.v (.bool r)):=by
 refine fns T func204 ?_
 refine go ?_
 refine AO.x (bxs T 1) ?_
 refine AO.x (bxs T 2) (go ?_)
 obtain⟨e,a,f,b,J⟩:=qAE J
 refine go ?_
 refine AO.w (cVs (qQs a8 _ _ _ _ (a))) ?_
 refine AO.pu T ?_
 refine AO.g0 T ?_
 refine AO.g T (d:=.g [p.af.falls,p.af.an,p.af.aw]) [12] rfl ⟨fun h=>h,trivial⟩ rfl rfl ?_
 refine AO.d1 13 (fun hg=>cVs (qQg _ _ (qD7 b hg))) ?_
 refine go ?_
 exact fin
def qFS (factor:Int):bF :=
 (qAd factor 10 400).bind fun a =>
 some a
theorem qLK (factor:Int) (r:Bool) (J:qFS factor=some r):qAC prog 147 [factor] (.v (.bool r)):=by
 refine fns T func147 ?_
 refine go ?_
 obtain⟨b,a,J⟩:=zB J
 refine go ?_
 refine AO.w (cVs (qAf _ _ _ _ (a))) (go ?_)
 exact fin
def qHF (a8:Nat) (c:Code) (p:Performance) (factor:Int):bF :=
 (qBk a8 c p).bind fun a =>
 (opt a default (qFS factor)).bind fun b =>
 some (a&&b)
theorem qLx (a8:Nat) (c:Code) (p:Performance) (factor:Int) (r:Bool) (J:qHF a8 c p factor=some r):qAC prog 193 [.g (ze4 c),.g (ze9 p),factor] (.v (.bool r)):=by
 refine fns T func193 ?_
 refine go ?_
 refine AO.x (bxs T 1) ?_
 refine AO.x (bxs T 2) (go ?_)
 obtain⟨d,a,e,b,J⟩:=qAE J
 refine go ?_
 refine AO.w (cVs (qMi a8 _ _ _ (a))) ?_
 refine AO.pu T ?_
 refine AO.g0 T ?_
 refine AO.d1 11 (fun hg=>cVs (qLK _ _ (qD7 b hg))) ?_
 refine go ?_
 exact fin
def qEY (m:Marks):Option Int :=
 (qAV m.ac 0).bind fun a =>
 some (a.length:Int)
theorem qIr (m:Marks) (r:Int) (J:qEY m=some r):qAC prog 139 [.g (qJb m)] (.v (.int .i64 r)):=by
 refine fns T func139 ?_
 refine go ?_
 refine AO.x (bxs T 1) (go ?_)
 obtain⟨b,a,J⟩:=zB J
 refine go ?_
 exact fin
def qHD (p:Performance):Option Int :=
 (qEY p.ae).bind fun a =>
 cond (decide (a>=5))
  (some (w64 (a-2)))
  (some a)
theorem qLm (p:Performance) (r:Int) (J:qHD p=some r):qAC prog 195 [.g (ze9 p)] (.v (.int .i64 r)):=by
 refine fns T func195 ?_
 refine go ?_
 refine AO.x (bxs T 1) (go ?_)
 obtain⟨b,a,J⟩:=zB J
 refine go ?_
 refine AO.w (cVs (qIr _ _ (a))) (go ?_)
 refine Cf J fun _ J=>?_
 refine go ?_
 exact fin
def qIU (a:Int) (b:Int):Option Int :=
 (qAl (b != 0)).bind fun c =>
 some (w64 ((w64 ((w64 (a+b))-1)).tdiv b))
theorem qLw (a:Int) (b:Int) (r:Int) (J:qIU a b=some r):qAC prog 194 [a,b] (.v (.int .i64 r)):=by
 refine fns T func194 ?_
 refine go ?_
 obtain⟨d,c,J⟩:=zB J
 refine go ?_
 refine AO.w (qHt rfl rfl rfl (neZ (qAJ (c)))) (go ?_)
 exact fin
def qKm (c:Code) (p:Performance) (k:Int):Option Int :=
 (qEz c p.ai k).bind fun a =>
 cond (a==0)
  (some 0)
  ((qAV p.ai k).bind fun b =>
  (qI9 c b).bind fun d =>
  (qHD p).bind fun e =>
  (qIU d e).bind fun f =>
  some f)
theorem qSC (c:Code) (p:Performance) (k:Int) (r:Int) (J:qKm c p k=some r):qAC prog 196 [.g (ze4 c),.g (ze9 p),k] (.v (.int .i64 r)):=by
 refine fns T func196 ?_
 refine go ?_
 refine AO.x (bxs T 1) ?_
 refine AO.x (bxs T 2) (go ?_)
 obtain⟨h,b,J⟩:=zB J
 refine go ?_
 refine AO.w (cVs (qIe _ _ _ _ (b))) (go ?_)
 refine Cf J fun _ J=>?_
 refine go ?_
 obtain⟨i,f,j,d,l,e,J⟩:=qAq J
 obtain⟨m,a,J⟩:=zB J
 refine AW.drawn 8 3 [] mix (by kernel_rfl) rfl ?_
 refine go ?_
 refine AD.vv (cVs (qMs _ _ _ (d))) ?_
 refine go ?_
 refine AO.w (cVs (qLm _ _ (e))) ?_
 refine AO.w (cVs (qLw _ _ _ (a))) (go ?_)
 exact fin
def qBi (c:Code) (p:Performance):List Item->Nat->Int->Option ((Int×Bool))
 | [],b,a =>
  some (a,true)
 |f::d,b,a =>
  (qKm c p (b:Int)).bind fun e =>
  qBi c p d (b+1) (w64 (a+e))
def qEd (a8:Nat) (c:Code) (p:Performance) (factor:Int):Option (Int×Bool) :=
 (qHF a8 c p factor).bind fun a =>
 cond (!a)
  (some (0,false))
  ((qHD p).bind fun b =>
  (qIU 1000 b).bind fun d =>
  (qIU (w64 ((w64 (factor*3))*d)) 100).bind fun e =>
  qBi c p p.ai 0 e)
theorem qMT (a8:Nat) (c:Code) (p:Performance) (factor:Int) (r:(Int×Bool)) (J:qEd a8 c p factor=some r):qAC prog 134 [.g (ze4 c),.g (ze9 p),factor] (.t [.v (.int .i64 r.1),.v (.bool r.2)]):=by
 refine fns T func134 ?_
 refine go ?_
 refine AO.x (bxs T 1) ?_
 refine AO.x (bxs T 2) (go ?_)
 obtain⟨z,e,J⟩:=zB J
 refine go ?_
 refine AO.w (cVs (qLx a8 _ _ _ _ (e))) (go ?_)
 refine Cf J fun _ J=>?_
 refine go ?_
 obtain⟨A,f,B,h,o,i,J⟩:=qAq J
 refine go ?_
 refine AO.w (cVs (qLm _ _ (f))) ?_
 refine AO.w (cVs (qLw _ _ _ (h))) ?_
 refine AO.w aws ?_
 refine AO.w (cVs (qLw _ _ _ (i))) (go ?_)
 refine AW.loopS (fun s:Nat×Int=>(⟨[(3,.p 1 0),(4,.p 2 0),(8,s.2),(24,(p.ai.length:Int)),(25,(s.1:Int))],[(1,.box (ze4 c)),(2,.box (ze9 p))],36,[]⟩:St)) (fun s=>s.1<=p.ai.length/\qBi c p (p.ai.drop s.1) s.1 s.2=some r) (fun s=>p.ai.length-s.1) (0,o) ⟨Nat.zero_le _,J⟩ ?_ ?_
 exact Le.ct 0 0
 rintro⟨k,m⟩ ⟨C,J⟩
 try dsimp only at J⊢
 refine AW.boundBox (id:=2) (j:=0) (l:=p.ai) rfl rfl (fun q=>?_)
 rcases a:p.ai.drop k with _|⟨y,u⟩
 rw[a,qBi]at J
 have b:=qAG a
 refine go ?_
 exact fin
 rw[a,qBi]at J
 have b:=qAF a
 refine go ?_
 obtain⟨n,d,J⟩:=zB J
 refine go ?_
 refine AO.w (cVs (qSC _ _ _ _ (d))) (go ?_)
 refine⟨(k+1,w64 (m+n)),⟨b,(zds a▸J)⟩,qBm b,?_⟩
 exact Le.ct 0 0
def qDU (a8:Nat) (c:Code) (p:Performance) (factor:Int):Option Int :=
 (qGH a8 c p factor).bind fun a =>
 (qAV a 3).bind fun b =>
 some b
theorem qHs (a8:Nat) (c:Code) (p:Performance) (factor:Int) (r:Int) (J:qDU a8 c p factor=some r):qAC prog 197 [.g (ze4 c),.g (ze9 p),factor] (.v (.int .i64 r)):=by
 refine fns T func197 ?_
 refine go ?_
 refine AO.x (bxs T 1) ?_
 refine AO.x (bxs T 2) (go ?_)
 obtain⟨d,a,e,b,J⟩:=qAE J
 refine go ?_
 refine AO.x (qAO rfl 3 rfl rfl rfl (qLq a8 _ _ _ _ (a)) rfl rfl rfl) (go ?_)
 refine AO.w (zLr T rfl rfl rfl rfl (zgG (b)) rfl rfl rfl) (go ?_)
 exact fin
def qEy (f:Nat) (b:Nat) (d:Int):Nat->List bE->Int->Option (List bE)
 |0,_,_=>none
 |e+1,c,a =>
  cond (decide (a<=3))
   (cond (a != d)
    ((qAl (qAg 24 (c.length+([[(f:Int),(b:Int),a]]).length))).bind fun g =>
    qEy f b d e (c++[[(f:Int),(b:Int),a]]) (w64 (a+1)))
    (qEy f b d e c (w64 (a+1))))
   (some c)
def qE1 (a8:Nat) (f:Nat):bE->Nat->List bE->Option (List bE)
 | [],a,b =>
  some b
 |d::c,a,b =>
  (qEy f a d a8 b 0).bind fun e =>
  qE1 a8 f c (a+1) e
def qFC (a8:Nat):List Item->Nat->List bE->Option ((List bE))
 | [],b,a =>
  some a
 |e::d,b,a =>
  (qE1 a8 b e.ae 0 a).bind fun c =>
  qFC a8 d (b+1) c
def qL8 (a8:Nat) (l:List Item):Option (List bE) :=
 qFC a8 l 0 []
theorem qRd (a8:Nat) (l:List Item) (r:(List bE)) (J:qL8 a8 l=some r):qAC prog 198 [.s (List.map ze2 l)] (.w 1 (r.map ze3)):=by
 refine fns T func198 ?_
 iterate 16 refine gs ?_
 refine AW.loopS (fun s:Nat×(List bE)=>(⟨[(3,.R 7),(9,sv ze2 l),(10,(l.length:Int)),(11,(s.1:Int))],[(7,ro 1 ze3 s.2)],41,[]⟩:St)) (fun s=>s.1<=l.length/\qFC a8 (l.drop s.1) s.1 s.2=some r) (fun s=>l.length-s.1) (0,[]) ⟨Nat.zero_le _,J⟩ ?_ ?_
 refine Le.trans (Le.void 3 7 1 rfl rfl) ?_
 exact Le.ct 0 0
 rintro⟨b,z⟩ ⟨G,J⟩
 try dsimp only at J⊢
 refine AW.boundM (t:=9) (l:=l) rfl (fun I=>?_)
 rcases i:l.drop b with _|⟨c,K⟩
 rw[i,qFC]at J
 have j:=qAG i
 iterate 13 refine gs ?_
 exact fin
 rw[i,qFC]at J
 have j:=qAF i
 refine gs7 ?_
 obtain⟨k,J,p⟩:=zB J
 refine AW.seqJ (fun s:List bE=>(⟨[(3,.R 7),(9,sv ze2 l),(10,(l.length:Int)),(11,(b:Int))],[(7,ro 1 ze3 s)],41,[]⟩:St)) (fun s=>s=k) ?_ ?_
 refine gs6 ?_
 refine AO.x (als T 276) ?_
 refine AO.pu T ?_
 refine AO.se T [sv ze1 c.aj,sv ze0 c.ae,.v (.bool c.aB)] ?_
 refine gs9 ?_
 refine AW.loopS (fun s:Nat×(List bE)=>(⟨[(3,.R 7),(4,(b:Int)),(9,sv ze2 l),(10,(l.length:Int)),(11,(b:Int)),(17,sv ze0 c.ae),(18,(c.ae.length:Int)),(19,(s.1:Int))],[(7,ro 1 ze3 s.2)],41,[]⟩:St)) (fun s=>s.1<=c.ae.length/\qE1 a8 b (c.ae.drop s.1) s.1 s.2=some k) (fun s=>c.ae.length-s.1) (0,z) ⟨Nat.zero_le _,J⟩ ?_ ?_
 exact Le.ct 0 0
 rintro⟨a,A⟩ ⟨G,J⟩
 try dsimp only at J⊢
 refine AW.boundM (t:=17) (l:=c.ae) rfl (fun E=>?_)
 rcases d:c.ae.drop a with _|⟨m,F⟩
 rw[d,qE1]at J
 have e:=qAG d
 refine gs7 ?_
 refine⟨_,zS J,?_⟩
 exact Le.ct 0 0
 rw[d,qE1]at J
 have e:=qAF d
 refine gs7 ?_
 obtain⟨n,J,q⟩:=zB J
 refine AW.seqJ (fun s:List bE=>(⟨[(3,.R 7),(4,(b:Int)),(9,sv ze2 l),(10,(l.length:Int)),(11,(b:Int)),(17,sv ze0 c.ae),(18,(c.ae.length:Int)),(19,(a:Int))],[(7,ro 1 ze3 s)],41,[]⟩:St)) (fun s=>s=n) ?_ ?_
 iterate 14 refine gs ?_
 refine AW.loopS (fun s:Nat×(List bE)×Int=>(⟨[(3,.R 7),(4,(b:Int)),(6,(a:Int)),(7,m),(8,s.2.2),(9,sv ze2 l),(10,(l.length:Int)),(11,(b:Int)),(17,sv ze0 c.ae),(18,(c.ae.length:Int)),(19,(a:Int))],[(7,ro 1 ze3 s.2.1)],41,[]⟩:St)) (fun s=>qEy b a m s.1 s.2.1 s.2.2=some n) (fun s=>s.1) (a8,A,0) J ?_ ?_
 exact Le.ct 0 0
 rintro⟨h,o,f⟩ J
 try dsimp only at J⊢
 rcases h with _|h
 cases (show none=some _ from J)
 rw[qEy]at J
 refine gs6 ?_
 refine AW.cH J (fun hc J=>?_) (fun _ J=>?_)
 refine gs9 ?_
 refine AW.cH J (fun _ J=>?_) (fun hc J=>?_)
 obtain⟨H,u,J⟩:=zB J
 refine gs5 ?_
 refine AO.x (mks T 328 ze0 ([(b:Int),(a:Int),f])) ?_
 refine AO.le (Le.fM 328 (g:=ze0) rfl (fun y=>.vs rfl)) ?_
 refine AO.x (mks T 329 ze3 ([[(b:Int),(a:Int),f]])) ?_
 refine AO.x (rvs T 330 (hfit:=by exact qAJ (u))) ?_
 refine gs7 ?_
 refine⟨(h,(o++[[(b:Int),(a:Int),f]]),w64 (f+1)),J,Nat.lt_succ_self _,?_⟩
 exact Le.ct 330 7
 refine gs6 ?_
 refine⟨(h,o,w64 (f+1)),J,Nat.lt_succ_self _,?_⟩
 exact Le.ct 0 0
 refine AW.exit ?_
 refine⟨_,zS J,?_⟩
 exact Le.ct 0 0
 rintro B hs
 subst hs
 replace J:=q
 try dsimp only[qKL,qIN]at J
 try dsimp only
 refine gs4 ?_
 refine⟨(a+1,B),⟨e,(zds d▸J)⟩,qBm e,?_⟩
 exact Le.ct 0 0
 rintro C hs
 subst hs
 replace J:=p
 try dsimp only[qKL,qIN]at J
 try dsimp only
 refine gs4 ?_
 refine⟨(b+1,C),⟨j,(zds i▸J)⟩,qBm j,?_⟩
 exact Le.ct 0 0
def qEB (b:List bE):List bE->Nat->List bE->Option Marks
 | [],c,a =>
  some (Marks.mk b a)
 |f::e,c,a =>
  (qE2 f).bind fun d =>
  (qAl (qAg 24 (a.length+([d]).length))).bind fun g =>
  qEB b e (c+1) (a++[d])
def qEv (m:Marks):List bE->Nat->List bE->Option Marks
 | [],c,a =>
  qEB a m.ac 0 []
 |e::d,c,a =>
  (qE2 e).bind fun b =>
  (qAl (qAg 24 (a.length+([b]).length))).bind fun f =>
  qEv m d (c+1) (a++[b])
def qFq (m:Marks):Option Marks :=
 qEv m m.ah 0 []
theorem qJM (m:Marks) (r:Marks) (J:qFq m=some r):qAC prog 81 [.g (qJb m)] (.g (qJj r)):=by
 refine fns T func81 ?_
 refine go ?_
 refine AO.x (bxs T 1) ?_
 refine AO.x (als T 2) (go ?_)
 refine AO.x (als T 3) ?_
 refine AO.se T [.w 0 [],.w 0 []] ?_
 refine go ?_
 refine AW.loopS (fun s:Nat×(List bE)=>(⟨[(1,.p 1 0),(2,.p 2 0),(3,.p 3 0),(10,sv ze3 m.ah),(11,(m.ah.length:Int)),(12,(s.1:Int))],[(1,.box [sv ze3 m.ah,sv ze3 m.ac]),(2,.box [.w 0 [],.w 0 []]),(3,.box [.R 9,.w 0 []]),(9,ro 1 ze7 s.2)],40,[]⟩:St)) (fun s=>s.1<=m.ah.length/\qEv m (m.ah.drop s.1) s.1 s.2=some r) (fun s=>m.ah.length-s.1) (0,[]) ⟨Nat.zero_le _,J⟩ ?_ ?_
 refine Le.trans (Le.voidBox 3 0 9 1 rfl rfl rfl rfl) ?_
 exact Le.ct 0 0
 rintro⟨v,e⟩ ⟨z,J⟩
 try dsimp only at J⊢
 refine AW.boundM (t:=10) (l:=m.ah) rfl (fun C=>?_)
 rcases c:m.ah.drop v with _|⟨I,E⟩
 rw[c,qEv]at J
 have d:=qAG c
 refine go ?_
 refine AW.loopS (fun s:Nat×(List bE)=>(⟨[(2,.p 2 0),(3,.p 3 0),(25,sv ze3 m.ac),(26,(m.ac.length:Int)),(27,(s.1:Int))],[(2,.box [.w 0 [],.w 0 []]),(3,.box [.R 9,.R 15]),(9,ro 1 ze7 e),(15,ro 1 ze7 s.2)],40,[]⟩:St)) (fun s=>s.1<=m.ac.length/\qEB e (m.ac.drop s.1) s.1 s.2=some r) (fun s=>m.ac.length-s.1) (0,[]) ⟨Nat.zero_le _,J⟩ ?_ ?_
 refine Le.trans (Le.voidBox 3 1 15 1 rfl rfl rfl rfl) ?_
 exact Le.ct 0 0
 rintro⟨h,y⟩ ⟨z,J⟩
 try dsimp only at J⊢
 refine AW.boundM (t:=25) (l:=m.ac) rfl (fun A=>?_)
 rcases a:m.ac.drop h with _|⟨F,B⟩
 rw[a,qEB]at J
 have b:=qAG a
 refine go ?_
 refine AO.se T [.R 9,.R 15] ?_
 refine go ?_
 exact fin
 rw[a,qEB]at J
 have b:=qAF a
 refine go ?_
 obtain⟨i,k,G,n,J⟩:=qAE J
 refine AW.drawn 5 16 [] mix (by kernel_rfl) rfl ?_
 refine go ?_
 refine AD.q (FStep.call rfl rfl rfl rfl rfl (qHq _ _ (k)) rfl rfl) (qBD _ _) (qDi _ _) rfl ?_
 refine AD.kk (FStep.mk_o T rfl rfl rfl rfl rfl rfl rfl rfl (f:=ze7) (l:=[i]) (ids:=[16]) rfl rfl (fun _=>rfl) (by exact zC (.rowR rfl) (zCn)) (by decide) rfl rfl rfl rfl) ?_
 refine AD.nil (AO.x (qFc T rfl 18 rfl rfl rfl rfl rfl (by decide) rfl rfl rfl rfl rfl (qAJ (n)) rfl rfl) ?_)
 refine AO.pu T ?_
 refine AO.se T [.R 9,.R 18] ?_
 refine go ?_
 refine⟨(h+1,(y++[i])),⟨b,(zds a▸J)⟩,qBm b,?_⟩
 exact Le.ct 18 15
 rw[c,qEv]at J
 have d:=qAF c
 refine go ?_
 obtain⟨j,o,H,u,J⟩:=qAE J
 refine AW.drawn 5 19 [] mix (by kernel_rfl) rfl ?_
 refine go ?_
 refine AD.q (FStep.call rfl rfl rfl rfl rfl (qHq _ _ (o)) rfl rfl) (qBD _ _) (qDi _ _) rfl ?_
 refine AD.kk (FStep.mk_o T rfl rfl rfl rfl rfl rfl rfl rfl (f:=ze7) (l:=[j]) (ids:=[19]) rfl rfl (fun _=>rfl) (by exact zC (.rowR rfl) (zCn)) (by decide) rfl rfl rfl rfl) ?_
 refine AD.nil (AO.x (qFc T rfl 21 rfl rfl rfl rfl rfl (by decide) rfl rfl rfl rfl rfl (qAJ (u)) rfl rfl) ?_)
 refine AO.pu T ?_
 refine AO.se T [.R 21,.w 0 []] ?_
 refine go ?_
 refine⟨(v+1,(e++[j])),⟨d,(zds c▸J)⟩,qBm d,?_⟩
 exact Le.ct 21 9
def qAZ (p:Performance) (l:List Item):Option Performance :=
 (qHd l).bind fun a =>
 (qFq p.ae).bind fun b =>
 some (Performance.mk a b p.af)
theorem qGD (p:Performance) (l:List Item) (r:Performance) (J:qAZ p l=some r):qAC prog 55 [.g (ze9 p),.s (List.map ze2 l)] (.g (qJT r)):=by
 refine fns T func55 ?_
 refine go ?_
 refine AO.x (bxs T 1) ?_
 refine AO.x (als T 2) (go ?_)
 obtain⟨c,a,d,b,J⟩:=qAE J
 refine AW.drawn 7 3 [] mix (by kernel_rfl) rfl ?_
 refine AD.pu T ?_
 refine AD.q (FStep.call rfl rfl rfl rfl rfl (qK3 _ _ (a)) rfl rfl) (qBD _ _) (qDi _ _) rfl ?_
 refine go ?_
 refine AD.q (FStep.call rfl rfl rfl rfl rfl (qJM _ _ (b)) rfl rfl) (qBD _ _) (qDi _ _) rfl ?_
 refine go ?_
 refine AO.se T [.R 3,.R 4,.R 5,p.af.falls,p.af.an,p.af.aw] ?_
 refine go ?_
 exact fin
def qJC (a8:Nat) (c:Code) (p:Performance) (factor:Int) (item:Int) (name:Int) (mark:Int):Option Int :=
 (qAZ p p.ai).bind fun a =>
 (qAV a.ai item).bind fun b =>
 (qAV b.ae name).bind fun e =>
 (qDU a8 c (Performance.mk (a.ai.set item.toNat (Item.mk b.aj (b.ae.set name.toNat mark) b.aB)) a.ae a.af) factor).bind fun d =>
 some d
theorem qQM (a8:Nat) (c:Code) (p:Performance) (factor:Int) (item:Int) (name:Int) (mark:Int) (r:Int) (J:qJC a8 c p factor item name mark=some r):qAC prog 199 [.g (ze4 c),.g (ze9 p),factor,item,name,mark] (.v (.int .i64 r)):=by
 refine fns T func199 ?_
 refine gs2 ?_
 refine AO.x (bxs T 1) ?_
 refine AO.x (bxs T 2) ?_
 refine gs3 ?_
 obtain⟨a,e,J⟩:=zB J
 refine gs4 ?_
 refine AO.x (qAO rfl 3 rfl rfl rfl (qGD _ _ _ (e)) rfl rfl rfl) ?_
 refine AO.x (als T 6) ?_
 refine AO.se T [.R 3,.R 4,.R 5,a.af.falls,a.af.an,a.af.aw] ?_
 refine gs2 ?_
 obtain⟨b,d,j,f,J⟩:=qAE J
 refine AW.le (Le.openM 3 item.toNat 1 7 rfl (zgG (d)) rfl rfl) ?_
 refine gs4 ?_
 refine AO.w (qET T rfl rfl rfl rfl rfl rfl (d)) ?_
 refine AO.pu T ?_
 refine AO.w (qCb T rfl rfl rfl rfl rfl) ?_
 refine gs3 ?_
 refine AO.x (zSr T rfl rfl rfl rfl rfl (zgG (f)) rfl rfl rfl rfl (u':=mark) rfl rfl) ?_
 refine AO.le (Le.closeM 3 item.toNat 1 7 rfl rfl (zgG (d)) rfl (u':=(Item.mk b.aj (b.ae.set name.toNat mark) b.aB)) rfl) ?_
 refine gs2 ?_
 obtain⟨i,h,J⟩:=zB J
 refine gs4 ?_
 refine AO.w (zLV rfl rfl rfl (es:=[.g (ze4 c),.g (ze9 (Performance.mk (a.ai.set item.toNat (Item.mk b.aj (b.ae.set name.toNat mark) b.aB)) a.ae a.af)),factor]) ⟨.free rfl,qIK (LendL.cons ((.rowR rfl (.map fun y=>qGO y))) (LendL.cons ((.rowR rfl (.map fun y=>qAh y))) (LendL.cons ((.rowR rfl (.map fun y=>qAh y))) (LendL.cons (.free rfl) (LendL.cons (.free rfl) (LendL.cons (.free rfl) LendL.nil)))))),.free rfl,trivial⟩ (qHs a8 _ _ _ _ (h)) (qAj _) rfl) ?_
 refine gs2 ?_
 refine AW.le (Le.ct 0 0 (σ':=(⟨[(12,i)],[],31,[]⟩:St))) ?_
 refine AW.t ?_
 exact fin
def qBc (c:Code) (p:Performance) (factor:Int) (a8:Nat):List bE->Nat->bE->Int->Bool->Option ((Int×Int×Int×Bool))
 | [],h,a,b,d =>
  (qAV a 0).bind fun i =>
  (qAV a 1).bind fun j =>
  (qAV a 2).bind fun k =>
  some (i,j,k,d)
 |e::f,h,a,b,d =>
  (qAV e 0).bind fun l =>
  (qAV e 1).bind fun m =>
  (qAV e 2).bind fun n =>
  (qJC a8 c p factor l m n).bind fun g =>
  cond (decide (g>b))
   (qBc c p factor a8 f (h+1) e g true)
   (qBc c p factor a8 f (h+1) a b d)
def qFA (a8:Nat) (c:Code) (p:Performance) (factor:Int):Option (Int×Int×Int×Bool) :=
 (qHF a8 c p factor).bind fun a =>
 cond (!a)
  (some (0,0,0,false))
  ((qDU a8 c p factor).bind fun b =>
  (qL8 a8 p.ai).bind fun d =>
  qBc c p factor a8 d 0 ([0,0,0]:bE) b false)
theorem qNK (a8:Nat) (c:Code) (p:Performance) (factor:Int) (r:(Int×Int×Int×Bool)) (J:qFA a8 c p factor=some r):qAC prog 135 [.g (ze4 c),.g (ze9 p),factor] (.t [.v (.int .i64 r.1),.v (.int .i64 r.2.1),.v (.int .i64 r.2.2.1),.v (.bool r.2.2.2)]):=by
 refine fns T func135 ?_
 refine go ?_
 refine AO.x (bxs T 1) ?_
 refine AO.x (bxs T 2) (go ?_)
 obtain⟨Q,j,J⟩:=zB J
 refine go ?_
 refine AO.w (cVs (qLx a8 _ _ _ _ (j))) (go ?_)
 refine Cf J fun hc J=>?_
 refine go ?_
 refine AO.x (mks T 3 ze0 (([0,0,0]:bE))) (go ?_)
 obtain⟨k,m,J⟩:=zB J
 refine go ?_
 refine AO.w (cVs (qHs a8 _ _ _ _ (m))) (go ?_)
 obtain⟨e,n,J⟩:=zB J
 refine go ?_
 refine AO.x (qAO rfl 4 rfl rfl rfl (qRd a8 _ _ (n)) rfl rfl rfl) ?_
 refine gs3 ?_
 refine AW.le (Le.ct 0 0 (σ':=(⟨[(2,factor),(3,.p 1 0),(4,.p 2 0),(10,.R 3),(11,k),(12,.v (.bool false)),(28,.R 4),(29,(e.length:Int)),(30,(0:Int))],[(1,.box (ze4 c)),(2,.box (ze9 p)),(3,ro 1 ze0 ([0,0,0]:bE)),(4,ro 1 ze3 e)],63,[]⟩:St))) ?_
 refine AW.b (AW.loopS (fun s:Nat×bE×Int×Bool=>(⟨[(2,factor),(3,.p 1 0),(4,.p 2 0),(10,sv ze0 s.2.1),(11,s.2.2.1),(12,.v (.bool s.2.2.2)),(28,.R 4),(29,(e.length:Int)),(30,(s.1:Int))],[(1,.box (ze4 c)),(2,.box (ze9 p)),(4,ro 1 ze3 e)],63,[]⟩:St)) (fun s=>s.1<=e.length/\qBc c p factor a8 (e.drop s.1) s.1 s.2.1 s.2.2.1 s.2.2.2=some r) (fun s=>e.length-s.1) (0,([0,0,0]:bE),k,false) ⟨Nat.zero_le _,J⟩ ?_ ?_)
 refine Le.trans (Le.fM 3 (g:=ze0) rfl (fun y=>.vs rfl)) ?_
 exact Le.ct 0 0
 rintro⟨f,o,q,u⟩ ⟨S,J⟩
 try dsimp only at J⊢
 refine AW.boundR (id:=4) (l:=e) rfl (fun A=>?_)
 rcases a:e.drop f with _|⟨z,I⟩
 rw[a,qBc]at J
 have d:=qAG a
 refine go ?_
 obtain⟨K,B,L,C,M,E,J⟩:=qAq J
 refine AW.drawn 13 5 [] mix (by kernel_rfl) rfl ?_
 refine go ?_
 exact fin
 rw[a,qBc]at J
 have d:=qAF a
 refine go ?_
 refine AO.w (zLr T rfl rfl rfl rfl (zgG (zgD a)) rfl rfl rfl) (go ?_)
 obtain⟨N,F,O,G,P,H,J⟩:=qAq J
 obtain⟨h,i,J⟩:=zB J
 refine AW.drawn 12 5 [] mix (by kernel_rfl) rfl ?_
 refine go ?_
 refine AO.w (cVs (qQM a8 _ _ _ _ _ _ _ (i))) (go ?_)
 refine AW.cH J (fun _ J=>?_) (fun _ J=>?_)
 iterate 10 refine gs ?_
 refine AW.le (Le.ct 0 0 (σ':=(⟨[(2,factor),(3,.p 1 0),(4,.p 2 0),(10,sv ze0 z),(11,h),(28,.R 4),(29,(e.length:Int)),(30,(f:Int))],[(1,.box (ze4 c)),(2,.box (ze9 p)),(4,ro 1 ze3 e)],63,[]⟩:St))) ?_
 refine go ?_
 refine⟨(f+1,z,h,true),⟨d,(zds a▸J)⟩,qBm d,?_⟩
 exact Le.ct 0 0
 refine go ?_
 refine⟨(f+1,o,q,u),⟨d,(zds a▸J)⟩,qBm d,?_⟩
 exact Le.ct 0 0
def qKJ  : Option (List bD) :=
 some [(bz [110,111,110,101]),(bz [100,111,119,110]),(bz [101,100,103,101]),(bz [118,111,105,100])]
theorem qLy  (r:(List bD)) (J:qKJ=some r):qAC prog 136 [] (.w 1 (r.map ze1)):=by
 refine fns T func136 ?_
 refine go ?_
 refine AO.x (mks T 1 ze1 ([(bz [110,111,110,101]),(bz [100,111,119,110]),(bz [101,100,103,101]),(bz [118,111,105,100])])) (go ?_)
 exact fin
def qCm:bE->Nat->Int->Int->Option ((Int×Int))
 | [],d,b,a =>
  some (b,a)
 |e::c,d,b,a =>
  cond (decide (e>=0))
   (qCm c (d+1) (w64 (b+e)) (w64 (a+1)))
   (qCm c (d+1) b a)
def qIa (rA:Result):Option (Int×Int) :=
 qCm rA.ap 0 0 0
theorem qLY (rA:Result) (r:(Int×Int)) (J:qIa rA=some r):qAC prog 310 [.g (ze6 rA)] (.t [.v (.int .i64 r.1),.v (.int .i64 r.2)]):=by
 refine fns T func310 ?_
 refine go ?_
 refine AO.x (bxs T 1) (go ?_)
 refine AW.loopS (fun s:Nat×Int×Int=>(⟨[(4,s.2.1),(5,s.2.2),(9,sv ze0 rA.ap),(10,(rA.ap.length:Int)),(11,(s.1:Int))],[],25,[]⟩:St)) (fun s=>s.1<=rA.ap.length/\qCm (rA.ap.drop s.1) s.1 s.2.1 s.2.2=some r) (fun s=>rA.ap.length-s.1) (0,0,0) ⟨Nat.zero_le _,J⟩ ?_ ?_
 exact Le.ct 0 0
 rintro⟨d,e,c⟩ ⟨j,J⟩
 try dsimp only at J⊢
 refine AW.boundM (t:=9) (l:=rA.ap) rfl (fun h=>?_)
 rcases b:rA.ap.drop d with _|⟨f,i⟩
 rw[b,qCm]at J
 have a:=qAG b
 refine go ?_
 exact fin
 rw[b,qCm]at J
 have a:=qAF b
 refine go ?_
 refine AW.cH J (fun _ J=>?_) (fun _ J=>?_)
 refine go ?_
 refine⟨(d+1,w64 (e+f),w64 (c+1)),⟨a,(zds b▸J)⟩,qBm a,?_⟩
 exact Le.ct 0 0
 refine go ?_
 refine⟨(d+1,e,c),⟨a,(zds b▸J)⟩,qBm a,?_⟩
 exact Le.ct 0 0
def qE8 (n:Int):Option Int :=
 cond (decide (n>0))
  (some 1)
  (cond (decide (n<0))
   (some (-1))
   (some 0))
theorem qJ7 (n:Int) (r:Int) (J:qE8 n=some r):qAC prog 311 [n] (.v (.int .i64 r)):=by
 refine fns T func311 ?_
 refine go ?_
 refine Cf J fun hc J=>?_
 refine go ?_
 refine Cf J fun _ J=>?_
 refine go ?_
 exact fin
def qES (a:Result) (b:Result):Nat->Int->Option Int
 |0,_=>none
 |g+1,c =>
  cond (decide (c>=0))
   ((qAV a.ap c).bind fun d =>
   (qAV b.ap c).bind fun e =>
   cond (d != e)
    ((qE8 (w64 (d-e))).bind fun f =>
    some f)
    (qES a b g (w64 (c-1))))
   (some 0)
def qHI (a8:Nat) (a:Result) (b:Result):Option Int :=
 (qIa a).bind fun c =>
 (qIa b).bind fun d =>
 cond (c.2 != d.2)
  ((qE8 (w64 (c.2-d.2))).bind fun e =>
  some e)
  (cond (c.1 != d.1)
   ((qE8 (w64 (c.1-d.1))).bind fun f =>
   some f)
   (qES a b a8 (w64 ((a.ap.length:Int)-1))))
theorem qOT (a8:Nat) (a:Result) (b:Result) (r:Int) (J:qHI a8 a b=some r):qAC prog 260 [.g (ze6 a),.g (ze6 b)] (.v (.int .i64 r)):=by
 refine fns T func260 ?_
 refine go ?_
 refine AO.x (bxs T 1) ?_
 refine AO.x (bxs T 2) (go ?_)
 obtain⟨z,e,J⟩:=zB J
 refine go ?_
 refine AO.w (cVs (qLY _ _ (e))) (go ?_)
 obtain⟨A,f,J⟩:=zB J
 refine go ?_
 refine AO.w (cVs (qLY _ _ (f))) (go ?_)
 refine AW.cH J (fun _ J=>?_) (fun hc J=>?_)
 refine AW.q ?_
 obtain⟨l,h,J⟩:=zB J
 refine go ?_
 refine AO.w (cVs (qJ7 _ _ (h))) ?_
 refine gs2 ?_
 refine AW.le (Le.ct 0 0 (σ':=(⟨[(4,l)],[],65,[]⟩:St))) ?_
 refine AW.t ?_
 exact fin
 refine go ?_
 refine AW.cH J (fun _ J=>?_) (fun hc J=>?_)
 refine AW.q ?_
 obtain⟨m,i,J⟩:=zB J
 refine go ?_
 refine AO.w (cVs (qJ7 _ _ (i))) ?_
 refine gs2 ?_
 refine AW.le (Le.ct 0 0 (σ':=(⟨[(4,m)],[],65,[]⟩:St))) ?_
 refine AW.t ?_
 exact fin
 iterate 10 refine gs ?_
 refine AW.le (Le.ct 0 0 (σ':=(⟨[(2,.p 1 0),(3,.p 2 0),(9,w64 ((a.ap.length:Int)-1))],[(1,.box [a.ax,sv ze0 a.ap]),(2,.box [b.ax,sv ze0 b.ap])],65,[]⟩:St))) ?_
 refine AW.b (AW.loopS (fun s:Nat×Int=>(⟨[(2,.p 1 0),(3,.p 2 0),(9,s.2)],[(1,.box [a.ax,sv ze0 a.ap]),(2,.box [b.ax,sv ze0 b.ap])],65,[]⟩:St)) (fun s=>qES a b s.1 s.2=some r) (fun s=>s.1) (a8,w64 ((a.ap.length:Int)-1)) J ?_ ?_)
 exact Le.ct 0 0
 rintro⟨c,j⟩ J
 try dsimp only at J⊢
 rcases c with _|c
 cases (show none=some _ from J)
 rw[qES]at J
 refine go ?_
 refine AW.cH J (fun hc J=>?_) (fun _ J=>?_)
 refine go ?_
 obtain⟨u,n,y,o,J⟩:=qAE J
 refine AW.drawn 10 3 [] mix (by kernel_rfl) rfl ?_
 refine go ?_
 refine AW.cH J (fun _ J=>?_) (fun hc J=>?_)
 refine AW.q ?_
 obtain⟨k,d,J⟩:=zB J
 refine AW.drawn 10 3 [] mix (by kernel_rfl) rfl ?_
 refine go ?_
 refine AO.w (cVs (qJ7 _ _ (d))) ?_
 refine gs2 ?_
 refine AW.le (Le.ct 0 0 (σ':=(⟨[(4,k)],[],65,[]⟩:St))) ?_
 refine AW.t ?_
 exact fin
 refine go ?_
 refine⟨(c,w64 (j-1)),J,Nat.lt_succ_self _,?_⟩
 exact Le.ct 0 0
 refine go ?_
 exact fin
def qBd (l:List Result) (i:Int) (a8:Nat):List Result->Nat->Int->Option Int
 | [],c,a =>
  some a
 |f::b,c,a =>
  (qAV l i).bind fun d =>
  (qHI a8 f d).bind fun e =>
  cond (decide (e>0))
   (qBd l i a8 b (c+1) (w64 (a+1)))
   (qBd l i a8 b (c+1) a)
def qCf (a8:Nat) (l:List Result) (i:Int):Option Int :=
 qBd l i a8 l 0 1
theorem qL3 (a8:Nat) (l:List Result) (i:Int) (r:Int) (J:qCf a8 l i=some r):qAC prog 200 [.s (List.map ze6 l),i] (.v (.int .i64 r)):=by
 refine fns T func200 ?_
 refine go ?_
 refine AW.loopS (fun s:Nat×Int=>(⟨[(0,sv ze6 l),(1,i),(5,s.2),(8,sv ze6 l),(9,(l.length:Int)),(10,(s.1:Int))],[],25,[]⟩:St)) (fun s=>s.1<=l.length/\qBd l i a8 (l.drop s.1) s.1 s.2=some r) (fun s=>l.length-s.1) (0,1) ⟨Nat.zero_le _,J⟩ ?_ ?_
 exact Le.ct 0 0
 rintro⟨d,c⟩ ⟨n,J⟩
 try dsimp only at J⊢
 refine AW.boundM (t:=0) (l:=l) rfl (fun h=>?_)
 rcases b:l.drop d with _|⟨f,j⟩
 rw[b,qBd]at J
 have a:=qAG b
 refine go ?_
 exact fin
 rw[b,qBd]at J
 have a:=qAF b
 refine go ?_
 refine AO.x (als T 3) ?_
 refine AO.se T [f.ax,sv ze0 f.ap] ?_
 refine go ?_
 obtain⟨k,g,m,e,J⟩:=qAE J
 refine AW.drawn 5 4 [] mix (by kernel_rfl) rfl ?_
 refine go ?_
 refine AO.w (cVs (qOT a8 _ _ _ (e))) (go ?_)
 refine AW.cH J (fun _ J=>?_) (fun _ J=>?_)
 refine go ?_
 refine⟨(d+1,w64 (c+1)),⟨a,(zds b▸J)⟩,qBm a,?_⟩
 exact Le.ct 0 0
 refine go ?_
 refine⟨(d+1,c),⟨a,(zds b▸J)⟩,qBm a,?_⟩
 exact Le.ct 0 0
def qC7 (l:List Result) (a8:Nat):List Result->Nat->bE->Option ((bE))
 | [],c,a =>
  some a
 |f::d,c,a =>
  (qCf a8 l (c:Int)).bind fun b =>
  (qAl (qAg 8 (a.length+([b]).length))).bind fun e =>
  qC7 l a8 d (c+1) (a++[b])
def qHw (a8:Nat) (l:List Result):Option bE :=
 qC7 l a8 l 0 []
theorem qPA (a8:Nat) (l:List Result) (r:(bE)) (J:qHw a8 l=some r):qAC prog 137 [.s (List.map ze6 l)] (.w 1 (r.map ze0)):=by
 refine fns T func137 ?_
 refine go ?_
 refine AW.loopS (fun s:Nat×(bE)=>(⟨[(0,sv ze6 l),(3,.R 4),(6,(l.length:Int)),(7,(s.1:Int))],[(4,ro 1 ze0 s.2)],18,[]⟩:St)) (fun s=>s.1<=l.length/\qC7 l a8 (l.drop s.1) s.1 s.2=some r) (fun s=>l.length-s.1) (0,[]) ⟨Nat.zero_le _,J⟩ ?_ ?_
 refine Le.trans (Le.void 3 4 1 rfl rfl) ?_
 exact Le.ct 0 0
 rintro⟨f,g⟩ ⟨k,J⟩
 try dsimp only at J⊢
 refine AW.boundM (t:=0) (l:=l) rfl (fun h=>?_)
 rcases a:l.drop f with _|⟨m,i⟩
 rw[a,qC7]at J
 have b:=qAG a
 refine go ?_
 exact fin
 rw[a,qC7]at J
 have b:=qAF a
 refine go ?_
 obtain⟨c,d,j,e,J⟩:=qAE J
 refine go ?_
 refine AO.w (cVs (qL3 a8 _ _ _ (d))) ?_
 refine AO.x (mks T 5 ze0 ([c])) ?_
 refine AO.x (rvs T 6 (hfit:=by exact qAJ (e))) (go ?_)
 refine⟨(f+1,(g++[c])),⟨b,(zds a▸J)⟩,qBm b,?_⟩
 exact Le.ct 6 4
def qAY (a8:Nat) (x:CsState) (w:bD):Option (CsState×bD) :=
 cond (decide (w=(bz [108,97,116,101])))
  ((qHo a8 x.p.ai).bind fun m =>
  some ((CsState.mk x.ag (Performance.mk m x.p.ae x.p.af) x.am x.ak x.no x.aA x.aF),(bz [111,107])))
  (cond (decide (w=(bz [99,104,101,99,107])))
   ((qHm a8 x.ag x.p.ai).bind fun n =>
   (qBN a8 n).bind fun o =>
   some (x,o))
   (cond (decide (w=(bz [98,97,115,101])))
    ((qHj x.ag x.p.ai).bind fun d =>
    (qDo a8 d).bind fun e =>
    some (x,e))
    (cond (decide (w=(bz [115,99,111,114,101])))
     ((qGH a8 x.ag x.p x.am).bind fun f =>
     (qBN a8 f).bind fun g =>
     some (x,g))
     (cond (decide (w=(bz [98,111,117,110,100])))
      ((qEd a8 x.ag x.p x.am).bind fun h =>
      (qDo a8 h.1).bind fun i =>
      some (x,i))
      (cond (decide (w=(bz [98,101,115,116])))
       ((qFA a8 x.ag x.p x.am).bind fun a =>
       cond (!a.2.2.2)
        (some (x,(bz [110,111,110,101])))
        ((qBN a8 [a.1,a.2.1]).bind fun b =>
        (qAl (Nat.ble (b.size+(bz [32]).size) qDF)).bind fun q =>
        (qKJ ).bind fun j =>
        (qAV j a.2.2.1).bind fun c =>
        (qAl (Nat.ble ((b++(bz [32])).size+c.size) qDF)).bind fun r =>
        some (x,((b++(bz [32]))++c))))
       (cond (decide (w=(bz [112,108,97,99,101,115])))
        ((qHw a8 x.ak).bind fun k =>
        (qBN a8 k).bind fun l =>
        some (x,l))
        (some (x,(bz [119,104,97,116])))))))))
theorem qLl (a8:Nat) (x:CsState) (w:bD) (r:(CsState×bD)) (J:qAY a8 x w=some r):qGM prog 103 [.pn (qGi x),.v (.string w)] [.pn (qGi r.1),.u] (.v (.string r.2)):=by
 refine qJU T func103 rfl (by decide) rfl rfl [.p 1 0,.v (.string w)] [(1,.box (ze8 x 2 3)),(3,ro 1 ze0 x.aA),(2,ro 1 ze0 x.no)] 4 (by kernel_rfl) [1] rfl rfl ?_
 intro L
 show AW _ _ _ (⟨[(0,.p 1 0),(1,.v (.string w))],[(1,.box (ze8 x 2 3)),(3,ro 1 ze0 x.aA),(2,ro 1 ze0 x.no)],126,[(1,L 1)]⟩:St)
 refine go ?_
 refine AW.cH J (fun _ J=>?_) (fun _ J=>?_)
 refine AW.q ?_
 obtain⟨V,z,J⟩:=zB J
 refine go ?_
 refine AO.x (qAO rfl 4 rfl rfl rfl (qQd a8 _ _ (z)) rfl rfl rfl) (go ?_)
 refine AO.se T [sv ze5 x.ag.ad,sv ze0 x.ag.ar,x.ag.aq,x.ag.av,x.ag.au,x.ag.ay,.R 4,sv ze3 x.p.ae.ah,sv ze3 x.p.ae.ac,x.p.af.falls,x.p.af.an,x.p.af.aw,x.am,sv ze6 x.ak,.R 2,.R 3,x.aF] ?_
 refine gs5 ?_
 refine AW.le (Le.fM 4 (g:=ze2) rfl (fun y=>qGO y)) ?_
 refine AW.t ?_
 exact qDO
 refine go ?_
 refine AW.cH J (fun _ J=>?_) (fun _ J=>?_)
 refine AW.q ?_
 obtain⟨H,A,W,B,J⟩:=qAE J
 refine AW.drawn 9 5 [] mix (by kernel_rfl) rfl ?_
 refine go ?_
 refine AO.x (qAO rfl 5 rfl rfl rfl (qPF a8 _ _ _ (A)) rfl rfl rfl) ?_
 refine AO.w (zLV rfl rfl rfl (es:=[sv ze0 H]) ⟨(.rowR rfl (.map fun y=>.vs rfl)),trivial⟩ (qGV a8 _ _ (B)) (qAj _) rfl) (go ?_)
 exact qDO
 refine go ?_
 refine AW.cH J (fun _ J=>?_) (fun _ J=>?_)
 refine AW.q ?_
 obtain⟨I,b,K,c,J⟩:=qAE J
 refine AW.drawn 9 6 [] mix (by kernel_rfl) rfl ?_
 refine go ?_
 refine AO.w (cVs (qQY _ _ _ (b))) ?_
 refine AO.w (cVs (qIE a8 _ _ (c))) (go ?_)
 exact qDO
 refine go ?_
 refine AW.cH J (fun _ J=>?_) (fun _ J=>?_)
 refine AW.q ?_
 obtain⟨C,d,E,e,J⟩:=qAE J
 refine AW.drawn 12 6 [] mix (by kernel_rfl) rfl ?_
 refine go ?_
 refine AO.x (qAO rfl 6 rfl rfl rfl (qLq a8 _ _ _ _ (d)) rfl rfl rfl) ?_
 refine AO.w (zLV rfl rfl rfl (es:=[sv ze0 C]) ⟨(.rowR rfl (.map fun y=>.vs rfl)),trivial⟩ (qGV a8 _ _ (e)) (qAj _) rfl) ?_
 refine gs2 ?_
 refine AW.le (Le.ct 0 0 (σ':=(⟨[(4,.v (.string E))],[(1,.box (ze8 x 2 3)),(2,ro 1 ze0 x.no),(3,ro 1 ze0 x.aA)],126,[(1,L 1)]⟩:St)) (hpin:=⟨⟨rfl,rfl⟩,trivial⟩)) ?_
 refine AW.t ?_
 exact qDO
 refine go ?_
 refine AW.cH J (fun _ J=>?_) (fun _ J=>?_)
 refine AW.q ?_
 obtain⟨F,f,J⟩:=zB J
 refine AW.drawn 17 7 [] mix (by kernel_rfl) rfl ?_
 refine go ?_
 refine AD.vv (cVs (qMT a8 _ _ _ _ (f))) ?_
 refine gs7 ?_
 refine AW.le (Le.ct 0 0 (σ':=(⟨[(5,F.1)],[(1,.box (ze8 x 2 3)),(2,ro 1 ze0 x.no),(3,ro 1 ze0 x.aA)],126,[(1,L 1)]⟩:St)) (hpin:=⟨⟨rfl,rfl⟩,trivial⟩)) ?_
 refine AW.q ?_
 obtain⟨M,h,J⟩:=zB J
 refine go ?_
 refine AO.w (cVs (qIE a8 _ _ (h))) (go ?_)
 exact qDO
 refine go ?_
 refine AW.cH J (fun _ J=>?_) (fun _ J=>?_)
 refine AW.q ?_
 obtain⟨a,i,J⟩:=zB J
 refine AW.drawn 21 7 [] mix (by kernel_rfl) rfl ?_
 refine go ?_
 refine AD.vv (cVs (qNK a8 _ _ _ _ (i))) ?_
 iterate 11 refine gs ?_
 refine AW.le (Le.ct 0 0 (σ':=(⟨[(7,a.1),(8,a.2.1),(9,a.2.2.1),(10,.v (.bool a.2.2.2))],[(1,.box (ze8 x 2 3)),(2,ro 1 ze0 x.no),(3,ro 1 ze0 x.aA)],126,[(1,L 1)]⟩:St)) (hpin:=⟨⟨rfl,rfl⟩,trivial⟩)) ?_
 refine go ?_
 refine AW.cH J (fun _ J=>?_) (fun _ J=>?_)
 refine go ?_
 exact qDO
 refine go ?_
 obtain⟨N,j,O,k,P,l,J⟩:=qAq J
 obtain⟨Q,m,S,n,J⟩:=qAE J
 refine go ?_
 refine AO.x (mks T 7 ze0 ([a.1,a.2.1])) ?_
 refine AO.w (zLV rfl rfl rfl (es:=[sv ze0 [a.1,a.2.1]]) ⟨(.rowR rfl (.map fun y=>.vs rfl)),trivial⟩ (qGV a8 _ _ (j)) (qAj _) rfl) ?_
 refine AO.w (qAP rfl rfl rfl (Nat.le_of_ble_eq_true (qAJ (k)))) ?_
 refine AO.x (qAO rfl 8 rfl rfl rfl (qLy _ (l)) rfl rfl rfl) (go ?_)
 refine AO.w (zLr T rfl rfl rfl rfl (zgG (m)) rfl rfl rfl) ?_
 refine AO.w (qAP rfl rfl rfl (Nat.le_of_ble_eq_true (qAJ (n)))) (go ?_)
 exact qDO
 refine go ?_
 refine AW.cH J (fun _ J=>?_) (fun _ J=>?_)
 refine AW.q ?_
 obtain⟨G,o,U,s,J⟩:=qAE J
 refine go ?_
 refine AO.x (qAO rfl 9 rfl rfl rfl (qPA a8 _ _ (o)) rfl rfl rfl) ?_
 refine AO.w (zLV rfl rfl rfl (es:=[sv ze0 G]) ⟨(.rowR rfl (.map fun y=>.vs rfl)),trivial⟩ (qGV a8 _ _ (s)) (qAj _) rfl) (go ?_)
 exact qDO
 refine go ?_
 exact qDO
def qEG  : Option (List bD) :=
 some [(⟨#[]⟩:bD),(bz [60]),(bz [101]),(bz [42])]
theorem qHi  (r:(List bD)) (J:qEG=some r):qAC prog 201 [] (.w 1 (r.map ze1)):=by
 refine fns T func201 ?_
 refine go ?_
 refine AO.x (mks T 1 ze1 ([(⟨#[]⟩:bD),(bz [60]),(bz [101]),(bz [42])])) (go ?_)
 exact fin
def qDP (it:Item):List bD->Nat->bD->Option bD
 | [],b,a =>
  cond it.aB
   ((qAl (Nat.ble (a.size+(bz [32,120]).size) qDF)).bind fun k =>
   some (a++(bz [32,120])))
   (some a)
 |c::f,b,a =>
  cond (decide ((b:Int)>0))
   ((qAl (Nat.ble (a.size+(bz [43]).size) qDF)).bind fun l =>
   (qEG ).bind fun g =>
   (qAV it.ae (b:Int)).bind fun h =>
   (qAV g h).bind fun d =>
   (qAl (Nat.ble (c.size+d.size) qDF)).bind fun m =>
   (qAl (Nat.ble ((a++(bz [43])).size+(c++d).size) qDF)).bind fun n =>
   qDP it f (b+1) ((a++(bz [43]))++(c++d)))
   ((qEG ).bind fun i =>
   (qAV it.ae (b:Int)).bind fun j =>
   (qAV i j).bind fun e =>
   (qAl (Nat.ble (c.size+e.size) qDF)).bind fun o =>
   (qAl (Nat.ble (a.size+(c++e).size) qDF)).bind fun p =>
   qDP it f (b+1) (a++(c++e)))
def qH8 (it:Item):Option bD :=
 qDP it it.aj 0 (⟨#[]⟩:bD)
theorem qMg (it:Item) (r:bD) (J:qH8 it=some r):qAC prog 203 [.g (ze2 it)] (.v (.string r)):=by
 refine fns T func203 ?_
 refine go ?_
 refine AO.x (bxs T 1) (go ?_)
 refine AW.loopS (fun s:Nat×bD=>(⟨[(1,.p 1 0),(3,.v (.string s.2)),(7,sv ze1 it.aj),(8,(it.aj.length:Int)),(9,(s.1:Int))],[(1,.box [sv ze1 it.aj,sv ze0 it.ae,.v (.bool it.aB)])],36,[]⟩:St)) (fun s=>s.1<=it.aj.length/\qDP it (it.aj.drop s.1) s.1 s.2=some r) (fun s=>it.aj.length-s.1) (0,(⟨#[]⟩:bD)) ⟨Nat.zero_le _,J⟩ ?_ ?_
 exact Le.ct 0 0
 rintro⟨f,c⟩ ⟨S,J⟩
 try dsimp only at J⊢
 refine AW.boundM (t:=7) (l:=it.aj) rfl (fun F=>?_)
 rcases b:it.aj.drop f with _|⟨i,G⟩
 rw[b,qDP]at J
 have a:=qAG b
 refine go ?_
 refine AW.cH J (fun _ J=>?_) (fun hc J=>?_)
 obtain⟨H,j,J⟩:=zB J
 refine go ?_
 refine AO.w (qAP rfl rfl rfl (Nat.le_of_ble_eq_true (qAJ (j)))) (go ?_)
 exact fin
 refine go ?_
 exact fin
 rw[b,qDP]at J
 have a:=qAF b
 refine go ?_
 refine AW.cH J (fun _ J=>?_) (fun _ J=>?_)
 obtain⟨I,m,J⟩:=zB J
 refine go ?_
 refine AO.w (qAP rfl rfl rfl (Nat.le_of_ble_eq_true (qAJ (m)))) (go ?_)
 obtain⟨K,n,L,C,h,d,J⟩:=qAq J
 obtain⟨M,o,N,u,J⟩:=qAE J
 refine AW.drawn 11 6 [] mix (by kernel_rfl) rfl ?_
 refine go ?_
 refine AD.q (FStep.call rfl rfl rfl rfl rfl (qHi _ (n)) rfl rfl) (qBD _ _) (qDi _ _) rfl ?_
 refine go ?_
 refine AD.vald rfl rfl rfl (zXr T rfl rfl rfl rfl rfl rfl (d)) ?_
 refine AD.vald rfl rfl rfl (zLr T rfl rfl rfl rfl (zgG (d)) rfl rfl rfl) ?_
 refine AD.vv (qAP rfl rfl rfl (Nat.le_of_ble_eq_true (qAJ (o)))) ?_
 refine AD.nil (AO.w (qAP rfl rfl rfl (Nat.le_of_ble_eq_true (qAJ (u)))) ?_)
 refine gs2 ?_
 refine AW.le (Le.ct 0 0 (σ':=(⟨[(1,.p 1 0),(3,.v (.string ((c++(bz [43]))++(i++h)))),(7,sv ze1 it.aj),(8,(it.aj.length:Int)),(9,(f:Int))],[(1,.box [sv ze1 it.aj,sv ze0 it.ae,.v (.bool it.aB)])],36,[]⟩:St))) ?_
 refine go ?_
 refine⟨(f+1,((c++(bz [43]))++(i++h))),⟨a,(zds b▸J)⟩,qBm a,?_⟩
 exact Le.ct 0 0
 refine AW.k ?_
 obtain⟨O,y,P,E,B,e,J⟩:=qAq J
 obtain⟨Q,z,R,A,J⟩:=qAE J
 refine AW.drawn 11 7 [] mix (by kernel_rfl) rfl ?_
 refine go ?_
 refine AD.q (FStep.call rfl rfl rfl rfl rfl (qHi _ (y)) rfl rfl) (qBD _ _) (qDi _ _) rfl ?_
 refine go ?_
 refine AD.vald rfl rfl rfl (zXr T rfl rfl rfl rfl rfl rfl (e)) ?_
 refine AD.vald rfl rfl rfl (zLr T rfl rfl rfl rfl (zgG (e)) rfl rfl rfl) ?_
 refine AD.vv (qAP rfl rfl rfl (Nat.le_of_ble_eq_true (qAJ (z)))) ?_
 refine AD.nil (AO.w (qAP rfl rfl rfl (Nat.le_of_ble_eq_true (qAJ (A)))) (go ?_))
 refine⟨(f+1,(c++(i++B))),⟨a,(zds b▸J)⟩,qBm a,?_⟩
 exact Le.ct 0 0
def qCG (a:bD) (c:List bD) (d:bE):List bD->Nat->Int->Option ((List bD)×(bE))
 | [],e,b =>
  cond (decide (b>0))
   ((qAl (inB 0 (w64 ((a.size:Int)-1)) a.size)).bind fun h =>
   (qAl (qAg 16 (c.length+([(ByteArray.extract a 0 (w64 ((a.size:Int)-1)).toNat)]).length))).bind fun i =>
   (qAl (qAg 8 (d.length+([b]).length))).bind fun j =>
   some ((c++[(ByteArray.extract a 0 (w64 ((a.size:Int)-1)).toNat)]),(d++[b])))
   ((qAl (qAg 16 (c.length+([a]).length))).bind fun k =>
   (qAl (qAg 8 (d.length+([b]).length))).bind fun l =>
   some ((c++[a]),(d++[b])))
 |g::f,e,b =>
  (opt (decide ((e:Int)>0)&&decide ((a.size:Int)>0)) default (qAl (inB (w64 ((a.size:Int)-1)) a.size a.size))).bind fun m =>
  cond ((decide ((e:Int)>0)&&decide ((a.size:Int)>0))&&decide ((ByteArray.extract a (w64 ((a.size:Int)-1)).toNat a.size)=g))
   (qCG a c d f (e+1) (e:Int))
   (qCG a c d f (e+1) b)
def qCF (sA:bD) (a8:Nat):List bD->Nat->List bD->bE->Option ((Item×Bool))
 | [],i,a,b =>
  (qEA a8 (Item.mk a b true)).bind fun c =>
  (opt (!(!c)) default (qH8 (Item.mk a b true))).bind fun d =>
  cond ((!c)||(!decide (d=sA)))
   (some ((Item.mk [] [] false),false))
   (some ((Item.mk a b true),true))
 |j::e,i,a,b =>
  ((qEG ).bind fun f =>
  qCG j a b f 0 0).bind fun (g,h) =>
  qCF sA a8 e (i+1) g h
def qCO (a:bD) (c:List bD) (d:bE):List bD->Nat->Int->Option ((List bD)×(bE))
 | [],e,b =>
  cond (decide (b>0))
   ((qAl (inB 0 (w64 ((a.size:Int)-1)) a.size)).bind fun h =>
   (qAl (qAg 16 (c.length+([(ByteArray.extract a 0 (w64 ((a.size:Int)-1)).toNat)]).length))).bind fun i =>
   (qAl (qAg 8 (d.length+([b]).length))).bind fun j =>
   some ((c++[(ByteArray.extract a 0 (w64 ((a.size:Int)-1)).toNat)]),(d++[b])))
   ((qAl (qAg 16 (c.length+([a]).length))).bind fun k =>
   (qAl (qAg 8 (d.length+([b]).length))).bind fun l =>
   some ((c++[a]),(d++[b])))
 |g::f,e,b =>
  (opt (decide ((e:Int)>0)&&decide ((a.size:Int)>0)) default (qAl (inB (w64 ((a.size:Int)-1)) a.size a.size))).bind fun m =>
  cond ((decide ((e:Int)>0)&&decide ((a.size:Int)>0))&&decide ((ByteArray.extract a (w64 ((a.size:Int)-1)).toNat a.size)=g))
   (qCO a c d f (e+1) (e:Int))
   (qCO a c d f (e+1) b)
def qCK (sA:bD) (a8:Nat):List bD->Nat->List bD->bE->Option ((Item×Bool))
 | [],c,a,b =>
  (qEA a8 (Item.mk a b false)).bind fun d =>
  (opt (!(!d)) default (qH8 (Item.mk a b false))).bind fun f =>
  cond ((!d)||(!decide (f=sA)))
   (some ((Item.mk [] [] false),false))
   (some ((Item.mk a b false),true))
 |g::e,c,a,b =>
  ((qEG ).bind fun h =>
  qCO g a b h 0 0).bind fun (i,j) =>
  qCK sA a8 e (c+1) i j
def qHC (a8:Nat) (sA:bD):Option (Item×Bool) :=
 (opt (decide ((sA.size:Int)>=2)) default (qAl (inB (w64 ((sA.size:Int)-2)) sA.size sA.size))).bind fun c =>
 cond (decide ((sA.size:Int)>=2)&&decide ((ByteArray.extract sA (w64 ((sA.size:Int)-2)).toNat sA.size)=(bz [32,120])))
  ((qAl (inB 0 (w64 ((sA.size:Int)-2)) sA.size)).bind fun d =>
  (qA8 a8 (ByteArray.extract sA 0 (w64 ((sA.size:Int)-2)).toNat) 43).bind fun b =>
  qCF sA a8 b 0 [] [])
  ((qA8 a8 sA 43).bind fun a =>
  qCK sA a8 a 0 [] [])
theorem qPb (a8:Nat) (sA:bD) (r:(Item×Bool)) (J:qHC a8 sA=some r):qAC prog 138 [.v (.string sA)] (.t [.g (qBn r.1),.v (.bool r.2)]):=by
 refine fns T func138 ?_
 refine gs2 ?_
 refine AO.x (als T 1) ?_
 refine gs5 ?_
 refine AO.x (als T 2) ?_
 refine AO.se T [.w 0 [],.w 0 [],.v (.bool false)] ?_
 refine gs8 ?_
 obtain⟨u1,aq,J⟩:=zB J
 refine gs5 ?_
 refine AO.g0 T ?_
 refine AO.g0 T ?_
 refine AO.g1 T 18 ?_
 refine AO.d1 19 (fun hg=>aws) ?_
 refine AO.d2 17 20 (fun hg=>qFk T rfl rfl rfl rfl (qAJ (qD7 aq hg))) ?_
 refine AO.g1 T 21 ?_
 refine gs2 ?_
 refine AW.cH J (fun _ J=>?_) (fun _ J=>?_)
 refine gs3 ?_
 refine AO.se T [.w 0 [],.w 0 [],.v (.bool true)] ?_
 refine AO.n ?_
 obtain⟨u4,ar,J⟩:=zB J
 refine gs5 ?_
 refine AO.w (qFo T rfl rfl rfl rfl (qAJ (ar))) ?_
 refine gs2 ?_
 refine AW.le (Le.ct 0 0 (σ':=(⟨[(0,.v (.string sA)),(2,.p 1 0),(4,.p 2 0),(5,.v (.string (ByteArray.extract sA 0 (w64 ((sA.size:Int)-2)).toNat)))],[(1,.box [.w 0 [],.w 0 [],.v (.bool false)]),(2,.box [.w 0 [],.w 0 [],.v (.bool true)])],93,[]⟩:St))) ?_
 refine gs2 ?_
 obtain⟨b,au,J⟩:=zB J
 refine gs2 ?_
 refine AO.x (qAO rfl 3 rfl rfl rfl (qH4 a8 _ _ _ (au)) rfl rfl rfl) ?_
 refine gs4 ?_
 refine AW.loopS (fun s:Nat×(List bD)×(bE)=>(⟨[(0,.v (.string sA)),(2,.p 1 0),(4,.p 2 0),(31,.R 3),(32,(b.length:Int)),(33,(s.1:Int))],[(1,.box [.w 0 [],.w 0 [],.v (.bool false)]),(2,.box [.R 24,.R 26,.v (.bool true)]),(3,ro 1 ze1 b),(24,ro 1 ze1 s.2.1),(26,ro 1 ze0 s.2.2)],93,[]⟩:St)) (fun s=>s.1<=b.length/\qCF sA a8 (b.drop s.1) s.1 s.2.1 s.2.2=some r) (fun s=>b.length-s.1) (0,[],[]) ⟨Nat.zero_le _,J⟩ ?_ ?_
 refine Le.trans (Le.voidBox 2 0 24 1 rfl rfl rfl rfl) ?_
 refine Le.trans (Le.voidBox 2 1 26 1 rfl rfl rfl rfl) ?_
 exact Le.ct 0 0
 rintro⟨L,q,u⟩ ⟨hk,J⟩
 try dsimp only at J⊢
 refine AW.boundR (id:=3) (l:=b) rfl (fun aB=>?_)
 rcases B:b.drop L with _|⟨I,aC⟩
 rw[B,qCF]at J
 have K:=qAG B
 refine gs9 ?_
 obtain⟨aD,U,aE,V,J⟩:=qAE J
 refine gs2 ?_
 refine AO.w (zLV rfl rfl rfl (es:=[.g (ze2 (Item.mk q u true))]) ⟨qIK (LendL.cons ((.rowR rfl (.map fun y=>.vs rfl))) (LendL.cons ((.rowR rfl (.map fun y=>.vs rfl))) (LendL.cons (.free rfl) LendL.nil))),trivial⟩ (qKH a8 _ _ (U)) (qAj _) rfl) ?_
 refine gs2 ?_
 refine AO.g T (d:=.g [.R 24,.R 26,.v (.bool true)]) [] rfl trivial rfl rfl ?_
 refine AO.d1 86 (fun hg=>zLV rfl rfl rfl (es:=[.g (ze2 (Item.mk q u true))]) ⟨qIK (LendL.cons ((.rowR rfl (.map fun y=>.vs rfl))) (LendL.cons ((.rowR rfl (.map fun y=>.vs rfl))) (LendL.cons (.free rfl) LendL.nil))),trivial⟩ (qMg _ _ (qD7 V hg)) (qAj _) rfl) ?_
 refine AO.g0 T ?_
 refine AO.g2 T 87 88 ?_
 refine gs2 ?_
 refine AW.cH J (fun _ J=>?_) (fun hc J=>?_)
 refine gs3 ?_
 refine AO.se T [.w 0 [],.w 0 [],.v (.bool false)] ?_
 refine gs3 ?_
 exact fin
 refine gs4 ?_
 refine AO.se T [.R 24,.R 26,.v (.bool true)] ?_
 refine gs3 ?_
 exact fin
 rw[B,qCF]at J
 have K:=qAF B
 refine gs7 ?_
 obtain⟨M,J,W⟩:=zB J
 refine AW.seqJ (fun s:(List bD)×(bE)=>(⟨[(0,.v (.string sA)),(2,.p 1 0),(4,.p 2 0),(31,.R 3),(32,(b.length:Int)),(33,(L:Int))],[(1,.box [.w 0 [],.w 0 [],.v (.bool false)]),(2,.box [.R 42,.R 44,.v (.bool true)]),(3,ro 1 ze1 b),(42,ro 1 ze1 s.1),(44,ro 1 ze0 s.2)],93,[]⟩:St)) (fun s=>s=M) ?_ ?_
 refine gs4 ?_
 refine AO.w (zLr T rfl rfl rfl rfl (zgG (zgD B)) rfl rfl rfl) ?_
 refine gs8 ?_
 obtain⟨c,X,J⟩:=zB J
 refine AW.r (AO.x (qAO rfl 49 rfl rfl rfl (qHi _ (X)) rfl rfl rfl) ?_)
 refine gs4 ?_
 refine AW.loopS (fun s:Nat×Int=>(⟨[(0,.v (.string sA)),(2,.p 1 0),(4,.p 2 0),(7,.v (.string I)),(8,s.2),(31,.R 3),(32,(b.length:Int)),(33,(L:Int)),(37,.R 49),(38,(c.length:Int)),(39,(s.1:Int))],[(1,.box [.w 0 [],.w 0 [],.v (.bool false)]),(2,.box [.R 24,.R 26,.v (.bool true)]),(3,ro 1 ze1 b),(24,ro 1 ze1 q),(26,ro 1 ze0 u),(49,ro 1 ze1 c)],93,[]⟩:St)) (fun s=>s.1<=c.length/\qCG I q u (c.drop s.1) s.1 s.2=some M) (fun s=>c.length-s.1) (0,0) ⟨Nat.zero_le _,J⟩ ?_ ?_
 exact Le.ct 0 0
 rintro⟨C,F⟩ ⟨hk,J⟩
 try dsimp only at J⊢
 refine AW.boundR (id:=49) (l:=c) rfl (fun av=>?_)
 rcases e:c.drop C with _|⟨aF,aw⟩
 rw[e,qCG]at J
 have j:=qAG e
 iterate 13 refine gs ?_
 refine AW.cH J (fun _ J=>?_) (fun hc J=>?_)
 obtain⟨aG,Y,J⟩:=zB J
 refine gs5 ?_
 refine AO.w (qFo T rfl rfl rfl rfl (qAJ (Y))) ?_
 refine gs3 ?_
 obtain⟨aH,Z,J⟩:=zB J
 refine gs4 ?_
 refine AO.x (mks T 50 ze1 ([(ByteArray.extract I 0 (w64 ((I.size:Int)-1)).toNat)])) ?_
 refine AO.x (rvs T 51 (hfit:=by exact qAJ (Z))) ?_
 refine AO.pu T ?_
 refine AO.se T [.R 51,.R 26,.v (.bool true)] ?_
 refine AO.n ?_
 obtain⟨aI,aa,J⟩:=zB J
 refine gs4 ?_
 refine AO.x (mks T 52 ze0 ([F])) ?_
 refine AO.x (rvs T 53 (hfit:=by exact qAJ (aa))) ?_
 refine AO.pu T ?_
 refine AO.se T [.R 51,.R 53,.v (.bool true)] ?_
 refine AO.n ?_
 refine⟨_,zS J,?_⟩
 refine Le.trans (Le.ct 51 42 (σ':=(⟨[(0,.v (.string sA)),(2,.p 1 0),(4,.p 2 0),(31,.R 3),(32,(b.length:Int)),(33,(L:Int))],[(1,.box [.w 0 [],.w 0 [],.v (.bool false)]),(2,.box [.R 42,.R 53,.v (.bool true)]),(3,ro 1 ze1 b),(42,ro 1 ze1 (q++[(ByteArray.extract I 0 (w64 ((I.size:Int)-1)).toNat)])),(53,ro 1 ze0 (u++[F]))],93,[]⟩:St))) ?_
 exact Le.ct 53 44
 refine gs2 ?_
 obtain⟨aJ,ab,J⟩:=zB J
 refine gs4 ?_
 refine AO.x (mks T 54 ze1 ([I])) ?_
 refine AO.x (rvs T 55 (hfit:=by exact qAJ (ab))) ?_
 refine AO.pu T ?_
 refine AO.se T [.R 55,.R 26,.v (.bool true)] ?_
 refine AO.n ?_
 obtain⟨aK,ac,J⟩:=zB J
 refine gs4 ?_
 refine AO.x (mks T 56 ze0 ([F])) ?_
 refine AO.x (rvs T 57 (hfit:=by exact qAJ (ac))) ?_
 refine AO.pu T ?_
 refine AO.se T [.R 55,.R 57,.v (.bool true)] ?_
 refine AO.n ?_
 refine⟨_,zS J,?_⟩
 refine Le.trans (Le.ct 55 42 (σ':=(⟨[(0,.v (.string sA)),(2,.p 1 0),(4,.p 2 0),(31,.R 3),(32,(b.length:Int)),(33,(L:Int))],[(1,.box [.w 0 [],.w 0 [],.v (.bool false)]),(2,.box [.R 42,.R 57,.v (.bool true)]),(3,ro 1 ze1 b),(42,ro 1 ze1 (q++[I])),(57,ro 1 ze0 (u++[F]))],93,[]⟩:St))) ?_
 exact Le.ct 57 44
 rw[e,qCG]at J
 have j:=qAF e
 iterate 13 refine gs ?_
 refine AO.w (zLr T rfl rfl rfl rfl (zgG (zgD e)) rfl rfl rfl) ?_
 refine gs4 ?_
 obtain⟨aL,ad,J⟩:=zB J
 refine gs4 ?_
 refine AO.g0 T ?_
 refine AO.g1 T 47 ?_
 refine AO.g1 T 48 ?_
 refine gs2 ?_
 refine AO.g0 T ?_
 refine AO.g0 T ?_
 refine AO.g1 T 53 ?_
 refine AO.d1 54 (fun hg=>aws) ?_
 refine AO.d2 52 55 (fun hg=>qFk T rfl rfl rfl rfl (qAJ (qD7 ad hg))) ?_
 refine AO.g0 T ?_
 refine AO.g2 T 56 57 ?_
 refine gs2 ?_
 refine AW.cH J (fun _ J=>?_) (fun hc J=>?_)
 refine gs4 ?_
 refine AW.le (Le.ct 0 0 (σ':=(⟨[(0,.v (.string sA)),(2,.p 1 0),(4,.p 2 0),(7,.v (.string I)),(8,(C:Int)),(31,.R 3),(32,(b.length:Int)),(33,(L:Int)),(37,.R 49),(38,(c.length:Int)),(39,(C:Int))],[(1,.box [.w 0 [],.w 0 [],.v (.bool false)]),(2,.box [.R 24,.R 26,.v (.bool true)]),(3,ro 1 ze1 b),(24,ro 1 ze1 q),(26,ro 1 ze0 u),(49,ro 1 ze1 c)],93,[]⟩:St))) ?_
 refine gs4 ?_
 refine⟨(C+1,(C:Int)),⟨j,(zds e▸J)⟩,qBm j,?_⟩
 exact Le.ct 0 0
 refine gs5 ?_
 refine⟨(C+1,F),⟨j,(zds e▸J)⟩,qBm j,?_⟩
 exact Le.ct 0 0
 rintro⟨N,O⟩ hs
 subst hs
 replace J:=W
 try dsimp only[qKL,qIN]at J
 try dsimp only
 refine gs4 ?_
 refine⟨(L+1,N,O),⟨K,(zds B▸J)⟩,qBm K,?_⟩
 refine Le.trans (Le.ct 42 24 (σ':=(⟨[(0,.v (.string sA)),(2,.p 1 0),(4,.p 2 0),(31,.R 3),(32,(b.length:Int)),(33,((L+1:Nat):Int))],[(1,.box [.w 0 [],.w 0 [],.v (.bool false)]),(2,.box [.R 24,.R 44,.v (.bool true)]),(3,ro 1 ze1 b),(24,ro 1 ze1 N),(44,ro 1 ze0 O)],93,[]⟩:St))) ?_
 exact Le.ct 44 26
 refine gs3 ?_
 obtain⟨a,ae,J⟩:=zB J
 refine gs2 ?_
 refine AO.x (qAO rfl 58 rfl rfl rfl (qH4 a8 _ _ _ (ae)) rfl rfl rfl) ?_
 refine gs4 ?_
 refine AW.loopS (fun s:Nat×(List bD)×(bE)=>(⟨[(0,.v (.string sA)),(2,.p 1 0),(4,.p 2 0),(31,.R 58),(32,(a.length:Int)),(33,(s.1:Int))],[(1,.box [.w 0 [],.w 0 [],.v (.bool false)]),(2,.box [.R 79,.R 81,.v (.bool false)]),(58,ro 1 ze1 a),(79,ro 1 ze1 s.2.1),(81,ro 1 ze0 s.2.2)],93,[]⟩:St)) (fun s=>s.1<=a.length/\qCK sA a8 (a.drop s.1) s.1 s.2.1 s.2.2=some r) (fun s=>a.length-s.1) (0,[],[]) ⟨Nat.zero_le _,J⟩ ?_ ?_
 refine Le.trans (Le.voidBox 2 0 79 1 rfl rfl rfl rfl) ?_
 refine Le.trans (Le.voidBox 2 1 81 1 rfl rfl rfl rfl) ?_
 exact Le.ct 0 0
 rintro⟨k,z,A⟩ ⟨hk,J⟩
 try dsimp only at J⊢
 refine AW.boundR (id:=58) (l:=a) rfl (fun ax=>?_)
 rcases o:a.drop k with _|⟨f,ay⟩
 rw[o,qCK]at J
 have G:=qAG o
 refine gs9 ?_
 obtain⟨aM,af,aN,ag,J⟩:=qAE J
 refine gs2 ?_
 refine AO.w (zLV rfl rfl rfl (es:=[.g (ze2 (Item.mk z A false))]) ⟨qIK (LendL.cons ((.rowR rfl (.map fun y=>.vs rfl))) (LendL.cons ((.rowR rfl (.map fun y=>.vs rfl))) (LendL.cons (.free rfl) LendL.nil))),trivial⟩ (qKH a8 _ _ (af)) (qAj _) rfl) ?_
 refine gs2 ?_
 refine AO.g T (d:=.g [.R 79,.R 81,.v (.bool false)]) [] rfl trivial rfl rfl ?_
 refine AO.d1 86 (fun hg=>zLV rfl rfl rfl (es:=[.g (ze2 (Item.mk z A false))]) ⟨qIK (LendL.cons ((.rowR rfl (.map fun y=>.vs rfl))) (LendL.cons ((.rowR rfl (.map fun y=>.vs rfl))) (LendL.cons (.free rfl) LendL.nil))),trivial⟩ (qMg _ _ (qD7 ag hg)) (qAj _) rfl) ?_
 refine AO.g0 T ?_
 refine AO.g2 T 87 88 ?_
 refine gs2 ?_
 refine AW.cH J (fun _ J=>?_) (fun hc J=>?_)
 refine gs3 ?_
 refine AO.se T [.w 0 [],.w 0 [],.v (.bool false)] ?_
 refine gs3 ?_
 exact fin
 refine gs4 ?_
 refine AO.se T [.R 79,.R 81,.v (.bool false)] ?_
 refine gs3 ?_
 exact fin
 rw[o,qCK]at J
 have G:=qAF o
 refine gs7 ?_
 obtain⟨P,J,ah⟩:=zB J
 refine AW.seqJ (fun s:(List bD)×(bE)=>(⟨[(0,.v (.string sA)),(2,.p 1 0),(4,.p 2 0),(31,.R 58),(32,(a.length:Int)),(33,(k:Int))],[(1,.box [.w 0 [],.w 0 [],.v (.bool false)]),(2,.box [.R 97,.R 99,.v (.bool false)]),(58,ro 1 ze1 a),(97,ro 1 ze1 s.1),(99,ro 1 ze0 s.2)],93,[]⟩:St)) (fun s=>s=P) ?_ ?_
 refine gs4 ?_
 refine AO.w (zLr T rfl rfl rfl rfl (zgG (zgD o)) rfl rfl rfl) ?_
 refine gs8 ?_
 obtain⟨h,ai,J⟩:=zB J
 refine AW.r (AO.x (qAO rfl 104 rfl rfl rfl (qHi _ (ai)) rfl rfl rfl) ?_)
 refine gs4 ?_
 refine AW.loopS (fun s:Nat×Int=>(⟨[(0,.v (.string sA)),(2,.p 1 0),(4,.p 2 0),(7,.v (.string f)),(8,s.2),(31,.R 58),(32,(a.length:Int)),(33,(k:Int)),(37,.R 104),(38,(h.length:Int)),(39,(s.1:Int))],[(1,.box [.w 0 [],.w 0 [],.v (.bool false)]),(2,.box [.R 79,.R 81,.v (.bool false)]),(58,ro 1 ze1 a),(79,ro 1 ze1 z),(81,ro 1 ze0 A),(104,ro 1 ze1 h)],93,[]⟩:St)) (fun s=>s.1<=h.length/\qCO f z A (h.drop s.1) s.1 s.2=some P) (fun s=>h.length-s.1) (0,0) ⟨Nat.zero_le _,J⟩ ?_ ?_
 exact Le.ct 0 0
 rintro⟨E,H⟩ ⟨hk,J⟩
 try dsimp only at J⊢
 refine AW.boundR (id:=104) (l:=h) rfl (fun az=>?_)
 rcases i:h.drop E with _|⟨aO,aA⟩
 rw[i,qCO]at J
 have m:=qAG i
 iterate 13 refine gs ?_
 refine AW.cH J (fun _ J=>?_) (fun hc J=>?_)
 obtain⟨aP,aj,J⟩:=zB J
 refine gs5 ?_
 refine AO.w (qFo T rfl rfl rfl rfl (qAJ (aj))) ?_
 refine gs3 ?_
 obtain⟨aQ,ak,J⟩:=zB J
 refine gs4 ?_
 refine AO.x (mks T 105 ze1 ([(ByteArray.extract f 0 (w64 ((f.size:Int)-1)).toNat)])) ?_
 refine AO.x (rvs T 106 (hfit:=by exact qAJ (ak))) ?_
 refine AO.pu T ?_
 refine AO.se T [.R 106,.R 81,.v (.bool false)] ?_
 refine AO.n ?_
 obtain⟨aR,al,J⟩:=zB J
 refine gs4 ?_
 refine AO.x (mks T 107 ze0 ([H])) ?_
 refine AO.x (rvs T 108 (hfit:=by exact qAJ (al))) ?_
 refine AO.pu T ?_
 refine AO.se T [.R 106,.R 108,.v (.bool false)] ?_
 refine AO.n ?_
 refine⟨_,zS J,?_⟩
 refine Le.trans (Le.ct 106 97 (σ':=(⟨[(0,.v (.string sA)),(2,.p 1 0),(4,.p 2 0),(31,.R 58),(32,(a.length:Int)),(33,(k:Int))],[(1,.box [.w 0 [],.w 0 [],.v (.bool false)]),(2,.box [.R 97,.R 108,.v (.bool false)]),(58,ro 1 ze1 a),(97,ro 1 ze1 (z++[(ByteArray.extract f 0 (w64 ((f.size:Int)-1)).toNat)])),(108,ro 1 ze0 (A++[H]))],93,[]⟩:St))) ?_
 exact Le.ct 108 99
 refine gs2 ?_
 obtain⟨aS,am,J⟩:=zB J
 refine gs4 ?_
 refine AO.x (mks T 109 ze1 ([f])) ?_
 refine AO.x (rvs T 110 (hfit:=by exact qAJ (am))) ?_
 refine AO.pu T ?_
 refine AO.se T [.R 110,.R 81,.v (.bool false)] ?_
 refine AO.n ?_
 obtain⟨aT,an,J⟩:=zB J
 refine gs4 ?_
 refine AO.x (mks T 111 ze0 ([H])) ?_
 refine AO.x (rvs T 112 (hfit:=by exact qAJ (an))) ?_
 refine AO.pu T ?_
 refine AO.se T [.R 110,.R 112,.v (.bool false)] ?_
 refine AO.n ?_
 refine⟨_,zS J,?_⟩
 refine Le.trans (Le.ct 110 97 (σ':=(⟨[(0,.v (.string sA)),(2,.p 1 0),(4,.p 2 0),(31,.R 58),(32,(a.length:Int)),(33,(k:Int))],[(1,.box [.w 0 [],.w 0 [],.v (.bool false)]),(2,.box [.R 97,.R 112,.v (.bool false)]),(58,ro 1 ze1 a),(97,ro 1 ze1 (z++[f])),(112,ro 1 ze0 (A++[H]))],93,[]⟩:St))) ?_
 exact Le.ct 112 99
 rw[i,qCO]at J
 have m:=qAF i
 iterate 13 refine gs ?_
 refine AO.w (zLr T rfl rfl rfl rfl (zgG (zgD i)) rfl rfl rfl) ?_
 refine gs4 ?_
 obtain⟨aU,ao,J⟩:=zB J
 refine gs4 ?_
 refine AO.g0 T ?_
 refine AO.g1 T 47 ?_
 refine AO.g1 T 48 ?_
 refine gs2 ?_
 refine AO.g0 T ?_
 refine AO.g0 T ?_
 refine AO.g1 T 53 ?_
 refine AO.d1 54 (fun hg=>aws) ?_
 refine AO.d2 52 55 (fun hg=>qFk T rfl rfl rfl rfl (qAJ (qD7 ao hg))) ?_
 refine AO.g0 T ?_
 refine AO.g2 T 56 57 ?_
 refine gs2 ?_
 refine AW.cH J (fun _ J=>?_) (fun _ J=>?_)
 refine gs4 ?_
 refine AW.le (Le.ct 0 0 (σ':=(⟨[(0,.v (.string sA)),(2,.p 1 0),(4,.p 2 0),(7,.v (.string f)),(8,(E:Int)),(31,.R 58),(32,(a.length:Int)),(33,(k:Int)),(37,.R 104),(38,(h.length:Int)),(39,(E:Int))],[(1,.box [.w 0 [],.w 0 [],.v (.bool false)]),(2,.box [.R 79,.R 81,.v (.bool false)]),(58,ro 1 ze1 a),(79,ro 1 ze1 z),(81,ro 1 ze0 A),(104,ro 1 ze1 h)],93,[]⟩:St))) ?_
 refine gs4 ?_
 refine⟨(E+1,(E:Int)),⟨m,(zds i▸J)⟩,qBm m,?_⟩
 exact Le.ct 0 0
 refine gs5 ?_
 refine⟨(E+1,H),⟨m,(zds i▸J)⟩,qBm m,?_⟩
 exact Le.ct 0 0
 rintro⟨Q,S⟩ hs
 subst hs
 replace J:=ah
 try dsimp only[qKL,qIN]at J
 try dsimp only
 refine gs4 ?_
 refine⟨(k+1,Q,S),⟨G,(zds o▸J)⟩,qBm G,?_⟩
 refine Le.trans (Le.ct 97 79 (σ':=(⟨[(0,.v (.string sA)),(2,.p 1 0),(4,.p 2 0),(31,.R 58),(32,(a.length:Int)),(33,((k+1:Nat):Int))],[(1,.box [.w 0 [],.w 0 [],.v (.bool false)]),(2,.box [.R 79,.R 99,.v (.bool false)]),(58,ro 1 ze1 a),(79,ro 1 ze1 Q),(99,ro 1 ze0 S)],93,[]⟩:St))) ?_
 exact Le.ct 99 81
def qAR (a8:Nat) (x:CsState) (c:Code) (p:Performance):Option (CsState×bD) :=
 (qBk a8 c p).bind fun a =>
 cond (!a)
  (some (x,(bz [110,111])))
  (some ((CsState.mk c p x.am x.ak x.no x.aA x.aF),(bz [111,107])))
theorem qBR (a8:Nat) (x:CsState) (c:Code) (p:Performance) (r:(CsState×bD)) (J:qAR a8 x c p=some r):qGM prog 140 [.pn (qGi x),.g (ze4 c),.g (ze9 p)] [.pn (qGi r.1),.u,.u] (.v (.string r.2)):=by
 refine qJU T func140 rfl (by decide) rfl rfl [.p 1 0,.g (ze4 c),.g (ze9 p)] [(1,.box (ze8 x 2 3)),(3,ro 1 ze0 x.aA),(2,ro 1 ze0 x.no)] 4 (by kernel_rfl) [1] rfl rfl ?_
 intro L
 show AW _ _ _ (⟨[(0,.p 1 0),(1,.g (ze4 c)),(2,.g (ze9 p))],[(1,.box (ze8 x 2 3)),(3,ro 1 ze0 x.aA),(2,ro 1 ze0 x.no)],19,[(1,L 1)]⟩:St)
 refine go ?_
 refine AO.x (bxs T 4) ?_
 refine AO.x (bxs T 5) (go ?_)
 obtain⟨b,a,J⟩:=zB J
 refine go ?_
 refine AO.w (cVs (qMi a8 _ _ _ (a))) (go ?_)
 refine AW.cH J (fun _ J=>?_) (fun _ J=>?_)
 refine go ?_
 exact qDO
 refine go ?_
 refine AO.se T [sv ze5 c.ad,sv ze0 c.ar,c.aq,c.av,c.au,c.ay,sv ze2 x.p.ai,sv ze3 x.p.ae.ah,sv ze3 x.p.ae.ac,x.p.af.falls,x.p.af.an,x.p.af.aw,x.am,sv ze6 x.ak,.R 2,.R 3,x.aF] ?_
 refine go ?_
 refine AO.se T [sv ze5 c.ad,sv ze0 c.ar,c.aq,c.av,c.au,c.ay,sv ze2 p.ai,sv ze3 p.ae.ah,sv ze3 p.ae.ac,p.af.falls,p.af.an,p.af.aw,x.am,sv ze6 x.ak,.R 2,.R 3,x.aF] ?_
 refine go ?_
 exact qDO
def qCT (a8:Nat) (x:CsState) (sA:bD):Option (CsState×bD) :=
 (qHC a8 sA).bind fun d =>
 cond ((!d.2)||((x.p.ai.length:Int)==14))
  (some (x,(bz [110,111])))
  ((qHd x.p.ai).bind fun e =>
  (qAl (qAg 56 (e.length+([d.1]).length))).bind fun h =>
  (qAZ x.p (e++[d.1])).bind fun a =>
  (qEY a.ae).bind fun b =>
  (qAl (decide (0<=b)&&qAg 8 b.toNat)).bind fun f =>
  (qAl (qAg 24 (a.ae.ah.length+([(List.replicate b.toNat (0:Int))]).length))).bind fun g =>
  (qAR a8 x x.ag (Performance.mk a.ai (Marks.mk (a.ae.ah++[(List.replicate b.toNat (0:Int))]) a.ae.ac) a.af)).bind fun c =>
  some (c.1,c.2))
theorem qMa (a8:Nat) (x:CsState) (sA:bD) (r:(CsState×bD)) (J:qCT a8 x sA=some r):qGM prog 104 [.pn (qGi x),.v (.string sA)] [.pn (qGi r.1),.u] (.v (.string r.2)):=by
 refine qJU T func104 rfl (by decide) rfl rfl [.p 1 0,.v (.string sA)] [(1,.box (ze8 x 2 3)),(3,ro 1 ze0 x.aA),(2,ro 1 ze0 x.no)] 4 (by kernel_rfl) [1] rfl rfl ?_
 intro L
 show AW _ _ _ (⟨[(0,.p 1 0),(1,.v (.string sA))],[(1,.box (ze8 x 2 3)),(3,ro 1 ze0 x.aA),(2,ro 1 ze0 x.no)],56,[(1,L 1)]⟩:St)
 refine go ?_
 obtain⟨d,j,J⟩:=zB J
 refine go ?_
 refine AO.x (qAO rfl 4 rfl rfl rfl (qPb a8 _ _ (j)) rfl rfl rfl) (go ?_)
 refine AO.x (als T 6) ?_
 refine AO.se T [.R 4,.R 5,.v (.bool d.1.aB)] ?_
 refine go ?_
 refine AO.g0 T ?_
 refine AO.g1 T 16 ?_
 refine AO.g1 T 17 ?_
 refine AO.g1 T 18 ?_
 refine AO.g1 T 19 ?_
 refine AO.d1 20 (fun hg=>qMc T) ?_
 refine AO.g1 T 21 ?_
 refine go ?_
 refine AW.cH J (fun _ J=>?_) (fun _ J=>?_)
 refine go ?_
 exact qDO
 refine go ?_
 obtain⟨k,m,B,o,a,t,J⟩:=qAq J
 refine AW.le (Le.fM 4 (g:=ze1) rfl (fun y=>.vs rfl)) ?_
 refine AW.le (Le.fM 5 (g:=ze0) rfl (fun y=>.vs rfl)) ?_
 refine AW.drawn 15 7 [] mix (by kernel_rfl) rfl ?_
 refine go ?_
 refine AD.q (FStep.frzInE (k0:=7) (sz:=3) (l:=k) (p:=qBn) (q:=ze2) (fun y=>qGO y) (FStep.call rfl rfl rfl rfl rfl (qK3 _ _ (m)) rfl rfl) rfl) (by simp[qA1];exact Nat.lt_succ_self _) (Nat.le_succ _) rfl ?_
 refine go ?_
 refine AD.q (FStep.mk T (f:=ze2) (l:=[d.1]) rfl rfl rfl rfl rfl rfl rfl rfl rfl (fun _=>rfl) rfl rfl rfl rfl) (by simp[qA1]) (Nat.le_succ _) rfl ?_
 refine AD.kk (FStep.app_rv T rfl rfl rfl rfl rfl rfl rfl (by decide) rfl rfl rfl rfl (fun _=>rfl) (qAJ (o)) rfl) ?_
 refine AD.qd rfl (FStep.callL rfl rfl rfl rfl (es:=[.g (ze9 x.p),sv ze2 (k++[d.1])]) ⟨.free rfl,(.rowR rfl (.map fun y=>.vs rfl)),trivial⟩ (qGD _ _ _ (t)) (qYZ (zfl (.cons (qIk (fun y=>(.cons (qIk (fun y=>(.cons (qAj _) .nil))) (.cons (qIk (fun y=>(.cons (qAj _) .nil))) (.cons (qAj _) .nil))))) (.cons (qIk (fun y=>(.cons (qIk (fun y=>(.cons (qAj _) .nil))) .nil))) (.cons (qIk (fun y=>(.cons (qIk (fun y=>(.cons (qAj _) .nil))) .nil))) (.cons (qAj _) (.cons (qAj _) (.cons (qAj _) .nil)))))))) rfl rfl) (qBD _ _) (qDi _ _) rfl ?_
 refine AD.q (FStep.alloc T rfl rfl rfl rfl rfl rfl) (by simp[qA1]) (Nat.le_succ _) rfl ?_
 refine AD.nil (AO.se T [.R 10,.R 11,.R 12,a.af.falls,a.af.an,a.af.aw] ?_)
 refine AO.n (AW.le (Le.ct 0 0 (σ':=(⟨[(0,.p 1 0),(7,.p 13 0)],[(1,.box (ze8 x 2 3)),(2,ro 1 ze0 x.no),(3,ro 1 ze0 x.aA),(10,ro 3 qBn a.ai),(11,ro 1 ze7 a.ae.ah),(12,ro 1 ze7 a.ae.ac),(13,.box [.R 10,.R 11,.R 12,a.af.falls,a.af.an,a.af.aw])],56,[(1,L 1)]⟩:St)) (hpin:=⟨⟨rfl,rfl⟩,trivial⟩)) ?_)
 refine AW.q ?_
 obtain⟨w,e,z,c,A,h,J⟩:=qAq J
 refine AW.drawn 8 14 [] mix (by kernel_rfl) rfl ?_
 refine go ?_
 refine AD.vv (zLV rfl rfl rfl (es:=[.g (qJb a.ae)]) ⟨qIK (LendL.cons ((.rowR rfl (.map fun y=>qAh y))) (LendL.cons ((.rowR rfl (.map fun y=>qAh y))) LendL.nil)),trivial⟩ (qIr _ _ (e)) (qAj _) rfl) ?_
 refine AD.q (FStep.make T rfl rfl rfl rfl rfl rfl rfl (f:=ze0) (zo:=0) (by repeat constructor) (by decide) rfl rfl (Bool.and_eq_true_iff.1 (qAJ (c))).1 (Bool.and_eq_true_iff.1 (qAJ (c))).2 rfl) (by simp[qA1]) (Nat.le_succ _) rfl ?_
 refine AD.kk (FStep.mk_o T rfl rfl rfl rfl rfl rfl rfl rfl (f:=ze7) (l:=[(List.replicate w.toNat (0:Int))]) (ids:=[14]) rfl rfl (fun _=>rfl) (by exact zC (.rowR rfl) (zCn)) (by decide) rfl rfl rfl rfl) ?_
 refine AD.nil (AO.x (qFc T rfl 16 rfl rfl rfl rfl rfl (by decide) rfl rfl rfl rfl rfl (qAJ (h)) rfl rfl) (go ?_))
 refine AO.se T [.R 10,.R 16,.R 12,a.af.falls,a.af.an,a.af.aw] ?_
 refine go ?_
 obtain⟨b,i,J⟩:=zB J
 refine AW.le (Le.fM 10 (g:=ze2) rfl (fun y=>qGO y)) ?_
 refine AW.le (Le.fM 16 (g:=ze3) rfl (fun y=>qAh y)) ?_
 refine AW.le (Le.fM 12 (g:=ze3) rfl (fun y=>qAh y)) ?_
 refine AW.drawn 6 17 [] mix (by kernel_rfl) rfl ?_
 refine go ?_
 refine AO.x (qBv (ze8 b.1 17 18) [(18,ro 1 ze0 b.1.aA),(17,ro 1 ze0 b.1.no)] 19 (by kernel_rfl) rfl 17 rfl rfl rfl rfl (es:=[.pn (qGi x),.g (ze4 x.ag),.g (ze9 (Performance.mk a.ai (Marks.mk (a.ae.ah++[(List.replicate w.toNat (0:Int))]) a.ae.ac) a.af))]) (us:=[.u,.u]) (cs:=qGi b.1) (ids:=[1,2,3]) (by exact zG (.pb rfl (qBB rfl rfl)) (zG (.g (zC .s (zC .s (zC .v (zC .v (zC .v (zC .v (zCn)))))))) (zG (.g (zC .s (zC .s (zC .s (zC .v (zC .v (zC .v (zCn)))))))) (zGn)))) (by decide) (by decide) (qBR a8 _ _ _ _ (i)) rfl rfl (by rfl) rfl) (go ?_)
 exact qDO
def qEL (sA:bD):Nat->Int->Int->Option Int
 |0,_,_=>none
 |d+1,c,a =>
  cond (decide (a<(sA.size:Int)))
   ((qNC sA a).bind fun b =>
   cond (decide ((b.toNat:Int)<48)||decide ((b.toNat:Int)>57))
    (some (-1))
    (qEL sA d (w64 ((w64 (10*c))+(IntKind.wrap .i64 (IntKind.wrap .u8 ((b.toNat:Int)-48))))) (w64 (a+1))))
   (some c)
def qDS (a8:Nat) (sA:bD):Option Int :=
 (qAd (sA.size:Int) 1 6).bind fun a =>
 (opt (!(!a)) default (qNC sA 0)).bind fun b =>
 cond ((!a)||(((b.toNat:Int)==48)&&decide ((sA.size:Int)>1)))
  (some (-1))
  (qEL sA a8 0 0)
theorem qIZ (a8:Nat) (sA:bD) (r:Int) (J:qDS a8 sA=some r):qAC prog 143 [.v (.string sA)] (.v (.int .i64 r)):=by
 refine fns T func143 ?_
 refine go ?_
 obtain⟨j,c,k,e,J⟩:=qAE J
 refine go ?_
 refine AO.w (cVs (qAf _ _ _ _ (c))) (go ?_)
 refine AO.g0 T ?_
 refine AO.d1 10 (fun hg=>qBO T rfl rfl rfl rfl (qD7 e hg)) ?_
 refine AO.g1 T 11 ?_
 refine AO.g1 T 12 ?_
 refine AO.g0 T ?_
 refine AO.g1 T 14 ?_
 refine AO.g1 T 15 ?_
 refine AO.d [13] rfl ⟨fun h=>h,trivial⟩ (fun hg=>zN rfl rfl rfl (by rw[hg];exact Bool.true_and _)) rfl ?_
 refine go ?_
 refine Cf J fun hc J=>?_
 refine go ?_
 refine AW.loopS (fun s:Nat×Int×Int=>(⟨[(0,.v (.string sA)),(3,s.2.1),(4,s.2.2)],[],44,[]⟩:St)) (fun s=>qEL sA s.1 s.2.1 s.2.2=some r) (fun s=>s.1) (a8,0,0) J ?_ ?_
 exact Le.ct 0 0
 rintro⟨b,f,g⟩ J
 try dsimp only at J⊢
 rcases b with _|b
 cases (show none=some _ from J)
 rw[qEL]at J
 refine go ?_
 refine AW.cH J (fun hc J=>?_) (fun _ J=>?_)
 refine go ?_
 obtain⟨i,a,J⟩:=zB J
 refine go ?_
 refine AO.w (qBO T rfl rfl rfl rfl (a)) (go ?_)
 refine AO.g0 T ?_
 refine AO.g0 T ?_
 refine AO.d2 30 31 (fun hg=>qBO T rfl rfl rfl rfl (a)) ?_
 refine AO.g1 T 32 ?_
 refine go ?_
 refine Cf J fun hc J=>?_
 refine go ?_
 refine AO.w (qBO T rfl rfl rfl rfl (a)) ?_
 refine AO.w aws ?_
 refine AO.w (qJL T rfl rfl rfl rfl) (go ?_)
 refine⟨(b,w64 ((w64 (10*f))+(IntKind.wrap .i64 (IntKind.wrap .u8 ((i.toNat:Int)-48)))),w64 (g+1)),J,Nat.lt_succ_self _,?_⟩
 exact Le.ct 0 0
 refine go ?_
 exact fin
def qHy (a8:Nat) (sA:bD):Option Int :=
 (opt (decide ((sA.size:Int)>1)) default (qNC sA 0)).bind fun c =>
 cond (decide ((sA.size:Int)>1)&&((c.toNat:Int)==45))
  ((qAl (inB 1 sA.size sA.size)).bind fun d =>
  (qDS a8 (ByteArray.extract sA (1:Int).toNat sA.size)).bind fun a =>
  cond (decide (a>=0))
   (some (w64 ((-1)*a)))
   (some 9999))
  ((qDS a8 sA).bind fun b =>
  cond (decide (b>=0))
   (some (w64 (1*b)))
   (some 9999))
theorem qOt (a8:Nat) (sA:bD) (r:Int) (J:qHy a8 sA=some r):qAC prog 142 [.v (.string sA)] (.v (.int .i64 r)):=by
 refine fns T func142 ?_
 refine go ?_
 obtain⟨e,a,J⟩:=zB J
 refine go ?_
 refine AO.g0 T ?_
 refine AO.d1 9 (fun hg=>qBO T rfl rfl rfl rfl (qD7 a hg)) ?_
 refine AO.g1 T 10 ?_
 refine go ?_
 refine AW.cH J (fun hc J=>?_) (fun hc J=>?_)
 refine go ?_
 obtain⟨f,b,J⟩:=zB J
 refine go ?_
 refine AO.w (qFk T rfl rfl rfl rfl (qAJ (b))) (go ?_)
 obtain⟨g,c,J⟩:=zB J
 refine go ?_
 refine AO.w (cVs (qIZ a8 _ _ (c))) (go ?_)
 refine Cf J fun hc J=>?_
 refine go ?_
 exact fin
 refine go ?_
 obtain⟨h,d,J⟩:=zB J
 refine go ?_
 refine AO.w (cVs (qIZ a8 _ _ (d))) (go ?_)
 refine Cf J fun _ J=>?_
 refine go ?_
 exact fin
def qAX (w:List bD) (signed:Bool) (a8:Nat):List bD->Nat->bE->Option ((bE×Bool))
 | [],d,b =>
  some (b,true)
 |f::e,d,b =>
  (qHy a8 f).bind fun a =>
  (qDS a8 f).bind fun c =>
  cond (decide (c>=0))
   (cond (decide (c>9999)||decide (c<(-9999)))
    (some ([],false))
    ((qAl (qAg 8 (b.length+([c]).length))).bind fun h =>
    qAX w signed a8 e (d+1) (b++[c])))
   ((opt (!(((!signed)||decide ((d:Int)<(w64 ((w.length:Int)-1))))||decide (a>=0))) default (qDo a8 a)).bind fun g =>
   cond ((((!signed)||decide ((d:Int)<(w64 ((w.length:Int)-1))))||decide (a>=0))||(!decide (g=f)))
    (some ([],false))
    (cond (decide (a>9999)||decide (a<(-9999)))
     (some ([],false))
     ((qAl (qAg 8 (b.length+([a]).length))).bind fun i =>
     qAX w signed a8 e (d+1) (b++[a]))))
def qCy (a8:Nat) (w:List bD) (signed:Bool):Option (bE×Bool) :=
 qAX w signed a8 w 0 []
theorem qIT (a8:Nat) (w:List bD) (signed:Bool) (r:(bE×Bool)) (J:qCy a8 w signed=some r):qAC prog 106 [.s (List.map ze1 w),.v (.bool signed)] (.t [.w 1 (r.1.map ze0),.v (.bool r.2)]):=by
 refine fns T func106 ?_
 refine go ?_
 refine AW.loopS (fun s:Nat×(bE)=>(⟨[(0,sv ze1 w),(1,.v (.bool signed)),(6,.R 6),(10,sv ze1 w),(11,(w.length:Int)),(12,(s.1:Int))],[(6,ro 1 ze0 s.2)],55,[]⟩:St)) (fun s=>s.1<=w.length/\qAX w signed a8 (w.drop s.1) s.1 s.2=some r) (fun s=>w.length-s.1) (0,[]) ⟨Nat.zero_le _,J⟩ ?_ ?_
 refine Le.trans (Le.void 6 6 1 rfl rfl) ?_
 exact Le.ct 0 0
 rintro⟨e,c⟩ ⟨A,J⟩
 try dsimp only at J⊢
 refine AW.boundM (t:=0) (l:=w) rfl (fun p=>?_)
 rcases b:w.drop e with _|⟨o,u⟩
 rw[b,qAX]at J
 have a:=qAG b
 refine go ?_
 exact fin
 rw[b,qAX]at J
 have a:=qAF b
 refine go ?_
 obtain⟨d,h,J⟩:=zB J
 refine go ?_
 refine AO.w (cVs (qOt a8 _ _ (h))) (go ?_)
 obtain⟨f,g,J⟩:=zB J
 refine go ?_
 refine AO.w (cVs (qIZ a8 _ _ (g))) (go ?_)
 refine AW.cH J (fun hc J=>?_) (fun hc J=>?_)
 refine go ?_
 refine AO.w (cVs (qIZ a8 _ _ (g))) (go ?_)
 refine AO.g0 T ?_
 refine AO.g1 T 46 ?_
 refine go ?_
 refine Cf J fun hc J=>?_
 refine AW.k ?_
 obtain⟨y,i,J⟩:=zB J
 refine go ?_
 refine AO.x (mks T 9 ze0 ([f])) ?_
 refine AO.x (rvs T 10 (hfit:=by exact qAJ (i))) ?_
 refine gs2 ?_
 refine AW.le (Le.ct 0 0 (σ':=(⟨[(0,sv ze1 w),(1,.v (.bool signed)),(6,.R 10),(10,sv ze1 w),(11,(w.length:Int)),(12,(e:Int))],[(10,ro 1 ze0 (c++[f]))],55,[]⟩:St))) ?_
 refine go ?_
 refine⟨(e+1,(c++[f])),⟨a,(zds b▸J)⟩,qBm a,?_⟩
 exact Le.ct 10 6
 refine AW.q ?_
 obtain⟨n,j,J⟩:=zB J
 refine go ?_
 refine AO.g0 T ?_
 refine AO.g0 T ?_
 refine AO.d1 28 (fun hg=>qMc T) ?_
 refine AO.d1 29 (fun hg=>aws) ?_
 refine AO.g2 T 27 30 ?_
 refine go ?_
 refine AO.g0 T ?_
 refine AO.g1 T 34 ?_
 refine go ?_
 refine AO.g0 T ?_
 refine AO.d1 38 (fun hg=>cVs (qIE a8 _ _ (qD7 j hg))) ?_
 refine AO.g0 T ?_
 refine AO.g2 T 39 40 ?_
 refine gs2 ?_
 refine AW.le (Le.ct 0 0 (σ':=(⟨[(0,sv ze1 w),(1,.v (.bool signed)),(6,.R 6),(9,d),(10,sv ze1 w),(11,(w.length:Int)),(12,(e:Int)),(42,.v (.bool ((((!signed)||decide ((e:Int)<(w64 ((w.length:Int)-1))))||decide (d>=0))||(!decide (n=o)))))],[(6,ro 1 ze0 c)],55,[]⟩:St))) ?_
 refine Cf J fun hc J=>?_
 refine go ?_
 refine AO.g0 T ?_
 refine AO.g1 T 46 ?_
 refine go ?_
 refine Cf J fun _ J=>?_
 refine AW.k ?_
 obtain⟨z,m,J⟩:=zB J
 refine go ?_
 refine AO.x (mks T 11 ze0 ([d])) ?_
 refine AO.x (rvs T 12 (hfit:=by exact qAJ (m))) (go ?_)
 refine⟨(e+1,(c++[d])),⟨a,(zds b▸J)⟩,qBm a,?_⟩
 exact Le.ct 12 6
def qIA (l:List Item) (item:Int) (name:Int):bF :=
 (qAd item 0 (w64 ((l.length:Int)-1))).bind fun a =>
 (opt a default (qAV l item)).bind fun b =>
 (opt a default (qAd name 0 (w64 ((b.aj.length:Int)-1)))).bind fun c =>
 some (a&&c)
theorem qQN (l:List Item) (item:Int) (name:Int) (r:Bool) (J:qIA l item name=some r):qAC prog 205 [.s (List.map ze2 l),item,name] (.v (.bool r)):=by
 refine fns T func205 ?_
 refine go ?_
 obtain⟨d,a,e,b,f,c,J⟩:=qAq J
 refine go ?_
 refine AO.w (cVs (qAf _ _ _ _ (a))) ?_
 refine AO.pu T ?_
 refine AO.g0 T ?_
 refine AO.g0 T ?_
 refine AO.g0 T ?_
 refine AO.d2 14 15 (fun hg=>ixs T (qD7 b hg)) ?_
 refine AO.g1 T 16 ?_
 refine AO.g1 T 17 ?_
 refine AO.d1 18 (fun hg=>qMc T) ?_
 refine AO.d1 19 (fun hg=>aws) ?_
 refine AO.d2 13 20 (fun hg=>cVs (qAf _ _ _ _ (qD7 c hg))) ?_
 refine go ?_
 exact fin
def qDK (a8:Nat) (x:CsState) (n:bE) (mark:Int):Option (CsState×bD) :=
 (qAV n 0).bind fun d =>
 (qAV n 1).bind fun e =>
 (qIA x.p.ai d e).bind fun f =>
 cond (!f)
  (some (x,(bz [110,111])))
  ((qAZ x.p x.p.ai).bind fun a =>
  (qAV a.ai d).bind fun b =>
  (qAV b.ae e).bind fun g =>
  (qAR a8 x x.ag (Performance.mk (a.ai.set d.toNat (Item.mk b.aj (b.ae.set e.toNat mark) b.aB)) a.ae a.af)).bind fun c =>
  some (c.1,c.2))
theorem qMW (a8:Nat) (x:CsState) (n:bE) (mark:Int) (r:(CsState×bD)) (J:qDK a8 x n mark=some r):qGM prog 141 [.pn (qGi x),.s (List.map ze0 n),mark] [.pn (qGi r.1),.u,.u] (.v (.string r.2)):=by
 refine qJU T func141 rfl (by decide) rfl rfl [.p 1 0,sv ze0 n,mark] [(1,.box (ze8 x 2 3)),(3,ro 1 ze0 x.aA),(2,ro 1 ze0 x.no)] 4 (by kernel_rfl) [1] rfl rfl ?_
 intro L
 show AW _ _ _ (⟨[(0,.p 1 0),(1,sv ze0 n),(2,mark)],[(1,.box (ze8 x 2 3)),(3,ro 1 ze0 x.aA),(2,ro 1 ze0 x.no)],51,[(1,L 1)]⟩:St)
 refine go ?_
 obtain⟨e,l,i,m,t,j,J⟩:=qAq J
 refine AW.drawn 11 4 [] mix (by kernel_rfl) rfl ?_
 refine go ?_
 refine AO.w (cVs (qQN _ _ _ _ (j))) (go ?_)
 refine AW.cH J (fun _ J=>?_) (fun _ J=>?_)
 refine go ?_
 exact qDO
 refine go ?_
 obtain⟨a,k,J⟩:=zB J
 refine AW.drawn 11 4 [] mix (by kernel_rfl) rfl ?_
 refine go ?_
 refine AD.q (FStep.call rfl rfl rfl rfl rfl (qGD _ _ _ (k)) rfl rfl) (qBD _ _) (qDi _ _) rfl ?_
 refine AD.q (FStep.alloc T rfl rfl rfl rfl rfl rfl) (by simp[qA1]) (Nat.le_succ _) rfl ?_
 refine AD.nil (AO.se T [.R 4,.R 5,.R 6,a.af.falls,a.af.an,a.af.aw] ?_)
 refine AO.n (AW.le (Le.ct 0 0 (σ':=(⟨[(0,.p 1 0),(1,sv ze0 n),(2,mark),(7,.p 7 0)],[(1,.box (ze8 x 2 3)),(2,ro 1 ze0 x.no),(3,ro 1 ze0 x.aA),(4,ro 3 qBn a.ai),(5,ro 1 ze7 a.ae.ah),(6,ro 1 ze7 a.ae.ac),(7,.box [.R 4,.R 5,.R 6,a.af.falls,a.af.an,a.af.aw])],51,[(1,L 1)]⟩:St)) (hpin:=⟨⟨rfl,rfl⟩,trivial⟩)) ?_)
 refine AW.q ?_
 obtain⟨d,b,o,f,J⟩:=qAE J
 refine AW.le (Le.openM 4 e.toNat 1 8 rfl (zgG (b)) rfl rfl) ?_
 refine AW.drawn 12 9 [] mix (by kernel_rfl) rfl ?_
 refine go ?_
 refine AD.vv (qET T rfl rfl rfl rfl rfl rfl (b)) ?_
 refine AD.pu T ?_
 refine AD.vv (qCb T rfl rfl rfl rfl rfl) ?_
 refine go ?_
 refine AO.x (zSr T rfl rfl rfl rfl rfl (zgG (f)) rfl rfl rfl rfl (u':=mark) rfl rfl) ?_
 refine AO.le (Le.closeM 4 e.toNat 1 8 rfl rfl (zgG (b)) rfl (u':=(Item.mk d.aj (d.ae.set i.toNat mark) d.aB)) rfl) ?_
 refine go ?_
 obtain⟨c,h,J⟩:=zB J
 refine AW.le (Le.fM 4 (g:=ze2) rfl (fun y=>qGO y)) ?_
 refine AW.le (Le.fM 5 (g:=ze3) rfl (fun y=>qAh y)) ?_
 refine AW.le (Le.fM 6 (g:=ze3) rfl (fun y=>qAh y)) ?_
 refine AW.drawn 6 9 [] mix (by kernel_rfl) rfl ?_
 refine go ?_
 refine AO.x (qBv (ze8 c.1 9 10) [(10,ro 1 ze0 c.1.aA),(9,ro 1 ze0 c.1.no)] 11 (by kernel_rfl) rfl 9 rfl rfl rfl rfl (es:=[.pn (qGi x),.g (ze4 x.ag),.g (ze9 (Performance.mk (a.ai.set e.toNat (Item.mk d.aj (d.ae.set i.toNat mark) d.aB)) a.ae a.af))]) (us:=[.u,.u]) (cs:=qGi c.1) (ids:=[1,2,3]) (by exact zG (.pb rfl (qBB rfl rfl)) (zG (.g (zC .s (zC .s (zC .v (zC .v (zC .v (zC .v (zCn)))))))) (zG (.g (zC .s (zC .s (zC .s (zC .v (zC .v (zC .v (zCn)))))))) (zGn)))) (by decide) (by decide) (qBR a8 _ _ _ _ (h)) rfl rfl (by rfl) rfl) (go ?_)
 exact qDO
def qAM (x:CsState) (w:List bD) (a8:Nat) (a:(bE×Bool)):List bD->Nat->Option ((CsState×bD))
 | [],c =>
  some (x,(bz [119,104,97,116]))
 |f::d,c =>
  (opt a.2 default (qAV w 2)).bind fun e =>
  cond (a.2&&decide (f=e))
   ((qDK a8 x a.1 (c:Int)).bind fun b =>
   some (b.1,b.2))
   (qAM x w a8 a d (c+1))
def qBu (a8:Nat) (x:CsState) (w:List bD):Option (CsState×bD) :=
 cond ((w.length:Int) != 3)
  (some (x,(bz [119,104,97,116])))
  ((qFT w 2).bind fun a =>
  (qCy a8 a false).bind fun b =>
  (qKJ ).bind fun c =>
  qAM x w a8 b c 0)
theorem qKW (a8:Nat) (x:CsState) (w:List bD) (r:(CsState×bD)) (J:qBu a8 x w=some r):qGM prog 105 [.pn (qGi x),.s (List.map ze1 w)] [.pn (qGi r.1),.u] (.v (.string r.2)):=by
 refine qJU T func105 rfl (by decide) rfl rfl [.p 1 0,sv ze1 w] [(1,.box (ze8 x 2 3)),(3,ro 1 ze0 x.aA),(2,ro 1 ze0 x.no)] 4 (by kernel_rfl) [1] rfl rfl ?_
 intro L
 show AW _ _ _ (⟨[(0,.p 1 0),(1,sv ze1 w)],[(1,.box (ze8 x 2 3)),(3,ro 1 ze0 x.aA),(2,ro 1 ze0 x.no)],38,[(1,L 1)]⟩:St)
 iterate 11 refine gs ?_
 refine AW.cH J (fun _ J=>?_) (fun hc J=>?_)
 refine gs5 ?_
 exact qDO
 refine gs2 ?_
 obtain⟨A,k,f,m,J⟩:=qAE J
 refine gs2 ?_
 refine AO.w (qDv T rfl rfl rfl rfl rfl (k) (fun _=>rfl)) ?_
 refine AO.x (qAO rfl 4 rfl rfl rfl (qIT a8 _ _ _ (m)) rfl rfl rfl) ?_
 refine gs8 ?_
 obtain⟨d,n,J⟩:=zB J
 refine AW.r (AO.x (qAO rfl 5 rfl rfl rfl (qLy _ (n)) rfl rfl rfl) ?_)
 refine gs4 ?_
 refine AW.loopS (fun s:Nat=>(⟨[(0,.p 1 0),(1,sv ze1 w),(5,.R 4),(6,.v (.bool f.2)),(18,.R 5),(19,(d.length:Int)),(20,(s:Int))],[(1,.box (ze8 x 2 3)),(2,ro 1 ze0 x.no),(3,ro 1 ze0 x.aA),(4,ro 1 ze0 f.1),(5,ro 1 ze1 d)],38,[(1,L 1)]⟩:St)) (fun s=>s<=d.length/\qAM x w a8 f (d.drop s) s=some r) (fun s=>d.length-s) 0 ⟨Nat.zero_le _,J⟩ ?_ ?_
 exact Le.ct 0 0 (hpin:=⟨⟨rfl,rfl⟩,trivial⟩)
 rintro h ⟨B,J⟩
 try dsimp only at J⊢
 refine AW.boundR (id:=5) (l:=d) rfl (fun o=>?_)
 rcases a:d.drop h with _|⟨C,t⟩
 rw[a,qAM]at J
 have b:=qAG a
 iterate 12 refine gs ?_
 exact qDO
 rw[a,qAM]at J
 have b:=qAF a
 iterate 13 refine gs ?_
 refine AO.w (zLr T rfl rfl rfl rfl (zgG (zgD a)) rfl rfl rfl) ?_
 refine gs4 ?_
 obtain⟨z,i,J⟩:=zB J
 refine gs3 ?_
 refine AO.g0 T ?_
 refine AO.g0 T ?_
 refine AO.d1 28 (fun hg=>ixs T (qD7 i hg)) ?_
 refine AO.g1 T 29 ?_
 refine AO.g2 T 27 30 ?_
 refine gs2 ?_
 refine AW.cH J (fun _ J=>?_) (fun _ J=>?_)
 refine AW.q ?_
 obtain⟨e,j,J⟩:=zB J
 refine AW.le (Le.fM 4 (g:=ze0) rfl (fun y=>.vs rfl)) ?_
 refine gs4 ?_
 refine AO.x (qBv (ze8 e.1 10 11) [(11,ro 1 ze0 e.1.aA),(10,ro 1 ze0 e.1.no)] 12 (by kernel_rfl) rfl 10 rfl rfl rfl rfl (es:=[.pn (qGi x),.s (f.1.map ze0),.v (.int .i64 (h:Int))]) (us:=[.u,.u]) (cs:=qGi e.1) (ids:=[1,2,3]) (by exact zG (.pb rfl (qBB rfl rfl)) (zG (.c .s) (zG (.c .v) (zGn)))) (by decide) (by decide) (qMW a8 _ _ _ _ (j)) rfl rfl (by rfl) rfl) ?_
 refine gs3 ?_
 exact qDO
 refine gs5 ?_
 refine⟨h+1,⟨b,(zds a▸J)⟩,qBm b,?_⟩
 exact Le.ct 0 0 (hpin:=⟨⟨rfl,rfl⟩,trivial⟩)
def qFm (c:Code):Option Code :=
 (qAl (qAg 40 c.ad.length)).bind fun b =>
 (qE2 c.ar).bind fun a =>
 some (Code.mk c.ad a c.aq c.av c.au c.ay)
theorem qNq (c:Code) (r:Code) (J:qFm c=some r):qAC prog 208 [.g (ze4 c)] (.g (qPP r)):=by
 refine fns T func208 ?_
 refine go ?_
 refine AO.x (bxs T 1) ?_
 refine AO.x (als T 2) (go ?_)
 obtain⟨d,a,e,b,J⟩:=qAE J
 refine AW.drawn 15 3 [] mix (by kernel_rfl) rfl ?_
 refine AD.v (FStep.mk0 T rfl rfl rfl rfl rfl) ?_
 refine go ?_
 refine AD.q (FStep.app_ws T rfl rfl rfl rfl rfl rfl rfl (by decide) (by decide) rfl rfl (fun _=>rfl) (qAJ (a)) rfl) (by simp[qA1]) (Nat.le_succ _) rfl ?_
 refine go ?_
 refine AD.q (FStep.call rfl rfl rfl rfl rfl (qHq _ _ (b)) rfl rfl) (qBD _ _) (qDi _ _) rfl ?_
 refine go ?_
 refine AO.se T [.R 3,.R 4,c.aq,c.av,c.au,c.ay] ?_
 refine go ?_
 exact fin
def qND (a8:Nat) (c:Code):Option (Code×Bool) :=
 (qDQ a8 c).bind fun a =>
 cond (!a)
  (some ((Code.mk [] [] 0 0 0 0),false))
  (some (c,true))
theorem qSF (a8:Nat) (c:Code) (r:(Code×Bool)) (J:qND a8 c=some r):qAC prog 209 [.g (ze4 c)] (.t [.g (ze4 r.1),.v (.bool r.2)]):=by
 refine fns T func209 ?_
 refine go ?_
 refine AO.x (bxs T 1) ?_
 refine AO.x (als T 2) (go ?_)
 obtain⟨b,a,J⟩:=zB J
 refine go ?_
 refine AO.w (cVs (qKK a8 _ _ (a))) (go ?_)
 refine AW.cH J (fun _ J=>?_) (fun _ J=>?_)
 refine go ?_
 refine AO.se T [.w 0 [],.w 0 [],(0:Int),(0:Int),(0:Int),(0:Int)] ?_
 refine go ?_
 exact fin
 refine go ?_
 refine AO.se T [sv ze5 c.ad,sv ze0 c.ar,c.aq,c.av,c.au,c.ay] ?_
 refine go ?_
 exact fin
def qB2 (c:Code) (x:Element):Nat->Int->Option Int
 |0,_=>none
 |b+1,a =>
  (opt (decide (a<(c.ad.length:Int))) default (qAV c.ad a)).bind fun d =>
  cond (decide (a<(c.ad.length:Int))&&(qNe d.aC x.aC))
   (qB2 c x b (w64 (a+1)))
   (some a)
def qFZ (a8:Nat) (c:Code) (x:Element):Option (Code×Bool) :=
 (qDQ a8 c).bind fun g =>
 cond (!g)
  (some ((Code.mk [] [] 0 0 0 0),false))
  ((qFm c).bind fun b =>
  (qB2 c x a8 0).bind fun d =>
  (qFT c.ad d).bind fun a =>
  (qAl (qAg 40 a.length)).bind fun h =>
  (qAl (qAg 40 (a.length+([x]).length))).bind fun i =>
  (qCq c.ad d).bind fun e =>
  (qAl (qAg 40 (((a++[x])).length+e.length))).bind fun j =>
  (qND a8 (Code.mk ((a++[x])++e) b.ar b.aq b.av b.au b.ay)).bind fun f =>
  some (f.1,f.2))
theorem qNU (a8:Nat) (c:Code) (x:Element) (r:(Code×Bool)) (J:qFZ a8 c x=some r):qAC prog 144 [.g (ze4 c),.g (ze5 x)] (.t [.g (ze4 r.1),.v (.bool r.2)]):=by
 refine fns T func144 ?_
 refine AW.q (AW.r (AO.x (bxs T 1) ?_))
 refine AO.x (bxs T 2) ?_
 refine AO.x (als T 3) ?_
 refine AO.pu T ?_
 refine AO.n (AW.q (AW.q ?_))
 obtain⟨N,H,J⟩:=zB J
 refine AW.r (AO.pu T (d:=.g (ze4 c)) ?_)
 refine AO.w (cVs (qKK a8 _ _ (H))) ?_
 refine AO.pu T ?_
 refine AO.n (AW.c (b:=(!N)) rfl (fun hc=>?_) (fun hc=>?_))
 replace J:=condT hc J
 refine AW.q (AW.r (AO.pu T (d:=.g [.w 0 [],.w 0 [],(0:Int),(0:Int),(0:Int),(0:Int)]) ?_))
 refine AO.se T [.w 0 [],.w 0 [],(0:Int),(0:Int),(0:Int),(0:Int)] ?_
 refine AO.pu T ?_
 refine AO.n (AW.t ?_)
 have hR:=zS J;subst hR
 exact retQ.i [] rfl (.t (zG (.g (zC .nilS (zC .nilS (zC .v (zC .v (zC .v (zC .v (zCn)))))))) (zG (.c .v) (zGn))))
 replace J:=condF hc J
 refine AW.k (AW.q ?_)
 obtain⟨a,I,J⟩:=zB J
 refine AW.r (AO.pu T (d:=.g (ze4 c)) ?_)
 refine AO.x (qAO rfl 4 rfl rfl rfl (qNq _ _ (I)) rfl rfl rfl) ?_
 refine AO.x (als T 6) ?_
 refine AO.se T [.R 4,.R 5,a.aq,a.av,a.au,a.ay] ?_
 refine AO.n (AW.q (AW.r ?_))
 refine AO.pu T ?_
 refine AO.n ?_
 obtain⟨m,J,u⟩:=zB J
 refine AW.seqJ (fun s:Int=>(⟨[(2,.p 1 0),(3,.p 2 0),(4,.p 3 0),(6,.p 6 0),(7,s)],[(1,.box (ze4 c)),(2,.box (ze5 x)),(3,.box [.w 0 [],.w 0 [],(0:Int),(0:Int),(0:Int),(0:Int)]),(4,.row 4 (List.map ze5 a.ad)),(5,.row 1 (List.map ze0 a.ar)),(6,.box [.R 4,.R 5,a.aq,a.av,a.au,a.ay])],51,[]⟩:St)) (fun s=>s=m) ?_ ?_
 refine AW.b (AW.loopS (fun s:Nat×Int=>(⟨[(2,.p 1 0),(3,.p 2 0),(4,.p 3 0),(6,.p 6 0),(7,s.2)],[(1,.box (ze4 c)),(2,.box (ze5 x)),(3,.box [.w 0 [],.w 0 [],(0:Int),(0:Int),(0:Int),(0:Int)]),(4,.row 4 (List.map ze5 a.ad)),(5,.row 1 (List.map ze0 a.ar)),(6,.box [.R 4,.R 5,a.aq,a.av,a.au,a.ay])],51,[]⟩:St)) (fun s=>qB2 c x s.1 s.2=some m) (fun s=>s.1) (a8,0) J ?_ ?_)
 exact Le.ct 0 0
 rintro⟨j,o⟩ J
 replace J:qB2 c x j o=some m:=J
 try dsimp only
 rcases j with _|j
 cases (show none=some _ from J)
 rw[qB2]at J
 refine AW.q (AW.q ?_)
 obtain⟨K,z,J⟩:=zB J
 refine AW.drawn 14 7 [] mix (by kernel_rfl) rfl ?_
 iterate 3 refine AD.pu T ?_
 refine AD.vv (qMc T) ?_
 iterate 2 refine AD.pu T ?_
 refine AD.pureG T [] rfl trivial rfl rfl ?_
 refine AD.pureG T [20] rfl ⟨fun h=>h,trivial⟩ rfl rfl ?_
 refine AD.pureG T [] rfl trivial rfl rfl ?_
 refine AD.guard [21,22] rfl ⟨fun h=>h,fun h=>h,trivial⟩ (fun hg=>zX T rfl rfl rfl rfl rfl (qD7 z hg) rfl) rfl ?_
 refine AD.pureG T [23] rfl ⟨fun h=>h,trivial⟩ rfl rfl ?_
 refine AD.pureG T [24] rfl ⟨fun h=>h,trivial⟩ rfl rfl ?_
 refine AD.pureG T [] rfl trivial rfl rfl ?_
 refine AD.pureG T [26] rfl ⟨fun h=>h,trivial⟩ rfl rfl ?_
 refine AD.nil (AO.g T [25,27] rfl ⟨fun h=>h,fun h=>h,trivial⟩ rfl rfl ?_)
 refine AO.w qaa ?_
 refine AO.n (AW.c (b:=(decide (o<(c.ad.length:Int))&&(qNe K.aC x.aC))) rfl (fun hc=>?_) (fun hc=>?_))
 replace J:=condT hc J
 refine AW.k (AW.b ?_)
 refine AW.r (AO.pu T ?_)
 refine AO.w aws ?_
 refine AO.pu T ?_
 refine AO.n ?_
 refine⟨(j,w64 (o+1)),J,Nat.lt_succ_self _,?_⟩
 exact Le.ct 0 0
 replace J:=condF hc J
 refine AW.exit ?_
 refine⟨_,zS J,?_⟩
 exact Le.ct 0 0
 rintro O hs
 subst hs
 replace J:=u
 try dsimp only[qKL,qIN]at J
 try dsimp only
 refine AW.q ?_
 obtain⟨L,A,J⟩:=zB J
 obtain⟨P,B,J⟩:=zB J
 obtain⟨Q,C,J⟩:=zB J
 obtain⟨M,E,J⟩:=zB J
 obtain⟨S,F,J⟩:=zB J
 refine AW.drawn 13 7 [] mix (by kernel_rfl) rfl ?_
 refine AD.v (FStep.mk0 T rfl rfl rfl rfl rfl) ?_
 iterate 3 refine AD.pu T ?_
 refine AD.vv (qDv T rfl rfl rfl rfl rfl (A) (fun _=>rfl)) ?_
 refine AD.q (FStep.app_ws T rfl rfl rfl rfl rfl rfl rfl (by decide) (by decide) rfl rfl (fun _=>rfl) (qAJ (B)) rfl) (by simp[qA1]) (Nat.le_succ _) rfl ?_
 refine AD.p T (d:=.g (ze5 x)) rfl rfl rfl ?_
 refine AD.q (FStep.mk T (f:=ze5) (l:=[x]) rfl rfl rfl rfl rfl rfl rfl rfl rfl (fun _=>rfl) rfl rfl rfl rfl) (by simp[qA1]) (Nat.le_succ _) rfl ?_
 refine AD.kk (FStep.app_rv T rfl rfl rfl rfl rfl rfl rfl (by decide) rfl rfl rfl rfl (fun _=>rfl) (qAJ (C)) rfl) ?_
 iterate 3 refine AD.pu T ?_
 refine AD.vv (qCg T rfl rfl rfl rfl rfl (E) (fun _=>rfl)) ?_
 refine AD.nil (AO.x (qOb T rfl 10 rfl rfl rfl rfl rfl (by decide) (by decide) rfl rfl rfl (fun _=>rfl) (qAJ (F)) rfl rfl) ?_)
 refine AO.pu T ?_
 refine AO.se T [.R 10,.R 5,a.aq,a.av,a.au,a.ay] ?_
 refine AO.n (AW.q ?_)
 obtain⟨e,G,J⟩:=zB J
 refine AW.le (Le.fM 5 (g:=ze0) rfl (fun y=>.vs rfl)) ?_
 refine AW.le (Le.fM 10 (g:=ze5) rfl (fun y=>.vs rfl)) ?_
 refine AW.r (AO.pu T (d:=.g [.s (List.map ze5 ((L++[x])++M)),.s (List.map ze0 a.ar),a.aq,a.av,a.au,a.ay]) ?_)
 refine AO.w (cVs (qSF a8 _ _ (G))) ?_
 refine AO.pu T (d:=.g (ze4 e.1)) ?_
 refine AO.pu T ?_
 refine AO.se T [.s (List.map ze5 e.1.ad),.s (List.map ze0 e.1.ar),e.1.aq,e.1.av,e.1.au,e.1.ay] ?_
 refine AO.pu T ?_
 refine AO.n (AW.t ?_)
 have hR:=zS J;subst hR
 exact retQ.i [] rfl (.t (zG (.g (zC .s (zC .s (zC .v (zC .v (zC .v (zC .v (zCn)))))))) (zG (.c .v) (zGn))))
def qDG (a8:Nat) (x:CsState) (name:bD) (n:bE):Option (CsState×bD) :=
 (qAV n 0).bind fun c =>
 (qAV n 1).bind fun d =>
 (qAV n 2).bind fun e =>
 (qFZ a8 x.ag (Element.mk name c d e)).bind fun a =>
 cond (!a.2)
  (some (x,(bz [110,111])))
  ((qAR a8 x a.1 x.p).bind fun b =>
  some (b.1,b.2))
theorem qKi (a8:Nat) (x:CsState) (name:bD) (n:bE) (r:(CsState×bD)) (J:qDG a8 x name n=some r):qGM prog 107 [.pn (qGi x),.v (.string name),.s (List.map ze0 n)] [.pn (qGi r.1),.u,.u] (.v (.string r.2)):=by
 refine qJU T func107 rfl (by decide) rfl rfl [.p 1 0,.v (.string name),sv ze0 n] [(1,.box (ze8 x 2 3)),(3,ro 1 ze0 x.aA),(2,ro 1 ze0 x.no)] 4 (by kernel_rfl) [1] rfl rfl ?_
 intro L
 show AW _ _ _ (⟨[(0,.p 1 0),(1,.v (.string name)),(2,sv ze0 n)],[(1,.box (ze8 x 2 3)),(3,ro 1 ze0 x.aA),(2,ro 1 ze0 x.no)],37,[(1,L 1)]⟩:St)
 refine go ?_
 obtain⟨i,e,j,f,k,h,J⟩:=qAq J
 obtain⟨b,d,J⟩:=zB J
 refine AW.drawn 21 4 [] mix (by kernel_rfl) rfl ?_
 refine go ?_
 refine AD.vv (cVs (qNU a8 _ _ _ (d))) ?_
 refine go ?_
 refine AD.q (FStep.alloc T rfl rfl rfl rfl rfl rfl) (by simp[qA1]) (Nat.le_succ _) rfl ?_
 refine AD.kk (FStep.store_p T rfl rfl rfl rfl rfl rfl rfl rfl rfl rfl rfl) ?_
 refine gs9 ?_
 refine AW.le (Le.ct 0 0 (σ':=(⟨[(0,.p 1 0),(7,.p 4 0),(29,.v (.bool (!b.2)))],[(1,.box (ze8 x 2 3)),(2,ro 1 ze0 x.no),(3,ro 1 ze0 x.aA),(4,.box (ze4 b.1))],37,[(1,L 1)]⟩:St)) (hpin:=⟨⟨rfl,rfl⟩,trivial⟩)) ?_
 refine AW.cH J (fun _ J=>?_) (fun _ J=>?_)
 refine go ?_
 exact qDO
 refine go ?_
 obtain⟨a,c,J⟩:=zB J
 refine AW.drawn 6 5 [] mix (by kernel_rfl) rfl ?_
 refine go ?_
 refine AO.x (qBv (ze8 a.1 5 6) [(6,ro 1 ze0 a.1.aA),(5,ro 1 ze0 a.1.no)] 7 (by kernel_rfl) rfl 5 rfl rfl rfl rfl (es:=[.pn (qGi x),.g (ze4 b.1),.g (ze9 x.p)]) (us:=[.u,.u]) (cs:=qGi a.1) (ids:=[1,2,3]) (by exact zG (.pb rfl (qBB rfl rfl)) (zG (.g (zC .s (zC .s (zC .v (zC .v (zC .v (zC .v (zCn)))))))) (zG (.g (zC .s (zC .s (zC .s (zC .v (zC .v (zC .v (zCn)))))))) (zGn)))) (by decide) (by decide) (qBR a8 _ _ _ _ (c)) rfl rfl (by rfl) rfl) (go ?_)
 exact qDO
def qFE (w:bD):Option Int :=
 cond (decide (w=(bz [106,117,100,103,101,115])))
  (some 1)
  (cond (decide (w=(bz [102,97,99,116,111,114])))
   (some 1)
   (cond (decide (w=(bz [114,97,110,103,101])))
    (some 1)
    (cond (decide (w=(bz [115,107,97,116,101,114])))
     (some 1)
     (cond (decide (w=(bz [108,105,109,105,116])))
      (some 2)
      (cond (decide (w=(bz [103,114,97,100,101])))
       (some 3)
       (cond (decide (w=(bz [99,111,109,112,111,110,101,110,116])))
        (some 3)
        (cond (decide (w=(bz [115,108,105,112,115])))
         (some 3)
         (cond (decide (w=(bz [101,108,101,109,101,110,116])))
          (some 3)
          (cond (decide (w=(bz [114,117,108,101,115])))
           (some 4)
           (some 0))))))))))
theorem qQT (w:bD) (r:Int) (J:qFE w=some r):qAC prog 108 [.v (.string w)] (.v (.int .i64 r)):=by
 refine fns T func108 ?_
 refine go ?_
 refine AW.cH J (fun a J=>?_) (fun _ J=>?_)
 refine AW.k (AW.condT' rfl a ?_)
 refine go ?_
 exact fin
 refine go ?_
 refine AW.cH J (fun b J=>?_) (fun _ J=>?_)
 refine AW.k (AW.condT' rfl b ?_)
 refine go ?_
 exact fin
 refine go ?_
 refine AW.cH J (fun c J=>?_) (fun _ J=>?_)
 refine AW.k (AW.condT' rfl c ?_)
 refine go ?_
 exact fin
 refine go ?_
 refine Cf J fun _ J=>?_
 refine go ?_
 refine Cf J fun _ J=>?_
 refine go ?_
 refine AW.cH J (fun d J=>?_) (fun _ J=>?_)
 refine AW.k (AW.condT' rfl d ?_)
 refine go ?_
 exact fin
 refine go ?_
 refine AW.cH J (fun e J=>?_) (fun _ J=>?_)
 refine AW.k (AW.condT' rfl e ?_)
 refine go ?_
 exact fin
 refine go ?_
 refine AW.cH J (fun f J=>?_) (fun _ J=>?_)
 refine AW.k (AW.condT' rfl f ?_)
 refine go ?_
 exact fin
 refine go ?_
 refine Cf J fun _ J=>?_
 refine go ?_
 refine Cf J fun _ J=>?_
 refine go ?_
 exact fin
def qBa (a8:Nat) (x:CsState) (w:bD) (n:bE):Option (CsState×bD) :=
 (qFm x.ag).bind fun a =>
 cond (decide (w=(bz [114,117,108,101,115])))
  ((qAV n 0).bind fun g =>
  (qAV n 1).bind fun h =>
  (qAV n 2).bind fun i =>
  (qAV n 3).bind fun e =>
  (qAR a8 x (Code.mk a.ad a.ar g h i e) x.p).bind fun c =>
  some (c.1,c.2))
  ((qAV n 0).bind fun b =>
  cond (decide (b>=5))
   (some (x,(bz [110,111])))
   ((qAV n 1).bind fun f =>
   (qAV a.ar b).bind fun j =>
   (qAR a8 x (Code.mk a.ad (a.ar.set b.toNat f) a.aq a.av a.au a.ay) x.p).bind fun d =>
   some (d.1,d.2)))
theorem qHf (a8:Nat) (x:CsState) (w:bD) (n:bE) (r:(CsState×bD)) (J:qBa a8 x w n=some r):qGM prog 145 [.pn (qGi x),.v (.string w),.s (List.map ze0 n)] [.pn (qGi r.1),.u,.u] (.v (.string r.2)):=by
 refine qJU T func145 rfl (by decide) rfl rfl [.p 1 0,.v (.string w),sv ze0 n] [(1,.box (ze8 x 2 3)),(3,ro 1 ze0 x.aA),(2,ro 1 ze0 x.no)] 4 (by kernel_rfl) [1] rfl rfl ?_
 intro L
 show AW _ _ _ (⟨[(0,.p 1 0),(1,.v (.string w)),(2,sv ze0 n)],[(1,.box (ze8 x 2 3)),(3,ro 1 ze0 x.aA),(2,ro 1 ze0 x.no)],58,[(1,L 1)]⟩:St)
 refine go ?_
 obtain⟨a,o,J⟩:=zB J
 refine go ?_
 refine AO.x (qAO rfl 4 rfl rfl rfl (qNq _ _ (o)) rfl rfl rfl) ?_
 refine AO.x (als T 6) ?_
 refine AO.se T [.R 4,.R 5,a.aq,a.av,a.au,a.ay] ?_
 refine go ?_
 refine AW.cH J (fun _ J=>?_) (fun _ J=>?_)
 refine AW.q ?_
 obtain⟨d,B,J⟩:=zB J
 refine go ?_
 refine AO.se T [.R 4,.R 5,d,a.av,a.au,a.ay] ?_
 refine go ?_
 obtain⟨e,C,J⟩:=zB J
 refine go ?_
 refine AO.se T [.R 4,.R 5,d,e,a.au,a.ay] ?_
 refine go ?_
 obtain⟨h,E,J⟩:=zB J
 refine go ?_
 refine AO.se T [.R 4,.R 5,d,e,h,a.ay] ?_
 refine AO.n (AW.le (Le.ct 0 0 (σ':=(⟨[(0,.p 1 0),(2,sv ze0 n),(7,.p 6 0)],[(1,.box (ze8 x 2 3)),(2,ro 1 ze0 x.no),(3,ro 1 ze0 x.aA),(4,ro 4 ze5 a.ad),(5,ro 1 ze0 a.ar),(6,.box [.R 4,.R 5,d,e,h,a.ay])],58,[(1,L 1)]⟩:St)) (hpin:=⟨⟨rfl,rfl⟩,trivial⟩)) ?_)
 refine AW.q ?_
 obtain⟨i,t,J⟩:=zB J
 refine go ?_
 refine AO.se T [.R 4,.R 5,d,e,h,i] ?_
 refine go ?_
 obtain⟨b,k,J⟩:=zB J
 refine AW.le (Le.fM 4 (g:=ze5) rfl (fun y=>.vs rfl)) ?_
 refine AW.le (Le.fM 5 (g:=ze0) rfl (fun y=>.vs rfl)) ?_
 refine AW.drawn 6 7 [] mix (by kernel_rfl) rfl ?_
 refine go ?_
 refine AO.x (qBv (ze8 b.1 7 8) [(8,ro 1 ze0 b.1.aA),(7,ro 1 ze0 b.1.no)] 9 (by kernel_rfl) rfl 7 rfl rfl rfl rfl (es:=[.pn (qGi x),.g (ze4 (Code.mk a.ad a.ar d e h i)),.g (ze9 x.p)]) (us:=[.u,.u]) (cs:=qGi b.1) (ids:=[1,2,3]) (by exact zG (.pb rfl (qBB rfl rfl)) (zG (.g (zC .s (zC .s (zC .v (zC .v (zC .v (zC .v (zCn)))))))) (zG (.g (zC .s (zC .s (zC .s (zC .v (zC .v (zC .v (zCn)))))))) (zGn)))) (by decide) (by decide) (qBR a8 _ _ _ _ (k)) rfl rfl (by rfl) rfl) (go ?_)
 exact qDO
 refine go ?_
 obtain⟨j,z,J⟩:=zB J
 refine go ?_
 refine AW.cH J (fun _ J=>?_) (fun _ J=>?_)
 refine go ?_
 exact qDO
 refine go ?_
 obtain⟨f,A,F,l,J⟩:=qAE J
 refine AW.drawn 8 9 [] mix (by kernel_rfl) rfl ?_
 refine go ?_
 refine AO.x (zSr T rfl rfl rfl rfl rfl (zgG (l)) rfl rfl rfl rfl (u':=f) rfl rfl) ?_
 refine AO.n (AW.le (Le.ct 0 0 (σ':=(⟨[(0,.p 1 0),(7,.p 6 0)],[(1,.box (ze8 x 2 3)),(2,ro 1 ze0 x.no),(3,ro 1 ze0 x.aA),(4,ro 4 ze5 a.ad),(5,ro 1 ze0 (a.ar.set j.toNat f)),(6,.box [.R 4,.R 5,a.aq,a.av,a.au,a.ay])],58,[(1,L 1)]⟩:St)) (hpin:=⟨⟨rfl,rfl⟩,trivial⟩)) ?_)
 refine AW.q ?_
 obtain⟨c,m,J⟩:=zB J
 refine AW.le (Le.fM 4 (g:=ze5) rfl (fun y=>.vs rfl)) ?_
 refine AW.le (Le.fM 5 (g:=ze0) rfl (fun y=>.vs rfl)) ?_
 refine AW.drawn 6 9 [] mix (by kernel_rfl) rfl ?_
 refine go ?_
 refine AO.x (qBv (ze8 c.1 9 10) [(10,ro 1 ze0 c.1.aA),(9,ro 1 ze0 c.1.no)] 11 (by kernel_rfl) rfl 9 rfl rfl rfl rfl (es:=[.pn (qGi x),.g (ze4 (Code.mk a.ad (a.ar.set j.toNat f) a.aq a.av a.au a.ay)),.g (ze9 x.p)]) (us:=[.u,.u]) (cs:=qGi c.1) (ids:=[1,2,3]) (by exact zG (.pb rfl (qBB rfl rfl)) (zG (.g (zC .s (zC .s (zC .v (zC .v (zC .v (zC .v (zCn)))))))) (zG (.g (zC .s (zC .s (zC .s (zC .v (zC .v (zC .v (zCn)))))))) (zGn)))) (by decide) (by decide) (qBR a8 _ _ _ _ (m)) rfl rfl (by rfl) rfl) (go ?_)
 exact qDO
def qGf (m:Marks) (judge:Int):bF :=
 (qFl m).bind fun a =>
 (opt a default (qEY m)).bind fun b =>
 (opt a default (qAd judge 0 (w64 (b-1)))).bind fun c =>
 some (a&&c)
theorem qLA (m:Marks) (judge:Int) (r:Bool) (J:qGf m judge=some r):qAC prog 148 [.g (qJb m),judge] (.v (.bool r)):=by
 refine fns T func148 ?_
 refine go ?_
 refine AO.x (bxs T 1) (go ?_)
 obtain⟨e,a,f,b,h,c,J⟩:=qAq J
 refine go ?_
 refine AO.w (cVs (qKs _ _ (a))) ?_
 refine AO.pu T ?_
 refine AO.g0 T ?_
 refine AO.g T (d:=.g [sv ze3 m.ah,sv ze3 m.ac]) [] rfl trivial rfl rfl ?_
 refine AO.d1 9 (fun hg=>cVs (qIr _ _ (qD7 b hg))) ?_
 refine AO.d1 10 (fun hg=>aws) ?_
 refine AO.d2 8 11 (fun hg=>cVs (qAf _ _ _ _ (qD7 c hg))) ?_
 refine go ?_
 exact fin
def qJi (m:Marks):Option (Marks×Bool) :=
 (qFl m).bind fun a =>
 cond (!a)
  (some ((Marks.mk [] []),false))
  (some (m,true))
theorem qOp (m:Marks) (r:(Marks×Bool)) (J:qJi m=some r):qAC prog 266 [.g (qJb m)] (.t [.g (qJb r.1),.v (.bool r.2)]):=by
 refine fns T func266 ?_
 refine go ?_
 refine AO.x (bxs T 1) ?_
 refine AO.x (als T 2) (go ?_)
 obtain⟨b,a,J⟩:=zB J
 refine go ?_
 refine AO.w (cVs (qKs _ _ (a))) (go ?_)
 refine AW.cH J (fun _ J=>?_) (fun _ J=>?_)
 refine go ?_
 refine AO.se T [.w 0 [],.w 0 []] ?_
 refine go ?_
 exact fin
 refine go ?_
 refine AO.se T [sv ze3 m.ah,sv ze3 m.ac] ?_
 refine go ?_
 exact fin
def qGU (m:Marks) (item:Int) (judge:Int) (grade:Int):Option (Marks×Bool) :=
 (qGf m judge).bind fun c =>
 (opt (!(!c)) default (qAd item 0 (w64 ((m.ah.length:Int)-1)))).bind fun e =>
 cond ((!c)||(!e))
  (some ((Marks.mk [] []),false))
  ((qFq m).bind fun b =>
  (qAV b.ah item).bind fun d =>
  (qAV d judge).bind fun f =>
  (qJi (Marks.mk (b.ah.set item.toNat (d.set judge.toNat grade)) b.ac)).bind fun a =>
  some (a.1,a.2))
theorem qO5 (m:Marks) (item:Int) (judge:Int) (grade:Int) (r:(Marks×Bool)) (J:qGU m item judge grade=some r):qAC prog 210 [.g (qJb m),item,judge,grade] (.t [.g (qJb r.1),.v (.bool r.2)]):=by
 refine fns T func210 ?_
 refine gs2 ?_
 refine AO.x (bxs T 1) ?_
 refine AO.x (als T 2) ?_
 refine gs4 ?_
 obtain⟨k,e,l,f,J⟩:=qAE J
 refine gs3 ?_
 refine AO.w (cVs (qLA _ _ _ (e))) ?_
 refine gs2 ?_
 refine AO.g0 T ?_
 refine AO.g0 T ?_
 refine AO.g1 T 17 ?_
 refine AO.d1 18 (fun hg=>qMc T) ?_
 refine AO.d1 19 (fun hg=>aws) ?_
 refine AO.d2 16 20 (fun hg=>cVs (qAf _ _ _ _ (qD7 f hg))) ?_
 refine AO.g1 T 21 ?_
 refine gs2 ?_
 refine AW.cH J (fun _ J=>?_) (fun _ J=>?_)
 refine gs3 ?_
 refine AO.se T [.w 0 [],.w 0 []] ?_
 refine gs3 ?_
 exact fin
 refine gs2 ?_
 obtain⟨h,i,J⟩:=zB J
 refine gs2 ?_
 refine AO.x (qAO rfl 3 rfl rfl rfl (qJM _ _ (i)) rfl rfl rfl) ?_
 refine AO.x (als T 5) ?_
 refine AO.se T [.R 3,.R 4] ?_
 refine gs2 ?_
 obtain⟨j,a,o,c,J⟩:=qAE J
 refine AW.le (Le.openM 3 item.toNat 0 6 rfl (zgG (a)) rfl rfl) ?_
 refine gs4 ?_
 refine AO.w (qET T rfl rfl rfl rfl rfl rfl (a)) ?_
 refine AO.w (qCb T rfl rfl rfl rfl rfl) ?_
 refine gs3 ?_
 refine AO.x (zSr T rfl rfl rfl rfl rfl (zgG (c)) rfl rfl rfl rfl (u':=grade) rfl rfl) ?_
 refine AO.le (Le.closeM 3 item.toNat 0 6 rfl rfl (zgG (a)) rfl (u':=(j.set judge.toNat grade)) rfl) ?_
 refine AO.n (AW.le (Le.ct 0 0 (σ':=(⟨[(8,.p 2 0),(10,.p 5 0)],[(2,.box [.w 0 [],.w 0 []]),(3,ro 1 ze7 (h.ah.set item.toNat (j.set judge.toNat grade))),(4,ro 1 ze7 h.ac),(5,.box [.R 3,.R 4])],39,[]⟩:St))) ?_)
 refine AW.q ?_
 obtain⟨b,d,J⟩:=zB J
 refine AW.le (Le.fM 3 (g:=ze3) rfl (fun y=>qAh y)) ?_
 refine AW.le (Le.fM 4 (g:=ze3) rfl (fun y=>qAh y)) ?_
 refine gs2 ?_
 refine AO.w (cVs (qOp _ _ (d))) ?_
 refine gs2 ?_
 refine AO.se T [sv ze3 b.1.ah,sv ze3 b.1.ac] ?_
 refine gs3 ?_
 exact fin
def qEc (m:Marks) (component:Int) (judge:Int) (mark:Int):Option (Marks×Bool) :=
 (qGf m judge).bind fun c =>
 (opt (!(!c)) default (qAd component 0 2)).bind fun e =>
 cond ((!c)||(!e))
  (some ((Marks.mk [] []),false))
  ((qFq m).bind fun b =>
  (qAV b.ac component).bind fun d =>
  (qAV d judge).bind fun f =>
  (qJi (Marks.mk b.ah (b.ac.set component.toNat (d.set judge.toNat mark)))).bind fun a =>
  some (a.1,a.2))
theorem qMV (m:Marks) (component:Int) (judge:Int) (mark:Int) (r:(Marks×Bool)) (J:qEc m component judge mark=some r):qAC prog 211 [.g (qJb m),component,judge,mark] (.t [.g (qJb r.1),.v (.bool r.2)]):=by
 refine fns T func211 ?_
 refine gs2 ?_
 refine AO.x (bxs T 1) ?_
 refine AO.x (als T 2) ?_
 refine gs4 ?_
 obtain⟨k,e,l,f,J⟩:=qAE J
 refine gs3 ?_
 refine AO.w (cVs (qLA _ _ _ (e))) ?_
 refine gs2 ?_
 refine AO.g0 T ?_
 refine AO.d1 16 (fun hg=>cVs (qAf _ _ _ _ (qD7 f hg))) ?_
 refine AO.g1 T 17 ?_
 refine gs2 ?_
 refine AW.cH J (fun _ J=>?_) (fun _ J=>?_)
 refine gs3 ?_
 refine AO.se T [.w 0 [],.w 0 []] ?_
 refine gs3 ?_
 exact fin
 refine gs2 ?_
 obtain⟨h,i,J⟩:=zB J
 refine gs2 ?_
 refine AO.x (qAO rfl 3 rfl rfl rfl (qJM _ _ (i)) rfl rfl rfl) ?_
 refine AO.x (als T 5) ?_
 refine AO.se T [.R 3,.R 4] ?_
 refine gs2 ?_
 obtain⟨j,a,o,c,J⟩:=qAE J
 refine AW.le (Le.openM 4 component.toNat 0 6 rfl (zgG (a)) rfl rfl) ?_
 refine gs4 ?_
 refine AO.w (qET T rfl rfl rfl rfl rfl rfl (a)) ?_
 refine AO.w (qCb T rfl rfl rfl rfl rfl) ?_
 refine gs3 ?_
 refine AO.x (zSr T rfl rfl rfl rfl rfl (zgG (c)) rfl rfl rfl rfl (u':=mark) rfl rfl) ?_
 refine AO.le (Le.closeM 4 component.toNat 0 6 rfl rfl (zgG (a)) rfl (u':=(j.set judge.toNat mark)) rfl) ?_
 refine AO.n (AW.le (Le.ct 0 0 (σ':=(⟨[(8,.p 2 0),(10,.p 5 0)],[(2,.box [.w 0 [],.w 0 []]),(3,ro 1 ze7 h.ah),(4,ro 1 ze7 (h.ac.set component.toNat (j.set judge.toNat mark))),(5,.box [.R 3,.R 4])],35,[]⟩:St))) ?_)
 refine AW.q ?_
 obtain⟨b,d,J⟩:=zB J
 refine AW.le (Le.fM 3 (g:=ze3) rfl (fun y=>qAh y)) ?_
 refine AW.le (Le.fM 4 (g:=ze3) rfl (fun y=>qAh y)) ?_
 refine gs2 ?_
 refine AO.w (cVs (qOp _ _ (d))) ?_
 refine gs2 ?_
 refine AO.se T [sv ze3 b.1.ah,sv ze3 b.1.ac] ?_
 refine gs3 ?_
 exact fin
def qAk (a8:Nat) (x:CsState) (w:bD) (n:bE):Option (CsState×bD) :=
 (qAZ x.p x.p.ai).bind fun a =>
 (qDX a8 (a.ai.length:Int) 3).bind fun q =>
 cond (decide (w=(bz [106,117,100,103,101,115])))
  ((qAV n 0).bind fun g =>
  cond (decide (g>9))
   (some (x,(bz [110,111])))
   ((qDX a8 (a.ai.length:Int) g).bind fun o =>
   cond (!true)
    (some (x,(bz [110,111])))
    ((qAR a8 x x.ag (Performance.mk a.ai o a.af)).bind fun b =>
    some (b.1,b.2))))
  (cond (decide (w=(bz [103,114,97,100,101])))
   ((qAV n 0).bind fun h =>
   (qAV n 1).bind fun i =>
   (qAV n 2).bind fun j =>
   (qGU a.ae h i j).bind fun c =>
   cond (!c.2)
    (some (x,(bz [110,111])))
    ((qAR a8 x x.ag (Performance.mk a.ai c.1 a.af)).bind fun d =>
    some (d.1,d.2)))
   ((qAV n 0).bind fun k =>
   (qAV n 1).bind fun l =>
   (qAV n 2).bind fun m =>
   (qEc a.ae k l m).bind fun e =>
   cond (!e.2)
    (some (x,(bz [110,111])))
    ((qAR a8 x x.ag (Performance.mk a.ai e.1 a.af)).bind fun f =>
    some (f.1,f.2))))
theorem qFJ (a8:Nat) (x:CsState) (w:bD) (n:bE) (r:(CsState×bD)) (J:qAk a8 x w n=some r):qGM prog 146 [.pn (qGi x),.v (.string w),.s (List.map ze0 n)] [.pn (qGi r.1),.u,.u] (.v (.string r.2)):=by
 refine qJU T func146 rfl (by decide) rfl rfl [.p 1 0,.v (.string w),sv ze0 n] [(1,.box (ze8 x 2 3)),(3,ro 1 ze0 x.aA),(2,ro 1 ze0 x.no)] 4 (by kernel_rfl) [1] rfl rfl ?_
 intro L
 show AW _ _ _ (⟨[(0,.p 1 0),(1,.v (.string w)),(2,sv ze0 n)],[(1,.box (ze8 x 2 3)),(3,ro 1 ze0 x.aA),(2,ro 1 ze0 x.no)],81,[(1,L 1)]⟩:St)
 refine gs5 ?_
 obtain⟨a,z,J⟩:=zB J
 refine AW.drawn 11 4 [] mix (by kernel_rfl) rfl ?_
 refine gs9 ?_
 refine AD.q (FStep.call rfl rfl rfl rfl rfl (qGD _ _ _ (z)) rfl rfl) (qBD _ _) (qDi _ _) rfl ?_
 refine AD.q (FStep.alloc T rfl rfl rfl rfl rfl rfl) (by simp[qA1]) (Nat.le_succ _) rfl ?_
 refine AD.nil (AO.se T [.R 4,.R 5,.R 6,a.af.falls,a.af.an,a.af.aw] ?_)
 refine gs2 ?_
 obtain⟨h,A,J⟩:=zB J
 refine gs4 ?_
 refine AO.x (qAO rfl 8 rfl rfl rfl (qJc a8 _ _ _ (A)) rfl rfl rfl) ?_
 refine AO.x (als T 10) ?_
 refine AO.se T [.R 8,.R 9] ?_
 iterate 13 refine gs ?_
 refine AW.cH J (fun _ J=>?_) (fun _ J=>?_)
 refine gs2 ?_
 obtain⟨C,N,J⟩:=zB J
 refine gs6 ?_
 refine AW.le (Le.ct 0 0 (σ':=(⟨[(0,.p 1 0),(2,sv ze0 n),(7,.p 7 0),(8,.p 10 0),(9,.v (.bool true)),(45,.v (.bool (decide (C>9))))],[(1,.box (ze8 x 2 3)),(2,ro 1 ze0 x.no),(3,ro 1 ze0 x.aA),(4,ro 3 qBn a.ai),(5,ro 1 ze7 a.ae.ah),(6,ro 1 ze7 a.ae.ac),(7,.box [.R 4,.R 5,.R 6,a.af.falls,a.af.an,a.af.aw]),(8,ro 1 ze7 h.ah),(9,ro 1 ze7 h.ac),(10,.box [.R 8,.R 9])],81,[(1,L 1)]⟩:St)) (hpin:=⟨⟨rfl,rfl⟩,trivial⟩)) ?_
 refine AW.cH J (fun _ J=>?_) (fun hc J=>?_)
 refine gs5 ?_
 exact qDO
 refine AW.k ?_
 obtain⟨E,B,J⟩:=zB J
 refine AW.drawn 6 11 [] mix (by kernel_rfl) rfl ?_
 refine gs2 ?_
 refine AD.vv (qZF T) ?_
 refine gs4 ?_
 refine AO.x (qAO rfl 11 rfl rfl rfl (qJc a8 _ _ _ (B)) rfl rfl rfl) ?_
 refine AO.se T [.R 11,.R 12] ?_
 refine gs7 ?_
 refine AW.cH J (fun _ J=>?_) (fun hc J=>?_)
 refine gs5 ?_
 exact qDO
 refine gs5 ?_
 refine AO.se T [.R 4,.R 11,.R 12,a.af.falls,a.af.an,a.af.aw] ?_
 refine gs2 ?_
 obtain⟨d,i,J⟩:=zB J
 refine AW.le (Le.fM 4 (g:=ze2) rfl (fun y=>qGO y)) ?_
 refine AW.le (Le.fM 11 (g:=ze3) rfl (fun y=>qAh y)) ?_
 refine AW.le (Le.fM 12 (g:=ze3) rfl (fun y=>qAh y)) ?_
 refine AW.drawn 6 13 [] mix (by kernel_rfl) rfl ?_
 refine gs7 ?_
 refine AO.x (qBv (ze8 d.1 13 14) [(14,ro 1 ze0 d.1.aA),(13,ro 1 ze0 d.1.no)] 15 (by kernel_rfl) rfl 13 rfl rfl rfl rfl (es:=[.pn (qGi x),.g (ze4 x.ag),.g (ze9 (Performance.mk a.ai E a.af))]) (us:=[.u,.u]) (cs:=qGi d.1) (ids:=[1,2,3]) (by exact zG (.pb rfl (qBB rfl rfl)) (zG (.g (zC .s (zC .s (zC .v (zC .v (zC .v (zC .v (zCn)))))))) (zG (.g (zC .s (zC .s (zC .s (zC .v (zC .v (zC .v (zCn)))))))) (zGn)))) (by decide) (by decide) (qBR a8 _ _ _ _ (i)) rfl rfl (by rfl) rfl) ?_
 refine gs3 ?_
 exact qDO
 refine gs5 ?_
 refine AW.le (Le.ct 0 0 (σ':=(⟨[(0,.p 1 0),(2,sv ze0 n),(7,.p 7 0),(8,.p 10 0),(53,.v (.bool (decide (w=(bz [103,114,97,100,101])))))],[(1,.box (ze8 x 2 3)),(2,ro 1 ze0 x.no),(3,ro 1 ze0 x.aA),(4,ro 3 qBn a.ai),(5,ro 1 ze7 a.ae.ah),(6,ro 1 ze7 a.ae.ac),(7,.box [.R 4,.R 5,.R 6,a.af.falls,a.af.an,a.af.aw]),(8,ro 1 ze7 h.ah),(9,ro 1 ze7 h.ac),(10,.box [.R 8,.R 9])],81,[(1,L 1)]⟩:St)) (hpin:=⟨⟨rfl,rfl⟩,trivial⟩)) ?_
 refine AW.cH J (fun _ J=>?_) (fun _ J=>?_)
 obtain⟨O,F,P,G,Q,H,J⟩:=qAq J
 obtain⟨e,j,J⟩:=zB J
 refine AW.le (Le.fM 5 (g:=ze3) rfl (fun y=>qAh y)) ?_
 refine AW.le (Le.fM 6 (g:=ze3) rfl (fun y=>qAh y)) ?_
 refine AW.drawn 16 15 [10] mix (by kernel_rfl) rfl ?_
 iterate 11 refine gs ?_
 refine AD.vv (cVs (qO5 _ _ _ _ _ (j))) ?_
 refine gs3 ?_
 refine AD.kk (FStep.store_p T rfl rfl rfl rfl rfl rfl rfl rfl rfl rfl rfl) ?_
 refine gs9 ?_
 refine AW.cH J (fun _ J=>?_) (fun hc J=>?_)
 refine gs5 ?_
 exact qDO
 refine gs5 ?_
 refine AO.se T [.R 4,sv ze3 e.1.ah,sv ze3 e.1.ac,a.af.falls,a.af.an,a.af.aw] ?_
 refine gs2 ?_
 obtain⟨b,l,J⟩:=zB J
 refine AW.le (Le.fM 4 (g:=ze2) rfl (fun y=>qGO y)) ?_
 refine AW.drawn 6 15 [] mix (by kernel_rfl) rfl ?_
 refine gs7 ?_
 refine AO.x (qBv (ze8 b.1 15 16) [(16,ro 1 ze0 b.1.aA),(15,ro 1 ze0 b.1.no)] 17 (by kernel_rfl) rfl 15 rfl rfl rfl rfl (es:=[.pn (qGi x),.g (ze4 x.ag),.g (ze9 (Performance.mk a.ai e.1 a.af))]) (us:=[.u,.u]) (cs:=qGi b.1) (ids:=[1,2,3]) (by exact zG (.pb rfl (qBB rfl rfl)) (zG (.g (zC .s (zC .s (zC .v (zC .v (zC .v (zC .v (zCn)))))))) (zG (.g (zC .s (zC .s (zC .s (zC .v (zC .v (zC .v (zCn)))))))) (zGn)))) (by decide) (by decide) (qBR a8 _ _ _ _ (l)) rfl rfl (by rfl) rfl) ?_
 refine gs2 ?_
 refine AW.le (Le.ct 0 0 (σ':=(⟨[(6,.v (.string b.2))],[(1,.box (ze8 b.1 15 16)),(15,ro 1 ze0 b.1.no),(16,ro 1 ze0 b.1.aA)],81,[(1,L 1)]⟩:St)) (hpin:=⟨⟨rfl,rfl⟩,trivial⟩)) ?_
 refine AW.t ?_
 exact qDO
 obtain⟨S,I,U,K,V,M,J⟩:=qAq J
 obtain⟨f,m,J⟩:=zB J
 refine AW.le (Le.fM 5 (g:=ze3) rfl (fun y=>qAh y)) ?_
 refine AW.le (Le.fM 6 (g:=ze3) rfl (fun y=>qAh y)) ?_
 refine AW.drawn 16 17 [10] mix (by kernel_rfl) rfl ?_
 iterate 11 refine gs ?_
 refine AD.vv (cVs (qMV _ _ _ _ _ (m))) ?_
 refine gs3 ?_
 refine AD.kk (FStep.store_p T rfl rfl rfl rfl rfl rfl rfl rfl rfl rfl rfl) ?_
 refine gs9 ?_
 refine AW.cH J (fun _ J=>?_) (fun _ J=>?_)
 refine gs5 ?_
 exact qDO
 refine gs5 ?_
 refine AO.se T [.R 4,sv ze3 f.1.ah,sv ze3 f.1.ac,a.af.falls,a.af.an,a.af.aw] ?_
 refine gs2 ?_
 obtain⟨c,o,J⟩:=zB J
 refine AW.le (Le.fM 4 (g:=ze2) rfl (fun y=>qGO y)) ?_
 refine AW.drawn 6 17 [] mix (by kernel_rfl) rfl ?_
 refine gs7 ?_
 refine AO.x (qBv (ze8 c.1 17 18) [(18,ro 1 ze0 c.1.aA),(17,ro 1 ze0 c.1.no)] 19 (by kernel_rfl) rfl 17 rfl rfl rfl rfl (es:=[.pn (qGi x),.g (ze4 x.ag),.g (ze9 (Performance.mk a.ai f.1 a.af))]) (us:=[.u,.u]) (cs:=qGi c.1) (ids:=[1,2,3]) (by exact zG (.pb rfl (qBB rfl rfl)) (zG (.g (zC .s (zC .s (zC .v (zC .v (zC .v (zC .v (zCn)))))))) (zG (.g (zC .s (zC .s (zC .s (zC .v (zC .v (zC .v (zCn)))))))) (zGn)))) (by decide) (by decide) (qBR a8 _ _ _ _ (o)) rfl rfl (by rfl) rfl) ?_
 refine gs2 ?_
 refine AW.le (Le.ct 0 0 (σ':=(⟨[(6,.v (.string c.2))],[(1,.box (ze8 c.1 17 18)),(17,ro 1 ze0 c.1.no),(18,ro 1 ze0 c.1.aA)],81,[(1,L 1)]⟩:St)) (hpin:=⟨⟨rfl,rfl⟩,trivial⟩)) ?_
 refine AW.t ?_
 exact qDO
def qEj (judge:Int) (e:Marks) (d:List bE):Nat->List bE->List bE->Int->Option Marks
 |0,_,_,_=>none
 |f+1,g,b,a =>
  cond (decide (a<(e.ac.length:Int)))
   ((qAV b a).bind fun c =>
   (qAV c judge).bind fun h =>
   qEj judge e d f (b.set a.toNat (c.set judge.toNat 1000)) (b.set a.toNat (c.set judge.toNat 1000)) (w64 (a+1)))
   (some (Marks.mk d b))
def qFh (judge:Int) (a8:Nat) (c:Marks):Nat->List bE->List bE->Int->Option Marks
 |0,_,_,_=>none
 |e+1,f,b,a =>
  cond (decide (a<(c.ah.length:Int)))
   ((qAV b a).bind fun d =>
   (qAV d judge).bind fun g =>
   qFh judge a8 c e (b.set a.toNat (d.set judge.toNat 5)) (b.set a.toNat (d.set judge.toNat 5)) (w64 (a+1)))
   (qEj judge c b a8 c.ac c.ac 0)
def qEk (judge:Int) (e:Marks) (d:List bE):Nat->List bE->List bE->Int->Option Marks
 |0,_,_,_=>none
 |f+1,g,b,a =>
  cond (decide (a<(e.ac.length:Int)))
   ((qAV b a).bind fun c =>
   (qAV c judge).bind fun h =>
   qEk judge e d f (b.set a.toNat (c.set judge.toNat 0)) (b.set a.toNat (c.set judge.toNat 0)) (w64 (a+1)))
   (some (Marks.mk d b))
def qFd (judge:Int) (a8:Nat) (c:Marks):Nat->List bE->List bE->Int->Option Marks
 |0,_,_,_=>none
 |e+1,f,b,a =>
  cond (decide (a<(c.ah.length:Int)))
   ((qAV b a).bind fun d =>
   (qAV d judge).bind fun g =>
   qFd judge a8 c e (b.set a.toNat (d.set judge.toNat (-5))) (b.set a.toNat (d.set judge.toNat (-5))) (w64 (a+1)))
   (qEk judge c b a8 c.ac c.ac 0)
def qGI (a8:Nat) (m:Marks) (judge:Int) (great:Bool):Option Marks :=
 (qFq m).bind fun a =>
 cond great
  (qFh judge a8 a a8 a.ah a.ah 0)
  (qFd judge a8 a a8 a.ah a.ah 0)
theorem qLp (a8:Nat) (m:Marks) (judge:Int) (great:Bool) (r:Marks) (J:qGI a8 m judge great=some r):qAC prog 214 [.g (qJb m),judge,.v (.bool great)] (.g (qJj r)):=by
 refine fns T func214 ?_
 refine gs2 ?_
 refine AO.x (bxs T 1) ?_
 refine AO.x (als T 2) ?_
 refine gs2 ?_
 obtain⟨a,I,J⟩:=zB J
 refine gs2 ?_
 refine AO.x (qAO rfl 3 rfl rfl rfl (qJM _ _ (I)) rfl rfl rfl) ?_
 refine AO.x (als T 5) ?_
 refine AO.se T [.R 3,.R 4] ?_
 iterate 11 refine gs ?_
 refine AW.cH J (fun hc J=>?_) (fun hc J=>?_)
 iterate 16 refine gs ?_
 refine AW.loopS (fun s:Nat×(List bE)×(List bE)×Int=>(⟨[(1,judge),(6,.p 2 0),(7,.p 5 0),(8,(5:Int)),(9,(1000:Int)),(18,.R 3),(19,(a.ah.length:Int)),(20,s.2.2.2)],[(2,.box [.w 0 [],.w 0 []]),(3,ro 1 ze7 s.2.2.1),(4,ro 1 ze7 a.ac),(5,.box [.R 3,.R 4])],42,[]⟩:St)) (fun s=>qFh judge a8 a s.1 s.2.1 s.2.2.1 s.2.2.2=some r) (fun s=>s.1) (a8,a.ah,a.ah,0) J ?_ ?_
 exact Le.ct 0 0
 rintro⟨C,K,k,b⟩ J
 try dsimp only at J⊢
 rcases C with _|C
 cases (show none=some _ from J)
 rw[qFh]at J
 refine gs5 ?_
 refine AW.cH J (fun _ J=>?_) (fun hc J=>?_)
 refine gs4 ?_
 obtain⟨n,f,J⟩:=zB J
 refine AW.le (Le.openM 3 b.toNat 0 8 rfl (zgG (f)) rfl rfl) ?_
 refine AW.r (AO.w (qET T rfl rfl rfl rfl rfl rfl (f)) ?_)
 refine AO.w (qCb T rfl rfl rfl rfl rfl) ?_
 refine gs2 ?_
 obtain⟨L,E,J⟩:=zB J
 refine gs5 ?_
 refine AO.x (zSr T rfl rfl rfl rfl rfl (zgG (E)) rfl rfl rfl rfl (u':=5) rfl rfl) ?_
 refine AO.le (Le.closeM 3 b.toNat 0 8 rfl rfl (zgG (f)) rfl (u':=(n.set judge.toNat 5)) rfl) ?_
 refine gs5 ?_
 refine⟨(C,(k.set b.toNat (n.set judge.toNat 5)),(k.set b.toNat (n.set judge.toNat 5)),w64 (b+1)),J,Nat.lt_succ_self _,?_⟩
 exact Le.ct 0 0
 iterate 10 refine gs ?_
 refine AW.loopS (fun s:Nat×(List bE)×(List bE)×Int=>(⟨[(1,judge),(6,.p 2 0),(7,.p 5 0),(9,(1000:Int)),(30,.R 4),(31,(a.ac.length:Int)),(32,s.2.2.2)],[(2,.box [.w 0 [],.w 0 []]),(3,ro 1 ze7 k),(4,ro 1 ze7 s.2.2.1),(5,.box [.R 3,.R 4])],42,[]⟩:St)) (fun s=>qEj judge a k s.1 s.2.1 s.2.2.1 s.2.2.2=some r) (fun s=>s.1) (a8,a.ac,a.ac,0) J ?_ ?_
 exact Le.ct 0 0
 rintro⟨o,M,A,c⟩ J
 try dsimp only at J⊢
 rcases o with _|o
 cases (show none=some _ from J)
 rw[qEj]at J
 refine gs5 ?_
 refine AW.cH J (fun _ J=>?_) (fun hc J=>?_)
 refine gs4 ?_
 obtain⟨q,h,J⟩:=zB J
 refine AW.le (Le.openM 4 c.toNat 0 11 rfl (zgG (h)) rfl rfl) ?_
 refine AW.r (AO.w (qET T rfl rfl rfl rfl rfl rfl (h)) ?_)
 refine AO.w (qCb T rfl rfl rfl rfl rfl) ?_
 refine gs2 ?_
 obtain⟨N,F,J⟩:=zB J
 refine gs5 ?_
 refine AO.x (zSr T rfl rfl rfl rfl rfl (zgG (F)) rfl rfl rfl rfl (u':=1000) rfl rfl) ?_
 refine AO.le (Le.closeM 4 c.toNat 0 11 rfl rfl (zgG (h)) rfl (u':=(q.set judge.toNat 1000)) rfl) ?_
 refine gs5 ?_
 refine⟨(o,(A.set c.toNat (q.set judge.toNat 1000)),(A.set c.toNat (q.set judge.toNat 1000)),w64 (c+1)),J,Nat.lt_succ_self _,?_⟩
 exact Le.ct 0 0
 refine gs4 ?_
 refine AO.se T [.R 3,.R 4] ?_
 refine gs2 ?_
 exact fin
 iterate 10 refine gs ?_
 refine AW.loopS (fun s:Nat×(List bE)×(List bE)×Int=>(⟨[(1,judge),(6,.p 2 0),(7,.p 5 0),(8,(-5:Int)),(9,(0:Int)),(18,.R 3),(19,(a.ah.length:Int)),(20,s.2.2.2)],[(2,.box [.w 0 [],.w 0 []]),(3,ro 1 ze7 s.2.2.1),(4,ro 1 ze7 a.ac),(5,.box [.R 3,.R 4])],42,[]⟩:St)) (fun s=>qFd judge a8 a s.1 s.2.1 s.2.2.1 s.2.2.2=some r) (fun s=>s.1) (a8,a.ah,a.ah,0) J ?_ ?_
 exact Le.ct 0 0
 rintro⟨t,O,l,d⟩ J
 try dsimp only at J⊢
 rcases t with _|t
 cases (show none=some _ from J)
 rw[qFd]at J
 refine gs5 ?_
 refine AW.cH J (fun _ J=>?_) (fun hc J=>?_)
 refine gs4 ?_
 obtain⟨u,i,J⟩:=zB J
 refine AW.le (Le.openM 3 d.toNat 0 14 rfl (zgG (i)) rfl rfl) ?_
 refine AW.r (AO.w (qET T rfl rfl rfl rfl rfl rfl (i)) ?_)
 refine AO.w (qCb T rfl rfl rfl rfl rfl) ?_
 refine gs2 ?_
 obtain⟨P,G,J⟩:=zB J
 refine gs5 ?_
 refine AO.x (zSr T rfl rfl rfl rfl rfl (zgG (G)) rfl rfl rfl rfl (u':=(-5)) rfl rfl) ?_
 refine AO.le (Le.closeM 3 d.toNat 0 14 rfl rfl (zgG (i)) rfl (u':=(u.set judge.toNat (-5))) rfl) ?_
 refine gs5 ?_
 refine⟨(t,(l.set d.toNat (u.set judge.toNat (-5))),(l.set d.toNat (u.set judge.toNat (-5))),w64 (d+1)),J,Nat.lt_succ_self _,?_⟩
 exact Le.ct 0 0
 iterate 10 refine gs ?_
 refine AW.loopS (fun s:Nat×(List bE)×(List bE)×Int=>(⟨[(1,judge),(6,.p 2 0),(7,.p 5 0),(9,(0:Int)),(30,.R 4),(31,(a.ac.length:Int)),(32,s.2.2.2)],[(2,.box [.w 0 [],.w 0 []]),(3,ro 1 ze7 l),(4,ro 1 ze7 s.2.2.1),(5,.box [.R 3,.R 4])],42,[]⟩:St)) (fun s=>qEk judge a l s.1 s.2.1 s.2.2.1 s.2.2.2=some r) (fun s=>s.1) (a8,a.ac,a.ac,0) J ?_ ?_
 exact Le.ct 0 0
 rintro⟨y,Q,B,e⟩ J
 try dsimp only at J⊢
 rcases y with _|y
 cases (show none=some _ from J)
 rw[qEk]at J
 refine gs5 ?_
 refine AW.cH J (fun _ J=>?_) (fun _ J=>?_)
 refine gs4 ?_
 obtain⟨z,j,J⟩:=zB J
 refine AW.le (Le.openM 4 e.toNat 0 17 rfl (zgG (j)) rfl rfl) ?_
 refine AW.r (AO.w (qET T rfl rfl rfl rfl rfl rfl (j)) ?_)
 refine AO.w (qCb T rfl rfl rfl rfl rfl) ?_
 refine gs2 ?_
 obtain⟨S,H,J⟩:=zB J
 refine gs5 ?_
 refine AO.x (zSr T rfl rfl rfl rfl rfl (zgG (H)) rfl rfl rfl rfl (u':=0) rfl rfl) ?_
 refine AO.le (Le.closeM 4 e.toNat 0 17 rfl rfl (zgG (j)) rfl (u':=(z.set judge.toNat 0)) rfl) ?_
 refine gs5 ?_
 refine⟨(y,(B.set e.toNat (z.set judge.toNat 0)),(B.set e.toNat (z.set judge.toNat 0)),w64 (e+1)),J,Nat.lt_succ_self _,?_⟩
 exact Le.ct 0 0
 refine gs4 ?_
 refine AO.se T [.R 3,.R 4] ?_
 refine gs2 ?_
 exact fin
def qIb (a8:Nat) (c:Code) (p:Performance) (factor:Int) (m:Marks):Option Int :=
 (qDU a8 c (Performance.mk p.ai m p.af) factor).bind fun a =>
 some a
theorem qL5 (a8:Nat) (c:Code) (p:Performance) (factor:Int) (m:Marks) (r:Int) (J:qIb a8 c p factor m=some r):qAC prog 213 [.g (ze4 c),.g (ze9 p),factor,.g (qJb m)] (.v (.int .i64 r)):=by
 refine fns T func213 ?_
 refine go ?_
 refine AO.x (bxs T 1) ?_
 refine AO.x (bxs T 2) ?_
 refine AO.x (bxs T 3) (go ?_)
 obtain⟨b,a,J⟩:=zB J
 refine go ?_
 refine AO.w (cVs (qHs a8 _ _ _ _ (a))) (go ?_)
 exact fin
def qG1 (a8:Nat) (c:Code) (p:Performance) (factor:Int) (judge:Int):Option (Int×Int) :=
 (qGI a8 p.ae judge false).bind fun a =>
 (qIb a8 c p factor a).bind fun b =>
 (qGI a8 p.ae judge true).bind fun d =>
 (qIb a8 c p factor d).bind fun e =>
 some (b,e)
theorem qPv (a8:Nat) (c:Code) (p:Performance) (factor:Int) (judge:Int) (r:(Int×Int)) (J:qG1 a8 c p factor judge=some r):qAC prog 149 [.g (ze4 c),.g (ze9 p),factor,judge] (.t [.v (.int .i64 r.1),.v (.int .i64 r.2)]):=by
 refine fns T func149 ?_
 refine go ?_
 refine AO.x (bxs T 1) ?_
 refine AO.x (bxs T 2) (go ?_)
 obtain⟨f,a,i,b,h,d,J⟩:=qAq J
 obtain⟨j,e,J⟩:=zB J
 refine AW.drawn 15 3 [] mix (by kernel_rfl) rfl ?_
 refine go ?_
 refine AD.q (FStep.call rfl rfl rfl rfl rfl (qLp a8 _ _ _ _ (a)) rfl rfl) (qBD _ _) (qDi _ _) rfl ?_
 refine AD.vald rfl rfl rfl (zLV rfl rfl rfl (es:=[.g (ze4 c),.g (ze9 p),factor,.g (qJb f)]) ⟨.free rfl,.free rfl,.free rfl,qIK (LendL.cons ((.rowR rfl (.map fun y=>qAh y))) (LendL.cons ((.rowR rfl (.map fun y=>qAh y))) LendL.nil)),trivial⟩ (qL5 a8 _ _ _ _ _ (b)) (qAj _) rfl) ?_
 refine go ?_
 refine AD.q (FStep.call rfl rfl rfl rfl rfl (qLp a8 _ _ _ _ (d)) rfl rfl) (qBD _ _) (qDi _ _) rfl ?_
 refine AD.nil (AO.w (zLV rfl rfl rfl (es:=[.g (ze4 c),.g (ze9 p),factor,.g (qJb h)]) ⟨.free rfl,.free rfl,.free rfl,qIK (LendL.cons ((.rowR rfl (.map fun y=>qAh y))) (LendL.cons ((.rowR rfl (.map fun y=>qAh y))) LendL.nil)),trivial⟩ (qL5 a8 _ _ _ _ _ (e)) (qAj _) rfl) (go ?_))
 exact fin
def qDB (rA:Result):bE->Nat->Bool->bF
 | [],d,a =>
  (qAd rA.ax 1 999).bind fun b =>
  (opt b default (qAd (rA.ap.length:Int) 1 3)).bind fun e =>
  some (b&&e)
 |c::f,d,a =>
  (qAd c (-1) 100000).bind fun g =>
  cond ((!g)||(a&&decide (c>=0)))
   (some false)
   (qDB rA f (d+1) (decide (c<0)))
def qJf (rA:Result):bF :=
 qDB rA rA.ap 0 false
theorem qOx (rA:Result) (r:Bool) (J:qJf rA=some r):qAC prog 268 [.g (ze6 rA)] (.v (.bool r)):=by
 refine fns T func268 ?_
 refine go ?_
 refine AO.x (bxs T 1) (go ?_)
 refine AW.loopS (fun s:Nat×Bool=>(⟨[(1,.p 1 0),(3,.v (.bool s.2)),(7,sv ze0 rA.ap),(8,(rA.ap.length:Int)),(9,(s.1:Int))],[(1,.box [rA.ax,sv ze0 rA.ap])],35,[]⟩:St)) (fun s=>s.1<=rA.ap.length/\qDB rA (rA.ap.drop s.1) s.1 s.2=some r) (fun s=>rA.ap.length-s.1) (0,false) ⟨Nat.zero_le _,J⟩ ?_ ?_
 exact Le.ct 0 0
 rintro⟨i,k⟩ ⟨y,J⟩
 try dsimp only at J⊢
 refine AW.boundM (t:=7) (l:=rA.ap) rfl (fun m=>?_)
 rcases a:rA.ap.drop i with _|⟨j,n⟩
 rw[a,qDB]at J
 have b:=qAG a
 refine go ?_
 obtain⟨o,c,q,e,J⟩:=qAE J
 refine go ?_
 refine AO.w (cVs (qAf _ _ _ _ (c))) ?_
 refine AO.pu T ?_
 refine AO.g0 T ?_
 refine AO.g1 T 30 ?_
 refine AO.d1 31 (fun hg=>qMc T) ?_
 refine AO.d1 32 (fun hg=>cVs (qAf _ _ _ _ (qD7 e hg))) ?_
 refine go ?_
 exact fin
 rw[a,qDB]at J
 have b:=qAF a
 refine go ?_
 obtain⟨u,f,J⟩:=zB J
 refine go ?_
 refine AO.w (cVs (qAf _ _ _ _ (f))) (go ?_)
 refine AO.g0 T ?_
 refine AO.g1 T 17 ?_
 refine AO.g0 T ?_
 refine AO.g1 T 19 ?_
 refine AO.d [18] rfl ⟨fun h=>h,trivial⟩ (fun hg=>zN rfl rfl rfl (by rw[hg];exact Bool.true_and _)) rfl ?_
 refine go ?_
 refine Cf J fun _ J=>?_
 refine go ?_
 refine⟨(i+1,decide (j<0)),⟨b,(zds a▸J)⟩,qBm b,?_⟩
 exact Le.ct 0 0
def qFD (n:Int):bE->Nat->bF
 | [],a =>
  some false
 |c::b,a =>
  cond (c==n)
   (some true)
   (qFD n b (a+1))
def qL6 (l:bE) (n:Int):bF :=
 qFD n l 0
theorem qRm (l:bE) (n:Int) (r:Bool) (J:qL6 l n=some r):qAC prog 269 [.s (List.map ze0 l),n] (.v (.bool r)):=by
 refine fns T func269 ?_
 refine go ?_
 refine AW.loopS (fun s:Nat=>(⟨[(1,n),(7,sv ze0 l),(8,(l.length:Int)),(9,(s:Int))],[],17,[]⟩:St)) (fun s=>s<=l.length/\qFD n (l.drop s) s=some r) (fun s=>l.length-s) 0 ⟨Nat.zero_le _,J⟩ ?_ ?_
 exact Le.ct 0 0
 rintro c ⟨f,J⟩
 try dsimp only at J⊢
 refine AW.boundM (t:=7) (l:=l) rfl (fun d=>?_)
 rcases a:l.drop c with _|⟨g,e⟩
 rw[a,qFD]at J
 have b:=qAG a
 refine go ?_
 exact fin
 rw[a,qFD]at J
 have b:=qAF a
 refine go ?_
 refine Cf J fun _ J=>?_
 refine go ?_
 refine⟨c+1,⟨b,(zds a▸J)⟩,qBm b,?_⟩
 exact Le.ct 0 0
end Go.Proofs.YtkidpkmpnbibmaaGreatDoor

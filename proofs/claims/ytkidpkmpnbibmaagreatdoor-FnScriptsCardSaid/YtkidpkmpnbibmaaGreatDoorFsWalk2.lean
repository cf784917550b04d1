/- The walk, part 2: what each function reached by the law FnScripts computes. No condition. -/
import Derived.Test.YtkidpkmpnbibmaaGreatDoorFsWalk1
set_option maxRecDepth 4000
set_option maxHeartbeats 1000000
set_option linter.unusedVariables false
set_option linter.unusedSimpArgs false
set_option linter.unusedSectionVars false
namespace Go.Proofs.YtkidpkmpnbibmaaGreatDoor
open Go.AM Tryz
def qCQ (rA:Result):bE->Nat->bF
 | [],a =>
  (qJa rA.ax).bind fun b =>
  (opt b default (qAQ (rA.ap.length:Int) 1 3)).bind fun d =>
  some (b&&d)
 |e::f,a =>
  (qAQ e (-1) 100000).bind fun c =>
  (opt ((!(!c))&&decide ((a:Int)>0)) default (qAV rA.ap (w64 ((a:Int)-1)))).bind fun g =>
  cond ((!c)||((decide ((a:Int)>0)&&decide (g<0))&&decide (e>=0)))
   (some false)
   (qCQ rA f (a+1))
def qJV (rA:Result):bF :=
 qCQ rA rA.ap 0
theorem qO6 (rA:Result) (r:Bool) (J:qJV rA=some r):qAC prog 72 [.g (ze6 rA)] (.v (.bool r)):=by
 refine fns T func72 ?_
 refine go ?_
 refine AO.x (bxs T 1) (go ?_)
 refine AW.loopS (fun s:Nat=>(⟨[(1,.p 1 0),(6,sv ze0 rA.ap),(7,(rA.ap.length:Int)),(8,(s:Int))],[(1,.box [rA.ax,sv ze0 rA.ap])],43,[]⟩:St)) (fun s=>s<=rA.ap.length/\qCQ rA (rA.ap.drop s) s=some r) (fun s=>rA.ap.length-s) 0 ⟨Nat.zero_le _,J⟩ ?_ ?_
 exact Le.ct 0 0
 rintro c ⟨z,J⟩
 try dsimp only at J⊢
 refine AW.boundM (t:=6) (l:=rA.ap) rfl (fun o=>?_)
 rcases a:rA.ap.drop c with _|⟨n,q⟩
 rw[a,qCQ]at J
 have b:=qAG a
 refine go ?_
 obtain⟨u,e,y,f,J⟩:=qAE J
 refine go ?_
 refine AO.w (cVs (qOu _ _ (e))) ?_
 refine AO.pu T ?_
 refine AO.g0 T ?_
 refine AO.g1 T 38 ?_
 refine AO.d1 39 (fun hg=>qMc T) ?_
 refine AO.d1 40 (fun hg=>cVs (qAS _ _ _ _ (qD7 f hg))) ?_
 refine go ?_
 exact fin
 rw[a,qCQ]at J
 have b:=qAF a
 refine go ?_
 obtain⟨k,i,m,j,J⟩:=qAE J
 refine go ?_
 refine AO.w (cVs (qAS _ _ _ _ (i))) (go ?_)
 refine AO.g0 T ?_
 refine AO.g1 T 17 ?_
 refine AO.g1 T 18 ?_
 refine AO.g0 T ?_
 refine AO.g1 T 20 ?_
 refine AO.g0 T ?_
 refine AO.d1 22 (fun hg=>aws) ?_
 refine AO.d2 21 23 (fun hg=>ixs T (qD7 j hg)) ?_
 refine AO.g1 T 24 ?_
 refine AO.g1 T 25 ?_
 refine AO.d [19] rfl ⟨fun h=>h,trivial⟩ (fun hg=>zN rfl rfl rfl (by rw[hg];exact Bool.true_and _)) rfl ?_
 refine AO.g1 T 27 ?_
 refine AO.g0 T ?_
 refine AO.g1 T 29 ?_
 refine AO.d [28] rfl ⟨fun h=>h,trivial⟩ (fun hg=>zN rfl rfl rfl (by rw[hg];exact Bool.true_and _)) rfl ?_
 refine gs2 ?_
 refine AW.le (Le.ct 0 0 (σ':=(⟨[(1,.p 1 0),(6,sv ze0 rA.ap),(7,(rA.ap.length:Int)),(8,(c:Int)),(32,.v (.bool ((!k)||((decide ((c:Int)>0)&&decide (m<0))&&decide (n>=0)))))],[(1,.box [rA.ax,sv ze0 rA.ap])],43,[]⟩:St))) ?_
 refine Cf J fun _ J=>?_
 refine go ?_
 refine⟨c+1,⟨b,(zds a▸J)⟩,qBm b,?_⟩
 exact Le.ct 0 0
def qBj (c:Result):List Result->Nat->Option (Except Bool Unit)
 | [],a =>
  some (.ok ())
 |d::b,a =>
  cond (d.ax==c.ax)
   (some (.error false))
   (qBj c b (a+1))
def qB0 (l:List Result):List Result->Nat->bF
 | [],b =>
  some (decide ((l.length:Int)<=40))
 |c::d,b =>
  ((qJV c).bind fun a =>
  (opt (!(!a)) default (qAV l 0)).bind fun e =>
  cond ((!a)||((c.ap.length:Int) != (e.ap.length:Int)))
   (some (.error false))
   ((qFT l (b:Int)).bind fun f =>
   qBj c f 0)).bind fun g=>qKL g fun _ =>
  qB0 l d (b+1)
def qEU (l:List Result):bF :=
 qB0 l l 0
theorem qH2 (l:List Result) (r:Bool) (J:qEU l=some r):qAC prog 44 [.s (List.map ze6 l)] (.v (.bool r)):=by
 refine fns T func44 ?_
 iterate 12 refine gs ?_
 refine AW.loopS (fun s:Nat=>(⟨[(0,sv ze6 l),(7,sv ze6 l),(8,(l.length:Int)),(9,(s:Int))],[],46,[]⟩:St)) (fun s=>s<=l.length/\qB0 l (l.drop s) s=some r) (fun s=>l.length-s) 0 ⟨Nat.zero_le _,J⟩ ?_ ?_
 exact Le.ct 0 0
 rintro j ⟨y,J⟩
 try dsimp only at J⊢
 refine AW.boundM (t:=0) (l:=l) rfl (fun B=>?_)
 rcases e:l.drop j with _|⟨f,C⟩
 rw[e,qB0]at J
 have g:=qAG e
 iterate 15 refine gs ?_
 exact fin
 rw[e,qB0]at J
 have g:=qAF e
 refine gs7 ?_
 obtain⟨k,J,i⟩:=zB J
 refine AW.seqJ (fun s:Unit=>(⟨[(0,sv ze6 l),(7,sv ze6 l),(8,(l.length:Int)),(9,(j:Int))],[],46,[]⟩:St)) (fun s=>.ok s=k) ?_ ?_
 refine gs6 ?_
 refine AO.x (als T 21) ?_
 refine AO.pu T ?_
 refine AO.se T [f.ax,sv ze0 f.ap] ?_
 refine gs3 ?_
 obtain⟨E,o,F,q,J⟩:=qAE J
 refine AW.drawn 12 22 [] mix (by kernel_rfl) rfl ?_
 refine gs ?_
 refine AD.vv (cVs (qO6 _ _ (o))) ?_
 refine gs2 ?_
 refine AD.pureG T [] rfl trivial rfl rfl ?_
 refine AD.pureG T [18] rfl ⟨fun h=>h,trivial⟩ rfl rfl ?_
 refine AD.guard [19] rfl ⟨fun h=>h,trivial⟩ (fun hg=>qMc T) rfl ?_
 refine AD.pureG T [] rfl trivial rfl rfl ?_
 refine AD.guard [21] rfl ⟨fun h=>h,trivial⟩ (fun hg=>ixs T (qD7 q hg)) rfl ?_
 refine AD.pureG T [22] rfl ⟨fun h=>h,trivial⟩ rfl rfl ?_
 refine AD.pureG T [23] rfl ⟨fun h=>h,trivial⟩ rfl rfl ?_
 refine AD.guard [24] rfl ⟨fun h=>h,trivial⟩ (fun hg=>qMc T) rfl ?_
 refine AD.nil (AO.g2 T 20 25 ?_)
 refine gs2 ?_
 refine AW.cH J (fun _ J=>?_) (fun hc J=>?_)
 refine gs5 ?_
 obtain rfl:=zS J
 replace J:=i
 exact fin
 refine gs2 ?_
 obtain⟨a,u,J⟩:=zB J
 refine gs3 ?_
 refine AO.w (qDv T rfl rfl rfl rfl rfl (u) (fun _=>rfl)) ?_
 refine gs3 ?_
 refine AW.le (Le.ct 0 0 (σ':=(⟨[(0,sv ze6 l),(4,.p 21 0),(7,sv ze6 l),(8,(l.length:Int)),(9,(j:Int)),(30,sv ze6 a),(31,(a.length:Int)),(32,(0:Int))],[(21,.box [f.ax,sv ze0 f.ap])],46,[]⟩:St))) ?_
 refine AW.b (AW.loopS (fun s:Nat=>(⟨[(0,sv ze6 l),(4,.p 21 0),(7,sv ze6 l),(8,(l.length:Int)),(9,(j:Int)),(30,sv ze6 a),(31,(a.length:Int)),(32,(s:Int))],[(21,.box [f.ax,sv ze0 f.ap])],46,[]⟩:St)) (fun s=>s<=a.length/\qBj f (a.drop s) s=some k) (fun s=>a.length-s) 0 ⟨Nat.zero_le _,J⟩ ?_ ?_)
 exact Le.ct 0 0
 rintro m ⟨y,J⟩
 try dsimp only at J⊢
 refine AW.boundM (t:=30) (l:=a) rfl (fun z=>?_)
 rcases c:a.drop m with _|⟨n,A⟩
 rw[c,qBj]at J
 have d:=qAG c
 refine gs7 ?_
 refine⟨_,zS J,?_⟩
 exact Le.ct 0 0
 rw[c,qBj]at J
 have d:=qAF c
 iterate 13 refine gs ?_
 refine AO.x (als T 24) ?_
 refine AO.se T [n.ax,sv ze0 n.ap] ?_
 refine gs9 ?_
 refine AW.cH J (fun _ J=>?_) (fun _ J=>?_)
 refine gs5 ?_
 obtain rfl:=zS J
 replace J:=i
 exact fin
 refine gs5 ?_
 refine⟨m+1,⟨d,(zds c▸J)⟩,qBm d,?_⟩
 exact Le.ct 0 0
 rintro _ hs
 subst hs
 replace J:=i
 try dsimp only[qKL,qIN]at J
 try dsimp only
 refine gs4 ?_
 refine⟨j+1,⟨g,(zds e▸J)⟩,qBm g,?_⟩
 exact Le.ct 0 0
def qCl:bE->Nat->Int->Int->Option ((Int×Int))
 | [],d,b,a =>
  some (b,a)
 |e::c,d,b,a =>
  cond (decide (e>=0))
   (qCl c (d+1) (w64 (b+e)) (w64 (a+1)))
   (qCl c (d+1) b a)
def qId (rA:Result):Option (Int×Int) :=
 qCl rA.ap 0 0 0
theorem qL9 (rA:Result) (r:(Int×Int)) (J:qId rA=some r):qAC prog 277 [.g (ze6 rA)] (.t [.v (.int .i64 r.1),.v (.int .i64 r.2)]):=by
 refine fns T func277 ?_
 refine go ?_
 refine AO.x (bxs T 1) (go ?_)
 refine AW.loopS (fun s:Nat×Int×Int=>(⟨[(4,s.2.1),(5,s.2.2),(9,sv ze0 rA.ap),(10,(rA.ap.length:Int)),(11,(s.1:Int))],[],25,[]⟩:St)) (fun s=>s.1<=rA.ap.length/\qCl (rA.ap.drop s.1) s.1 s.2.1 s.2.2=some r) (fun s=>rA.ap.length-s.1) (0,0,0) ⟨Nat.zero_le _,J⟩ ?_ ?_
 exact Le.ct 0 0
 rintro⟨d,e,c⟩ ⟨j,J⟩
 try dsimp only at J⊢
 refine AW.boundM (t:=9) (l:=rA.ap) rfl (fun h=>?_)
 rcases b:rA.ap.drop d with _|⟨f,i⟩
 rw[b,qCl]at J
 have a:=qAG b
 refine go ?_
 exact fin
 rw[b,qCl]at J
 have a:=qAF b
 refine go ?_
 refine AW.cH J (fun _ J=>?_) (fun _ J=>?_)
 refine go ?_
 refine⟨(d+1,w64 (e+f),w64 (c+1)),⟨a,(zds b▸J)⟩,qBm a,?_⟩
 exact Le.ct 0 0
 refine go ?_
 refine⟨(d+1,e,c),⟨a,(zds b▸J)⟩,qBm a,?_⟩
 exact Le.ct 0 0
def qE9 (n:Int):Option Int :=
 cond (decide (n>0))
  (some 1)
  (cond (decide (n<0))
   (some (-1))
   (some 0))
theorem qKG (n:Int) (r:Int) (J:qE9 n=some r):qAC prog 278 [n] (.v (.int .i64 r)):=by
 refine fns T func278 ?_
 refine go ?_
 refine Cf J fun hc J=>?_
 refine go ?_
 refine Cf J fun _ J=>?_
 refine go ?_
 exact fin
def qB9 (a:Result) (b:Result):Nat->Int->Option Int
 |0,_=>none
 |g+1,c =>
  cond (decide (c>=0))
   ((qAV a.ap c).bind fun d =>
   (qAV b.ap c).bind fun e =>
   cond (d != e)
    ((qE9 (w64 (d-e))).bind fun f =>
    some f)
    (qB9 a b g (w64 (c-1))))
   (some 0)
def qE5 (a8:Nat) (a:Result) (b:Result):Option Int :=
 (qId a).bind fun c =>
 (qId b).bind fun d =>
 cond (c.2 != d.2)
  ((qE9 (w64 (c.2-d.2))).bind fun e =>
  some e)
  (cond (c.1 != d.1)
   ((qE9 (w64 (c.1-d.1))).bind fun f =>
   some f)
   (qB9 a b a8 (w64 ((a.ap.length:Int)-1))))
theorem qLU (a8:Nat) (a:Result) (b:Result) (r:Int) (J:qE5 a8 a b=some r):qAC prog 230 [.g (ze6 a),.g (ze6 b)] (.v (.int .i64 r)):=by
 refine fns T func230 ?_
 refine go ?_
 refine AO.x (bxs T 1) ?_
 refine AO.x (bxs T 2) (go ?_)
 obtain⟨z,e,J⟩:=zB J
 refine go ?_
 refine AO.w (cVs (qL9 _ _ (e))) (go ?_)
 obtain⟨A,f,J⟩:=zB J
 refine go ?_
 refine AO.w (cVs (qL9 _ _ (f))) (go ?_)
 refine AW.cH J (fun _ J=>?_) (fun hc J=>?_)
 refine AW.q ?_
 obtain⟨l,h,J⟩:=zB J
 refine go ?_
 refine AO.w (cVs (qKG _ _ (h))) ?_
 refine gs2 ?_
 refine AW.le (Le.ct 0 0 (σ':=(⟨[(4,l)],[],65,[]⟩:St))) ?_
 refine AW.t ?_
 exact fin
 refine go ?_
 refine AW.cH J (fun _ J=>?_) (fun hc J=>?_)
 refine AW.q ?_
 obtain⟨m,i,J⟩:=zB J
 refine go ?_
 refine AO.w (cVs (qKG _ _ (i))) ?_
 refine gs2 ?_
 refine AW.le (Le.ct 0 0 (σ':=(⟨[(4,m)],[],65,[]⟩:St))) ?_
 refine AW.t ?_
 exact fin
 iterate 10 refine gs ?_
 refine AW.le (Le.ct 0 0 (σ':=(⟨[(2,.p 1 0),(3,.p 2 0),(9,w64 ((a.ap.length:Int)-1))],[(1,.box [a.ax,sv ze0 a.ap]),(2,.box [b.ax,sv ze0 b.ap])],65,[]⟩:St))) ?_
 refine AW.b (AW.loopS (fun s:Nat×Int=>(⟨[(2,.p 1 0),(3,.p 2 0),(9,s.2)],[(1,.box [a.ax,sv ze0 a.ap]),(2,.box [b.ax,sv ze0 b.ap])],65,[]⟩:St)) (fun s=>qB9 a b s.1 s.2=some r) (fun s=>s.1) (a8,w64 ((a.ap.length:Int)-1)) J ?_ ?_)
 exact Le.ct 0 0
 rintro⟨c,j⟩ J
 try dsimp only at J⊢
 rcases c with _|c
 cases (show none=some _ from J)
 rw[qB9]at J
 refine go ?_
 refine AW.cH J (fun hc J=>?_) (fun _ J=>?_)
 refine go ?_
 obtain⟨u,n,y,o,J⟩:=qAE J
 refine AW.drawn 10 3 [] mix (by kernel_rfl) rfl ?_
 refine go ?_
 refine AW.cH J (fun _ J=>?_) (fun hc J=>?_)
 refine AW.q ?_
 obtain⟨k,d,J⟩:=zB J
 refine AW.drawn 10 3 [] mix (by kernel_rfl) rfl ?_
 refine go ?_
 refine AO.w (cVs (qKG _ _ (d))) ?_
 refine gs2 ?_
 refine AW.le (Le.ct 0 0 (σ':=(⟨[(4,k)],[],65,[]⟩:St))) ?_
 refine AW.t ?_
 exact fin
 refine go ?_
 refine⟨(c,w64 (j-1)),J,Nat.lt_succ_self _,?_⟩
 exact Le.ct 0 0
 refine go ?_
 exact fin
def qCp (l:List Result) (i:Int) (a8:Nat):List Result->Nat->Int->Option Int
 | [],c,a =>
  some a
 |f::b,c,a =>
  (qAV l i).bind fun d =>
  (qE5 a8 f d).bind fun e =>
  cond (decide (e>0))
   (qCp l i a8 b (c+1) (w64 (a+1)))
   (qCp l i a8 b (c+1) a)
def qG9 (a8:Nat) (l:List Result) (i:Int):Option Int :=
 qCp l i a8 l 0 1
theorem qLh (a8:Nat) (l:List Result) (i:Int) (r:Int) (J:qG9 a8 l i=some r):qAC prog 174 [.s (List.map ze6 l),i] (.v (.int .i64 r)):=by
 refine fns T func174 ?_
 refine go ?_
 refine AW.loopS (fun s:Nat×Int=>(⟨[(0,sv ze6 l),(1,i),(5,s.2),(8,sv ze6 l),(9,(l.length:Int)),(10,(s.1:Int))],[],25,[]⟩:St)) (fun s=>s.1<=l.length/\qCp l i a8 (l.drop s.1) s.1 s.2=some r) (fun s=>l.length-s.1) (0,1) ⟨Nat.zero_le _,J⟩ ?_ ?_
 exact Le.ct 0 0
 rintro⟨d,c⟩ ⟨n,J⟩
 try dsimp only at J⊢
 refine AW.boundM (t:=0) (l:=l) rfl (fun h=>?_)
 rcases b:l.drop d with _|⟨f,j⟩
 rw[b,qCp]at J
 have a:=qAG b
 refine go ?_
 exact fin
 rw[b,qCp]at J
 have a:=qAF b
 refine go ?_
 refine AO.x (als T 3) ?_
 refine AO.se T [f.ax,sv ze0 f.ap] ?_
 refine go ?_
 obtain⟨k,g,m,e,J⟩:=qAE J
 refine AW.drawn 5 4 [] mix (by kernel_rfl) rfl ?_
 refine go ?_
 refine AO.w (cVs (qLU a8 _ _ _ (e))) (go ?_)
 refine AW.cH J (fun _ J=>?_) (fun _ J=>?_)
 refine go ?_
 refine⟨(d+1,w64 (c+1)),⟨a,(zds b▸J)⟩,qBm a,?_⟩
 exact Le.ct 0 0
 refine go ?_
 refine⟨(d+1,c),⟨a,(zds b▸J)⟩,qBm a,?_⟩
 exact Le.ct 0 0
def qBK (l:List Result) (a8:Nat):List Result->Nat->bE->Option ((bE×Bool))
 | [],c,a =>
  some (a,true)
 |f::d,c,a =>
  (qG9 a8 l (c:Int)).bind fun b =>
  (qAl (qAg 8 (a.length+([b]).length))).bind fun e =>
  qBK l a8 d (c+1) (a++[b])
def qEq (a8:Nat) (l:List Result):Option (bE×Bool) :=
 (qEU l).bind fun a =>
 cond (!a)
  (some ([],false))
  (qBK l a8 l 0 [])
theorem qK0 (a8:Nat) (l:List Result) (r:(bE×Bool)) (J:qEq a8 l=some r):qAC prog 170 [.s (List.map ze6 l)] (.t [.w 1 (r.1.map ze0),.v (.bool r.2)]):=by
 refine fns T func170 ?_
 refine go ?_
 obtain⟨m,f,J⟩:=zB J
 refine go ?_
 refine AO.w (cVs (qH2 _ _ (f))) (go ?_)
 refine Cf J fun _ J=>?_
 refine go ?_
 refine AO.x (qF6 T rfl rfl rfl rfl) (go ?_)
 refine AW.loopS (fun s:Nat×(bE)=>(⟨[(0,sv ze6 l),(4,.R 4),(11,(l.length:Int)),(12,(s.1:Int))],[(4,ro 1 ze0 s.2)],23,[]⟩:St)) (fun s=>s.1<=l.length/\qBK l a8 (l.drop s.1) s.1 s.2=some r) (fun s=>l.length-s.1) (0,[]) ⟨Nat.zero_le _,J⟩ ?_ ?_
 refine Le.trans (Le.void 4 4 1 rfl rfl) ?_
 exact Le.ct 0 0
 rintro⟨g,h⟩ ⟨n,J⟩
 try dsimp only at J⊢
 refine AW.boundM (t:=0) (l:=l) rfl (fun i=>?_)
 rcases a:l.drop g with _|⟨o,j⟩
 rw[a,qBK]at J
 have b:=qAG a
 refine go ?_
 exact fin
 rw[a,qBK]at J
 have b:=qAF a
 refine go ?_
 obtain⟨c,d,k,e,J⟩:=qAE J
 refine go ?_
 refine AO.w (cVs (qLh a8 _ _ _ (d))) ?_
 refine AO.x (mks T 5 ze0 ([c])) ?_
 refine AO.x (rvs T 6 (hfit:=by exact qAJ (e))) (go ?_)
 refine⟨(g+1,(h++[c])),⟨b,(zds a▸J)⟩,qBm b,?_⟩
 exact Le.ct 6 4
def qBe (n:Int):Option bD:=(qAl (decide (-9223372036854775808<=n)&&decide (n<=9223372036854775807))).bind fun _=>some ⟨(Go.Lib.itoa n).toArray⟩
theorem qHx (n:Int) (r:bD) (J:qBe n=some r):qAC prog 173 [.v (.int .i64 n)] (.v (.string r)):=by
 obtain⟨u,hu,hr⟩:=zB J
 cases zS hr
 exact qWI ⟨_,func173,rfl,by decide⟩ (fun n h0 h1 w hG=>Tryz.strconv_Itoa n h0 h1 w (qYk (by kernel_rfl) hG)) n (qAJ hu)
section
open Go.Shelf Go.RowKit
set_option maxHeartbeats 2000000 in
set_option maxRecDepth 100000 in
theorem qLZ {b:Nat} {v:Value} {w:World} (h2:w.heap[b]?=some (.cells #[.pointer none,v] 75 (0,0))) :
  Calls prog 77 #[.pointer (some ⟨b,0,none⟩)] w fun e w'=>e=.returned (.tuple #[])/\w'=w.setCell ⟨b,0,none⟩ (.pointer (some ⟨b,0,none⟩)):=by
 have c0:w.cell? ⟨b,0,none⟩=some (.pointer none):=by rw[Lib.cell_of_heap h2];rfl
 have f1:w.frozen? ⟨b,0,none⟩=false:=Lib.frozen_of_heap h2 0
 have hsh:w.shape? b=some (75,2):=by simp[World.shape?,h2]
 have tP:prog.underlying 73=some (.pointer 75):=by kernel_rfl
 have tX:prog.underlying 142=some .unsafePointer:=by kernel_rfl
 obtain⟨j,hj,hjs⟩:=Option.map_eq_some_iff.1 (show (prog.info? 75).map (·.size)=some 2 by kernel_rfl)
 go_enter func77,ntmps77
 go_wp2
 rw[Lib.run_to_unsafe w ⟨b,0,none⟩ tP tX hj (by rw[hjs];decide) hsh (Nat.zero_lt_succ 1)]
 simp only[Result.andThen]
 rw[Oper.upon_value]
 go_wp2
 rw[run_callFunc_extern func123 (by kernel_rfl) (by kernel_rfl) (by kernel_rfl) (e:=Extern.AbiNoEscape.same) (by kernel_rfl)]
 rw[Lib.run_noEscape]
 simp only[Result.andThen]
 rw[Oper.upon_value]
 go_wp2
 rw[Lib.run_from_unsafe w ⟨b,0,none⟩ tX tP hj hsh (by kernel_rfl)]
 simp only[Result.andThen]
 rw[Oper.upon_value]
 go_wp2
 go_end0
 exact⟨rfl,rfl⟩
set_option maxHeartbeats 2000000 in
set_option maxRecDepth 100000 in
theorem qWH {b:Nat} {fp:List Nat} {f0:Bool} {l:List UInt8} {w:World} {U:TypeId} (h:BldR w fp b f0 75 U l) (hnd:fp.Nodup) :
  Calls prog 77 #[.pointer (some ⟨b,0,none⟩)] w fun e w'=>e=.returned (.tuple #[])/\Chg [b] w w'/\∃v fr,w'.heap[b]?=some (.cells #[.pointer (some ⟨b,0,none⟩),v] 75 (0,0))/\fp=b::fr/\RowU w' fr U v l/\(f0=true->v=.slice none 0 0):=by
 obtain⟨p,v,fr,h1,h2,rfl,h4,h5⟩:=h
 rcases h1 with rfl|rfl
 ·refine(qLZ h2).mono ?_
  rintro e w' ⟨rfl,rfl⟩
  refine⟨rfl,qLE _ _ _ _,v,fr,?_,rfl,h4.same fun k a=>Below.heap_setCell _ _ _ _ (fun e=>(List.nodup_cons.1 hnd).1 (by have e':k=b:=e;rw[<-e'];exact a)),fun h=>(h5 h).2⟩
  simp[World.setCell,Array.getElem?_modify,h2]
 ·have c0:w.cell? ⟨b,0,none⟩=some (.pointer (some ⟨b,0,none⟩)):=by rw[Lib.cell_of_heap h2];rfl
  have tP:prog.underlying 73=some (.pointer 75):=by kernel_rfl
  obtain⟨j,hj,hjs⟩:=Option.map_eq_some_iff.1 (show (prog.info? 75).map (·.size)=some 2 by kernel_rfl)
  go_enter func77,ntmps77
  go_wp2
  rw[Lib.run_neq_ptr_same w _ tP hj]
  go_wp2
  go_end0
  exact⟨rfl,Chg.refl _ _,v,fr,h2,rfl,h4,fun h=>(h5 h).2⟩
set_option maxHeartbeats 2000000 in
set_option maxRecDepth 100000 in
theorem qAe:qZ8 prog 47 75 5:=by
 refine⟨⟨_,func47,rfl,by decide⟩,fun w b fp l f0 s h hnd hlt hlen=>?_⟩
 obtain⟨i0,hi,hz0,hz1,hz2⟩:=info_parts (P:=prog) (e:=5) (z:=.int .u8 0) (size:=1) (bytes:=1) (by kernel_rfl)
 have tS:prog.underlying 55=some (.slice 5):=by kernel_rfl
 have tT:prog.underlying 9=some .string:=by kernel_rfl
 go_enter func47,ntmps47
 go_wp2_with (go_at_call 77;refine(qWH h hnd).mono ?_)
 rintro e w1 ⟨rfl,a,v,fr,hbk,hfp,hrow,_⟩
 subst hfp
 have c1:w1.cell? ⟨b,1,none⟩=some v:=by rw[Lib.cell_of_heap hbk];rfl
 go_wp2_with (at_builtin;refine qUW rfl _ _ 55 9 rfl 5 i0 tS tT hi hz0 hz1 hz2 rfl hrow s rfl hlen ?_)
 intro v' w2 fr' hrow' d hfr
 have hnb:b∉fr:=(List.nodup_cons.1 hnd).1
 have j:b<w1.heap.size:=by
  rcases Nat.lt_or_ge b w1.heap.size with h'|h'
  ·exact h'
  ·simp[Array.getElem?_eq_none h']at hbk
 have f:w2.heap[b]?=some (.cells #[.pointer (some ⟨b,0,none⟩),v] 75 (0,0)):=by rw[d.same b j hnb];exact hbk
 have d1:w2.cell? ⟨b,1,none⟩=some v:=by rw[Lib.cell_of_heap f];rfl
 have f1:w2.frozen? ⟨b,1,none⟩=false:=Lib.frozen_of_heap f 1
 obtain⟨ao,n',cap,rfl⟩:∃ao n' cap,v'=.slice ao n' cap:=by
  rcases hrow' with⟨_,_,hv⟩|⟨_,_,_,_,_,hv,_⟩
  ·exact⟨_,_,_,hv⟩
  ·exact⟨_,_,_,hv⟩
 have hbf:b∉fr':=by
  rcases hfr with rfl|⟨rfl,_⟩
  ·exact hnb
  ·intro h;rw[List.mem_singleton]at h;omega
 go_wp2
 go_ret2
 refine⟨_,b::fr',rfl,?_,⟨.pointer (some ⟨b,0,none⟩),_,fr',.inr rfl,?_,rfl,hrow'.same fun k c=>Below.heap_setCell _ _ _ _ (fun e=>hbf (by have e':k=b:=e;rw[<-e'];exact c)),fun h=>by cases h⟩,?_,?_⟩
 ·exact((Chg.trans (fp:=b::fr) ⟨a.size,fun i hi hn=>a.same i hi (fun h=>hn (by rw[List.mem_singleton.1 h];exact List.mem_cons_self)),a.shape,a.os,a.output,a.tape⟩ d fun x hx=>.inl (List.mem_cons_of_mem _ hx)).trans (qLE _ _ _ _) fun x hx=>.inl (by rw[List.mem_singleton.1 hx];exact List.mem_cons_self))
 ·simp[World.setCell,Array.getElem?_modify,f]
 ·refine List.nodup_cons.2 ⟨hbf,?_⟩
  rcases hfr with rfl|⟨rfl,_⟩
  ·exact(List.nodup_cons.1 hnd).2
  ·simp
 ·have hs2:=d.size
  have hs1:=a.size
  intro k c
  have hsz:(w2.setCell ⟨b,1,none⟩ (.slice ao n' cap)).heap.size=w2.heap.size:=by simp[World.setCell]
  rw[hsz]
  rcases List.mem_cons.1 c with rfl|c
  ·exact⟨by omega,.inl List.mem_cons_self⟩
  ·rcases hfr with rfl|⟨rfl,g⟩
   ·exact⟨by have:=hlt k (List.mem_cons_of_mem _ c);omega,.inl (List.mem_cons_of_mem _ c)⟩
   ·rw[List.mem_singleton.1 c]
    exact⟨g,.inr hs1⟩
end
section
open Go.Shelf Go.RowKit
set_option maxHeartbeats 2000000 in
set_option maxRecDepth 1000000 in
theorem qW8 {b n:Nat} {w:World} (hbk:w.heap[b]?=some (.cells #[.pointer (some ⟨b,0,none⟩),.slice none 0 0] 75 (0,0))) (hn0:0<n) (hn:n<=281474976710656) :
  Calls prog 332 #[.pointer (some ⟨b,0,none⟩),.int .i64 n] w fun e w'=>∃v,e=.returned v/\Chg [b] w w'/\BldR w' [b,w.heap.size] b false 75 5 []/\w.heap.size<w'.heap.size:=by
 have tS:prog.underlying 55=some (.slice 5):=by kernel_rfl
 obtain⟨cs,hrun,hle,hmax⟩:=Lib.run_makeNoZero (P:=prog) w.drew #[3] 55 5 tS n hn
 have hw:IntKind.i64.wrap (IntKind.i64.wrap 0+(n:Int))=n:=by
  rw[IntKind.wrap_i64,IntKind.wrap_i64]
  omega
 have hcall:(callFunc 352 #[.int .i64 (IntKind.i64.wrap (IntKind.i64.wrap 0+(n:Int)))]).run prog w.drew=.ok (.value (.slice (some ⟨w.drew.heap.size,0,none⟩) n cs.size)) (w.drew.drew.drew.alloc (.cells cs 5)):=by
  rw[hw,run_callFunc_extern func352 (by kernel_rfl) (by kernel_rfl) (by kernel_rfl) (e:=Extern.BytealgMakeNoZero.makeNoZero #[3] #[55]) (by kernel_rfl),hrun]
  rfl
 have hlt:b<w.heap.size:=by
  rcases Nat.lt_or_ge b w.heap.size with h'|h'
  ·exact h'
  ·simp[Array.getElem?_eq_none h']at hbk
 have c1:w.drew.cell? ⟨b,1,none⟩=some (.slice none 0 0):=by
  have:w.drew.heap[b]?=_:=hbk
  rw[Lib.cell_of_heap this];rfl
 have a:(w.alloc (.cells cs 5)).heap[b]?=some (.cells #[.pointer (some ⟨b,0,none⟩),.slice none 0 0] 75 (0,0)):=(Lib.alloc_old w _ b hlt).trans hbk
 have c2:(w.alloc (.cells cs 5)).cell? ⟨b,1,none⟩=some (.slice none 0 0):=by
  rw[Lib.cell_of_heap a];rfl
 have f2:(w.alloc (.cells cs 5)).frozen? ⟨b,1,none⟩=false:=Lib.frozen_of_heap a 1
 have hcopy:∀W:World,(Builtin.copy_ #[55,55] 3 #[.slice (some ⟨w.heap.size,0,none⟩) 0 cs.size,.slice none 0 0]).run prog W=.ok (goInt 0) W :=
  fun W=>run_copy_none W 55 55 3 5 _ _ 0 cs.size 0 0 tS (by kernel_rfl) rfl
 clear hw
 have mixed:prog.follows .mixedOrders=true:=by kernel_rfl
 go_enter func332,ntmps332
 go_wp2
 have hcs:cs.size<=9223372036854775807:=hmax (by unfold maxLen;omega)
 have hfin:Chg [b] w (((w.setCell ⟨b,1,none⟩ (.slice (some ⟨w.heap.size,0,none⟩) 0 cs.size)).alloc (.cells cs 5)).drew.drew.drew)/\BldR (((w.setCell ⟨b,1,none⟩ (.slice (some ⟨w.heap.size,0,none⟩) 0 cs.size)).alloc (.cells cs 5)).drew.drew.drew) [b,w.heap.size] b false 75 5 []/\w.heap.size<(((w.setCell ⟨b,1,none⟩ (.slice (some ⟨w.heap.size,0,none⟩) 0 cs.size)).alloc (.cells cs 5)).drew.drew.drew).heap.size:=by
  generalize hV:w.setCell ⟨b,1,none⟩ (.slice (some ⟨w.heap.size,0,none⟩) 0 cs.size)=V
  have hVs:V.heap.size=w.heap.size:=by
   rw[<-hV]
   show (w.heap.modify _ _).size=_
   rw[Array.size_modify]
  have hVb:V.heap[b]?=some (.cells #[.pointer (some ⟨b,0,none⟩),.slice (some ⟨w.heap.size,0,none⟩) 0 cs.size] 75 (0,0)):=by
   rw[<-hV];simp[World.setCell,Array.getElem?_modify,hbk]
  have hV1:Chg [b] w V:=by rw[<-hV];exact qLE _ b 1 _
  have h0:Chg [b] V (V.alloc (.cells cs 5)) :=
   ⟨by show _<=(V.heap.push _).size;simp,fun k c _=>Lib.alloc_old V _ k c,fun k c=>by simp only[World.shape?,Lib.alloc_old V _ k c],rfl,rfl,rfl,Nat.le_refl _⟩
  have h1:=hV1.trans h0 fun x hx=>.inl hx
  have hs:(V.alloc (.cells cs 5)).heap.size=w.heap.size+1:=by
   show (V.heap.push _).size=_
   rw[Array.size_push,hVs]
  have d:=(Lib.alloc_old V (.cells cs 5) b (by rw[hVs];exact hlt)).trans hVb
  have f:(V.alloc (.cells cs 5)).heap[w.heap.size]?=some (.cells cs 5 (0,0)):=by rw[<-hVs];exact heap_alloc_new V _
  generalize V.alloc (.cells cs 5)=W at *
  refine⟨h1.trans ((qJ3 [b] _).trans ((qJ3 [b] _).trans (qJ3 [b] _) fun x hx=>.inl hx) fun x hx=>.inl hx) fun x hx=>.inl hx,?_,by show _<W.heap.size;omega⟩
  show BldR W _ _ _ _ _ _
  exact⟨_,_,[w.heap.size],.inr rfl,d,rfl,.inr ⟨w.heap.size,cs.size,cs,rfl,by omega,rfl,f,by simp,hcs,rfl,by simp⟩,fun h=>by cases h⟩
 go_region_o
 all_goals (go_wp2;go_end0;exact⟨_,rfl,hfin⟩)
set_option maxHeartbeats 2000000 in
set_option maxRecDepth 1000000 in
theorem qIH:qaL prog 287 75 5:=by
 refine⟨⟨_,func287,rfl,by decide⟩,fun w b fp l n h hnd hlt hn=>?_⟩
 have tS:prog.underlying 55=some (.slice 5):=by kernel_rfl
 have mixed:prog.follows .mixedOrders=true:=by kernel_rfl
 have hl:l=[]/\∃b',fp=[b']:=by
  obtain⟨p,v,fr,h1,h2,rfl,h4,h5⟩:=h
  rcases h4 with⟨rfl,h4,_⟩|⟨g,cap,arr,rfl,d,hv,_⟩
  ·exact⟨h4,b,rfl⟩
  ·rw[(h5 rfl).2]at hv;cases hv
 obtain⟨rfl,b',hb'⟩:=hl
 go_enter func287,ntmps287
 obtain⟨p,v,fr,h1,h2,h3,h4,h5⟩:=h
 obtain⟨rfl,rfl⟩:=h5 rfl
 obtain⟨rfl,rfl⟩:b'=b/\fr=[]:=by
  rw[hb']at h3
  simpa [eq_comm]using h3
 subst hb'
 have hbk1:(w.setCell ⟨b',0,none⟩ (.pointer (some ⟨b',0,none⟩))).heap[b']?=some (.cells #[.pointer (some ⟨b',0,none⟩),.slice none 0 0] 75 (0,0)):=by
  simp[World.setCell,Array.getElem?_modify,h2]
 have c1':(w.setCell ⟨b',0,none⟩ (.pointer (some ⟨b',0,none⟩))).drew.cell? ⟨b',1,none⟩=some (.slice none 0 0):=by
  have:(w.setCell ⟨b',0,none⟩ (.pointer (some ⟨b',0,none⟩))).drew.heap[b']?=_:=hbk1
  rw[Lib.cell_of_heap this];rfl
 go_wp2_with (go_at_call 77;refine(qLZ h2).mono ?_;rintro e w' ⟨rfl,rfl⟩)
 go_region_o
 all_goals go_wp2_with (go_at_call 332;refine(qW8 (w:=(w.setCell ⟨b',0,none⟩ (.pointer (some ⟨b',0,none⟩))).drew) hbk1 (by omega) hn).mono ?_;rintro e w' ⟨f,rfl,g1,g2,g3⟩)
 all_goals
  have hs:(w.setCell ⟨b',0,none⟩ (.pointer (some ⟨b',0,none⟩))).drew.heap.size=w.heap.size:=by
   show (w.heap.modify _ _).size=_
   rw[Array.size_modify]
  have hX:Chg [b'] w (w.setCell ⟨b',0,none⟩ (.pointer (some ⟨b',0,none⟩))).drew:=(qLE w b' 0 _).trans (qJ3 [b'] _) fun x hx=>.inl hx
  have c:b'<w.heap.size:=hlt b' (by simp)
  go_end0
  first
   |exact⟨_,_,rfl,hX.trans g1 fun x hx=>.inl hx,g2,by rw[hs];simp;omega,fun k a=>by
     have hgs:=g1.size
     rw[hs]at a g3 hgs
     rcases List.mem_cons.1 a with rfl|a
     ·exact⟨by omega,.inl (by simp)⟩
     ·rw[List.mem_singleton.1 a];exact⟨g3,.inr (Nat.le_refl _)⟩⟩
   |exact⟨_,[b'],rfl,hX,⟨_,_,[],.inr rfl,hbk1,rfl,.inl ⟨rfl,rfl,rfl⟩,fun h=>by cases h⟩,by simp,fun k a=>by
     rw[hs,List.mem_singleton.1 a];exact⟨c,.inl (by simp)⟩⟩
end
theorem qDZ:qYi prog 48 75 5:=qXZ ⟨_,func48,rfl,by decide⟩ Tryz.lays169 Tryz.Builder_Extra_169
def qDb (sep:bD):List bD->Nat->bD->Option bD
 | [],b,a =>
  some a
 |c::d,b,a =>
  (qAl (Nat.ble (a.size+sep.size) 140737488355328)).bind fun e =>
  (qAl (Nat.ble ((a++sep).size+c.size) 140737488355328)).bind fun f =>
  qDb sep d (b+1) ((a++sep)++c)
def qDu (elems:List bD) (sep:bD):List bD->Nat->Int->Option bD
 | [],c,a =>
  (qAl (decide (0<=a)&&decide (a<=281474976710656))).bind fun g =>
  (qAV elems 0).bind fun b =>
  (qAl (Nat.ble ((⟨#[]⟩:bD).size+b.size) 140737488355328)).bind fun h =>
  (qCq elems 1).bind fun d =>
  qDb sep d 0 ((⟨#[]⟩:bD)++b)
 |e::f,c,a =>
  cond (decide ((e.size:Int)>(w64 (9223372036854775807-a))))
   (none)
   (qDu elems sep f (c+1) (w64 (a+(e.size:Int))))
def qDn (sep:bD):List bD->Nat->bD->Option bD
 | [],b,a =>
  some a
 |c::d,b,a =>
  (qAl (Nat.ble (a.size+sep.size) 140737488355328)).bind fun e =>
  (qAl (Nat.ble ((a++sep).size+c.size) 140737488355328)).bind fun f =>
  qDn sep d (b+1) ((a++sep)++c)
def qDh (elems:List bD) (sep:bD):List bD->Nat->Int->Option bD
 | [],b,a =>
  (qAl (decide (0<=a)&&decide (a<=281474976710656))).bind fun g =>
  (qAV elems 0).bind fun c =>
  (qAl (Nat.ble ((⟨#[]⟩:bD).size+c.size) 140737488355328)).bind fun h =>
  (qCq elems 1).bind fun f =>
  qDn sep f 0 ((⟨#[]⟩:bD)++c)
 |d::e,b,a =>
  cond (decide ((d.size:Int)>(w64 (9223372036854775807-a))))
   (none)
   (qDh elems sep e (b+1) (w64 (a+(d.size:Int))))
def qGG (elems:List bD) (sep:bD):Option bD :=
 cond ((elems.length:Int)==0)
  (some (⟨#[]⟩:bD))
  (cond ((elems.length:Int)==1)
   ((qAV elems 0).bind fun a =>
   some a)
   (cond (decide ((sep.size:Int)>0))
    ((qAl ((w64 ((elems.length:Int)-1)) != 0)).bind fun b =>
    cond (decide ((sep.size:Int)>=(w64 ((9223372036854775807:Int).tdiv (w64 ((elems.length:Int)-1))))))
     (none)
     (qDu elems sep elems 0 (w64 (0+(w64 ((sep.size:Int)*(w64 ((elems.length:Int)-1))))))))
    (qDh elems sep elems 0 0)))
theorem qPZ (elems:List bD) (sep:bD) (r:bD) (J:qGG elems sep=some r):qAC prog 233 [.s (List.map ze1 elems),.v (.string sep)] (.v (.string r)):=by
 refine fns T func233 ?_
 refine go ?_
 refine Cf J fun hc J=>?_
 refine go ?_
 refine AW.cH J (fun _ J=>?_) (fun hc J=>?_)
 refine AW.q ?_
 obtain⟨x1,ag,J⟩:=zB J
 refine go ?_
 exact fin
 refine go ?_
 refine AW.cH J (fun hc J=>?_) (fun hc J=>?_)
 refine go ?_
 obtain⟨u3,K,J⟩:=zB J
 refine go ?_
 refine AO.w (qHt rfl rfl rfl (neZ (qAJ (K)))) (go ?_)
 refine AW.cH J (fun _ J=>?_) (fun hc J=>?_)
 cases J
 iterate 12 refine gs ?_
 refine AW.le (Le.ct 0 0 (σ':=(⟨[(0,sv ze1 elems),(1,.v (.string sep)),(5,w64 (0+(w64 ((sep.size:Int)*(w64 ((elems.length:Int)-1))))))],[],75,[]⟩:St))) ?_
 refine go ?_
 refine AW.loopS (fun s:Nat×Int=>(⟨[(0,sv ze1 elems),(1,.v (.string sep)),(5,s.2),(39,sv ze1 elems),(40,(elems.length:Int)),(41,(s.1:Int))],[],75,[]⟩:St)) (fun s=>s.1<=elems.length/\qDu elems sep (elems.drop s.1) s.1 s.2=some r) (fun s=>elems.length-s.1) (0,w64 (0+(w64 ((sep.size:Int)*(w64 ((elems.length:Int)-1)))))) ⟨Nat.zero_le _,J⟩ ?_ ?_
 exact Le.ct 0 0
 rintro⟨L,M⟩ ⟨u,J⟩
 try dsimp only at J⊢
 refine AW.boundM (t:=0) (l:=elems) rfl (fun ah=>?_)
 rcases j:elems.drop L with _|⟨X,ai⟩
 rw[j,qDu]at J
 have f:=qAG j
 refine go ?_
 refine AO.x (qJ0 T true (U:=5) rfl 1 rfl rfl rfl rfl rfl) (go ?_)
 obtain⟨aj,y,J⟩:=zB J
 refine go ?_
 refine AO.x (qVj rfl rfl rfl rfl (qAJ (y)) qIH rfl) (go ?_)
 obtain⟨N,Y,ak,z,J⟩:=qAE J
 refine go ?_
 refine AO.x (qLt rfl rfl rfl rfl (qAJ (z)) qAe rfl) (go ?_)
 obtain⟨a,A,J⟩:=zB J
 refine go ?_
 refine AO.w (qCg T rfl rfl rfl rfl rfl (A) (fun _=>rfl)) (go ?_)
 refine AW.loopS (fun s:Nat×bD=>(⟨[(1,.v (.string sep)),(8,.p 1 0),(63,sv ze1 a),(64,(a.length:Int)),(65,(s.1:Int))],[(1,.bld false 75 5 s.2)],75,[]⟩:St)) (fun s=>s.1<=a.length/\qDb sep (a.drop s.1) s.1 s.2=some r) (fun s=>a.length-s.1) (0,((⟨#[]⟩:bD)++N)) ⟨Nat.zero_le _,J⟩ ?_ ?_
 exact Le.ct 0 0
 rintro⟨k,O⟩ ⟨u,J⟩
 try dsimp only at J⊢
 refine AW.boundM (t:=63) (l:=a) rfl (fun Z=>?_)
 rcases b:a.drop k with _|⟨P,aa⟩
 rw[b,qDb]at J
 have g:=qAG b
 refine go ?_
 refine AO.x (qRM rfl rfl rfl rfl qDZ rfl) (go ?_)
 exact fin
 rw[b,qDb]at J
 have g:=qAF b
 refine go ?_
 obtain⟨al,B,J⟩:=zB J
 refine go ?_
 refine AO.x (qLt rfl rfl rfl rfl (qAJ (B)) qAe rfl) ?_
 refine AO.n ?_
 obtain⟨am,C,J⟩:=zB J
 refine go ?_
 refine AO.x (qLt rfl rfl rfl rfl (qAJ (C)) qAe rfl) (go ?_)
 refine⟨(k+1,((O++sep)++P)),⟨g,(zds b▸J)⟩,qBm g,?_⟩
 exact Le.ct 0 0
 rw[j,qDu]at J
 have f:=qAF j
 refine go ?_
 refine AW.cH J (fun _ J=>?_) (fun hc J=>?_)
 cases J
 refine go ?_
 refine⟨(L+1,w64 (M+(X.size:Int))),⟨f,(zds j▸J)⟩,qBm f,?_⟩
 exact Le.ct 0 0
 refine go ?_
 refine AW.loopS (fun s:Nat×Int=>(⟨[(0,sv ze1 elems),(1,.v (.string sep)),(5,s.2),(39,sv ze1 elems),(40,(elems.length:Int)),(41,(s.1:Int))],[],75,[]⟩:St)) (fun s=>s.1<=elems.length/\qDh elems sep (elems.drop s.1) s.1 s.2=some r) (fun s=>elems.length-s.1) (0,0) ⟨Nat.zero_le _,J⟩ ?_ ?_
 exact Le.ct 0 0
 rintro⟨m,Q⟩ ⟨u,J⟩
 try dsimp only at J⊢
 refine AW.boundM (t:=0) (l:=elems) rfl (fun ab=>?_)
 rcases c:elems.drop m with _|⟨R,ac⟩
 rw[c,qDh]at J
 have h:=qAG c
 refine go ?_
 refine AO.x (qJ0 T true (U:=5) rfl 2 rfl rfl rfl rfl rfl) (go ?_)
 obtain⟨an,E,J⟩:=zB J
 refine go ?_
 refine AO.x (qVj rfl rfl rfl rfl (qAJ (E)) qIH rfl) (go ?_)
 obtain⟨S,ad,ao,F,J⟩:=qAE J
 refine go ?_
 refine AO.x (qLt rfl rfl rfl rfl (qAJ (F)) qAe rfl) (go ?_)
 obtain⟨d,G,J⟩:=zB J
 refine go ?_
 refine AO.w (qCg T rfl rfl rfl rfl rfl (G) (fun _=>rfl)) (go ?_)
 refine AW.loopS (fun s:Nat×bD=>(⟨[(1,.v (.string sep)),(8,.p 2 0),(63,sv ze1 d),(64,(d.length:Int)),(65,(s.1:Int))],[(2,.bld false 75 5 s.2)],75,[]⟩:St)) (fun s=>s.1<=d.length/\qDn sep (d.drop s.1) s.1 s.2=some r) (fun s=>d.length-s.1) (0,((⟨#[]⟩:bD)++S)) ⟨Nat.zero_le _,J⟩ ?_ ?_
 exact Le.ct 0 0
 rintro⟨o,V⟩ ⟨u,J⟩
 try dsimp only at J⊢
 refine AW.boundM (t:=63) (l:=d) rfl (fun ae=>?_)
 rcases e:d.drop o with _|⟨W,af⟩
 rw[e,qDn]at J
 have i:=qAG e
 refine go ?_
 refine AO.x (qRM rfl rfl rfl rfl qDZ rfl) (go ?_)
 exact fin
 rw[e,qDn]at J
 have i:=qAF e
 refine go ?_
 obtain⟨ap,H,J⟩:=zB J
 refine go ?_
 refine AO.x (qLt rfl rfl rfl rfl (qAJ (H)) qAe rfl) ?_
 refine AO.n ?_
 obtain⟨aq,I,J⟩:=zB J
 refine go ?_
 refine AO.x (qLt rfl rfl rfl rfl (qAJ (I)) qAe rfl) (go ?_)
 refine⟨(o+1,((V++sep)++W)),⟨i,(zds e▸J)⟩,qBm i,?_⟩
 exact Le.ct 0 0
 rw[c,qDh]at J
 have h:=qAF c
 refine go ?_
 refine AW.cH J (fun _ J=>?_) (fun _ J=>?_)
 cases J
 refine go ?_
 refine⟨(m+1,w64 (Q+(R.size:Int))),⟨h,(zds c▸J)⟩,qBm h,?_⟩
 exact Le.ct 0 0
def qBY:bE->Nat->List bD->Option bD
 | [],c,a =>
  (qGG a (bz [32])).bind fun d =>
  some d
 |f::e,c,a =>
  (qBe f).bind fun b =>
  (qAl (qAg 16 (a.length+([b]).length))).bind fun g =>
  qBY e (c+1) (a++[b])
def qA5 (l:bE):Option bD :=
 qBY l 0 []
theorem qFz (l:bE) (r:bD) (J:qA5 l=some r):qAC prog 178 [.s (List.map ze0 l)] (.v (.string r)):=by
 refine fns T func178 ?_
 refine go ?_
 refine AO.x (qF6 T rfl rfl rfl rfl) (go ?_)
 refine AW.loopS (fun s:Nat×(List bD)=>(⟨[(3,.R 4),(7,sv ze0 l),(8,(l.length:Int)),(9,(s.1:Int))],[(4,ro 1 ze1 s.2)],21,[]⟩:St)) (fun s=>s.1<=l.length/\qBY (l.drop s.1) s.1 s.2=some r) (fun s=>l.length-s.1) (0,[]) ⟨Nat.zero_le _,J⟩ ?_ ?_
 refine Le.trans (Le.void 3 4 1 rfl rfl) ?_
 exact Le.ct 0 0
 rintro⟨h,c⟩ ⟨n,J⟩
 try dsimp only at J⊢
 refine AW.boundM (t:=7) (l:=l) rfl (fun i=>?_)
 rcases a:l.drop h with _|⟨o,j⟩
 rw[a,qBY]at J
 have b:=qAG a
 refine go ?_
 obtain⟨k,e,J⟩:=zB J
 refine go ?_
 refine AO.w (zLV rfl rfl rfl (es:=[sv ze1 c,.v (.string (bz [32]))]) ⟨(.rowR rfl (.map fun y=>.vs rfl)),.free rfl,trivial⟩ (qPZ _ _ _ (e)) (qAj _) rfl) (go ?_)
 exact fin
 rw[a,qBY]at J
 have b:=qAF a
 refine go ?_
 obtain⟨d,f,m,g,J⟩:=qAE J
 refine go ?_
 refine AO.w (cVs (qHx _ _ (f))) ?_
 refine AO.x (mks T 5 ze1 ([d])) ?_
 refine AO.x (rvs T 6 (hfit:=by exact qAJ (g))) (go ?_)
 refine⟨(h+1,(c++[d])),⟨b,(zds a▸J)⟩,qBm b,?_⟩
 exact Le.ct 6 4
def qCo (l:bE):Option bD :=
 cond ((l.length:Int)==0)
  (some (bz [110,111,110,101]))
  ((qA5 l).bind fun a =>
  some a)
theorem qJl (l:bE) (r:bD) (J:qCo l=some r):qAC prog 171 [.s (List.map ze0 l)] (.v (.string r)):=by
 refine fns T func171 ?_
 refine go ?_
 refine Cf J fun _ J=>?_
 refine go ?_
 obtain⟨b,a,J⟩:=zB J
 refine go ?_
 refine AO.w (cVs (qFz _ _ (a))) (go ?_)
 exact fin
def qA3 (l:List Item) (k:Int):List Item->Nat->Int->Option Int
 | [],e,a =>
  some a
 |f::b,e,a =>
  (qAV f.aj 0).bind fun c =>
  (qAV l k).bind fun g =>
  (qAV g.aj 0).bind fun d =>
  (opt (decide (c=d)) default (qAV f.ae 0)).bind fun h =>
  cond (decide (c=d)&&(h != 3))
   (qA3 l k b (e+1) (w64 (a+1)))
   (qA3 l k b (e+1) a)
def qIv (l:List Item) (k:Int):Option Int :=
 (qFT l k).bind fun a =>
 qA3 l k a 0 0
theorem qN1 (l:List Item) (k:Int) (r:Int) (J:qIv l k=some r):qAC prog 285 [.s (List.map ze2 l),k] (.v (.int .i64 r)):=by
 refine fns T func285 ?_
 refine go ?_
 obtain⟨c,h,J⟩:=zB J
 refine go ?_
 refine AO.w (qDv T rfl rfl rfl rfl rfl (h) (fun _=>rfl)) (go ?_)
 refine AW.loopS (fun s:Nat×Int=>(⟨[(0,sv ze2 l),(1,k),(5,s.2),(10,sv ze2 c),(11,(c.length:Int)),(12,(s.1:Int))],[],39,[]⟩:St)) (fun s=>s.1<=c.length/\qA3 l k (c.drop s.1) s.1 s.2=some r) (fun s=>c.length-s.1) (0,0) ⟨Nat.zero_le _,J⟩ ?_ ?_
 exact Le.ct 0 0
 rintro⟨e,d⟩ ⟨z,J⟩
 try dsimp only at J⊢
 refine AW.boundM (t:=10) (l:=c) rfl (fun q=>?_)
 rcases b:c.drop e with _|⟨f,u⟩
 rw[b,qA3]at J
 have a:=qAG b
 refine go ?_
 exact fin
 rw[b,qA3]at J
 have a:=qAF b
 refine go ?_
 refine AO.x (als T 3) ?_
 refine AO.se T [sv ze1 f.aj,sv ze0 f.ae,.v (.bool f.aB)] ?_
 refine go ?_
 obtain⟨i,n,y,o,j,p,J⟩:=qAq J
 obtain⟨m,g,J⟩:=zB J
 refine AW.drawn 11 4 [] mix (by kernel_rfl) rfl ?_
 refine go ?_
 refine AO.g0 T ?_
 refine AO.g1 T 29 ?_
 refine AO.d1 30 (fun hg=>ixs T (qD7 g hg)) ?_
 refine AO.g1 T 31 ?_
 refine AO.g1 T 32 ?_
 refine gs2 ?_
 refine AW.le (Le.ct 0 0 (σ':=(⟨[(0,sv ze2 l),(1,k),(5,d),(10,sv ze2 c),(11,(c.length:Int)),(12,(e:Int)),(34,.v (.bool (decide (i=j)&&(m != 3))))],[],39,[]⟩:St))) ?_
 refine AW.cH J (fun _ J=>?_) (fun _ J=>?_)
 refine go ?_
 refine⟨(e+1,w64 (d+1)),⟨a,(zds b▸J)⟩,qBm a,?_⟩
 exact Le.ct 0 0
 refine go ?_
 refine⟨(e+1,d),⟨a,(zds b▸J)⟩,qBm a,?_⟩
 exact Le.ct 0 0
def qG4 (c:Code) (x:Element) (mark:Int):Option Int :=
 cond (mark==1)
  ((qAl (100 != 0)).bind fun a =>
  some (w64 ((w64 (x.aG*c.au)).tdiv 100)))
  (cond (mark==2)
   ((qAl (10 != 0)).bind fun b =>
   some (w64 ((w64 (x.aG*9)).tdiv 10)))
   (cond (mark==3)
    (some 0)
    (some x.aG)))
theorem qPx (c:Code) (x:Element) (mark:Int) (r:Int) (J:qG4 c x mark=some r):qAC prog 351 [.g (ze4 c),.g (ze5 x),mark] (.v (.int .i64 r)):=by
 refine fns T func351 ?_
 refine go ?_
 refine AO.x (bxs T 1) ?_
 refine AO.x (bxs T 2) (go ?_)
 refine AW.cH J (fun _ J=>?_) (fun hc J=>?_)
 refine AW.q ?_
 obtain⟨d,a,J⟩:=zB J
 refine go ?_
 refine AO.w (qHt rfl rfl rfl (neZ (qAJ (a)))) (go ?_)
 exact fin
 refine go ?_
 refine AW.cH J (fun _ J=>?_) (fun hc J=>?_)
 refine AW.q ?_
 obtain⟨e,b,J⟩:=zB J
 refine go ?_
 refine AO.w (qHt rfl rfl rfl (neZ (qAJ (b)))) (go ?_)
 exact fin
 refine go ?_
 refine Cf J fun _ J=>?_
 refine go ?_
 exact fin
def qEF (c:Code) (it:Item):List bD->Nat->bE->Option ((bE))
 | [],d,a =>
  some a
 |i::e,d,a =>
  (qCu c i).bind fun f =>
  (qAV c.ad f).bind fun g =>
  (qAV it.ae (d:Int)).bind fun h =>
  (qG4 c g h).bind fun b =>
  (qAl (qAg 8 (a.length+([b]).length))).bind fun j =>
  qEF c it e (d+1) (a++[b])
def qJG (c:Code) (it:Item):Option bE :=
 qEF c it it.aj 0 []
theorem qMj (c:Code) (it:Item) (r:(bE)) (J:qJG c it=some r):qAC prog 331 [.g (ze4 c),.g (ze2 it)] (.w 1 (r.map ze0)):=by
 refine fns T func331 ?_
 refine go ?_
 refine AO.x (bxs T 1) ?_
 refine AO.x (bxs T 2) (go ?_)
 refine AO.x (qF6 T rfl rfl rfl rfl) (go ?_)
 refine AW.loopS (fun s:Nat×(bE)=>(⟨[(2,.p 1 0),(3,.p 2 0),(5,.R 6),(10,sv ze1 it.aj),(11,(it.aj.length:Int)),(12,(s.1:Int))],[(1,.box (ze4 c)),(2,.box [sv ze1 it.aj,sv ze0 it.ae,.v (.bool it.aB)]),(6,ro 1 ze0 s.2)],36,[]⟩:St)) (fun s=>s.1<=it.aj.length/\qEF c it (it.aj.drop s.1) s.1 s.2=some r) (fun s=>it.aj.length-s.1) (0,[]) ⟨Nat.zero_le _,J⟩ ?_ ?_
 refine Le.trans (Le.void 5 6 1 rfl rfl) ?_
 exact Le.ct 0 0
 rintro⟨h,e⟩ ⟨C,J⟩
 try dsimp only at J⊢
 refine AW.boundM (t:=10) (l:=it.aj) rfl (fun o=>?_)
 rcases a:it.aj.drop h with _|⟨E,u⟩
 rw[a,qEF]at J
 have b:=qAG a
 refine go ?_
 exact fin
 rw[a,qEF]at J
 have b:=qAF a
 refine go ?_
 obtain⟨y,i,z,m,A,n,J⟩:=qAq J
 obtain⟨d,j,B,k,J⟩:=qAE J
 refine AW.drawn 16 7 [] mix (by kernel_rfl) rfl ?_
 refine go ?_
 refine AD.vv (cVs (qFr _ _ _ (i))) ?_
 refine go ?_
 refine AD.vv (cVs (qPx _ _ _ _ (j))) ?_
 refine AD.q (FStep.mk T (f:=ze0) (l:=[d]) rfl rfl rfl rfl rfl rfl rfl rfl rfl (fun _=>rfl) rfl rfl rfl rfl) (by simp[qA1]) (Nat.le_succ _) rfl ?_
 refine AD.nil (AO.x (rvs T 8 (hfit:=by exact qAJ (k))) ?_)
 refine gs2 ?_
 refine AW.le (Le.ct 0 0 (σ':=(⟨[(2,.p 1 0),(3,.p 2 0),(5,.R 8),(10,sv ze1 it.aj),(11,(it.aj.length:Int)),(12,(h:Int))],[(1,.box (ze4 c)),(2,.box [sv ze1 it.aj,sv ze0 it.ae,.v (.bool it.aB)]),(8,ro 1 ze0 (e++[d]))],36,[]⟩:St))) ?_
 refine go ?_
 refine⟨(h+1,(e++[d])),⟨b,(zds a▸J)⟩,qBm b,?_⟩
 exact Le.ct 8 6
def qBH:bE->Nat->Int->Option Int
 | [],b,a =>
  some a
 |d::c,b,a =>
  qBH c (b+1) (w64 (a+d))
def qBM (l:bE):Option Int :=
 qBH l 0 0
theorem qFV (l:bE) (r:Int) (J:qBM l=some r):qAC prog 176 [.s (List.map ze0 l)] (.v (.int .i64 r)):=by
 refine fns T func176 ?_
 refine go ?_
 refine AW.loopS (fun s:Nat×Int=>(⟨[(3,s.2),(6,sv ze0 l),(7,(l.length:Int)),(8,(s.1:Int))],[],17,[]⟩:St)) (fun s=>s.1<=l.length/\qBH (l.drop s.1) s.1 s.2=some r) (fun s=>l.length-s.1) (0,0) ⟨Nat.zero_le _,J⟩ ?_ ?_
 exact Le.ct 0 0
 rintro⟨c,d⟩ ⟨h,J⟩
 try dsimp only at J⊢
 refine AW.boundM (t:=6) (l:=l) rfl (fun f=>?_)
 rcases a:l.drop c with _|⟨e,g⟩
 rw[a,qBH]at J
 have b:=qAG a
 refine go ?_
 exact fin
 rw[a,qBH]at J
 have b:=qAF a
 refine go ?_
 refine⟨(c+1,w64 (d+e)),⟨b,(zds a▸J)⟩,qBm b,?_⟩
 exact Le.ct 0 0
def qFU (a:Int) (b:Int):Option Int :=
 (qAl (b != 0)).bind fun c =>
 cond (decide ((a.tmod b)<0))
  (some (w64 ((w64 (a.tdiv b))-1)))
  (some (w64 (a.tdiv b)))
theorem qIt (a:Int) (b:Int) (r:Int) (J:qFU a b=some r):qAC prog 294 [a,b] (.v (.int .i64 r)):=by
 refine fns T func294 ?_
 refine go ?_
 obtain⟨d,c,J⟩:=zB J
 refine go ?_
 refine AO.w (qHt rfl rfl rfl (neZ (qAJ (c)))) (go ?_)
 refine AO.w (qP7 rfl rfl rfl (neZ (qAJ (c)))) (go ?_)
 refine Cf J fun _ J=>?_
 refine go ?_
 exact fin
def qDa (a:Int) (b:Int):Option Int :=
 (qFU (w64 ((w64 (2*a))+b)) (w64 (2*b))).bind fun c =>
 some c
theorem qF5 (a:Int) (b:Int) (r:Int) (J:qDa a b=some r):qAC prog 289 [a,b] (.v (.int .i64 r)):=by
 refine fns T func289 ?_
 refine go ?_
 obtain⟨d,c,J⟩:=zB J
 refine go ?_
 refine AO.w (cVs (qIt _ _ _ (c))) (go ?_)
 exact fin
def qIG (c:Code) (it:Item):Option Int :=
 (qJG c it).bind fun b =>
 (qBM b).bind fun a =>
 cond it.aB
  ((qDa (w64 (a*(w64 (100+c.av)))) 100).bind fun d =>
  some d)
  (some a)
theorem qOy (c:Code) (it:Item) (r:Int) (J:qIG c it=some r):qAC prog 286 [.g (ze4 c),.g (ze2 it)] (.v (.int .i64 r)):=by
 refine fns T func286 ?_
 refine go ?_
 refine AO.x (bxs T 1) ?_
 refine AO.x (bxs T 2) (go ?_)
 obtain⟨e,a,f,b,J⟩:=qAE J
 refine go ?_
 refine AO.x (qAO rfl 3 rfl rfl rfl (qMj _ _ _ (a)) rfl rfl rfl) ?_
 refine AO.w (zLV rfl rfl rfl (es:=[sv ze0 e]) ⟨(.rowR rfl (.map fun y=>.vs rfl)),trivial⟩ (qFV _ _ (b)) (qAj _) rfl) (go ?_)
 refine AW.cH J (fun _ J=>?_) (fun _ J=>?_)
 obtain⟨h,d,J⟩:=zB J
 refine go ?_
 refine AO.w (cVs (qF5 _ _ _ (d))) (go ?_)
 exact fin
 refine go ?_
 exact fin
def qCr (c:Code) (l:List Item) (k:Int):Option Int :=
 (qIv l k).bind fun a =>
 (qAV l k).bind fun d =>
 (qIG c d).bind fun b =>
 cond (decide (a<c.aq))
  (some b)
  (cond (a==c.aq)
   ((qAl (10 != 0)).bind fun e =>
   some (w64 ((w64 (b*7)).tdiv 10)))
   (some 0))
theorem qHO (c:Code) (l:List Item) (k:Int) (r:Int) (J:qCr c l k=some r):qAC prog 232 [.g (ze4 c),.s (List.map ze2 l),k] (.v (.int .i64 r)):=by
 refine fns T func232 ?_
 refine go ?_
 refine AO.x (bxs T 1) (go ?_)
 obtain⟨h,a,i,f,e,b,J⟩:=qAq J
 refine AW.drawn 8 2 [] mix (by kernel_rfl) rfl ?_
 refine go ?_
 refine AD.vv (cVs (qN1 _ _ _ (a))) ?_
 refine go ?_
 refine AO.w (cVs (qOy _ _ _ (b))) (go ?_)
 refine Cf J fun hc J=>?_
 refine go ?_
 refine AW.cH J (fun _ J=>?_) (fun _ J=>?_)
 refine AW.q ?_
 obtain⟨j,d,J⟩:=zB J
 refine go ?_
 refine AO.w (qHt rfl rfl rfl (neZ (qAJ (d)))) ?_
 refine gs2 ?_
 refine AW.le (Le.ct 0 0 (σ':=(⟨[(6,w64 ((w64 (e*7)).tdiv 10))],[],32,[]⟩:St))) ?_
 refine AW.t ?_
 exact fin
 refine gs5 ?_
 refine AW.le (Le.ct 0 0 (σ':=(⟨[(6,(0:Int))],[],32,[]⟩:St))) ?_
 refine AW.t ?_
 exact fin
def qBT (x:bE):Nat->Int->Int->Option Int
 |0,_,_=>none
 |d+1,b,a =>
  cond (decide (a<(x.length:Int)))
   ((qAV x a).bind fun c =>
   qBT x d (max b c) (w64 (a+1)))
   (some b)
def qEt (a8:Nat) (x:bE):Option Int :=
 cond (decide ((x.length:Int)<1))
  (none)
  ((qAV x 0).bind fun a =>
  qBT x a8 a 1)
theorem qKZ (a8:Nat) (x:bE) (r:Int) (J:qEt a8 x=some r):qAC prog 335 [.s (List.map ze0 x)] (.v (.int .i64 r)):=by
 refine fns T func335 ?_
 refine go ?_
 refine AW.cH J (fun _ J=>?_) (fun hc J=>?_)
 cases J
 refine go ?_
 obtain⟨e,g,J⟩:=zB J
 refine go ?_
 refine AW.loopS (fun s:Nat×Int×Int=>(⟨[(0,sv ze0 x),(3,s.2.1),(4,s.2.2)],[],25,[]⟩:St)) (fun s=>qBT x s.1 s.2.1 s.2.2=some r) (fun s=>s.1) (a8,e,1) J ?_ ?_
 exact Le.ct 0 0
 rintro⟨a,b,c⟩ J
 try dsimp only at J⊢
 rcases a with _|a
 cases (show none=some _ from J)
 rw[qBT]at J
 refine go ?_
 refine AW.cH J (fun _ J=>?_) (fun _ J=>?_)
 refine go ?_
 obtain⟨d,f,J⟩:=zB J
 refine go ?_
 refine AO.w (qR0 rfl rfl rfl) (go ?_)
 refine⟨(a,(max b d),w64 (c+1)),J,Nat.lt_succ_self _,?_⟩
 exact Le.ct 0 0
 refine go ?_
 exact fin
def qDH (x:bE):Nat->Int->Int->Option Int
 |0,_,_=>none
 |d+1,b,a =>
  cond (decide (a<(x.length:Int)))
   ((qAV x a).bind fun c =>
   qDH x d (min b c) (w64 (a+1)))
   (some b)
def qHQ (a8:Nat) (x:bE):Option Int :=
 cond (decide ((x.length:Int)<1))
  (none)
  ((qAV x 0).bind fun a =>
  qDH x a8 a 1)
theorem qOZ (a8:Nat) (x:bE) (r:Int) (J:qHQ a8 x=some r):qAC prog 361 [.s (List.map ze0 x)] (.v (.int .i64 r)):=by
 refine fns T func361 ?_
 refine go ?_
 refine AW.cH J (fun _ J=>?_) (fun hc J=>?_)
 cases J
 refine go ?_
 obtain⟨e,g,J⟩:=zB J
 refine go ?_
 refine AW.loopS (fun s:Nat×Int×Int=>(⟨[(0,sv ze0 x),(3,s.2.1),(4,s.2.2)],[],25,[]⟩:St)) (fun s=>qDH x s.1 s.2.1 s.2.2=some r) (fun s=>s.1) (a8,e,1) J ?_ ?_
 exact Le.ct 0 0
 rintro⟨a,b,c⟩ J
 try dsimp only at J⊢
 rcases a with _|a
 cases (show none=some _ from J)
 rw[qDH]at J
 refine go ?_
 refine AW.cH J (fun _ J=>?_) (fun _ J=>?_)
 refine go ?_
 obtain⟨d,f,J⟩:=zB J
 refine go ?_
 refine AO.w (qTT rfl rfl rfl) (go ?_)
 refine⟨(a,(min b d),w64 (c+1)),J,Nat.lt_succ_self _,?_⟩
 exact Le.ct 0 0
 refine go ?_
 exact fin
def qFW (a8:Nat) (l:bE):Option (Int×Int) :=
 cond (decide ((l.length:Int)<5))
  ((qBM l).bind fun a =>
  some (a,(l.length:Int)))
  ((qBM l).bind fun b =>
  (qEt a8 l).bind fun c =>
  (qHQ a8 l).bind fun d =>
  some (w64 ((w64 (b-c))-d),w64 ((l.length:Int)-2)))
theorem qJp (a8:Nat) (l:bE) (r:(Int×Int)) (J:qFW a8 l=some r):qAC prog 359 [.s (List.map ze0 l)] (.t [.v (.int .i64 r.1),.v (.int .i64 r.2)]):=by
 refine fns T func359 ?_
 refine go ?_
 refine AW.cH J (fun _ J=>?_) (fun _ J=>?_)
 refine AW.q ?_
 obtain⟨e,a,J⟩:=zB J
 refine go ?_
 refine AO.w (cVs (qFV _ _ (a))) (go ?_)
 exact fin
 refine go ?_
 obtain⟨f,b,g,c,h,d,J⟩:=qAq J
 refine go ?_
 refine AO.w (cVs (qFV _ _ (b))) ?_
 refine AO.pu T ?_
 refine AO.w (cVs (qKZ a8 _ _ (c))) (go ?_)
 refine AO.w (cVs (qOZ a8 _ _ (d))) (go ?_)
 exact fin
def qHz (a8:Nat) (c:Code) (it:Item):Option Int :=
 (qJG c it).bind fun a =>
 (qEt a8 a).bind fun b =>
 some b
theorem qMk (a8:Nat) (c:Code) (it:Item) (r:Int) (J:qHz a8 c it=some r):qAC prog 293 [.g (ze4 c),.g (ze2 it)] (.v (.int .i64 r)):=by
 refine fns T func293 ?_
 refine go ?_
 refine AO.x (bxs T 1) ?_
 refine AO.x (bxs T 2) (go ?_)
 obtain⟨d,a,e,b,J⟩:=qAE J
 refine go ?_
 refine AO.x (qAO rfl 3 rfl rfl rfl (qMj _ _ _ (a)) rfl rfl rfl) ?_
 refine AO.w (zLV rfl rfl rfl (es:=[sv ze0 d]) ⟨(.rowR rfl (.map fun y=>.vs rfl)),trivial⟩ (qKZ a8 _ _ (b)) (qAj _) rfl) (go ?_)
 exact fin
def qHR (a8:Nat) (c:Code) (l:List Item) (k:Int) (grades:bE):Option Int :=
 (qCr c l k).bind fun b =>
 cond (b==0)
  (some 0)
  ((qFW a8 grades).bind fun a =>
  (qAV l k).bind fun d =>
  (qHz a8 c d).bind fun e =>
  (qDa (w64 (a.1*e)) (w64 (10*a.2))).bind fun f =>
  some f)
theorem qOI (a8:Nat) (c:Code) (l:List Item) (k:Int) (grades:bE) (r:Int) (J:qHR a8 c l k grades=some r):qAC prog 353 [.g (ze4 c),.s (List.map ze2 l),k,.s (List.map ze0 grades)] (.v (.int .i64 r)):=by
 refine fns T func353 ?_
 refine go ?_
 refine AO.x (bxs T 1) (go ?_)
 obtain⟨i,b,J⟩:=zB J
 refine go ?_
 refine AO.w (cVs (qHO _ _ _ _ (b))) (go ?_)
 refine Cf J fun _ J=>?_
 refine go ?_
 obtain⟨j,d,J⟩:=zB J
 refine go ?_
 refine AO.w (cVs (qJp a8 _ _ (d))) (go ?_)
 obtain⟨m,h,n,e,f,a,J⟩:=qAq J
 refine AW.drawn 10 2 [] mix (by kernel_rfl) rfl ?_
 refine go ?_
 refine AD.vv (cVs (qMk a8 _ _ _ (e))) ?_
 refine AD.vv aws ?_
 refine AD.pu T ?_
 refine AD.vv aws ?_
 refine AD.nil (AO.w (cVs (qF5 _ _ _ (a))) ?_)
 refine gs2 ?_
 refine AW.le (Le.ct 0 0 (σ':=(⟨[(8,f)],[],32,[]⟩:St))) ?_
 refine AW.t ?_
 exact fin
def qIy (a8:Nat) (c:Code) (l:List Item) (m:Marks) (k:Int):Option Int :=
 (qCr c l k).bind fun a =>
 (qAV m.ah k).bind fun b =>
 (qHR a8 c l k b).bind fun d =>
 some (w64 (a+d))
theorem qN7 (a8:Nat) (c:Code) (l:List Item) (m:Marks) (k:Int) (r:Int) (J:qIy a8 c l m k=some r):qAC prog 333 [.g (ze4 c),.s (List.map ze2 l),.g (qJb m),k] (.v (.int .i64 r)):=by
 refine fns T func333 ?_
 refine go ?_
 refine AO.x (bxs T 1) ?_
 refine AO.x (bxs T 2) (go ?_)
 obtain⟨e,a,f,d,h,b,J⟩:=qAq J
 refine AW.drawn 12 3 [] mix (by kernel_rfl) rfl ?_
 refine go ?_
 refine AD.vv (cVs (qHO _ _ _ _ (a))) ?_
 refine go ?_
 refine AO.w (cVs (qOI a8 _ _ _ _ _ (b))) (go ?_)
 exact fin
def qB6 (c:Code) (l:List Item) (m:Marks) (a8:Nat):List Item->Nat->bE->Option ((bE))
 | [],d,a =>
  some a
 |g::e,d,a =>
  (qIy a8 c l m (d:Int)).bind fun b =>
  (qAl (qAg 8 (a.length+([b]).length))).bind fun f =>
  qB6 c l m a8 e (d+1) (a++[b])
def qIS (a8:Nat) (c:Code) (l:List Item) (m:Marks):Option bE :=
 qB6 c l m a8 l 0 []
theorem qNQ (a8:Nat) (c:Code) (l:List Item) (m:Marks) (r:(bE)) (J:qIS a8 c l m=some r):qAC prog 288 [.g (ze4 c),.s (List.map ze2 l),.g (qJb m)] (.w 1 (r.map ze0)):=by
 refine fns T func288 ?_
 refine go ?_
 refine AO.x (bxs T 1) ?_
 refine AO.x (bxs T 2) (go ?_)
 refine AO.x (qF6 T rfl rfl rfl rfl) (go ?_)
 refine AW.loopS (fun s:Nat×(bE)=>(⟨[(1,sv ze2 l),(3,.p 1 0),(5,.p 2 0),(7,.R 6),(11,(l.length:Int)),(12,(s.1:Int))],[(1,.box (ze4 c)),(2,.box [sv ze3 m.ah,sv ze3 m.ac]),(6,ro 1 ze0 s.2)],25,[]⟩:St)) (fun s=>s.1<=l.length/\qB6 c l m a8 (l.drop s.1) s.1 s.2=some r) (fun s=>l.length-s.1) (0,[]) ⟨Nat.zero_le _,J⟩ ?_ ?_
 refine Le.trans (Le.void 7 6 1 rfl rfl) ?_
 exact Le.ct 0 0
 rintro⟨h,i⟩ ⟨o,J⟩
 try dsimp only at J⊢
 refine AW.boundM (t:=1) (l:=l) rfl (fun j=>?_)
 rcases a:l.drop h with _|⟨q,k⟩
 rw[a,qB6]at J
 have b:=qAG a
 refine go ?_
 exact fin
 rw[a,qB6]at J
 have b:=qAF a
 refine go ?_
 obtain⟨d,e,n,f,J⟩:=qAE J
 refine go ?_
 refine AO.w (cVs (qN7 a8 _ _ _ _ _ (e))) ?_
 refine AO.x (mks T 7 ze0 ([d])) ?_
 refine AO.x (rvs T 8 (hfit:=by exact qAJ (f))) (go ?_)
 refine⟨(h+1,(i++[d])),⟨b,(zds a▸J)⟩,qBm b,?_⟩
 exact Le.ct 8 6
def qGe (a8:Nat) (c:Code) (p:Performance):Option Int :=
 (qIS a8 c p.ai p.ae).bind fun a =>
 (qBM a).bind fun b =>
 some b
theorem qLR (a8:Nat) (c:Code) (p:Performance) (r:Int) (J:qGe a8 c p=some r):qAC prog 234 [.g (ze4 c),.g (ze9 p)] (.v (.int .i64 r)):=by
 refine fns T func234 ?_
 refine go ?_
 refine AO.x (bxs T 1) ?_
 refine AO.x (bxs T 2) (go ?_)
 obtain⟨d,a,e,b,J⟩:=qAE J
 refine go ?_
 refine AO.x (qAO rfl 3 rfl rfl rfl (qNQ a8 _ _ _ _ (a)) rfl rfl rfl) ?_
 refine AO.w (zLV rfl rfl rfl (es:=[sv ze0 d]) ⟨(.rowR rfl (.map fun y=>.vs rfl)),trivial⟩ (qFV _ _ (b)) (qAj _) rfl) (go ?_)
 exact fin
def qFH (a8:Nat) (marks:bE):Option Int :=
 (qFW a8 marks).bind fun a =>
 (qDa a.1 a.2).bind fun b =>
 some b
theorem qLQ (a8:Nat) (marks:bE) (r:Int) (J:qFH a8 marks=some r):qAC prog 354 [.s (List.map ze0 marks)] (.v (.int .i64 r)):=by
 refine fns T func354 ?_
 refine go ?_
 obtain⟨c,a,J⟩:=zB J
 refine go ?_
 refine AO.w (cVs (qJp a8 _ _ (a))) (go ?_)
 obtain⟨d,b,J⟩:=zB J
 refine go ?_
 refine AO.w (cVs (qF5 _ _ _ (b))) (go ?_)
 exact fin
def qBI (a8:Nat):List bE->Nat->bE->Option ((bE))
 | [],c,a =>
  some a
 |e::d,c,a =>
  (qFH a8 e).bind fun b =>
  (qAl (qAg 8 (a.length+([b]).length))).bind fun f =>
  qBI a8 d (c+1) (a++[b])
def qDE (a8:Nat) (m:Marks):Option bE :=
 qBI a8 m.ac 0 []
theorem qFt (a8:Nat) (m:Marks) (r:(bE)) (J:qDE a8 m=some r):qAC prog 334 [.g (qJb m)] (.w 1 (r.map ze0)):=by
 refine fns T func334 ?_
 refine go ?_
 refine AO.x (bxs T 1) (go ?_)
 refine AO.x (qF6 T rfl rfl rfl rfl) (go ?_)
 refine AW.loopS (fun s:Nat×(bE)=>(⟨[(3,.R 5),(8,sv ze3 m.ac),(9,(m.ac.length:Int)),(10,(s.1:Int))],[(5,ro 1 ze0 s.2)],21,[]⟩:St)) (fun s=>s.1<=m.ac.length/\qBI a8 (m.ac.drop s.1) s.1 s.2=some r) (fun s=>m.ac.length-s.1) (0,[]) ⟨Nat.zero_le _,J⟩ ?_ ?_
 refine Le.trans (Le.void 3 5 1 rfl rfl) ?_
 exact Le.ct 0 0
 rintro⟨f,h⟩ ⟨n,J⟩
 try dsimp only at J⊢
 refine AW.boundM (t:=8) (l:=m.ac) rfl (fun i=>?_)
 rcases a:m.ac.drop f with _|⟨o,j⟩
 rw[a,qBI]at J
 have b:=qAG a
 refine go ?_
 exact fin
 rw[a,qBI]at J
 have b:=qAF a
 refine go ?_
 obtain⟨c,d,k,e,J⟩:=qAE J
 refine go ?_
 refine AO.w (cVs (qLQ a8 _ _ (d))) ?_
 refine AO.x (mks T 6 ze0 ([c])) ?_
 refine AO.x (rvs T 7 (hfit:=by exact qAJ (e))) (go ?_)
 refine⟨(f+1,(h++[c])),⟨b,(zds a▸J)⟩,qBm b,?_⟩
 exact Le.ct 7 5
def qCa:bE->Nat->Int->Option Int
 | [],b,a =>
  some a
 |d::c,b,a =>
  qCa c (b+1) (w64 (a+(min d 950)))
def qCd:bE->Nat->Int->Option Int
 | [],b,a =>
  some a
 |d::c,b,a =>
  qCd c (b+1) (w64 (a+(min d 900)))
def qCY:bE->Nat->Int->Option Int
 | [],b,a =>
  some a
 |d::c,b,a =>
  qCY c (b+1) (w64 (a+(min d 1000)))
def qHP (a8:Nat) (m:Marks) (falls:Int):Option Int :=
 cond (falls==1)
  ((qDE a8 m).bind fun c =>
  qCa c 0 0)
  (cond (decide (falls>1))
   ((qDE a8 m).bind fun a =>
   qCd a 0 0)
   ((qDE a8 m).bind fun b =>
   qCY b 0 0))
theorem qOJ (a8:Nat) (m:Marks) (falls:Int) (r:Int) (J:qHP a8 m falls=some r):qAC prog 290 [.g (qJb m),falls] (.v (.int .i64 r)):=by
 refine fns T func290 ?_
 refine go ?_
 refine AO.x (bxs T 1) (go ?_)
 refine AW.cH J (fun _ J=>?_) (fun hc J=>?_)
 refine go ?_
 obtain⟨i,q,J⟩:=zB J
 refine go ?_
 refine AO.x (qAO rfl 2 rfl rfl rfl (qFt a8 _ _ (q)) rfl rfl rfl) (go ?_)
 refine AW.loopS (fun s:Nat×Int=>(⟨[(5,(950:Int)),(6,s.2),(16,.R 2),(17,(i.length:Int)),(18,(s.1:Int))],[(2,ro 1 ze0 i)],29,[]⟩:St)) (fun s=>s.1<=i.length/\qCa (i.drop s.1) s.1 s.2=some r) (fun s=>i.length-s.1) (0,0) ⟨Nat.zero_le _,J⟩ ?_ ?_
 exact Le.ct 0 0
 rintro⟨t,u⟩ ⟨y,J⟩
 try dsimp only at J⊢
 refine AW.boundR (id:=2) (l:=i) rfl (fun K=>?_)
 rcases e:i.drop t with _|⟨E,L⟩
 rw[e,qCa]at J
 have j:=qAG e
 refine go ?_
 exact fin
 rw[e,qCa]at J
 have j:=qAF e
 refine go ?_
 refine AO.w (zLr T rfl rfl rfl rfl (zgG (zgD e)) rfl rfl rfl) (go ?_)
 refine AO.w (qTT rfl rfl rfl) (go ?_)
 refine⟨(t+1,w64 (u+(min E 950))),⟨j,(zds e▸J)⟩,qBm j,?_⟩
 exact Le.ct 0 0
 refine go ?_
 refine AW.cH J (fun _ J=>?_) (fun _ J=>?_)
 refine go ?_
 obtain⟨c,o,J⟩:=zB J
 refine go ?_
 refine AO.x (qAO rfl 3 rfl rfl rfl (qFt a8 _ _ (o)) rfl rfl rfl) (go ?_)
 refine AW.loopS (fun s:Nat×Int=>(⟨[(5,(900:Int)),(6,s.2),(16,.R 3),(17,(c.length:Int)),(18,(s.1:Int))],[(3,ro 1 ze0 c)],29,[]⟩:St)) (fun s=>s.1<=c.length/\qCd (c.drop s.1) s.1 s.2=some r) (fun s=>c.length-s.1) (0,0) ⟨Nat.zero_le _,J⟩ ?_ ?_
 exact Le.ct 0 0
 rintro⟨k,z⟩ ⟨y,J⟩
 try dsimp only at J⊢
 refine AW.boundR (id:=3) (l:=c) rfl (fun F=>?_)
 rcases a:c.drop k with _|⟨A,G⟩
 rw[a,qCd]at J
 have f:=qAG a
 refine go ?_
 exact fin
 rw[a,qCd]at J
 have f:=qAF a
 refine go ?_
 refine AO.w (zLr T rfl rfl rfl rfl (zgG (zgD a)) rfl rfl rfl) (go ?_)
 refine AO.w (qTT rfl rfl rfl) (go ?_)
 refine⟨(k+1,w64 (z+(min A 900))),⟨f,(zds a▸J)⟩,qBm f,?_⟩
 exact Le.ct 0 0
 refine go ?_
 obtain⟨d,p,J⟩:=zB J
 refine go ?_
 refine AO.x (qAO rfl 4 rfl rfl rfl (qFt a8 _ _ (p)) rfl rfl rfl) (go ?_)
 refine AW.loopS (fun s:Nat×Int=>(⟨[(5,(1000:Int)),(6,s.2),(16,.R 4),(17,(d.length:Int)),(18,(s.1:Int))],[(4,ro 1 ze0 d)],29,[]⟩:St)) (fun s=>s.1<=d.length/\qCY (d.drop s.1) s.1 s.2=some r) (fun s=>d.length-s.1) (0,0) ⟨Nat.zero_le _,J⟩ ?_ ?_
 exact Le.ct 0 0
 rintro⟨n,B⟩ ⟨y,J⟩
 try dsimp only at J⊢
 refine AW.boundR (id:=4) (l:=d) rfl (fun H=>?_)
 rcases b:d.drop n with _|⟨C,I⟩
 rw[b,qCY]at J
 have h:=qAG b
 refine go ?_
 exact fin
 rw[b,qCY]at J
 have h:=qAF b
 refine go ?_
 refine AO.w (zLr T rfl rfl rfl rfl (zgG (zgD b)) rfl rfl rfl) (go ?_)
 refine AO.w (qTT rfl rfl rfl) (go ?_)
 refine⟨(n+1,w64 (B+(min C 1000))),⟨h,(zds b▸J)⟩,qBm h,?_⟩
 exact Le.ct 0 0
def qGS (a8:Nat) (m:Marks) (factor:Int) (falls:Int):Option Int :=
 (qHP a8 m falls).bind fun a =>
 (qDa (w64 (a*factor)) 100).bind fun b =>
 some b
theorem qMw (a8:Nat) (m:Marks) (factor:Int) (falls:Int) (r:Int) (J:qGS a8 m factor falls=some r):qAC prog 235 [.g (qJb m),factor,falls] (.v (.int .i64 r)):=by
 refine fns T func235 ?_
 refine go ?_
 refine AO.x (bxs T 1) (go ?_)
 obtain⟨c,a,d,b,J⟩:=qAE J
 refine go ?_
 refine AO.w (cVs (qOJ a8 _ _ _ (a))) (go ?_)
 refine AO.w (cVs (qF5 _ _ _ (b))) (go ?_)
 exact fin
def qGx (fall:Int) (falls:Int):Option Int :=
 some (w64 (fall*(w64 ((w64 (falls+(max (w64 (falls-2)) 0)))+(max (w64 (falls-4)) 0)))))
theorem qME (fall:Int) (falls:Int) (r:Int) (J:qGx fall falls=some r):qAC prog 291 [fall,falls] (.v (.int .i64 r)):=by
 refine fns T func291 ?_
 refine go ?_
 refine AO.w (qR0 rfl rfl rfl) (go ?_)
 refine AO.w (qR0 rfl rfl rfl) (go ?_)
 exact fin
def qGw (seconds:Int):Option Int :=
 (qAl (5 != 0)).bind fun a =>
 some (w64 ((w64 ((w64 (seconds+4)).tdiv 5))*100))
theorem qLc (seconds:Int) (r:Int) (J:qGw seconds=some r):qAC prog 292 [seconds] (.v (.int .i64 r)):=by
 refine fns T func292 ?_
 refine go ?_
 obtain⟨b,a,J⟩:=zB J
 refine go ?_
 refine AO.w (qHt rfl rfl rfl (neZ (qAJ (a)))) (go ?_)
 exact fin
def qGn (c:Code) (sA:Slips):Option bE :=
 (qGx c.ay sA.falls).bind fun a =>
 (qGw sA.an).bind fun b =>
 some [a,b,sA.aw]
theorem qNl (c:Code) (sA:Slips) (r:(bE)) (J:qGn c sA=some r):qAC prog 236 [.g (ze4 c),.g (qK9 sA)] (.w 1 (r.map ze0)):=by
 refine fns T func236 ?_
 refine go ?_
 refine AO.x (bxs T 1) ?_
 refine AO.x (bxs T 2) (go ?_)
 obtain⟨d,a,e,b,J⟩:=qAE J
 refine AW.drawn 10 3 [] mix (by kernel_rfl) rfl ?_
 refine go ?_
 refine AD.vv (cVs (qME _ _ _ (a))) ?_
 refine go ?_
 refine AD.vv (cVs (qLc _ _ (b))) ?_
 refine go ?_
 refine AO.x (mks T 3 ze0 ([d,e,sA.aw])) (go ?_)
 exact fin
def qGE (a8:Nat) (c:Code) (p:Performance) (factor:Int):Option bE :=
 (qGe a8 c p).bind fun a =>
 (qGS a8 p.ae factor p.af.falls).bind fun b =>
 (qGn c p.af).bind fun e =>
 (qBM e).bind fun d =>
 some [a,b,d,(max (w64 ((w64 (a+b))-d)) 0)]
theorem qLo (a8:Nat) (c:Code) (p:Performance) (factor:Int) (r:(bE)) (J:qGE a8 c p factor=some r):qAC prog 179 [.g (ze4 c),.g (ze9 p),factor] (.w 1 (r.map ze0)):=by
 refine fns T func179 ?_
 refine go ?_
 refine AO.x (bxs T 1) ?_
 refine AO.x (bxs T 2) (go ?_)
 obtain⟨a,e,b,f,j,h,J⟩:=qAq J
 obtain⟨d,i,J⟩:=zB J
 refine AW.drawn 13 3 [] mix (by kernel_rfl) rfl ?_
 refine go ?_
 refine AD.vv (cVs (qLR a8 _ _ _ (e))) ?_
 refine go ?_
 refine AD.vv (cVs (qMw a8 _ _ _ _ (f))) ?_
 refine go ?_
 refine AO.x (qAO rfl 3 rfl rfl rfl (qNl _ _ _ (h)) rfl rfl rfl) ?_
 refine AO.w (zLV rfl rfl rfl (es:=[sv ze0 j]) ⟨(.rowR rfl (.map fun y=>.vs rfl)),trivial⟩ (qFV _ _ (i)) (qAj _) rfl) (go ?_)
 refine AO.w (qR0 rfl rfl rfl) ?_
 refine AO.x (mks T 4 ze0 ([a,b,d,(max (w64 ((w64 (a+b))-d)) 0)])) ?_
 refine gs2 ?_
 refine AW.le (Le.ct 0 0 (σ':=(⟨[(6,.R 4)],[(4,ro 1 ze0 [a,b,d,(max (w64 ((w64 (a+b))-d)) 0)])],35,[]⟩:St))) ?_
 refine AW.t ?_
 exact fin
def qBV (a8:Nat) (c:Code) (p:Performance) (factor:Int):Option Int :=
 (qGE a8 c p factor).bind fun a =>
 (qAV a 3).bind fun b =>
 some b
theorem qD6 (a8:Nat) (c:Code) (p:Performance) (factor:Int) (r:Int) (J:qBV a8 c p factor=some r):qAC prog 172 [.g (ze4 c),.g (ze9 p),factor] (.v (.int .i64 r)):=by
 refine fns T func172 ?_
 refine go ?_
 refine AO.x (bxs T 1) ?_
 refine AO.x (bxs T 2) (go ?_)
 obtain⟨d,a,e,b,J⟩:=qAE J
 refine go ?_
 refine AO.x (qAO rfl 3 rfl rfl rfl (qLo a8 _ _ _ _ (a)) rfl rfl rfl) (go ?_)
 refine AO.w (zLr T rfl rfl rfl rfl (zgG (b)) rfl rfl rfl) (go ?_)
 exact fin
def qAn (a8:Nat) (sA:ScriptState) (command:bD) (l:bE):Option (ScriptState×bD) :=
 cond (decide (command=(bz [112,108,97,99,101,115])))
  ((qEq a8 sA.ak).bind fun f =>
  (qCo f.1).bind fun g =>
  some (sA,g))
  ((qBV a8 sA.ag sA.aa sA.am).bind fun b =>
  (qAl (qAg 32 sA.ak.length)).bind fun i =>
  (qAV l 0).bind fun a =>
  (qAl (qAg 32 (sA.ak.length+([(Result.mk a [b])]).length))).bind fun h =>
  (qEU (sA.ak++[(Result.mk a [b])])).bind fun c =>
  cond (!c)
   (some (sA,(bz [110,111])))
   ((qG9 a8 (sA.ak++[(Result.mk a [b])]) (w64 ((((sA.ak++[(Result.mk a [b])])).length:Int)-1))).bind fun d =>
   (qBe d).bind fun e =>
   some ((ScriptState.mk sA.ag sA.aa sA.am (sA.ak++[(Result.mk a [b])])),e)))
theorem qHb (a8:Nat) (sA:ScriptState) (command:bD) (l:bE) (r:(ScriptState×bD)) (J:qAn a8 sA command l=some r):qGM prog 121 [.pw (qKE sA),.v (.string command),.s (List.map ze0 l)] [.pw (qKE r.1),.u,.u] (.v (.string r.2)):=by
 refine qJs T func121 rfl (by decide) rfl rfl ?_
 intro L
 show AW _ _ _ (⟨[(0,.p 1 0),(1,.v (.string command)),(2,sv ze0 l)],[(1,.box (qKE sA))],63,[(1,L 1)]⟩:St)
 refine go ?_
 refine AW.cH J (fun _ J=>?_) (fun _ J=>?_)
 refine AW.q ?_
 obtain⟨n,i,J⟩:=zB J
 refine go ?_
 refine AO.x (qAO rfl 2 rfl rfl rfl (qK0 a8 _ _ (i)) rfl rfl rfl) (go ?_)
 obtain⟨E,j,J⟩:=zB J
 refine go ?_
 refine AO.w (zLV rfl rfl rfl (es:=[sv ze0 n.1]) ⟨(.rowR rfl (.map fun y=>.vs rfl)),trivial⟩ (qJl _ _ (j)) (qAj _) rfl) (go ?_)
 exact qDO
 refine go ?_
 obtain⟨b,k,J⟩:=zB J
 refine AW.drawn 12 3 [] mix (by kernel_rfl) rfl ?_
 refine go ?_
 refine AO.w (cVs (qD6 a8 _ _ _ _ (k))) (go ?_)
 obtain⟨F,m,a,o,z,c,J⟩:=qAq J
 refine AW.drawn 13 3 [] mix (by kernel_rfl) rfl ?_
 refine AD.v (FStep.mk0 T rfl rfl rfl rfl rfl) ?_
 refine go ?_
 refine AD.q (FStep.app_ws T rfl rfl rfl rfl rfl rfl rfl (by decide) (by decide) rfl rfl (fun _=>rfl) (qAJ (m)) rfl) (by simp[qA1]) (Nat.le_succ _) rfl ?_
 refine go ?_
 refine AD.vv (qZo T rfl rfl rfl rfl rfl rfl (f:=ze0) (l:=[b]) rfl rfl (fun _=>rfl) rfl rfl rfl) ?_
 refine go ?_
 refine AD.q (FStep.mk T (f:=ze6) (l:=[(Result.mk a [b])]) rfl rfl rfl rfl rfl rfl rfl rfl rfl (fun _=>rfl) rfl rfl rfl rfl) (by simp[qA1]) (Nat.le_succ _) rfl ?_
 refine AD.nil (AO.x (rvs T 5 (hfit:=by exact qAJ (c))) ?_)
 refine gs2 ?_
 refine AW.le (Le.ct 0 0 (σ':=(⟨[(0,.p 1 0),(10,.R 5)],[(1,.box (qKE sA)),(5,ro 2 ze6 (sA.ak++[(Result.mk a [b])]))],63,[(1,L 1)]⟩:St)) (hpin:=⟨⟨rfl,rfl⟩,trivial⟩)) ?_
 refine go ?_
 obtain⟨A,d,J⟩:=zB J
 refine go ?_
 refine AO.w (zLV rfl rfl rfl (es:=[sv ze6 (sA.ak++[(Result.mk a [b])])]) ⟨(.rowR rfl (.map fun y=>.vs rfl)),trivial⟩ (qH2 _ _ (d)) (qAj _) rfl) (go ?_)
 refine AW.cH J (fun _ J=>?_) (fun _ J=>?_)
 refine go ?_
 exact qDO
 refine go ?_
 refine AO.se T [sv ze5 sA.ag.ad,sv ze0 sA.ag.ar,sA.ag.aq,sA.ag.av,sA.ag.au,sA.ag.ay,sv ze2 sA.aa.ai,sv ze3 sA.aa.ae.ah,sv ze3 sA.aa.ae.ac,sA.aa.af.falls,sA.aa.af.an,sA.aa.af.aw,sA.am,.R 5] ?_
 refine go ?_
 obtain⟨B,e,C,h,J⟩:=qAE J
 refine go ?_
 refine AO.w (zLV rfl rfl rfl (es:=[sv ze6 (sA.ak++[(Result.mk a [b])]),w64 ((((sA.ak++[(Result.mk a [b])])).length:Int)-1)]) ⟨(.rowR rfl (.map fun y=>.vs rfl)),.free rfl,trivial⟩ (qLh a8 _ _ _ (e)) (qAj _) rfl) ?_
 refine AO.w (cVs (qHx _ _ (h))) ?_
 refine gs2 ?_
 refine AW.le (Le.fM 5 (g:=ze6) rfl (fun y=>.vs rfl)) ?_
 refine AW.t ?_
 exact qDO
def qAs (f:Item->bF):List Item->Nat->Option Int
 | [],a =>
  some (-1)
 |d::b,a =>
  (f d).bind fun c =>
  cond c
   (some (a:Int))
   (qAs f b (a+1))
def qHl (sA:List Item) (f:Item->bF):Option Int :=
 qAs f sA 0
theorem qKX (sA:List Item) (f_f:Nat) (f_c:List D) (f_k:f_c.all D.capOk=true) (f:Item->bF) (f_h:∀(a0:Item) (q:Bool),f a0=some q->qAC prog f_f ([.g (ze2 a0)]++f_c) (.v (.bool q))) (r:Int) (J:qHl sA f=some r):qAC prog 327 [.s (List.map ze2 sA),.f f_f f_c] (.v (.int .i64 r)):=by
 have f_r:=qL7 f_k
 refine fns T func327 ?_
 refine go ?_
 refine AW.loopS (fun s:Nat=>(⟨[(0,sv ze2 sA),(1,.f f_f f_c),(7,(sA.length:Int)),(8,(s:Int))],[],19,[]⟩:St)) (fun s=>s<=sA.length/\qAs f (sA.drop s) s=some r) (fun s=>sA.length-s) 0 ⟨Nat.zero_le _,J⟩ ?_ ?_
 exact Le.cut 0 0 rfl ⟨⟨_,rfl,rfl⟩,⟨_,rfl,qQ8 f_r⟩,⟨_,rfl,rfl⟩,⟨_,rfl,rfl⟩,trivial⟩ (by repeat' (first|exact trivial|refine⟨⟨_,rfl,rfl⟩,?_⟩)) (qJ9 (qNw rfl (qNw (qMG f_r) (qNw rfl (qNw rfl qYE)))) rfl)
 rintro d ⟨j,J⟩
 try dsimp only at J⊢
 refine AW.boundM (t:=0) (l:=sA) rfl (fun e=>?_)
 rcases a:sA.drop d with _|⟨k,h⟩
 rw[a,qAs]at J
 have b:=qAG a
 refine go ?_
 exact fin
 rw[a,qAs]at J
 have b:=qAF a
 refine go ?_
 obtain⟨i,c,J⟩:=zB J
 refine go ?_
 refine AO.w (zV rfl rfl rfl (qJ9 rfl (qOA f_r)) (f_h _ _ (c)) rfl) ?_
 refine AO.n ?_
 refine Cf J fun _ J=>?_
 refine go ?_
 refine⟨d+1,⟨b,(zds a▸J)⟩,qBm b,?_⟩
 exact Le.cut 0 0 rfl ⟨⟨_,rfl,rfl⟩,⟨_,rfl,qQ8 f_r⟩,⟨_,rfl,rfl⟩,⟨_,rfl,rfl⟩,trivial⟩ (by repeat' (first|exact trivial|refine⟨⟨_,rfl,rfl⟩,?_⟩)) (qJ9 (qNw rfl (qNw (qMG f_r) (qNw rfl (qNw rfl qYE)))) rfl)
def qGv (sA:List Item) (f:Item->bF):bF :=
 (qHl sA f).bind fun a =>
 some (decide (a>=0))
theorem qJX (sA:List Item) (f_f:Nat) (f_c:List D) (f_k:f_c.all D.capOk=true) (f:Item->bF) (f_h:∀(a0:Item) (q:Bool),f a0=some q->qAC prog f_f ([.g (ze2 a0)]++f_c) (.v (.bool q))) (r:Bool) (J:qGv sA f=some r):qAC prog 279 [.s (List.map ze2 sA),.f f_f f_c] (.v (.bool r)):=by
 have f_r:=qL7 f_k
 refine fns T func279 ?_
 refine go ?_
 obtain⟨b,a,J⟩:=zB J
 refine go ?_
 refine AO.w (zV rfl rfl rfl (qJ9 (qNw rfl (qNw f_r qYE)) rfl) (qKX _ f_f f_c f_k f f_h _ (a)) rfl) (go ?_)
 exact fin
def qCU (it:Item):bF :=
 (qCR it.ae 0 0).bind fun a =>
 some (!a)
theorem qMd (it:Item) (r:Bool) (J:qCU it=some r):qAC prog 280 [.g (ze2 it)] (.v (.bool r)):=by
 refine fns T func280 ?_
 refine go ?_
 refine AO.x (bxs T 1) (go ?_)
 obtain⟨b,a,J⟩:=zB J
 refine go ?_
 refine AO.w (cVs (qGl _ _ _ _ (a))) (go ?_)
 exact fin
def qDL (it:Item):bF :=
 some (decide ((it.aj.length:Int)>1))
theorem qH1 (it:Item) (r:Bool) (J:qDL it=some r):qAC prog 328 [.g (ze2 it)] (.v (.bool r)):=by
 refine fns T func328 ?_
 refine go ?_
 refine AO.x (bxs T 1) (go ?_)
 exact fin
def qBU (c:Code) (h:Item):List bD->Nat->Option (Except Bool Unit)
 | [],b =>
  some (.ok ())
 |f::e,b =>
  (qCu c f).bind fun a =>
  (qDL h).bind fun d =>
  (opt (d&&(!(decide (a<0)))) default (qAV c.ad a)).bind fun g =>
  cond (d&&(decide (a<0)||(g.aE != 0)))
   (some (.error false))
   (qBU c h e (b+1))
def qBG (c:Code):List Item->Nat->bF
 | [],b =>
  some true
 |d::e,b =>
  (qBU c d d.aj 0).bind fun a=>qKL a fun _ =>
  qBG c e (b+1)
def qI3 (c:Code) (l:List Item):bF :=
 qBG c l 0
theorem qLa (c:Code) (l:List Item) (r:Bool) (J:qI3 c l=some r):qAC prog 281 [.g (ze4 c),.s (List.map ze2 l)] (.v (.bool r)):=by
 refine fns T func281 ?_
 refine gs2 ?_
 refine AO.x (bxs T 1) ?_
 iterate 10 refine gs ?_
 refine AW.loopS (fun s:Nat=>(⟨[(2,.p 1 0),(10,sv ze2 l),(11,(l.length:Int)),(12,(s:Int))],[(1,.box (ze4 c))],43,[]⟩:St)) (fun s=>s<=l.length/\qBG c (l.drop s) s=some r) (fun s=>l.length-s) 0 ⟨Nat.zero_le _,J⟩ ?_ ?_
 exact Le.ct 0 0
 rintro n ⟨A,J⟩
 try dsimp only at J⊢
 refine AW.boundM (t:=10) (l:=l) rfl (fun G=>?_)
 rcases f:l.drop n with _|⟨a,H⟩
 rw[f,qBG]at J
 have i:=qAG f
 iterate 12 refine gs ?_
 exact fin
 rw[f,qBG]at J
 have i:=qAF f
 refine gs7 ?_
 obtain⟨k,J,j⟩:=zB J
 refine AW.seqJ (fun s:Unit=>(⟨[(2,.p 1 0),(10,sv ze2 l),(11,(l.length:Int)),(12,(n:Int))],[(1,.box (ze4 c))],43,[]⟩:St)) (fun s=>.ok s=k) ?_ ?_
 refine gs5 ?_
 refine AO.x (als T 7) ?_
 refine AO.se T [sv ze1 a.aj,sv ze0 a.ae,.v (.bool a.aB)] ?_
 refine gs9 ?_
 refine AW.loopS (fun s:Nat=>(⟨[(2,.p 1 0),(6,.p 7 0),(10,sv ze2 l),(11,(l.length:Int)),(12,(n:Int)),(17,sv ze1 a.aj),(18,(a.aj.length:Int)),(19,(s:Int))],[(1,.box (ze4 c)),(7,.box [sv ze1 a.aj,sv ze0 a.ae,.v (.bool a.aB)])],43,[]⟩:St)) (fun s=>s<=a.aj.length/\qBU c a (a.aj.drop s) s=some k) (fun s=>a.aj.length-s) 0 ⟨Nat.zero_le _,J⟩ ?_ ?_
 exact Le.ct 0 0
 rintro m ⟨A,J⟩
 try dsimp only at J⊢
 refine AW.boundM (t:=17) (l:=a.aj) rfl (fun y=>?_)
 rcases b:a.aj.drop m with _|⟨B,z⟩
 rw[b,qBU]at J
 have e:=qAG b
 refine gs7 ?_
 refine⟨_,zS J,?_⟩
 exact Le.ct 0 0
 rw[b,qBU]at J
 have e:=qAF b
 iterate 16 refine gs ?_
 obtain⟨C,o,J⟩:=zB J
 refine gs3 ?_
 refine AO.w (cVs (qFr _ _ _ (o))) ?_
 refine gs3 ?_
 obtain⟨E,q,F,u,J⟩:=qAE J
 refine gs2 ?_
 refine AO.w (cVs (qH1 _ _ (q))) ?_
 refine AO.pu T ?_
 refine AO.g0 T ?_
 refine AO.g1 T 29 ?_
 refine AO.g1 T 30 ?_
 refine AO.g0 T ?_
 refine AO.g1 T 32 ?_
 refine AO.g0 T ?_
 refine AO.d2 33 34 (fun hg=>ixs T (qD7 u hg)) ?_
 refine AO.g1 T 35 ?_
 refine AO.g1 T 36 ?_
 refine AO.g1 T 37 ?_
 refine AO.d [31] rfl ⟨fun h=>h,trivial⟩ (fun hg=>zO rfl rfl rfl (by rw[hg];exact Bool.true_and _)) rfl ?_
 refine gs2 ?_
 refine AW.cH J (fun _ J=>?_) (fun _ J=>?_)
 refine gs4 ?_
 refine AW.le (Le.ct 0 0 (σ':=(⟨[(4,.v (.bool false))],[],43,[]⟩:St))) ?_
 refine AW.t ?_
 obtain rfl:=zS J
 replace J:=j
 exact fin
 refine gs5 ?_
 refine⟨m+1,⟨e,(zds b▸J)⟩,qBm e,?_⟩
 exact Le.ct 0 0
 rintro _ hs
 subst hs
 replace J:=j
 try dsimp only[qKL,qIN]at J
 try dsimp only
 refine gs4 ?_
 refine⟨n+1,⟨i,(zds f▸J)⟩,qBm i,?_⟩
 exact Le.ct 0 0
def qAu:List Item->Nat->Int->Int->bF
 | [],d,a,b =>
  some (decide (a<=3)&&decide (b<=1))
 |e::c,d,a,b =>
  (qDL e).bind fun f =>
  cond f
   (cond ((e.aj.length:Int)==3)
    (qAu c (d+1) (w64 (a+1)) (w64 (b+1)))
    (qAu c (d+1) (w64 (a+1)) b))
   (cond ((e.aj.length:Int)==3)
    (qAu c (d+1) a (w64 (b+1)))
    (qAu c (d+1) a b))
def qJ4 (l:List Item):bF :=
 qAu l 0 0 0
theorem qM5 (l:List Item) (r:Bool) (J:qJ4 l=some r):qAC prog 282 [.s (List.map ze2 l)] (.v (.bool r)):=by
 refine fns T func282 ?_
 refine go ?_
 refine AW.loopS (fun s:Nat×Int×Int=>(⟨[(3,s.2.1),(4,s.2.2),(7,sv ze2 l),(8,(l.length:Int)),(9,(s.1:Int))],[],30,[]⟩:St)) (fun s=>s.1<=l.length/\qAu (l.drop s.1) s.1 s.2.1 s.2.2=some r) (fun s=>l.length-s.1) (0,0,0) ⟨Nat.zero_le _,J⟩ ?_ ?_
 exact Le.ct 0 0
 rintro⟨e,c,d⟩ ⟨k,J⟩
 try dsimp only at J⊢
 refine AW.boundM (t:=7) (l:=l) rfl (fun h=>?_)
 rcases b:l.drop e with _|⟨f,i⟩
 rw[b,qAu]at J
 have a:=qAG b
 refine go ?_
 refine AO.g0 T ?_
 refine AO.g1 T 27 ?_
 refine go ?_
 exact fin
 rw[b,qAu]at J
 have a:=qAF b
 refine go ?_
 refine AO.x (als T 3) ?_
 refine AO.se T [sv ze1 f.aj,sv ze0 f.ae,.v (.bool f.aB)] ?_
 refine go ?_
 obtain⟨j,g,J⟩:=zB J
 refine go ?_
 refine AO.w (cVs (qH1 _ _ (g))) ?_
 refine AO.n (AW.cH J (fun hc J=>?_) (fun hc J=>?_))
 refine go ?_
 refine AW.cH J (fun _ J=>?_) (fun hc J=>?_)
 refine go ?_
 refine⟨(e+1,w64 (c+1),w64 (d+1)),⟨a,(zds b▸J)⟩,qBm a,?_⟩
 exact Le.ct 0 0
 refine go ?_
 refine⟨(e+1,w64 (c+1),d),⟨a,(zds b▸J)⟩,qBm a,?_⟩
 exact Le.ct 0 0
 refine go ?_
 refine AW.cH J (fun _ J=>?_) (fun _ J=>?_)
 refine go ?_
 refine⟨(e+1,c,w64 (d+1)),⟨a,(zds b▸J)⟩,qBm a,?_⟩
 exact Le.ct 0 0
 refine go ?_
 refine⟨(e+1,c,d),⟨a,(zds b▸J)⟩,qBm a,?_⟩
 exact Le.ct 0 0
def qHv (c:Code) (it:Item):Option Int :=
 (qAV it.aj 0).bind fun b =>
 (qCu c b).bind fun a =>
 cond (decide (a<0))
  (some (-1))
  ((qAV c.ad a).bind fun d =>
  some d.aE)
theorem qO0 (c:Code) (it:Item) (r:Int) (J:qHv c it=some r):qAC prog 350 [.g (ze4 c),.g (ze2 it)] (.v (.int .i64 r)):=by
 refine fns T func350 ?_
 refine go ?_
 refine AO.x (bxs T 1) ?_
 refine AO.x (bxs T 2) (go ?_)
 obtain⟨e,b,f,a,J⟩:=qAE J
 refine AW.drawn 5 3 [] mix (by kernel_rfl) rfl ?_
 refine go ?_
 refine AO.w (cVs (qFr _ _ _ (a))) (go ?_)
 refine Cf J fun _ J=>?_
 refine go ?_
 obtain⟨h,d,J⟩:=zB J
 refine go ?_
 exact fin
def qBA (c:Code):List Item->Nat->bE->Option ((bE))
 | [],e,a =>
  some a
 |g::d,e,a =>
  (qHv c g).bind fun b =>
  cond (decide (b>=0))
   ((qAV a b).bind fun f =>
   qBA c d (e+1) (a.set b.toNat (w64 (f+1))))
   (qBA c d (e+1) a)
def qJW (c:Code) (l:List Item):Option bE :=
 (qAl (decide (0<=5)&&qAg 8 (5:Int).toNat)).bind fun a =>
 qBA c l 0 (List.replicate (5:Int).toNat (0:Int))
theorem qMQ (c:Code) (l:List Item) (r:(bE)) (J:qJW c l=some r):qAC prog 329 [.g (ze4 c),.s (List.map ze2 l)] (.w 1 (r.map ze0)):=by
 refine fns T func329 ?_
 refine gs2 ?_
 refine AO.x (bxs T 1) ?_
 refine gs3 ?_
 obtain⟨u,e,J⟩:=zB J
 refine AW.r (AO.x (qM6 T rfl 2 rfl rfl rfl rfl rfl (f:=ze0) (zo:=0) (by repeat constructor) (by decide) rfl rfl (Bool.and_eq_true_iff.1 (qAJ (e))).1 (Bool.and_eq_true_iff.1 (qAJ (e))).2 rfl rfl) ?_)
 iterate 10 refine gs ?_
 refine AW.loopS (fun s:Nat×(bE)=>(⟨[(2,.p 1 0),(5,.R 2),(10,sv ze2 l),(11,(l.length:Int)),(12,(s.1:Int))],[(1,.box (ze4 c)),(2,ro 1 ze0 s.2)],29,[]⟩:St)) (fun s=>s.1<=l.length/\qBA c (l.drop s.1) s.1 s.2=some r) (fun s=>l.length-s.1) (0,(List.replicate (5:Int).toNat (0:Int))) ⟨Nat.zero_le _,J⟩ ?_ ?_
 exact Le.ct 0 0
 rintro⟨j,h⟩ ⟨y,J⟩
 try dsimp only at J⊢
 refine AW.boundM (t:=10) (l:=l) rfl (fun o=>?_)
 rcases b:l.drop j with _|⟨k,q⟩
 rw[b,qBA]at J
 have a:=qAG b
 iterate 13 refine gs ?_
 exact fin
 rw[b,qBA]at J
 have a:=qAF b
 iterate 13 refine gs ?_
 refine AO.x (als T 5) ?_
 refine AO.se T [sv ze1 k.aj,sv ze0 k.ae,.v (.bool k.aB)] ?_
 refine gs2 ?_
 obtain⟨n,m,J⟩:=zB J
 refine gs3 ?_
 refine AO.w (cVs (qO0 _ _ _ (m))) ?_
 refine gs7 ?_
 refine AW.cH J (fun _ J=>?_) (fun _ J=>?_)
 obtain⟨i,d,J⟩:=zB J
 refine gs4 ?_
 refine AO.w (zLr T rfl rfl rfl rfl (zgG (d)) rfl rfl rfl) ?_
 refine gs2 ?_
 refine AO.x (zSr T rfl rfl rfl rfl rfl (zgG (d)) rfl rfl rfl rfl (u':=w64 (i+1)) rfl rfl) ?_
 refine gs5 ?_
 refine⟨(j+1,(h.set n.toNat (w64 (i+1)))),⟨a,(zds b▸J)⟩,qBm a,?_⟩
 exact Le.ct 0 0
 refine gs5 ?_
 refine⟨(j+1,h),⟨a,(zds b▸J)⟩,qBm a,?_⟩
 exact Le.ct 0 0
def qBl (c:Code):bE->Nat->bF
 | [],a =>
  some true
 |e::b,a =>
  (qAV c.ar (a:Int)).bind fun d =>
  cond (decide (e>d))
   (some false)
   (qBl c b (a+1))
def qKP (c:Code) (l:List Item):bF :=
 (qJW c l).bind fun a =>
 qBl c a 0
theorem qNd (c:Code) (l:List Item) (r:Bool) (J:qKP c l=some r):qAC prog 283 [.g (ze4 c),.s (List.map ze2 l)] (.v (.bool r)):=by
 refine fns T func283 ?_
 refine go ?_
 refine AO.x (bxs T 1) (go ?_)
 obtain⟨b,e,J⟩:=zB J
 refine go ?_
 refine AO.x (qAO rfl 2 rfl rfl rfl (qMQ _ _ _ (e)) rfl rfl rfl) (go ?_)
 refine AW.loopS (fun s:Nat=>(⟨[(2,.p 1 0),(9,.R 2),(10,(b.length:Int)),(11,(s:Int))],[(1,.box (ze4 c)),(2,ro 1 ze0 b)],24,[]⟩:St)) (fun s=>s<=b.length/\qBl c (b.drop s) s=some r) (fun s=>b.length-s) 0 ⟨Nat.zero_le _,J⟩ ?_ ?_
 exact Le.ct 0 0
 rintro f ⟨m,J⟩
 try dsimp only at J⊢
 refine AW.boundR (id:=2) (l:=b) rfl (fun i=>?_)
 rcases a:b.drop f with _|⟨n,j⟩
 rw[a,qBl]at J
 have d:=qAG a
 refine go ?_
 exact fin
 rw[a,qBl]at J
 have d:=qAF a
 refine go ?_
 refine AO.w (zLr T rfl rfl rfl rfl (zgG (zgD a)) rfl rfl rfl) (go ?_)
 obtain⟨k,h,J⟩:=zB J
 refine go ?_
 refine Cf J fun _ J=>?_
 refine go ?_
 refine⟨f+1,⟨d,(zds a▸J)⟩,qBm d,?_⟩
 exact Le.ct 0 0
def qCJ (name:bD) (e:Item):List bD->Nat->Int->Int->Option (Int×Int)
 | [],c,a,b =>
  some (a,b)
 |f::d,c,a,b =>
  cond (!decide (f=name))
   (qCJ name e d (c+1) a b)
   ((qDL e).bind fun g =>
   cond g
    (qCJ name e d (c+1) (w64 (a+1)) (w64 (b+1)))
    (qCJ name e d (c+1) (w64 (a+1)) b))
def qDq (name:bD):List Item->Nat->Int->Int->Option ((Int×Int))
 | [],e,a,b =>
  some (a,b)
 |f::g,e,a,b =>
  (qCJ name f f.aj 0 a b).bind fun (c,d) =>
  qDq name g (e+1) c d
def qKD (l:List Item) (name:bD):Option (Int×Int) :=
 qDq name l 0 0 0
theorem qPe (l:List Item) (name:bD) (r:(Int×Int)) (J:qKD l name=some r):qAC prog 330 [.s (List.map ze2 l),.v (.string name)] (.t [.v (.int .i64 r.1),.v (.int .i64 r.2)]):=by
 refine fns T func330 ?_
 iterate 18 refine gs ?_
 refine AW.loopS (fun s:Nat×Int×Int=>(⟨[(1,.v (.string name)),(6,s.2.1),(7,s.2.2),(12,sv ze2 l),(13,(l.length:Int)),(14,(s.1:Int))],[],38,[]⟩:St)) (fun s=>s.1<=l.length/\qDq name (l.drop s.1) s.1 s.2.1 s.2.2=some r) (fun s=>l.length-s.1) (0,0,0) ⟨Nat.zero_le _,J⟩ ?_ ?_
 exact Le.ct 0 0
 rintro⟨j,u,y⟩ ⟨B,J⟩
 try dsimp only at J⊢
 refine AW.boundM (t:=12) (l:=l) rfl (fun F=>?_)
 rcases e:l.drop j with _|⟨c,G⟩
 rw[e,qDq]at J
 have f:=qAG e
 iterate 15 refine gs ?_
 exact fin
 rw[e,qDq]at J
 have f:=qAF e
 refine gs7 ?_
 obtain⟨i,J,k⟩:=zB J
 refine AW.seqJ (fun s:Int×Int=>(⟨[(1,.v (.string name)),(6,s.1),(7,s.2),(12,sv ze2 l),(13,(l.length:Int)),(14,(j:Int))],[],38,[]⟩:St)) (fun s=>s=i) ?_ ?_
 refine gs5 ?_
 refine AO.x (als T 6) ?_
 refine AO.se T [sv ze1 c.aj,sv ze0 c.ae,.v (.bool c.aB)] ?_
 refine gs9 ?_
 refine AW.loopS (fun s:Nat×Int×Int=>(⟨[(1,.v (.string name)),(6,s.2.1),(7,s.2.2),(9,.p 6 0),(12,sv ze2 l),(13,(l.length:Int)),(14,(j:Int)),(19,sv ze1 c.aj),(20,(c.aj.length:Int)),(21,(s.1:Int))],[(6,.box [sv ze1 c.aj,sv ze0 c.ae,.v (.bool c.aB)])],38,[]⟩:St)) (fun s=>s.1<=c.aj.length/\qCJ name c (c.aj.drop s.1) s.1 s.2.1 s.2.2=some i) (fun s=>c.aj.length-s.1) (0,u,y) ⟨Nat.zero_le _,J⟩ ?_ ?_
 exact Le.ct 0 0
 rintro⟨d,g,h⟩ ⟨B,J⟩
 try dsimp only at J⊢
 refine AW.boundM (t:=19) (l:=c.aj) rfl (fun z=>?_)
 rcases b:c.aj.drop d with _|⟨C,A⟩
 rw[b,qCJ]at J
 have a:=qAG b
 refine gs7 ?_
 refine⟨_,zS J,?_⟩
 exact Le.ct 0 0
 rw[b,qCJ]at J
 have a:=qAF b
 iterate 22 refine gs ?_
 refine AW.cH J (fun _ J=>?_) (fun hc J=>?_)
 refine gs5 ?_
 refine⟨(d+1,g,h),⟨a,(zds b▸J)⟩,qBm a,?_⟩
 exact Le.ct 0 0
 refine gs8 ?_
 obtain⟨E,m,J⟩:=zB J
 refine gs2 ?_
 refine AO.w (cVs (qH1 _ _ (m))) ?_
 refine AO.n (AW.cH J (fun _ J=>?_) (fun _ J=>?_))
 refine gs9 ?_
 refine⟨(d+1,w64 (g+1),w64 (h+1)),⟨a,(zds b▸J)⟩,qBm a,?_⟩
 exact Le.ct 0 0
 refine gs5 ?_
 refine⟨(d+1,w64 (g+1),h),⟨a,(zds b▸J)⟩,qBm a,?_⟩
 exact Le.ct 0 0
 rintro⟨o,q⟩ hs
 subst hs
 replace J:=k
 try dsimp only[qKL,qIN]at J
 try dsimp only
 refine gs4 ?_
 refine⟨(j+1,o,q),⟨f,(zds e▸J)⟩,qBm f,?_⟩
 exact Le.ct 0 0
def qBq (c:Code) (l:List Item):List bD->Nat->Option (Except Bool Unit)
 | [],b =>
  some (.ok ())
 |e::d,b =>
  (qKD l e).bind fun a =>
  cond (decide (a.1>c.aq)||(decide (a.1>1)&&(a.2==0)))
   (some (.error false))
   (qBq c l d (b+1))
def qBW (c:Code) (l:List Item):List Item->Nat->bF
 | [],a =>
  some true
 |e::b,a =>
  (qBq c l e.aj 0).bind fun d=>qKL d fun _ =>
  qBW c l b (a+1)
def qJr (c:Code) (l:List Item):bF :=
 qBW c l l 0
theorem qM2 (c:Code) (l:List Item) (r:Bool) (J:qJr c l=some r):qAC prog 284 [.g (ze4 c),.s (List.map ze2 l)] (.v (.bool r)):=by
 refine fns T func284 ?_
 refine gs2 ?_
 refine AO.x (bxs T 1) ?_
 iterate 10 refine gs ?_
 refine AW.loopS (fun s:Nat=>(⟨[(1,sv ze2 l),(2,.p 1 0),(11,sv ze2 l),(12,(l.length:Int)),(13,(s:Int))],[(1,.box (ze4 c))],44,[]⟩:St)) (fun s=>s<=l.length/\qBW c l (l.drop s) s=some r) (fun s=>l.length-s) 0 ⟨Nat.zero_le _,J⟩ ?_ ?_
 exact Le.ct 0 0
 rintro j ⟨u,J⟩
 try dsimp only at J⊢
 refine AW.boundM (t:=1) (l:=l) rfl (fun A=>?_)
 rcases f:l.drop j with _|⟨a,B⟩
 rw[f,qBW]at J
 have i:=qAG f
 iterate 12 refine gs ?_
 exact fin
 rw[f,qBW]at J
 have i:=qAF f
 refine gs7 ?_
 obtain⟨o,J,k⟩:=zB J
 refine AW.seqJ (fun s:Unit=>(⟨[(1,sv ze2 l),(2,.p 1 0),(11,sv ze2 l),(12,(l.length:Int)),(13,(j:Int))],[(1,.box (ze4 c))],44,[]⟩:St)) (fun s=>.ok s=o) ?_ ?_
 refine gs5 ?_
 refine AO.x (als T 7) ?_
 refine AO.se T [sv ze1 a.aj,sv ze0 a.ae,.v (.bool a.aB)] ?_
 refine gs9 ?_
 refine AW.loopS (fun s:Nat=>(⟨[(1,sv ze2 l),(2,.p 1 0),(11,sv ze2 l),(12,(l.length:Int)),(13,(j:Int)),(18,sv ze1 a.aj),(19,(a.aj.length:Int)),(20,(s:Int))],[(1,.box (ze4 c))],44,[]⟩:St)) (fun s=>s<=a.aj.length/\qBq c l (a.aj.drop s) s=some o) (fun s=>a.aj.length-s) 0 ⟨Nat.zero_le _,J⟩ ?_ ?_
 exact Le.ct 0 0
 rintro m ⟨u,J⟩
 try dsimp only at J⊢
 refine AW.boundM (t:=18) (l:=a.aj) rfl (fun y=>?_)
 rcases b:a.aj.drop m with _|⟨C,z⟩
 rw[b,qBq]at J
 have e:=qAG b
 refine gs7 ?_
 refine⟨_,zS J,?_⟩
 exact Le.ct 0 0
 rw[b,qBq]at J
 have e:=qAF b
 iterate 16 refine gs ?_
 obtain⟨n,q,J⟩:=zB J
 refine gs3 ?_
 refine AO.w (cVs (qPe _ _ _ (q))) ?_
 iterate 13 refine gs ?_
 refine AO.g0 T ?_
 refine AO.g1 T 35 ?_
 refine AO.g1 T 36 ?_
 refine AO.g0 T ?_
 refine AO.g1 T 38 ?_
 refine AO.d [37] rfl ⟨fun h=>h,trivial⟩ (fun hg=>zN rfl rfl rfl (by rw[hg];exact Bool.true_and _)) rfl ?_
 refine gs2 ?_
 refine AW.le (Le.ct 0 0 (σ':=(⟨[(1,sv ze2 l),(2,.p 1 0),(11,sv ze2 l),(12,(l.length:Int)),(13,(j:Int)),(18,sv ze1 a.aj),(19,(a.aj.length:Int)),(20,(m:Int)),(41,.v (.bool (decide (n.1>c.aq)||(decide (n.1>1)&&(n.2==0)))))],[(1,.box (ze4 c))],44,[]⟩:St))) ?_
 refine AW.cH J (fun _ J=>?_) (fun _ J=>?_)
 refine gs5 ?_
 obtain rfl:=zS J
 replace J:=k
 exact fin
 refine gs5 ?_
 refine⟨m+1,⟨e,(zds b▸J)⟩,qBm e,?_⟩
 exact Le.ct 0 0
 rintro _ hs
 subst hs
 replace J:=k
 try dsimp only[qKL,qIN]at J
 try dsimp only
 refine gs4 ?_
 refine⟨j+1,⟨i,(zds f▸J)⟩,qBm i,?_⟩
 exact Le.ct 0 0
def qCe (l:List Item):List Item->Nat->bF
 | [],a =>
  some true
 |c::b,a =>
  (qGW (a:Int) (l.length:Int)).bind fun d =>
  cond (!(c.aB==d))
   (some false)
   (qCe l b (a+1))
def qI0 (c:Code) (l:List Item) (rule:Int):bF :=
 cond (rule==1)
  (some (decide ((l.length:Int)>0)))
  (cond (rule==2)
   ((qED c l).bind fun b =>
   some b)
   (cond (rule==3)
    ((qGv l (fun a0=>qCU a0 )).bind fun d =>
    some (!d))
    (cond (rule==4)
     ((qI3 c l).bind fun e =>
     some e)
     (cond (rule==5)
      ((qJ4 l).bind fun f =>
      some f)
      (cond (rule==6)
       ((qKP c l).bind fun g =>
       some g)
       (cond (rule==7)
        ((qJr c l).bind fun a =>
        some a)
        (qCe l l 0)))))))
theorem qOB (c:Code) (l:List Item) (rule:Int) (r:Bool) (J:qI0 c l rule=some r):qAC prog 231 [.g (ze4 c),.s (List.map ze2 l),rule] (.v (.bool r)):=by
 refine fns T func231 ?_
 refine gs2 ?_
 refine AO.x (bxs T 1) ?_
 iterate 13 refine gs ?_
 refine Cf J fun hc J=>?_
 refine gs5 ?_
 refine AW.cH J (fun _ J=>?_) (fun hc J=>?_)
 refine AW.q ?_
 obtain⟨A,k,J⟩:=zB J
 refine gs3 ?_
 refine AO.w (cVs (qLv _ _ _ (k))) ?_
 refine gs3 ?_
 exact fin
 refine gs5 ?_
 refine AW.cH J (fun _ J=>?_) (fun hc J=>?_)
 refine AW.q ?_
 obtain⟨B,m,J⟩:=zB J
 refine gs2 ?_
 refine AO.w (cVs (qJX _ 280 [] rfl (fun a0=>qCU a0 ) (fun a0 q h=>qMd a0  q h) _ (m))) ?_
 refine gs4 ?_
 exact fin
 refine gs5 ?_
 refine AW.cH J (fun _ J=>?_) (fun hc J=>?_)
 refine AW.q ?_
 obtain⟨C,n,J⟩:=zB J
 refine gs3 ?_
 refine AO.w (cVs (qLa _ _ _ (n))) ?_
 refine gs3 ?_
 exact fin
 refine gs5 ?_
 refine AW.cH J (fun _ J=>?_) (fun hc J=>?_)
 refine AW.q ?_
 obtain⟨E,o,J⟩:=zB J
 refine gs2 ?_
 refine AO.w (cVs (qM5 _ _ (o))) ?_
 refine gs3 ?_
 exact fin
 refine gs5 ?_
 refine AW.cH J (fun _ J=>?_) (fun hc J=>?_)
 refine AW.q ?_
 obtain⟨F,f,J⟩:=zB J
 refine gs3 ?_
 refine AO.w (cVs (qNd _ _ _ (f))) ?_
 refine gs3 ?_
 exact fin
 refine gs5 ?_
 refine AW.cH J (fun _ J=>?_) (fun hc J=>?_)
 refine AW.q ?_
 obtain⟨y,i,J⟩:=zB J
 refine gs3 ?_
 refine AO.w (cVs (qM2 _ _ _ (i))) ?_
 refine gs3 ?_
 exact fin
 refine gs9 ?_
 refine AW.loopS (fun s:Nat=>(⟨[(1,sv ze2 l),(44,sv ze2 l),(45,(l.length:Int)),(46,(s:Int))],[],59,[]⟩:St)) (fun s=>s<=l.length/\qCe l (l.drop s) s=some r) (fun s=>l.length-s) 0 ⟨Nat.zero_le _,J⟩ ?_ ?_
 exact Le.ct 0 0
 rintro e ⟨G,J⟩
 try dsimp only at J⊢
 refine AW.boundM (t:=1) (l:=l) rfl (fun p=>?_)
 rcases a:l.drop e with _|⟨d,u⟩
 rw[a,qCe]at J
 have b:=qAG a
 iterate 12 refine gs ?_
 exact fin
 rw[a,qCe]at J
 have b:=qAF a
 iterate 14 refine gs ?_
 refine AO.x (als T 4) ?_
 refine AO.pu T ?_
 refine AO.se T [sv ze1 d.aj,sv ze0 d.ae,.v (.bool d.aB)] ?_
 refine gs2 ?_
 obtain⟨z,j,J⟩:=zB J
 refine AW.drawn 6 5 [] mix (by kernel_rfl) rfl ?_
 refine gs5 ?_
 refine AD.vv (cVs (qLN _ _ _ (j))) ?_
 refine gs3 ?_
 refine Cf J fun _ J=>?_
 refine gs5 ?_
 refine⟨e+1,⟨b,(zds a▸J)⟩,qBm b,?_⟩
 exact Le.ct 0 0
def qBp (c:Code) (l:List Item):Nat->bE->Int->Option ((bE×Bool))
 |0,_,_=>none
 |d+1,b,a =>
  cond (decide (a<=8))
   ((qI0 c l a).bind fun e =>
   cond (!e)
    ((qAl (qAg 8 (b.length+([a]).length))).bind fun f =>
    qBp c l d (b++[a]) (w64 (a+1)))
    (qBp c l d b (w64 (a+1))))
   (some (b,true))
def qE3 (a8:Nat) (c:Code) (l:List Item):Option (bE×Bool) :=
 (qBE a8 c).bind fun a =>
 (opt (!(!a)) default (qFb a8 l)).bind fun b =>
 cond ((!a)||(!b))
  (some ([],false))
  (qBp c l a8 [] 1)
theorem qM8 (a8:Nat) (c:Code) (l:List Item) (r:(bE×Bool)) (J:qE3 a8 c l=some r):qAC prog 175 [.g (ze4 c),.s (List.map ze2 l)] (.t [.w 1 (r.1.map ze0),.v (.bool r.2)]):=by
 refine fns T func175 ?_
 refine go ?_
 refine AO.x (bxs T 1) (go ?_)
 obtain⟨m,h,n,i,J⟩:=qAE J
 refine go ?_
 refine AO.w (cVs (qFP a8 _ _ (h))) (go ?_)
 refine AO.g0 T ?_
 refine AO.d1 12 (fun hg=>cVs (qLM a8 _ _ (qD7 i hg))) ?_
 refine AO.g1 T 13 ?_
 refine go ?_
 refine Cf J fun hc J=>?_
 refine go ?_
 refine AO.x (qF6 T rfl rfl rfl rfl) (go ?_)
 refine AW.loopS (fun s:Nat×bE×Int=>(⟨[(1,sv ze2 l),(2,.p 1 0),(6,.R 5),(7,s.2.2)],[(1,.box (ze4 c)),(5,ro 1 ze0 s.2.1)],31,[]⟩:St)) (fun s=>qBp c l s.1 s.2.1 s.2.2=some r) (fun s=>s.1) (a8,[],1) J ?_ ?_
 refine Le.trans (Le.void 6 5 1 rfl rfl) ?_
 exact Le.ct 0 0
 rintro⟨b,d,a⟩ J
 try dsimp only at J⊢
 rcases b with _|b
 cases (show none=some _ from J)
 rw[qBp]at J
 refine go ?_
 refine AW.cH J (fun hc J=>?_) (fun _ J=>?_)
 refine go ?_
 obtain⟨j,e,J⟩:=zB J
 refine go ?_
 refine AO.w (cVs (qOB _ _ _ _ (e))) (go ?_)
 refine AW.cH J (fun _ J=>?_) (fun hc J=>?_)
 obtain⟨k,f,J⟩:=zB J
 refine go ?_
 refine AO.x (mks T 6 ze0 ([a])) ?_
 refine AO.x (rvs T 7 (hfit:=by exact qAJ (f))) (go ?_)
 refine⟨(b,(d++[a]),w64 (a+1)),J,Nat.lt_succ_self _,?_⟩
 exact Le.ct 7 5
 refine go ?_
 refine⟨(b,d,w64 (a+1)),J,Nat.lt_succ_self _,?_⟩
 exact Le.ct 0 0
 refine go ?_
 exact fin
def qB3 (c:Code) (l:List Item):List Item->Nat->bE->Option ((bE))
 | [],d,a =>
  some a
 |g::e,d,a =>
  (qCr c l (d:Int)).bind fun b =>
  (qAl (qAg 8 (a.length+([b]).length))).bind fun f =>
  qB3 c l e (d+1) (a++[b])
def qGk (c:Code) (l:List Item):Option bE :=
 qB3 c l l 0 []
theorem qNi (c:Code) (l:List Item) (r:(bE)) (J:qGk c l=some r):qAC prog 177 [.g (ze4 c),.s (List.map ze2 l)] (.w 1 (r.map ze0)):=by
 refine fns T func177 ?_
 refine go ?_
 refine AO.x (bxs T 1) (go ?_)
 refine AO.x (qF6 T rfl rfl rfl rfl) (go ?_)
 refine AW.loopS (fun s:Nat×(bE)=>(⟨[(1,sv ze2 l),(2,.p 1 0),(5,.R 5),(9,(l.length:Int)),(10,(s.1:Int))],[(1,.box (ze4 c)),(5,ro 1 ze0 s.2)],22,[]⟩:St)) (fun s=>s.1<=l.length/\qB3 c l (l.drop s.1) s.1 s.2=some r) (fun s=>l.length-s.1) (0,[]) ⟨Nat.zero_le _,J⟩ ?_ ?_
 refine Le.trans (Le.void 5 5 1 rfl rfl) ?_
 exact Le.ct 0 0
 rintro⟨h,i⟩ ⟨n,J⟩
 try dsimp only at J⊢
 refine AW.boundM (t:=1) (l:=l) rfl (fun j=>?_)
 rcases a:l.drop h with _|⟨o,k⟩
 rw[a,qB3]at J
 have b:=qAG a
 refine go ?_
 exact fin
 rw[a,qB3]at J
 have b:=qAF a
 refine go ?_
 obtain⟨d,e,m,f,J⟩:=qAE J
 refine go ?_
 refine AO.w (cVs (qHO _ _ _ _ (e))) ?_
 refine AO.x (mks T 6 ze0 ([d])) ?_
 refine AO.x (rvs T 7 (hfit:=by exact qAJ (f))) (go ?_)
 refine⟨(h+1,(i++[d])),⟨b,(zds a▸J)⟩,qBm b,?_⟩
 exact Le.ct 7 5
def qFX (a8:Nat) (c:Code) (p:Performance) (factor:Int):bF :=
 (qBh a8 c p).bind fun a =>
 (opt a default (qFg factor)).bind fun b =>
 some (a&&b)
theorem qI1 (a8:Nat) (c:Code) (p:Performance) (factor:Int) (r:Bool) (J:qFX a8 c p factor=some r):qAC prog 237 [.g (ze4 c),.g (ze9 p),factor] (.v (.bool r)):=by
 refine fns T func237 ?_
 refine go ?_
 refine AO.x (bxs T 1) ?_
 refine AO.x (bxs T 2) (go ?_)
 obtain⟨d,a,e,b,J⟩:=qAE J
 refine go ?_
 refine AO.w (cVs (qGg a8 _ _ _ (a))) ?_
 refine AO.pu T ?_
 refine AO.g0 T ?_
 refine AO.d1 11 (fun hg=>cVs (qLG _ _ (qD7 b hg))) ?_
 refine go ?_
 exact fin
def qHB (p:Performance):Option Int :=
 (qA6 p.ae).bind fun a =>
 cond (decide (a>=5))
  (some (w64 (a-2)))
  (some a)
theorem qLu (p:Performance) (r:Int) (J:qHB p=some r):qAC prog 240 [.g (ze9 p)] (.v (.int .i64 r)):=by
 refine fns T func240 ?_
 refine go ?_
 refine AO.x (bxs T 1) (go ?_)
 obtain⟨b,a,J⟩:=zB J
 refine go ?_
 refine AO.w (cVs (qEs _ _ (a))) (go ?_)
 refine Cf J fun _ J=>?_
 refine go ?_
 exact fin
def qEu (a:Int) (b:Int) (mode:Int):Option Int :=
 cond (mode==(-1))
  ((qFU a b).bind fun c =>
  some c)
  (cond (mode==1)
   ((qFU (w64 (-a)) b).bind fun d =>
   some (w64 (-d)))
   ((qDa a b).bind fun e =>
   some e))
theorem qIP (a:Int) (b:Int) (mode:Int) (r:Int) (J:qEu a b mode=some r):qAC prog 239 [a,b,mode] (.v (.int .i64 r)):=by
 refine fns T func239 ?_
 refine go ?_
 refine AW.cH J (fun _ J=>?_) (fun hc J=>?_)
 refine AW.q ?_
 obtain⟨f,c,J⟩:=zB J
 refine go ?_
 refine AO.w (cVs (qIt _ _ _ (c))) (go ?_)
 exact fin
 refine go ?_
 refine AW.cH J (fun _ J=>?_) (fun _ J=>?_)
 refine AW.q ?_
 obtain⟨g,d,J⟩:=zB J
 refine go ?_
 refine AO.w (qPr rfl rfl) ?_
 refine AO.pu T ?_
 refine AO.w (cVs (qIt _ _ _ (d))) ?_
 refine AO.w (qPr rfl rfl) (go ?_)
 exact fin
 refine go ?_
 obtain⟨h,e,J⟩:=zB J
 refine go ?_
 refine AO.w (cVs (qF5 _ _ _ (e))) (go ?_)
 exact fin
def qHL (a8:Nat) (c:Code) (p:Performance) (k:Int):Option Int :=
 (qCr c p.ai k).bind fun a =>
 cond (a==0)
  (some 0)
  ((qAV p.ai k).bind fun b =>
  (qHz a8 c b).bind fun d =>
  (qHB p).bind fun e =>
  (qEu d e 1).bind fun f =>
  some f)
theorem qOh (a8:Nat) (c:Code) (p:Performance) (k:Int) (r:Int) (J:qHL a8 c p k=some r):qAC prog 238 [.g (ze4 c),.g (ze9 p),k] (.v (.int .i64 r)):=by
 refine fns T func238 ?_
 refine go ?_
 refine AO.x (bxs T 1) ?_
 refine AO.x (bxs T 2) (go ?_)
 obtain⟨h,b,J⟩:=zB J
 refine go ?_
 refine AO.w (cVs (qHO _ _ _ _ (b))) (go ?_)
 refine Cf J fun _ J=>?_
 refine go ?_
 obtain⟨i,f,j,d,l,e,J⟩:=qAq J
 obtain⟨m,a,J⟩:=zB J
 refine AW.drawn 8 3 [] mix (by kernel_rfl) rfl ?_
 refine go ?_
 refine AD.vv (cVs (qMk a8 _ _ _ (d))) ?_
 refine go ?_
 refine AO.w (cVs (qLu _ _ (e))) ?_
 refine AO.w (cVs (qIP _ _ _ _ (a))) (go ?_)
 exact fin
def qBf (c:Code) (p:Performance) (factor:Int) (a8:Nat):List Item->Nat->Int->Option ((Int×Bool))
 | [],b,a =>
  (qHB p).bind fun d =>
  (qEu 1000 d 1).bind fun e =>
  (qEu (w64 ((w64 (factor*3))*e)) 100 1).bind fun f =>
  some (w64 (a+f),true)
 |i::g,b,a =>
  (qHL a8 c p (b:Int)).bind fun h =>
  qBf c p factor a8 g (b+1) (w64 (a+h))
def qEi (a8:Nat) (c:Code) (p:Performance) (factor:Int):Option (Int×Bool) :=
 (qFX a8 c p factor).bind fun a =>
 cond (!a)
  (some (0,false))
  (qBf c p factor a8 p.ai 0 0)
theorem qMY (a8:Nat) (c:Code) (p:Performance) (factor:Int) (r:(Int×Bool)) (J:qEi a8 c p factor=some r):qAC prog 180 [.g (ze4 c),.g (ze9 p),factor] (.t [.v (.int .i64 r.1),.v (.bool r.2)]):=by
 refine fns T func180 ?_
 refine go ?_
 refine AO.x (bxs T 1) ?_
 refine AO.x (bxs T 2) (go ?_)
 obtain⟨A,i,J⟩:=zB J
 refine go ?_
 refine AO.w (cVs (qI1 a8 _ _ _ _ (i))) (go ?_)
 refine Cf J fun _ J=>?_
 refine go ?_
 refine AW.loopS (fun s:Nat×Int=>(⟨[(2,factor),(3,.p 1 0),(4,.p 2 0),(8,s.2),(17,(p.ai.length:Int)),(18,(s.1:Int))],[(1,.box (ze4 c)),(2,.box (ze9 p))],37,[]⟩:St)) (fun s=>s.1<=p.ai.length/\qBf c p factor a8 (p.ai.drop s.1) s.1 s.2=some r) (fun s=>p.ai.length-s.1) (0,0) ⟨Nat.zero_le _,J⟩ ?_ ?_
 exact Le.ct 0 0
 rintro⟨k,m⟩ ⟨B,J⟩
 try dsimp only at J⊢
 refine AW.boundBox (id:=2) (j:=0) (l:=p.ai) rfl rfl (fun o=>?_)
 rcases a:p.ai.drop k with _|⟨C,q⟩
 rw[a,qBf]at J
 have b:=qAG a
 refine go ?_
 obtain⟨u,d,y,e,z,f,J⟩:=qAq J
 refine go ?_
 refine AO.w (cVs (qLu _ _ (d))) ?_
 refine AO.w (cVs (qIP _ _ _ _ (e))) ?_
 refine AO.w aws ?_
 refine AO.w (cVs (qIP _ _ _ _ (f))) (go ?_)
 exact fin
 rw[a,qBf]at J
 have b:=qAF a
 refine go ?_
 obtain⟨n,h,J⟩:=zB J
 refine go ?_
 refine AO.w (cVs (qOh a8 _ _ _ _ (h))) (go ?_)
 refine⟨(k+1,w64 (m+n)),⟨b,(zds a▸J)⟩,qBm b,?_⟩
 exact Le.ct 0 0
def qJe (a8:Nat) (c:Code) (p:Performance) (factor:Int) (judge:Int):bF :=
 (qFX a8 c p factor).bind fun a =>
 (opt a default (qA6 p.ae)).bind fun b =>
 (opt a default (qAQ judge 0 (w64 (b-1)))).bind fun d =>
 some (a&&d)
theorem qO9 (a8:Nat) (c:Code) (p:Performance) (factor:Int) (judge:Int) (r:Bool) (J:qJe a8 c p factor judge=some r):qAC prog 241 [.g (ze4 c),.g (ze9 p),factor,judge] (.v (.bool r)):=by
 refine fns T func241 ?_
 refine go ?_
 refine AO.x (bxs T 1) ?_
 refine AO.x (bxs T 2) (go ?_)
 obtain⟨f,a,i,b,j,e,J⟩:=qAq J
 refine go ?_
 refine AO.w (cVs (qI1 a8 _ _ _ _ (a))) ?_
 refine AO.pu T ?_
 refine AO.g0 T ?_
 refine AO.g0 T ?_
 refine AO.g T (d:=.g [sv ze3 p.ae.ah,sv ze3 p.ae.ac]) [15] rfl ⟨fun h=>h,trivial⟩ rfl rfl ?_
 refine AO.d1 16 (fun hg=>cVs (qEs _ _ (qD7 b hg))) ?_
 refine AO.d1 17 (fun hg=>aws) ?_
 refine AO.d2 14 18 (fun hg=>cVs (qAS _ _ _ _ (qD7 e hg))) ?_
 refine go ?_
 exact fin
def qC6 (judge:Int) (mark:Int) (e:Marks) (d:List bE):Nat->List bE->List bE->Int->Option Marks
 |0,_,_,_=>none
 |f+1,g,b,a =>
  cond (decide (a<(e.ac.length:Int)))
   ((qAV b a).bind fun c =>
   (qAV c judge).bind fun h =>
   qC6 judge mark e d f (b.set a.toNat (c.set judge.toNat mark)) (b.set a.toNat (c.set judge.toNat mark)) (w64 (a+1)))
   (some (Marks.mk d b))
def qD2 (judge:Int) (grade:Int) (mark:Int) (a8:Nat) (c:Marks):Nat->List bE->List bE->Int->Option Marks
 |0,_,_,_=>none
 |e+1,f,b,a =>
  cond (decide (a<(c.ah.length:Int)))
   ((qAV b a).bind fun d =>
   (qAV d judge).bind fun g =>
   qD2 judge grade mark a8 c e (b.set a.toNat (d.set judge.toNat grade)) (b.set a.toNat (d.set judge.toNat grade)) (w64 (a+1)))
   (qC6 judge mark c b a8 c.ac c.ac 0)
def qGb (a8:Nat) (m:Marks) (judge:Int) (grade:Int) (mark:Int):Option Marks :=
 (qC0 m).bind fun a =>
 qD2 judge grade mark a8 a a8 a.ah a.ah 0
theorem qLL (a8:Nat) (m:Marks) (judge:Int) (grade:Int) (mark:Int) (r:Marks) (J:qGb a8 m judge grade mark=some r):qAC prog 295 [.g (qJb m),judge,grade,mark] (.g (qJj r)):=by
 refine fns T func295 ?_
 refine gs2 ?_
 refine AO.x (bxs T 1) ?_
 refine AO.x (als T 2) ?_
 refine gs2 ?_
 obtain⟨a,q,J⟩:=zB J
 refine gs2 ?_
 refine AO.x (qAO rfl 3 rfl rfl rfl (qGj _ _ (q)) rfl rfl rfl) ?_
 refine AO.x (als T 5) ?_
 refine AO.se T [.R 3,.R 4] ?_
 iterate 10 refine gs ?_
 refine AW.loopS (fun s:Nat×(List bE)×(List bE)×Int=>(⟨[(1,judge),(2,grade),(3,mark),(8,.p 2 0),(9,.p 5 0),(17,.R 3),(18,(a.ah.length:Int)),(19,s.2.2.2)],[(2,.box [.w 0 [],.w 0 []]),(3,ro 1 ze7 s.2.2.1),(4,ro 1 ze7 a.ac),(5,.box [.R 3,.R 4])],41,[]⟩:St)) (fun s=>qD2 judge grade mark a8 a s.1 s.2.1 s.2.2.1 s.2.2.2=some r) (fun s=>s.1) (a8,a.ah,a.ah,0) J ?_ ?_
 exact Le.ct 0 0
 rintro⟨l,t,f,b⟩ J
 try dsimp only at J⊢
 rcases l with _|l
 cases (show none=some _ from J)
 rw[qD2]at J
 refine gs5 ?_
 refine AW.cH J (fun _ J=>?_) (fun hc J=>?_)
 refine gs4 ?_
 obtain⟨h,d,J⟩:=zB J
 refine AW.le (Le.openM 3 b.toNat 0 8 rfl (zgG (d)) rfl rfl) ?_
 refine AW.r (AO.w (qET T rfl rfl rfl rfl rfl rfl (d)) ?_)
 refine AO.w (qCb T rfl rfl rfl rfl rfl) ?_
 refine gs2 ?_
 obtain⟨u,n,J⟩:=zB J
 refine gs5 ?_
 refine AO.x (zSr T rfl rfl rfl rfl rfl (zgG (n)) rfl rfl rfl rfl (u':=grade) rfl rfl) ?_
 refine AO.le (Le.closeM 3 b.toNat 0 8 rfl rfl (zgG (d)) rfl (u':=(h.set judge.toNat grade)) rfl) ?_
 refine gs5 ?_
 refine⟨(l,(f.set b.toNat (h.set judge.toNat grade)),(f.set b.toNat (h.set judge.toNat grade)),w64 (b+1)),J,Nat.lt_succ_self _,?_⟩
 exact Le.ct 0 0
 iterate 10 refine gs ?_
 refine AW.loopS (fun s:Nat×(List bE)×(List bE)×Int=>(⟨[(1,judge),(3,mark),(8,.p 2 0),(9,.p 5 0),(29,.R 4),(30,(a.ac.length:Int)),(31,s.2.2.2)],[(2,.box [.w 0 [],.w 0 []]),(3,ro 1 ze7 f),(4,ro 1 ze7 s.2.2.1),(5,.box [.R 3,.R 4])],41,[]⟩:St)) (fun s=>qC6 judge mark a f s.1 s.2.1 s.2.2.1 s.2.2.2=some r) (fun s=>s.1) (a8,a.ac,a.ac,0) J ?_ ?_
 exact Le.ct 0 0
 rintro⟨i,v,k,c⟩ J
 try dsimp only at J⊢
 rcases i with _|i
 cases (show none=some _ from J)
 rw[qC6]at J
 refine gs5 ?_
 refine AW.cH J (fun _ J=>?_) (fun _ J=>?_)
 refine gs4 ?_
 obtain⟨j,e,J⟩:=zB J
 refine AW.le (Le.openM 4 c.toNat 0 11 rfl (zgG (e)) rfl rfl) ?_
 refine AW.r (AO.w (qET T rfl rfl rfl rfl rfl rfl (e)) ?_)
 refine AO.w (qCb T rfl rfl rfl rfl rfl) ?_
 refine gs2 ?_
 obtain⟨y,o,J⟩:=zB J
 refine gs5 ?_
 refine AO.x (zSr T rfl rfl rfl rfl rfl (zgG (o)) rfl rfl rfl rfl (u':=mark) rfl rfl) ?_
 refine AO.le (Le.closeM 4 c.toNat 0 11 rfl rfl (zgG (e)) rfl (u':=(j.set judge.toNat mark)) rfl) ?_
 refine gs5 ?_
 refine⟨(i,(k.set c.toNat (j.set judge.toNat mark)),(k.set c.toNat (j.set judge.toNat mark)),w64 (c+1)),J,Nat.lt_succ_self _,?_⟩
 exact Le.ct 0 0
 refine gs4 ?_
 refine AO.se T [.R 3,.R 4] ?_
 refine gs2 ?_
 exact fin
def qEf (a8:Nat) (c:Code) (p:Performance) (factor:Int) (judge:Int):Option (Int×Int) :=
 (qGb a8 p.ae judge (-5) 0).bind fun a =>
 (qGb a8 p.ae judge 5 1000).bind fun b =>
 (qBV a8 c (Performance.mk p.ai a p.af) factor).bind fun d =>
 (qBV a8 c (Performance.mk p.ai b p.af) factor).bind fun e =>
 some (d,e)
theorem qMS (a8:Nat) (c:Code) (p:Performance) (factor:Int) (judge:Int) (r:(Int×Int)) (J:qEf a8 c p factor judge=some r):qAC prog 242 [.g (ze4 c),.g (ze9 p),factor,judge] (.t [.v (.int .i64 r.1),.v (.int .i64 r.2)]):=by
 refine fns T func242 ?_
 refine go ?_
 refine AO.x (bxs T 1) ?_
 refine AO.x (bxs T 2) (go ?_)
 refine AW.drawn 5 3 [] mix (by kernel_rfl) rfl ?_
 refine go ?_
 refine AD.q (FStep.alloc T rfl rfl rfl rfl rfl rfl) (by simp[qA1]) (Nat.le_succ _) rfl ?_
 refine AD.q (FStep.alloc T rfl rfl rfl rfl rfl rfl) (by simp[qA1]) (Nat.le_succ _) rfl ?_
 refine AD.kk (FStep.store_p T rfl rfl rfl rfl rfl rfl rfl rfl rfl rfl rfl) ?_
 refine AD.nil (AO.se T [sv ze2 p.ai,sv ze3 p.ae.ah,sv ze3 p.ae.ac,p.af.falls,p.af.an,p.af.aw] ?_)
 refine AO.n (AW.le (Le.ct 0 0 (σ':=(⟨[(2,factor),(3,judge),(4,.p 1 0),(5,.p 2 0),(10,.p 3 0),(11,.p 4 0)],[(1,.box (ze4 c)),(2,.box (ze9 p)),(3,.box (ze9 p)),(4,.box (ze9 p))],32,[]⟩:St))) ?_)
 refine AW.q ?_
 obtain⟨a,d,J⟩:=zB J
 refine go ?_
 refine AO.x (qAO rfl 5 rfl rfl rfl (qLL a8 _ _ _ _ _ (d)) rfl rfl rfl) ?_
 refine AO.pu T ?_
 refine AO.se T [sv ze2 p.ai,.R 5,.R 6,p.af.falls,p.af.an,p.af.aw] ?_
 refine go ?_
 obtain⟨b,e,J⟩:=zB J
 refine go ?_
 refine AO.x (qAO rfl 7 rfl rfl rfl (qLL a8 _ _ _ _ _ (e)) rfl rfl rfl) ?_
 refine AO.pu T ?_
 refine AO.se T [sv ze2 p.ai,.R 7,.R 8,p.af.falls,p.af.an,p.af.aw] ?_
 refine AO.n (AW.le (Le.ct 0 0 (σ':=(⟨[(2,factor),(4,.p 1 0),(10,.p 3 0),(11,.p 4 0)],[(1,.box (ze4 c)),(3,.box [sv ze2 p.ai,.R 5,.R 6,p.af.falls,p.af.an,p.af.aw]),(4,.box [sv ze2 p.ai,.R 7,.R 8,p.af.falls,p.af.an,p.af.aw]),(5,ro 1 ze7 a.ah),(6,ro 1 ze7 a.ac),(7,ro 1 ze7 b.ah),(8,ro 1 ze7 b.ac)],32,[]⟩:St))) ?_)
 refine AW.q ?_
 obtain⟨i,f,j,h,J⟩:=qAE J
 refine AW.drawn 7 9 [] mix (by kernel_rfl) rfl ?_
 refine go ?_
 refine AD.vv (zLV rfl rfl rfl (es:=[.g (ze4 c),.g (ze9 (Performance.mk p.ai a p.af)),factor]) ⟨.free rfl,qIK (LendL.cons (.free rfl) (LendL.cons ((.rowR rfl (.map fun y=>qAh y))) (LendL.cons ((.rowR rfl (.map fun y=>qAh y))) (LendL.cons (.free rfl) (LendL.cons (.free rfl) (LendL.cons (.free rfl) LendL.nil)))))),.free rfl,trivial⟩ (qD6 a8 _ _ _ _ (f)) (qAj _) rfl) ?_
 refine go ?_
 refine AO.w (zLV rfl rfl rfl (es:=[.g (ze4 c),.g (ze9 (Performance.mk p.ai b p.af)),factor]) ⟨.free rfl,qIK (LendL.cons (.free rfl) (LendL.cons ((.rowR rfl (.map fun y=>qAh y))) (LendL.cons ((.rowR rfl (.map fun y=>qAh y))) (LendL.cons (.free rfl) (LendL.cons (.free rfl) (LendL.cons (.free rfl) LendL.nil)))))),.free rfl,trivial⟩ (qD6 a8 _ _ _ _ (h)) (qAj _) rfl) ?_
 refine gs3 ?_
 refine AW.le (Le.ct 0 0 (σ':=(⟨[(8,i),(9,j)],[],32,[]⟩:St))) ?_
 refine AW.t ?_
 exact fin
def qFu (a8:Nat) (c:Code) (p:Performance) (factor:Int) (judge:Int):Option (Int×Int×Bool) :=
 (qJe a8 c p factor judge).bind fun b =>
 cond (!b)
  (some (0,0,false))
  ((qEf a8 c p factor judge).bind fun a =>
  some (a.1,a.2,true))
theorem qMR (a8:Nat) (c:Code) (p:Performance) (factor:Int) (judge:Int) (r:(Int×Int×Bool)) (J:qFu a8 c p factor judge=some r):qAC prog 181 [.g (ze4 c),.g (ze9 p),factor,judge] (.t [.v (.int .i64 r.1),.v (.int .i64 r.2.1),.v (.bool r.2.2)]):=by
 refine fns T func181 ?_
 refine go ?_
 refine AO.x (bxs T 1) ?_
 refine AO.x (bxs T 2) (go ?_)
 obtain⟨e,a,J⟩:=zB J
 refine go ?_
 refine AO.w (cVs (qO9 a8 _ _ _ _ _ (a))) (go ?_)
 refine Cf J fun _ J=>?_
 refine go ?_
 obtain⟨b,d,J⟩:=zB J
 refine go ?_
 refine AO.w (cVs (qMS a8 _ _ _ _ _ (d))) ?_
 iterate 14 refine gs ?_
 refine AW.le (Le.ct 0 0 (σ':=(⟨[(8,b.1),(9,b.2),(10,.v (.bool true))],[],29,[]⟩:St))) ?_
 refine AW.t ?_
 exact fin
def qB1 (f:Nat) (b:Nat) (d:Int):Nat->List bE->Int->Option (List bE)
 |0,_,_=>none
 |e+1,c,a =>
  cond (decide (a<=3))
   (cond (a != d)
    ((qAl (qAg 24 (c.length+([[(f:Int),(b:Int),a]]).length))).bind fun g =>
    qB1 f b d e (c++[[(f:Int),(b:Int),a]]) (w64 (a+1)))
    (qB1 f b d e c (w64 (a+1))))
   (some c)
def qB5 (a8:Nat) (f:Nat):bE->Nat->List bE->Option (List bE)
 | [],a,b =>
  some b
 |d::c,a,b =>
  (qB1 f a d a8 b 0).bind fun e =>
  qB5 a8 f c (a+1) e
def qB4 (a8:Nat):List Item->Nat->List bE->Option ((List bE))
 | [],b,a =>
  some a
 |e::d,b,a =>
  (qB5 a8 b e.ae 0 a).bind fun c =>
  qB4 a8 d (b+1) c
def qIM (a8:Nat) (l:List Item):Option (List bE) :=
 qB4 a8 l 0 []
theorem qNc (a8:Nat) (l:List Item) (r:(List bE)) (J:qIM a8 l=some r):qAC prog 243 [.s (List.map ze2 l)] (.w 1 (r.map ze3)):=by
 refine fns T func243 ?_
 refine gs6 ?_
 refine AO.x (qF6 T rfl rfl rfl rfl) ?_
 iterate 10 refine gs ?_
 refine AW.loopS (fun s:Nat×(List bE)=>(⟨[(3,.R 7),(10,sv ze2 l),(11,(l.length:Int)),(12,(s.1:Int))],[(7,ro 1 ze3 s.2)],42,[]⟩:St)) (fun s=>s.1<=l.length/\qB4 a8 (l.drop s.1) s.1 s.2=some r) (fun s=>l.length-s.1) (0,[]) ⟨Nat.zero_le _,J⟩ ?_ ?_
 refine Le.trans (Le.void 3 7 1 rfl rfl) ?_
 exact Le.ct 0 0
 rintro⟨b,z⟩ ⟨G,J⟩
 try dsimp only at J⊢
 refine AW.boundM (t:=10) (l:=l) rfl (fun I=>?_)
 rcases i:l.drop b with _|⟨c,K⟩
 rw[i,qB4]at J
 have j:=qAG i
 iterate 13 refine gs ?_
 exact fin
 rw[i,qB4]at J
 have j:=qAF i
 refine gs7 ?_
 obtain⟨k,J,p⟩:=zB J
 refine AW.seqJ (fun s:List bE=>(⟨[(3,.R 7),(10,sv ze2 l),(11,(l.length:Int)),(12,(b:Int))],[(7,ro 1 ze3 s)],42,[]⟩:St)) (fun s=>s=k) ?_ ?_
 refine gs6 ?_
 refine AO.x (als T 276) ?_
 refine AO.pu T ?_
 refine AO.se T [sv ze1 c.aj,sv ze0 c.ae,.v (.bool c.aB)] ?_
 refine gs9 ?_
 refine AW.loopS (fun s:Nat×(List bE)=>(⟨[(3,.R 7),(4,(b:Int)),(10,sv ze2 l),(11,(l.length:Int)),(12,(b:Int)),(18,sv ze0 c.ae),(19,(c.ae.length:Int)),(20,(s.1:Int))],[(7,ro 1 ze3 s.2)],42,[]⟩:St)) (fun s=>s.1<=c.ae.length/\qB5 a8 b (c.ae.drop s.1) s.1 s.2=some k) (fun s=>c.ae.length-s.1) (0,z) ⟨Nat.zero_le _,J⟩ ?_ ?_
 exact Le.ct 0 0
 rintro⟨a,A⟩ ⟨G,J⟩
 try dsimp only at J⊢
 refine AW.boundM (t:=18) (l:=c.ae) rfl (fun E=>?_)
 rcases d:c.ae.drop a with _|⟨m,F⟩
 rw[d,qB5]at J
 have e:=qAG d
 refine gs7 ?_
 refine⟨_,zS J,?_⟩
 exact Le.ct 0 0
 rw[d,qB5]at J
 have e:=qAF d
 refine gs7 ?_
 obtain⟨n,J,q⟩:=zB J
 refine AW.seqJ (fun s:List bE=>(⟨[(3,.R 7),(4,(b:Int)),(10,sv ze2 l),(11,(l.length:Int)),(12,(b:Int)),(18,sv ze0 c.ae),(19,(c.ae.length:Int)),(20,(a:Int))],[(7,ro 1 ze3 s)],42,[]⟩:St)) (fun s=>s=n) ?_ ?_
 iterate 14 refine gs ?_
 refine AW.loopS (fun s:Nat×(List bE)×Int=>(⟨[(3,.R 7),(4,(b:Int)),(6,(a:Int)),(7,m),(8,s.2.2),(10,sv ze2 l),(11,(l.length:Int)),(12,(b:Int)),(18,sv ze0 c.ae),(19,(c.ae.length:Int)),(20,(a:Int))],[(7,ro 1 ze3 s.2.1)],42,[]⟩:St)) (fun s=>qB1 b a m s.1 s.2.1 s.2.2=some n) (fun s=>s.1) (a8,A,0) J ?_ ?_
 exact Le.ct 0 0
 rintro⟨h,o,f⟩ J
 try dsimp only at J⊢
 rcases h with _|h
 cases (show none=some _ from J)
 rw[qB1]at J
 refine gs6 ?_
 refine AW.cH J (fun hc J=>?_) (fun _ J=>?_)
 refine gs9 ?_
 refine AW.cH J (fun _ J=>?_) (fun hc J=>?_)
 obtain⟨H,u,J⟩:=zB J
 refine gs5 ?_
 refine AO.x (mks T 328 ze0 ([(b:Int),(a:Int),f])) ?_
 refine AO.le (Le.fM 328 (g:=ze0) rfl (fun y=>.vs rfl)) ?_
 refine AO.x (mks T 329 ze3 ([[(b:Int),(a:Int),f]])) ?_
 refine AO.x (rvs T 330 (hfit:=by exact qAJ (u))) ?_
 refine gs7 ?_
 refine⟨(h,(o++[[(b:Int),(a:Int),f]]),w64 (f+1)),J,Nat.lt_succ_self _,?_⟩
 exact Le.ct 330 7
 refine gs6 ?_
 refine⟨(h,o,w64 (f+1)),J,Nat.lt_succ_self _,?_⟩
 exact Le.ct 0 0
 refine AW.exit ?_
 refine⟨_,zS J,?_⟩
 exact Le.ct 0 0
 rintro B hs
 subst hs
 replace J:=q
 try dsimp only[qKL,qIN]at J
 try dsimp only
 refine gs4 ?_
 refine⟨(a+1,B),⟨e,(zds d▸J)⟩,qBm e,?_⟩
 exact Le.ct 0 0
 rintro C hs
 subst hs
 replace J:=p
 try dsimp only[qKL,qIN]at J
 try dsimp only
 refine gs4 ?_
 refine⟨(b+1,C),⟨j,(zds i▸J)⟩,qBm j,?_⟩
 exact Le.ct 0 0
def qHJ (a8:Nat) (c:Code) (p:Performance) (factor:Int) (l:List Item):Option Int :=
 (qBV a8 c (Performance.mk l p.ae p.af) factor).bind fun a =>
 some a
theorem qOQ (a8:Nat) (c:Code) (p:Performance) (factor:Int) (l:List Item) (r:Int) (J:qHJ a8 c p factor l=some r):qAC prog 244 [.g (ze4 c),.g (ze9 p),factor,.s (List.map ze2 l)] (.v (.int .i64 r)):=by
 refine fns T func244 ?_
 refine go ?_
 refine AO.x (bxs T 1) ?_
 refine AO.x (bxs T 2) (go ?_)
 refine AO.se T [sv ze2 l,sv ze3 p.ae.ah,sv ze3 p.ae.ac,p.af.falls,p.af.an,p.af.aw] ?_
 refine go ?_
 obtain⟨b,a,J⟩:=zB J
 refine go ?_
 refine AO.w (cVs (qD6 a8 _ _ _ _ (a))) (go ?_)
 exact fin
def qBX (c:Code) (p:Performance) (factor:Int) (a8:Nat):List bE->Nat->Int->bE->Option ((Int×Int×Int×Bool))
 | [],g,b,a =>
  cond ((a.length:Int)==0)
   (some (0,0,0,false))
   ((qAV a 0).bind fun h =>
   (qAV a 1).bind fun i =>
   (qAV a 2).bind fun j =>
   some (h,i,j,true))
 |d::e,g,b,a =>
  (qAV d 0).bind fun k =>
  (qAV d 1).bind fun l =>
  (qAV d 2).bind fun m =>
  (qEl p.ai k l m).bind fun n =>
  (qHJ a8 c p factor n).bind fun f =>
  cond (decide (f>b))
   (qBX c p factor a8 e (g+1) f d)
   (qBX c p factor a8 e (g+1) b a)
def qEx (a8:Nat) (c:Code) (p:Performance) (factor:Int):Option (Int×Int×Int×Bool) :=
 (qFX a8 c p factor).bind fun a =>
 cond (!a)
  (some (0,0,0,false))
  ((qBV a8 c p factor).bind fun b =>
  (qIM a8 p.ai).bind fun d =>
  qBX c p factor a8 d 0 b [])
theorem qNF (a8:Nat) (c:Code) (p:Performance) (factor:Int) (r:(Int×Int×Int×Bool)) (J:qEx a8 c p factor=some r):qAC prog 182 [.g (ze4 c),.g (ze9 p),factor] (.t [.v (.int .i64 r.1),.v (.int .i64 r.2.1),.v (.int .i64 r.2.2.1),.v (.bool r.2.2.2)]):=by
 refine fns T func182 ?_
 refine go ?_
 refine AO.x (bxs T 1) ?_
 refine AO.x (bxs T 2) (go ?_)
 obtain⟨S,m,J⟩:=zB J
 refine go ?_
 refine AO.w (cVs (qI1 a8 _ _ _ _ (m))) (go ?_)
 refine Cf J fun hc J=>?_
 refine go ?_
 obtain⟨A,n,J⟩:=zB J
 refine go ?_
 refine AO.w (cVs (qD6 a8 _ _ _ _ (n))) ?_
 refine AO.x (qF6 T rfl rfl rfl rfl) (go ?_)
 obtain⟨d,o,J⟩:=zB J
 refine go ?_
 refine AO.x (qAO rfl 3 rfl rfl rfl (qNc a8 _ _ (o)) rfl rfl rfl) (go ?_)
 refine AW.loopS (fun s:Nat×Int×(bE)=>(⟨[(2,factor),(3,.p 1 0),(4,.p 2 0),(10,s.2.1),(11,sv ze0 s.2.2),(27,.R 3),(28,(d.length:Int)),(29,(s.1:Int))],[(1,.box (ze4 c)),(2,.box (ze9 p)),(3,ro 1 ze3 d)],67,[]⟩:St)) (fun s=>s.1<=d.length/\qBX c p factor a8 (d.drop s.1) s.1 s.2.1 s.2.2=some r) (fun s=>d.length-s.1) (0,A,[]) ⟨Nat.zero_le _,J⟩ ?_ ?_
 refine Le.trans (Le.nilS 11 rfl) ?_
 exact Le.ct 0 0
 rintro⟨h,e,i⟩ ⟨U,J⟩
 try dsimp only at J⊢
 refine AW.boundR (id:=3) (l:=d) rfl (fun B=>?_)
 rcases a:d.drop h with _|⟨u,K⟩
 rw[a,qBX]at J
 have b:=qAG a
 refine go ?_
 refine Cf J fun hc J=>?_
 refine go ?_
 obtain⟨L,C,M,E,N,F,J⟩:=qAq J
 refine AW.drawn 11 6 [] mix (by kernel_rfl) rfl ?_
 refine go ?_
 exact fin
 rw[a,qBX]at J
 have b:=qAF a
 refine go ?_
 refine AO.w (zLr T rfl rfl rfl rfl (zgG (zgD a)) rfl rfl rfl) (go ?_)
 obtain⟨O,G,P,H,Q,I,J⟩:=qAq J
 obtain⟨z,j,f,k,J⟩:=qAE J
 refine AW.drawn 15 6 [] mix (by kernel_rfl) rfl ?_
 refine go ?_
 refine AD.q (FStep.call rfl rfl rfl rfl rfl (qLI _ _ _ _ _ (j)) rfl rfl) (qBD _ _) (qDi _ _) rfl ?_
 refine AD.nil (AO.w (zLV rfl rfl rfl (es:=[.g (ze4 c),.g (ze9 p),factor,sv ze2 z]) ⟨.free rfl,.free rfl,.free rfl,(.rowR rfl (.map fun y=>qGO y)),trivial⟩ (qOQ a8 _ _ _ _ _ (k)) (qAj _) rfl) ?_)
 refine gs8 ?_
 refine AW.le (Le.ct 0 0 (σ':=(⟨[(2,factor),(3,.p 1 0),(4,.p 2 0),(10,e),(11,sv ze0 i),(13,sv ze0 u),(14,f),(27,.R 3),(28,(d.length:Int)),(29,(h:Int)),(51,.v (.bool (decide (f>e))))],[(1,.box (ze4 c)),(2,.box (ze9 p)),(3,ro 1 ze3 d)],67,[]⟩:St))) ?_
 refine AW.cH J (fun _ J=>?_) (fun _ J=>?_)
 refine go ?_
 refine⟨(h+1,f,u),⟨b,(zds a▸J)⟩,qBm b,?_⟩
 exact Le.ct 0 0
 refine go ?_
 refine⟨(h+1,e,i),⟨b,(zds a▸J)⟩,qBm b,?_⟩
 exact Le.ct 0 0
def qAK (a8:Nat) (sA:ScriptState) (command:bD) (l:bE):Option (ScriptState×bD) :=
 cond (decide (command=(bz [99,104,101,99,107])))
  ((qE3 a8 sA.ag sA.aa.ai).bind fun m =>
  (qCo m.1).bind fun n =>
  some (sA,n))
  (cond (decide (command=(bz [98,97,115,101])))
   ((qGk sA.ag sA.aa.ai).bind fun o =>
   (qBM o).bind fun p =>
   (qBe p).bind fun e =>
   some (sA,e))
   (cond (decide (command=(bz [115,99,111,114,101])))
    ((qGE a8 sA.ag sA.aa sA.am).bind fun f =>
    (qA5 f).bind fun g =>
    some (sA,g))
    (cond (decide (command=(bz [98,111,117,110,100])))
     ((qEi a8 sA.ag sA.aa sA.am).bind fun h =>
     (qBe h.1).bind fun i =>
     some (sA,i))
     (cond (decide (command=(bz [114,97,110,103,101])))
      ((qAV l 0).bind fun j =>
      (qFu a8 sA.ag sA.aa sA.am j).bind fun b =>
      cond (!b.2.2)
       (some (sA,(bz [110,111])))
       ((qA5 [b.1,b.2.1]).bind fun k =>
       some (sA,k)))
      ((qEx a8 sA.ag sA.aa sA.am).bind fun a =>
      cond (!a.2.2.2)
       (some (sA,(bz [110,111,110,101])))
       ((qA5 [a.1,a.2.1]).bind fun c =>
       (qAl (Nat.ble (c.size+(bz [32]).size) qDF)).bind fun q =>
       (qAV [(bz [110,111,110,101]),(bz [100,111,119,110]),(bz [101,100,103,101]),(bz [118,111,105,100])] a.2.2.1).bind fun d =>
       (qAl (Nat.ble ((c++(bz [32])).size+d.size) qDF)).bind fun r =>
       some (sA,((c++(bz [32]))++d))))))))
theorem qLF (a8:Nat) (sA:ScriptState) (command:bD) (l:bE) (r:(ScriptState×bD)) (J:qAK a8 sA command l=some r):qGM prog 122 [.pw (qKE sA),.v (.string command),.s (List.map ze0 l)] [.pw (qKE r.1),.u,.u] (.v (.string r.2)):=by
 refine qJs T func122 rfl (by decide) rfl rfl ?_
 intro L
 show AW _ _ _ (⟨[(0,.p 1 0),(1,.v (.string command)),(2,sv ze0 l)],[(1,.box (qKE sA))],143,[(1,L 1)]⟩:St)
 refine go ?_
 refine AW.cH J (fun _ J=>?_) (fun _ J=>?_)
 refine AW.q ?_
 obtain⟨G,A,J⟩:=zB J
 refine AW.drawn 14 2 [] mix (by kernel_rfl) rfl ?_
 refine go ?_
 refine AD.q (FStep.call rfl rfl rfl rfl rfl (qM8 a8 _ _ _ (A)) rfl rfl) (qBD _ _) (qDi _ _) rfl ?_
 refine go ?_
 obtain⟨V,B,J⟩:=zB J
 refine go ?_
 refine AO.w (zLV rfl rfl rfl (es:=[sv ze0 G.1]) ⟨(.rowR rfl (.map fun y=>.vs rfl)),trivial⟩ (qJl _ _ (B)) (qAj _) rfl) (go ?_)
 exact qDO
 refine go ?_
 refine AW.cH J (fun _ J=>?_) (fun _ J=>?_)
 refine AW.q ?_
 obtain⟨H,C,W,c,K,d,J⟩:=qAq J
 refine AW.drawn 9 3 [] mix (by kernel_rfl) rfl ?_
 refine go ?_
 refine AO.x (qAO rfl 3 rfl rfl rfl (qNi _ _ _ (C)) rfl rfl rfl) ?_
 refine AO.w (zLV rfl rfl rfl (es:=[sv ze0 H]) ⟨(.rowR rfl (.map fun y=>.vs rfl)),trivial⟩ (qFV _ _ (c)) (qAj _) rfl) ?_
 refine AO.w (cVs (qHx _ _ (d))) (go ?_)
 exact qDO
 refine go ?_
 refine AW.cH J (fun _ J=>?_) (fun _ J=>?_)
 refine AW.q ?_
 obtain⟨E,e,M,g,J⟩:=qAE J
 refine AW.drawn 12 4 [] mix (by kernel_rfl) rfl ?_
 refine go ?_
 refine AO.x (qAO rfl 4 rfl rfl rfl (qLo a8 _ _ _ _ (e)) rfl rfl rfl) ?_
 refine AO.w (zLV rfl rfl rfl (es:=[sv ze0 E]) ⟨(.rowR rfl (.map fun y=>.vs rfl)),trivial⟩ (qFz _ _ (g)) (qAj _) rfl) (go ?_)
 exact qDO
 refine go ?_
 refine AW.cH J (fun _ J=>?_) (fun _ J=>?_)
 refine AW.q ?_
 obtain⟨F,h,J⟩:=zB J
 refine AW.drawn 17 5 [] mix (by kernel_rfl) rfl ?_
 refine go ?_
 refine AD.vv (cVs (qMY a8 _ _ _ _ (h))) ?_
 refine gs7 ?_
 refine AW.le (Le.ct 0 0 (σ':=(⟨[(9,F.1)],[(1,.box (qKE sA))],143,[(1,L 1)]⟩:St)) (hpin:=⟨⟨rfl,rfl⟩,trivial⟩)) ?_
 refine AW.q ?_
 obtain⟨N,i,J⟩:=zB J
 refine go ?_
 refine AO.w (cVs (qHx _ _ (i))) (go ?_)
 exact qDO
 refine go ?_
 refine AW.cH J (fun _ J=>?_) (fun _ J=>?_)
 refine AW.q ?_
 obtain⟨O,I,b,j,J⟩:=qAE J
 refine AW.drawn 22 5 [] mix (by kernel_rfl) rfl ?_
 refine go ?_
 refine AD.vv (cVs (qMR a8 _ _ _ _ _ (j))) ?_
 refine gs9 ?_
 refine AW.le (Le.ct 0 0 (σ':=(⟨[(11,b.1),(12,b.2.1),(13,.v (.bool b.2.2))],[(1,.box (qKE sA))],143,[(1,L 1)]⟩:St)) (hpin:=⟨⟨rfl,rfl⟩,trivial⟩)) ?_
 refine go ?_
 refine AW.cH J (fun _ J=>?_) (fun hc J=>?_)
 refine go ?_
 exact qDO
 refine go ?_
 obtain⟨P,k,J⟩:=zB J
 refine go ?_
 refine AO.x (mks T 5 ze0 ([b.1,b.2.1])) ?_
 refine AO.w (zLV rfl rfl rfl (es:=[sv ze0 [b.1,b.2.1]]) ⟨(.rowR rfl (.map fun y=>.vs rfl)),trivial⟩ (qFz _ _ (k)) (qAj _) rfl) (go ?_)
 exact qDO
 refine go ?_
 obtain⟨a,m,J⟩:=zB J
 refine AW.drawn 21 6 [] mix (by kernel_rfl) rfl ?_
 refine go ?_
 refine AD.vv (cVs (qNF a8 _ _ _ _ (m))) ?_
 iterate 11 refine gs ?_
 refine AW.le (Le.ct 0 0 (σ':=(⟨[(14,a.1),(15,a.2.1),(16,a.2.2.1),(17,.v (.bool a.2.2.2))],[(1,.box (qKE sA))],143,[(1,L 1)]⟩:St)) (hpin:=⟨⟨rfl,rfl⟩,trivial⟩)) ?_
 refine go ?_
 refine AW.cH J (fun _ J=>?_) (fun _ J=>?_)
 refine go ?_
 exact qDO
 refine go ?_
 obtain⟨Q,n,R,o,S,t,J⟩:=qAq J
 obtain⟨U,z,J⟩:=zB J
 refine AW.drawn 8 6 [] mix (by kernel_rfl) rfl ?_
 refine go ?_
 refine AD.q (FStep.mk T (f:=ze0) (l:=[a.1,a.2.1]) rfl rfl rfl rfl rfl rfl rfl rfl rfl (fun _=>rfl) rfl rfl rfl rfl) (by simp[qA1]) (Nat.le_succ _) rfl ?_
 refine AD.vald rfl rfl rfl (zLV rfl rfl rfl (es:=[sv ze0 [a.1,a.2.1]]) ⟨(.rowR rfl (.map fun y=>.vs rfl)),trivial⟩ (qFz _ _ (n)) (qAj _) rfl) ?_
 refine AD.vv (qAP rfl rfl rfl (Nat.le_of_ble_eq_true (qAJ (o)))) ?_
 refine AD.pu T ?_
 refine AD.vv (qXn T (l:=[(bz [110,111,110,101]),(bz [100,111,119,110]),(bz [101,100,103,101]),(bz [118,111,105,100])]) (f:=ze1) rfl rfl rfl rfl rfl rfl rfl (fun _=>rfl) (t)) ?_
 refine go ?_
 refine AO.w (qAP rfl rfl rfl (Nat.le_of_ble_eq_true (qAJ (z)))) (go ?_)
 exact qDO
def qAA (sA:ScriptState) (a8:Nat) (t:(List bD)) (b:bD) (u:(bD×Bool)):List bD->Nat->bE->Option ((ScriptState×bD))
 | [],c,a =>
  cond (decide (b=(bz [101,108,101,109,101,110,116])))
   ((qAV t 1).bind fun v =>
   (qAV a 1).bind fun w =>
   (qAV a 2).bind fun x =>
   (qAV a 3).bind fun y =>
   (qFY a8 sA.ag (Element.mk v w x y)).bind fun e =>
   (qAc sA e.1 e.2).bind fun f =>
   some (f.1,f.2))
   (cond (decide (b=(bz [108,105,109,105,116])))
    ((qAb a8 sA b a).bind fun g =>
    some (g.1,g.2))
    (cond (decide (b=(bz [114,117,108,101,115])))
     ((qAb a8 sA b a).bind fun h =>
     some (h.1,h.2))
     (cond (decide (b=(bz [106,117,100,103,101,115])))
      ((qAN a8 sA b a).bind fun i =>
      some (i.1,i.2))
      (cond (decide (b=(bz [103,114,97,100,101])))
       ((qAN a8 sA b a).bind fun j =>
       some (j.1,j.2))
       (cond (decide (b=(bz [99,111,109,112,111,110,101,110,116])))
        ((qAN a8 sA b a).bind fun k =>
        some (k.1,k.2))
        (cond (decide (b=(bz [99,97,108,108])))
         ((qAH a8 sA b a).bind fun l =>
         some (l.1,l.2))
         (cond (decide (b=(bz [115,108,105,112,115])))
          ((qAH a8 sA b a).bind fun m =>
          some (m.1,m.2))
          (cond (decide (b=(bz [102,97,99,116,111,114])))
           ((qAH a8 sA b a).bind fun n =>
           some (n.1,n.2))
           (cond (decide (b=(bz [108,97,116,101])))
            ((qAH a8 sA b a).bind fun o =>
            some (o.1,o.2))
            (cond (decide (b=(bz [115,107,97,116,101,114])))
             ((qAn a8 sA b a).bind fun p =>
             some (p.1,p.2))
             (cond (decide (b=(bz [112,108,97,99,101,115])))
              ((qAn a8 sA b a).bind fun q =>
              some (q.1,q.2))
              ((qAK a8 sA b a).bind fun r =>
              some (r.1,r.2)))))))))))))
 |z::s,c,a =>
  (qNC u.1 (c:Int)).bind fun A =>
  (qCt a8 (A.toNat:Int) z).bind fun d =>
  cond (!d.2)
   (some (sA,(bz [119,104,97,116])))
   ((qAl (qAg 8 (a.length+([d.1]).length))).bind fun B =>
   qAA sA a8 t b u s (c+1) (a++[d.1]))
def qAT (a8:Nat) (sA:ScriptState) (line:bD):Option (ScriptState×bD) :=
 (qBo line (bz [105,116,101,109,32])).bind fun c =>
 cond c.2
  ((qAv a8 sA c.1).bind fun d =>
  some (d.1,d.2))
  ((qCA line (bz [32])).bind fun a =>
  (qAV a 0).bind fun e =>
  (qF3 e).bind fun b =>
  cond ((!b.2)||((b.1.size:Int) != (w64 ((a.length:Int)-1))))
   (some (sA,(bz [119,104,97,116])))
   ((qCq a 1).bind fun f =>
   qAA sA a8 a e b f 0 []))
theorem qK7 (a8:Nat) (sA:ScriptState) (line:bD) (r:(ScriptState×bD)) (J:qAT a8 sA line=some r):qGM prog 76 [.pw (qKE sA),.v (.string line)] [.pw (qKE r.1),.u] (.v (.string r.2)):=by
 refine qJs T func76 rfl (by decide) rfl rfl ?_
 intro L
 show AW _ _ _ (⟨[(0,.p 1 0),(1,.v (.string line))],[(1,.box (qKE sA))],129,[(1,L 1)]⟩:St)
 refine gs6 ?_
 obtain⟨x1,aj,J⟩:=zB J
 refine gs2 ?_
 refine AO.w (cVs (qI2 _ _ _ (aj))) ?_
 iterate 10 refine gs ?_
 refine AW.cH J (fun _ J=>?_) (fun hc J=>?_)
 refine AW.q ?_
 obtain⟨x3,ak,J⟩:=zB J
 refine gs3 ?_
 refine AO.x (cMs 2 [1] (S:=qJm a8 _ _ _ (ak)) (hp:=by exact zG (.c (.box rfl rfl)) (zG (.c .v) (zGn)))) ?_
 refine gs3 ?_
 exact qDO
 refine gs2 ?_
 obtain⟨C,al,J⟩:=zB J
 refine gs2 ?_
 refine AO.x (qAO rfl 2 rfl rfl rfl (qIo _ _ _ (al)) rfl rfl rfl) ?_
 refine gs3 ?_
 obtain⟨e,am,J⟩:=zB J
 refine gs3 ?_
 refine AO.w (zLr T rfl rfl rfl rfl (zgG (am)) rfl rfl rfl) ?_
 refine AO.x (qF6 T rfl rfl rfl rfl) ?_
 refine gs4 ?_
 obtain⟨j,E,J⟩:=zB J
 refine gs2 ?_
 refine AO.w (cVs (qQR _ _ (E))) ?_
 refine gs6 ?_
 refine AW.le (Le.ct 0 0 (σ':=(⟨[(0,.p 1 0),(7,.R 2),(8,.v (.string e)),(9,.w 1 []),(10,.v (.string j.1)),(11,.v (.bool j.2))],[(1,.box (qKE sA)),(2,ro 1 ze1 C)],129,[(1,L 1)]⟩:St)) (hpin:=⟨⟨rfl,rfl⟩,trivial⟩)) ?_
 refine gs6 ?_
 refine AO.g0 T ?_
 refine AO.g1 T 39 ?_
 refine AO.g0 T ?_
 refine AO.d1 41 (fun hg=>qJP T rfl rfl rfl rfl) ?_
 refine AO.d1 42 (fun hg=>aws) ?_
 refine AO.g2 T 40 43 ?_
 refine gs2 ?_
 refine AW.cH J (fun _ J=>?_) (fun hc J=>?_)
 refine gs5 ?_
 exact qDO
 refine gs3 ?_
 obtain⟨a,F,J⟩:=zB J
 refine AW.le (Le.fM 2 (g:=ze1) rfl (fun y=>.vs rfl)) ?_
 refine gs2 ?_
 refine AO.w (qCg T rfl rfl rfl rfl rfl (F) (fun _=>rfl)) ?_
 refine gs4 ?_
 refine AW.loopS (fun s:Nat×(bE)=>(⟨[(0,.p 1 0),(7,sv ze1 C),(8,.v (.string e)),(9,.R 6),(10,.v (.string j.1)),(47,sv ze1 a),(48,(a.length:Int)),(49,(s.1:Int))],[(1,.box (qKE sA)),(6,ro 1 ze0 s.2)],129,[(1,L 1)]⟩:St)) (fun s=>s.1<=a.length/\qAA sA a8 C e j (a.drop s.1) s.1 s.2=some r) (fun s=>a.length-s.1) (0,[]) ⟨Nat.zero_le _,J⟩ ?_ ?_
 refine Le.trans (Le.void 9 6 1 rfl rfl) ?_
 exact Le.ct 0 0 (hpin:=⟨⟨rfl,rfl⟩,trivial⟩)
 rintro⟨m,n⟩ ⟨hk,J⟩
 try dsimp only at J⊢
 refine AW.boundM (t:=47) (l:=a) rfl (fun an=>?_)
 rcases b:a.drop m with _|⟨aq,ao⟩
 rw[b,qAA]at J
 have d:=qAG b
 iterate 18 refine gs ?_
 refine AW.cH J (fun _ J=>?_) (fun _ J=>?_)
 refine AW.q ?_
 obtain⟨ar,ap,au,f,av,h,J⟩:=qAq J
 obtain⟨aw,i,ax,G,o,H,J⟩:=qAq J
 refine AW.drawn 21 7 [] mix (by kernel_rfl) rfl ?_
 refine gs9 ?_
 refine AD.vv (ixr T (f)) ?_
 refine AD.vv (zLr T rfl rfl rfl rfl (zgG (f)) rfl rfl rfl) ?_
 refine AD.pu T ?_
 refine AD.vv (ixr T (h)) ?_
 refine AD.vv (zLr T rfl rfl rfl rfl (zgG (h)) rfl rfl rfl) ?_
 refine AD.pu T ?_
 refine AD.vv (ixr T (i)) ?_
 refine AD.vv (zLr T rfl rfl rfl rfl (zgG (i)) rfl rfl rfl) ?_
 refine gs ?_
 refine AD.q (FStep.call rfl rfl rfl rfl rfl (qNg a8 _ _ _ (G)) rfl rfl) (qBD _ _) (qDi _ _) rfl ?_
 refine gs3 ?_
 refine AO.le (Le.fM 7 (g:=ze5) rfl (fun y=>.vs rfl)) ?_
 refine AO.le (Le.fM 8 (g:=ze0) rfl (fun y=>.vs rfl)) ?_
 refine AO.x (cMs 9 [1] (S:=qEW _ _ _ _ (H)) (hp:=by exact zG (.c (.box rfl rfl)) (zG (.g (zC .s (zC .s (zC .v (zC .v (zC .v (zC .v (zCn)))))))) (zG (.c .v) (zGn))))) ?_
 refine gs2 ?_
 refine AW.le (Le.ct 0 0 (σ':=(⟨[(4,.v (.string o.2))],[(1,.box (qKE o.1))],129,[(1,L 1)]⟩:St)) (hpin:=⟨⟨rfl,rfl⟩,trivial⟩)) ?_
 refine AW.t ?_
 exact qDO
 refine gs6 ?_
 refine AW.cH J (fun I J=>?_) (fun _ J=>?_)
 refine AW.k (AW.condT' rfl I ?_)
 refine AW.q ?_
 obtain⟨ay,K,J⟩:=zB J
 refine AW.le (Le.fM 6 (g:=ze0) rfl (fun y=>.vs rfl)) ?_
 refine gs4 ?_
 refine AO.x (cMs 9 [1] (S:=qHY a8 _ _ _ _ (K)) (hp:=by exact zG (.c (.box rfl rfl)) (zG (.c .v) (zG (.c .s) (zGn))))) ?_
 refine gs3 ?_
 exact qDO
 refine gs4 ?_
 refine AW.cH J (fun _ J=>?_) (fun _ J=>?_)
 refine AW.q ?_
 obtain⟨az,M,J⟩:=zB J
 refine AW.le (Le.fM 6 (g:=ze0) rfl (fun y=>.vs rfl)) ?_
 refine gs4 ?_
 refine AO.x (cMs 9 [1] (S:=qHY a8 _ _ _ _ (M)) (hp:=by exact zG (.c (.box rfl rfl)) (zG (.c .v) (zG (.c .s) (zGn))))) ?_
 refine gs3 ?_
 exact qDO
 refine gs6 ?_
 refine AW.cH J (fun N J=>?_) (fun _ J=>?_)
 refine AW.k (AW.condT' rfl N ?_)
 refine AW.q ?_
 obtain⟨aA,O,J⟩:=zB J
 refine AW.le (Le.fM 6 (g:=ze0) rfl (fun y=>.vs rfl)) ?_
 refine gs4 ?_
 refine AO.x (cMs 9 [1] (S:=qFI a8 _ _ _ _ (O)) (hp:=by exact zG (.c (.box rfl rfl)) (zG (.c .v) (zG (.c .s) (zGn))))) ?_
 refine gs3 ?_
 exact qDO
 refine gs5 ?_
 refine AW.cH J (fun P J=>?_) (fun _ J=>?_)
 refine AW.k (AW.condT' rfl P ?_)
 refine AW.q ?_
 obtain⟨aB,Q,J⟩:=zB J
 refine AW.le (Le.fM 6 (g:=ze0) rfl (fun y=>.vs rfl)) ?_
 refine gs4 ?_
 refine AO.x (cMs 9 [1] (S:=qFI a8 _ _ _ _ (Q)) (hp:=by exact zG (.c (.box rfl rfl)) (zG (.c .v) (zG (.c .s) (zGn))))) ?_
 refine gs3 ?_
 exact qDO
 refine gs4 ?_
 refine AW.cH J (fun _ J=>?_) (fun _ J=>?_)
 refine AW.q ?_
 obtain⟨aC,U,J⟩:=zB J
 refine AW.le (Le.fM 6 (g:=ze0) rfl (fun y=>.vs rfl)) ?_
 refine gs4 ?_
 refine AO.x (cMs 9 [1] (S:=qFI a8 _ _ _ _ (U)) (hp:=by exact zG (.c (.box rfl rfl)) (zG (.c .v) (zG (.c .s) (zGn))))) ?_
 refine gs3 ?_
 exact qDO
 refine gs6 ?_
 refine AW.cH J (fun V J=>?_) (fun _ J=>?_)
 refine AW.k (AW.condT' rfl V ?_)
 refine AW.q ?_
 obtain⟨aD,W,J⟩:=zB J
 refine AW.le (Le.fM 6 (g:=ze0) rfl (fun y=>.vs rfl)) ?_
 refine gs4 ?_
 refine AO.x (cMs 9 [1] (S:=qDD a8 _ _ _ _ (W)) (hp:=by exact zG (.c (.box rfl rfl)) (zG (.c .v) (zG (.c .s) (zGn))))) ?_
 refine gs3 ?_
 exact qDO
 refine gs5 ?_
 refine AW.cH J (fun X J=>?_) (fun _ J=>?_)
 refine AW.k (AW.condT' rfl X ?_)
 refine AW.q ?_
 obtain⟨aE,Y,J⟩:=zB J
 refine AW.le (Le.fM 6 (g:=ze0) rfl (fun y=>.vs rfl)) ?_
 refine gs4 ?_
 refine AO.x (cMs 9 [1] (S:=qDD a8 _ _ _ _ (Y)) (hp:=by exact zG (.c (.box rfl rfl)) (zG (.c .v) (zG (.c .s) (zGn))))) ?_
 refine gs3 ?_
 exact qDO
 refine gs5 ?_
 refine AW.cH J (fun Z J=>?_) (fun _ J=>?_)
 refine AW.k (AW.condT' rfl Z ?_)
 refine AW.q ?_
 obtain⟨z,aa,J⟩:=zB J
 refine AW.le (Le.fM 6 (g:=ze0) rfl (fun y=>.vs rfl)) ?_
 refine gs4 ?_
 refine AO.x (cMs 9 [1] (S:=qDD a8 _ _ _ _ (aa)) (hp:=by exact zG (.c (.box rfl rfl)) (zG (.c .v) (zG (.c .s) (zGn))))) ?_
 refine gs2 ?_
 refine AW.le (Le.ct 0 0 (σ':=(⟨[(4,.v (.string z.2))],[(1,.box (qKE z.1))],129,[(1,L 1)]⟩:St)) (hpin:=⟨⟨rfl,rfl⟩,trivial⟩)) ?_
 refine AW.t ?_
 exact qDO
 refine gs4 ?_
 refine AW.cH J (fun _ J=>?_) (fun _ J=>?_)
 refine AW.q ?_
 obtain⟨A,ab,J⟩:=zB J
 refine AW.le (Le.fM 6 (g:=ze0) rfl (fun y=>.vs rfl)) ?_
 refine gs4 ?_
 refine AO.x (cMs 9 [1] (S:=qDD a8 _ _ _ _ (ab)) (hp:=by exact zG (.c (.box rfl rfl)) (zG (.c .v) (zG (.c .s) (zGn))))) ?_
 refine gs2 ?_
 refine AW.le (Le.ct 0 0 (σ':=(⟨[(4,.v (.string A.2))],[(1,.box (qKE A.1))],129,[(1,L 1)]⟩:St)) (hpin:=⟨⟨rfl,rfl⟩,trivial⟩)) ?_
 refine AW.t ?_
 exact qDO
 refine gs6 ?_
 refine AW.le (Le.ct 0 0 (σ':=(⟨[(0,.p 1 0),(8,.v (.string e)),(9,.R 6),(69,.v (.string e)),(118,.v (.bool (decide (e=(bz [115,107,97,116,101,114])))))],[(1,.box (qKE sA)),(6,ro 1 ze0 n)],129,[(1,L 1)]⟩:St)) (hpin:=⟨⟨rfl,rfl⟩,trivial⟩)) ?_
 refine AW.cH J (fun ac J=>?_) (fun _ J=>?_)
 refine AW.k (AW.condT' rfl ac ?_)
 refine AW.q ?_
 obtain⟨aF,ad,J⟩:=zB J
 refine AW.le (Le.fM 6 (g:=ze0) rfl (fun y=>.vs rfl)) ?_
 refine gs4 ?_
 refine AO.x (cMs 9 [1] (S:=qHb a8 _ _ _ _ (ad)) (hp:=by exact zG (.c (.box rfl rfl)) (zG (.c .v) (zG (.c .s) (zGn))))) ?_
 refine gs3 ?_
 exact qDO
 refine gs4 ?_
 refine AW.cH J (fun _ J=>?_) (fun _ J=>?_)
 refine AW.q ?_
 obtain⟨aG,ae,J⟩:=zB J
 refine AW.le (Le.fM 6 (g:=ze0) rfl (fun y=>.vs rfl)) ?_
 refine gs4 ?_
 refine AO.x (cMs 9 [1] (S:=qHb a8 _ _ _ _ (ae)) (hp:=by exact zG (.c (.box rfl rfl)) (zG (.c .v) (zG (.c .s) (zGn))))) ?_
 refine gs3 ?_
 exact qDO
 refine gs2 ?_
 obtain⟨aH,af,J⟩:=zB J
 refine AW.le (Le.fM 6 (g:=ze0) rfl (fun y=>.vs rfl)) ?_
 refine gs4 ?_
 refine AO.x (cMs 9 [1] (S:=qLF a8 _ _ _ _ (af)) (hp:=by exact zG (.c (.box rfl rfl)) (zG (.c .v) (zG (.c .s) (zGn))))) ?_
 refine gs3 ?_
 exact qDO
 rw[b,qAA]at J
 have d:=qAF b
 iterate 18 refine gs ?_
 obtain⟨aI,ag,B,ah,J⟩:=qAE J
 refine gs3 ?_
 refine AO.w (qBO T rfl rfl rfl rfl (ag)) ?_
 refine AO.pu T ?_
 refine AO.w (cVs (qO8 a8 _ _ _ (ah))) ?_
 iterate 12 refine gs ?_
 refine AW.cH J (fun _ J=>?_) (fun _ J=>?_)
 refine gs5 ?_
 exact qDO
 refine AW.k ?_
 obtain⟨aJ,ai,J⟩:=zB J
 refine gs3 ?_
 refine AO.x (mks T 9 ze0 ([B.1])) ?_
 refine AO.x (rvs T 10 (hfit:=by exact qAJ (ai))) ?_
 refine gs6 ?_
 refine⟨(m+1,(n++[B.1])),⟨d,(zds b▸J)⟩,qBm d,?_⟩
 exact Le.ct 10 6 (hpin:=⟨⟨rfl,rfl⟩,trivial⟩)
def qAy (a8:Nat):List bD->Nat->List Element->bE->Int->Int->Int->Int->List Item->List bE->List bE->Int->Int->Int->Int->List Result->List bD->Option (((Option ScriptState)×(List bD)×Bool))
 | [],q,c,d,e,f,g,h,i,j,k,l,m,n,o,p,b =>
  some ((some (ScriptState.mk (Code.mk c d e f g h) (Performance.mk i (Marks.mk j k) (Slips.mk l m n)) o p)),b,true)
 |s::r,q,c,d,e,f,g,h,i,j,k,l,m,n,o,p,b =>
  (qAT a8 (ScriptState.mk (Code.mk c d e f g h) (Performance.mk i (Marks.mk j k) (Slips.mk l m n)) o p) s).bind fun a =>
  (qAl (qAg 16 (b.length+([a.2]).length))).bind fun t =>
  qAy a8 r (q+1) a.1.ag.ad a.1.ag.ar a.1.ag.aq a.1.ag.av a.1.ag.au a.1.ag.ay a.1.aa.ai a.1.aa.ae.ah a.1.aa.ae.ac a.1.aa.af.falls a.1.aa.af.an a.1.aa.af.aw a.1.am a.1.ak (b++[a.2])
def qAt (a8:Nat) (script:bD):Option ((Option ScriptState)×(List bD)×Bool) :=
 (qAL script).bind fun b =>
 cond (!b.2)
  (some (none,[],false))
  ((qH9 a8 ).bind fun a =>
  qAy a8 b.1 0 a.ag.ad a.ag.ar a.ag.aq a.ag.av a.ag.au a.ag.ay a.aa.ai a.aa.ae.ah a.aa.ae.ac a.aa.af.falls a.aa.af.an a.aa.af.aw a.am a.ak [])
theorem qBC (a8:Nat) (script:bD) (r:((Option ScriptState)×(List bD)×Bool)) (J:qAt a8 script=some r):qAC prog 46 [.v (.string script)] (.t [pnO qKE r.1,.w 1 (r.2.1.map ze1),.v (.bool r.2.2)]):=by
 refine fns T func46 ?_
 refine gs7 ?_
 obtain⟨f,j,J⟩:=zB J
 refine gs2 ?_
 refine AO.x (qAO rfl 1 rfl rfl rfl (qF4 _ _ (j)) rfl rfl rfl) ?_
 iterate 12 refine gs ?_
 refine Cf J fun _ J=>?_
 refine gs2 ?_
 obtain⟨b,k,J⟩:=zB J
 refine AW.r (AO.x (qAO rfl 2 rfl rfl rfl (qOw a8 _ (k)) rfl rfl rfl) ?_)
 refine AO.x (qF6 T rfl rfl rfl rfl) ?_
 iterate 11 refine gs ?_
 refine AW.loopS (fun s:Nat×(List Element)×bE×Int×Int×Int×Int×(List Item)×(List bE)×(List bE)×Int×Int×Int×Int×(List Result)×(List bD)=>(⟨[(7,.p 2 0),(8,.R 6),(20,.R 1),(21,(f.1.length:Int)),(22,(s.1:Int))],[(1,ro 1 ze1 f.1),(2,.box [sv ze5 s.2.1,sv ze0 s.2.2.1,s.2.2.2.1,s.2.2.2.2.1,s.2.2.2.2.2.1,s.2.2.2.2.2.2.1,sv ze2 s.2.2.2.2.2.2.2.1,sv ze3 s.2.2.2.2.2.2.2.2.1,sv ze3 s.2.2.2.2.2.2.2.2.2.1,s.2.2.2.2.2.2.2.2.2.2.1,s.2.2.2.2.2.2.2.2.2.2.2.1,s.2.2.2.2.2.2.2.2.2.2.2.2.1,s.2.2.2.2.2.2.2.2.2.2.2.2.2.1,sv ze6 s.2.2.2.2.2.2.2.2.2.2.2.2.2.2.1]),(6,ro 1 ze1 s.2.2.2.2.2.2.2.2.2.2.2.2.2.2.2)],35,[]⟩:St)) (fun s=>s.1<=f.1.length/\qAy a8 (f.1.drop s.1) s.1 s.2.1 s.2.2.1 s.2.2.2.1 s.2.2.2.2.1 s.2.2.2.2.2.1 s.2.2.2.2.2.2.1 s.2.2.2.2.2.2.2.1 s.2.2.2.2.2.2.2.2.1 s.2.2.2.2.2.2.2.2.2.1 s.2.2.2.2.2.2.2.2.2.2.1 s.2.2.2.2.2.2.2.2.2.2.2.1 s.2.2.2.2.2.2.2.2.2.2.2.2.1 s.2.2.2.2.2.2.2.2.2.2.2.2.2.1 s.2.2.2.2.2.2.2.2.2.2.2.2.2.2.1 s.2.2.2.2.2.2.2.2.2.2.2.2.2.2.2=some r) (fun s=>f.1.length-s.1) (0,b.ag.ad,b.ag.ar,b.ag.aq,b.ag.av,b.ag.au,b.ag.ay,b.aa.ai,b.aa.ae.ah,b.aa.ae.ac,b.aa.af.falls,b.aa.af.an,b.aa.af.aw,b.am,b.ak,[]) ⟨Nat.zero_le _,J⟩ ?_ ?_
 refine Le.trans (Le.void 8 6 1 rfl rfl) ?_
 exact Le.ct 0 0
 rintro⟨m,o,q,u,y,z,A,B,C,E,F,G,H,I,K,n⟩ ⟨O,J⟩
 try dsimp only at J⊢
 refine AW.boundR (id:=1) (l:=f.1) rfl (fun L=>?_)
 rcases d:f.1.drop m with _|⟨P,M⟩
 rw[d,qAy]at J
 have e:=qAG d
 iterate 16 refine gs ?_
 have hR:=zS J;subst hR
 exact retQ.i [2,6] rfl (.t (zG (.pb rfl (zC .s (zC .s (zC .v (zC .v (zC .v (zC .v (zC .s (zC .s (zC .s (zC .v (zC .v (zC .v (zC .v (zC .s (zCn)))))))))))))))) (zG (.c (.rowR rfl)) (zG (.c .v) (zGn)))))
 rw[d,qAy]at J
 have e:=qAF d
 iterate 12 refine gs ?_
 refine AO.w (zLr T rfl rfl rfl rfl (zgG (zgD d)) rfl rfl rfl) ?_
 refine gs2 ?_
 obtain⟨a,g,N,h,J⟩:=qAE J
 refine gs4 ?_
 refine AO.x (cMs 7 [2] (S:=qK7 a8 _ _ _ (g)) (hp:=by exact zG (.c (.box rfl rfl)) (zG (.c .v) (zGn)))) ?_
 refine AO.x (mks T 7 ze1 ([a.2])) ?_
 refine AO.x (rvs T 8 (hfit:=by exact qAJ (h))) ?_
 refine gs6 ?_
 refine⟨(m+1,a.1.ag.ad,a.1.ag.ar,a.1.ag.aq,a.1.ag.av,a.1.ag.au,a.1.ag.ay,a.1.aa.ai,a.1.aa.ae.ah,a.1.aa.ae.ac,a.1.aa.af.falls,a.1.aa.af.an,a.1.aa.af.aw,a.1.am,a.1.ak,(n++[a.2])),⟨e,(zds d▸J)⟩,qBm e,?_⟩
 exact Le.ct 8 6
def qGB:List bD->Nat->bD->Option bD
 | [],c,a =>
  some a
 |b::d,c,a =>
  (qAl (Nat.ble (b.size+(bz [10]).size) qDF)).bind fun e =>
  (qAl (Nat.ble (a.size+(b++(bz [10])).size) 140737488355328)).bind fun f =>
  qGB d (c+1) (a++(b++(bz [10])))
def qC4:List bD->Nat->bD->Option bD
 | [],c,a =>
  some a
 |b::d,c,a =>
  (qAl (Nat.ble (b.size+(bz [10]).size) qDF)).bind fun e =>
  (qAl (Nat.ble (a.size+(b++(bz [10])).size) 140737488355328)).bind fun f =>
  qC4 d (c+1) (a++(b++(bz [10])))
def qDr (a8:Nat) (script:bD):Option bD :=
 (qAt a8 script).bind fun a =>
 (match a.1 with
  |none =>
   qGB a.2.1 0 (⟨#[]⟩:bD)
  |some b =>
   qC4 a.2.1 0 (⟨#[]⟩:bD))
theorem qIw (a8:Nat) (script:bD) (r:bD) (J:qDr a8 script=some r):qAC prog 11 [.v (.string script)] (.v (.string r)):=by
 refine fns T func11 ?_
 refine go ?_
 obtain⟨b,i,J⟩:=zB J
 rcases d:b.1 with _|t
 rw[d]at J
 try dsimp only at J
 refine go ?_
 refine AO.x (qAO rfl 1 rfl rfl rfl ((by have q:=qBC a8 _ _ (i);rw[d]at q;exact q)) rfl rfl rfl) (go ?_)
 refine AO.x (qJ0 T false (U:=5) rfl 2 rfl rfl rfl rfl rfl) (go ?_)
 refine AW.loopS (fun s:Nat×bD=>(⟨[(6,.p 2 0),(15,.R 1),(16,(b.2.1.length:Int)),(17,(s.1:Int))],[(1,ro 1 ze1 b.2.1),(2,.bld false 75 5 s.2)],26,[]⟩:St)) (fun s=>s.1<=b.2.1.length/\qGB (b.2.1.drop s.1) s.1 s.2=some r) (fun s=>b.2.1.length-s.1) (0,(⟨#[]⟩:bD)) ⟨Nat.zero_le _,J⟩ ?_ ?_
 exact Le.ct 0 0
 rintro⟨g,h⟩ ⟨u,J⟩
 try dsimp only at J⊢
 refine AW.boundR (id:=1) (l:=b.2.1) rfl (fun k=>?_)
 rcases a:b.2.1.drop g with _|⟨j,m⟩
 rw[a,qGB]at J
 have c:=qAG a
 refine go ?_
 refine AO.x (qRM rfl rfl rfl rfl qDZ rfl) (go ?_)
 exact fin
 rw[a,qGB]at J
 have c:=qAF a
 refine go ?_
 refine AO.w (zLr T rfl rfl rfl rfl (zgG (zgD a)) rfl rfl rfl) (go ?_)
 obtain⟨n,e,o,f,J⟩:=qAE J
 refine go ?_
 refine AO.w (qAP rfl rfl rfl (Nat.le_of_ble_eq_true (qAJ (e)))) ?_
 refine AO.x (qLt rfl rfl rfl rfl (qAJ (f)) qAe rfl) (go ?_)
 refine⟨(g+1,(h++(j++(bz [10])))),⟨c,(zds a▸J)⟩,qBm c,?_⟩
 exact Le.ct 0 0
 rw[d]at J
 try dsimp only at J
 refine go ?_
 refine AO.x (qAO rfl 1 rfl rfl rfl ((by have q:=qBC a8 _ _ (i);rw[d]at q;exact q)) rfl rfl rfl) (go ?_)
 refine AO.x (qJ0 T false (U:=5) rfl 3 rfl rfl rfl rfl rfl) (go ?_)
 refine AW.loopS (fun s:Nat×bD=>(⟨[(6,.p 3 0),(15,.R 2),(16,(b.2.1.length:Int)),(17,(s.1:Int))],[(2,ro 1 ze1 b.2.1),(3,.bld false 75 5 s.2)],26,[]⟩:St)) (fun s=>s.1<=b.2.1.length/\qC4 (b.2.1.drop s.1) s.1 s.2=some r) (fun s=>b.2.1.length-s.1) (0,(⟨#[]⟩:bD)) ⟨Nat.zero_le _,J⟩ ?_ ?_
 exact Le.ct 0 0
 rintro⟨g,h⟩ ⟨u,J⟩
 try dsimp only at J⊢
 refine AW.boundR (id:=2) (l:=b.2.1) rfl (fun k=>?_)
 rcases a:b.2.1.drop g with _|⟨j,m⟩
 rw[a,qC4]at J
 have c:=qAG a
 refine go ?_
 refine AO.x (qRM rfl rfl rfl rfl qDZ rfl) (go ?_)
 exact fin
 rw[a,qC4]at J
 have c:=qAF a
 refine go ?_
 refine AO.w (zLr T rfl rfl rfl rfl (zgG (zgD a)) rfl rfl rfl) (go ?_)
 obtain⟨n,e,o,f,J⟩:=qAE J
 refine go ?_
 refine AO.w (qAP rfl rfl rfl (Nat.le_of_ble_eq_true (qAJ (e)))) ?_
 refine AO.x (qLt rfl rfl rfl rfl (qAJ (f)) qAe rfl) (go ?_)
 refine⟨(g+1,(h++(j++(bz [10])))),⟨c,(zds a▸J)⟩,qBm c,?_⟩
 exact Le.ct 0 0
def qEV (judges:Int):Nat->Int->List bE->Option (List bE)
 |0,_,_=>none
 |c+1,b,a =>
  cond (decide (b>0))
   ((qAl (decide (0<=judges)&&qAg 8 judges.toNat)).bind fun d =>
   (qAl (qAg 24 (a.length+([(List.replicate judges.toNat (0:Int))]).length))).bind fun e =>
   qEV judges c (w64 (b-1)) (a++[(List.replicate judges.toNat (0:Int))]))
   (some a)
def qEX (judges:Int) (b:List bE):Nat->List bE->Int->Option Marks
 |0,_,_=>none
 |d+1,a,c =>
  cond (decide (c<3))
   ((qAl (decide (0<=judges)&&qAg 8 judges.toNat)).bind fun e =>
   (qAl (qAg 24 (a.length+([(List.replicate judges.toNat (0:Int))]).length))).bind fun f =>
   qEX judges b d (a++[(List.replicate judges.toNat (0:Int))]) (w64 (c+1)))
   (some (Marks.mk b a))
def qDX (a8:Nat) (items:Int) (judges:Int):Option Marks :=
 (qEV judges a8 items []).bind fun a =>
 qEX judges a a8 [] 0
theorem qJc (a8:Nat) (items:Int) (judges:Int) (r:Marks) (J:qDX a8 items judges=some r):qAC prog 102 [items,judges] (.g (qJj r)):=by
 refine fns T func102 ?_
 refine go ?_
 refine AO.x (als T 1) (go ?_)
 refine AO.x (als T 2) ?_
 refine AO.se T [.w 0 [],.w 0 []] ?_
 refine AO.n ?_
 obtain⟨h,J,j⟩:=zB J
 refine AW.seqJ (fun s:List bE=>(⟨[(1,judges),(4,.p 1 0),(5,.p 2 0)],[(1,.box [.w 0 [],.w 0 []]),(2,.box [.R 8,.w 0 []]),(8,ro 1 ze7 s)],31,[]⟩:St)) (fun s=>s=h) ?_ ?_
 refine AW.b (AW.loopS (fun s:Nat×Int×(List bE)=>(⟨[(0,s.2.1),(1,judges),(4,.p 1 0),(5,.p 2 0)],[(1,.box [.w 0 [],.w 0 []]),(2,.box [.R 17,.w 0 []]),(17,ro 1 ze7 s.2.2)],31,[]⟩:St)) (fun s=>qEV judges s.1 s.2.1 s.2.2=some h) (fun s=>s.1) (a8,items,[]) J ?_ ?_)
 refine Le.trans (Le.voidBox 2 0 17 1 rfl rfl rfl rfl) ?_
 exact Le.ct 0 0
 rintro⟨a,o,t⟩ J
 try dsimp only at J⊢
 rcases a with _|a
 cases (show none=some _ from J)
 rw[qEV]at J
 refine go ?_
 refine AW.cH J (fun _ J=>?_) (fun hc J=>?_)
 refine go ?_
 obtain⟨y,c,z,k,J⟩:=qAE J
 refine AW.drawn 5 18 [] mix (by kernel_rfl) rfl ?_
 refine go ?_
 refine AD.q (FStep.make T rfl rfl rfl rfl rfl rfl rfl (f:=ze0) (zo:=0) (by repeat constructor) (by decide) rfl rfl (Bool.and_eq_true_iff.1 (qAJ (c))).1 (Bool.and_eq_true_iff.1 (qAJ (c))).2 rfl) (by simp[qA1]) (Nat.le_succ _) rfl ?_
 refine AD.kk (FStep.mk_o T rfl rfl rfl rfl rfl rfl rfl rfl (f:=ze7) (l:=[(List.replicate judges.toNat (0:Int))]) (ids:=[18]) rfl rfl (fun _=>rfl) (by exact zC (.rowR rfl) (zCn)) (by decide) rfl rfl rfl rfl) ?_
 refine AD.nil (AO.x (qFc T rfl 20 rfl rfl rfl rfl rfl (by decide) rfl rfl rfl rfl rfl (qAJ (k)) rfl rfl) ?_)
 refine AO.pu T ?_
 refine AO.se T [.R 20,.w 0 []] ?_
 refine go ?_
 refine⟨(a,w64 (o-1),(t++[(List.replicate judges.toNat (0:Int))])),J,Nat.lt_succ_self _,?_⟩
 exact Le.ct 20 17
 refine AW.exit ?_
 refine⟨_,zS J,?_⟩
 exact Le.ct 17 8
 rintro i hs
 subst hs
 replace J:=j
 try dsimp only[qKL,qIN]at J
 try dsimp only
 refine go ?_
 refine AW.loopS (fun s:Nat×(List bE)×Int=>(⟨[(1,judges),(4,.p 1 0),(5,.p 2 0),(6,s.2.2)],[(1,.box [.w 0 [],.w 0 []]),(2,.box [.R 8,.R 26]),(8,ro 1 ze7 i),(26,ro 1 ze7 s.2.1)],31,[]⟩:St)) (fun s=>qEX judges i s.1 s.2.1 s.2.2=some r) (fun s=>s.1) (a8,[],0) J ?_ ?_
 refine Le.trans (Le.voidBox 2 1 26 1 rfl rfl rfl rfl) ?_
 exact Le.ct 0 0
 rintro⟨d,u,v⟩ J
 try dsimp only at J⊢
 rcases d with _|d
 cases (show none=some _ from J)
 rw[qEX]at J
 refine go ?_
 refine AW.cH J (fun _ J=>?_) (fun _ J=>?_)
 refine go ?_
 obtain⟨A,e,B,m,J⟩:=qAE J
 refine AW.drawn 5 27 [] mix (by kernel_rfl) rfl ?_
 refine go ?_
 refine AD.q (FStep.make T rfl rfl rfl rfl rfl rfl rfl (f:=ze0) (zo:=0) (by repeat constructor) (by decide) rfl rfl (Bool.and_eq_true_iff.1 (qAJ (e))).1 (Bool.and_eq_true_iff.1 (qAJ (e))).2 rfl) (by simp[qA1]) (Nat.le_succ _) rfl ?_
 refine AD.kk (FStep.mk_o T rfl rfl rfl rfl rfl rfl rfl rfl (f:=ze7) (l:=[(List.replicate judges.toNat (0:Int))]) (ids:=[27]) rfl rfl (fun _=>rfl) (by exact zC (.rowR rfl) (zCn)) (by decide) rfl rfl rfl rfl) ?_
 refine AD.nil (AO.x (qFc T rfl 29 rfl rfl rfl rfl rfl (by decide) rfl rfl rfl rfl rfl (qAJ (m)) rfl rfl) ?_)
 refine AO.pu T ?_
 refine AO.se T [.R 8,.R 29] ?_
 refine go ?_
 refine⟨(d,(u++[(List.replicate judges.toNat (0:Int))]),w64 (v+1)),J,Nat.lt_succ_self _,?_⟩
 exact Le.ct 29 26
 refine go ?_
 refine AO.se T [.R 8,.R 26] ?_
 refine go ?_
 exact fin
def qIV (a8:Nat):Option CsState :=
 (qDX a8 0 3).bind fun a =>
 some (CsState.mk (Code.mk [(Element.mk (bz [51,65]) 0 0 800)] ([7,7,7,7,7]:bE) 2 10 80 100) (Performance.mk [] a (Slips.mk 0 0 0)) 100 [] [] [] 0)
theorem qP4 (a8:Nat) (r:CsState) (J:qIV a8=some r):qAC prog 73 [] (.pn (qGi r)):=by
 refine fns T func73 ?_
 refine go ?_
 refine AO.x (bxs T 1) (go ?_)
 refine AO.x (mks T 2 ze5 ([(Element.mk (bz [51,65]) 0 0 800)])) ?_
 refine AO.x (mks T 3 ze0 (([7,7,7,7,7]:bE))) (go ?_)
 refine AO.se T [.R 2,.R 3,(2:Int),(10:Int),(80:Int),(100:Int),.w 0 [],.w 0 [],.w 0 [],(0:Int),(0:Int),(0:Int),(100:Int),.w 0 [],.w 0 [],.w 0 [],(0:Int)] ?_
 refine go ?_
 obtain⟨b,a,J⟩:=zB J
 refine go ?_
 refine AO.x (qAO rfl 4 rfl rfl rfl (qJc a8 _ _ _ (a)) rfl rfl rfl) (go ?_)
 refine AO.se T [.R 2,.R 3,(2:Int),(10:Int),(80:Int),(100:Int),.w 0 [],.R 4,.R 5,(0:Int),(0:Int),(0:Int),(100:Int),.w 0 [],.w 0 [],.w 0 [],(0:Int)] ?_
 refine gs6 ?_
 refine AW.le (Le.nilSBox 1 6 rfl rfl) ?_
 refine AW.le (Le.nilSBox 1 13 rfl rfl) ?_
 refine AW.le (Le.fM 5 (g:=ze3) rfl (fun y=>qAh y)) ?_
 refine AW.le (Le.fM 4 (g:=ze3) rfl (fun y=>qAh y)) ?_
 refine AW.le (Le.fM 3 (g:=ze0) rfl (fun y=>.vs rfl)) ?_
 refine AW.le (Le.fM 2 (g:=ze5) rfl (fun y=>.vs rfl)) ?_
 refine AW.t ?_
 have hR:=zS J;subst hR
 exact retQ.i [1] rfl (.c (.pb rfl (zC .s (zC .s (zC .v (zC .v (zC .v (zC .v (zC .s (zC .s (zC .s (zC .v (zC .v (zC .v (zC .v (zC .s (zC .nil (zC .nil (zC .v (zCn))))))))))))))))))))
def qDj (sA:bD) (b:Int):Nat->List bD->Int->Int->Option ((List bD))
 |0,_,_,_=>none
 |e+1,d,c,a =>
  cond (decide (a<(sA.size:Int)))
   ((qNC sA a).bind fun f =>
   cond ((f.toNat:Int)==b)
    ((qAl (inB c a sA.size)).bind fun g =>
    (qAl (qAg 16 (d.length+([(ByteArray.extract sA c.toNat a.toNat)]).length))).bind fun h =>
    qDj sA b e (d++[(ByteArray.extract sA c.toNat a.toNat)]) (w64 (a+1)) (w64 (a+1)))
    (qDj sA b e d c (w64 (a+1))))
   ((qAl (inB c sA.size sA.size)).bind fun i =>
   (qAl (qAg 16 (d.length+([(ByteArray.extract sA c.toNat sA.size)]).length))).bind fun j =>
   some (d++[(ByteArray.extract sA c.toNat sA.size)]))
def qA8 (a8:Nat) (sA:bD) (b:Int):Option (List bD) :=
 qDj sA b a8 [] 0 0
theorem qH4 (a8:Nat) (sA:bD) (b:Int) (r:(List bD)) (J:qA8 a8 sA b=some r):qAC prog 92 [.v (.string sA),.v (.int .u8 b)] (.w 1 (r.map ze1)):=by
 refine fns T func92 ?_
 refine go ?_
 refine AW.loopS (fun s:Nat×(List bD)×Int×Int=>(⟨[(0,.v (.string sA)),(1,.v (.int .u8 b)),(5,.R 4),(6,s.2.2.1),(7,s.2.2.2)],[(4,ro 1 ze1 s.2.1)],34,[]⟩:St)) (fun s=>qDj sA b s.1 s.2.1 s.2.2.1 s.2.2.2=some r) (fun s=>s.1) (a8,[],0,0) J ?_ ?_
 refine Le.trans (Le.void 5 4 1 rfl rfl) ?_
 exact Le.ct 0 0
 rintro⟨d,e,c,a⟩ J
 try dsimp only at J⊢
 rcases d with _|d
 cases (show none=some _ from J)
 rw[qDj]at J
 refine go ?_
 refine AW.cH J (fun hc J=>?_) (fun _ J=>?_)
 refine go ?_
 obtain⟨k,f,J⟩:=zB J
 refine go ?_
 refine AO.w (qBO T rfl rfl rfl rfl (f)) (go ?_)
 refine AW.cH J (fun _ J=>?_) (fun hc J=>?_)
 refine AW.q ?_
 obtain⟨l,g,m,h,J⟩:=qAE J
 refine go ?_
 refine AO.w (qOm T rfl rfl rfl rfl rfl (qAJ (g))) ?_
 refine AO.x (mks T 5 ze1 ([(ByteArray.extract sA c.toNat a.toNat)])) ?_
 refine AO.x (rvs T 6 (hfit:=by exact qAJ (h))) (go ?_)
 refine⟨(d,(e++[(ByteArray.extract sA c.toNat a.toNat)]),w64 (a+1),w64 (a+1)),J,Nat.lt_succ_self _,?_⟩
 exact Le.ct 6 4
 refine go ?_
 refine⟨(d,e,c,w64 (a+1)),J,Nat.lt_succ_self _,?_⟩
 exact Le.ct 0 0
 refine go ?_
 obtain⟨n,i,o,j,J⟩:=qAE J
 refine go ?_
 refine AO.w (qFk T rfl rfl rfl rfl (qAJ (i))) ?_
 refine AO.x (mks T 7 ze1 ([(ByteArray.extract sA c.toNat sA.size)])) ?_
 refine AO.x (rvs T 8 (hfit:=by exact qAJ (j))) (go ?_)
 exact fin
def qDR (a8:Nat) (script:bD):Option ((List bD)×Bool) :=
 (opt ((!(decide ((script.size:Int)>2000)))&&(!decide (script=(⟨#[]⟩:bD)))) default (qNC script (w64 ((script.size:Int)-1)))).bind fun c =>
 cond (decide ((script.size:Int)>2000)||((!decide (script=(⟨#[]⟩:bD)))&&((c.toNat:Int) != 10)))
  (some ([],false))
  ((qA8 a8 script 10).bind fun a =>
  (qFT a (w64 ((a.length:Int)-1))).bind fun b =>
  some (b,decide ((b.length:Int)<=40)))
theorem qIB (a8:Nat) (script:bD) (r:((List bD)×Bool)) (J:qDR a8 script=some r):qAC prog 67 [.v (.string script)] (.t [.s (r.1.map ze1),.v (.bool r.2)]):=by
 refine fns T func67 ?_
 refine gs7 ?_
 obtain⟨f,a,J⟩:=zB J
 refine gs5 ?_
 refine AO.g0 T ?_
 refine AO.g1 T 9 ?_
 refine AO.g1 T 10 ?_
 refine AO.g0 T ?_
 refine AO.g0 T ?_
 refine AO.g1 T 13 ?_
 refine AO.d1 14 (fun hg=>aws) ?_
 refine AO.d2 12 15 (fun hg=>qBO T rfl rfl rfl rfl (qD7 a hg)) ?_
 refine AO.g1 T 16 ?_
 refine AO.d [11] rfl ⟨fun h=>h,trivial⟩ (fun hg=>zN rfl rfl rfl (by rw[hg];exact Bool.true_and _)) rfl ?_
 refine gs2 ?_
 refine Cf J fun _ J=>?_
 refine gs2 ?_
 obtain⟨i,b,J⟩:=zB J
 refine gs2 ?_
 refine AO.x (qAO rfl 1 rfl rfl rfl (qH4 a8 _ _ _ (b)) rfl rfl rfl) ?_
 refine gs3 ?_
 obtain⟨e,c,J⟩:=zB J
 refine AW.le (Le.fM 1 (g:=ze1) rfl (fun y=>.vs rfl)) ?_
 refine gs5 ?_
 refine AO.w (qDv T rfl rfl rfl rfl rfl (c) (fun _=>rfl)) ?_
 refine gs2 ?_
 refine AW.le (Le.ct 0 0 (σ':=(⟨[(4,sv ze1 e)],[],31,[]⟩:St))) ?_
 iterate 10 refine gs ?_
 exact fin
def qK4 (l:List bD):Option (List bD) :=
 (qAl (qAg 16 l.length)).bind fun a =>
 some l
theorem qQo (l:List bD) (r:(List bD)) (J:qK4 l=some r):qAC prog 124 [.s (List.map ze1 l)] (.w 1 (r.map ze1)):=by
 refine fns T func124 ?_
 refine gs5 ?_
 obtain⟨b,a,J⟩:=zB J
 refine AW.r (AO.x (qF6 T rfl rfl rfl rfl) ?_)
 refine AO.pu T ?_
 refine AO.x (qKd T rfl 1 rfl rfl rfl rfl rfl (by decide) (by decide) rfl rfl (fun _=>rfl) (qAJ (a)) rfl rfl) ?_
 refine gs3 ?_
 exact fin
def qE2 (l:bE):Option bE :=
 (qAl (qAg 8 l.length)).bind fun a =>
 some l
theorem qHq (l:bE) (r:(bE)) (J:qE2 l=some r):qAC prog 49 [.s (List.map ze0 l)] (.w 1 (r.map ze0)):=by
 refine fns T func49 ?_
 refine gs5 ?_
 obtain⟨b,a,J⟩:=zB J
 refine AW.r (AO.x (qF6 T rfl rfl rfl rfl) ?_)
 refine AO.pu T ?_
 refine AO.x (qKd T rfl 1 rfl rfl rfl rfl rfl (by decide) (by decide) rfl rfl (fun _=>rfl) (qAJ (a)) rfl rfl) ?_
 refine gs3 ?_
 exact fin
def qEw:List Item->Nat->List Item->Option ((List Item))
 | [],e,a =>
  some a
 |b::f,e,a =>
  (qK4 b.aj).bind fun c =>
  (qE2 b.ae).bind fun d =>
  (qAl (qAg 56 (a.length+([(Item.mk c d b.aB)]).length))).bind fun g =>
  qEw f (e+1) (a++[(Item.mk c d b.aB)])
def qHd (l:List Item):Option (List Item) :=
 qEw l 0 []
theorem qK3 (l:List Item) (r:(List Item)) (J:qHd l=some r):qAC prog 80 [.s (List.map ze2 l)] (.w 3 (r.map qBn)):=by
 refine fns T func80 ?_
 iterate 16 refine gs ?_
 refine AW.loopS (fun s:Nat×(List Item)=>(⟨[(3,.R 10),(6,sv ze2 l),(7,(l.length:Int)),(8,(s.1:Int))],[(10,ro 3 qBn s.2)],26,[]⟩:St)) (fun s=>s.1<=l.length/\qEw (l.drop s.1) s.1 s.2=some r) (fun s=>l.length-s.1) (0,[]) ⟨Nat.zero_le _,J⟩ ?_ ?_
 refine Le.trans (Le.void 3 10 3 rfl rfl) ?_
 exact Le.ct 0 0
 rintro⟨m,o⟩ ⟨z,J⟩
 try dsimp only at J⊢
 refine AW.boundM (t:=6) (l:=l) rfl (fun p=>?_)
 rcases a:l.drop m with _|⟨c,u⟩
 rw[a,qEw]at J
 have b:=qAG a
 iterate 13 refine gs ?_
 exact fin
 rw[a,qEw]at J
 have b:=qAF a
 iterate 13 refine gs ?_
 refine AO.x (als T 11) ?_
 refine AO.se T [sv ze1 c.aj,sv ze0 c.ae,.v (.bool c.aB)] ?_
 refine AO.n ?_
 obtain⟨e,i,h,j,y,k,J⟩:=qAq J
 refine AW.drawn 11 12 [] mix (by kernel_rfl) rfl ?_
 refine gs3 ?_
 refine AD.q (FStep.call rfl rfl rfl rfl rfl (qQo _ _ (i)) rfl rfl) (qBD _ _) (qDi _ _) rfl ?_
 refine gs2 ?_
 refine AD.q (FStep.call rfl rfl rfl rfl rfl (qHq _ _ (j)) rfl rfl) (qBD _ _) (qDi _ _) rfl ?_
 refine gs2 ?_
 refine AD.pured T (d:=.g [.R 12,.R 13,.v (.bool c.aB)]) rfl rfl rfl rfl ?_
 refine AD.kk (FStep.mk_o T rfl rfl rfl rfl rfl rfl rfl rfl (f:=qBn) (l:=[(Item.mk e h c.aB)]) (ids:=[12,13]) rfl rfl (fun _=>rfl) (by exact zC (.rowR rfl) (zC (.rowR rfl) (zC .v (zCn)))) (by decide) rfl rfl rfl rfl) ?_
 refine AD.nil (AO.x (qFc T rfl 15 rfl rfl rfl rfl rfl (by decide) rfl rfl rfl rfl rfl (qAJ (k)) rfl rfl) ?_)
 refine gs6 ?_
 refine⟨(m+1,(o++[(Item.mk e h c.aB)])),⟨b,(zds a▸J)⟩,qBm b,?_⟩
 exact Le.ct 15 10
def qFO (l:List Item) (d:(List Item)):Nat->List Item->Int->Option ((List Item))
 |0,_,_=>none
 |e+1,b,a =>
  cond (decide (a<(d.length:Int)))
   ((qAV b a).bind fun c =>
   qFO l d e (b.set a.toNat (Item.mk c.aj c.ae (decide ((w64 (2*a))>=(l.length:Int))))) (w64 (a+1)))
   (some b)
def qHo (a8:Nat) (l:List Item):Option (List Item) :=
 (qHd l).bind fun a =>
 qFO l a a8 a 0
theorem qQd (a8:Nat) (l:List Item) (r:(List Item)) (J:qHo a8 l=some r):qAC prog 128 [.s (List.map ze2 l)] (.w 3 (r.map qBn)):=by
 refine fns T func128 ?_
 refine go ?_
 obtain⟨c,f,J⟩:=zB J
 refine go ?_
 refine AO.x (qAO rfl 1 rfl rfl rfl (qK3 _ _ (f)) rfl rfl rfl) (go ?_)
 refine AW.loopS (fun s:Nat×(List Item)×Int=>(⟨[(0,sv ze2 l),(3,.R 1),(8,(c.length:Int)),(9,s.2.2)],[(1,ro 3 qBn s.2.1)],23,[]⟩:St)) (fun s=>qFO l c s.1 s.2.1 s.2.2=some r) (fun s=>s.1) (a8,c,0) J ?_ ?_
 exact Le.ct 0 0
 rintro⟨d,g,a⟩ J
 try dsimp only at J⊢
 rcases d with _|d
 cases (show none=some _ from J)
 rw[qFO]at J
 refine go ?_
 refine AW.cH J (fun _ J=>?_) (fun _ J=>?_)
 refine go ?_
 obtain⟨b,e,J⟩:=zB J
 refine go ?_
 refine AO.x (zSr T rfl rfl rfl rfl rfl (zgG (e)) rfl rfl rfl rfl (u':=(Item.mk b.aj b.ae (decide ((w64 (2*a))>=(l.length:Int))))) rfl rfl) (go ?_)
 refine⟨(d,(g.set a.toNat (Item.mk b.aj b.ae (decide ((w64 (2*a))>=(l.length:Int))))),w64 (a+1)),J,Nat.lt_succ_self _,?_⟩
 exact Le.ct 0 0
 refine go ?_
 exact fin
def qAd (n:Int) (lo:Int) (hi:Int):bF :=
 some (decide (n>=lo)&&decide (n<=hi))
theorem qAf (n:Int) (lo:Int) (hi:Int) (r:Bool) (J:qAd n lo hi=some r):qAC prog 206 [n,lo,hi] (.v (.bool r)):=by
 refine fns T func206 ?_
 refine go ?_
 refine AO.g0 T ?_
 refine AO.g0 T ?_
 refine AO.g2 T 11 12 ?_
 refine go ?_
 exact fin
def qCi (lo:Int) (hi:Int):bE->Nat->bF
 | [],a =>
  some true
 |d::b,a =>
  (qAd d lo hi).bind fun c =>
  cond (!c)
   (some false)
   (qCi lo hi b (a+1))
def qC3 (l:bE) (lo:Int) (hi:Int):bF :=
 qCi lo hi l 0
theorem qII (l:bE) (lo:Int) (hi:Int) (r:Bool) (J:qC3 l lo hi=some r):qAC prog 262 [.s (List.map ze0 l),lo,hi] (.v (.bool r)):=by
 refine fns T func262 ?_
 refine go ?_
 refine AW.loopS (fun s:Nat=>(⟨[(1,lo),(2,hi),(9,sv ze0 l),(10,(l.length:Int)),(11,(s:Int))],[],21,[]⟩:St)) (fun s=>s<=l.length/\qCi lo hi (l.drop s) s=some r) (fun s=>l.length-s) 0 ⟨Nat.zero_le _,J⟩ ?_ ?_
 exact Le.ct 0 0
 rintro d ⟨h,J⟩
 try dsimp only at J⊢
 refine AW.boundM (t:=9) (l:=l) rfl (fun e=>?_)
 rcases a:l.drop d with _|⟨i,f⟩
 rw[a,qCi]at J
 have b:=qAG a
 refine go ?_
 exact fin
 rw[a,qCi]at J
 have b:=qAF a
 refine go ?_
 obtain⟨g,c,J⟩:=zB J
 refine go ?_
 refine AO.w (cVs (qAf _ _ _ _ (c))) (go ?_)
 refine Cf J fun _ J=>?_
 refine go ?_
 refine⟨d+1,⟨b,(zds a▸J)⟩,qBm b,?_⟩
 exact Le.ct 0 0
def qCh:List Item->Nat->bF
 | [],a =>
  some true
 |d::b,a =>
  (qC3 d.ae 0 0).bind fun c =>
  cond (!c)
   (some false)
   (qCh b (a+1))
def qMp (l:List Item):bF :=
 qCh l 0
theorem qPc (l:List Item) (r:Bool) (J:qMp l=some r):qAC prog 248 [.s (List.map ze2 l)] (.v (.bool r)):=by
 refine fns T func248 ?_
 refine go ?_
 refine AW.loopS (fun s:Nat=>(⟨[(5,sv ze2 l),(6,(l.length:Int)),(7,(s:Int))],[],16,[]⟩:St)) (fun s=>s<=l.length/\qCh (l.drop s) s=some r) (fun s=>l.length-s) 0 ⟨Nat.zero_le _,J⟩ ?_ ?_
 exact Le.ct 0 0
 rintro e ⟨i,J⟩
 try dsimp only at J⊢
 refine AW.boundM (t:=5) (l:=l) rfl (fun f=>?_)
 rcases a:l.drop e with _|⟨c,g⟩
 rw[a,qCh]at J
 have b:=qAG a
 refine go ?_
 exact fin
 rw[a,qCh]at J
 have b:=qAF a
 refine go ?_
 refine AO.x (als T 3) ?_
 refine AO.se T [sv ze1 c.aj,sv ze0 c.ae,.v (.bool c.aB)] ?_
 refine go ?_
 obtain⟨h,d,J⟩:=zB J
 refine go ?_
 refine AO.w (cVs (qII _ _ _ _ (d))) (go ?_)
 refine Cf J fun _ J=>?_
 refine go ?_
 refine⟨e+1,⟨b,(zds a▸J)⟩,qBm b,?_⟩
 exact Le.ct 0 0
def qA4:List Item->Nat->Int->Int->Option ((Int×Int))
 | [],d,c,a =>
  some (c,a)
 |e::b,d,c,a =>
  cond (decide ((e.aj.length:Int)>1))
   (cond (decide ((e.aj.length:Int)>2))
    (qA4 b (d+1) (w64 (c+1)) (w64 (a+1)))
    (qA4 b (d+1) (w64 (c+1)) a))
   (cond (decide ((e.aj.length:Int)>2))
    (qA4 b (d+1) c (w64 (a+1)))
    (qA4 b (d+1) c a))
def qKY (l:List Item):Option (Int×Int) :=
 qA4 l 0 0 0
theorem qNo (l:List Item) (r:(Int×Int)) (J:qKY l=some r):qAC prog 249 [.s (List.map ze2 l)] (.t [.v (.int .i64 r.1),.v (.int .i64 r.2)]):=by
 refine fns T func249 ?_
 refine go ?_
 refine AW.loopS (fun s:Nat×Int×Int=>(⟨[(4,s.2.1),(5,s.2.2),(8,sv ze2 l),(9,(l.length:Int)),(10,(s.1:Int))],[],29,[]⟩:St)) (fun s=>s.1<=l.length/\qA4 (l.drop s.1) s.1 s.2.1 s.2.2=some r) (fun s=>l.length-s.1) (0,0,0) ⟨Nat.zero_le _,J⟩ ?_ ?_
 exact Le.ct 0 0
 rintro⟨d,e,c⟩ ⟨i,J⟩
 try dsimp only at J⊢
 refine AW.boundM (t:=8) (l:=l) rfl (fun g=>?_)
 rcases b:l.drop d with _|⟨f,h⟩
 rw[b,qA4]at J
 have a:=qAG b
 refine go ?_
 exact fin
 rw[b,qA4]at J
 have a:=qAF b
 refine go ?_
 refine AO.x (als T 3) ?_
 refine AO.se T [sv ze1 f.aj,sv ze0 f.ae,.v (.bool f.aB)] ?_
 refine go ?_
 refine AW.cH J (fun hc J=>?_) (fun hc J=>?_)
 refine go ?_
 refine AW.cH J (fun _ J=>?_) (fun hc J=>?_)
 refine go ?_
 refine⟨(d+1,w64 (e+1),w64 (c+1)),⟨a,(zds b▸J)⟩,qBm a,?_⟩
 exact Le.ct 0 0
 refine go ?_
 refine⟨(d+1,w64 (e+1),c),⟨a,(zds b▸J)⟩,qBm a,?_⟩
 exact Le.ct 0 0
 refine go ?_
 refine AW.cH J (fun _ J=>?_) (fun _ J=>?_)
 refine go ?_
 refine⟨(d+1,e,w64 (c+1)),⟨a,(zds b▸J)⟩,qBm a,?_⟩
 exact Le.ct 0 0
 refine go ?_
 refine⟨(d+1,e,c),⟨a,(zds b▸J)⟩,qBm a,?_⟩
 exact Le.ct 0 0
def qEN (name:bD):List Element->Nat->Option Int
 | [],a =>
  some (-1)
 |c::b,a =>
  cond (decide (c.aC=name))
   (some (a:Int))
   (qEN name b (a+1))
def qGq (c:Code) (name:bD):Option Int :=
 qEN name c.ad 0
theorem qIY (c:Code) (name:bD) (r:Int) (J:qGq c name=some r):qAC prog 337 [.g (ze4 c),.v (.string name)] (.v (.int .i64 r)):=by
 refine fns T func337 ?_
 refine go ?_
 refine AO.x (bxs T 1) (go ?_)
 refine AW.loopS (fun s:Nat=>(⟨[(1,.v (.string name)),(8,sv ze5 c.ad),(9,(c.ad.length:Int)),(10,(s:Int))],[],21,[]⟩:St)) (fun s=>s<=c.ad.length/\qEN name (c.ad.drop s) s=some r) (fun s=>c.ad.length-s) 0 ⟨Nat.zero_le _,J⟩ ?_ ?_
 exact Le.ct 0 0
 rintro e ⟨i,J⟩
 try dsimp only at J⊢
 refine AW.boundM (t:=8) (l:=c.ad) rfl (fun f=>?_)
 rcases a:c.ad.drop e with _|⟨d,h⟩
 rw[a,qEN]at J
 have b:=qAG a
 refine go ?_
 exact fin
 rw[a,qEN]at J
 have b:=qAF a
 refine go ?_
 refine AO.x (als T 4) ?_
 refine AO.pu T ?_
 refine AO.se T [.v (.string d.aC),d.aE,d.aI,d.aG] ?_
 refine go ?_
 refine Cf J fun _ J=>?_
 refine go ?_
 refine⟨e+1,⟨b,(zds a▸J)⟩,qBm b,?_⟩
 exact Le.ct 0 0
def qIC (c:Code) (it:Item):Option Int :=
 (qAV it.aj 0).bind fun b =>
 (qGq c b).bind fun a =>
 cond (decide (a<0))
  (some (-1))
  ((qAV c.ad a).bind fun d =>
  some d.aE)
theorem qPE (c:Code) (it:Item) (r:Int) (J:qIC c it=some r):qAC prog 301 [.g (ze4 c),.g (ze2 it)] (.v (.int .i64 r)):=by
 refine fns T func301 ?_
 refine go ?_
 refine AO.x (bxs T 1) ?_
 refine AO.x (bxs T 2) (go ?_)
 obtain⟨e,b,f,a,J⟩:=qAE J
 refine AW.drawn 5 3 [] mix (by kernel_rfl) rfl ?_
 refine go ?_
 refine AO.w (cVs (qIY _ _ _ (a))) (go ?_)
 refine Cf J fun _ J=>?_
 refine go ?_
 obtain⟨h,d,J⟩:=zB J
 refine go ?_
 exact fin
def qBs (c:Code):List Item->Nat->bE->Option ((bE))
 | [],e,a =>
  some a
 |g::d,e,a =>
  (qIC c g).bind fun b =>
  cond (decide (b>=0))
   ((qAV a b).bind fun f =>
   qBs c d (e+1) (a.set b.toNat (w64 (f+1))))
   (qBs c d (e+1) a)
def qLd (c:Code) (l:List Item):Option bE :=
 (qAl (decide (0<=5)&&qAg 8 (5:Int).toNat)).bind fun a =>
 qBs c l 0 (List.replicate (5:Int).toNat (0:Int))
theorem qOz (c:Code) (l:List Item) (r:(bE)) (J:qLd c l=some r):qAC prog 250 [.g (ze4 c),.s (List.map ze2 l)] (.w 1 (r.map ze0)):=by
 refine fns T func250 ?_
 refine gs2 ?_
 refine AO.x (bxs T 1) ?_
 refine gs3 ?_
 obtain⟨u,e,J⟩:=zB J
 refine AW.r (AO.x (qM6 T rfl 2 rfl rfl rfl rfl rfl (f:=ze0) (zo:=0) (by repeat constructor) (by decide) rfl rfl (Bool.and_eq_true_iff.1 (qAJ (e))).1 (Bool.and_eq_true_iff.1 (qAJ (e))).2 rfl rfl) ?_)
 iterate 10 refine gs ?_
 refine AW.loopS (fun s:Nat×(bE)=>(⟨[(2,.p 1 0),(5,.R 2),(10,sv ze2 l),(11,(l.length:Int)),(12,(s.1:Int))],[(1,.box (ze4 c)),(2,ro 1 ze0 s.2)],29,[]⟩:St)) (fun s=>s.1<=l.length/\qBs c (l.drop s.1) s.1 s.2=some r) (fun s=>l.length-s.1) (0,(List.replicate (5:Int).toNat (0:Int))) ⟨Nat.zero_le _,J⟩ ?_ ?_
 exact Le.ct 0 0
 rintro⟨j,h⟩ ⟨y,J⟩
 try dsimp only at J⊢
 refine AW.boundM (t:=10) (l:=l) rfl (fun o=>?_)
 rcases b:l.drop j with _|⟨k,q⟩
 rw[b,qBs]at J
 have a:=qAG b
 iterate 13 refine gs ?_
 exact fin
 rw[b,qBs]at J
 have a:=qAF b
 iterate 13 refine gs ?_
 refine AO.x (als T 5) ?_
 refine AO.se T [sv ze1 k.aj,sv ze0 k.ae,.v (.bool k.aB)] ?_
 refine gs2 ?_
 obtain⟨n,m,J⟩:=zB J
 refine gs3 ?_
 refine AO.w (cVs (qPE _ _ _ (m))) ?_
 refine gs7 ?_
 refine AW.cH J (fun _ J=>?_) (fun _ J=>?_)
 obtain⟨i,d,J⟩:=zB J
 refine gs4 ?_
 refine AO.w (zLr T rfl rfl rfl rfl (zgG (d)) rfl rfl rfl) ?_
 refine gs2 ?_
 refine AO.x (zSr T rfl rfl rfl rfl rfl (zgG (d)) rfl rfl rfl rfl (u':=w64 (i+1)) rfl rfl) ?_
 refine gs5 ?_
 refine⟨(j+1,(h.set n.toNat (w64 (i+1)))),⟨a,(zds b▸J)⟩,qBm a,?_⟩
 exact Le.ct 0 0
 refine gs5 ?_
 refine⟨(j+1,h),⟨a,(zds b▸J)⟩,qBm a,?_⟩
 exact Le.ct 0 0
def qDY (l:List Item):List Item->Nat->bF
 | [],a =>
  some true
 |c::b,a =>
  cond (!(c.aB==decide ((w64 (2*(a:Int)))>=(l.length:Int))))
   (some false)
   (qDY l b (a+1))
def qNV (l:List Item):bF :=
 qDY l l 0
theorem qQi (l:List Item) (r:Bool) (J:qNV l=some r):qAC prog 251 [.s (List.map ze2 l)] (.v (.bool r)):=by
 refine fns T func251 ?_
 refine go ?_
 refine AW.loopS (fun s:Nat=>(⟨[(0,sv ze2 l),(5,sv ze2 l),(6,(l.length:Int)),(7,(s:Int))],[],21,[]⟩:St)) (fun s=>s<=l.length/\qDY l (l.drop s) s=some r) (fun s=>l.length-s) 0 ⟨Nat.zero_le _,J⟩ ?_ ?_
 exact Le.ct 0 0
 rintro d ⟨g,J⟩
 try dsimp only at J⊢
 refine AW.boundM (t:=0) (l:=l) rfl (fun e=>?_)
 rcases a:l.drop d with _|⟨c,f⟩
 rw[a,qDY]at J
 have b:=qAG a
 refine go ?_
 exact fin
 rw[a,qDY]at J
 have b:=qAF a
 refine go ?_
 refine AO.x (als T 3) ?_
 refine AO.pu T ?_
 refine AO.se T [sv ze1 c.aj,sv ze0 c.ae,.v (.bool c.aB)] ?_
 refine go ?_
 refine Cf J fun _ J=>?_
 refine go ?_
 refine⟨d+1,⟨b,(zds a▸J)⟩,qBm b,?_⟩
 exact Le.ct 0 0
def qCD (name:bD) (e:Item):List bD->Nat->Int->Int->Option (Int×Int)
 | [],d,a,b =>
  some (a,b)
 |f::c,d,a,b =>
  cond (decide (f=name))
   (cond (decide ((e.aj.length:Int)>1))
    (qCD name e c (d+1) (w64 (a+1)) (w64 (b+1)))
    (qCD name e c (d+1) (w64 (a+1)) b))
   (qCD name e c (d+1) a b)
def qDg (name:bD):List Item->Nat->Int->Int->Option ((Int×Int))
 | [],c,a,b =>
  some (a,b)
 |d::e,c,a,b =>
  (qCD name d d.aj 0 a b).bind fun (f,g) =>
  qDg name e (c+1) f g
def qKI (l:List Item) (name:bD):Option (Int×Int) :=
 qDg name l 0 0 0
theorem qPw (l:List Item) (name:bD) (r:(Int×Int)) (J:qKI l name=some r):qAC prog 338 [.s (List.map ze2 l),.v (.string name)] (.t [.v (.int .i64 r.1),.v (.int .i64 r.2)]):=by
 refine fns T func338 ?_
 iterate 18 refine gs ?_
 refine AW.loopS (fun s:Nat×Int×Int=>(⟨[(1,.v (.string name)),(6,s.2.1),(7,s.2.2),(12,sv ze2 l),(13,(l.length:Int)),(14,(s.1:Int))],[],40,[]⟩:St)) (fun s=>s.1<=l.length/\qDg name (l.drop s.1) s.1 s.2.1 s.2.2=some r) (fun s=>l.length-s.1) (0,0,0) ⟨Nat.zero_le _,J⟩ ?_ ?_
 exact Le.ct 0 0
 rintro⟨i,m,n⟩ ⟨u,J⟩
 try dsimp only at J⊢
 refine AW.boundM (t:=12) (l:=l) rfl (fun z=>?_)
 rcases d:l.drop i with _|⟨c,A⟩
 rw[d,qDg]at J
 have e:=qAG d
 iterate 15 refine gs ?_
 exact fin
 rw[d,qDg]at J
 have e:=qAF d
 refine gs7 ?_
 obtain⟨j,J,k⟩:=zB J
 refine AW.seqJ (fun s:Int×Int=>(⟨[(1,.v (.string name)),(6,s.1),(7,s.2),(12,sv ze2 l),(13,(l.length:Int)),(14,(i:Int))],[],40,[]⟩:St)) (fun s=>s=j) ?_ ?_
 refine gs5 ?_
 refine AO.x (als T 6) ?_
 refine AO.se T [sv ze1 c.aj,sv ze0 c.ae,.v (.bool c.aB)] ?_
 refine gs9 ?_
 refine AW.loopS (fun s:Nat×Int×Int=>(⟨[(1,.v (.string name)),(6,s.2.1),(7,s.2.2),(9,.p 6 0),(12,sv ze2 l),(13,(l.length:Int)),(14,(i:Int)),(19,sv ze1 c.aj),(20,(c.aj.length:Int)),(21,(s.1:Int))],[(6,.box [sv ze1 c.aj,sv ze0 c.ae,.v (.bool c.aB)])],40,[]⟩:St)) (fun s=>s.1<=c.aj.length/\qCD name c (c.aj.drop s.1) s.1 s.2.1 s.2.2=some j) (fun s=>c.aj.length-s.1) (0,m,n) ⟨Nat.zero_le _,J⟩ ?_ ?_
 exact Le.ct 0 0
 rintro⟨f,g,h⟩ ⟨u,J⟩
 try dsimp only at J⊢
 refine AW.boundM (t:=19) (l:=c.aj) rfl (fun w=>?_)
 rcases b:c.aj.drop f with _|⟨B,y⟩
 rw[b,qCD]at J
 have a:=qAG b
 refine gs7 ?_
 refine⟨_,zS J,?_⟩
 exact Le.ct 0 0
 rw[b,qCD]at J
 have a:=qAF b
 iterate 21 refine gs ?_
 refine AW.cH J (fun hc J=>?_) (fun _ J=>?_)
 iterate 13 refine gs ?_
 refine AW.cH J (fun _ J=>?_) (fun hc J=>?_)
 refine gs9 ?_
 refine⟨(f+1,w64 (g+1),w64 (h+1)),⟨a,(zds b▸J)⟩,qBm a,?_⟩
 exact Le.ct 0 0
 refine gs5 ?_
 refine⟨(f+1,w64 (g+1),h),⟨a,(zds b▸J)⟩,qBm a,?_⟩
 exact Le.ct 0 0
 refine gs5 ?_
 refine⟨(f+1,g,h),⟨a,(zds b▸J)⟩,qBm a,?_⟩
 exact Le.ct 0 0
 rintro⟨o,q⟩ hs
 subst hs
 replace J:=k
 try dsimp only[qKL,qIN]at J
 try dsimp only
 refine gs4 ?_
 refine⟨(i+1,o,q),⟨e,(zds d▸J)⟩,qBm e,?_⟩
 exact Le.ct 0 0
def qHk (c:Code) (l:List Item) (it:Item) (name:bD) (rule:Int):bF :=
 (qGq c name).bind fun a =>
 cond (rule==2)
  (some (decide (a>=0)))
  (cond (rule==4)
   ((opt ((!((it.aj.length:Int)==1))&&decide (a>=0)) default (qAV c.ad a)).bind fun d =>
   some (((it.aj.length:Int)==1)||(decide (a>=0)&&(d.aE==0))))
   ((qKI l name).bind fun b =>
   some (decide (b.1<=c.aq)&&((b.1==1)||decide (b.2>0)))))
theorem qQO (c:Code) (l:List Item) (it:Item) (name:bD) (rule:Int) (r:Bool) (J:qHk c l it name rule=some r):qAC prog 302 [.g (ze4 c),.s (List.map ze2 l),.g (ze2 it),.v (.string name),rule] (.v (.bool r)):=by
 refine fns T func302 ?_
 refine go ?_
 refine AO.x (bxs T 1) ?_
 refine AO.x (bxs T 2) (go ?_)
 obtain⟨i,b,J⟩:=zB J
 refine go ?_
 refine AO.w (cVs (qIY _ _ _ (b))) (go ?_)
 refine Cf J fun hc J=>?_
 refine go ?_
 refine AW.cH J (fun _ J=>?_) (fun _ J=>?_)
 refine AW.q ?_
 obtain⟨j,e,J⟩:=zB J
 refine go ?_
 refine AO.g0 T ?_
 refine AO.g1 T 29 ?_
 refine AO.g1 T 30 ?_
 refine AO.g0 T ?_
 refine AO.g1 T 32 ?_
 refine AO.g0 T ?_
 refine AO.d2 33 34 (fun hg=>ixs T (qD7 e hg)) ?_
 refine AO.g1 T 35 ?_
 refine AO.g1 T 36 ?_
 refine AO.g1 T 37 ?_
 refine AO.d [31] rfl ⟨fun h=>h,trivial⟩ (fun hg=>zN rfl rfl rfl (by rw[hg];exact Bool.true_and _)) rfl ?_
 refine gs3 ?_
 refine AW.le (Le.ct 0 0 (σ':=(⟨[(10,.v (.bool (((it.aj.length:Int)==1)||(decide (i>=0)&&(j.aE==0)))))],[],59,[]⟩:St))) ?_
 refine AW.t ?_
 exact fin
 refine go ?_
 obtain⟨a,f,J⟩:=zB J
 refine go ?_
 refine AO.w (cVs (qPw _ _ _ (f))) (go ?_)
 refine AO.g0 T ?_
 refine AO.g1 T 52 ?_
 refine AO.g1 T 53 ?_
 refine AO.g0 T ?_
 refine AO.g1 T 55 ?_
 refine AO.d [54] rfl ⟨fun h=>h,trivial⟩ (fun hg=>zO rfl rfl rfl (by rw[hg];exact Bool.true_and _)) rfl ?_
 refine gs3 ?_
 refine AW.le (Le.ct 0 0 (σ':=(⟨[(10,.v (.bool (decide (a.1<=c.aq)&&((a.1==1)||decide (a.2>0)))))],[],59,[]⟩:St))) ?_
 refine AW.t ?_
 exact fin
def qBF (c:Code) (l:List Item) (rule:Int) (d:Item):List bD->Nat->Option (Except Bool Unit)
 | [],a =>
  some (.ok ())
 |e::b,a =>
  (qHk c l d e rule).bind fun f =>
  cond (!f)
   (some (.error false))
   (qBF c l rule d b (a+1))
def qAp (c:Code) (l:List Item) (rule:Int):List Item->Nat->bF
 | [],a =>
  some true
 |b::d,a =>
  (qBF c l rule b b.aj 0).bind fun e=>qKL e fun _ =>
  qAp c l rule d (a+1)
def qMl (c:Code) (l:List Item) (rule:Int):bF :=
 qAp c l rule l 0
theorem qPy (c:Code) (l:List Item) (rule:Int) (r:Bool) (J:qMl c l rule=some r):qAC prog 252 [.g (ze4 c),.s (List.map ze2 l),rule] (.v (.bool r)):=by
 refine fns T func252 ?_
 refine gs2 ?_
 refine AO.x (bxs T 1) ?_
 iterate 10 refine gs ?_
 refine AW.loopS (fun s:Nat=>(⟨[(1,sv ze2 l),(2,rule),(3,.p 1 0),(11,sv ze2 l),(12,(l.length:Int)),(13,(s:Int))],[(1,.box (ze4 c))],33,[]⟩:St)) (fun s=>s<=l.length/\qAp c l rule (l.drop s) s=some r) (fun s=>l.length-s) 0 ⟨Nat.zero_le _,J⟩ ?_ ?_
 exact Le.ct 0 0
 rintro i ⟨n,J⟩
 try dsimp only at J⊢
 refine AW.boundM (t:=1) (l:=l) rfl (fun u=>?_)
 rcases e:l.drop i with _|⟨a,y⟩
 rw[e,qAp]at J
 have f:=qAG e
 iterate 12 refine gs ?_
 exact fin
 rw[e,qAp]at J
 have f:=qAF e
 refine gs7 ?_
 obtain⟨j,J,h⟩:=zB J
 refine AW.seqJ (fun s:Unit=>(⟨[(1,sv ze2 l),(2,rule),(3,.p 1 0),(11,sv ze2 l),(12,(l.length:Int)),(13,(i:Int))],[(1,.box (ze4 c))],33,[]⟩:St)) (fun s=>.ok s=j) ?_ ?_
 refine gs5 ?_
 refine AO.x (als T 7) ?_
 refine AO.se T [sv ze1 a.aj,sv ze0 a.ae,.v (.bool a.aB)] ?_
 refine gs9 ?_
 refine AW.loopS (fun s:Nat=>(⟨[(1,sv ze2 l),(2,rule),(3,.p 1 0),(8,.p 7 0),(11,sv ze2 l),(12,(l.length:Int)),(13,(i:Int)),(18,sv ze1 a.aj),(19,(a.aj.length:Int)),(20,(s:Int))],[(1,.box (ze4 c)),(7,.box [sv ze1 a.aj,sv ze0 a.ae,.v (.bool a.aB)])],33,[]⟩:St)) (fun s=>s<=a.aj.length/\qBF c l rule a (a.aj.drop s) s=some j) (fun s=>a.aj.length-s) 0 ⟨Nat.zero_le _,J⟩ ?_ ?_
 exact Le.ct 0 0
 rintro k ⟨n,J⟩
 try dsimp only at J⊢
 refine AW.boundM (t:=18) (l:=a.aj) rfl (fun o=>?_)
 rcases b:a.aj.drop k with _|⟨z,q⟩
 rw[b,qBF]at J
 have d:=qAG b
 refine gs7 ?_
 refine⟨_,zS J,?_⟩
 exact Le.ct 0 0
 rw[b,qBF]at J
 have d:=qAF b
 iterate 16 refine gs ?_
 obtain⟨A,m,J⟩:=zB J
 refine gs6 ?_
 refine AO.w (cVs (qQO _ _ _ _ _ _ (m))) ?_
 refine gs2 ?_
 refine AW.cH J (fun _ J=>?_) (fun _ J=>?_)
 refine gs5 ?_
 obtain rfl:=zS J
 replace J:=h
 exact fin
 refine gs5 ?_
 refine⟨k+1,⟨d,(zds b▸J)⟩,qBm d,?_⟩
 exact Le.ct 0 0
 rintro _ hs
 subst hs
 replace J:=h
 try dsimp only[qKL,qIN]at J
 try dsimp only
 refine gs4 ?_
 refine⟨i+1,⟨f,(zds e▸J)⟩,qBm f,?_⟩
 exact Le.ct 0 0
def qCs (c:Code):bE->Nat->bF
 | [],a =>
  some true
 |e::b,a =>
  (qAV c.ar (a:Int)).bind fun d =>
  cond (decide (e>d))
   (some false)
   (qCs c b (a+1))
def qKA (c:Code) (l:List Item) (rule:Int):bF :=
 cond (rule==1)
  (some (decide ((l.length:Int)>0)))
  (cond (rule==3)
   ((qMp l).bind fun e =>
   some e)
   (cond (rule==5)
    ((qKY l).bind fun a =>
    some (decide (a.1<=3)&&decide (a.2<=1)))
    (cond (rule==6)
     ((qLd c l).bind fun f =>
     qCs c f 0)
     (cond (rule==8)
      ((qNV l).bind fun b =>
      some b)
      ((qMl c l rule).bind fun d =>
      some d)))))
theorem qPj (c:Code) (l:List Item) (rule:Int) (r:Bool) (J:qKA c l rule=some r):qAC prog 186 [.g (ze4 c),.s (List.map ze2 l),rule] (.v (.bool r)):=by
 refine fns T func186 ?_
 refine go ?_
 refine AO.x (bxs T 1) (go ?_)
 refine Cf J fun hc J=>?_
 refine go ?_
 refine AW.cH J (fun _ J=>?_) (fun hc J=>?_)
 refine AW.q ?_
 obtain⟨z,h,J⟩:=zB J
 refine go ?_
 refine AO.w (cVs (qPc _ _ (h))) (go ?_)
 exact fin
 refine go ?_
 refine AW.cH J (fun _ J=>?_) (fun hc J=>?_)
 refine AW.q ?_
 obtain⟨A,i,J⟩:=zB J
 refine go ?_
 refine AO.w (cVs (qNo _ _ (i))) (go ?_)
 refine AO.g0 T ?_
 refine AO.g1 T 31 ?_
 refine go ?_
 exact fin
 refine go ?_
 refine AW.cH J (fun hc J=>?_) (fun hc J=>?_)
 refine go ?_
 obtain⟨d,j,J⟩:=zB J
 refine go ?_
 refine AO.x (qAO rfl 2 rfl rfl rfl (qOz _ _ _ (j)) rfl rfl rfl) (go ?_)
 refine AW.loopS (fun s:Nat=>(⟨[(3,.p 1 0),(38,.R 2),(39,(d.length:Int)),(40,(s:Int))],[(1,.box (ze4 c)),(2,ro 1 ze0 d)],61,[]⟩:St)) (fun s=>s<=d.length/\qCs c (d.drop s) s=some r) (fun s=>d.length-s) 0 ⟨Nat.zero_le _,J⟩ ?_ ?_
 exact Le.ct 0 0
 rintro k ⟨B,J⟩
 try dsimp only at J⊢
 refine AW.boundR (id:=2) (l:=d) rfl (fun m=>?_)
 rcases a:d.drop k with _|⟨C,o⟩
 rw[a,qCs]at J
 have b:=qAG a
 refine go ?_
 exact fin
 rw[a,qCs]at J
 have b:=qAF a
 refine go ?_
 refine AO.w (zLr T rfl rfl rfl rfl (zgG (zgD a)) rfl rfl rfl) (go ?_)
 obtain⟨t,n,J⟩:=zB J
 refine go ?_
 refine Cf J fun hc J=>?_
 refine go ?_
 refine⟨k+1,⟨b,(zds a▸J)⟩,qBm b,?_⟩
 exact Le.ct 0 0
 refine go ?_
 refine AW.cH J (fun _ J=>?_) (fun _ J=>?_)
 refine AW.q ?_
 obtain⟨u,e,J⟩:=zB J
 refine go ?_
 refine AO.w (cVs (qQi _ _ (e))) (go ?_)
 exact fin
 refine go ?_
 obtain⟨y,f,J⟩:=zB J
 refine go ?_
 refine AO.w (cVs (qPy _ _ _ _ (f))) (go ?_)
 exact fin
end Go.Proofs.YtkidpkmpnbibmaaGreatDoor

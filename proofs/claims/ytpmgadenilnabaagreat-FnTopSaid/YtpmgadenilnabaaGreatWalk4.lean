/- The walk, part 4: what each function reached by the law FnTop computes. No condition. -/
import Derived.Test.YtpmgadenilnabaaGreatWalk3
set_option maxRecDepth 4000
set_option maxHeartbeats 1000000
set_option linter.unusedVariables false
set_option linter.unusedSimpArgs false
set_option linter.unusedSectionVars false

namespace Go.Proofs.YtpmgadenilnabaaGreat
open Go.AM

def qDY (fuel:Nat) (c:Code) (p:Performance) (factor:Int) (judge:Int):Option (Int × Int × Bool) :=
 (qHG fuel c p factor judge).bind fun x1 =>
 cond (!x1)
  (some (0,0,false))
  ((qED fuel c p factor judge).bind fun x3 =>
  some (x3.1,x3.2,true))
theorem qJj (fuel:Nat) (c:Code) (p:Performance) (factor:Int) (judge:Int) (r:(Int × Int × Bool)) (hH:qDY fuel c p factor judge=some r):qAE Tryz.prog 14 [.g (ze7 c),.g (qGl p),factor,judge] (.t [.v (.int .i64 r.1),.v (.int .i64 r.2.1),.v (.bool r.2.2)]):=by
 refine fns T Tryz.func14 ?_
 refine AW.q (AW.r (AO.x (bxs T 1) ?_))
 refine AO.x (bxs T 2) ?_
 iterate 3 refine AO.pu T ?_
 refine AO.n (AW.q (AW.q ?_))
 obtain ⟨x1,hx2,hH⟩:=zB hH
 refine AW.r (AO.pu T (d:=.g [.s (List.map ze3 c.elements),.s (List.map ze0 c.limits),c.repeats,c.bonus,c.keeps,c.fall]) ?_)
 refine AO.pu T (d:=.g [.s (List.map ze2 p.items),.s (List.map ze1 p.marks.grades),.s (List.map ze1 p.marks.components),p.slips.falls,p.slips.seconds,p.slips.other]) ?_
 refine AO.p2 T ?_
 refine AO.w (cVs (qLp fuel _ _ _ _ _ (hx2))) ?_
 refine AO.pu T ?_
 refine AO.n (AW.c (b:=(!x1)) rfl (fun hc=>?_) (fun hc=>?_))
 replace hH:=condT hc hH
 refine AW.q (AW.r ?_)
 iterate 3 refine AO.pu T ?_
 refine AO.n (AW.t ?_)
 have hR:=zS hH;subst hR
 exact retQ.i [] rfl (.t (zG (.c .v) (zG (.c .v) (zG (.c .v) (zGn)))))
 replace hH:=condF hc hH
 refine AW.k (AW.q ?_)
 obtain ⟨x3,hx4,hH⟩:=zB hH
 refine AW.r (AO.pu T (d:=.g [.s (List.map ze3 c.elements),.s (List.map ze0 c.limits),c.repeats,c.bonus,c.keeps,c.fall]) ?_)
 refine AO.pu T (d:=.g [.s (List.map ze2 p.items),.s (List.map ze1 p.marks.grades),.s (List.map ze1 p.marks.components),p.slips.falls,p.slips.seconds,p.slips.other]) ?_
 refine AO.p2 T ?_
 refine AO.w (cVs (qJl fuel _ _ _ _ _ (hx4))) ?_
 iterate 5 refine AO.pu T ?_
 refine AO.n (AW.q (AW.r ?_))
 iterate 5 refine AO.pu T ?_
 refine AO.n (AW.le (Le.ct 0 0 (σ':=(⟨[(8,x3.1),(9,x3.2),(10,.v (.bool true))],[],29,[]⟩:St))) ?_)
 refine AW.t ?_
 have hR:=zS hH;subst hR
 exact retQ.i [] rfl (.t (zG (.c .v) (zG (.c .v) (zG (.c .v) (zGn)))))

def qGv (best:Int):Option Bool :=
 (qAM best 1 9).bind fun x1 =>
 some x1
theorem qJ5 (best:Int) (r:Bool) (hH:qGv best=some r):qAE Tryz.prog 52 [best] (.v (.bool r)):=by
 refine fns T Tryz.func52 ?_
 refine AW.q (AW.r (AO.pu T ?_))
 refine AO.n (AW.q ?_)
 obtain ⟨x1,hx2,hH⟩:=zB hH
 refine AW.r (AO.pu T ?_)
 refine AO.w (cVs (qAP _ _ _ _ (hx2))) ?_
 refine AO.pu T ?_
 refine AO.n (AW.t ?_)
 have hR:=zS hH;subst hR
 exact retQ.i [] rfl (.c (.c .v))

def qBP (y2:Line):List Int→Nat→List Entry→Option (List Entry)
 | [],k119,v134 =>
  some v134
 | y120::ys121,k119,v134 =>
  (qAb y2.points (k119:Int)).bind fun x136 =>
  (qCw (qBE 24 (v134.length+([(Entry.mk y120 y2.skater x136)]).length))).bind fun u138 =>
  qBP y2 ys121 (k119+1) (v134++[(Entry.mk y120 y2.skater x136)])
def qBo:List Line→Nat→List Entry→Option ((List Entry))
 | [],k1,v94 =>
  some v94
 | y2::ys3,k1,v94 =>
  (qBP y2 y2.events 0 v94).bind fun v116 =>
  qBo ys3 (k1+1) v116
def qEL (sA:Season):Option (List Entry) :=
 qBo sA.lines 0 []
theorem qH5 (sA:Season) (r:(List Entry)) (hH:qEL sA=some r):qAE Tryz.prog 44 [.g (qEd sA)] (.w 3 (r.map ze8)):=by
 refine fns T Tryz.func44 ?_
 refine AW.q (AW.r (AO.x (bxs T 1) ?_))
 refine AO.pu T ?_
 refine AO.n (AW.q (AW.r ?_))
 refine AO.x (qHd T rfl rfl rfl rfl) ?_
 refine AO.pu T ?_
 refine AO.n (AW.q (AW.q ?_))
 refine AW.r (AO.p2 T ?_)
 refine AO.w (qCC T) ?_
 refine AO.pu T ?_
 refine AO.n (AW.b ?_)
 refine AW.loopS (fun s:Nat × (List Entry)=>(⟨[(3,.R 6),(10,.s (List.map qCf sA.lines)),(11,(sA.lines.length:Int)),(12,(s.1:Int))],[(6,.row 3 (List.map ze8 s.2))],39,[]⟩:St)) (fun s=>s.1 ≤ sA.lines.length∧qBo (sA.lines.drop s.1) s.1 s.2=some r) (fun s=>sA.lines.length - s.1) (0,[]) ⟨Nat.zero_le _,hH⟩ ?_ ?_
 refine Le.trans (Le.void 3 6 3 rfl rfl) ?_
 exact Le.ct 0 0
 rintro ⟨k1,v94⟩ ⟨hk,hH⟩
 replace hH:qBo (sA.lines.drop k1) k1 v94=some r:=hH
 try dsimp only
 refine AW.boundM (t:=10) (l:=sA.lines) rfl (fun hb5=>?_)
 rcases hd4:sA.lines.drop k1 with _ | ⟨y2,ys3⟩
 rw [hd4,qBo] at hH
 have hlt6:=qAJ hd4
 refine AW.q (AW.r (AO.pu T ?_))
 refine AO.n (AW.q (AW.condF' (b:=decide ((k1:Int) < (sA.lines.length:Int))) rfl (qEQ hlt6) ?_))
 refine AW.exit (AW.q (AW.r ?_))
 refine AO.p2 T ?_
 refine AO.n (AW.t ?_)
 have hR:=zS hH;subst hR
 exact retQ.i [6] rfl (.c (.c (.rowR rfl)))
 rw [hd4,qBo] at hH
 have hlt6:=qAK hd4
 refine AW.q (AW.r (AO.pu T ?_))
 refine AO.n (AW.q (AW.condT' (b:=decide ((k1:Int) < (sA.lines.length:Int))) rfl (qER hlt6) ?_))
 refine AW.k ?_
 obtain ⟨o117,hH,hK118⟩:=zB hH
 refine AW.seqJ (fun s:List Entry=>(⟨[(3,.R 6),(10,.s (List.map qCf sA.lines)),(11,(sA.lines.length:Int)),(12,(k1:Int))],[(6,.row 3 (List.map ze8 s))],39,[]⟩:St)) (fun s=>s=o117) ?_ ?_
 refine AW.b (AW.q (AW.r ?_))
 refine AO.w (ixs T (zgD hd4)) ?_
 refine AO.pu T (d:=.g [y2.skater,.s (List.map ze0 y2.events),.s (List.map ze0 y2.points)]) ?_
 refine AO.x (als T 37) ?_
 refine AO.se T [y2.skater,.s (List.map ze0 y2.events),.s (List.map ze0 y2.points)] ?_
 refine AO.n (AW.q (AW.r ?_))
 refine AO.p2 T ?_
 refine AO.w (qCC T) ?_
 refine AO.pu T ?_
 refine AO.n (AW.b ?_)
 refine AW.loopS (fun s:Nat × (List Entry)=>(⟨[(3,.R 6),(5,.p 37 0),(10,.s (List.map qCf sA.lines)),(11,(sA.lines.length:Int)),(12,(k1:Int)),(17,.s (List.map ze0 y2.events)),(18,(y2.events.length:Int)),(19,(s.1:Int))],[(6,.row 3 (List.map ze8 s.2)),(37,.box [y2.skater,.s (List.map ze0 y2.events),.s (List.map ze0 y2.points)])],39,[]⟩:St)) (fun s=>s.1 ≤ y2.events.length∧qBP y2 (y2.events.drop s.1) s.1 s.2=some o117) (fun s=>y2.events.length - s.1) (0,v94) ⟨Nat.zero_le _,hH⟩ ?_ ?_
 exact Le.ct 0 0
 rintro ⟨k119,v134⟩ ⟨hk,hH⟩
 replace hH:qBP y2 (y2.events.drop k119) k119 v134=some o117:=hH
 try dsimp only
 refine AW.boundM (t:=17) (l:=y2.events) rfl (fun hb123=>?_)
 rcases hd122:y2.events.drop k119 with _ | ⟨y120,ys121⟩
 rw [hd122,qBP] at hH
 have hlt124:=qAJ hd122
 refine AW.q (AW.r (AO.pu T ?_))
 refine AO.n (AW.q (AW.condF' (b:=decide ((k119:Int) < (y2.events.length:Int))) rfl (qEQ hlt124) ?_))
 refine AW.exit ?_
 refine ⟨_,zS hH,?_⟩
 exact Le.ct 0 0
 rw [hd122,qBP] at hH
 have hlt124:=qAK hd122
 refine AW.q (AW.r (AO.pu T ?_))
 refine AO.n (AW.q (AW.condT' (b:=decide ((k119:Int) < (y2.events.length:Int))) rfl (qER hlt124) ?_))
 refine AW.k (AW.q ?_)
 refine AW.b (AW.q (AW.r ?_))
 refine AO.pu T ?_
 refine AO.w (ixs T (zgD hd122)) ?_
 iterate 3 refine AO.pu T ?_
 refine AO.n ?_
 obtain ⟨x136,hx137,hH⟩:=zB hH
 obtain ⟨u138,hx139,hH⟩:=zB hH
 refine AW.drawn 11 42 [] mix (by kernel_rfl) rfl ?_
 iterate 7 refine AD.pu T ?_
 refine AD.vv (ixs T (hx137)) ?_
 refine AD.pu T ?_
 refine AD.p T (d:=.g [y120,y2.skater,x136]) rfl rfl rfl ?_
 refine AD.q (FStep.mk T (f:=ze8) (l:=[(Entry.mk y120 y2.skater x136)]) rfl rfl rfl rfl rfl rfl rfl rfl rfl (fun _=>rfl) rfl rfl rfl rfl) (by simp [qBV]) (Nat.le_succ _) rfl ?_
 refine AD.nil (AO.x (rvs T 43 (hfit:=by exact qA4 (hx139))) ?_)
 refine AO.pu T ?_
 refine AO.n (AW.r ?_)
 refine AO.w (zR rfl rfl rfl rfl (zK hlt124 hb123)) ?_
 refine AO.pu T ?_
 refine AO.n ?_
 refine ⟨(k119+1,(v134++[(Entry.mk y120 y2.skater x136)])),⟨Nat.succ_le_of_lt hlt124,(by rw [zds hd122];exact hH)⟩,(by have:=hlt124;dsimp only;omega),?_⟩
 exact Le.ct 43 6
 rintro v116 hs
 subst hs
 replace hH:=hK118
 try dsimp only [qKp,qID] at hH
 try dsimp only
 refine AW.r (AO.w (zR rfl rfl rfl rfl (zK hlt6 hb5)) ?_)
 refine AO.pu T ?_
 refine AO.n ?_
 refine ⟨(k1+1,v116),⟨Nat.succ_le_of_lt hlt6,(by rw [zds hd4];exact hH)⟩,(by have:=hlt6;dsimp only;omega),?_⟩
 exact Le.ct 0 0

def qHv (event:Int):Option Bool :=
 (qAM event 1 99).bind fun x1 =>
 some x1
theorem qMj (event:Int) (r:Bool) (hH:qHv event=some r):qAE Tryz.prog 91 [event] (.v (.bool r)):=by
 refine fns T Tryz.func91 ?_
 refine AW.q (AW.r (AO.pu T ?_))
 refine AO.n (AW.q ?_)
 obtain ⟨x1,hx2,hH⟩:=zB hH
 refine AW.r (AO.pu T ?_)
 refine AO.w (cVs (qAP _ _ _ _ (hx2))) ?_
 refine AO.pu T ?_
 refine AO.n (AW.t ?_)
 have hR:=zS hH;subst hR
 exact retQ.i [] rfl (.c (.c .v))

def qFp (skater:Int):Option Bool :=
 (qAM skater 1 999).bind fun x1 =>
 some x1
theorem qIo (skater:Int) (r:Bool) (hH:qFp skater=some r):qAE Tryz.prog 92 [skater] (.v (.bool r)):=by
 refine fns T Tryz.func92 ?_
 refine AW.q (AW.r (AO.pu T ?_))
 refine AO.n (AW.q ?_)
 obtain ⟨x1,hx2,hH⟩:=zB hH
 refine AW.r (AO.pu T ?_)
 refine AO.w (cVs (qAP _ _ _ _ (hx2))) ?_
 refine AO.pu T ?_
 refine AO.n (AW.t ?_)
 have hR:=zS hH;subst hR
 exact retQ.i [] rfl (.c (.c .v))

def qAY (f:Entry→Option Bool):List Entry→Nat→Option Int
 | [],k1 =>
  some (-1)
 | y2::ys3,k1 =>
  (f y2).bind fun x12 =>
  cond x12
   (some (k1:Int))
   (qAY f ys3 (k1+1))
def qD5 (sA:List Entry) (f:Entry→Option Bool):Option Int :=
 qAY f sA 0
theorem qHx (sA:List Entry) (f_f:Nat) (f_c:List D) (f_k:f_c.all D.capOk=true) (f:Entry→Option Bool) (f_h:∀ (a0:Entry) (q:Bool),f a0=some q→qAE Tryz.prog f_f ([.g (ze8 a0)]++f_c) (.v (.bool q))) (r:Int) (hH:qD5 sA f=some r):qAE Tryz.prog 132 [.s (List.map ze8 sA),.f f_f f_c] (.v (.int .i64 r)):=by
 have f_r:=qHA f_k
 refine fns T Tryz.func132 ?_
 refine AW.q (AW.r (AO.pu T ?_))
 refine AO.n (AW.q (AW.q ?_))
 refine AW.r (AO.pu T ?_)
 refine AO.w (qCC T) ?_
 refine AO.pu T ?_
 refine AO.n (AW.b ?_)
 refine AW.loopS (fun s:Nat=>(⟨[(0,.s (List.map ze8 sA)),(1,.f f_f f_c),(7,(sA.length:Int)),(8,(s:Int))],[],19,[]⟩:St)) (fun s=>s ≤ sA.length∧qAY f (sA.drop s) s=some r) (fun s=>sA.length - s) 0 ⟨Nat.zero_le _,hH⟩ ?_ ?_
 exact Le.cut 0 0 rfl ⟨⟨_,rfl,rfl⟩,⟨_,rfl,qJM f_r⟩,⟨_,rfl,rfl⟩,⟨_,rfl,rfl⟩,trivial⟩ (by repeat' (first | exact trivial | refine ⟨⟨_,rfl,rfl⟩,?_⟩)) (qOK (qHQ rfl (qHQ (qFr f_r) (qHQ rfl (qHQ rfl qQO)))) rfl)
 rintro k1 ⟨hk,hH⟩
 replace hH:qAY f (sA.drop k1) k1=some r:=hH
 try dsimp only
 refine AW.boundM (t:=0) (l:=sA) rfl (fun hb5=>?_)
 rcases hd4:sA.drop k1 with _ | ⟨y2,ys3⟩
 rw [hd4,qAY] at hH
 have hlt6:=qAJ hd4
 refine AW.q (AW.r (AO.pu T ?_))
 refine AO.n (AW.q (AW.condF' (b:=decide ((k1:Int) < (sA.length:Int))) rfl (qEQ hlt6) ?_))
 refine AW.exit (AW.q (AW.r ?_))
 refine AO.pu T ?_
 refine AO.n (AW.t ?_)
 have hR:=zS hH;subst hR
 exact retQ.i [] rfl (.c (.c .v))
 rw [hd4,qAY] at hH
 have hlt6:=qAK hd4
 refine AW.q (AW.r (AO.pu T ?_))
 refine AO.n (AW.q (AW.condT' (b:=decide ((k1:Int) < (sA.length:Int))) rfl (qER hlt6) ?_))
 refine AW.k (AW.q ?_)
 refine AW.b (AW.q (AW.r ?_))
 refine AO.p2 T ?_
 refine AO.n (AW.q ?_)
 obtain ⟨x12,hx13,hH⟩:=zB hH
 refine AW.r ?_
 iterate 3 refine AO.pu T ?_
 refine AO.w (ixs T (zgD hd4)) ?_
 refine AO.pu T (d:=.g [y2.event,y2.skater,y2.points]) ?_
 refine AO.w (zV rfl rfl rfl (qOK rfl (qH7 f_r)) (f_h _ _ (hx13)) rfl) ?_
 refine AO.n (AW.c (b:=x12) rfl (fun hc=>?_) (fun hc=>?_))
 replace hH:=condT hc hH
 refine AW.q (AW.r (AO.p2 T ?_))
 refine AO.n (AW.t ?_)
 have hR:=zS hH;subst hR
 exact retQ.i [] rfl (.c (.c .v))
 replace hH:=condF hc hH
 refine AW.k (AW.r ?_)
 refine AO.w (zR rfl rfl rfl rfl (zK hlt6 hb5)) ?_
 refine AO.pu T ?_
 refine AO.n ?_
 refine ⟨k1+1,⟨Nat.succ_le_of_lt hlt6,(by rw [zds hd4];exact hH)⟩,(by have:=hlt6;dsimp only;omega),?_⟩
 exact Le.cut 0 0 rfl ⟨⟨_,rfl,rfl⟩,⟨_,rfl,qJM f_r⟩,⟨_,rfl,rfl⟩,⟨_,rfl,rfl⟩,trivial⟩ (by repeat' (first | exact trivial | refine ⟨⟨_,rfl,rfl⟩,?_⟩)) (qOK (qHQ rfl (qHQ (qFr f_r) (qHQ rfl (qHQ rfl qQO)))) rfl)

def qCE (sA:List Entry) (f:Entry→Option Bool):Option Bool :=
 (qD5 sA f).bind fun x1 =>
 some (decide (x1 ≥ 0))
theorem qGp (sA:List Entry) (f_f:Nat) (f_c:List D) (f_k:f_c.all D.capOk=true) (f:Entry→Option Bool) (f_h:∀ (a0:Entry) (q:Bool),f a0=some q→qAE Tryz.prog f_f ([.g (ze8 a0)]++f_c) (.v (.bool q))) (r:Bool) (hH:qCE sA f=some r):qAE Tryz.prog 93 [.s (List.map ze8 sA),.f f_f f_c] (.v (.bool r)):=by
 have f_r:=qHA f_k
 refine fns T Tryz.func93 ?_
 refine AW.q (AW.r (AO.pu T ?_))
 refine AO.n (AW.q ?_)
 obtain ⟨x1,hx2,hH⟩:=zB hH
 refine AW.r (AO.p2 T ?_)
 refine AO.w (zV rfl rfl rfl (qOK (qHQ rfl (qHQ f_r qQO)) rfl) (qHx _ f_f f_c f_k f f_h _ (hx2)) rfl) ?_
 refine AO.p2 T ?_
 refine AO.n (AW.t ?_)
 have hR:=zS hH;subst hR
 exact retQ.i [] rfl (.c (.c .v))

def qD0 (x:Entry) (a:Entry):Option Bool :=
 some ((x.event == a.event) && (x.skater == a.skater))
theorem qJG (x:Entry) (a:Entry) (r:Bool) (hH:qD0 x a=some r):qAE Tryz.prog 94 [.g (ze8 x),.q (ze8 a)] (.v (.bool r)):=by
 refine fns T Tryz.func94 ?_
 refine AW.q (AW.r (AO.x (bxs T 1) ?_))
 refine AO.pu T ?_
 refine AO.n (AW.q (AW.r ?_))
 iterate 6 refine AO.pu T ?_
 refine AO.g T [] rfl trivial rfl rfl ?_
 refine AO.g T [10] rfl ⟨fun h=>h,trivial⟩ rfl rfl ?_
 refine AO.g T [] rfl trivial rfl rfl ?_
 refine AO.g T [12] rfl ⟨fun h=>h,trivial⟩ rfl rfl ?_
 refine AO.g T [11,13] rfl ⟨fun h=>h,fun h=>h,trivial⟩ rfl rfl ?_
 refine AO.w qFy ?_
 refine AO.pu T ?_
 refine AO.n (AW.t ?_)
 have hR:=zS hH;subst hR
 exact retQ.i [] rfl (.c (.c .v))

def qBU (l:List Entry):List Entry→Nat→Option Bool
 | [],k1 =>
  some (decide ((l.length:Int) ≤ 80))
 | y2::ys3,k1 =>
  (qHv y2.event).bind fun x28 =>
  (opt (!(!x28)) default (qFp y2.skater)).bind fun x30 =>
  (opt (!((!x28) || (!x30))) default (qAM y2.points 0 100000)).bind fun x32 =>
  cond (((!x28) || (!x30)) || (!x32))
   (some false)
   ((qCD l (k1:Int)).bind fun x34 =>
   (qCE x34 (fun a0=>qD0 a0 y2)).bind fun x36 =>
   cond x36
    (some false)
    (qBU l ys3 (k1+1)))
def qD7 (l:List Entry):Option Bool :=
 qBU l l 0
theorem qFs (l:List Entry) (r:Bool) (hH:qD7 l=some r):qAE Tryz.prog 45 [.s (List.map ze8 l)] (.v (.bool r)):=by
 refine fns T Tryz.func45 ?_
 refine AW.q (AW.r (AO.pu T ?_))
 refine AO.n (AW.q (AW.q ?_))
 refine AW.r (AO.pu T ?_)
 refine AO.w (qCC T) ?_
 refine AO.pu T ?_
 refine AO.n (AW.b ?_)
 refine AW.loopS (fun s:Nat=>(⟨[(0,.s (List.map ze8 l)),(5,.s (List.map ze8 l)),(6,(l.length:Int)),(7,(s:Int))],[],37,[]⟩:St)) (fun s=>s ≤ l.length∧qBU l (l.drop s) s=some r) (fun s=>l.length - s) 0 ⟨Nat.zero_le _,hH⟩ ?_ ?_
 exact Le.ct 0 0
 rintro k1 ⟨hk,hH⟩
 replace hH:qBU l (l.drop k1) k1=some r:=hH
 try dsimp only
 refine AW.boundM (t:=0) (l:=l) rfl (fun hb5=>?_)
 rcases hd4:l.drop k1 with _ | ⟨y2,ys3⟩
 rw [hd4,qBU] at hH
 have hlt6:=qAJ hd4
 refine AW.q (AW.r (AO.pu T ?_))
 refine AO.n (AW.q (AW.condF' (b:=decide ((k1:Int) < (l.length:Int))) rfl (qEQ hlt6) ?_))
 refine AW.exit (AW.q (AW.r ?_))
 refine AO.pu T ?_
 refine AO.w (qCC T) ?_
 refine AO.p2 T ?_
 refine AO.n (AW.t ?_)
 have hR:=zS hH;subst hR
 exact retQ.i [] rfl (.c (.c .v))
 rw [hd4,qBU] at hH
 have hlt6:=qAK hd4
 refine AW.q (AW.r (AO.pu T ?_))
 refine AO.n (AW.q (AW.condT' (b:=decide ((k1:Int) < (l.length:Int))) rfl (qER hlt6) ?_))
 refine AW.k (AW.q ?_)
 refine AW.b (AW.q (AW.r ?_))
 refine AO.pu T ?_
 refine AO.w (ixs T (zgD hd4)) ?_
 refine AO.pu T (d:=.g [y2.event,y2.skater,y2.points]) ?_
 refine AO.x (als T 3) ?_
 refine AO.pu T ?_
 refine AO.se T [y2.event,y2.skater,y2.points] ?_
 refine AO.n (AW.q (AW.q ?_))
 obtain ⟨x28,hx29,hH⟩:=zB hH
 obtain ⟨x30,hx31,hH⟩:=zB hH
 obtain ⟨x32,hx33,hH⟩:=zB hH
 refine AW.r (AO.p2 T ?_)
 refine AO.w (cVs (qMj _ _ (hx29))) ?_
 refine AO.p2 T ?_
 refine AO.g T [] rfl trivial rfl rfl ?_
 refine AO.g T [17] rfl ⟨fun h=>h,trivial⟩ rfl rfl ?_
 refine AO.d [18] rfl ⟨fun h=>h,trivial⟩ (fun hg=>zV rfl rfl rfl rfl (qIo _ _ (qEA hx31 hg)) rfl) rfl ?_
 refine AO.g T [19] rfl ⟨fun h=>h,trivial⟩ rfl rfl ?_
 refine AO.w ors ?_
 refine AO.pu T ?_
 refine AO.g T [] rfl trivial rfl rfl ?_
 refine AO.g T [23] rfl ⟨fun h=>h,trivial⟩ rfl rfl ?_
 refine AO.d [24] rfl ⟨fun h=>h,trivial⟩ (fun hg=>zV rfl rfl rfl rfl (qAP _ _ _ _ (qEA hx33 hg)) rfl) rfl ?_
 refine AO.g T [25] rfl ⟨fun h=>h,trivial⟩ rfl rfl ?_
 refine AO.w ors ?_
 refine AO.n (AW.c (b:=(((!x28) || (!x30)) || (!x32))) rfl (fun hc=>?_) (fun hc=>?_))
 replace hH:=condT hc hH
 refine AW.q (AW.r (AO.pu T ?_))
 refine AO.n (AW.le (Le.ct 0 0 (σ':=(⟨[(2,.v (.bool false))],[],37,[]⟩:St))) ?_)
 refine AW.t ?_
 have hR:=zS hH;subst hR
 exact retQ.i [] rfl (.c (.c .v))
 replace hH:=condF hc hH
 refine AW.k (AW.q ?_)
 obtain ⟨x34,hx35,hH⟩:=zB hH
 obtain ⟨x36,hx37,hH⟩:=zB hH
 refine AW.r (AO.p2 T ?_)
 refine AO.w (qAa T rfl rfl rfl rfl rfl (hx35) (fun _=>rfl)) ?_
 refine AO.pu T ?_
 refine AO.w (zLV rfl rfl rfl (es:=[.s (List.map ze8 x34),.f 94 [.q [y2.event,y2.skater,y2.points]]]) ⟨.free rfl,qS7 (LendL.cons (Lend.boxF rfl rfl) LendL.nil),trivial⟩ (qGp _ 94 [.q [y2.event,y2.skater,y2.points]] rfl (fun a0=>qD0 a0 y2) (fun a0 q h=>qJG a0 y2 q h) _ (hx37)) (qAF _) rfl) ?_
 refine AO.n (AW.le (Le.ct 0 0 (σ':=(⟨[(0,.s (List.map ze8 l)),(5,.s (List.map ze8 l)),(6,(l.length:Int)),(7,(k1:Int)),(32,.v (.bool x36))],[],37,[]⟩:St))) ?_)
 refine AW.c (b:=x36) rfl (fun hc=>?_) (fun hc=>?_)
 replace hH:=condT hc hH
 refine AW.q (AW.r (AO.pu T ?_))
 refine AO.n (AW.t ?_)
 have hR:=zS hH;subst hR
 exact retQ.i [] rfl (.c (.c .v))
 replace hH:=condF hc hH
 refine AW.k (AW.r ?_)
 refine AO.w (zR rfl rfl rfl rfl (zK hlt6 hb5)) ?_
 refine AO.pu T ?_
 refine AO.n ?_
 refine ⟨k1+1,⟨Nat.succ_le_of_lt hlt6,(by rw [zds hd4];exact hH)⟩,(by have:=hlt6;dsimp only;omega),?_⟩
 exact Le.ct 0 0

def qAT (x:List Entry) (cmp:Entry→Entry→Option Int):Nat→Int→Option Bool
 | 0,_=>none
 | k1+1,v15 =>
  cond (decide (v15 > 0))
   ((qAb x v15).bind fun x17 =>
   (qAb x (w64 (v15 - 1))).bind fun x19 =>
   (cmp x17 x19).bind fun x21 =>
   cond (decide (x21 < 0))
    (some false)
    (qAT x cmp k1 (w64 (v15 - 1))))
   (some true)
def qCF (fuel:Nat) (x:List Entry) (cmp:Entry→Entry→Option Int):Option Bool :=
 qAT x cmp fuel (w64 ((x.length:Int) - 1))
theorem qGu (fuel:Nat) (x:List Entry) (cmp_f:Nat) (cmp_c:List D) (cmp_k:cmp_c.all D.capOk=true) (cmp:Entry→Entry→Option Int) (cmp_h:∀ (a0:Entry) (a1:Entry) (q:Int),cmp a0 a1=some q→qAE Tryz.prog cmp_f ([.g (ze8 a0),.g (ze8 a1)]++cmp_c) (.v (.int .i64 q))) (r:Bool) (hH:qCF fuel x cmp=some r):qAE Tryz.prog 89 [.s (List.map ze8 x),.f cmp_f cmp_c] (.v (.bool r)):=by
 have cmp_r:=qHA cmp_k
 refine fns T Tryz.func89 ?_
 refine AW.q (AW.r (AO.pu T ?_))
 refine AO.n (AW.q (AW.q ?_))
 refine AW.r (AO.pu T ?_)
 refine AO.w (qCC T) ?_
 refine AO.w aws ?_
 refine AO.pu T ?_
 refine AO.n (AW.b ?_)
 refine AW.loopS (fun s:Nat × Int=>(⟨[(0,.s (List.map ze8 x)),(1,.f cmp_f cmp_c),(5,s.2)],[],25,[]⟩:St)) (fun s=>qAT x cmp s.1 s.2=some r) (fun s=>s.1) (fuel,w64 ((x.length:Int) - 1)) hH ?_ ?_
 exact Le.cut 0 0 rfl ⟨⟨_,rfl,rfl⟩,⟨_,rfl,qJM cmp_r⟩,⟨_,rfl,rfl⟩,trivial⟩ (by repeat' (first | exact trivial | refine ⟨⟨_,rfl,rfl⟩,?_⟩)) (qOK (qHQ rfl (qHQ (qFr cmp_r) (qHQ rfl qQO))) rfl)
 rintro ⟨k1,v15⟩ hH
 replace hH:qAT x cmp k1 v15=some r:=hH
 try dsimp only
 rcases k1 with _ | k1
 cases (show none=some _ from hH)
 rw [qAT] at hH
 refine AW.q (AW.q (AW.r ?_))
 refine AO.p2 T ?_
 refine AO.n (AW.c (b:=decide (v15 > 0)) rfl (fun hc=>?_) (fun hc=>?_))
 replace hH:=condT hc hH
 refine AW.k (AW.q ?_)
 refine AW.b (AW.q ?_)
 obtain ⟨x17,hx18,hH⟩:=zB hH
 obtain ⟨x19,hx20,hH⟩:=zB hH
 obtain ⟨x21,hx22,hH⟩:=zB hH
 refine AW.drawn 10 1 [] mix (by kernel_rfl) rfl ?_
 iterate 3 refine AD.pu T ?_
 refine AD.vv (ixs T (hx18)) ?_
 refine AD.p T (d:=.g [x17.event,x17.skater,x17.points]) rfl rfl rfl ?_
 iterate 2 refine AD.pu T ?_
 refine AD.vv aws ?_
 refine AD.vv (ixs T (hx20)) ?_
 refine AD.p T (d:=.g [x19.event,x19.skater,x19.points]) rfl rfl rfl ?_
 refine AD.nil (AO.w (zV rfl rfl rfl (qOK rfl (qH7 cmp_r)) (cmp_h _ _ _ (hx22)) rfl) ?_)
 refine AO.pu T ?_
 refine AO.n (AW.c (b:=decide (x21 < 0)) rfl (fun hc=>?_) (fun hc=>?_))
 replace hH:=condT hc hH
 refine AW.q (AW.r (AO.pu T ?_))
 refine AO.n (AW.t ?_)
 have hR:=zS hH;subst hR
 exact retQ.i [] rfl (.c (.c .v))
 replace hH:=condF hc hH
 refine AW.k (AW.r ?_)
 refine AO.pu T ?_
 refine AO.w aws ?_
 refine AO.pu T ?_
 refine AO.n ?_
 refine ⟨(k1,w64 (v15 - 1)),hH,Nat.lt_succ_self _,?_⟩
 exact Le.cut 0 0 rfl ⟨⟨_,rfl,rfl⟩,⟨_,rfl,qJM cmp_r⟩,⟨_,rfl,rfl⟩,trivial⟩ (by repeat' (first | exact trivial | refine ⟨⟨_,rfl,rfl⟩,?_⟩)) (qOK (qHQ rfl (qHQ (qFr cmp_r) (qHQ rfl qQO))) rfl)
 replace hH:=condF hc hH
 refine AW.exit (AW.q (AW.r ?_))
 refine AO.pu T ?_
 refine AO.n (AW.t ?_)
 have hR:=zS hH;subst hR
 exact retQ.i [] rfl (.c (.c .v))

def qAN (a:Entry) (b:Entry):Option Int :=
 cond (a.skater != b.skater)
  (some (w64 (a.skater - b.skater)))
  (cond (a.points != b.points)
   (some (w64 (b.points - a.points)))
   (some (w64 (a.event - b.event))))
theorem qF2 (a:Entry) (b:Entry) (r:Int) (hH:qAN a b=some r):qAE Tryz.prog 90 [.g (ze8 a),.g (ze8 b)] (.v (.int .i64 r)):=by
 refine fns T Tryz.func90 ?_
 refine AW.q (AW.r (AO.x (bxs T 1) ?_))
 refine AO.x (bxs T 2) ?_
 refine AO.pu T ?_
 refine AO.n (AW.q (AW.b ?_))
 refine AW.q (AW.r ?_)
 iterate 6 refine AO.pu T ?_
 refine AO.n (AW.c (b:=(a.skater != b.skater)) rfl (fun hc=>?_) (fun hc=>?_))
 replace hH:=condT hc hH
 refine AW.q (AW.r ?_)
 iterate 4 refine AO.pu T ?_
 refine AO.w aws ?_
 refine AO.pu T ?_
 refine AO.n (AW.t ?_)
 have hR:=zS hH;subst hR
 exact retQ.i [] rfl (.c (.c .v))
 replace hH:=condF hc hH
 refine AW.q (AW.r ?_)
 iterate 6 refine AO.pu T ?_
 refine AO.n (AW.c (b:=(a.points != b.points)) rfl (fun hc=>?_) (fun hc=>?_))
 replace hH:=condT hc hH
 refine AW.q (AW.r ?_)
 iterate 4 refine AO.pu T ?_
 refine AO.w aws ?_
 refine AO.pu T ?_
 refine AO.n (AW.t ?_)
 have hR:=zS hH;subst hR
 exact retQ.i [] rfl (.c (.c .v))
 replace hH:=condF hc hH
 refine AW.k (AW.q (AW.r ?_))
 iterate 4 refine AO.pu T ?_
 refine AO.w aws ?_
 refine AO.pu T ?_
 refine AO.n (AW.t ?_)
 have hR:=zS hH;subst hR
 exact retQ.i [] rfl (.c (.c .v))

def qBe (sA:Season) (fuel:Nat):List Line→Nat→Option Bool
 | [],k3 =>
  (qEL sA).bind fun x14 =>
  (qD7 x14).bind fun x16 =>
  (opt x16 default (qCF fuel x14 (fun a0 a1=>qAN a0 a1 ))).bind fun x18 =>
  some (x16 && x18)
 | y4::ys5,k3 =>
  cond ((((y4.events.length:Int) == 0) || decide ((y4.events.length:Int) > 80)) || ((y4.events.length:Int) != (y4.points.length:Int)))
   (some false)
   ((opt (decide ((k3:Int) > 0)) default (qAb sA.lines (w64 ((k3:Int) - 1)))).bind fun x20 =>
   cond (decide ((k3:Int) > 0) && decide (x20.skater ≥ y4.skater))
    (some false)
    (qBe sA fuel ys5 (k3+1)))
def qEb (fuel:Nat) (sA:Season):Option Bool :=
 (qGv sA.best).bind fun x1 =>
 cond ((!x1) || decide ((sA.lines.length:Int) > 80))
  (some false)
  (qBe sA fuel sA.lines 0)
theorem qIn (fuel:Nat) (sA:Season) (r:Bool) (hH:qEb fuel sA=some r):qAE Tryz.prog 43 [.g (qEd sA)] (.v (.bool r)):=by
 refine fns T Tryz.func43 ?_
 refine AW.q (AW.r (AO.x (bxs T 1) ?_))
 refine AO.pu T ?_
 refine AO.n (AW.q (AW.q ?_))
 obtain ⟨x1,hx2,hH⟩:=zB hH
 refine AW.r (AO.p2 T ?_)
 refine AO.w (cVs (qJ5 _ _ (hx2))) ?_
 refine AO.p2 T ?_
 refine AO.g T [] rfl trivial rfl rfl ?_
 refine AO.g T [11] rfl ⟨fun h=>h,trivial⟩ rfl rfl ?_
 refine AO.d [12] rfl ⟨fun h=>h,trivial⟩ (fun hg=>zL T rfl rfl rfl) rfl ?_
 refine AO.g T [13] rfl ⟨fun h=>h,trivial⟩ rfl rfl ?_
 refine AO.w ors ?_
 refine AO.n (AW.c (b:=((!x1) || decide ((sA.lines.length:Int) > 80))) rfl (fun hc=>?_) (fun hc=>?_))
 replace hH:=condT hc hH
 refine AW.q (AW.r (AO.pu T ?_))
 refine AO.n (AW.t ?_)
 have hR:=zS hH;subst hR
 exact retQ.i [] rfl (.c (.c .v))
 replace hH:=condF hc hH
 refine AW.k (AW.q (AW.q ?_))
 refine AW.r (AO.p2 T ?_)
 refine AO.w (qCC T) ?_
 refine AO.pu T ?_
 refine AO.n (AW.b ?_)
 refine AW.loopS (fun s:Nat=>(⟨[(1,.p 1 0),(17,.s (List.map qCf sA.lines)),(18,(sA.lines.length:Int)),(19,(s:Int))],[(1,.box [sA.best,.s (List.map qCf sA.lines)])],66,[]⟩:St)) (fun s=>s ≤ sA.lines.length∧qBe sA fuel (sA.lines.drop s) s=some r) (fun s=>sA.lines.length - s) 0 ⟨Nat.zero_le _,hH⟩ ?_ ?_
 exact Le.ct 0 0
 rintro k3 ⟨hk,hH⟩
 replace hH:qBe sA fuel (sA.lines.drop k3) k3=some r:=hH
 try dsimp only
 refine AW.boundM (t:=17) (l:=sA.lines) rfl (fun hb7=>?_)
 rcases hd6:sA.lines.drop k3 with _ | ⟨y4,ys5⟩
 rw [hd6,qBe] at hH
 have hlt8:=qAJ hd6
 refine AW.q (AW.r (AO.pu T ?_))
 refine AO.n (AW.q (AW.condF' (b:=decide ((k3:Int) < (sA.lines.length:Int))) rfl (qEQ hlt8) ?_))
 refine AW.exit (AW.q ?_)
 obtain ⟨x14,hx15,hH⟩:=zB hH
 refine AW.r (AO.pu T (d:=.g [sA.best,.s (List.map qCf sA.lines)]) ?_)
 refine AO.x (qBk rfl 4 rfl rfl rfl (qH5 _ _ (hx15)) rfl rfl rfl) ?_
 refine AO.pu T ?_
 refine AO.n (AW.q ?_)
 obtain ⟨x16,hx17,hH⟩:=zB hH
 obtain ⟨x18,hx19,hH⟩:=zB hH
 refine AW.r (AO.pu T ?_)
 refine AO.w (zLV rfl rfl rfl (es:=[.s (List.map ze8 x14)]) ⟨(.rowR rfl (.map fun y=>.vs rfl)),trivial⟩ (qFs _ _ (hx17)) (qAF _) rfl) ?_
 refine AO.pu T ?_
 refine AO.g T [] rfl trivial rfl rfl ?_
 refine AO.d [63] rfl ⟨fun h=>h,trivial⟩ (fun hg=>zLV rfl rfl rfl (es:=[.s (List.map ze8 x14),.f 90 []]) ⟨(.rowR rfl (.map fun y=>.vs rfl)),.free rfl,trivial⟩ (qGu fuel _ 90 [] rfl (fun a0 a1=>qAN a0 a1 ) (fun a0 a1 q h=>qF2 a0 a1  q h) _ (qEA hx19 hg)) (qAF _) rfl) rfl ?_
 refine AO.w qFy ?_
 refine AO.pu T ?_
 refine AO.n (AW.t ?_)
 have hR:=zS hH;subst hR
 exact retQ.i [] rfl (.c (.c .v))
 rw [hd6,qBe] at hH
 have hlt8:=qAK hd6
 refine AW.q (AW.r (AO.pu T ?_))
 refine AO.n (AW.q (AW.condT' (b:=decide ((k3:Int) < (sA.lines.length:Int))) rfl (qER hlt8) ?_))
 refine AW.k (AW.q ?_)
 refine AW.b (AW.q (AW.r ?_))
 refine AO.pu T ?_
 refine AO.w (ixs T (zgD hd6)) ?_
 refine AO.pu T (d:=.g [y4.skater,.s (List.map ze0 y4.events),.s (List.map ze0 y4.points)]) ?_
 refine AO.x (als T 5) ?_
 refine AO.pu T ?_
 refine AO.se T [y4.skater,.s (List.map ze0 y4.events),.s (List.map ze0 y4.points)] ?_
 refine AO.n (AW.q (AW.q ?_))
 refine AW.r (AO.p2 T ?_)
 refine AO.w (qCC T) ?_
 refine AO.p2 T ?_
 refine AO.g T [] rfl trivial rfl rfl ?_
 refine AO.g T [29] rfl ⟨fun h=>h,trivial⟩ rfl rfl ?_
 refine AO.d [30] rfl ⟨fun h=>h,trivial⟩ (fun hg=>zL T rfl rfl rfl) rfl ?_
 refine AO.g T [31] rfl ⟨fun h=>h,trivial⟩ rfl rfl ?_
 refine AO.w ors ?_
 refine AO.pu T ?_
 refine AO.g T [] rfl trivial rfl rfl ?_
 refine AO.g T [35] rfl ⟨fun h=>h,trivial⟩ rfl rfl ?_
 refine AO.d [36] rfl ⟨fun h=>h,trivial⟩ (fun hg=>zL T rfl rfl rfl) rfl ?_
 refine AO.g T [] rfl trivial rfl rfl ?_
 refine AO.g T [38] rfl ⟨fun h=>h,trivial⟩ rfl rfl ?_
 refine AO.d [39] rfl ⟨fun h=>h,trivial⟩ (fun hg=>zL T rfl rfl rfl) rfl ?_
 refine AO.g T [37,40] rfl ⟨fun h=>h,fun h=>h,trivial⟩ rfl rfl ?_
 refine AO.w ors ?_
 refine AO.n (AW.le (Le.ct 0 0 (σ':=(⟨[(1,.p 1 0),(3,(k3:Int)),(4,.p 5 0),(17,.s (List.map qCf sA.lines)),(18,(sA.lines.length:Int)),(19,(k3:Int)),(42,.v (.bool ((((y4.events.length:Int) == 0) || decide ((y4.events.length:Int) > 80)) || ((y4.events.length:Int) != (y4.points.length:Int)))))],[(1,.box [sA.best,.s (List.map qCf sA.lines)]),(5,.box [y4.skater,.s (List.map ze0 y4.events),.s (List.map ze0 y4.points)])],66,[]⟩:St))) ?_)
 refine AW.c (b:=((((y4.events.length:Int) == 0) || decide ((y4.events.length:Int) > 80)) || ((y4.events.length:Int) != (y4.points.length:Int)))) rfl (fun hc=>?_) (fun hc=>?_)
 replace hH:=condT hc hH
 refine AW.q (AW.r (AO.pu T ?_))
 refine AO.n (AW.t ?_)
 have hR:=zS hH;subst hR
 exact retQ.i [] rfl (.c (.c .v))
 replace hH:=condF hc hH
 refine AW.k (AW.q ?_)
 obtain ⟨x20,hx21,hH⟩:=zB hH
 refine AW.drawn 12 6 [] mix (by kernel_rfl) rfl ?_
 iterate 3 refine AD.pu T ?_
 refine AD.pureG T [] rfl trivial rfl rfl ?_
 refine AD.pureG T [46] rfl ⟨fun h=>h,trivial⟩ rfl rfl ?_
 refine AD.pureG T [] rfl trivial rfl rfl ?_
 refine AD.guard [48] rfl ⟨fun h=>h,trivial⟩ (fun hg=>zW rfl rfl rfl rfl) rfl ?_
 refine AD.guard [47,49] rfl ⟨fun h=>h,fun h=>h,trivial⟩ (fun hg=>zX T rfl rfl rfl rfl rfl (qEA hx21 hg) rfl) rfl ?_
 refine AD.pureG T [50] rfl ⟨fun h=>h,trivial⟩ rfl rfl ?_
 refine AD.pureG T [51] rfl ⟨fun h=>h,trivial⟩ rfl rfl ?_
 refine AD.pureG T [] rfl trivial rfl rfl ?_
 refine AD.pureG T [53] rfl ⟨fun h=>h,trivial⟩ rfl rfl ?_
 refine AD.nil (AO.g T [52,54] rfl ⟨fun h=>h,fun h=>h,trivial⟩ rfl rfl ?_)
 refine AO.w qFy ?_
 refine AO.n (AW.c (b:=(decide ((k3:Int) > 0) && decide (x20.skater ≥ y4.skater))) rfl (fun hc=>?_) (fun hc=>?_))
 replace hH:=condT hc hH
 refine AW.q (AW.r (AO.pu T ?_))
 refine AO.n (AW.t ?_)
 have hR:=zS hH;subst hR
 exact retQ.i [] rfl (.c (.c .v))
 replace hH:=condF hc hH
 refine AW.k (AW.r ?_)
 refine AO.w (zR rfl rfl rfl rfl (zK hlt8 hb7)) ?_
 refine AO.pu T ?_
 refine AO.n ?_
 refine ⟨k3+1,⟨Nat.succ_le_of_lt hlt8,(by rw [zds hd6];exact hH)⟩,(by have:=hlt8;dsimp only;omega),?_⟩
 exact Le.ct 0 0

def qEH (x:List Entry) (cmp:Entry→Entry→Option Int):Option (List Entry):=qNx cmp x
theorem qIC (x:List Entry) (cmp_f:Nat) (cmp_c:List D) (cmp_k:cmp_c.all D.capOk=true) (cmp:Entry→Entry→Option Int) (cmp_h:∀ (a0 a1:Entry) (q:Int),cmp a0 a1=some q→qAE Tryz.prog cmp_f ([.g (ze8 a0),.g (ze8 a1)]++cmp_c) (.v (.int .i64 q))) (r:List Entry) (hH:qEH x cmp=some r):qE7 Tryz.prog 95 [.w 3 (x.map ze8),.f cmp_f cmp_c] [.w 3 (r.map ze8),.u] (.t []) :=
  qQR ⟨_,Tryz.func95,rfl,by decide⟩ (fun enc hk h1 cf hO cb blk off cap d w eg=>AnyQ.slices_SortFunc Tryz.sortF95 3 Tryz.isAgg57 Tryz.sizeOf57 enc hk h1 cf hO cmp_f cb blk off cap d w eg) (fun p cap cb w=>AnyF.slices_SortFunc_none Tryz.sortF95 p cap _ w) ze8 (fun _=>rfl) (fun _=>rfl) cmp_c (qS4 cmp_k) cmp x r cmp_h hH

def qAq (best:Int):List Entry→Nat→List Line→Option Season
 | [],k5,v42 =>
  some (Season.mk best v42)
 | y6::ys7,k5,v42 =>
  (opt (!(decide ((w64 ((v42.length:Int) - 1)) < 0))) default (qAb v42 (w64 ((v42.length:Int) - 1)))).bind fun x44 =>
  cond (decide ((w64 ((v42.length:Int) - 1)) < 0) || (x44.skater != y6.skater))
   ((qCw (qBE 56 (v42.length+([(Line.mk y6.skater [] [])]).length))).bind fun u46 =>
   (qAb (v42++[(Line.mk y6.skater [] [])]) (w64 ((w64 ((v42.length:Int) - 1))+1))).bind fun x48 =>
   (qCw (qBE 8 (x48.events.length+([y6.event]).length))).bind fun u50 =>
   (qAb ((v42++[(Line.mk y6.skater [] [])]).set ((w64 ((w64 ((v42.length:Int) - 1))+1)).toNat) (Line.mk x48.skater (x48.events++[y6.event]) x48.points)) (w64 ((w64 ((v42.length:Int) - 1))+1))).bind fun x52 =>
   (qCw (qBE 8 (x52.points.length+([y6.points]).length))).bind fun u54 =>
   qAq best ys7 (k5+1) (((v42++[(Line.mk y6.skater [] [])]).set ((w64 ((w64 ((v42.length:Int) - 1))+1)).toNat) (Line.mk x48.skater (x48.events++[y6.event]) x48.points)).set ((w64 ((w64 ((v42.length:Int) - 1))+1)).toNat) (Line.mk x52.skater x52.events (x52.points++[y6.points]))))
   ((qAb v42 (w64 ((v42.length:Int) - 1))).bind fun x56 =>
   (qCw (qBE 8 (x56.events.length+([y6.event]).length))).bind fun u58 =>
   (qAb (v42.set ((w64 ((v42.length:Int) - 1)).toNat) (Line.mk x56.skater (x56.events++[y6.event]) x56.points)) (w64 ((v42.length:Int) - 1))).bind fun x60 =>
   (qCw (qBE 8 (x60.points.length+([y6.points]).length))).bind fun u62 =>
   qAq best ys7 (k5+1) ((v42.set ((w64 ((v42.length:Int) - 1)).toNat) (Line.mk x56.skater (x56.events++[y6.event]) x56.points)).set ((w64 ((v42.length:Int) - 1)).toNat) (Line.mk x60.skater x60.events (x60.points++[y6.points]))))
def qC9 (best:Int) (l:List Entry):Option Season :=
 (qCw (qBE 24 l.length)).bind fun u1 =>
 (qEH l (fun a0 a1=>qAN a0 a1)).bind fun x3 =>
 qAq best x3 0 []
theorem qHI (best:Int) (l:List Entry) (r:Season) (hH:qC9 best l=some r):qAE Tryz.prog 46 [best,.s (List.map ze8 l)] (.g (qJR r)):=by
 refine fns T Tryz.func46 ?_
 refine AW.q (AW.r (AO.x (als T 1) ?_))
 refine AO.n (AW.q (AW.r ?_))
 refine AO.pu T ?_
 refine AO.x (qHd T rfl rfl rfl rfl) ?_
 refine AO.pu T (d:=.g [best,.w 3 []]) ?_
 refine AO.x (als T 2) ?_
 refine AO.se T [best,.w 3 []] ?_
 refine AO.n (AW.q ?_)
 obtain ⟨u1,hx2,hH⟩:=zB hH
 refine AW.r (AO.x (qHd T rfl rfl rfl rfl) ?_)
 refine AO.pu T ?_
 refine AO.x (qIA T rfl 3 rfl rfl rfl rfl rfl (by decide) (by decide) rfl rfl (fun _=>rfl) (qA4 (hx2)) rfl rfl) ?_
 refine AO.pu T ?_
 refine AO.n (AW.q ?_)
 obtain ⟨x3,hx4,hH⟩:=zB hH
 refine AW.r (AO.pu T ?_)
 refine AO.x (cMs 4 [3] (S:=qIC _ 90 [] rfl (fun a0 a1=>qAN a0 a1) (fun a0 a1 q h=>qF2 a0 a1  q h) _ (hx4)) (hp:=by exact zG (.c (.rowR rfl)) (zG (.c (.f rfl)) (zGn)))) ?_
 refine AO.n (AW.q (AW.q ?_))
 refine AW.r (AO.pu T ?_)
 refine AO.w (qGn T) ?_
 refine AO.pu T ?_
 refine AO.n (AW.b ?_)
 refine AW.loopS (fun s:Nat × (List Line)=>(⟨[(4,.p 1 0),(5,.p 2 0),(19,.R 3),(20,(x3.length:Int)),(21,(s.1:Int))],[(1,.box [(0:Int),.w 0 []]),(2,.box [best,.R 15]),(3,.row 3 (List.map ze8 x3)),(15,.row 3 (List.map qCa s.2))],80,[]⟩:St)) (fun s=>s.1 ≤ x3.length∧qAq best (x3.drop s.1) s.1 s.2=some r) (fun s=>x3.length - s.1) (0,[]) ⟨Nat.zero_le _,hH⟩ ?_ ?_
 refine Le.trans (Le.voidBox 2 1 15 3 rfl rfl rfl rfl) ?_
 exact Le.ct 0 0
 rintro ⟨k5,v42⟩ ⟨hk,hH⟩
 replace hH:qAq best (x3.drop k5) k5 v42=some r:=hH
 try dsimp only
 refine AW.boundR (id:=3) (l:=x3) rfl (fun hb9=>?_)
 rcases hd8:x3.drop k5 with _ | ⟨y6,ys7⟩
 rw [hd8,qAq] at hH
 have hlt10:=qAJ hd8
 refine AW.q (AW.r (AO.pu T ?_))
 refine AO.n (AW.q (AW.condF' (b:=decide ((k5:Int) < (x3.length:Int))) rfl (qEQ hlt10) ?_))
 refine AW.exit (AW.q (AW.r ?_))
 refine AO.pu T (d:=.g [best,.R 15]) ?_
 refine AO.se T [best,.R 15] ?_
 refine AO.n (AW.t ?_)
 have hR:=zS hH;subst hR
 exact retQ.i [15] rfl (.c (.g (zC .v (zC (.rowR rfl) (zCn)))))
 rw [hd8,qAq] at hH
 have hlt10:=qAK hd8
 refine AW.q (AW.r (AO.pu T ?_))
 refine AO.n (AW.q (AW.condT' (b:=decide ((k5:Int) < (x3.length:Int))) rfl (qER hlt10) ?_))
 refine AW.k (AW.q ?_)
 refine AW.b (AW.q (AW.r ?_))
 refine AO.w (ixr T (zgD hd8)) ?_
 refine AO.w (zLr T rfl rfl rfl rfl (zgG (zgD hd8)) rfl rfl rfl) ?_
 refine AO.x (als T 28) ?_
 refine AO.se T [y6.event,y6.skater,y6.points] ?_
 refine AO.n (AW.q (AW.r ?_))
 refine AO.p2 T ?_
 refine AO.w (qGn T) ?_
 refine AO.w aws ?_
 refine AO.pu T ?_
 refine AO.n (AW.q (AW.q ?_))
 obtain ⟨x44,hx45,hH⟩:=zB hH
 refine AW.drawn 11 29 [] mix (by kernel_rfl) rfl ?_
 iterate 3 refine AD.pu T ?_
 refine AD.pureG T [] rfl trivial rfl rfl ?_
 refine AD.pureG T [32] rfl ⟨fun h=>h,trivial⟩ rfl rfl ?_
 refine AD.pureG T [] rfl trivial rfl rfl ?_
 refine AD.guard [33,34] rfl ⟨fun h=>h,fun h=>h,trivial⟩ (fun hg=>zXr T rfl rfl rfl rfl rfl rfl (qEA hx45 hg)) rfl ?_
 refine AD.pureG T [35] rfl ⟨fun h=>h,trivial⟩ rfl rfl ?_
 refine AD.guard [36] rfl ⟨fun h=>h,trivial⟩ (fun hg=>zLr T rfl rfl rfl rfl (zgG (qEA hx45 hg)) rfl rfl rfl) rfl ?_
 refine AD.pureG T [] rfl trivial rfl rfl ?_
 refine AD.pureG T [38] rfl ⟨fun h=>h,trivial⟩ rfl rfl ?_
 refine AD.nil (AO.g T [37,39] rfl ⟨fun h=>h,fun h=>h,trivial⟩ rfl rfl ?_)
 refine AO.w ors ?_
 refine AO.n (AW.c (b:=(decide ((w64 ((v42.length:Int) - 1)) < 0) || (x44.skater != y6.skater))) rfl (fun hc=>?_) (fun hc=>?_))
 replace hH:=condT hc hH
 refine AW.q ?_
 obtain ⟨u46,hx47,hH⟩:=zB hH
 refine AW.r ?_
 iterate 4 refine AO.pu T ?_
 refine AO.pu T (d:=.g [y6.skater,.w 0 [],.w 0 []]) ?_
 refine AO.x (qJD T rfl 29 rfl rfl rfl rfl rfl rfl (f:=qCa) (l:=[(Line.mk y6.skater [] [])]) (ids:=[]) rfl rfl (fun _=>rfl) (by exact zC .v (zC .nil (zC .nil (zCn)))) (by decide) rfl rfl rfl rfl rfl) ?_
 refine AO.x (qEP T rfl 30 rfl rfl rfl rfl rfl (by decide) rfl rfl rfl rfl rfl (qA4 (hx47)) rfl rfl) ?_
 refine AO.pu T ?_
 refine AO.se T [best,.R 30] ?_
 refine AO.n (AW.le (Le.ct 0 0 (σ':=(⟨[(4,.p 1 0),(5,.p 2 0),(8,.p 28 0),(9,w64 ((v42.length:Int) - 1)),(19,.R 3),(20,(x3.length:Int)),(21,(k5:Int))],[(1,.box [(0:Int),.w 0 []]),(2,.box [best,.R 30]),(3,.row 3 (List.map ze8 x3)),(28,.box [y6.event,y6.skater,y6.points]),(30,.row 3 (List.map qCa (v42++[(Line.mk y6.skater [] [])])))],80,[]⟩:St))) ?_)
 refine AW.r (AO.pu T ?_)
 refine AO.w aws ?_
 refine AO.pu T ?_
 refine AO.n (AW.q ?_)
 obtain ⟨x48,hx49,hH⟩:=zB hH
 refine AW.r ?_
 iterate 3 refine AO.pu T ?_
 refine AO.w (ixr T (hx49)) ?_
 refine AO.pu T ?_
 refine AO.n (AW.q ?_)
 obtain ⟨u50,hx51,hH⟩:=zB hH
 refine AW.le (Le.openM 30 ((w64 ((w64 ((v42.length:Int) - 1))+1)).toNat) 1 31 rfl (zgG (hx49)) rfl rfl) ?_
 refine AW.drawn 9 32 [31] mix (by kernel_rfl) rfl ?_
 iterate 4 refine AD.pu T ?_
 refine AD.vv (qBF T rfl rfl rfl rfl rfl) ?_
 iterate 2 refine AD.pu T ?_
 refine AD.q (FStep.mk T (f:=ze0) (l:=[y6.event]) rfl rfl rfl rfl rfl rfl rfl rfl rfl (fun _=>rfl) rfl rfl rfl rfl) (by simp [qBV]) (Nat.le_succ _) rfl ?_
 refine AD.kk (FStep.app_rv T rfl rfl rfl rfl rfl rfl rfl (by decide) rfl rfl rfl rfl (fun _=>rfl) (qA4 (hx51)) rfl) ?_
 refine AD.nil (AO.p2 T ?_)
 refine AO.x (qFi T (ids:=[33]) rfl rfl rfl rfl rfl rfl (zgG (hx49)) rfl (.rowR rfl) (by decide) rfl (u':=(Line.mk x48.skater (x48.events++[y6.event]) x48.points)) rfl rfl) ?_
 refine AO.n ?_
 obtain ⟨x52,hx53,hH⟩:=zB hH
 obtain ⟨u54,hx55,hH⟩:=zB hH
 refine AW.le (Le.openM 30 ((w64 ((w64 ((v42.length:Int) - 1))+1)).toNat) 2 34 rfl (zgG (hx53)) rfl rfl) ?_
 refine AW.drawn 9 35 [34] mix (by kernel_rfl) rfl ?_
 iterate 4 refine AD.pu T ?_
 refine AD.vv (qBF T rfl rfl rfl rfl rfl) ?_
 iterate 2 refine AD.pu T ?_
 refine AD.q (FStep.mk T (f:=ze0) (l:=[y6.points]) rfl rfl rfl rfl rfl rfl rfl rfl rfl (fun _=>rfl) rfl rfl rfl rfl) (by simp [qBV]) (Nat.le_succ _) rfl ?_
 refine AD.kk (FStep.app_rv T rfl rfl rfl rfl rfl rfl rfl (by decide) rfl rfl rfl rfl (fun _=>rfl) (qA4 (hx55)) rfl) ?_
 refine AD.nil (AO.p2 T ?_)
 refine AO.x (qFi T (ids:=[36]) rfl rfl rfl rfl rfl rfl (zgG (hx53)) rfl (.rowR rfl) (by decide) rfl (u':=(Line.mk x52.skater x52.events (x52.points++[y6.points]))) rfl rfl) ?_
 refine AO.n (AW.le (Le.ct 0 0 (σ':=(⟨[(4,.p 1 0),(5,.p 2 0),(19,.R 3),(20,(x3.length:Int)),(21,(k5:Int))],[(1,.box [(0:Int),.w 0 []]),(2,.box [best,.R 30]),(3,.row 3 (List.map ze8 x3)),(30,.row 3 (List.map qCa (((v42++[(Line.mk y6.skater [] [])]).set ((w64 ((w64 ((v42.length:Int) - 1))+1)).toNat) (Line.mk x48.skater (x48.events++[y6.event]) x48.points)).set ((w64 ((w64 ((v42.length:Int) - 1))+1)).toNat) (Line.mk x52.skater x52.events (x52.points++[y6.points])))))],80,[]⟩:St))) ?_)
 refine AW.r (AO.w (zR rfl rfl rfl rfl (zK hlt10 hb9)) ?_)
 refine AO.pu T ?_
 refine AO.n ?_
 refine ⟨(k5+1,(((v42++[(Line.mk y6.skater [] [])]).set ((w64 ((w64 ((v42.length:Int) - 1))+1)).toNat) (Line.mk x48.skater (x48.events++[y6.event]) x48.points)).set ((w64 ((w64 ((v42.length:Int) - 1))+1)).toNat) (Line.mk x52.skater x52.events (x52.points++[y6.points])))),⟨Nat.succ_le_of_lt hlt10,(by rw [zds hd8];exact hH)⟩,(by have:=hlt10;dsimp only;omega),?_⟩
 exact Le.ct 30 15
 replace hH:=condF hc hH
 refine AW.k (AW.q ?_)
 obtain ⟨x56,hx57,hH⟩:=zB hH
 refine AW.r ?_
 iterate 3 refine AO.pu T ?_
 refine AO.w (ixr T (hx57)) ?_
 refine AO.pu T ?_
 refine AO.n (AW.le (Le.ct 0 0 (σ':=(⟨[(4,.p 1 0),(5,.p 2 0),(8,.p 28 0),(10,.e 15 ((w64 ((v42.length:Int) - 1)).toNat) 0),(19,.R 3),(20,(x3.length:Int)),(21,(k5:Int))],[(1,.box [(0:Int),.w 0 []]),(2,.box [best,.R 15]),(3,.row 3 (List.map ze8 x3)),(15,.row 3 (List.map qCa v42)),(28,.box [y6.event,y6.skater,y6.points])],80,[]⟩:St))) ?_)
 refine AW.q ?_
 obtain ⟨u58,hx59,hH⟩:=zB hH
 refine AW.le (Le.openM 15 ((w64 ((v42.length:Int) - 1)).toNat) 1 37 rfl (zgG (hx57)) rfl rfl) ?_
 refine AW.drawn 9 38 [37] mix (by kernel_rfl) rfl ?_
 iterate 4 refine AD.pu T ?_
 refine AD.vv (qBF T rfl rfl rfl rfl rfl) ?_
 iterate 2 refine AD.pu T ?_
 refine AD.q (FStep.mk T (f:=ze0) (l:=[y6.event]) rfl rfl rfl rfl rfl rfl rfl rfl rfl (fun _=>rfl) rfl rfl rfl rfl) (by simp [qBV]) (Nat.le_succ _) rfl ?_
 refine AD.kk (FStep.app_rv T rfl rfl rfl rfl rfl rfl rfl (by decide) rfl rfl rfl rfl (fun _=>rfl) (qA4 (hx59)) rfl) ?_
 refine AD.nil (AO.p2 T ?_)
 refine AO.x (qFi T (ids:=[39]) rfl rfl rfl rfl rfl rfl (zgG (hx57)) rfl (.rowR rfl) (by decide) rfl (u':=(Line.mk x56.skater (x56.events++[y6.event]) x56.points)) rfl rfl) ?_
 refine AO.n ?_
 obtain ⟨x60,hx61,hH⟩:=zB hH
 obtain ⟨u62,hx63,hH⟩:=zB hH
 refine AW.le (Le.openM 15 ((w64 ((v42.length:Int) - 1)).toNat) 2 40 rfl (zgG (hx61)) rfl rfl) ?_
 refine AW.drawn 9 41 [40] mix (by kernel_rfl) rfl ?_
 iterate 4 refine AD.pu T ?_
 refine AD.vv (qBF T rfl rfl rfl rfl rfl) ?_
 iterate 2 refine AD.pu T ?_
 refine AD.q (FStep.mk T (f:=ze0) (l:=[y6.points]) rfl rfl rfl rfl rfl rfl rfl rfl rfl (fun _=>rfl) rfl rfl rfl rfl) (by simp [qBV]) (Nat.le_succ _) rfl ?_
 refine AD.kk (FStep.app_rv T rfl rfl rfl rfl rfl rfl rfl (by decide) rfl rfl rfl rfl (fun _=>rfl) (qA4 (hx63)) rfl) ?_
 refine AD.nil (AO.p2 T ?_)
 refine AO.x (qFi T (ids:=[42]) rfl rfl rfl rfl rfl rfl (zgG (hx61)) rfl (.rowR rfl) (by decide) rfl (u':=(Line.mk x60.skater x60.events (x60.points++[y6.points]))) rfl rfl) ?_
 refine AO.n (AW.le (Le.ct 0 0 (σ':=(⟨[(4,.p 1 0),(5,.p 2 0),(19,.R 3),(20,(x3.length:Int)),(21,(k5:Int))],[(1,.box [(0:Int),.w 0 []]),(2,.box [best,.R 15]),(3,.row 3 (List.map ze8 x3)),(15,.row 3 (List.map qCa ((v42.set ((w64 ((v42.length:Int) - 1)).toNat) (Line.mk x56.skater (x56.events++[y6.event]) x56.points)).set ((w64 ((v42.length:Int) - 1)).toNat) (Line.mk x60.skater x60.events (x60.points++[y6.points])))))],80,[]⟩:St))) ?_)
 refine AW.r (AO.w (zR rfl rfl rfl rfl (zK hlt10 hb9)) ?_)
 refine AO.pu T ?_
 refine AO.n ?_
 refine ⟨(k5+1,((v42.set ((w64 ((v42.length:Int) - 1)).toNat) (Line.mk x56.skater (x56.events++[y6.event]) x56.points)).set ((w64 ((v42.length:Int) - 1)).toNat) (Line.mk x60.skater x60.events (x60.points++[y6.points])))),⟨Nat.succ_le_of_lt hlt10,(by rw [zds hd8];exact hH)⟩,(by have:=hlt10;dsimp only;omega),?_⟩
 exact Le.ct 0 0

def qDb (fuel:Nat) (sA:Season) (e:Entry):Option (Season × Bool) :=
 (qEb fuel sA).bind fun x1 =>
 cond (!x1)
  (some ((Season.mk 0 []),false))
  ((qEL sA).bind fun x3 =>
  (qCw (qBE 24 (x3.length+([e]).length))).bind fun u5 =>
  (qD7 (x3++[e])).bind fun x7 =>
  cond (!x7)
   (some ((Season.mk 0 []),false))
   ((qC9 sA.best (x3++[e])).bind fun x9 =>
   some (x9,true)))
theorem qLk (fuel:Nat) (sA:Season) (e:Entry) (r:(Season × Bool)) (hH:qDb fuel sA e=some r):qAE Tryz.prog 15 [.g (qEd sA),.g (ze8 e)] (.t [.g (qJR r.1),.v (.bool r.2)]):=by
 refine fns T Tryz.func15 ?_
 refine AW.q (AW.r (AO.x (bxs T 1) ?_))
 refine AO.x (bxs T 2) ?_
 refine AO.x (als T 3) ?_
 refine AO.pu T ?_
 refine AO.n (AW.q (AW.q ?_))
 obtain ⟨x1,hx2,hH⟩:=zB hH
 refine AW.r (AO.pu T (d:=.g [sA.best,.s (List.map qCf sA.lines)]) ?_)
 refine AO.w (cVs (qIn fuel _ _ (hx2))) ?_
 refine AO.pu T ?_
 refine AO.n (AW.c (b:=(!x1)) rfl (fun hc=>?_) (fun hc=>?_))
 replace hH:=condT hc hH
 refine AW.q (AW.r (AO.pu T (d:=.g [(0:Int),.w 0 []]) ?_))
 refine AO.se T [(0:Int),.w 0 []] ?_
 refine AO.pu T ?_
 refine AO.n (AW.t ?_)
 have hR:=zS hH;subst hR
 exact retQ.i [] rfl (.t (zG (.g (zC .v (zC .nil (zCn)))) (zG (.c .v) (zGn))))
 replace hH:=condF hc hH
 refine AW.k (AW.q ?_)
 obtain ⟨x3,hx4,hH⟩:=zB hH
 obtain ⟨u5,hx6,hH⟩:=zB hH
 refine AW.drawn 4 4 [] mix (by kernel_rfl) rfl ?_
 refine AD.p T (d:=.g [sA.best,.s (List.map qCf sA.lines)]) rfl rfl rfl ?_
 refine AD.q (FStep.call rfl rfl rfl rfl rfl (qH5 _ _ (hx4)) rfl rfl) (qDj _ _) (qGc _ _) rfl ?_
 refine AD.p T (d:=.g [e.event,e.skater,e.points]) rfl rfl rfl ?_
 refine AD.q (FStep.mk T (f:=ze8) (l:=[e]) rfl rfl rfl rfl rfl rfl rfl rfl rfl (fun _=>rfl) rfl rfl rfl rfl) (by simp [qBV]) (Nat.le_succ _) rfl ?_
 refine AD.nil (AO.x (rvs T 6 (hfit:=by exact qA4 (hx6))) ?_)
 refine AO.pu T ?_
 refine AO.n (AW.q (AW.q ?_))
 obtain ⟨x7,hx8,hH⟩:=zB hH
 refine AW.r (AO.pu T ?_)
 refine AO.w (zLV rfl rfl rfl (es:=[.s (List.map ze8 (x3++[e]))]) ⟨(.rowR rfl (.map fun y=>.vs rfl)),trivial⟩ (qFs _ _ (hx8)) (qAF _) rfl) ?_
 refine AO.pu T ?_
 refine AO.n (AW.c (b:=(!x7)) rfl (fun hc=>?_) (fun hc=>?_))
 replace hH:=condT hc hH
 refine AW.q (AW.r (AO.pu T (d:=.g [(0:Int),.w 0 []]) ?_))
 refine AO.se T [(0:Int),.w 0 []] ?_
 refine AO.pu T ?_
 refine AO.n (AW.t ?_)
 have hR:=zS hH;subst hR
 exact retQ.i [] rfl (.t (zG (.g (zC .v (zC .nil (zCn)))) (zG (.c .v) (zGn))))
 replace hH:=condF hc hH
 refine AW.k (AW.q ?_)
 obtain ⟨x9,hx10,hH⟩:=zB hH
 refine AW.r ?_
 iterate 3 refine AO.pu T ?_
 refine AO.x (qEi rfl 7 rfl rfl (es:=[sA.best,.s (List.map ze8 (x3++[e]))]) (by exact ⟨.free rfl,(.rowR rfl (.map fun y=>.vs rfl)),trivial⟩) (qHI _ _ _ (hx10)) (qPN (zfl (.cons (qAF _) (.cons (qAO (fun y=>(.cons (qAF _) (.cons (qAO (fun y=>(.cons (qAF _) .nil))) (.cons (qAO (fun y=>(.cons (qAF _) .nil))) .nil))))) .nil)))) rfl rfl rfl) ?_
 refine AO.se T [x9.best,.R 7] ?_
 refine AO.pu T ?_
 refine AO.n (AW.t ?_)
 have hR:=zS hH;subst hR
 exact retQ.i [7] rfl (.t (zG (.g (zC .v (zC (.rowR rfl) (zCn)))) (zG (.c .v) (zGn))))

def qBh (rA:Result):List Int→Nat→Option Bool
 | [],k1 =>
  (qFp rA.skater).bind fun x16 =>
  (opt x16 default (qAM (rA.scores.length:Int) 1 3)).bind fun x18 =>
  some (x16 && x18)
 | y2::ys3,k1 =>
  (qAM y2 (-1) 100000).bind fun x20 =>
  (opt ((!(!x20)) && decide ((k1:Int) > 0)) default (qAb rA.scores (w64 ((k1:Int) - 1)))).bind fun x22 =>
  cond ((!x20) || ((decide ((k1:Int) > 0) && decide (x22 < 0)) && decide (y2 ≥ 0)))
   (some false)
   (qBh rA ys3 (k1+1))
def qHC (rA:Result):Option Bool :=
 qBh rA rA.scores 0
theorem qLh (rA:Result) (r:Bool) (hH:qHC rA=some r):qAE Tryz.prog 96 [.g (qHf rA)] (.v (.bool r)):=by
 refine fns T Tryz.func96 ?_
 refine AW.q (AW.r (AO.x (bxs T 1) ?_))
 refine AO.pu T ?_
 refine AO.n (AW.q (AW.q ?_))
 refine AW.r (AO.p2 T ?_)
 refine AO.w (qCC T) ?_
 refine AO.pu T ?_
 refine AO.n (AW.b ?_)
 refine AW.loopS (fun s:Nat=>(⟨[(1,.p 1 0),(6,.s (List.map ze0 rA.scores)),(7,(rA.scores.length:Int)),(8,(s:Int))],[(1,.box [rA.skater,.s (List.map ze0 rA.scores)])],43,[]⟩:St)) (fun s=>s ≤ rA.scores.length∧qBh rA (rA.scores.drop s) s=some r) (fun s=>rA.scores.length - s) 0 ⟨Nat.zero_le _,hH⟩ ?_ ?_
 exact Le.ct 0 0
 rintro k1 ⟨hk,hH⟩
 replace hH:qBh rA (rA.scores.drop k1) k1=some r:=hH
 try dsimp only
 refine AW.boundM (t:=6) (l:=rA.scores) rfl (fun hb5=>?_)
 rcases hd4:rA.scores.drop k1 with _ | ⟨y2,ys3⟩
 rw [hd4,qBh] at hH
 have hlt6:=qAJ hd4
 refine AW.q (AW.r (AO.pu T ?_))
 refine AO.n (AW.q (AW.condF' (b:=decide ((k1:Int) < (rA.scores.length:Int))) rfl (qEQ hlt6) ?_))
 refine AW.exit (AW.q ?_)
 obtain ⟨x16,hx17,hH⟩:=zB hH
 obtain ⟨x18,hx19,hH⟩:=zB hH
 refine AW.r (AO.p2 T ?_)
 refine AO.w (cVs (qIo _ _ (hx17))) ?_
 refine AO.pu T ?_
 refine AO.g T [] rfl trivial rfl rfl ?_
 refine AO.g T [38] rfl ⟨fun h=>h,trivial⟩ rfl rfl ?_
 refine AO.d [39] rfl ⟨fun h=>h,trivial⟩ (fun hg=>zL T rfl rfl rfl) rfl ?_
 refine AO.d [40] rfl ⟨fun h=>h,trivial⟩ (fun hg=>zV rfl rfl rfl rfl (qAP _ _ _ _ (qEA hx19 hg)) rfl) rfl ?_
 refine AO.w qFy ?_
 refine AO.pu T ?_
 refine AO.n (AW.t ?_)
 have hR:=zS hH;subst hR
 exact retQ.i [] rfl (.c (.c .v))
 rw [hd4,qBh] at hH
 have hlt6:=qAK hd4
 refine AW.q (AW.r (AO.pu T ?_))
 refine AO.n (AW.q (AW.condT' (b:=decide ((k1:Int) < (rA.scores.length:Int))) rfl (qER hlt6) ?_))
 refine AW.k (AW.q ?_)
 refine AW.b (AW.q (AW.r ?_))
 refine AO.pu T ?_
 refine AO.w (ixs T (zgD hd4)) ?_
 iterate 3 refine AO.pu T ?_
 refine AO.n (AW.q ?_)
 obtain ⟨x20,hx21,hH⟩:=zB hH
 obtain ⟨x22,hx23,hH⟩:=zB hH
 refine AW.r (AO.pu T ?_)
 refine AO.w (cVs (qAP _ _ _ _ (hx21))) ?_
 refine AO.p2 T ?_
 refine AO.g T [] rfl trivial rfl rfl ?_
 refine AO.g T [17] rfl ⟨fun h=>h,trivial⟩ rfl rfl ?_
 refine AO.g T [18] rfl ⟨fun h=>h,trivial⟩ rfl rfl ?_
 refine AO.g T [] rfl trivial rfl rfl ?_
 refine AO.g T [20] rfl ⟨fun h=>h,trivial⟩ rfl rfl ?_
 refine AO.g T [] rfl trivial rfl rfl ?_
 refine AO.d [22] rfl ⟨fun h=>h,trivial⟩ (fun hg=>zW rfl rfl rfl rfl) rfl ?_
 refine AO.d [21,23] rfl ⟨fun h=>h,fun h=>h,trivial⟩ (fun hg=>zX T rfl rfl rfl rfl rfl (qEA hx23 hg) rfl) rfl ?_
 refine AO.g T [24] rfl ⟨fun h=>h,trivial⟩ rfl rfl ?_
 refine AO.g T [25] rfl ⟨fun h=>h,trivial⟩ rfl rfl ?_
 refine AO.d [19] rfl ⟨fun h=>h,trivial⟩ (fun hg=>zN rfl rfl rfl (by rw [hg];exact Bool.true_and _)) rfl ?_
 refine AO.g T [27] rfl ⟨fun h=>h,trivial⟩ rfl rfl ?_
 refine AO.g T [] rfl trivial rfl rfl ?_
 refine AO.g T [29] rfl ⟨fun h=>h,trivial⟩ rfl rfl ?_
 refine AO.d [28] rfl ⟨fun h=>h,trivial⟩ (fun hg=>zN rfl rfl rfl (by rw [hg];exact Bool.true_and _)) rfl ?_
 refine AO.w ors ?_
 refine AO.n (AW.le (Le.ct 0 0 (σ':=(⟨[(1,.p 1 0),(6,.s (List.map ze0 rA.scores)),(7,(rA.scores.length:Int)),(8,(k1:Int)),(32,.v (.bool ((!x20) || ((decide ((k1:Int) > 0) && decide (x22 < 0)) && decide (y2 ≥ 0)))))],[(1,.box [rA.skater,.s (List.map ze0 rA.scores)])],43,[]⟩:St))) ?_)
 refine AW.c (b:=((!x20) || ((decide ((k1:Int) > 0) && decide (x22 < 0)) && decide (y2 ≥ 0)))) rfl (fun hc=>?_) (fun hc=>?_)
 replace hH:=condT hc hH
 refine AW.q (AW.r (AO.pu T ?_))
 refine AO.n (AW.t ?_)
 have hR:=zS hH;subst hR
 exact retQ.i [] rfl (.c (.c .v))
 replace hH:=condF hc hH
 refine AW.k (AW.r ?_)
 refine AO.w (zR rfl rfl rfl rfl (zK hlt6 hb5)) ?_
 refine AO.pu T ?_
 refine AO.n ?_
 refine ⟨k1+1,⟨Nat.succ_le_of_lt hlt6,(by rw [zds hd4];exact hH)⟩,(by have:=hlt6;dsimp only;omega),?_⟩
 exact Le.ct 0 0

def qBC (y2:Result):List Result→Nat→Option (Except Bool Unit)
 | [],k80 =>
  some (.ok ())
 | y81::ys82,k80 =>
  cond (y81.skater == y2.skater)
   (some (.error false))
   (qBC y2 ys82 (k80+1))
def qBS (l:List Result):List Result→Nat→Option Bool
 | [],k1 =>
  some (decide ((l.length:Int) ≤ 40))
 | y2::ys3,k1 =>
  ((qHC y2).bind fun x74 =>
  (opt (!(!x74)) default (qAb l 0)).bind fun x76 =>
  cond ((!x74) || ((y2.scores.length:Int) != (x76.scores.length:Int)))
   (some (.error false))
   ((qCD l (k1:Int)).bind fun x78 =>
   qBC y2 x78 0)).bind fun o72=>qKp o72 fun _ =>
  qBS l ys3 (k1+1)
def qEl (l:List Result):Option Bool :=
 qBS l l 0
theorem qHU (l:List Result) (r:Bool) (hH:qEl l=some r):qAE Tryz.prog 47 [.s (List.map qHf l)] (.v (.bool r)):=by
 refine fns T Tryz.func47 ?_
 refine AW.q (AW.r (AO.pu T ?_))
 refine AO.n (AW.q (AW.q ?_))
 refine AW.r (AO.pu T ?_)
 refine AO.w (qCC T) ?_
 refine AO.pu T ?_
 refine AO.n (AW.b ?_)
 refine AW.loopS (fun s:Nat=>(⟨[(0,.s (List.map qHf l)),(7,.s (List.map qHf l)),(8,(l.length:Int)),(9,(s:Int))],[],46,[]⟩:St)) (fun s=>s ≤ l.length∧qBS l (l.drop s) s=some r) (fun s=>l.length - s) 0 ⟨Nat.zero_le _,hH⟩ ?_ ?_
 exact Le.ct 0 0
 rintro k1 ⟨hk,hH⟩
 replace hH:qBS l (l.drop k1) k1=some r:=hH
 try dsimp only
 refine AW.boundM (t:=0) (l:=l) rfl (fun hb5=>?_)
 rcases hd4:l.drop k1 with _ | ⟨y2,ys3⟩
 rw [hd4,qBS] at hH
 have hlt6:=qAJ hd4
 refine AW.q (AW.r (AO.pu T ?_))
 refine AO.n (AW.q (AW.condF' (b:=decide ((k1:Int) < (l.length:Int))) rfl (qEQ hlt6) ?_))
 refine AW.exit (AW.q (AW.r ?_))
 refine AO.pu T ?_
 refine AO.w (qCC T) ?_
 refine AO.p2 T ?_
 refine AO.n (AW.t ?_)
 have hR:=zS hH;subst hR
 exact retQ.i [] rfl (.c (.c .v))
 rw [hd4,qBS] at hH
 have hlt6:=qAK hd4
 refine AW.q (AW.r (AO.pu T ?_))
 refine AO.n (AW.q (AW.condT' (b:=decide ((k1:Int) < (l.length:Int))) rfl (qER hlt6) ?_))
 refine AW.k ?_
 obtain ⟨o72,hH,hK73⟩:=zB hH
 refine AW.seqJ (fun s:Unit=>(⟨[(0,.s (List.map qHf l)),(7,.s (List.map qHf l)),(8,(l.length:Int)),(9,(k1:Int))],[],46,[]⟩:St)) (fun s=>.ok s=o72) ?_ ?_
 refine AW.b (AW.q (AW.r ?_))
 refine AO.pu T ?_
 refine AO.w (ixs T (zgD hd4)) ?_
 refine AO.pu T (d:=.g [y2.skater,.s (List.map ze0 y2.scores)]) ?_
 refine AO.x (als T 21) ?_
 refine AO.pu T ?_
 refine AO.se T [y2.skater,.s (List.map ze0 y2.scores)] ?_
 refine AO.n (AW.q (AW.q ?_))
 obtain ⟨x74,hx75,hH⟩:=zB hH
 obtain ⟨x76,hx77,hH⟩:=zB hH
 refine AW.drawn 12 22 [] mix (by kernel_rfl) rfl ?_
 refine AD.p T (d:=.g [y2.skater,.s (List.map ze0 y2.scores)]) rfl rfl rfl ?_
 refine AD.vv (cVs (qLh _ _ (hx75))) ?_
 iterate 2 refine AD.pu T ?_
 refine AD.pureG T [] rfl trivial rfl rfl ?_
 refine AD.pureG T [18] rfl ⟨fun h=>h,trivial⟩ rfl rfl ?_
 refine AD.guard [19] rfl ⟨fun h=>h,trivial⟩ (fun hg=>zL T rfl rfl rfl) rfl ?_
 refine AD.pureG T [] rfl trivial rfl rfl ?_
 refine AD.guard [21] rfl ⟨fun h=>h,trivial⟩ (fun hg=>zX T rfl rfl rfl rfl rfl (qEA hx77 hg) rfl) rfl ?_
 refine AD.pureG T [22] rfl ⟨fun h=>h,trivial⟩ rfl rfl ?_
 refine AD.pureG T [23] rfl ⟨fun h=>h,trivial⟩ rfl rfl ?_
 refine AD.guard [24] rfl ⟨fun h=>h,trivial⟩ (fun hg=>zL T rfl rfl rfl) rfl ?_
 refine AD.nil (AO.g T [20,25] rfl ⟨fun h=>h,fun h=>h,trivial⟩ rfl rfl ?_)
 refine AO.w ors ?_
 refine AO.n (AW.c (b:=((!x74) || ((y2.scores.length:Int) != (x76.scores.length:Int)))) rfl (fun hc=>?_) (fun hc=>?_))
 replace hH:=condT hc hH
 refine AW.q (AW.r (AO.pu T ?_))
 refine AO.n (AW.t ?_)
 obtain rfl:=zS hH
 replace hH:=hK73
 have hR:=zS hH;subst hR
 exact retQ.i [] rfl (.c (.c .v))
 replace hH:=condF hc hH
 refine AW.k (AW.q ?_)
 obtain ⟨x78,hx79,hH⟩:=zB hH
 refine AW.r (AO.p2 T ?_)
 refine AO.w (qAa T rfl rfl rfl rfl rfl (hx79) (fun _=>rfl)) ?_
 refine AO.w (qCC T) ?_
 refine AO.pu T ?_
 refine AO.n (AW.le (Le.ct 0 0 (σ':=(⟨[(0,.s (List.map qHf l)),(4,.p 21 0),(7,.s (List.map qHf l)),(8,(l.length:Int)),(9,(k1:Int)),(30,.s (List.map qHf x78)),(31,(x78.length:Int)),(32,(0:Int))],[(21,.box [y2.skater,.s (List.map ze0 y2.scores)])],46,[]⟩:St))) ?_)
 refine AW.b (AW.loopS (fun s:Nat=>(⟨[(0,.s (List.map qHf l)),(4,.p 21 0),(7,.s (List.map qHf l)),(8,(l.length:Int)),(9,(k1:Int)),(30,.s (List.map qHf x78)),(31,(x78.length:Int)),(32,(s:Int))],[(21,.box [y2.skater,.s (List.map ze0 y2.scores)])],46,[]⟩:St)) (fun s=>s ≤ x78.length∧qBC y2 (x78.drop s) s=some o72) (fun s=>x78.length - s) 0 ⟨Nat.zero_le _,hH⟩ ?_ ?_)
 exact Le.ct 0 0
 rintro k80 ⟨hk,hH⟩
 replace hH:qBC y2 (x78.drop k80) k80=some o72:=hH
 try dsimp only
 refine AW.boundM (t:=30) (l:=x78) rfl (fun hb84=>?_)
 rcases hd83:x78.drop k80 with _ | ⟨y81,ys82⟩
 rw [hd83,qBC] at hH
 have hlt85:=qAJ hd83
 refine AW.q (AW.r (AO.pu T ?_))
 refine AO.n (AW.q (AW.condF' (b:=decide ((k80:Int) < (x78.length:Int))) rfl (qEQ hlt85) ?_))
 refine AW.exit ?_
 refine ⟨_,zS hH,?_⟩
 exact Le.ct 0 0
 rw [hd83,qBC] at hH
 have hlt85:=qAK hd83
 refine AW.q (AW.r (AO.pu T ?_))
 refine AO.n (AW.q (AW.condT' (b:=decide ((k80:Int) < (x78.length:Int))) rfl (qER hlt85) ?_))
 refine AW.k (AW.q ?_)
 refine AW.b (AW.q (AW.r ?_))
 refine AO.w (ixs T (zgD hd83)) ?_
 refine AO.pu T (d:=.g [y81.skater,.s (List.map ze0 y81.scores)]) ?_
 refine AO.x (als T 24) ?_
 refine AO.se T [y81.skater,.s (List.map ze0 y81.scores)] ?_
 refine AO.n (AW.q (AW.r ?_))
 iterate 5 refine AO.pu T ?_
 refine AO.n (AW.c (b:=(y81.skater == y2.skater)) rfl (fun hc=>?_) (fun hc=>?_))
 replace hH:=condT hc hH
 refine AW.q (AW.r (AO.pu T ?_))
 refine AO.n (AW.t ?_)
 obtain rfl:=zS hH
 replace hH:=hK73
 have hR:=zS hH;subst hR
 exact retQ.i [] rfl (.c (.c .v))
 replace hH:=condF hc hH
 refine AW.k (AW.r ?_)
 refine AO.w (zR rfl rfl rfl rfl (zK hlt85 hb84)) ?_
 refine AO.pu T ?_
 refine AO.n ?_
 refine ⟨k80+1,⟨Nat.succ_le_of_lt hlt85,(by rw [zds hd83];exact hH)⟩,(by have:=hlt85;dsimp only;omega),?_⟩
 exact Le.ct 0 0
 rintro _ hs
 subst hs
 replace hH:=hK73
 try dsimp only [qKp,qID] at hH
 try dsimp only
 refine AW.r (AO.w (zR rfl rfl rfl rfl (zK hlt6 hb5)) ?_)
 refine AO.pu T ?_
 refine AO.n ?_
 refine ⟨k1+1,⟨Nat.succ_le_of_lt hlt6,(by rw [zds hd4];exact hH)⟩,(by have:=hlt6;dsimp only;omega),?_⟩
 exact Le.ct 0 0

def qBv:List Int→Nat→Int→Int→Option ((Int × Int))
 | [],k1,v9,v10 =>
  some (v9,v10)
 | y2::ys3,k1,v9,v10 =>
  cond (decide (y2 ≥ 0))
   (qBv ys3 (k1+1) (w64 (v9+y2)) (w64 (v10+1)))
   (qBv ys3 (k1+1) v9 v10)
def qGR (rA:Result):Option (Int × Int) :=
 qBv rA.scores 0 0 0
theorem qI4 (rA:Result) (r:(Int × Int)) (hH:qGR rA=some r):qAE Tryz.prog 135 [.g (qHf rA)] (.t [.v (.int .i64 r.1),.v (.int .i64 r.2)]):=by
 refine fns T Tryz.func135 ?_
 refine AW.q (AW.r (AO.x (bxs T 1) ?_))
 refine AO.p2 T ?_
 refine AO.n (AW.q (AW.r ?_))
 refine AO.p2 T ?_
 refine AO.n (AW.q (AW.q ?_))
 refine AW.r (AO.p2 T ?_)
 refine AO.w (qCC T) ?_
 refine AO.pu T ?_
 refine AO.n (AW.b ?_)
 refine AW.loopS (fun s:Nat × Int × Int=>(⟨[(4,s.2.1),(5,s.2.2),(9,.s (List.map ze0 rA.scores)),(10,(rA.scores.length:Int)),(11,(s.1:Int))],[],25,[]⟩:St)) (fun s=>s.1 ≤ rA.scores.length∧qBv (rA.scores.drop s.1) s.1 s.2.1 s.2.2=some r) (fun s=>rA.scores.length - s.1) (0,0,0) ⟨Nat.zero_le _,hH⟩ ?_ ?_
 exact Le.ct 0 0
 rintro ⟨k1,v9,v10⟩ ⟨hk,hH⟩
 replace hH:qBv (rA.scores.drop k1) k1 v9 v10=some r:=hH
 try dsimp only
 refine AW.boundM (t:=9) (l:=rA.scores) rfl (fun hb5=>?_)
 rcases hd4:rA.scores.drop k1 with _ | ⟨y2,ys3⟩
 rw [hd4,qBv] at hH
 have hlt6:=qAJ hd4
 refine AW.q (AW.r (AO.pu T ?_))
 refine AO.n (AW.q (AW.condF' (b:=decide ((k1:Int) < (rA.scores.length:Int))) rfl (qEQ hlt6) ?_))
 refine AW.exit (AW.q (AW.r ?_))
 iterate 4 refine AO.pu T ?_
 refine AO.n (AW.t ?_)
 have hR:=zS hH;subst hR
 exact retQ.i [] rfl (.t (zG (.c .v) (zG (.c .v) (zGn))))
 rw [hd4,qBv] at hH
 have hlt6:=qAK hd4
 refine AW.q (AW.r (AO.pu T ?_))
 refine AO.n (AW.q (AW.condT' (b:=decide ((k1:Int) < (rA.scores.length:Int))) rfl (qER hlt6) ?_))
 refine AW.k (AW.q ?_)
 refine AW.b (AW.q (AW.r ?_))
 refine AO.w (ixs T (zgD hd4)) ?_
 refine AO.p2 T ?_
 refine AO.n (AW.q (AW.r ?_))
 refine AO.p2 T ?_
 refine AO.n (AW.c (b:=decide (y2 ≥ 0)) rfl (fun hc=>?_) (fun hc=>?_))
 replace hH:=condT hc hH
 refine AW.q (AW.r (AO.p2 T ?_))
 refine AO.w aws ?_
 refine AO.pu T ?_
 refine AO.n (AW.r ?_)
 refine AO.pu T ?_
 refine AO.w aws ?_
 refine AO.pu T ?_
 refine AO.n (AW.r ?_)
 refine AO.w (zR rfl rfl rfl rfl (zK hlt6 hb5)) ?_
 refine AO.pu T ?_
 refine AO.n ?_
 refine ⟨(k1+1,w64 (v9+y2),w64 (v10+1)),⟨Nat.succ_le_of_lt hlt6,(by rw [zds hd4];exact hH)⟩,(by have:=hlt6;dsimp only;omega),?_⟩
 exact Le.ct 0 0
 replace hH:=condF hc hH
 refine AW.k (AW.r ?_)
 refine AO.w (zR rfl rfl rfl rfl (zK hlt6 hb5)) ?_
 refine AO.pu T ?_
 refine AO.n ?_
 refine ⟨(k1+1,v9,v10),⟨Nat.succ_le_of_lt hlt6,(by rw [zds hd4];exact hH)⟩,(by have:=hlt6;dsimp only;omega),?_⟩
 exact Le.ct 0 0

def qDt (n:Int):Option Int :=
 cond (decide (n > 0))
  (some 1)
  (cond (decide (n < 0))
   (some (-1))
   (some 0))
theorem qHo (n:Int) (r:Int) (hH:qDt n=some r):qAE Tryz.prog 136 [n] (.v (.int .i64 r)):=by
 refine fns T Tryz.func136 ?_
 refine AW.q (AW.r (AO.pu T ?_))
 refine AO.n (AW.q (AW.b ?_))
 refine AW.q (AW.r ?_)
 iterate 3 refine AO.pu T ?_
 refine AO.n (AW.c (b:=decide (n > 0)) rfl (fun hc=>?_) (fun hc=>?_))
 replace hH:=condT hc hH
 refine AW.q (AW.r (AO.pu T ?_))
 refine AO.n (AW.t ?_)
 have hR:=zS hH;subst hR
 exact retQ.i [] rfl (.c (.c .v))
 replace hH:=condF hc hH
 refine AW.q (AW.r ?_)
 iterate 3 refine AO.pu T ?_
 refine AO.n (AW.c (b:=decide (n < 0)) rfl (fun hc=>?_) (fun hc=>?_))
 replace hH:=condT hc hH
 refine AW.q (AW.r (AO.pu T ?_))
 refine AO.n (AW.t ?_)
 have hR:=zS hH;subst hR
 exact retQ.i [] rfl (.c (.c .v))
 replace hH:=condF hc hH
 refine AW.k (AW.q (AW.r ?_))
 refine AO.pu T ?_
 refine AO.n (AW.t ?_)
 have hR:=zS hH;subst hR
 exact retQ.i [] rfl (.c (.c .v))

def qBR (a:Result) (b:Result):Nat→Int→Option Int
 | 0,_=>none
 | k9+1,v23 =>
  cond (decide (v23 ≥ 0))
   ((qAb a.scores v23).bind fun x25 =>
   (qAb b.scores v23).bind fun x27 =>
   cond (x25 != x27)
    ((qDt (w64 (x25 - x27))).bind fun x29 =>
    some x29)
    (qBR a b k9 (w64 (v23 - 1))))
   (some 0)
def qC4 (fuel:Nat) (a:Result) (b:Result):Option Int :=
 (qGR a).bind fun x1 =>
 (qGR b).bind fun x3 =>
 cond (x1.2 != x3.2)
  ((qDt (w64 (x1.2 - x3.2))).bind fun x5 =>
  some x5)
  (cond (x1.1 != x3.1)
   ((qDt (w64 (x1.1 - x3.1))).bind fun x7 =>
   some x7)
   (qBR a b fuel (w64 ((a.scores.length:Int) - 1))))
theorem qF3 (fuel:Nat) (a:Result) (b:Result) (r:Int) (hH:qC4 fuel a b=some r):qAE Tryz.prog 97 [.g (qHf a),.g (qHf b)] (.v (.int .i64 r)):=by
 refine fns T Tryz.func97 ?_
 refine AW.q (AW.r (AO.x (bxs T 1) ?_))
 refine AO.x (bxs T 2) ?_
 refine AO.pu T ?_
 refine AO.n (AW.q ?_)
 obtain ⟨x1,hx2,hH⟩:=zB hH
 refine AW.r (AO.pu T (d:=.g [a.skater,.s (List.map ze0 a.scores)]) ?_)
 refine AO.w (cVs (qI4 _ _ (hx2))) ?_
 iterate 5 refine AO.pu T ?_
 refine AO.n (AW.q ?_)
 obtain ⟨x3,hx4,hH⟩:=zB hH
 refine AW.r (AO.pu T (d:=.g [b.skater,.s (List.map ze0 b.scores)]) ?_)
 refine AO.w (cVs (qI4 _ _ (hx4))) ?_
 iterate 5 refine AO.pu T ?_
 refine AO.n (AW.q (AW.q ?_))
 refine AW.r ?_
 iterate 3 refine AO.pu T ?_
 refine AO.n (AW.c (b:=(x1.2 != x3.2)) rfl (fun hc=>?_) (fun hc=>?_))
 replace hH:=condT hc hH
 refine AW.q ?_
 obtain ⟨x5,hx6,hH⟩:=zB hH
 refine AW.r (AO.p2 T ?_)
 refine AO.w aws ?_
 refine AO.w (cVs (qHo _ _ (hx6))) ?_
 refine AO.pu T ?_
 refine AO.n (AW.le (Le.ct 0 0 (σ':=(⟨[(4,x5)],[],65,[]⟩:St))) ?_)
 refine AW.t ?_
 have hR:=zS hH;subst hR
 exact retQ.i [] rfl (.c (.c .v))
 replace hH:=condF hc hH
 refine AW.k (AW.q (AW.q ?_))
 refine AW.r ?_
 iterate 3 refine AO.pu T ?_
 refine AO.n (AW.c (b:=(x1.1 != x3.1)) rfl (fun hc=>?_) (fun hc=>?_))
 replace hH:=condT hc hH
 refine AW.q ?_
 obtain ⟨x7,hx8,hH⟩:=zB hH
 refine AW.r (AO.p2 T ?_)
 refine AO.w aws ?_
 refine AO.w (cVs (qHo _ _ (hx8))) ?_
 refine AO.pu T ?_
 refine AO.n (AW.le (Le.ct 0 0 (σ':=(⟨[(4,x7)],[],65,[]⟩:St))) ?_)
 refine AW.t ?_
 have hR:=zS hH;subst hR
 exact retQ.i [] rfl (.c (.c .v))
 replace hH:=condF hc hH
 refine AW.k (AW.q (AW.q ?_))
 refine AW.r (AO.p2 T ?_)
 refine AO.w (qCC T) ?_
 refine AO.w aws ?_
 refine AO.pu T ?_
 refine AO.n (AW.le (Le.ct 0 0 (σ':=(⟨[(2,.p 1 0),(3,.p 2 0),(9,w64 ((a.scores.length:Int) - 1))],[(1,.box [a.skater,.s (List.map ze0 a.scores)]),(2,.box [b.skater,.s (List.map ze0 b.scores)])],65,[]⟩:St))) ?_)
 refine AW.b (AW.loopS (fun s:Nat × Int=>(⟨[(2,.p 1 0),(3,.p 2 0),(9,s.2)],[(1,.box [a.skater,.s (List.map ze0 a.scores)]),(2,.box [b.skater,.s (List.map ze0 b.scores)])],65,[]⟩:St)) (fun s=>qBR a b s.1 s.2=some r) (fun s=>s.1) (fuel,w64 ((a.scores.length:Int) - 1)) hH ?_ ?_)
 exact Le.ct 0 0
 rintro ⟨k9,v23⟩ hH
 replace hH:qBR a b k9 v23=some r:=hH
 try dsimp only
 rcases k9 with _ | k9
 cases (show none=some _ from hH)
 rw [qBR] at hH
 refine AW.q (AW.q (AW.r ?_))
 refine AO.p2 T ?_
 refine AO.n (AW.c (b:=decide (v23 ≥ 0)) rfl (fun hc=>?_) (fun hc=>?_))
 replace hH:=condT hc hH
 refine AW.k (AW.q ?_)
 refine AW.b (AW.q ?_)
 obtain ⟨x25,hx26,hH⟩:=zB hH
 obtain ⟨x27,hx28,hH⟩:=zB hH
 refine AW.drawn 10 3 [] mix (by kernel_rfl) rfl ?_
 iterate 3 refine AD.pu T ?_
 refine AD.vv (ixs T (hx26)) ?_
 iterate 4 refine AD.pu T ?_
 refine AD.vv (ixs T (hx28)) ?_
 refine AD.pu T ?_
 refine AD.nil (AO.pu T ?_)
 refine AO.n (AW.c (b:=(x25 != x27)) rfl (fun hc=>?_) (fun hc=>?_))
 replace hH:=condT hc hH
 refine AW.q ?_
 obtain ⟨x29,hx30,hH⟩:=zB hH
 refine AW.drawn 10 3 [] mix (by kernel_rfl) rfl ?_
 iterate 3 refine AD.pu T ?_
 refine AD.vv (ixs T (hx26)) ?_
 iterate 4 refine AD.pu T ?_
 refine AD.vv (ixs T (hx28)) ?_
 refine AD.pu T ?_
 refine AD.nil (AO.w aws ?_)
 refine AO.w (cVs (qHo _ _ (hx30))) ?_
 refine AO.pu T ?_
 refine AO.n (AW.le (Le.ct 0 0 (σ':=(⟨[(4,x29)],[],65,[]⟩:St))) ?_)
 refine AW.t ?_
 have hR:=zS hH;subst hR
 exact retQ.i [] rfl (.c (.c .v))
 replace hH:=condF hc hH
 refine AW.k (AW.r ?_)
 refine AO.pu T ?_
 refine AO.w aws ?_
 refine AO.pu T ?_
 refine AO.n ?_
 refine ⟨(k9,w64 (v23 - 1)),hH,Nat.lt_succ_self _,?_⟩
 exact Le.ct 0 0
 replace hH:=condF hc hH
 refine AW.exit (AW.q (AW.r ?_))
 refine AO.pu T ?_
 refine AO.n (AW.t ?_)
 have hR:=zS hH;subst hR
 exact retQ.i [] rfl (.c (.c .v))

def qBJ (l:List Result) (i:Int) (fuel:Nat):List Result→Nat→Int→Option Int
 | [],k1,v16 =>
  some v16
 | y2::ys3,k1,v16 =>
  (qAb l i).bind fun x18 =>
  (qC4 fuel y2 x18).bind fun x20 =>
  cond (decide (x20 > 0))
   (qBJ l i fuel ys3 (k1+1) (w64 (v16+1)))
   (qBJ l i fuel ys3 (k1+1) v16)
def qDz (fuel:Nat) (l:List Result) (i:Int):Option Int :=
 qBJ l i fuel l 0 1
theorem qMr (fuel:Nat) (l:List Result) (i:Int) (r:Int) (hH:qDz fuel l i=some r):qAE Tryz.prog 48 [.s (List.map qHf l),i] (.v (.int .i64 r)):=by
 refine fns T Tryz.func48 ?_
 refine AW.q (AW.r (AO.pu T ?_))
 refine AO.n (AW.q (AW.r ?_))
 refine AO.pu T ?_
 refine AO.n (AW.q (AW.q ?_))
 refine AW.r (AO.pu T ?_)
 refine AO.w (qCC T) ?_
 refine AO.pu T ?_
 refine AO.n (AW.b ?_)
 refine AW.loopS (fun s:Nat × Int=>(⟨[(0,.s (List.map qHf l)),(1,i),(5,s.2),(8,.s (List.map qHf l)),(9,(l.length:Int)),(10,(s.1:Int))],[],25,[]⟩:St)) (fun s=>s.1 ≤ l.length∧qBJ l i fuel (l.drop s.1) s.1 s.2=some r) (fun s=>l.length - s.1) (0,1) ⟨Nat.zero_le _,hH⟩ ?_ ?_
 exact Le.ct 0 0
 rintro ⟨k1,v16⟩ ⟨hk,hH⟩
 replace hH:qBJ l i fuel (l.drop k1) k1 v16=some r:=hH
 try dsimp only
 refine AW.boundM (t:=0) (l:=l) rfl (fun hb5=>?_)
 rcases hd4:l.drop k1 with _ | ⟨y2,ys3⟩
 rw [hd4,qBJ] at hH
 have hlt6:=qAJ hd4
 refine AW.q (AW.r (AO.pu T ?_))
 refine AO.n (AW.q (AW.condF' (b:=decide ((k1:Int) < (l.length:Int))) rfl (qEQ hlt6) ?_))
 refine AW.exit (AW.q (AW.r ?_))
 refine AO.p2 T ?_
 refine AO.n (AW.t ?_)
 have hR:=zS hH;subst hR
 exact retQ.i [] rfl (.c (.c .v))
 rw [hd4,qBJ] at hH
 have hlt6:=qAK hd4
 refine AW.q (AW.r (AO.pu T ?_))
 refine AO.n (AW.q (AW.condT' (b:=decide ((k1:Int) < (l.length:Int))) rfl (qER hlt6) ?_))
 refine AW.k (AW.q ?_)
 refine AW.b (AW.q (AW.r ?_))
 refine AO.w (ixs T (zgD hd4)) ?_
 refine AO.pu T (d:=.g [y2.skater,.s (List.map ze0 y2.scores)]) ?_
 refine AO.x (als T 3) ?_
 refine AO.se T [y2.skater,.s (List.map ze0 y2.scores)] ?_
 refine AO.n (AW.q ?_)
 obtain ⟨x18,hx19,hH⟩:=zB hH
 obtain ⟨x20,hx21,hH⟩:=zB hH
 refine AW.drawn 5 4 [] mix (by kernel_rfl) rfl ?_
 refine AD.p T (d:=.g [y2.skater,.s (List.map ze0 y2.scores)]) rfl rfl rfl ?_
 iterate 2 refine AD.pu T ?_
 refine AD.vv (ixs T (hx19)) ?_
 refine AD.p T (d:=.g [x18.skater,.s (List.map ze0 x18.scores)]) rfl rfl rfl ?_
 refine AD.nil (AO.w (cVs (qF3 fuel _ _ _ (hx21))) ?_)
 refine AO.pu T ?_
 refine AO.n (AW.c (b:=decide (x20 > 0)) rfl (fun hc=>?_) (fun hc=>?_))
 replace hH:=condT hc hH
 refine AW.r (AO.pu T ?_)
 refine AO.w aws ?_
 refine AO.pu T ?_
 refine AO.n (AW.r ?_)
 refine AO.w (zR rfl rfl rfl rfl (zK hlt6 hb5)) ?_
 refine AO.pu T ?_
 refine AO.n ?_
 refine ⟨(k1+1,w64 (v16+1)),⟨Nat.succ_le_of_lt hlt6,(by rw [zds hd4];exact hH)⟩,(by have:=hlt6;dsimp only;omega),?_⟩
 exact Le.ct 0 0
 replace hH:=condF hc hH
 refine AW.k (AW.r ?_)
 refine AO.w (zR rfl rfl rfl rfl (zK hlt6 hb5)) ?_
 refine AO.pu T ?_
 refine AO.n ?_
 refine ⟨(k1+1,v16),⟨Nat.succ_le_of_lt hlt6,(by rw [zds hd4];exact hH)⟩,(by have:=hlt6;dsimp only;omega),?_⟩
 exact Le.ct 0 0

def qAj (l:List Result) (fuel:Nat):List Result→Nat→List Int→Option (((List Int) × Bool))
 | [],k3,v18 =>
  some (v18,true)
 | y4::ys5,k3,v18 =>
  (qDz fuel l (k3:Int)).bind fun x20 =>
  (qCw (qBE 8 (v18.length+([x20]).length))).bind fun u22 =>
  qAj l fuel ys5 (k3+1) (v18++[x20])
def qDc (fuel:Nat) (l:List Result):Option ((List Int) × Bool) :=
 (qEl l).bind fun x1 =>
 cond (!x1)
  (some ([],false))
  (qAj l fuel l 0 [])
theorem qIQ (fuel:Nat) (l:List Result) (r:((List Int) × Bool)) (hH:qDc fuel l=some r):qAE Tryz.prog 16 [.s (List.map qHf l)] (.t [.w 1 (r.1.map ze0),.v (.bool r.2)]):=by
 refine fns T Tryz.func16 ?_
 refine AW.q (AW.r (AO.p2 T ?_))
 refine AO.n (AW.q (AW.q ?_))
 obtain ⟨x1,hx2,hH⟩:=zB hH
 refine AW.r (AO.pu T ?_)
 refine AO.w (cVs (qHU _ _ (hx2))) ?_
 refine AO.pu T ?_
 refine AO.n (AW.c (b:=(!x1)) rfl (fun hc=>?_) (fun hc=>?_))
 replace hH:=condT hc hH
 refine AW.q (AW.r (AO.p2 T ?_))
 refine AO.n (AW.t ?_)
 have hR:=zS hH;subst hR
 exact retQ.i [] rfl (.t (zG (.c .nil) (zG (.c .v) (zGn))))
 replace hH:=condF hc hH
 refine AW.k (AW.q (AW.r ?_))
 refine AO.x (qHd T rfl rfl rfl rfl) ?_
 refine AO.pu T ?_
 refine AO.n (AW.q (AW.q ?_))
 refine AW.r (AO.pu T ?_)
 refine AO.w (qCC T) ?_
 refine AO.pu T ?_
 refine AO.n (AW.b ?_)
 refine AW.loopS (fun s:Nat × (List Int)=>(⟨[(0,.s (List.map qHf l)),(4,.R 4),(11,(l.length:Int)),(12,(s.1:Int))],[(4,.row 1 (List.map ze0 s.2))],23,[]⟩:St)) (fun s=>s.1 ≤ l.length∧qAj l fuel (l.drop s.1) s.1 s.2=some r) (fun s=>l.length - s.1) (0,[]) ⟨Nat.zero_le _,hH⟩ ?_ ?_
 refine Le.trans (Le.void 4 4 1 rfl rfl) ?_
 exact Le.ct 0 0
 rintro ⟨k3,v18⟩ ⟨hk,hH⟩
 replace hH:qAj l fuel (l.drop k3) k3 v18=some r:=hH
 try dsimp only
 refine AW.boundM (t:=0) (l:=l) rfl (fun hb7=>?_)
 rcases hd6:l.drop k3 with _ | ⟨y4,ys5⟩
 rw [hd6,qAj] at hH
 have hlt8:=qAJ hd6
 refine AW.q (AW.r (AO.pu T ?_))
 refine AO.n (AW.q (AW.condF' (b:=decide ((k3:Int) < (l.length:Int))) rfl (qEQ hlt8) ?_))
 refine AW.exit (AW.q (AW.r ?_))
 iterate 3 refine AO.pu T ?_
 refine AO.n (AW.t ?_)
 have hR:=zS hH;subst hR
 exact retQ.i [4] rfl (.t (zG (.c (.rowR rfl)) (zG (.c .v) (zGn))))
 rw [hd6,qAj] at hH
 have hlt8:=qAK hd6
 refine AW.q (AW.r (AO.pu T ?_))
 refine AO.n (AW.q (AW.condT' (b:=decide ((k3:Int) < (l.length:Int))) rfl (qER hlt8) ?_))
 refine AW.k (AW.q ?_)
 refine AW.b (AW.q (AW.r ?_))
 refine AO.p2 T ?_
 refine AO.n ?_
 obtain ⟨x20,hx21,hH⟩:=zB hH
 obtain ⟨u22,hx23,hH⟩:=zB hH
 refine AW.r ?_
 iterate 3 refine AO.pu T ?_
 refine AO.w (cVs (qMr fuel _ _ _ (hx21))) ?_
 refine AO.x (mks T 5 ze0 ([x20])) ?_
 refine AO.x (rvs T 6 (hfit:=by exact qA4 (hx23))) ?_
 refine AO.pu T ?_
 refine AO.n (AW.r ?_)
 refine AO.w (zR rfl rfl rfl rfl (zK hlt8 hb7)) ?_
 refine AO.pu T ?_
 refine AO.n ?_
 refine ⟨(k3+1,(v18++[x20])),⟨Nat.succ_le_of_lt hlt8,(by rw [zds hd6];exact hH)⟩,(by have:=hlt8;dsimp only;omega),?_⟩
 exact Le.ct 6 4

def qB5 (rA:Result):List Int→Nat→Bool→Option Bool
 | [],k1,v12 =>
  (qAp rA.skater 1 999).bind fun x14 =>
  (opt x14 default (qAp (rA.scores.length:Int) 1 3)).bind fun x16 =>
  some (x14 && x16)
 | y2::ys3,k1,v12 =>
  (qAp y2 (-1) 100000).bind fun x18 =>
  cond ((!x18) || (v12 && decide (y2 ≥ 0)))
   (some false)
   (qB5 rA ys3 (k1+1) (decide (y2 < 0)))
def qG5 (rA:Result):Option Bool :=
 qB5 rA rA.scores 0 false
theorem qLU (rA:Result) (r:Bool) (hH:qG5 rA=some r):qAE Tryz.prog 98 [.g (qHf rA)] (.v (.bool r)):=by
 refine fns T Tryz.func98 ?_
 refine AW.q (AW.r (AO.x (bxs T 1) ?_))
 refine AO.pu T ?_
 refine AO.n (AW.q (AW.r ?_))
 refine AO.pu T ?_
 refine AO.n (AW.q (AW.q ?_))
 refine AW.r (AO.p2 T ?_)
 refine AO.w (qCC T) ?_
 refine AO.pu T ?_
 refine AO.n (AW.b ?_)
 refine AW.loopS (fun s:Nat × Bool=>(⟨[(1,.p 1 0),(3,.v (.bool s.2)),(7,.s (List.map ze0 rA.scores)),(8,(rA.scores.length:Int)),(9,(s.1:Int))],[(1,.box [rA.skater,.s (List.map ze0 rA.scores)])],35,[]⟩:St)) (fun s=>s.1 ≤ rA.scores.length∧qB5 rA (rA.scores.drop s.1) s.1 s.2=some r) (fun s=>rA.scores.length - s.1) (0,false) ⟨Nat.zero_le _,hH⟩ ?_ ?_
 exact Le.ct 0 0
 rintro ⟨k1,v12⟩ ⟨hk,hH⟩
 replace hH:qB5 rA (rA.scores.drop k1) k1 v12=some r:=hH
 try dsimp only
 refine AW.boundM (t:=7) (l:=rA.scores) rfl (fun hb5=>?_)
 rcases hd4:rA.scores.drop k1 with _ | ⟨y2,ys3⟩
 rw [hd4,qB5] at hH
 have hlt6:=qAJ hd4
 refine AW.q (AW.r (AO.pu T ?_))
 refine AO.n (AW.q (AW.condF' (b:=decide ((k1:Int) < (rA.scores.length:Int))) rfl (qEQ hlt6) ?_))
 refine AW.exit (AW.q ?_)
 obtain ⟨x14,hx15,hH⟩:=zB hH
 obtain ⟨x16,hx17,hH⟩:=zB hH
 refine AW.r (AO.p2 T ?_)
 refine AO.w (cVs (qAt _ _ _ _ (hx15))) ?_
 refine AO.pu T ?_
 refine AO.g T [] rfl trivial rfl rfl ?_
 refine AO.g T [30] rfl ⟨fun h=>h,trivial⟩ rfl rfl ?_
 refine AO.d [31] rfl ⟨fun h=>h,trivial⟩ (fun hg=>zL T rfl rfl rfl) rfl ?_
 refine AO.d [32] rfl ⟨fun h=>h,trivial⟩ (fun hg=>zV rfl rfl rfl rfl (qAt _ _ _ _ (qEA hx17 hg)) rfl) rfl ?_
 refine AO.w qFy ?_
 refine AO.pu T ?_
 refine AO.n (AW.t ?_)
 have hR:=zS hH;subst hR
 exact retQ.i [] rfl (.c (.c .v))
 rw [hd4,qB5] at hH
 have hlt6:=qAK hd4
 refine AW.q (AW.r (AO.pu T ?_))
 refine AO.n (AW.q (AW.condT' (b:=decide ((k1:Int) < (rA.scores.length:Int))) rfl (qER hlt6) ?_))
 refine AW.k (AW.q ?_)
 refine AW.b (AW.q (AW.r ?_))
 refine AO.w (ixs T (zgD hd4)) ?_
 refine AO.p2 T ?_
 refine AO.n (AW.q (AW.q ?_))
 obtain ⟨x18,hx19,hH⟩:=zB hH
 refine AW.r (AO.pu T ?_)
 refine AO.w (cVs (qAt _ _ _ _ (hx19))) ?_
 refine AO.p2 T ?_
 refine AO.g T [] rfl trivial rfl rfl ?_
 refine AO.g T [17] rfl ⟨fun h=>h,trivial⟩ rfl rfl ?_
 refine AO.g T [] rfl trivial rfl rfl ?_
 refine AO.g T [19] rfl ⟨fun h=>h,trivial⟩ rfl rfl ?_
 refine AO.d [18] rfl ⟨fun h=>h,trivial⟩ (fun hg=>zN rfl rfl rfl (by rw [hg];exact Bool.true_and _)) rfl ?_
 refine AO.w ors ?_
 refine AO.n (AW.c (b:=((!x18) || (v12 && decide (y2 ≥ 0)))) rfl (fun hc=>?_) (fun hc=>?_))
 replace hH:=condT hc hH
 refine AW.q (AW.r (AO.pu T ?_))
 refine AO.n (AW.t ?_)
 have hR:=zS hH;subst hR
 exact retQ.i [] rfl (.c (.c .v))
 replace hH:=condF hc hH
 refine AW.k (AW.r ?_)
 iterate 3 refine AO.pu T ?_
 refine AO.n (AW.r ?_)
 refine AO.w (zR rfl rfl rfl rfl (zK hlt6 hb5)) ?_
 refine AO.pu T ?_
 refine AO.n ?_
 refine ⟨(k1+1,decide (y2 < 0)),⟨Nat.succ_le_of_lt hlt6,(by rw [zds hd4];exact hH)⟩,(by have:=hlt6;dsimp only;omega),?_⟩
 exact Le.ct 0 0

def qDG (n:Int):List Int→Nat→Option Bool
 | [],k1 =>
  some false
 | y2::ys3,k1 =>
  cond (y2 == n)
   (some true)
   (qDG n ys3 (k1+1))
def qI3 (l:List Int) (n:Int):Option Bool :=
 qDG n l 0
theorem qNm (l:List Int) (n:Int) (r:Bool) (hH:qI3 l n=some r):qAE Tryz.prog 99 [.s (List.map ze0 l),n] (.v (.bool r)):=by
 refine fns T Tryz.func99 ?_
 refine AW.q (AW.r (AO.pu T ?_))
 refine AO.n (AW.q (AW.q ?_))
 refine AW.r (AO.pu T ?_)
 refine AO.w (qCC T) ?_
 refine AO.pu T ?_
 refine AO.n (AW.b ?_)
 refine AW.loopS (fun s:Nat=>(⟨[(1,n),(7,.s (List.map ze0 l)),(8,(l.length:Int)),(9,(s:Int))],[],17,[]⟩:St)) (fun s=>s ≤ l.length∧qDG n (l.drop s) s=some r) (fun s=>l.length - s) 0 ⟨Nat.zero_le _,hH⟩ ?_ ?_
 exact Le.ct 0 0
 rintro k1 ⟨hk,hH⟩
 replace hH:qDG n (l.drop k1) k1=some r:=hH
 try dsimp only
 refine AW.boundM (t:=7) (l:=l) rfl (fun hb5=>?_)
 rcases hd4:l.drop k1 with _ | ⟨y2,ys3⟩
 rw [hd4,qDG] at hH
 have hlt6:=qAJ hd4
 refine AW.q (AW.r (AO.pu T ?_))
 refine AO.n (AW.q (AW.condF' (b:=decide ((k1:Int) < (l.length:Int))) rfl (qEQ hlt6) ?_))
 refine AW.exit (AW.q (AW.r ?_))
 refine AO.pu T ?_
 refine AO.n (AW.t ?_)
 have hR:=zS hH;subst hR
 exact retQ.i [] rfl (.c (.c .v))
 rw [hd4,qDG] at hH
 have hlt6:=qAK hd4
 refine AW.q (AW.r (AO.pu T ?_))
 refine AO.n (AW.q (AW.condT' (b:=decide ((k1:Int) < (l.length:Int))) rfl (qER hlt6) ?_))
 refine AW.k (AW.q ?_)
 refine AW.b (AW.q (AW.r ?_))
 refine AO.w (ixs T (zgD hd4)) ?_
 refine AO.p2 T ?_
 refine AO.n (AW.q (AW.r ?_))
 iterate 3 refine AO.pu T ?_
 refine AO.n (AW.c (b:=(y2 == n)) rfl (fun hc=>?_) (fun hc=>?_))
 replace hH:=condT hc hH
 refine AW.q (AW.r (AO.pu T ?_))
 refine AO.n (AW.t ?_)
 have hR:=zS hH;subst hR
 exact retQ.i [] rfl (.c (.c .v))
 replace hH:=condF hc hH
 refine AW.k (AW.r ?_)
 refine AO.w (zR rfl rfl rfl rfl (zK hlt6 hb5)) ?_
 refine AO.pu T ?_
 refine AO.n ?_
 refine ⟨k1+1,⟨Nat.succ_le_of_lt hlt6,(by rw [zds hd4];exact hH)⟩,(by have:=hlt6;dsimp only;omega),?_⟩
 exact Le.ct 0 0

def qCj (l:List Result):List Result→Nat→List Int→Option Bool
 | [],k1,v24 =>
  some (decide ((l.length:Int) ≤ 40))
 | y2::ys3,k1,v24 =>
  (qG5 y2).bind fun x26 =>
  (opt (!(!x26)) default (qI3 v24 y2.skater)).bind fun x28 =>
  (opt (!((!x26) || x28)) default (qAb l 0)).bind fun x30 =>
  cond (((!x26) || x28) || ((y2.scores.length:Int) != (x30.scores.length:Int)))
   (some false)
   ((qCw (qBE 8 (v24.length+([y2.skater]).length))).bind fun u32 =>
   qCj l ys3 (k1+1) (v24++[y2.skater]))
def qIM (l:List Result):Option Bool :=
 qCj l l 0 []
theorem qNI (l:List Result) (r:Bool) (hH:qIM l=some r):qAE Tryz.prog 49 [.s (List.map qHf l)] (.v (.bool r)):=by
 refine fns T Tryz.func49 ?_
 refine AW.q (AW.r (AO.pu T ?_))
 refine AO.n (AW.q (AW.r ?_))
 refine AO.pu T ?_
 refine AO.n (AW.q (AW.q ?_))
 refine AW.r (AO.pu T ?_)
 refine AO.w (qCC T) ?_
 refine AO.pu T ?_
 refine AO.n (AW.b ?_)
 refine AW.loopS (fun s:Nat × (List Int)=>(⟨[(0,.s (List.map qHf l)),(3,.R 6),(6,.s (List.map qHf l)),(7,(l.length:Int)),(8,(s.1:Int))],[(6,.row 1 (List.map ze0 s.2))],41,[]⟩:St)) (fun s=>s.1 ≤ l.length∧qCj l (l.drop s.1) s.1 s.2=some r) (fun s=>l.length - s.1) (0,[]) ⟨Nat.zero_le _,hH⟩ ?_ ?_
 refine Le.trans (Le.void 3 6 1 rfl rfl) ?_
 exact Le.ct 0 0
 rintro ⟨k1,v24⟩ ⟨hk,hH⟩
 replace hH:qCj l (l.drop k1) k1 v24=some r:=hH
 try dsimp only
 refine AW.boundM (t:=0) (l:=l) rfl (fun hb5=>?_)
 rcases hd4:l.drop k1 with _ | ⟨y2,ys3⟩
 rw [hd4,qCj] at hH
 have hlt6:=qAJ hd4
 refine AW.q (AW.r (AO.pu T ?_))
 refine AO.n (AW.q (AW.condF' (b:=decide ((k1:Int) < (l.length:Int))) rfl (qEQ hlt6) ?_))
 refine AW.exit (AW.q (AW.r ?_))
 refine AO.pu T ?_
 refine AO.w (qCC T) ?_
 refine AO.p2 T ?_
 refine AO.n (AW.t ?_)
 have hR:=zS hH;subst hR
 exact retQ.i [] rfl (.c (.c .v))
 rw [hd4,qCj] at hH
 have hlt6:=qAK hd4
 refine AW.q (AW.r (AO.pu T ?_))
 refine AO.n (AW.q (AW.condT' (b:=decide ((k1:Int) < (l.length:Int))) rfl (qER hlt6) ?_))
 refine AW.k (AW.q ?_)
 refine AW.b (AW.q (AW.r ?_))
 refine AO.w (ixs T (zgD hd4)) ?_
 refine AO.pu T (d:=.g [y2.skater,.s (List.map ze0 y2.scores)]) ?_
 refine AO.x (als T 7) ?_
 refine AO.se T [y2.skater,.s (List.map ze0 y2.scores)] ?_
 refine AO.n (AW.q (AW.q ?_))
 obtain ⟨x26,hx27,hH⟩:=zB hH
 obtain ⟨x28,hx29,hH⟩:=zB hH
 obtain ⟨x30,hx31,hH⟩:=zB hH
 refine AW.drawn 18 8 [] mix (by kernel_rfl) rfl ?_
 refine AD.p T (d:=.g [y2.skater,.s (List.map ze0 y2.scores)]) rfl rfl rfl ?_
 refine AD.vv (cVs (qLU _ _ (hx27))) ?_
 iterate 2 refine AD.pu T ?_
 iterate 2 refine AD.pureG T [] rfl trivial rfl rfl ?_
 refine AD.pureG T [17] rfl ⟨fun h=>h,trivial⟩ rfl rfl ?_
 refine AD.guard [16,18] rfl ⟨fun h=>h,fun h=>h,trivial⟩ (fun hg=>zLV rfl rfl rfl (es:=[.s (List.map ze0 v24),y2.skater]) ⟨(.rowR rfl (.map fun y=>.vs rfl)),.free rfl,trivial⟩ (qNm _ _ _ (qEA hx29 hg)) (qAF _) rfl) rfl ?_
 refine AD.vv ors ?_
 refine AD.pu T ?_
 refine AD.pureG T [] rfl trivial rfl rfl ?_
 refine AD.pureG T [22] rfl ⟨fun h=>h,trivial⟩ rfl rfl ?_
 refine AD.guard [23] rfl ⟨fun h=>h,trivial⟩ (fun hg=>zL T rfl rfl rfl) rfl ?_
 refine AD.pureG T [] rfl trivial rfl rfl ?_
 refine AD.guard [25] rfl ⟨fun h=>h,trivial⟩ (fun hg=>zX T rfl rfl rfl rfl rfl (qEA hx31 hg) rfl) rfl ?_
 refine AD.pureG T [26] rfl ⟨fun h=>h,trivial⟩ rfl rfl ?_
 refine AD.pureG T [27] rfl ⟨fun h=>h,trivial⟩ rfl rfl ?_
 refine AD.guard [28] rfl ⟨fun h=>h,trivial⟩ (fun hg=>zL T rfl rfl rfl) rfl ?_
 refine AD.nil (AO.g T [24,29] rfl ⟨fun h=>h,fun h=>h,trivial⟩ rfl rfl ?_)
 refine AO.w ors ?_
 refine AO.n (AW.le (Le.ct 0 0 (σ':=(⟨[(0,.s (List.map qHf l)),(3,.R 6),(5,.p 7 0),(6,.s (List.map qHf l)),(7,(l.length:Int)),(8,(k1:Int)),(31,.v (.bool (((!x26) || x28) || ((y2.scores.length:Int) != (x30.scores.length:Int)))))],[(6,.row 1 (List.map ze0 v24)),(7,.box [y2.skater,.s (List.map ze0 y2.scores)])],41,[]⟩:St))) ?_)
 refine AW.c (b:=(((!x26) || x28) || ((y2.scores.length:Int) != (x30.scores.length:Int)))) rfl (fun hc=>?_) (fun hc=>?_)
 replace hH:=condT hc hH
 refine AW.q (AW.r (AO.pu T ?_))
 refine AO.n (AW.t ?_)
 have hR:=zS hH;subst hR
 exact retQ.i [] rfl (.c (.c .v))
 replace hH:=condF hc hH
 refine AW.k ?_
 obtain ⟨u32,hx33,hH⟩:=zB hH
 refine AW.r ?_
 iterate 3 refine AO.pu T ?_
 refine AO.x (mks T 8 ze0 ([y2.skater])) ?_
 refine AO.x (rvs T 9 (hfit:=by exact qA4 (hx33))) ?_
 refine AO.pu T ?_
 refine AO.n (AW.r ?_)
 refine AO.w (zR rfl rfl rfl rfl (zK hlt6 hb5)) ?_
 refine AO.pu T ?_
 refine AO.n ?_
 refine ⟨(k1+1,(v24++[y2.skater])),⟨Nat.succ_le_of_lt hlt6,(by rw [zds hd4];exact hH)⟩,(by have:=hlt6;dsimp only;omega),?_⟩
 exact Le.ct 9 6

def qBx:List Int→Nat→Int→Int→Option ((Int × Int))
 | [],k1,v9,v10 =>
  some (v9,v10)
 | y2::ys3,k1,v9,v10 =>
  cond (decide (y2 ≥ 0))
   (qBx ys3 (k1+1) (w64 (v9+y2)) (w64 (v10+1)))
   (qBx ys3 (k1+1) v9 v10)
def qGK (rA:Result):Option (Int × Int) :=
 qBx rA.scores 0 0 0
theorem qJP (rA:Result) (r:(Int × Int)) (hH:qGK rA=some r):qAE Tryz.prog 170 [.g (qHf rA)] (.t [.v (.int .i64 r.1),.v (.int .i64 r.2)]):=by
 refine fns T Tryz.func170 ?_
 refine AW.q (AW.r (AO.x (bxs T 1) ?_))
 refine AO.p2 T ?_
 refine AO.n (AW.q (AW.r ?_))
 refine AO.p2 T ?_
 refine AO.n (AW.q (AW.q ?_))
 refine AW.r (AO.p2 T ?_)
 refine AO.w (qCC T) ?_
 refine AO.pu T ?_
 refine AO.n (AW.b ?_)
 refine AW.loopS (fun s:Nat × Int × Int=>(⟨[(4,s.2.1),(5,s.2.2),(9,.s (List.map ze0 rA.scores)),(10,(rA.scores.length:Int)),(11,(s.1:Int))],[],25,[]⟩:St)) (fun s=>s.1 ≤ rA.scores.length∧qBx (rA.scores.drop s.1) s.1 s.2.1 s.2.2=some r) (fun s=>rA.scores.length - s.1) (0,0,0) ⟨Nat.zero_le _,hH⟩ ?_ ?_
 exact Le.ct 0 0
 rintro ⟨k1,v9,v10⟩ ⟨hk,hH⟩
 replace hH:qBx (rA.scores.drop k1) k1 v9 v10=some r:=hH
 try dsimp only
 refine AW.boundM (t:=9) (l:=rA.scores) rfl (fun hb5=>?_)
 rcases hd4:rA.scores.drop k1 with _ | ⟨y2,ys3⟩
 rw [hd4,qBx] at hH
 have hlt6:=qAJ hd4
 refine AW.q (AW.r (AO.pu T ?_))
 refine AO.n (AW.q (AW.condF' (b:=decide ((k1:Int) < (rA.scores.length:Int))) rfl (qEQ hlt6) ?_))
 refine AW.exit (AW.q (AW.r ?_))
 iterate 4 refine AO.pu T ?_
 refine AO.n (AW.t ?_)
 have hR:=zS hH;subst hR
 exact retQ.i [] rfl (.t (zG (.c .v) (zG (.c .v) (zGn))))
 rw [hd4,qBx] at hH
 have hlt6:=qAK hd4
 refine AW.q (AW.r (AO.pu T ?_))
 refine AO.n (AW.q (AW.condT' (b:=decide ((k1:Int) < (rA.scores.length:Int))) rfl (qER hlt6) ?_))
 refine AW.k (AW.q ?_)
 refine AW.b (AW.q (AW.r ?_))
 refine AO.w (ixs T (zgD hd4)) ?_
 refine AO.p2 T ?_
 refine AO.n (AW.q (AW.r ?_))
 refine AO.p2 T ?_
 refine AO.n (AW.c (b:=decide (y2 ≥ 0)) rfl (fun hc=>?_) (fun hc=>?_))
 replace hH:=condT hc hH
 refine AW.q (AW.r (AO.p2 T ?_))
 refine AO.w aws ?_
 refine AO.pu T ?_
 refine AO.n (AW.r ?_)
 refine AO.pu T ?_
 refine AO.w aws ?_
 refine AO.pu T ?_
 refine AO.n (AW.r ?_)
 refine AO.w (zR rfl rfl rfl rfl (zK hlt6 hb5)) ?_
 refine AO.pu T ?_
 refine AO.n ?_
 refine ⟨(k1+1,w64 (v9+y2),w64 (v10+1)),⟨Nat.succ_le_of_lt hlt6,(by rw [zds hd4];exact hH)⟩,(by have:=hlt6;dsimp only;omega),?_⟩
 exact Le.ct 0 0
 replace hH:=condF hc hH
 refine AW.k (AW.r ?_)
 refine AO.w (zR rfl rfl rfl rfl (zK hlt6 hb5)) ?_
 refine AO.pu T ?_
 refine AO.n ?_
 refine ⟨(k1+1,v9,v10),⟨Nat.succ_le_of_lt hlt6,(by rw [zds hd4];exact hH)⟩,(by have:=hlt6;dsimp only;omega),?_⟩
 exact Le.ct 0 0

def qDm (n:Int):Option Int :=
 cond (decide (n > 0))
  (some 1)
  (cond (decide (n < 0))
   (some (-1))
   (some 0))
theorem qHy (n:Int) (r:Int) (hH:qDm n=some r):qAE Tryz.prog 171 [n] (.v (.int .i64 r)):=by
 refine fns T Tryz.func171 ?_
 refine AW.q (AW.r (AO.pu T ?_))
 refine AO.n (AW.q (AW.b ?_))
 refine AW.q (AW.r ?_)
 iterate 3 refine AO.pu T ?_
 refine AO.n (AW.c (b:=decide (n > 0)) rfl (fun hc=>?_) (fun hc=>?_))
 replace hH:=condT hc hH
 refine AW.q (AW.r (AO.pu T ?_))
 refine AO.n (AW.t ?_)
 have hR:=zS hH;subst hR
 exact retQ.i [] rfl (.c (.c .v))
 replace hH:=condF hc hH
 refine AW.q (AW.r ?_)
 iterate 3 refine AO.pu T ?_
 refine AO.n (AW.c (b:=decide (n < 0)) rfl (fun hc=>?_) (fun hc=>?_))
 replace hH:=condT hc hH
 refine AW.q (AW.r (AO.pu T ?_))
 refine AO.n (AW.t ?_)
 have hR:=zS hH;subst hR
 exact retQ.i [] rfl (.c (.c .v))
 replace hH:=condF hc hH
 refine AW.k (AW.q (AW.r ?_))
 refine AO.pu T ?_
 refine AO.n (AW.t ?_)
 have hR:=zS hH;subst hR
 exact retQ.i [] rfl (.c (.c .v))

def qCg (a:Result) (b:Result):Nat→Int→Option Int
 | 0,_=>none
 | k9+1,v23 =>
  cond (decide (v23 ≥ 0))
   ((qAb a.scores v23).bind fun x25 =>
   (qAb b.scores v23).bind fun x27 =>
   cond (x25 != x27)
    ((qDm (w64 (x25 - x27))).bind fun x29 =>
    some x29)
    (qCg a b k9 (w64 (v23 - 1))))
   (some 0)
def qFK (fuel:Nat) (a:Result) (b:Result):Option Int :=
 (qGK a).bind fun x1 =>
 (qGK b).bind fun x3 =>
 cond (x1.2 != x3.2)
  ((qDm (w64 (x1.2 - x3.2))).bind fun x5 =>
  some x5)
  (cond (x1.1 != x3.1)
   ((qDm (w64 (x1.1 - x3.1))).bind fun x7 =>
   some x7)
   (qCg a b fuel (w64 ((a.scores.length:Int) - 1))))
theorem qK0 (fuel:Nat) (a:Result) (b:Result) (r:Int) (hH:qFK fuel a b=some r):qAE Tryz.prog 137 [.g (qHf a),.g (qHf b)] (.v (.int .i64 r)):=by
 refine fns T Tryz.func137 ?_
 refine AW.q (AW.r (AO.x (bxs T 1) ?_))
 refine AO.x (bxs T 2) ?_
 refine AO.pu T ?_
 refine AO.n (AW.q ?_)
 obtain ⟨x1,hx2,hH⟩:=zB hH
 refine AW.r (AO.pu T (d:=.g [a.skater,.s (List.map ze0 a.scores)]) ?_)
 refine AO.w (cVs (qJP _ _ (hx2))) ?_
 iterate 5 refine AO.pu T ?_
 refine AO.n (AW.q ?_)
 obtain ⟨x3,hx4,hH⟩:=zB hH
 refine AW.r (AO.pu T (d:=.g [b.skater,.s (List.map ze0 b.scores)]) ?_)
 refine AO.w (cVs (qJP _ _ (hx4))) ?_
 iterate 5 refine AO.pu T ?_
 refine AO.n (AW.q (AW.q ?_))
 refine AW.r ?_
 iterate 3 refine AO.pu T ?_
 refine AO.n (AW.c (b:=(x1.2 != x3.2)) rfl (fun hc=>?_) (fun hc=>?_))
 replace hH:=condT hc hH
 refine AW.q ?_
 obtain ⟨x5,hx6,hH⟩:=zB hH
 refine AW.r (AO.p2 T ?_)
 refine AO.w aws ?_
 refine AO.w (cVs (qHy _ _ (hx6))) ?_
 refine AO.pu T ?_
 refine AO.n (AW.le (Le.ct 0 0 (σ':=(⟨[(4,x5)],[],65,[]⟩:St))) ?_)
 refine AW.t ?_
 have hR:=zS hH;subst hR
 exact retQ.i [] rfl (.c (.c .v))
 replace hH:=condF hc hH
 refine AW.k (AW.q (AW.q ?_))
 refine AW.r ?_
 iterate 3 refine AO.pu T ?_
 refine AO.n (AW.c (b:=(x1.1 != x3.1)) rfl (fun hc=>?_) (fun hc=>?_))
 replace hH:=condT hc hH
 refine AW.q ?_
 obtain ⟨x7,hx8,hH⟩:=zB hH
 refine AW.r (AO.p2 T ?_)
 refine AO.w aws ?_
 refine AO.w (cVs (qHy _ _ (hx8))) ?_
 refine AO.pu T ?_
 refine AO.n (AW.le (Le.ct 0 0 (σ':=(⟨[(4,x7)],[],65,[]⟩:St))) ?_)
 refine AW.t ?_
 have hR:=zS hH;subst hR
 exact retQ.i [] rfl (.c (.c .v))
 replace hH:=condF hc hH
 refine AW.k (AW.q (AW.q ?_))
 refine AW.r (AO.p2 T ?_)
 refine AO.w (qCC T) ?_
 refine AO.w aws ?_
 refine AO.pu T ?_
 refine AO.n (AW.le (Le.ct 0 0 (σ':=(⟨[(2,.p 1 0),(3,.p 2 0),(9,w64 ((a.scores.length:Int) - 1))],[(1,.box [a.skater,.s (List.map ze0 a.scores)]),(2,.box [b.skater,.s (List.map ze0 b.scores)])],65,[]⟩:St))) ?_)
 refine AW.b (AW.loopS (fun s:Nat × Int=>(⟨[(2,.p 1 0),(3,.p 2 0),(9,s.2)],[(1,.box [a.skater,.s (List.map ze0 a.scores)]),(2,.box [b.skater,.s (List.map ze0 b.scores)])],65,[]⟩:St)) (fun s=>qCg a b s.1 s.2=some r) (fun s=>s.1) (fuel,w64 ((a.scores.length:Int) - 1)) hH ?_ ?_)
 exact Le.ct 0 0
 rintro ⟨k9,v23⟩ hH
 replace hH:qCg a b k9 v23=some r:=hH
 try dsimp only
 rcases k9 with _ | k9
 cases (show none=some _ from hH)
 rw [qCg] at hH
 refine AW.q (AW.q (AW.r ?_))
 refine AO.p2 T ?_
 refine AO.n (AW.c (b:=decide (v23 ≥ 0)) rfl (fun hc=>?_) (fun hc=>?_))
 replace hH:=condT hc hH
 refine AW.k (AW.q ?_)
 refine AW.b (AW.q ?_)
 obtain ⟨x25,hx26,hH⟩:=zB hH
 obtain ⟨x27,hx28,hH⟩:=zB hH
 refine AW.drawn 10 3 [] mix (by kernel_rfl) rfl ?_
 iterate 3 refine AD.pu T ?_
 refine AD.vv (ixs T (hx26)) ?_
 iterate 4 refine AD.pu T ?_
 refine AD.vv (ixs T (hx28)) ?_
 refine AD.pu T ?_
 refine AD.nil (AO.pu T ?_)
 refine AO.n (AW.c (b:=(x25 != x27)) rfl (fun hc=>?_) (fun hc=>?_))
 replace hH:=condT hc hH
 refine AW.q ?_
 obtain ⟨x29,hx30,hH⟩:=zB hH
 refine AW.drawn 10 3 [] mix (by kernel_rfl) rfl ?_
 iterate 3 refine AD.pu T ?_
 refine AD.vv (ixs T (hx26)) ?_
 iterate 4 refine AD.pu T ?_
 refine AD.vv (ixs T (hx28)) ?_
 refine AD.pu T ?_
 refine AD.nil (AO.w aws ?_)
 refine AO.w (cVs (qHy _ _ (hx30))) ?_
 refine AO.pu T ?_
 refine AO.n (AW.le (Le.ct 0 0 (σ':=(⟨[(4,x29)],[],65,[]⟩:St))) ?_)
 refine AW.t ?_
 have hR:=zS hH;subst hR
 exact retQ.i [] rfl (.c (.c .v))
 replace hH:=condF hc hH
 refine AW.k (AW.r ?_)
 refine AO.pu T ?_
 refine AO.w aws ?_
 refine AO.pu T ?_
 refine AO.n ?_
 refine ⟨(k9,w64 (v23 - 1)),hH,Nat.lt_succ_self _,?_⟩
 exact Le.ct 0 0
 replace hH:=condF hc hH
 refine AW.exit (AW.q (AW.r ?_))
 refine AO.pu T ?_
 refine AO.n (AW.t ?_)
 have hR:=zS hH;subst hR
 exact retQ.i [] rfl (.c (.c .v))

def qBK (l:List Result) (i:Int) (fuel:Nat):List Result→Nat→Int→Option Int
 | [],k1,v16 =>
  some v16
 | y2::ys3,k1,v16 =>
  (qAb l i).bind fun x18 =>
  (qFK fuel y2 x18).bind fun x20 =>
  cond (decide (x20 > 0))
   (qBK l i fuel ys3 (k1+1) (w64 (v16+1)))
   (qBK l i fuel ys3 (k1+1) v16)
def qDy (fuel:Nat) (l:List Result) (i:Int):Option Int :=
 qBK l i fuel l 0 1
theorem qL7 (fuel:Nat) (l:List Result) (i:Int) (r:Int) (hH:qDy fuel l i=some r):qAE Tryz.prog 100 [.s (List.map qHf l),i] (.v (.int .i64 r)):=by
 refine fns T Tryz.func100 ?_
 refine AW.q (AW.r (AO.pu T ?_))
 refine AO.n (AW.q (AW.r ?_))
 refine AO.pu T ?_
 refine AO.n (AW.q (AW.q ?_))
 refine AW.r (AO.pu T ?_)
 refine AO.w (qCC T) ?_
 refine AO.pu T ?_
 refine AO.n (AW.b ?_)
 refine AW.loopS (fun s:Nat × Int=>(⟨[(0,.s (List.map qHf l)),(1,i),(5,s.2),(8,.s (List.map qHf l)),(9,(l.length:Int)),(10,(s.1:Int))],[],25,[]⟩:St)) (fun s=>s.1 ≤ l.length∧qBK l i fuel (l.drop s.1) s.1 s.2=some r) (fun s=>l.length - s.1) (0,1) ⟨Nat.zero_le _,hH⟩ ?_ ?_
 exact Le.ct 0 0
 rintro ⟨k1,v16⟩ ⟨hk,hH⟩
 replace hH:qBK l i fuel (l.drop k1) k1 v16=some r:=hH
 try dsimp only
 refine AW.boundM (t:=0) (l:=l) rfl (fun hb5=>?_)
 rcases hd4:l.drop k1 with _ | ⟨y2,ys3⟩
 rw [hd4,qBK] at hH
 have hlt6:=qAJ hd4
 refine AW.q (AW.r (AO.pu T ?_))
 refine AO.n (AW.q (AW.condF' (b:=decide ((k1:Int) < (l.length:Int))) rfl (qEQ hlt6) ?_))
 refine AW.exit (AW.q (AW.r ?_))
 refine AO.p2 T ?_
 refine AO.n (AW.t ?_)
 have hR:=zS hH;subst hR
 exact retQ.i [] rfl (.c (.c .v))
 rw [hd4,qBK] at hH
 have hlt6:=qAK hd4
 refine AW.q (AW.r (AO.pu T ?_))
 refine AO.n (AW.q (AW.condT' (b:=decide ((k1:Int) < (l.length:Int))) rfl (qER hlt6) ?_))
 refine AW.k (AW.q ?_)
 refine AW.b (AW.q (AW.r ?_))
 refine AO.w (ixs T (zgD hd4)) ?_
 refine AO.pu T (d:=.g [y2.skater,.s (List.map ze0 y2.scores)]) ?_
 refine AO.x (als T 3) ?_
 refine AO.se T [y2.skater,.s (List.map ze0 y2.scores)] ?_
 refine AO.n (AW.q ?_)
 obtain ⟨x18,hx19,hH⟩:=zB hH
 obtain ⟨x20,hx21,hH⟩:=zB hH
 refine AW.drawn 5 4 [] mix (by kernel_rfl) rfl ?_
 refine AD.p T (d:=.g [y2.skater,.s (List.map ze0 y2.scores)]) rfl rfl rfl ?_
 iterate 2 refine AD.pu T ?_
 refine AD.vv (ixs T (hx19)) ?_
 refine AD.p T (d:=.g [x18.skater,.s (List.map ze0 x18.scores)]) rfl rfl rfl ?_
 refine AD.nil (AO.w (cVs (qK0 fuel _ _ _ (hx21))) ?_)
 refine AO.pu T ?_
 refine AO.n (AW.c (b:=decide (x20 > 0)) rfl (fun hc=>?_) (fun hc=>?_))
 replace hH:=condT hc hH
 refine AW.r (AO.pu T ?_)
 refine AO.w aws ?_
 refine AO.pu T ?_
 refine AO.n (AW.r ?_)
 refine AO.w (zR rfl rfl rfl rfl (zK hlt6 hb5)) ?_
 refine AO.pu T ?_
 refine AO.n ?_
 refine ⟨(k1+1,w64 (v16+1)),⟨Nat.succ_le_of_lt hlt6,(by rw [zds hd4];exact hH)⟩,(by have:=hlt6;dsimp only;omega),?_⟩
 exact Le.ct 0 0
 replace hH:=condF hc hH
 refine AW.k (AW.r ?_)
 refine AO.w (zR rfl rfl rfl rfl (zK hlt6 hb5)) ?_
 refine AO.pu T ?_
 refine AO.n ?_
 refine ⟨(k1+1,v16),⟨Nat.succ_le_of_lt hlt6,(by rw [zds hd4];exact hH)⟩,(by have:=hlt6;dsimp only;omega),?_⟩
 exact Le.ct 0 0

def qB2 (l:List Result) (fuel:Nat):List Result→Nat→List Int→Option ((List Int))
 | [],k1,v16 =>
  some v16
 | y2::ys3,k1,v16 =>
  (qDy fuel l (k1:Int)).bind fun x18 =>
  (qCw (qBE 8 (v16.length+([x18]).length))).bind fun u20 =>
  qB2 l fuel ys3 (k1+1) (v16++[x18])
def qHP (fuel:Nat) (l:List Result):Option (List Int) :=
 qB2 l fuel l 0 []
theorem qLf (fuel:Nat) (l:List Result) (r:(List Int)) (hH:qHP fuel l=some r):qAE Tryz.prog 50 [.s (List.map qHf l)] (.w 1 (r.map ze0)):=by
 refine fns T Tryz.func50 ?_
 refine AW.q (AW.r (AO.pu T ?_))
 refine AO.n (AW.q (AW.r ?_))
 refine AO.pu T ?_
 refine AO.n (AW.q (AW.q ?_))
 refine AW.r (AO.pu T ?_)
 refine AO.w (qCC T) ?_
 refine AO.pu T ?_
 refine AO.n (AW.b ?_)
 refine AW.loopS (fun s:Nat × (List Int)=>(⟨[(0,.s (List.map qHf l)),(3,.R 4),(6,(l.length:Int)),(7,(s.1:Int))],[(4,.row 1 (List.map ze0 s.2))],18,[]⟩:St)) (fun s=>s.1 ≤ l.length∧qB2 l fuel (l.drop s.1) s.1 s.2=some r) (fun s=>l.length - s.1) (0,[]) ⟨Nat.zero_le _,hH⟩ ?_ ?_
 refine Le.trans (Le.void 3 4 1 rfl rfl) ?_
 exact Le.ct 0 0
 rintro ⟨k1,v16⟩ ⟨hk,hH⟩
 replace hH:qB2 l fuel (l.drop k1) k1 v16=some r:=hH
 try dsimp only
 refine AW.boundM (t:=0) (l:=l) rfl (fun hb5=>?_)
 rcases hd4:l.drop k1 with _ | ⟨y2,ys3⟩
 rw [hd4,qB2] at hH
 have hlt6:=qAJ hd4
 refine AW.q (AW.r (AO.pu T ?_))
 refine AO.n (AW.q (AW.condF' (b:=decide ((k1:Int) < (l.length:Int))) rfl (qEQ hlt6) ?_))
 refine AW.exit (AW.q (AW.r ?_))
 refine AO.p2 T ?_
 refine AO.n (AW.t ?_)
 have hR:=zS hH;subst hR
 exact retQ.i [4] rfl (.c (.c (.rowR rfl)))
 rw [hd4,qB2] at hH
 have hlt6:=qAK hd4
 refine AW.q (AW.r (AO.pu T ?_))
 refine AO.n (AW.q (AW.condT' (b:=decide ((k1:Int) < (l.length:Int))) rfl (qER hlt6) ?_))
 refine AW.k (AW.q ?_)
 refine AW.b (AW.q (AW.r ?_))
 refine AO.p2 T ?_
 refine AO.n ?_
 obtain ⟨x18,hx19,hH⟩:=zB hH
 obtain ⟨u20,hx21,hH⟩:=zB hH
 refine AW.r ?_
 iterate 3 refine AO.pu T ?_
 refine AO.w (cVs (qL7 fuel _ _ _ (hx19))) ?_
 refine AO.x (mks T 5 ze0 ([x18])) ?_
 refine AO.x (rvs T 6 (hfit:=by exact qA4 (hx21))) ?_
 refine AO.pu T ?_
 refine AO.n (AW.r ?_)
 refine AO.w (zR rfl rfl rfl rfl (zK hlt6 hb5)) ?_
 refine AO.pu T ?_
 refine AO.n ?_
 refine ⟨(k1+1,(v16++[x18])),⟨Nat.succ_le_of_lt hlt6,(by rw [zds hd4];exact hH)⟩,(by have:=hlt6;dsimp only;omega),?_⟩
 exact Le.ct 6 4

def qDd (fuel:Nat) (l:List Result):Option ((List Int) × Bool) :=
 (qIM l).bind fun x1 =>
 cond (!x1)
  (some ([],false))
  ((qHP fuel l).bind fun x3 =>
  some (x3,true))
theorem qIh (fuel:Nat) (l:List Result) (r:((List Int) × Bool)) (hH:qDd fuel l=some r):qAE Tryz.prog 17 [.s (List.map qHf l)] (.t [.w 1 (r.1.map ze0),.v (.bool r.2)]):=by
 refine fns T Tryz.func17 ?_
 refine AW.q (AW.r (AO.p2 T ?_))
 refine AO.n (AW.q (AW.q ?_))
 obtain ⟨x1,hx2,hH⟩:=zB hH
 refine AW.r (AO.pu T ?_)
 refine AO.w (cVs (qNI _ _ (hx2))) ?_
 refine AO.pu T ?_
 refine AO.n (AW.c (b:=(!x1)) rfl (fun hc=>?_) (fun hc=>?_))
 replace hH:=condT hc hH
 refine AW.q (AW.r (AO.p2 T ?_))
 refine AO.n (AW.t ?_)
 have hR:=zS hH;subst hR
 exact retQ.i [] rfl (.t (zG (.c .nil) (zG (.c .v) (zGn))))
 replace hH:=condF hc hH
 refine AW.k (AW.q ?_)
 obtain ⟨x3,hx4,hH⟩:=zB hH
 refine AW.r (AO.pu T ?_)
 refine AO.x (qBk rfl 1 rfl rfl rfl (qLf fuel _ _ (hx4)) rfl rfl rfl) ?_
 refine AO.p2 T ?_
 refine AO.n (AW.t ?_)
 have hR:=zS hH;subst hR
 exact retQ.i [1] rfl (.t (zG (.c (.rowR rfl)) (zG (.c .v) (zGn))))

def qBO (n:Int) (chosen:Int→Option Bool):Nat→List Int→Int→Option ((List Int))
 | 0,_,_=>none
 | k1+1,v12,v13 =>
  cond (decide (v13 < n))
   ((chosen v13).bind fun x15 =>
   cond x15
    ((qCw (qBE 8 (v12.length+([v13]).length))).bind fun u17 =>
    qBO n chosen k1 (v12++[v13]) (w64 (v13+1)))
    (qBO n chosen k1 v12 (w64 (v13+1))))
   (some v12)
def qGa (fuel:Nat) (n:Int) (chosen:Int→Option Bool):Option (List Int) :=
 qBO n chosen fuel [] 0
theorem qK4 (fuel:Nat) (n:Int) (chosen_f:Nat) (chosen_c:List D) (chosen_k:chosen_c.all D.capOk=true) (chosen:Int→Option Bool) (chosen_h:∀ (a0:Int) (q:Bool),chosen a0=some q→qAE Tryz.prog chosen_f ([.v (.int .i64 a0)]++chosen_c) (.v (.bool q))) (r:(List Int)) (hH:qGa fuel n chosen=some r):qAE Tryz.prog 101 [n,.f chosen_f chosen_c] (.w 1 (r.map ze0)):=by
 have chosen_r:=qHA chosen_k
 refine fns T Tryz.func101 ?_
 refine AW.q (AW.r (AO.pu T ?_))
 refine AO.n (AW.q (AW.r ?_))
 refine AO.x (qHd T rfl rfl rfl rfl) ?_
 refine AO.pu T ?_
 refine AO.n (AW.q (AW.q ?_))
 refine AW.r (AO.p2 T ?_)
 refine AO.n (AW.b ?_)
 refine AW.loopS (fun s:Nat × (List Int) × Int=>(⟨[(1,.f chosen_f chosen_c),(5,.R 4),(8,n),(9,s.2.2)],[(4,.row 1 (List.map ze0 s.2.1))],21,[]⟩:St)) (fun s=>qBO n chosen s.1 s.2.1 s.2.2=some r) (fun s=>s.1) (fuel,[],0) hH ?_ ?_
 refine Le.trans (Le.void 5 4 1 rfl rfl) ?_
 exact Le.cut 0 0 rfl ⟨⟨_,rfl,qJM chosen_r⟩,⟨_,rfl,rfl⟩,⟨_,rfl,rfl⟩,⟨_,rfl,rfl⟩,trivial⟩ (by repeat' (first | exact trivial | refine ⟨⟨_,rfl,rfl⟩,?_⟩)) (qOK (qHQ (qFr chosen_r) (qHQ rfl (qHQ rfl (qHQ rfl qQO)))) rfl)
 rintro ⟨k1,v12,v13⟩ hH
 replace hH:qBO n chosen k1 v12 v13=some r:=hH
 try dsimp only
 rcases k1 with _ | k1
 cases (show none=some _ from hH)
 rw [qBO] at hH
 refine AW.q (AW.r (AO.pu T ?_))
 refine AO.n (AW.q (AW.c (b:=decide (v13 < n)) rfl (fun hc=>?_) (fun hc=>?_)))
 replace hH:=condT hc hH
 refine AW.k (AW.q ?_)
 refine AW.b (AW.q (AW.r ?_))
 refine AO.p2 T ?_
 refine AO.n (AW.q ?_)
 obtain ⟨x15,hx16,hH⟩:=zB hH
 refine AW.r (AO.p2 T ?_)
 refine AO.w (zV rfl rfl rfl (qOK rfl (qH7 chosen_r)) (chosen_h _ _ (hx16)) rfl) ?_
 refine AO.n (AW.c (b:=x15) rfl (fun hc=>?_) (fun hc=>?_))
 replace hH:=condT hc hH
 obtain ⟨u17,hx18,hH⟩:=zB hH
 refine AW.r (AO.p2 T ?_)
 refine AO.x (mks T 5 ze0 ([v13])) ?_
 refine AO.x (rvs T 6 (hfit:=by exact qA4 (hx18))) ?_
 refine AO.pu T ?_
 refine AO.n (AW.r ?_)
 refine AO.w aws ?_
 refine AO.pu T ?_
 refine AO.n ?_
 refine ⟨(k1,(v12++[v13]),w64 (v13+1)),hH,Nat.lt_succ_self _,?_⟩
 exact Le.cut 6 4 rfl ⟨⟨_,rfl,qJM chosen_r⟩,⟨_,rfl,rfl⟩,⟨_,rfl,rfl⟩,⟨_,rfl,rfl⟩,trivial⟩ (by repeat' (first | exact trivial | refine ⟨⟨_,rfl,rfl⟩,?_⟩)) (qOK (qHQ (qFr chosen_r) (qHQ rfl (qHQ rfl (qHQ rfl qQO)))) rfl)
 replace hH:=condF hc hH
 refine AW.k (AW.r ?_)
 refine AO.w aws ?_
 refine AO.pu T ?_
 refine AO.n ?_
 refine ⟨(k1,v12,w64 (v13+1)),hH,Nat.lt_succ_self _,?_⟩
 exact Le.cut 0 0 rfl ⟨⟨_,rfl,qJM chosen_r⟩,⟨_,rfl,rfl⟩,⟨_,rfl,rfl⟩,⟨_,rfl,rfl⟩,trivial⟩ (by repeat' (first | exact trivial | refine ⟨⟨_,rfl,rfl⟩,?_⟩)) (qOK (qHQ (qFr chosen_r) (qHQ rfl (qHQ rfl (qHQ rfl qQO)))) rfl)
 replace hH:=condF hc hH
 refine AW.exit (AW.q (AW.r ?_))
 refine AO.p2 T ?_
 refine AO.n (AW.t ?_)
 have hR:=zS hH;subst hR
 exact retQ.i [4] rfl (.c (.c (.rowR rfl)))

def qDW (a:Int):Option Bool :=
 some true
theorem qKc (a:Int) (r:Bool) (hH:qDW a=some r):qAE Tryz.prog 102 [a] (.v (.bool r)):=by
 refine fns T Tryz.func102 ?_
 refine AW.q (AW.r (AO.pu T ?_))
 refine AO.n (AW.q (AW.r ?_))
 refine AO.pu T ?_
 refine AO.n (AW.t ?_)
 have hR:=zS hH;subst hR
 exact retQ.i [] rfl (.c (.c .v))

def qEe (x:List Int) (cmp:Int→Int→Option Int):Option (List Int):=qNx cmp x
theorem qIu (x:List Int) (cmp_f:Nat) (cmp_c:List D) (cmp_k:cmp_c.all D.capOk=true) (cmp:Int→Int→Option Int) (cmp_h:∀ (a0 a1:Int) (q:Int),cmp a0 a1=some q→qAE Tryz.prog cmp_f ([.v (.int .i64 a0),.v (.int .i64 a1)]++cmp_c) (.v (.int .i64 q))) (r:List Int) (hH:qEe x cmp=some r):qE7 Tryz.prog 103 [.w 1 (x.map ze0),.f cmp_f cmp_c] [.w 1 (r.map ze0),.u] (.t []) :=
  qPZ ⟨_,Tryz.func103,rfl,by decide⟩ (fun enc h1 cf hO cb blk off cap d w eg hcmp hH hblk hsz=>Tryz.slices_SortFunc enc h1 cf hO cmp_f cb blk off cap d w eg hcmp hH hblk hsz) (fun p cap cb w=>Tryz.slices_SortFunc_none (α:=Int) p cap _ w) cmp_c (qS4 cmp_k) cmp x r cmp_h hH

def qDV (fuel:Nat) (i:Int) (k:Int) (a:List Result):Option Int :=
 (qAb a i).bind fun x1 =>
 (qAb a k).bind fun x3 =>
 (qC4 fuel x1 x3).bind fun x5 =>
 cond (x5 != 0)
  (some (w64 (-x5)))
  (some (w64 (x1.skater - x3.skater)))
theorem qKe (fuel:Nat) (i:Int) (k:Int) (a:List Result) (r:Int) (hH:qDV fuel i k a=some r):qAE Tryz.prog 104 [i,k,.q [.s (List.map qHf a)]] (.v (.int .i64 r)):=by
 refine fns T Tryz.func104 ?_
 refine AW.q (AW.r (AO.pu T ?_))
 refine AO.n (AW.q (AW.q ?_))
 obtain ⟨x1,hx2,hH⟩:=zB hH
 obtain ⟨x3,hx4,hH⟩:=zB hH
 obtain ⟨x5,hx6,hH⟩:=zB hH
 refine AW.drawn 8 1 [] mix (by kernel_rfl) rfl ?_
 iterate 2 refine AD.pu T ?_
 refine AD.vv (ixs T (hx2)) ?_
 refine AD.p T (d:=.g [x1.skater,.s (List.map ze0 x1.scores)]) rfl rfl rfl ?_
 iterate 2 refine AD.pu T ?_
 refine AD.vv (ixs T (hx4)) ?_
 refine AD.p T (d:=.g [x3.skater,.s (List.map ze0 x3.scores)]) rfl rfl rfl ?_
 refine AD.nil (AO.w (cVs (qF3 fuel _ _ _ (hx6))) ?_)
 refine AO.pu T ?_
 refine AO.n (AW.q (AW.r ?_))
 refine AO.p2 T ?_
 refine AO.n (AW.c (b:=(x5 != 0)) rfl (fun hc=>?_) (fun hc=>?_))
 replace hH:=condT hc hH
 refine AW.q (AW.r (AO.pu T ?_))
 refine AO.w (qPK rfl rfl) ?_
 refine AO.pu T ?_
 refine AO.n (AW.t ?_)
 have hR:=zS hH;subst hR
 exact retQ.i [] rfl (.c (.c .v))
 replace hH:=condF hc hH
 refine AW.k (AW.q ?_)
 refine AW.drawn 10 1 [] mix (by kernel_rfl) rfl ?_
 iterate 2 refine AD.pu T ?_
 refine AD.vv (ixs T (hx2)) ?_
 iterate 4 refine AD.pu T ?_
 refine AD.vv (ixs T (hx4)) ?_
 iterate 2 refine AD.pu T ?_
 refine AD.nil (AO.w aws ?_)
 refine AO.pu T ?_
 refine AO.n (AW.le (Le.ct 0 0 (σ':=(⟨[(5,w64 (x1.skater - x3.skater))],[],31,[]⟩:St))) ?_)
 refine AW.t ?_
 have hR:=zS hH;subst hR
 exact retQ.i [] rfl (.c (.c .v))

def qGS (fuel:Nat) (l:List Result):Option (List Int) :=
 (qGa fuel (l.length:Int) (fun a0=>qDW a0 )).bind fun x1 =>
 (qEe x1 (fun a0 a1=>qDV fuel a0 a1 l)).bind fun x3 =>
 some x3
theorem qL6 (fuel:Nat) (l:List Result) (r:(List Int)) (hH:qGS fuel l=some r):qAE Tryz.prog 51 [.s (List.map qHf l)] (.w 1 (r.map ze0)):=by
 refine fns T Tryz.func51 ?_
 refine AW.q (AW.r (AO.x (bxs T 1) ?_))
 refine AO.pu T ?_
 refine AO.n (AW.q ?_)
 obtain ⟨x1,hx2,hH⟩:=zB hH
 refine AW.r (AO.pu T ?_)
 refine AO.w (qCC T) ?_
 refine AO.x (qBk rfl 2 rfl rfl rfl (qK4 fuel _ 102 [] rfl (fun a0=>qDW a0 ) (fun a0 q h=>qKc a0  q h) _ (hx2)) rfl rfl rfl) ?_
 refine AO.pu T ?_
 refine AO.n (AW.q ?_)
 obtain ⟨x3,hx4,hH⟩:=zB hH
 refine AW.le (Le.freezeB 1 rfl rfl) ?_
 refine AW.r (AO.p2 T ?_)
 refine AO.x (cMs 3 [2] (S:=qIu _ 104 [.q [.s (List.map qHf l)]] rfl (fun a0 a1=>qDV fuel a0 a1 l) (fun a0 a1 q h=>qKe fuel a0 a1  l q h) _ (hx4)) (hp:=by exact zG (.c (.rowR rfl)) (zG (.c (.f rfl)) (zGn)))) ?_
 refine AO.n (AW.q (AW.r ?_))
 refine AO.p2 T ?_
 refine AO.n (AW.t ?_)
 have hR:=zS hH;subst hR
 exact retQ.i [2] rfl (.c (.c (.rowR rfl)))

def qDr (fuel:Nat) (l:List Result):Option ((List Int) × Bool) :=
 (qEl l).bind fun x1 =>
 cond (!x1)
  (some ([],false))
  ((qGS fuel l).bind fun x3 =>
  some (x3,true))
theorem qIz (fuel:Nat) (l:List Result) (r:((List Int) × Bool)) (hH:qDr fuel l=some r):qAE Tryz.prog 18 [.s (List.map qHf l)] (.t [.w 1 (r.1.map ze0),.v (.bool r.2)]):=by
 refine fns T Tryz.func18 ?_
 refine AW.q (AW.r (AO.p2 T ?_))
 refine AO.n (AW.q (AW.q ?_))
 obtain ⟨x1,hx2,hH⟩:=zB hH
 refine AW.r (AO.pu T ?_)
 refine AO.w (cVs (qHU _ _ (hx2))) ?_
 refine AO.pu T ?_
 refine AO.n (AW.c (b:=(!x1)) rfl (fun hc=>?_) (fun hc=>?_))
 replace hH:=condT hc hH
 refine AW.q (AW.r (AO.p2 T ?_))
 refine AO.n (AW.t ?_)
 have hR:=zS hH;subst hR
 exact retQ.i [] rfl (.t (zG (.c .nil) (zG (.c .v) (zGn))))
 replace hH:=condF hc hH
 refine AW.k (AW.q ?_)
 obtain ⟨x3,hx4,hH⟩:=zB hH
 refine AW.r (AO.pu T ?_)
 refine AO.x (qBk rfl 1 rfl rfl rfl (qL6 fuel _ _ (hx4)) rfl rfl rfl) ?_
 refine AO.p2 T ?_
 refine AO.n (AW.t ?_)
 have hR:=zS hH;subst hR
 exact retQ.i [1] rfl (.t (zG (.c (.rowR rfl)) (zG (.c .v) (zGn))))

def qDv (best:Int) (l:List Entry):Option (Season × Bool) :=
 (qGv best).bind fun x1 =>
 (opt (!(!x1)) default (qD7 l)).bind fun x3 =>
 cond ((!x1) || (!x3))
  (some ((Season.mk 0 []),false))
  ((qC9 best l).bind fun x5 =>
  some (x5,true))
theorem qKH (best:Int) (l:List Entry) (r:(Season × Bool)) (hH:qDv best l=some r):qAE Tryz.prog 19 [best,.s (List.map ze8 l)] (.t [.g (qJR r.1),.v (.bool r.2)]):=by
 refine fns T Tryz.func19 ?_
 refine AW.q (AW.r (AO.x (als T 1) ?_))
 refine AO.pu T ?_
 refine AO.n (AW.q (AW.q ?_))
 obtain ⟨x1,hx2,hH⟩:=zB hH
 obtain ⟨x3,hx4,hH⟩:=zB hH
 refine AW.r (AO.pu T ?_)
 refine AO.w (cVs (qJ5 _ _ (hx2))) ?_
 refine AO.p2 T ?_
 refine AO.g T [] rfl trivial rfl rfl ?_
 refine AO.d [10] rfl ⟨fun h=>h,trivial⟩ (fun hg=>zV rfl rfl rfl rfl (qFs _ _ (qEA hx4 hg)) rfl) rfl ?_
 refine AO.g T [11] rfl ⟨fun h=>h,trivial⟩ rfl rfl ?_
 refine AO.w ors ?_
 refine AO.n (AW.c (b:=((!x1) || (!x3))) rfl (fun hc=>?_) (fun hc=>?_))
 replace hH:=condT hc hH
 refine AW.q (AW.r (AO.pu T (d:=.g [(0:Int),.w 0 []]) ?_))
 refine AO.se T [(0:Int),.w 0 []] ?_
 refine AO.pu T ?_
 refine AO.n (AW.t ?_)
 have hR:=zS hH;subst hR
 exact retQ.i [] rfl (.t (zG (.g (zC .v (zC .nil (zCn)))) (zG (.c .v) (zGn))))
 replace hH:=condF hc hH
 refine AW.k (AW.q ?_)
 obtain ⟨x5,hx6,hH⟩:=zB hH
 refine AW.r (AO.p2 T ?_)
 refine AO.x (qBk rfl 2 rfl rfl rfl (qHI _ _ _ (hx6)) rfl rfl rfl) ?_
 refine AO.se T [x5.best,.R 2] ?_
 refine AO.pu T ?_
 refine AO.n (AW.t ?_)
 have hR:=zS hH;subst hR
 exact retQ.i [2] rfl (.t (zG (.g (zC .v (zC (.rowR rfl) (zCn)))) (zG (.c .v) (zGn))))

def qEa (line:Line) (best:Int):Option (List Int) :=
 (qCD line.points (min best (line.points.length:Int))).bind fun x1 =>
 some x1
theorem qIm (line:Line) (best:Int) (r:(List Int)) (hH:qEa line best=some r):qAE Tryz.prog 105 [.g (qCf line),best] (.s (r.map ze0)):=by
 refine fns T Tryz.func105 ?_
 refine AW.q (AW.r (AO.x (bxs T 1) ?_))
 refine AO.pu T ?_
 refine AO.n (AW.q ?_)
 obtain ⟨x1,hx2,hH⟩:=zB hH
 refine AW.r ?_
 iterate 5 refine AO.pu T ?_
 refine AO.w (qCC T) ?_
 refine AO.w (qOo rfl rfl rfl) ?_
 refine AO.w (qAa T rfl rfl rfl rfl rfl (hx2) (fun _=>rfl)) ?_
 refine AO.pu T ?_
 refine AO.n (AW.t ?_)
 have hR:=zS hH;subst hR
 exact retQ.i [] rfl (.c (.c .s))

def qFa (x:Int):Option Bool :=
 some (x != x)
theorem qIk (x:Int) (r:Bool) (hH:qFa x=some r):qAE Tryz.prog 180 [x] (.v (.bool r)):=by
 refine fns T Tryz.func180 ?_
 refine AW.q (AW.r (AO.pu T ?_))
 refine AO.n (AW.q (AW.r ?_))
 iterate 4 refine AO.pu T ?_
 refine AO.n (AW.t ?_)
 have hR:=zS hH;subst hR
 exact retQ.i [] rfl (.c (.c .v))

def qEv (x:Int) (y:Int):Option Int :=
 (qFa x).bind fun x1 =>
 (qFa y).bind fun x3 =>
 cond x1
  (cond x3
   (some 0)
   (some (-1)))
  (cond x3
   (some 1)
   (cond (decide (x < y))
    (some (-1))
    (cond (decide (x > y))
     (some 1)
     (some 0))))
theorem qKl (x:Int) (y:Int) (r:Int) (hH:qEv x y=some r):qAE Tryz.prog 139 [x,y] (.v (.int .i64 r)):=by
 refine fns T Tryz.func139 ?_
 refine AW.q (AW.r (AO.pu T ?_))
 refine AO.n (AW.q ?_)
 obtain ⟨x1,hx2,hH⟩:=zB hH
 refine AW.r (AO.pu T ?_)
 refine AO.w (cVs (qIk _ _ (hx2))) ?_
 refine AO.pu T ?_
 refine AO.n (AW.q ?_)
 obtain ⟨x3,hx4,hH⟩:=zB hH
 refine AW.r (AO.pu T ?_)
 refine AO.w (cVs (qIk _ _ (hx4))) ?_
 refine AO.pu T ?_
 refine AO.n (AW.q (AW.q ?_))
 refine AW.r (AO.pu T ?_)
 refine AO.n (AW.c (b:=x1) rfl (fun hc=>?_) (fun hc=>?_))
 replace hH:=condT hc hH
 refine AW.q (AW.q (AW.r ?_))
 refine AO.pu T ?_
 refine AO.n (AW.c (b:=x3) rfl (fun hc=>?_) (fun hc=>?_))
 replace hH:=condT hc hH
 refine AW.q (AW.r (AO.pu T ?_))
 refine AO.n (AW.t ?_)
 have hR:=zS hH;subst hR
 exact retQ.i [] rfl (.c (.c .v))
 replace hH:=condF hc hH
 refine AW.k (AW.q (AW.r ?_))
 refine AO.pu T ?_
 refine AO.n (AW.t ?_)
 have hR:=zS hH;subst hR
 exact retQ.i [] rfl (.c (.c .v))
 replace hH:=condF hc hH
 refine AW.k (AW.q (AW.q ?_))
 refine AW.r (AO.pu T ?_)
 refine AO.n (AW.c (b:=x3) rfl (fun hc=>?_) (fun hc=>?_))
 replace hH:=condT hc hH
 refine AW.q (AW.r (AO.pu T ?_))
 refine AO.n (AW.t ?_)
 have hR:=zS hH;subst hR
 exact retQ.i [] rfl (.c (.c .v))
 replace hH:=condF hc hH
 refine AW.k (AW.q (AW.q ?_))
 refine AW.r ?_
 iterate 3 refine AO.pu T ?_
 refine AO.n (AW.c (b:=decide (x < y)) rfl (fun hc=>?_) (fun hc=>?_))
 replace hH:=condT hc hH
 refine AW.q (AW.r (AO.pu T ?_))
 refine AO.n (AW.t ?_)
 have hR:=zS hH;subst hR
 exact retQ.i [] rfl (.c (.c .v))
 replace hH:=condF hc hH
 refine AW.k (AW.q (AW.q ?_))
 refine AW.r ?_
 iterate 3 refine AO.pu T ?_
 refine AO.n (AW.c (b:=decide (x > y)) rfl (fun hc=>?_) (fun hc=>?_))
 replace hH:=condT hc hH
 refine AW.q (AW.r (AO.pu T ?_))
 refine AO.n (AW.t ?_)
 have hR:=zS hH;subst hR
 exact retQ.i [] rfl (.c (.c .v))
 replace hH:=condF hc hH
 refine AW.k (AW.q (AW.r ?_))
 refine AO.pu T ?_
 refine AO.n (AW.t ?_)
 have hR:=zS hH;subst hR
 exact retQ.i [] rfl (.c (.c .v))

def qAn (s1A:List Int) (s2A:List Int):List Int→Nat→Option Int
 | [],k1 =>
  cond (decide ((s1A.length:Int) < (s2A.length:Int)))
   (some (-1))
   (some 0)
 | y2::ys3,k1 =>
  cond (decide ((k1:Int) ≥ (s2A.length:Int)))
   (some 1)
   ((qAb s2A (k1:Int)).bind fun x16 =>
   (qEv y2 x16).bind fun x18 =>
   cond (x18 != 0)
    (some x18)
    (qAn s1A s2A ys3 (k1+1)))
def qE5 (s1A:List Int) (s2A:List Int):Option Int :=
 qAn s1A s2A s1A 0
theorem qJH (s1A:List Int) (s2A:List Int) (r:Int) (hH:qE5 s1A s2A=some r):qAE Tryz.prog 106 [.s (List.map ze0 s1A),.s (List.map ze0 s2A)] (.v (.int .i64 r)):=by
 refine fns T Tryz.func106 ?_
 refine AW.q (AW.r (AO.pu T ?_))
 refine AO.n (AW.q (AW.q ?_))
 refine AW.r (AO.pu T ?_)
 refine AO.w (qCC T) ?_
 refine AO.pu T ?_
 refine AO.n (AW.b ?_)
 refine AW.loopS (fun s:Nat=>(⟨[(0,.s (List.map ze0 s1A)),(1,.s (List.map ze0 s2A)),(9,.s (List.map ze0 s1A)),(10,(s1A.length:Int)),(11,(s:Int))],[],36,[]⟩:St)) (fun s=>s ≤ s1A.length∧qAn s1A s2A (s1A.drop s) s=some r) (fun s=>s1A.length - s) 0 ⟨Nat.zero_le _,hH⟩ ?_ ?_
 exact Le.ct 0 0
 rintro k1 ⟨hk,hH⟩
 replace hH:qAn s1A s2A (s1A.drop k1) k1=some r:=hH
 try dsimp only
 refine AW.boundM (t:=0) (l:=s1A) rfl (fun hb5=>?_)
 rcases hd4:s1A.drop k1 with _ | ⟨y2,ys3⟩
 rw [hd4,qAn] at hH
 have hlt6:=qAJ hd4
 refine AW.q (AW.r (AO.pu T ?_))
 refine AO.n (AW.q (AW.condF' (b:=decide ((k1:Int) < (s1A.length:Int))) rfl (qEQ hlt6) ?_))
 refine AW.exit (AW.q (AW.q ?_))
 refine AW.r (AO.pu T ?_)
 refine AO.w (qCC T) ?_
 refine AO.pu T ?_
 refine AO.w (qCC T) ?_
 refine AO.pu T ?_
 refine AO.n (AW.c (b:=decide ((s1A.length:Int) < (s2A.length:Int))) rfl (fun hc=>?_) (fun hc=>?_))
 replace hH:=condT hc hH
 refine AW.q (AW.r (AO.pu T ?_))
 refine AO.n (AW.t ?_)
 have hR:=zS hH;subst hR
 exact retQ.i [] rfl (.c (.c .v))
 replace hH:=condF hc hH
 refine AW.k (AW.q (AW.r ?_))
 refine AO.pu T ?_
 refine AO.n (AW.t ?_)
 have hR:=zS hH;subst hR
 exact retQ.i [] rfl (.c (.c .v))
 rw [hd4,qAn] at hH
 have hlt6:=qAK hd4
 refine AW.q (AW.r (AO.pu T ?_))
 refine AO.n (AW.q (AW.condT' (b:=decide ((k1:Int) < (s1A.length:Int))) rfl (qER hlt6) ?_))
 refine AW.k (AW.q ?_)
 refine AW.b (AW.q (AW.r ?_))
 refine AO.pu T ?_
 refine AO.w (ixs T (zgD hd4)) ?_
 iterate 3 refine AO.pu T ?_
 refine AO.n (AW.q (AW.q ?_))
 refine AW.r (AO.p2 T ?_)
 refine AO.w (qCC T) ?_
 refine AO.pu T ?_
 refine AO.n (AW.c (b:=decide ((k1:Int) ≥ (s2A.length:Int))) rfl (fun hc=>?_) (fun hc=>?_))
 replace hH:=condT hc hH
 refine AW.q (AW.r (AO.pu T ?_))
 refine AO.n (AW.t ?_)
 have hR:=zS hH;subst hR
 exact retQ.i [] rfl (.c (.c .v))
 replace hH:=condF hc hH
 refine AW.k (AW.q ?_)
 obtain ⟨x16,hx17,hH⟩:=zB hH
 refine AW.r (AO.p2 T ?_)
 refine AO.w (ixs T (hx17)) ?_
 refine AO.p2 T ?_
 refine AO.n (AW.q ?_)
 obtain ⟨x18,hx19,hH⟩:=zB hH
 refine AW.r (AO.p2 T ?_)
 refine AO.w (cVs (qKl _ _ _ (hx19))) ?_
 refine AO.pu T ?_
 refine AO.n (AW.q (AW.r ?_))
 refine AO.p2 T ?_
 refine AO.n (AW.c (b:=(x18 != 0)) rfl (fun hc=>?_) (fun hc=>?_))
 replace hH:=condT hc hH
 refine AW.q (AW.r (AO.p2 T ?_))
 refine AO.n (AW.t ?_)
 have hR:=zS hH;subst hR
 exact retQ.i [] rfl (.c (.c .v))
 replace hH:=condF hc hH
 refine AW.k (AW.r ?_)
 refine AO.w (zR rfl rfl rfl rfl (zK hlt6 hb5)) ?_
 refine AO.pu T ?_
 refine AO.n ?_
 refine ⟨k1+1,⟨Nat.succ_le_of_lt hlt6,(by rw [zds hd4];exact hH)⟩,(by have:=hlt6;dsimp only;omega),?_⟩
 exact Le.ct 0 0

def qFA (a:Line) (b:Line) (best:Int):Option Bool :=
 (qEa a best).bind fun x1 =>
 (qEa b best).bind fun x3 =>
 (qA5 x1).bind fun x5 =>
 (qA5 x3).bind fun x7 =>
 cond (x5 != x7)
  (some (decide (x5 > x7)))
  ((qE5 x1 x3).bind fun x9 =>
  some (decide (x9 > 0)))
theorem qMF (a:Line) (b:Line) (best:Int) (r:Bool) (hH:qFA a b best=some r):qAE Tryz.prog 53 [.g (qCf a),.g (qCf b),best] (.v (.bool r)):=by
 refine fns T Tryz.func53 ?_
 refine AW.q (AW.r (AO.x (bxs T 1) ?_))
 refine AO.x (bxs T 2) ?_
 refine AO.pu T ?_
 refine AO.n (AW.q ?_)
 obtain ⟨x1,hx2,hH⟩:=zB hH
 obtain ⟨x3,hx4,hH⟩:=zB hH
 refine AW.drawn 5 3 [] mix (by kernel_rfl) rfl ?_
 refine AD.p T (d:=.g [a.skater,.s (List.map ze0 a.events),.s (List.map ze0 a.points)]) rfl rfl rfl ?_
 refine AD.pu T ?_
 refine AD.vv (cVs (qIm _ _ _ (hx2))) ?_
 refine AD.p T (d:=.g [b.skater,.s (List.map ze0 b.events),.s (List.map ze0 b.points)]) rfl rfl rfl ?_
 refine AD.pu T ?_
 refine AD.nil (AO.w (cVs (qIm _ _ _ (hx4))) ?_)
 refine AO.p2 T ?_
 refine AO.n (AW.q (AW.q ?_))
 obtain ⟨x5,hx6,hH⟩:=zB hH
 obtain ⟨x7,hx8,hH⟩:=zB hH
 refine AW.r (AO.pu T ?_)
 refine AO.w (cVs (qDX _ _ (hx6))) ?_
 refine AO.pu T ?_
 refine AO.w (cVs (qDX _ _ (hx8))) ?_
 refine AO.p2 T ?_
 refine AO.n (AW.q (AW.r ?_))
 iterate 3 refine AO.pu T ?_
 refine AO.n (AW.c (b:=(x5 != x7)) rfl (fun hc=>?_) (fun hc=>?_))
 replace hH:=condT hc hH
 refine AW.q (AW.r ?_)
 iterate 4 refine AO.pu T ?_
 refine AO.n (AW.le (Le.ct 0 0 (σ':=(⟨[(6,.v (.bool (decide (x5 > x7))))],[],31,[]⟩:St))) ?_)
 refine AW.t ?_
 have hR:=zS hH;subst hR
 exact retQ.i [] rfl (.c (.c .v))
 replace hH:=condF hc hH
 refine AW.k (AW.q ?_)
 obtain ⟨x9,hx10,hH⟩:=zB hH
 refine AW.r (AO.p2 T ?_)
 refine AO.w (cVs (qJH _ _ _ (hx10))) ?_
 refine AO.p2 T ?_
 refine AO.n (AW.le (Le.ct 0 0 (σ':=(⟨[(6,.v (.bool (decide (x9 > 0))))],[],31,[]⟩:St))) ?_)
 refine AW.t ?_
 have hR:=zS hH;subst hR
 exact retQ.i [] rfl (.c (.c .v))

def qAX (sA:Season) (y4:Line) (v80:List Int):List Line→Nat→Int→Option (List Int)
 | [],k101,v112 =>
  (qCw (qBE 8 (v80.length+([v112]).length))).bind fun u114 =>
  some (v80++[v112])
 | y102::ys103,k101,v112 =>
  (qFA y102 y4 sA.best).bind fun x116 =>
  cond x116
   (qAX sA y4 v80 ys103 (k101+1) (w64 (v112+1)))
   (qAX sA y4 v80 ys103 (k101+1) v112)
def qBz (sA:Season):List Line→Nat→List Int→Option (((List Int) × Bool))
 | [],k3,v80 =>
  some (v80,true)
 | y4::ys5,k3,v80 =>
  (qAX sA y4 v80 sA.lines 0 1).bind fun v98 =>
  qBz sA ys5 (k3+1) v98
def qFX (fuel:Nat) (sA:Season):Option ((List Int) × Bool) :=
 (qEb fuel sA).bind fun x1 =>
 cond (!x1)
  (some ([],false))
  (qBz sA sA.lines 0 [])
theorem qLg (fuel:Nat) (sA:Season) (r:((List Int) × Bool)) (hH:qFX fuel sA=some r):qAE Tryz.prog 20 [.g (qEd sA)] (.t [.w 1 (r.1.map ze0),.v (.bool r.2)]):=by
 refine fns T Tryz.func20 ?_
 refine AW.q (AW.r (AO.x (bxs T 1) ?_))
 refine AO.p2 T ?_
 refine AO.n (AW.q (AW.q ?_))
 obtain ⟨x1,hx2,hH⟩:=zB hH
 refine AW.r (AO.pu T (d:=.g [sA.best,.s (List.map qCf sA.lines)]) ?_)
 refine AO.w (cVs (qIn fuel _ _ (hx2))) ?_
 refine AO.pu T ?_
 refine AO.n (AW.c (b:=(!x1)) rfl (fun hc=>?_) (fun hc=>?_))
 replace hH:=condT hc hH
 refine AW.q (AW.r (AO.p2 T ?_))
 refine AO.n (AW.t ?_)
 have hR:=zS hH;subst hR
 exact retQ.i [] rfl (.t (zG (.c .nil) (zG (.c .v) (zGn))))
 replace hH:=condF hc hH
 refine AW.k (AW.q (AW.r ?_))
 refine AO.x (qHd T rfl rfl rfl rfl) ?_
 refine AO.pu T ?_
 refine AO.n (AW.q (AW.q ?_))
 refine AW.r (AO.p2 T ?_)
 refine AO.w (qCC T) ?_
 refine AO.pu T ?_
 refine AO.n (AW.b ?_)
 refine AW.loopS (fun s:Nat × (List Int)=>(⟨[(1,.p 1 0),(4,.R 18),(15,.s (List.map qCf sA.lines)),(16,(sA.lines.length:Int)),(17,(s.1:Int))],[(1,.box [sA.best,.s (List.map qCf sA.lines)]),(18,.row 1 (List.map ze0 s.2))],42,[]⟩:St)) (fun s=>s.1 ≤ sA.lines.length∧qBz sA (sA.lines.drop s.1) s.1 s.2=some r) (fun s=>sA.lines.length - s.1) (0,[]) ⟨Nat.zero_le _,hH⟩ ?_ ?_
 refine Le.trans (Le.void 4 18 1 rfl rfl) ?_
 exact Le.ct 0 0
 rintro ⟨k3,v80⟩ ⟨hk,hH⟩
 replace hH:qBz sA (sA.lines.drop k3) k3 v80=some r:=hH
 try dsimp only
 refine AW.boundM (t:=15) (l:=sA.lines) rfl (fun hb7=>?_)
 rcases hd6:sA.lines.drop k3 with _ | ⟨y4,ys5⟩
 rw [hd6,qBz] at hH
 have hlt8:=qAJ hd6
 refine AW.q (AW.r (AO.pu T ?_))
 refine AO.n (AW.q (AW.condF' (b:=decide ((k3:Int) < (sA.lines.length:Int))) rfl (qEQ hlt8) ?_))
 refine AW.exit (AW.q (AW.r ?_))
 iterate 3 refine AO.pu T ?_
 refine AO.n (AW.t ?_)
 have hR:=zS hH;subst hR
 exact retQ.i [18] rfl (.t (zG (.c (.rowR rfl)) (zG (.c .v) (zGn))))
 rw [hd6,qBz] at hH
 have hlt8:=qAK hd6
 refine AW.q (AW.r (AO.pu T ?_))
 refine AO.n (AW.q (AW.condT' (b:=decide ((k3:Int) < (sA.lines.length:Int))) rfl (qER hlt8) ?_))
 refine AW.k ?_
 obtain ⟨o99,hH,hK100⟩:=zB hH
 refine AW.seqJ (fun s:List Int=>(⟨[(1,.p 1 0),(4,.R 30),(15,.s (List.map qCf sA.lines)),(16,(sA.lines.length:Int)),(17,(k3:Int))],[(1,.box [sA.best,.s (List.map qCf sA.lines)]),(30,.row 1 (List.map ze0 s))],42,[]⟩:St)) (fun s=>s=o99) ?_ ?_
 refine AW.b (AW.q (AW.r ?_))
 refine AO.w (ixs T (zgD hd6)) ?_
 refine AO.pu T (d:=.g [y4.skater,.s (List.map ze0 y4.events),.s (List.map ze0 y4.points)]) ?_
 refine AO.x (als T 32) ?_
 refine AO.se T [y4.skater,.s (List.map ze0 y4.events),.s (List.map ze0 y4.points)] ?_
 refine AO.n (AW.q (AW.r ?_))
 refine AO.pu T ?_
 refine AO.n (AW.q (AW.q ?_))
 refine AW.r (AO.p2 T ?_)
 refine AO.w (qCC T) ?_
 refine AO.pu T ?_
 refine AO.n (AW.b ?_)
 refine AW.loopS (fun s:Nat × Int=>(⟨[(1,.p 1 0),(4,.R 18),(6,.p 32 0),(7,s.2),(15,.s (List.map qCf sA.lines)),(16,(sA.lines.length:Int)),(17,(k3:Int)),(22,.s (List.map qCf sA.lines)),(23,(sA.lines.length:Int)),(24,(s.1:Int))],[(1,.box [sA.best,.s (List.map qCf sA.lines)]),(18,.row 1 (List.map ze0 v80)),(32,.box [y4.skater,.s (List.map ze0 y4.events),.s (List.map ze0 y4.points)])],42,[]⟩:St)) (fun s=>s.1 ≤ sA.lines.length∧qAX sA y4 v80 (sA.lines.drop s.1) s.1 s.2=some o99) (fun s=>sA.lines.length - s.1) (0,1) ⟨Nat.zero_le _,hH⟩ ?_ ?_
 exact Le.ct 0 0
 rintro ⟨k101,v112⟩ ⟨hk,hH⟩
 replace hH:qAX sA y4 v80 (sA.lines.drop k101) k101 v112=some o99:=hH
 try dsimp only
 refine AW.boundM (t:=15) (l:=sA.lines) rfl (fun hb105=>?_)
 rcases hd104:sA.lines.drop k101 with _ | ⟨y102,ys103⟩
 rw [hd104,qAX] at hH
 have hlt106:=qAJ hd104
 refine AW.q (AW.r (AO.pu T ?_))
 refine AO.n (AW.q (AW.condF' (b:=decide ((k101:Int) < (sA.lines.length:Int))) rfl (qEQ hlt106) ?_))
 refine AW.exit ?_
 obtain ⟨u114,hx115,hH⟩:=zB hH
 refine AW.r (AO.p2 T ?_)
 refine AO.x (mks T 35 ze0 ([v112])) ?_
 refine AO.x (rvs T 36 (hfit:=by exact qA4 (hx115))) ?_
 refine AO.pu T ?_
 refine AO.n ?_
 refine ⟨_,zS hH,?_⟩
 exact Le.ct 36 30
 rw [hd104,qAX] at hH
 have hlt106:=qAK hd104
 refine AW.q (AW.r (AO.pu T ?_))
 refine AO.n (AW.q (AW.condT' (b:=decide ((k101:Int) < (sA.lines.length:Int))) rfl (qER hlt106) ?_))
 refine AW.k (AW.q ?_)
 refine AW.b (AW.q (AW.r ?_))
 refine AO.w (ixs T (zgD hd104)) ?_
 refine AO.pu T (d:=.g [y102.skater,.s (List.map ze0 y102.events),.s (List.map ze0 y102.points)]) ?_
 refine AO.x (als T 37) ?_
 refine AO.se T [y102.skater,.s (List.map ze0 y102.events),.s (List.map ze0 y102.points)] ?_
 refine AO.n (AW.q ?_)
 obtain ⟨x116,hx117,hH⟩:=zB hH
 refine AW.r (AO.pu T (d:=.g [y102.skater,.s (List.map ze0 y102.events),.s (List.map ze0 y102.points)]) ?_)
 refine AO.pu T (d:=.g [y4.skater,.s (List.map ze0 y4.events),.s (List.map ze0 y4.points)]) ?_
 refine AO.p2 T ?_
 refine AO.w (cVs (qMF _ _ _ _ (hx117))) ?_
 refine AO.n (AW.c (b:=x116) rfl (fun hc=>?_) (fun hc=>?_))
 replace hH:=condT hc hH
 refine AW.r (AO.pu T ?_)
 refine AO.w aws ?_
 refine AO.pu T ?_
 refine AO.n (AW.r ?_)
 refine AO.w (zR rfl rfl rfl rfl (zK hlt106 hb105)) ?_
 refine AO.pu T ?_
 refine AO.n ?_
 refine ⟨(k101+1,w64 (v112+1)),⟨Nat.succ_le_of_lt hlt106,(by rw [zds hd104];exact hH)⟩,(by have:=hlt106;dsimp only;omega),?_⟩
 exact Le.ct 0 0
 replace hH:=condF hc hH
 refine AW.k (AW.r ?_)
 refine AO.w (zR rfl rfl rfl rfl (zK hlt106 hb105)) ?_
 refine AO.pu T ?_
 refine AO.n ?_
 refine ⟨(k101+1,v112),⟨Nat.succ_le_of_lt hlt106,(by rw [zds hd104];exact hH)⟩,(by have:=hlt106;dsimp only;omega),?_⟩
 exact Le.ct 0 0
 rintro v98 hs
 subst hs
 replace hH:=hK100
 try dsimp only [qKp,qID] at hH
 try dsimp only
 refine AW.r (AO.w (zR rfl rfl rfl rfl (zK hlt8 hb7)) ?_)
 refine AO.pu T ?_
 refine AO.n ?_
 refine ⟨(k3+1,v98),⟨Nat.succ_le_of_lt hlt8,(by rw [zds hd6];exact hH)⟩,(by have:=hlt8;dsimp only;omega),?_⟩
 exact Le.ct 30 18

def qDH (b:List Int):List Int→Nat→Option Bool
 | [],k1 =>
  some true
 | y2::ys3,k1 =>
  (qAb b (k1:Int)).bind fun x12 =>
  cond (y2 != x12)
   (some false)
   (qDH b ys3 (k1+1))
def qFT (a:List Int) (b:List Int):Option Bool :=
 cond ((a.length:Int) != (b.length:Int))
  (some false)
  (qDH b a 0)
theorem qIL (a:List Int) (b:List Int) (r:Bool) (hH:qFT a b=some r):qAE Tryz.prog 21 [.s (List.map ze0 a),.s (List.map ze0 b)] (.v (.bool r)):=by
 refine fns T Tryz.func21 ?_
 refine AW.q (AW.r (AO.pu T ?_))
 refine AO.n (AW.q (AW.q ?_))
 refine AW.r (AO.pu T ?_)
 refine AO.w (qCC T) ?_
 refine AO.pu T ?_
 refine AO.w (qCC T) ?_
 refine AO.pu T ?_
 refine AO.n (AW.c (b:=((a.length:Int) != (b.length:Int))) rfl (fun hc=>?_) (fun hc=>?_))
 replace hH:=condT hc hH
 refine AW.q (AW.r (AO.pu T ?_))
 refine AO.n (AW.t ?_)
 have hR:=zS hH;subst hR
 exact retQ.i [] rfl (.c (.c .v))
 replace hH:=condF hc hH
 refine AW.k (AW.q (AW.q ?_))
 refine AW.r (AO.pu T ?_)
 refine AO.w (qCC T) ?_
 refine AO.pu T ?_
 refine AO.n (AW.b ?_)
 refine AW.loopS (fun s:Nat=>(⟨[(0,.s (List.map ze0 a)),(1,.s (List.map ze0 b)),(12,(a.length:Int)),(13,(s:Int))],[],26,[]⟩:St)) (fun s=>s ≤ a.length∧qDH b (a.drop s) s=some r) (fun s=>a.length - s) 0 ⟨Nat.zero_le _,hH⟩ ?_ ?_
 exact Le.ct 0 0
 rintro k1 ⟨hk,hH⟩
 replace hH:qDH b (a.drop k1) k1=some r:=hH
 try dsimp only
 refine AW.boundM (t:=0) (l:=a) rfl (fun hb5=>?_)
 rcases hd4:a.drop k1 with _ | ⟨y2,ys3⟩
 rw [hd4,qDH] at hH
 have hlt6:=qAJ hd4
 refine AW.q (AW.r (AO.pu T ?_))
 refine AO.n (AW.q (AW.condF' (b:=decide ((k1:Int) < (a.length:Int))) rfl (qEQ hlt6) ?_))
 refine AW.exit (AW.q (AW.r ?_))
 refine AO.pu T ?_
 refine AO.n (AW.t ?_)
 have hR:=zS hH;subst hR
 exact retQ.i [] rfl (.c (.c .v))
 rw [hd4,qDH] at hH
 have hlt6:=qAK hd4
 refine AW.q (AW.r (AO.pu T ?_))
 refine AO.n (AW.q (AW.condT' (b:=decide ((k1:Int) < (a.length:Int))) rfl (qER hlt6) ?_))
 refine AW.k (AW.q ?_)
 refine AW.b (AW.q (AW.r ?_))
 refine AO.p2 T ?_
 refine AO.n (AW.q ?_)
 obtain ⟨x12,hx13,hH⟩:=zB hH
 refine AW.drawn 8 1 [] mix (by kernel_rfl) rfl ?_
 iterate 2 refine AD.pu T ?_
 refine AD.vv (ixs T (zgD hd4)) ?_
 iterate 3 refine AD.pu T ?_
 refine AD.vv (ixs T (hx13)) ?_
 refine AD.pu T ?_
 refine AD.nil (AO.pu T ?_)
 refine AO.n (AW.c (b:=(y2 != x12)) rfl (fun hc=>?_) (fun hc=>?_))
 replace hH:=condT hc hH
 refine AW.q (AW.r (AO.pu T ?_))
 refine AO.n (AW.t ?_)
 have hR:=zS hH;subst hR
 exact retQ.i [] rfl (.c (.c .v))
 replace hH:=condF hc hH
 refine AW.k (AW.r ?_)
 refine AO.w (zR rfl rfl rfl rfl (zK hlt6 hb5)) ?_
 refine AO.pu T ?_
 refine AO.n ?_
 refine ⟨k1+1,⟨Nat.succ_le_of_lt hlt6,(by rw [zds hd4];exact hH)⟩,(by have:=hlt6;dsimp only;omega),?_⟩
 exact Le.ct 0 0

def qCG (b:Season):List Line→Nat→Option Bool
 | [],k1 =>
  some true
 | y2::ys3,k1 =>
  (qAb b.lines (k1:Int)).bind fun x20 =>
  (opt (!(y2.skater != x20.skater)) default (qFT y2.events x20.events)).bind fun x22 =>
  (opt (!((y2.skater != x20.skater) || (!x22))) default (qFT y2.points x20.points)).bind fun x24 =>
  cond (((y2.skater != x20.skater) || (!x22)) || (!x24))
   (some false)
   (qCG b ys3 (k1+1))
def qGF (a:Season) (b:Season):Option Bool :=
 cond ((a.best != b.best) || ((a.lines.length:Int) != (b.lines.length:Int)))
  (some false)
  (qCG b a.lines 0)
theorem qMp (a:Season) (b:Season) (r:Bool) (hH:qGF a b=some r):qAE Tryz.prog 22 [.g (qEd a),.g (qEd b)] (.v (.bool r)):=by
 refine fns T Tryz.func22 ?_
 refine AW.q (AW.r (AO.x (bxs T 1) ?_))
 refine AO.x (bxs T 2) ?_
 refine AO.pu T ?_
 refine AO.n (AW.q (AW.q ?_))
 refine AW.r ?_
 iterate 6 refine AO.pu T ?_
 refine AO.g T [] rfl trivial rfl rfl ?_
 refine AO.g T [12] rfl ⟨fun h=>h,trivial⟩ rfl rfl ?_
 refine AO.d [13] rfl ⟨fun h=>h,trivial⟩ (fun hg=>zL T rfl rfl rfl) rfl ?_
 refine AO.g T [] rfl trivial rfl rfl ?_
 refine AO.g T [15] rfl ⟨fun h=>h,trivial⟩ rfl rfl ?_
 refine AO.d [16] rfl ⟨fun h=>h,trivial⟩ (fun hg=>zL T rfl rfl rfl) rfl ?_
 refine AO.g T [14,17] rfl ⟨fun h=>h,fun h=>h,trivial⟩ rfl rfl ?_
 refine AO.w ors ?_
 refine AO.n (AW.c (b:=((a.best != b.best) || ((a.lines.length:Int) != (b.lines.length:Int)))) rfl (fun hc=>?_) (fun hc=>?_))
 replace hH:=condT hc hH
 refine AW.q (AW.r (AO.pu T ?_))
 refine AO.n (AW.t ?_)
 have hR:=zS hH;subst hR
 exact retQ.i [] rfl (.c (.c .v))
 replace hH:=condF hc hH
 refine AW.k (AW.q (AW.q ?_))
 refine AW.r (AO.p2 T ?_)
 refine AO.w (qCC T) ?_
 refine AO.pu T ?_
 refine AO.n (AW.b ?_)
 refine AW.loopS (fun s:Nat=>(⟨[(2,.p 1 0),(3,.p 2 0),(22,(a.lines.length:Int)),(23,(s:Int))],[(1,.box [a.best,.s (List.map qCf a.lines)]),(2,.box [b.best,.s (List.map qCf b.lines)])],72,[]⟩:St)) (fun s=>s ≤ a.lines.length∧qCG b (a.lines.drop s) s=some r) (fun s=>a.lines.length - s) 0 ⟨Nat.zero_le _,hH⟩ ?_ ?_
 exact Le.ct 0 0
 rintro k1 ⟨hk,hH⟩
 replace hH:qCG b (a.lines.drop k1) k1=some r:=hH
 try dsimp only
 refine AW.boundBox (id:=1) (j:=1) (l:=a.lines) rfl rfl (fun hb5=>?_)
 rcases hd4:a.lines.drop k1 with _ | ⟨y2,ys3⟩
 rw [hd4,qCG] at hH
 have hlt6:=qAJ hd4
 refine AW.q (AW.r (AO.pu T ?_))
 refine AO.n (AW.q (AW.condF' (b:=decide ((k1:Int) < (a.lines.length:Int))) rfl (qEQ hlt6) ?_))
 refine AW.exit (AW.q (AW.r ?_))
 refine AO.pu T ?_
 refine AO.n (AW.t ?_)
 have hR:=zS hH;subst hR
 exact retQ.i [] rfl (.c (.c .v))
 rw [hd4,qCG] at hH
 have hlt6:=qAK hd4
 refine AW.q (AW.r (AO.pu T ?_))
 refine AO.n (AW.q (AW.condT' (b:=decide ((k1:Int) < (a.lines.length:Int))) rfl (qER hlt6) ?_))
 refine AW.k (AW.q ?_)
 refine AW.b (AW.q (AW.r ?_))
 refine AO.p2 T ?_
 refine AO.n (AW.q ?_)
 obtain ⟨x20,hx21,hH⟩:=zB hH
 obtain ⟨x22,hx23,hH⟩:=zB hH
 obtain ⟨x24,hx25,hH⟩:=zB hH
 refine AW.drawn 42 3 [] mix (by kernel_rfl) rfl ?_
 iterate 3 refine AD.pu T ?_
 refine AD.vv (ixs T (zgD hd4)) ?_
 iterate 5 refine AD.pu T ?_
 refine AD.vv (ixs T (hx21)) ?_
 iterate 4 refine AD.pu T ?_
 refine AD.pureG T [] rfl trivial rfl rfl ?_
 refine AD.pureG T [40] rfl ⟨fun h=>h,trivial⟩ rfl rfl ?_
 refine AD.pureG T [] rfl trivial rfl rfl ?_
 refine AD.guard [41,42] rfl ⟨fun h=>h,fun h=>h,trivial⟩ (fun hg=>zX T rfl rfl rfl rfl rfl (zgD hd4) rfl) rfl ?_
 refine AD.pureG T [43] rfl ⟨fun h=>h,trivial⟩ rfl rfl ?_
 refine AD.pureG T [44] rfl ⟨fun h=>h,trivial⟩ rfl rfl ?_
 refine AD.pureG T [] rfl trivial rfl rfl ?_
 refine AD.pureG T [46] rfl ⟨fun h=>h,trivial⟩ rfl rfl ?_
 refine AD.pureG T [] rfl trivial rfl rfl ?_
 refine AD.guard [47,48] rfl ⟨fun h=>h,fun h=>h,trivial⟩ (fun hg=>zX T rfl rfl rfl rfl rfl (hx21) rfl) rfl ?_
 refine AD.pureG T [49] rfl ⟨fun h=>h,trivial⟩ rfl rfl ?_
 refine AD.pureG T [50] rfl ⟨fun h=>h,trivial⟩ rfl rfl ?_
 refine AD.guard [45,51] rfl ⟨fun h=>h,fun h=>h,trivial⟩ (fun hg=>zV rfl rfl rfl rfl (qIL _ _ _ (qEA hx23 hg)) rfl) rfl ?_
 refine AD.pureG T [52] rfl ⟨fun h=>h,trivial⟩ rfl rfl ?_
 refine AD.vv ors ?_
 refine AD.pu T ?_
 refine AD.pureG T [] rfl trivial rfl rfl ?_
 refine AD.pureG T [56] rfl ⟨fun h=>h,trivial⟩ rfl rfl ?_
 refine AD.pureG T [] rfl trivial rfl rfl ?_
 refine AD.guard [57,58] rfl ⟨fun h=>h,fun h=>h,trivial⟩ (fun hg=>zX T rfl rfl rfl rfl rfl (zgD hd4) rfl) rfl ?_
 refine AD.pureG T [59] rfl ⟨fun h=>h,trivial⟩ rfl rfl ?_
 refine AD.pureG T [60] rfl ⟨fun h=>h,trivial⟩ rfl rfl ?_
 refine AD.pureG T [] rfl trivial rfl rfl ?_
 refine AD.pureG T [62] rfl ⟨fun h=>h,trivial⟩ rfl rfl ?_
 refine AD.pureG T [] rfl trivial rfl rfl ?_
 refine AD.guard [63,64] rfl ⟨fun h=>h,fun h=>h,trivial⟩ (fun hg=>zX T rfl rfl rfl rfl rfl (hx21) rfl) rfl ?_
 refine AD.pureG T [65] rfl ⟨fun h=>h,trivial⟩ rfl rfl ?_
 refine AD.pureG T [66] rfl ⟨fun h=>h,trivial⟩ rfl rfl ?_
 refine AD.nil (AO.d [61,67] rfl ⟨fun h=>h,fun h=>h,trivial⟩ (fun hg=>zV rfl rfl rfl rfl (qIL _ _ _ (qEA hx25 hg)) rfl) rfl ?_)
 refine AO.g T [68] rfl ⟨fun h=>h,trivial⟩ rfl rfl ?_
 refine AO.w ors ?_
 refine AO.n (AW.le (Le.ct 0 0 (σ':=(⟨[(2,.p 1 0),(3,.p 2 0),(22,(a.lines.length:Int)),(23,(k1:Int)),(70,.v (.bool (((y2.skater != x20.skater) || (!x22)) || (!x24))))],[(1,.box [a.best,.s (List.map qCf a.lines)]),(2,.box [b.best,.s (List.map qCf b.lines)])],72,[]⟩:St))) ?_)
 refine AW.c (b:=(((y2.skater != x20.skater) || (!x22)) || (!x24))) rfl (fun hc=>?_) (fun hc=>?_)
 replace hH:=condT hc hH
 refine AW.q (AW.r (AO.pu T ?_))
 refine AO.n (AW.t ?_)
 have hR:=zS hH;subst hR
 exact retQ.i [] rfl (.c (.c .v))
 replace hH:=condF hc hH
 refine AW.k (AW.r ?_)
 refine AO.w (zR rfl rfl rfl rfl (zK hlt6 hb5)) ?_
 refine AO.pu T ?_
 refine AO.n ?_
 refine ⟨k1+1,⟨Nat.succ_le_of_lt hlt6,(by rw [zds hd4];exact hH)⟩,(by have:=hlt6;dsimp only;omega),?_⟩
 exact Le.ct 0 0

def qB6 (more:List Int) (fuel:Nat) (x1:(Code × Performance × Performance × Int)) (v177:List Result) (v178:Int) (v179:List Line) (v180:List Entry) (v181:Int) (x226:Performance) (x228:(Int × Bool)) (x230:(Int × Bool)) (x236:(Int × Bool)) (x238:(Int × Bool)):Nat→Int→Option (Except Bool ((List Result) × Int × (List Line) × (List Entry)))
 | 0,_=>none
 | k246+1,v252 =>
  cond (decide (v252 < x238.1))
   ((qDY fuel x1.1 x226 100 v252).bind fun x254 =>
   cond ((((!x254.2.2) || decide (x228.1 < x254.1)) || decide (x228.1 > x254.2.1)) || decide ((w64 (x254.2.1 - x254.1)) > x236.1))
    (some (.error false))
    (qB6 more fuel x1 v177 v178 v179 v180 v181 x226 x228 x230 x236 x238 k246 (w64 (v252+1))))
   (cond (decide (x230.1 > 100000))
    (some (.error true))
    ((qCw (qBE 32 (v177.length+([(Result.mk (w64 (7 - (w64 (3 * v181)))) [x230.1])]).length))).bind fun u256 =>
    (qCw (9 != 0)).bind fun u258 =>
    (qDb fuel (Season.mk v178 v179) (Entry.mk (w64 (1+((more.length:Int).tmod 9))) (w64 (7 - (w64 (3 * v181)))) x230.1)).bind fun x260 =>
    cond (!x260.2)
     (some (.error false))
     ((qCw (qBE 24 (v180.length+([(Entry.mk (w64 (1+((more.length:Int).tmod 9))) (w64 (7 - (w64 (3 * v181)))) x230.1)]).length))).bind fun u262 =>
     some (.ok ((v177++[(Result.mk (w64 (7 - (w64 (3 * v181)))) [x230.1])]),x260.1.best,x260.1.lines,(v180++[(Entry.mk (w64 (1+((more.length:Int).tmod 9))) (w64 (7 - (w64 (3 * v181)))) x230.1)]))))))
def qBq (more:List Int) (fuel:Nat) (x1:(Code × Performance × Performance × Int)):Nat→List Result→Int→List Line→List Entry→Int→Option Bool
 | 0,_,_,_,_,_=>none
 | k11+1,v177,v178,v179,v180,v181 =>
  cond (decide (v181 < (([(Performance.mk x1.2.1.items (Marks.mk x1.2.1.marks.grades x1.2.1.marks.components) (Slips.mk x1.2.1.slips.falls x1.2.1.slips.seconds x1.2.1.slips.other)),(Performance.mk x1.2.2.1.items (Marks.mk x1.2.2.1.marks.grades x1.2.2.1.marks.components) (Slips.mk x1.2.2.1.slips.falls x1.2.2.1.slips.seconds x1.2.2.1.slips.other))]).length:Int)))
   (((qAb [(Performance.mk x1.2.1.items (Marks.mk x1.2.1.marks.grades x1.2.1.marks.components) (Slips.mk x1.2.1.slips.falls x1.2.1.slips.seconds x1.2.1.slips.other)),(Performance.mk x1.2.2.1.items (Marks.mk x1.2.2.1.marks.grades x1.2.2.1.marks.components) (Slips.mk x1.2.2.1.slips.falls x1.2.2.1.slips.seconds x1.2.2.1.slips.other))] v181).bind fun x226 =>
   (qEI fuel x1.1 x226 100).bind fun x228 =>
   (qEC fuel x1.1 x226 100).bind fun x230 =>
   (qEo fuel x1.1 x226.items x226.marks).bind fun x232 =>
   (qGP fuel x1.1 x226 100).bind fun x234 =>
   (qEJ fuel x1.1 x226 100).bind fun x236 =>
   (qFm x226.marks).bind fun x238 =>
   (opt (!((((((!x228.2) || (!x230.2)) || (x228.1 != x230.1)) || (!x232.2)) || (!x234.2)) || ((x234.1.length:Int) != 4))) default (qAb x234.1 0)).bind fun x240 =>
   (opt (!((((((!x228.2) || (!x230.2)) || (x228.1 != x230.1)) || (!x232.2)) || (!x234.2)) || ((x234.1.length:Int) != 4))) default (qF4 x232.1)).bind fun x242 =>
   (opt (!(((((((!x228.2) || (!x230.2)) || (x228.1 != x230.1)) || (!x232.2)) || (!x234.2)) || ((x234.1.length:Int) != 4)) || (x240 != x242))) default (qAb x234.1 3)).bind fun x244 =>
   cond ((((((((((!x228.2) || (!x230.2)) || (x228.1 != x230.1)) || (!x232.2)) || (!x234.2)) || ((x234.1.length:Int) != 4)) || (x240 != x242)) || (x244 != x228.1)) || (!x236.2)) || (!x238.2))
    (some (.error false))
    (qB6 more fuel x1 v177 v178 v179 v180 v181 x226 x228 x230 x236 x238 fuel 0)).bind fun o224=>qKp o224 fun (v220,v221,v222,v223) =>
   qBq more fuel x1 k11 v220 v221 v222 v223 (w64 (v181+1)))
   ((qDc fuel v177).bind fun x264 =>
   (qDd fuel v177).bind fun x266 =>
   (qDr fuel v177).bind fun x268 =>
   (qDv 1 v180).bind fun x270 =>
   (qFX fuel (Season.mk v178 v179)).bind fun x272 =>
   (opt (!((!x264.2) || (!x266.2))) default (qFT x264.1 x266.1)).bind fun x274 =>
   (opt (!((((((!x264.2) || (!x266.2)) || (!x274)) || (!x268.2)) || ((x268.1.length:Int) != 2)) || (!x270.2))) default (qGF x270.1 (Season.mk v178 v179))).bind fun x276 =>
   cond (((((((((!x264.2) || (!x266.2)) || (!x274)) || (!x268.2)) || ((x268.1.length:Int) != 2)) || (!x270.2)) || (!x276)) || (!x272.2)) || ((x272.1.length:Int) != 2))
    (some false)
    ((qAb v177 0).bind fun x278 =>
    (qAb x278.scores 0).bind fun x280 =>
    (qAb v177 1).bind fun x282 =>
    (qAb x282.scores 0).bind fun x284 =>
    (qAb x266.1 0).bind fun x286 =>
    (qAb x266.1 1).bind fun x288 =>
    (opt ((decide (x280 > x284) == decide (x286 < x288)) && ((x280 == x284) == (x286 == x288))) default (qAb x272.1 0)).bind fun x290 =>
    (opt (((decide (x280 > x284) == decide (x286 < x288)) && ((x280 == x284) == (x286 == x288))) && (x290 == x288)) default (qAb x272.1 1)).bind fun x292 =>
    some ((((decide (x280 > x284) == decide (x286 < x288)) && ((x280 == x284) == (x286 == x288))) && (x290 == x288)) && (x292 == x286))))
def qHb (fuel:Nat) (code:List Int) (more:List Int):Option Bool :=
 cond (decide ((w64 ((code.length:Int)+(more.length:Int))) > 1048576))
  (some true)
  ((qCm fuel code).bind fun x1 =>
  (qCU fuel x1.1 (Performance.mk x1.2.1.items (Marks.mk x1.2.1.marks.grades x1.2.1.marks.components) (Slips.mk x1.2.1.slips.falls x1.2.1.slips.seconds x1.2.1.slips.other))).bind fun x3 =>
  (qCW fuel x1.1 (Performance.mk x1.2.1.items (Marks.mk x1.2.1.marks.grades x1.2.1.marks.components) (Slips.mk x1.2.1.slips.falls x1.2.1.slips.seconds x1.2.1.slips.other))).bind fun x5 =>
  (qCU fuel x1.1 (Performance.mk x1.2.2.1.items (Marks.mk x1.2.2.1.marks.grades x1.2.2.1.marks.components) (Slips.mk x1.2.2.1.slips.falls x1.2.2.1.slips.seconds x1.2.2.1.slips.other))).bind fun x7 =>
  (qCW fuel x1.1 (Performance.mk x1.2.2.1.items (Marks.mk x1.2.2.1.marks.grades x1.2.2.1.marks.components) (Slips.mk x1.2.2.1.slips.falls x1.2.2.1.slips.seconds x1.2.2.1.slips.other))).bind fun x9 =>
  cond ((((!(x3.2 == x5.2)) || (!(x3.1 == x5.1))) || (!(x7.2 == x9.2))) || (!(x7.1 == x9.1)))
   (some false)
   (cond (((!x3.2) || (!x5.1)) || (!x9.1))
    (some true)
    (qBq more fuel x1 fuel [] 1 [] [] 0)))
theorem qNs (fuel:Nat) (code:List Int) (more:List Int) (r:Bool) (hH:qHb fuel code more=some r):qAE Tryz.prog 3 [.s (List.map ze4 code),.s (List.map ze4 more)] (.v (.bool r)):=by
 refine fns T Tryz.func3 ?_
 refine AW.q (AW.r (AO.pu T ?_))
 refine AO.n (AW.q (AW.q ?_))
 refine AW.r (AO.pu T ?_)
 refine AO.w (qCC T) ?_
 refine AO.pu T ?_
 refine AO.w (qCC T) ?_
 refine AO.w aws ?_
 refine AO.pu T ?_
 refine AO.n (AW.c (b:=decide ((w64 ((code.length:Int)+(more.length:Int))) > 1048576)) rfl (fun hc=>?_) (fun hc=>?_))
 replace hH:=condT hc hH
 refine AW.q (AW.r (AO.pu T ?_))
 refine AO.n (AW.t ?_)
 have hR:=zS hH;subst hR
 exact retQ.i [] rfl (.c (.c .v))
 replace hH:=condF hc hH
 refine AW.k (AW.q ?_)
 obtain ⟨x1,hx2,hH⟩:=zB hH
 refine AW.r (AO.pu T ?_)
 refine AO.x (qBk rfl 1 rfl rfl rfl (qHT fuel _ _ (hx2)) rfl rfl rfl) ?_
 refine AO.pu T ?_
 refine AO.pu T (d:=.g [.R 1,.R 2,x1.1.repeats,x1.1.bonus,x1.1.keeps,x1.1.fall]) ?_
 refine AO.pu T (d:=.g [.s (List.map ze2 x1.2.1.items),.s (List.map ze1 x1.2.1.marks.grades),.s (List.map ze1 x1.2.1.marks.components),x1.2.1.slips.falls,x1.2.1.slips.seconds,x1.2.1.slips.other]) ?_
 refine AO.pu T (d:=.g [.R 3,.R 4,.R 5,x1.2.2.1.slips.falls,x1.2.2.1.slips.seconds,x1.2.2.1.slips.other]) ?_
 refine AO.pu T ?_
 refine AO.x (als T 6) ?_
 refine AO.x (als T 7) ?_
 refine AO.x (als T 8) ?_
 refine AO.se T [.R 1,.R 2,x1.1.repeats,x1.1.bonus,x1.1.keeps,x1.1.fall] ?_
 refine AO.se T [.s (List.map ze2 x1.2.1.items),.s (List.map ze1 x1.2.1.marks.grades),.s (List.map ze1 x1.2.1.marks.components),x1.2.1.slips.falls,x1.2.1.slips.seconds,x1.2.1.slips.other] ?_
 refine AO.se T [.R 3,.R 4,.R 5,x1.2.2.1.slips.falls,x1.2.2.1.slips.seconds,x1.2.2.1.slips.other] ?_
 refine AO.pu T ?_
 refine AO.n (AW.q ?_)
 obtain ⟨x3,hx4,hH⟩:=zB hH
 refine AW.r (AO.pu T (d:=.g [.R 1,.R 2,x1.1.repeats,x1.1.bonus,x1.1.keeps,x1.1.fall]) ?_)
 refine AO.pu T (d:=.g [.s (List.map ze2 x1.2.1.items),.s (List.map ze1 x1.2.1.marks.grades),.s (List.map ze1 x1.2.1.marks.components),x1.2.1.slips.falls,x1.2.1.slips.seconds,x1.2.1.slips.other]) ?_
 refine AO.w (zLV rfl rfl rfl (es:=[.g (ze7 x1.1),.g (qGl (Performance.mk x1.2.1.items (Marks.mk x1.2.1.marks.grades x1.2.1.marks.components) (Slips.mk x1.2.1.slips.falls x1.2.1.slips.seconds x1.2.1.slips.other)))]) ⟨qE1 (LendL.cons ((.rowR rfl (.map fun y=>.vs rfl))) (LendL.cons ((.rowR rfl (.map fun y=>.vs rfl))) (LendL.cons (.free rfl) (LendL.cons (.free rfl) (LendL.cons (.free rfl) (LendL.cons (.free rfl) LendL.nil)))))),.free rfl,trivial⟩ (qGU fuel _ _ _ (hx4)) (qE8 (zfl (.cons (qAF _) (.cons (qAF _) .nil)))) rfl) ?_
 iterate 5 refine AO.pu T ?_
 refine AO.n (AW.le (Le.ct 0 0 (σ':=(⟨[(1,.s (List.map ze4 more)),(5,.p 6 0),(6,.p 7 0),(7,.p 8 0),(9,.v (.bool x3.1)),(10,.v (.bool x3.2))],[(1,.row 4 (List.map ze3 x1.1.elements)),(2,.row 1 (List.map ze0 x1.1.limits)),(3,.row 3 (List.map qGM x1.2.2.1.items)),(4,.row 1 (List.map ze6 x1.2.2.1.marks.grades)),(5,.row 1 (List.map ze6 x1.2.2.1.marks.components)),(6,.box [.R 1,.R 2,x1.1.repeats,x1.1.bonus,x1.1.keeps,x1.1.fall]),(7,.box [.s (List.map ze2 x1.2.1.items),.s (List.map ze1 x1.2.1.marks.grades),.s (List.map ze1 x1.2.1.marks.components),x1.2.1.slips.falls,x1.2.1.slips.seconds,x1.2.1.slips.other]),(8,.box [.R 3,.R 4,.R 5,x1.2.2.1.slips.falls,x1.2.2.1.slips.seconds,x1.2.2.1.slips.other])],399,[]⟩:St))) ?_)
 refine AW.q ?_
 obtain ⟨x5,hx6,hH⟩:=zB hH
 refine AW.r (AO.pu T (d:=.g [.R 1,.R 2,x1.1.repeats,x1.1.bonus,x1.1.keeps,x1.1.fall]) ?_)
 refine AO.pu T (d:=.g [.s (List.map ze2 x1.2.1.items),.s (List.map ze1 x1.2.1.marks.grades),.s (List.map ze1 x1.2.1.marks.components),x1.2.1.slips.falls,x1.2.1.slips.seconds,x1.2.1.slips.other]) ?_
 refine AO.w (zLV rfl rfl rfl (es:=[.g (ze7 x1.1),.g (qGl (Performance.mk x1.2.1.items (Marks.mk x1.2.1.marks.grades x1.2.1.marks.components) (Slips.mk x1.2.1.slips.falls x1.2.1.slips.seconds x1.2.1.slips.other)))]) ⟨qE1 (LendL.cons ((.rowR rfl (.map fun y=>.vs rfl))) (LendL.cons ((.rowR rfl (.map fun y=>.vs rfl))) (LendL.cons (.free rfl) (LendL.cons (.free rfl) (LendL.cons (.free rfl) (LendL.cons (.free rfl) LendL.nil)))))),.free rfl,trivial⟩ (qGZ fuel _ _ _ (hx6)) (qE8 (zfl (.cons (qAF _) (.cons (qAF _) .nil)))) rfl) ?_
 iterate 5 refine AO.pu T ?_
 refine AO.n (AW.q ?_)
 obtain ⟨x7,hx8,hH⟩:=zB hH
 refine AW.r (AO.pu T (d:=.g [.R 1,.R 2,x1.1.repeats,x1.1.bonus,x1.1.keeps,x1.1.fall]) ?_)
 refine AO.pu T (d:=.g [.R 3,.R 4,.R 5,x1.2.2.1.slips.falls,x1.2.2.1.slips.seconds,x1.2.2.1.slips.other]) ?_
 refine AO.w (zLV rfl rfl rfl (es:=[.g (ze7 x1.1),.g (qGl (Performance.mk x1.2.2.1.items (Marks.mk x1.2.2.1.marks.grades x1.2.2.1.marks.components) (Slips.mk x1.2.2.1.slips.falls x1.2.2.1.slips.seconds x1.2.2.1.slips.other)))]) ⟨qE1 (LendL.cons ((.rowR rfl (.map fun y=>.vs rfl))) (LendL.cons ((.rowR rfl (.map fun y=>.vs rfl))) (LendL.cons (.free rfl) (LendL.cons (.free rfl) (LendL.cons (.free rfl) (LendL.cons (.free rfl) LendL.nil)))))),qE1 (LendL.cons ((.rowR rfl (.map fun y=>qDh y))) (LendL.cons ((.rowR rfl (.map fun y=>qA9 y))) (LendL.cons ((.rowR rfl (.map fun y=>qA9 y))) (LendL.cons (.free rfl) (LendL.cons (.free rfl) (LendL.cons (.free rfl) LendL.nil)))))),trivial⟩ (qGU fuel _ _ _ (hx8)) (qE8 (zfl (.cons (qAF _) (.cons (qAF _) .nil)))) rfl) ?_
 iterate 5 refine AO.pu T ?_
 refine AO.n (AW.q ?_)
 obtain ⟨x9,hx10,hH⟩:=zB hH
 refine AW.r (AO.pu T (d:=.g [.R 1,.R 2,x1.1.repeats,x1.1.bonus,x1.1.keeps,x1.1.fall]) ?_)
 refine AO.pu T (d:=.g [.R 3,.R 4,.R 5,x1.2.2.1.slips.falls,x1.2.2.1.slips.seconds,x1.2.2.1.slips.other]) ?_
 refine AO.w (zLV rfl rfl rfl (es:=[.g (ze7 x1.1),.g (qGl (Performance.mk x1.2.2.1.items (Marks.mk x1.2.2.1.marks.grades x1.2.2.1.marks.components) (Slips.mk x1.2.2.1.slips.falls x1.2.2.1.slips.seconds x1.2.2.1.slips.other)))]) ⟨qE1 (LendL.cons ((.rowR rfl (.map fun y=>.vs rfl))) (LendL.cons ((.rowR rfl (.map fun y=>.vs rfl))) (LendL.cons (.free rfl) (LendL.cons (.free rfl) (LendL.cons (.free rfl) (LendL.cons (.free rfl) LendL.nil)))))),qE1 (LendL.cons ((.rowR rfl (.map fun y=>qDh y))) (LendL.cons ((.rowR rfl (.map fun y=>qA9 y))) (LendL.cons ((.rowR rfl (.map fun y=>qA9 y))) (LendL.cons (.free rfl) (LendL.cons (.free rfl) (LendL.cons (.free rfl) LendL.nil)))))),trivial⟩ (qGZ fuel _ _ _ (hx10)) (qE8 (zfl (.cons (qAF _) (.cons (qAF _) .nil)))) rfl) ?_
 iterate 5 refine AO.pu T ?_
 refine AO.n (AW.le (Le.ct 0 0 (σ':=(⟨[(1,.s (List.map ze4 more)),(5,.p 6 0),(6,.p 7 0),(7,.p 8 0),(9,.v (.bool x3.1)),(10,.v (.bool x3.2)),(11,.v (.bool x5.1)),(12,.v (.bool x5.2)),(13,.v (.bool x7.1)),(14,.v (.bool x7.2)),(15,.v (.bool x9.1)),(16,.v (.bool x9.2))],[(1,.row 4 (List.map ze3 x1.1.elements)),(2,.row 1 (List.map ze0 x1.1.limits)),(3,.row 3 (List.map qGM x1.2.2.1.items)),(4,.row 1 (List.map ze6 x1.2.2.1.marks.grades)),(5,.row 1 (List.map ze6 x1.2.2.1.marks.components)),(6,.box [.R 1,.R 2,x1.1.repeats,x1.1.bonus,x1.1.keeps,x1.1.fall]),(7,.box [.s (List.map ze2 x1.2.1.items),.s (List.map ze1 x1.2.1.marks.grades),.s (List.map ze1 x1.2.1.marks.components),x1.2.1.slips.falls,x1.2.1.slips.seconds,x1.2.1.slips.other]),(8,.box [.R 3,.R 4,.R 5,x1.2.2.1.slips.falls,x1.2.2.1.slips.seconds,x1.2.2.1.slips.other])],399,[]⟩:St))) ?_)
 refine AW.q (AW.q (AW.r ?_))
 iterate 4 refine AO.pu T ?_
 iterate 2 refine AO.g T [] rfl trivial rfl rfl ?_
 refine AO.g T [94,95] rfl ⟨fun h=>h,fun h=>h,trivial⟩ rfl rfl ?_
 refine AO.w ors ?_
 refine AO.pu T ?_
 iterate 2 refine AO.g T [] rfl trivial rfl rfl ?_
 refine AO.g T [99,100] rfl ⟨fun h=>h,fun h=>h,trivial⟩ rfl rfl ?_
 refine AO.w ors ?_
 refine AO.pu T ?_
 iterate 2 refine AO.g T [] rfl trivial rfl rfl ?_
 refine AO.g T [104,105] rfl ⟨fun h=>h,fun h=>h,trivial⟩ rfl rfl ?_
 refine AO.w ors ?_
 refine AO.n (AW.c (b:=((((!(x3.2 == x5.2)) || (!(x3.1 == x5.1))) || (!(x7.2 == x9.2))) || (!(x7.1 == x9.1)))) rfl (fun hc=>?_) (fun hc=>?_))
 replace hH:=condT hc hH
 refine AW.q (AW.r (AO.pu T ?_))
 refine AO.n (AW.t ?_)
 have hR:=zS hH;subst hR
 exact retQ.i [] rfl (.c (.c .v))
 replace hH:=condF hc hH
 refine AW.k (AW.q (AW.q ?_))
 refine AW.r ?_
 iterate 3 refine AO.pu T ?_
 refine AO.g T [] rfl trivial rfl rfl ?_
 refine AO.g T [111] rfl ⟨fun h=>h,trivial⟩ rfl rfl ?_
 refine AO.w ors ?_
 refine AO.pu T ?_
 refine AO.g T [] rfl trivial rfl rfl ?_
 refine AO.g T [115] rfl ⟨fun h=>h,trivial⟩ rfl rfl ?_
 refine AO.w ors ?_
 refine AO.n (AW.le (Le.ct 0 0 (σ':=(⟨[(1,.s (List.map ze4 more)),(5,.p 6 0),(6,.p 7 0),(7,.p 8 0),(117,.v (.bool (((!x3.2) || (!x5.1)) || (!x9.1))))],[(1,.row 4 (List.map ze3 x1.1.elements)),(2,.row 1 (List.map ze0 x1.1.limits)),(3,.row 3 (List.map qGM x1.2.2.1.items)),(4,.row 1 (List.map ze6 x1.2.2.1.marks.grades)),(5,.row 1 (List.map ze6 x1.2.2.1.marks.components)),(6,.box [.R 1,.R 2,x1.1.repeats,x1.1.bonus,x1.1.keeps,x1.1.fall]),(7,.box [.s (List.map ze2 x1.2.1.items),.s (List.map ze1 x1.2.1.marks.grades),.s (List.map ze1 x1.2.1.marks.components),x1.2.1.slips.falls,x1.2.1.slips.seconds,x1.2.1.slips.other]),(8,.box [.R 3,.R 4,.R 5,x1.2.2.1.slips.falls,x1.2.2.1.slips.seconds,x1.2.2.1.slips.other])],399,[]⟩:St))) ?_)
 refine AW.c (b:=(((!x3.2) || (!x5.1)) || (!x9.1))) rfl (fun hc=>?_) (fun hc=>?_)
 replace hH:=condT hc hH
 refine AW.q (AW.r (AO.pu T ?_))
 refine AO.n (AW.t ?_)
 have hR:=zS hH;subst hR
 exact retQ.i [] rfl (.c (.c .v))
 replace hH:=condF hc hH
 refine AW.k (AW.q (AW.r ?_))
 refine AO.pu T ?_
 refine AO.n (AW.q (AW.r ?_))
 refine AO.pu T (d:=.g [(1:Int),.w 0 []]) ?_
 refine AO.x (als T 9) ?_
 refine AO.se T [(1:Int),.w 0 []] ?_
 refine AO.n (AW.q (AW.r ?_))
 refine AO.pu T ?_
 refine AO.n (AW.q (AW.q ?_))
 refine AW.le (Le.fM 3 (g:=ze2) rfl (fun y=>qDh y)) ?_
 refine AW.le (Le.fM 4 (g:=ze1) rfl (fun y=>qA9 y)) ?_
 refine AW.le (Le.fM 5 (g:=ze1) rfl (fun y=>qA9 y)) ?_
 refine AW.r (AO.pu T (d:=.g [.s (List.map ze2 x1.2.1.items),.s (List.map ze1 x1.2.1.marks.grades),.s (List.map ze1 x1.2.1.marks.components),x1.2.1.slips.falls,x1.2.1.slips.seconds,x1.2.1.slips.other]) ?_)
 refine AO.pu T (d:=.g [.s (List.map ze2 x1.2.2.1.items),.s (List.map ze1 x1.2.2.1.marks.grades),.s (List.map ze1 x1.2.2.1.marks.components),x1.2.2.1.slips.falls,x1.2.2.1.slips.seconds,x1.2.2.1.slips.other]) ?_
 refine AO.x (mks T 10 qGl ([(Performance.mk x1.2.1.items (Marks.mk x1.2.1.marks.grades x1.2.1.marks.components) (Slips.mk x1.2.1.slips.falls x1.2.1.slips.seconds x1.2.1.slips.other)),(Performance.mk x1.2.2.1.items (Marks.mk x1.2.2.1.marks.grades x1.2.2.1.marks.components) (Slips.mk x1.2.2.1.slips.falls x1.2.2.1.slips.seconds x1.2.2.1.slips.other))])) ?_
 refine AO.w (qGn T) ?_
 refine AO.pu T ?_
 refine AO.n (AW.b ?_)
 refine AW.loopS (fun s:Nat × (List Result) × Int × (List Line) × (List Entry) × Int=>(⟨[(1,.s (List.map ze4 more)),(5,.p 6 0),(17,.R 38),(18,.p 9 0),(19,.R 43),(121,.R 10),(122,(([(Performance.mk x1.2.1.items (Marks.mk x1.2.1.marks.grades x1.2.1.marks.components) (Slips.mk x1.2.1.slips.falls x1.2.1.slips.seconds x1.2.1.slips.other)),(Performance.mk x1.2.2.1.items (Marks.mk x1.2.2.1.marks.grades x1.2.2.1.marks.components) (Slips.mk x1.2.2.1.slips.falls x1.2.2.1.slips.seconds x1.2.2.1.slips.other))]).length:Int)),(123,s.2.2.2.2.2)],[(1,.row 4 (List.map ze3 x1.1.elements)),(2,.row 1 (List.map ze0 x1.1.limits)),(6,.box [.R 1,.R 2,x1.1.repeats,x1.1.bonus,x1.1.keeps,x1.1.fall]),(9,.box [s.2.2.1,.R 40]),(10,.row 6 (List.map qGl [(Performance.mk x1.2.1.items (Marks.mk x1.2.1.marks.grades x1.2.1.marks.components) (Slips.mk x1.2.1.slips.falls x1.2.1.slips.seconds x1.2.1.slips.other)),(Performance.mk x1.2.2.1.items (Marks.mk x1.2.2.1.marks.grades x1.2.2.1.marks.components) (Slips.mk x1.2.2.1.slips.falls x1.2.2.1.slips.seconds x1.2.2.1.slips.other))])),(38,.row 2 (List.map qCV s.2.1)),(40,.row 3 (List.map qCa s.2.2.2.1)),(43,.row 3 (List.map ze8 s.2.2.2.2.1))],399,[]⟩:St)) (fun s=>qBq more fuel x1 s.1 s.2.1 s.2.2.1 s.2.2.2.1 s.2.2.2.2.1 s.2.2.2.2.2=some r) (fun s=>s.1) (fuel,[],1,[],[],0) hH ?_ ?_
 refine Le.trans (Le.void 17 38 2 rfl rfl) ?_
 refine Le.trans (Le.void 19 43 3 rfl rfl) ?_
 refine Le.trans (Le.voidBox 9 1 40 3 rfl rfl rfl rfl) ?_
 exact Le.ct 0 0
 rintro ⟨k11,v177,v178,v179,v180,v181⟩ hH
 replace hH:qBq more fuel x1 k11 v177 v178 v179 v180 v181=some r:=hH
 try dsimp only
 rcases k11 with _ | k11
 cases (show none=some _ from hH)
 rw [qBq] at hH
 refine AW.q (AW.r (AO.pu T ?_))
 refine AO.n (AW.q (AW.c (b:=decide (v181 < (([(Performance.mk x1.2.1.items (Marks.mk x1.2.1.marks.grades x1.2.1.marks.components) (Slips.mk x1.2.1.slips.falls x1.2.1.slips.seconds x1.2.1.slips.other)),(Performance.mk x1.2.2.1.items (Marks.mk x1.2.2.1.marks.grades x1.2.2.1.marks.components) (Slips.mk x1.2.2.1.slips.falls x1.2.2.1.slips.seconds x1.2.2.1.slips.other))]).length:Int))) rfl (fun hc=>?_) (fun hc=>?_)))
 replace hH:=condT hc hH
 refine AW.k ?_
 obtain ⟨o224,hH,hK225⟩:=zB hH
 refine AW.seqJ (fun s:(List Result) × Int × (List Line) × (List Entry)=>(⟨[(1,.s (List.map ze4 more)),(5,.p 6 0),(17,.R 60),(18,.p 9 0),(19,.R 65),(121,.R 10),(122,(([(Performance.mk x1.2.1.items (Marks.mk x1.2.1.marks.grades x1.2.1.marks.components) (Slips.mk x1.2.1.slips.falls x1.2.1.slips.seconds x1.2.1.slips.other)),(Performance.mk x1.2.2.1.items (Marks.mk x1.2.2.1.marks.grades x1.2.2.1.marks.components) (Slips.mk x1.2.2.1.slips.falls x1.2.2.1.slips.seconds x1.2.2.1.slips.other))]).length:Int)),(123,v181)],[(1,.row 4 (List.map ze3 x1.1.elements)),(2,.row 1 (List.map ze0 x1.1.limits)),(6,.box [.R 1,.R 2,x1.1.repeats,x1.1.bonus,x1.1.keeps,x1.1.fall]),(9,.box [s.2.1,.R 62]),(10,.row 6 (List.map qGl [(Performance.mk x1.2.1.items (Marks.mk x1.2.1.marks.grades x1.2.1.marks.components) (Slips.mk x1.2.1.slips.falls x1.2.1.slips.seconds x1.2.1.slips.other)),(Performance.mk x1.2.2.1.items (Marks.mk x1.2.2.1.marks.grades x1.2.2.1.marks.components) (Slips.mk x1.2.2.1.slips.falls x1.2.2.1.slips.seconds x1.2.2.1.slips.other))])),(60,.row 2 (List.map qCV s.1)),(62,.row 3 (List.map qCa s.2.2.1)),(65,.row 3 (List.map ze8 s.2.2.2))],399,[]⟩:St)) (fun s=>.ok s=o224) ?_ ?_
 refine AW.b (AW.q ?_)
 obtain ⟨x226,hx227,hH⟩:=zB hH
 refine AW.r (AO.pu T ?_)
 refine AO.w (ixr T (hx227)) ?_
 refine AO.w (zLr T rfl rfl rfl rfl (zgG (hx227)) rfl rfl rfl) ?_
 refine AO.x (als T 66) ?_
 refine AO.pu T ?_
 refine AO.se T [.s (List.map ze2 x226.items),.s (List.map ze1 x226.marks.grades),.s (List.map ze1 x226.marks.components),x226.slips.falls,x226.slips.seconds,x226.slips.other] ?_
 refine AO.n (AW.q ?_)
 obtain ⟨x228,hx229,hH⟩:=zB hH
 refine AW.r (AO.pu T (d:=.g [.R 1,.R 2,x1.1.repeats,x1.1.bonus,x1.1.keeps,x1.1.fall]) ?_)
 refine AO.pu T (d:=.g [.s (List.map ze2 x226.items),.s (List.map ze1 x226.marks.grades),.s (List.map ze1 x226.marks.components),x226.slips.falls,x226.slips.seconds,x226.slips.other]) ?_
 refine AO.w (zLV rfl rfl rfl (es:=[.g (ze7 x1.1),.g (qGl x226),(100:Int)]) ⟨qE1 (LendL.cons ((.rowR rfl (.map fun y=>.vs rfl))) (LendL.cons ((.rowR rfl (.map fun y=>.vs rfl))) (LendL.cons (.free rfl) (LendL.cons (.free rfl) (LendL.cons (.free rfl) (LendL.cons (.free rfl) LendL.nil)))))),.free rfl,.free rfl,trivial⟩ (qJm fuel _ _ _ _ (hx229)) (qE8 (zfl (.cons (qAF _) (.cons (qAF _) .nil)))) rfl) ?_
 iterate 5 refine AO.pu T ?_
 refine AO.n (AW.q ?_)
 obtain ⟨x230,hx231,hH⟩:=zB hH
 refine AW.r (AO.pu T (d:=.g [.R 1,.R 2,x1.1.repeats,x1.1.bonus,x1.1.keeps,x1.1.fall]) ?_)
 refine AO.pu T (d:=.g [.s (List.map ze2 x226.items),.s (List.map ze1 x226.marks.grades),.s (List.map ze1 x226.marks.components),x226.slips.falls,x226.slips.seconds,x226.slips.other]) ?_
 refine AO.w (zLV rfl rfl rfl (es:=[.g (ze7 x1.1),.g (qGl x226),(100:Int)]) ⟨qE1 (LendL.cons ((.rowR rfl (.map fun y=>.vs rfl))) (LendL.cons ((.rowR rfl (.map fun y=>.vs rfl))) (LendL.cons (.free rfl) (LendL.cons (.free rfl) (LendL.cons (.free rfl) (LendL.cons (.free rfl) LendL.nil)))))),.free rfl,.free rfl,trivial⟩ (qJn fuel _ _ _ _ (hx231)) (qE8 (zfl (.cons (qAF _) (.cons (qAF _) .nil)))) rfl) ?_
 iterate 5 refine AO.pu T ?_
 refine AO.n (AW.q ?_)
 obtain ⟨x232,hx233,hH⟩:=zB hH
 refine AW.r (AO.pu T (d:=.g [.R 1,.R 2,x1.1.repeats,x1.1.bonus,x1.1.keeps,x1.1.fall]) ?_)
 iterate 3 refine AO.pu T ?_
 refine AO.pu T (d:=.g [.s (List.map ze1 x226.marks.grades),.s (List.map ze1 x226.marks.components)]) ?_
 refine AO.x (qEi rfl 67 rfl rfl (es:=[.g (ze7 x1.1),.s (List.map ze2 x226.items),.g (qBN x226.marks)]) (by exact ⟨qE1 (LendL.cons ((.rowR rfl (.map fun y=>.vs rfl))) (LendL.cons ((.rowR rfl (.map fun y=>.vs rfl))) (LendL.cons (.free rfl) (LendL.cons (.free rfl) (LendL.cons (.free rfl) (LendL.cons (.free rfl) LendL.nil)))))),.free rfl,.free rfl,trivial⟩) (qKT fuel _ _ _ _ (hx233)) (qE8 (zfl (.cons (qAO (fun y=>(.cons (qAF _) .nil))) (.cons (qAF _) .nil)))) rfl rfl rfl) ?_
 iterate 5 refine AO.pu T ?_
 refine AO.n (AW.le (Le.ct 0 0 (σ':=(⟨[(1,.s (List.map ze4 more)),(5,.p 6 0),(17,.R 38),(18,.p 9 0),(19,.R 43),(20,v181),(21,.p 66 0),(22,x228.1),(23,.v (.bool x228.2)),(24,x230.1),(25,.v (.bool x230.2)),(26,.R 67),(27,.v (.bool x232.2)),(121,.R 10),(122,(([(Performance.mk x1.2.1.items (Marks.mk x1.2.1.marks.grades x1.2.1.marks.components) (Slips.mk x1.2.1.slips.falls x1.2.1.slips.seconds x1.2.1.slips.other)),(Performance.mk x1.2.2.1.items (Marks.mk x1.2.2.1.marks.grades x1.2.2.1.marks.components) (Slips.mk x1.2.2.1.slips.falls x1.2.2.1.slips.seconds x1.2.2.1.slips.other))]).length:Int)),(123,v181)],[(1,.row 4 (List.map ze3 x1.1.elements)),(2,.row 1 (List.map ze0 x1.1.limits)),(6,.box [.R 1,.R 2,x1.1.repeats,x1.1.bonus,x1.1.keeps,x1.1.fall]),(9,.box [v178,.R 40]),(10,.row 6 (List.map qGl [(Performance.mk x1.2.1.items (Marks.mk x1.2.1.marks.grades x1.2.1.marks.components) (Slips.mk x1.2.1.slips.falls x1.2.1.slips.seconds x1.2.1.slips.other)),(Performance.mk x1.2.2.1.items (Marks.mk x1.2.2.1.marks.grades x1.2.2.1.marks.components) (Slips.mk x1.2.2.1.slips.falls x1.2.2.1.slips.seconds x1.2.2.1.slips.other))])),(38,.row 2 (List.map qCV v177)),(40,.row 3 (List.map qCa v179)),(43,.row 3 (List.map ze8 v180)),(66,.box [.s (List.map ze2 x226.items),.s (List.map ze1 x226.marks.grades),.s (List.map ze1 x226.marks.components),x226.slips.falls,x226.slips.seconds,x226.slips.other]),(67,.row 1 (List.map ze0 x232.1))],399,[]⟩:St))) ?_)
 refine AW.q ?_
 obtain ⟨x234,hx235,hH⟩:=zB hH
 refine AW.r (AO.pu T (d:=.g [.R 1,.R 2,x1.1.repeats,x1.1.bonus,x1.1.keeps,x1.1.fall]) ?_)
 refine AO.pu T (d:=.g [.s (List.map ze2 x226.items),.s (List.map ze1 x226.marks.grades),.s (List.map ze1 x226.marks.components),x226.slips.falls,x226.slips.seconds,x226.slips.other]) ?_
 refine AO.x (qEi rfl 68 rfl rfl (es:=[.g (ze7 x1.1),.g (qGl x226),(100:Int)]) (by exact ⟨qE1 (LendL.cons ((.rowR rfl (.map fun y=>.vs rfl))) (LendL.cons ((.rowR rfl (.map fun y=>.vs rfl))) (LendL.cons (.free rfl) (LendL.cons (.free rfl) (LendL.cons (.free rfl) (LendL.cons (.free rfl) LendL.nil)))))),.free rfl,.free rfl,trivial⟩) (qL4 fuel _ _ _ _ (hx235)) (qE8 (zfl (.cons (qAO (fun y=>(.cons (qAF _) .nil))) (.cons (qAF _) .nil)))) rfl rfl rfl) ?_
 iterate 5 refine AO.pu T ?_
 refine AO.n (AW.q ?_)
 obtain ⟨x236,hx237,hH⟩:=zB hH
 refine AW.r (AO.pu T (d:=.g [.R 1,.R 2,x1.1.repeats,x1.1.bonus,x1.1.keeps,x1.1.fall]) ?_)
 refine AO.pu T (d:=.g [.s (List.map ze2 x226.items),.s (List.map ze1 x226.marks.grades),.s (List.map ze1 x226.marks.components),x226.slips.falls,x226.slips.seconds,x226.slips.other]) ?_
 refine AO.w (zLV rfl rfl rfl (es:=[.g (ze7 x1.1),.g (qGl x226),(100:Int)]) ⟨qE1 (LendL.cons ((.rowR rfl (.map fun y=>.vs rfl))) (LendL.cons ((.rowR rfl (.map fun y=>.vs rfl))) (LendL.cons (.free rfl) (LendL.cons (.free rfl) (LendL.cons (.free rfl) (LendL.cons (.free rfl) LendL.nil)))))),.free rfl,.free rfl,trivial⟩ (qJr fuel _ _ _ _ (hx237)) (qE8 (zfl (.cons (qAF _) (.cons (qAF _) .nil)))) rfl) ?_
 iterate 5 refine AO.pu T ?_
 refine AO.n (AW.q ?_)
 obtain ⟨x238,hx239,hH⟩:=zB hH
 refine AW.r (AO.pu T ?_)
 refine AO.pu T (d:=.g [.s (List.map ze1 x226.marks.grades),.s (List.map ze1 x226.marks.components)]) ?_
 refine AO.w (cVs (qLe _ _ (hx239))) ?_
 iterate 5 refine AO.pu T ?_
 refine AO.n (AW.le (Le.ct 0 0 (σ':=(⟨[(1,.s (List.map ze4 more)),(5,.p 6 0),(17,.R 38),(18,.p 9 0),(19,.R 43),(20,v181),(21,.p 66 0),(22,x228.1),(23,.v (.bool x228.2)),(24,x230.1),(25,.v (.bool x230.2)),(26,.R 67),(27,.v (.bool x232.2)),(28,.R 68),(29,.v (.bool x234.2)),(30,x236.1),(31,.v (.bool x236.2)),(32,x238.1),(33,.v (.bool x238.2)),(121,.R 10),(122,(([(Performance.mk x1.2.1.items (Marks.mk x1.2.1.marks.grades x1.2.1.marks.components) (Slips.mk x1.2.1.slips.falls x1.2.1.slips.seconds x1.2.1.slips.other)),(Performance.mk x1.2.2.1.items (Marks.mk x1.2.2.1.marks.grades x1.2.2.1.marks.components) (Slips.mk x1.2.2.1.slips.falls x1.2.2.1.slips.seconds x1.2.2.1.slips.other))]).length:Int)),(123,v181)],[(1,.row 4 (List.map ze3 x1.1.elements)),(2,.row 1 (List.map ze0 x1.1.limits)),(6,.box [.R 1,.R 2,x1.1.repeats,x1.1.bonus,x1.1.keeps,x1.1.fall]),(9,.box [v178,.R 40]),(10,.row 6 (List.map qGl [(Performance.mk x1.2.1.items (Marks.mk x1.2.1.marks.grades x1.2.1.marks.components) (Slips.mk x1.2.1.slips.falls x1.2.1.slips.seconds x1.2.1.slips.other)),(Performance.mk x1.2.2.1.items (Marks.mk x1.2.2.1.marks.grades x1.2.2.1.marks.components) (Slips.mk x1.2.2.1.slips.falls x1.2.2.1.slips.seconds x1.2.2.1.slips.other))])),(38,.row 2 (List.map qCV v177)),(40,.row 3 (List.map qCa v179)),(43,.row 3 (List.map ze8 v180)),(66,.box [.s (List.map ze2 x226.items),.s (List.map ze1 x226.marks.grades),.s (List.map ze1 x226.marks.components),x226.slips.falls,x226.slips.seconds,x226.slips.other]),(67,.row 1 (List.map ze0 x232.1)),(68,.row 1 (List.map ze0 x234.1))],399,[]⟩:St))) ?_)
 refine AW.q (AW.q ?_)
 obtain ⟨x240,hx241,hH⟩:=zB hH
 obtain ⟨x242,hx243,hH⟩:=zB hH
 obtain ⟨x244,hx245,hH⟩:=zB hH
 refine AW.drawn 37 69 [] mix (by kernel_rfl) rfl ?_
 iterate 3 refine AD.pu T ?_
 refine AD.pureG T [] rfl trivial rfl rfl ?_
 refine AD.pureG T [170] rfl ⟨fun h=>h,trivial⟩ rfl rfl ?_
 refine AD.vv ors ?_
 refine AD.pu T ?_
 iterate 2 refine AD.pureG T [] rfl trivial rfl rfl ?_
 refine AD.pureG T [174,175] rfl ⟨fun h=>h,fun h=>h,trivial⟩ rfl rfl ?_
 refine AD.vv ors ?_
 refine AD.pu T ?_
 refine AD.pureG T [] rfl trivial rfl rfl ?_
 refine AD.pureG T [179] rfl ⟨fun h=>h,trivial⟩ rfl rfl ?_
 refine AD.vv ors ?_
 refine AD.pu T ?_
 refine AD.pureG T [] rfl trivial rfl rfl ?_
 refine AD.pureG T [183] rfl ⟨fun h=>h,trivial⟩ rfl rfl ?_
 refine AD.vv ors ?_
 refine AD.pu T ?_
 refine AD.pureG T [] rfl trivial rfl rfl ?_
 refine AD.guard [187] rfl ⟨fun h=>h,trivial⟩ (fun hg=>qJZ T rfl rfl rfl rfl) rfl ?_
 refine AD.pureG T [188] rfl ⟨fun h=>h,trivial⟩ rfl rfl ?_
 refine AD.vv ors ?_
 refine AD.pu T ?_
 refine AD.pureG T [] rfl trivial rfl rfl ?_
 refine AD.guard [192] rfl ⟨fun h=>h,trivial⟩ (fun hg=>zXr T rfl rfl rfl rfl rfl rfl (qEA hx241 hg)) rfl ?_
 refine AD.guard [193] rfl ⟨fun h=>h,trivial⟩ (fun hg=>zLr T rfl rfl rfl rfl (zgG (qEA hx241 hg)) rfl rfl rfl) rfl ?_
 refine AD.pureG T [] rfl trivial rfl rfl ?_
 refine AD.guard [195] rfl ⟨fun h=>h,trivial⟩ (fun hg=>zLV rfl rfl rfl (es:=[.s (List.map ze0 x232.1)]) ⟨(.rowR rfl (.map fun y=>.vs rfl)),trivial⟩ (qOx _ _ (qEA hx243 hg)) (qAF _) rfl) rfl ?_
 refine AD.pureG T [194,196] rfl ⟨fun h=>h,fun h=>h,trivial⟩ rfl rfl ?_
 refine AD.vv ors ?_
 refine AD.pu T ?_
 refine AD.pureG T [] rfl trivial rfl rfl ?_
 refine AD.guard [200] rfl ⟨fun h=>h,trivial⟩ (fun hg=>zXr T rfl rfl rfl rfl rfl rfl (qEA hx245 hg)) rfl ?_
 refine AD.guard [201] rfl ⟨fun h=>h,trivial⟩ (fun hg=>zLr T rfl rfl rfl rfl (zgG (qEA hx245 hg)) rfl rfl rfl) rfl ?_
 refine AD.pureG T [] rfl trivial rfl rfl ?_
 refine AD.nil (AO.g T [202,203] rfl ⟨fun h=>h,fun h=>h,trivial⟩ rfl rfl ?_)
 refine AO.w ors ?_
 refine AO.pu T ?_
 refine AO.g T [] rfl trivial rfl rfl ?_
 refine AO.g T [207] rfl ⟨fun h=>h,trivial⟩ rfl rfl ?_
 refine AO.w ors ?_
 refine AO.pu T ?_
 refine AO.g T [] rfl trivial rfl rfl ?_
 refine AO.g T [211] rfl ⟨fun h=>h,trivial⟩ rfl rfl ?_
 refine AO.w ors ?_
 refine AO.n (AW.le (Le.ct 0 0 (σ':=(⟨[(1,.s (List.map ze4 more)),(5,.p 6 0),(17,.R 38),(18,.p 9 0),(19,.R 43),(20,v181),(21,.p 66 0),(22,x228.1),(24,x230.1),(30,x236.1),(32,x238.1),(121,.R 10),(122,(([(Performance.mk x1.2.1.items (Marks.mk x1.2.1.marks.grades x1.2.1.marks.components) (Slips.mk x1.2.1.slips.falls x1.2.1.slips.seconds x1.2.1.slips.other)),(Performance.mk x1.2.2.1.items (Marks.mk x1.2.2.1.marks.grades x1.2.2.1.marks.components) (Slips.mk x1.2.2.1.slips.falls x1.2.2.1.slips.seconds x1.2.2.1.slips.other))]).length:Int)),(123,v181),(213,.v (.bool ((((((((((!x228.2) || (!x230.2)) || (x228.1 != x230.1)) || (!x232.2)) || (!x234.2)) || ((x234.1.length:Int) != 4)) || (x240 != x242)) || (x244 != x228.1)) || (!x236.2)) || (!x238.2))))],[(1,.row 4 (List.map ze3 x1.1.elements)),(2,.row 1 (List.map ze0 x1.1.limits)),(6,.box [.R 1,.R 2,x1.1.repeats,x1.1.bonus,x1.1.keeps,x1.1.fall]),(9,.box [v178,.R 40]),(10,.row 6 (List.map qGl [(Performance.mk x1.2.1.items (Marks.mk x1.2.1.marks.grades x1.2.1.marks.components) (Slips.mk x1.2.1.slips.falls x1.2.1.slips.seconds x1.2.1.slips.other)),(Performance.mk x1.2.2.1.items (Marks.mk x1.2.2.1.marks.grades x1.2.2.1.marks.components) (Slips.mk x1.2.2.1.slips.falls x1.2.2.1.slips.seconds x1.2.2.1.slips.other))])),(38,.row 2 (List.map qCV v177)),(40,.row 3 (List.map qCa v179)),(43,.row 3 (List.map ze8 v180)),(66,.box [.s (List.map ze2 x226.items),.s (List.map ze1 x226.marks.grades),.s (List.map ze1 x226.marks.components),x226.slips.falls,x226.slips.seconds,x226.slips.other])],399,[]⟩:St))) ?_)
 refine AW.c (b:=((((((((((!x228.2) || (!x230.2)) || (x228.1 != x230.1)) || (!x232.2)) || (!x234.2)) || ((x234.1.length:Int) != 4)) || (x240 != x242)) || (x244 != x228.1)) || (!x236.2)) || (!x238.2))) rfl (fun hc=>?_) (fun hc=>?_)
 replace hH:=condT hc hH
 refine AW.q (AW.r (AO.pu T ?_))
 refine AO.n (AW.t ?_)
 obtain rfl:=zS hH
 replace hH:=hK225
 have hR:=zS hH;subst hR
 exact retQ.i [] rfl (.c (.c .v))
 replace hH:=condF hc hH
 refine AW.k (AW.q (AW.q ?_))
 refine AW.r (AO.pu T ?_)
 refine AO.n (AW.b ?_)
 refine AW.loopS (fun s:Nat × Int=>(⟨[(1,.s (List.map ze4 more)),(5,.p 6 0),(17,.R 38),(18,.p 9 0),(19,.R 43),(20,v181),(21,.p 66 0),(22,x228.1),(24,x230.1),(30,x236.1),(32,x238.1),(34,s.2),(121,.R 10),(122,(([(Performance.mk x1.2.1.items (Marks.mk x1.2.1.marks.grades x1.2.1.marks.components) (Slips.mk x1.2.1.slips.falls x1.2.1.slips.seconds x1.2.1.slips.other)),(Performance.mk x1.2.2.1.items (Marks.mk x1.2.2.1.marks.grades x1.2.2.1.marks.components) (Slips.mk x1.2.2.1.slips.falls x1.2.2.1.slips.seconds x1.2.2.1.slips.other))]).length:Int)),(123,v181)],[(1,.row 4 (List.map ze3 x1.1.elements)),(2,.row 1 (List.map ze0 x1.1.limits)),(6,.box [.R 1,.R 2,x1.1.repeats,x1.1.bonus,x1.1.keeps,x1.1.fall]),(9,.box [v178,.R 40]),(10,.row 6 (List.map qGl [(Performance.mk x1.2.1.items (Marks.mk x1.2.1.marks.grades x1.2.1.marks.components) (Slips.mk x1.2.1.slips.falls x1.2.1.slips.seconds x1.2.1.slips.other)),(Performance.mk x1.2.2.1.items (Marks.mk x1.2.2.1.marks.grades x1.2.2.1.marks.components) (Slips.mk x1.2.2.1.slips.falls x1.2.2.1.slips.seconds x1.2.2.1.slips.other))])),(38,.row 2 (List.map qCV v177)),(40,.row 3 (List.map qCa v179)),(43,.row 3 (List.map ze8 v180)),(66,.box [.s (List.map ze2 x226.items),.s (List.map ze1 x226.marks.grades),.s (List.map ze1 x226.marks.components),x226.slips.falls,x226.slips.seconds,x226.slips.other])],399,[]⟩:St)) (fun s=>qB6 more fuel x1 v177 v178 v179 v180 v181 x226 x228 x230 x236 x238 s.1 s.2=some o224) (fun s=>s.1) (fuel,0) hH ?_ ?_
 exact Le.ct 0 0
 rintro ⟨k246,v252⟩ hH
 replace hH:qB6 more fuel x1 v177 v178 v179 v180 v181 x226 x228 x230 x236 x238 k246 v252=some o224:=hH
 try dsimp only
 rcases k246 with _ | k246
 cases (show none=some _ from hH)
 rw [qB6] at hH
 refine AW.q (AW.q (AW.r ?_))
 iterate 3 refine AO.pu T ?_
 refine AO.n (AW.c (b:=decide (v252 < x238.1)) rfl (fun hc=>?_) (fun hc=>?_))
 replace hH:=condT hc hH
 refine AW.k (AW.q ?_)
 refine AW.b (AW.q ?_)
 obtain ⟨x254,hx255,hH⟩:=zB hH
 refine AW.r (AO.pu T (d:=.g [.R 1,.R 2,x1.1.repeats,x1.1.bonus,x1.1.keeps,x1.1.fall]) ?_)
 refine AO.pu T (d:=.g [.s (List.map ze2 x226.items),.s (List.map ze1 x226.marks.grades),.s (List.map ze1 x226.marks.components),x226.slips.falls,x226.slips.seconds,x226.slips.other]) ?_
 refine AO.pu T ?_
 refine AO.w (zLV rfl rfl rfl (es:=[.g (ze7 x1.1),.g (qGl x226),(100:Int),v252]) ⟨qE1 (LendL.cons ((.rowR rfl (.map fun y=>.vs rfl))) (LendL.cons ((.rowR rfl (.map fun y=>.vs rfl))) (LendL.cons (.free rfl) (LendL.cons (.free rfl) (LendL.cons (.free rfl) (LendL.cons (.free rfl) LendL.nil)))))),.free rfl,.free rfl,.free rfl,trivial⟩ (qJj fuel _ _ _ _ _ (hx255)) (qE8 (zfl (.cons (qAF _) (.cons (qAF _) (.cons (qAF _) .nil))))) rfl) ?_
 iterate 7 refine AO.pu T ?_
 refine AO.n (AW.q (AW.r ?_))
 iterate 3 refine AO.pu T ?_
 iterate 2 refine AO.g T [] rfl trivial rfl rfl ?_
 refine AO.g T [230,231] rfl ⟨fun h=>h,fun h=>h,trivial⟩ rfl rfl ?_
 refine AO.w ors ?_
 refine AO.pu T ?_
 iterate 2 refine AO.g T [] rfl trivial rfl rfl ?_
 refine AO.g T [235,236] rfl ⟨fun h=>h,fun h=>h,trivial⟩ rfl rfl ?_
 refine AO.w ors ?_
 refine AO.pu T ?_
 iterate 2 refine AO.g T [] rfl trivial rfl rfl ?_
 refine AO.d [240,241] rfl ⟨fun h=>h,fun h=>h,trivial⟩ (fun hg=>zW rfl rfl rfl rfl) rfl ?_
 refine AO.g T [] rfl trivial rfl rfl ?_
 refine AO.g T [242,243] rfl ⟨fun h=>h,fun h=>h,trivial⟩ rfl rfl ?_
 refine AO.w ors ?_
 refine AO.n (AW.le (Le.ct 0 0 (σ':=(⟨[(1,.s (List.map ze4 more)),(5,.p 6 0),(17,.R 38),(18,.p 9 0),(19,.R 43),(20,v181),(21,.p 66 0),(22,x228.1),(24,x230.1),(30,x236.1),(32,x238.1),(34,v252),(121,.R 10),(122,(([(Performance.mk x1.2.1.items (Marks.mk x1.2.1.marks.grades x1.2.1.marks.components) (Slips.mk x1.2.1.slips.falls x1.2.1.slips.seconds x1.2.1.slips.other)),(Performance.mk x1.2.2.1.items (Marks.mk x1.2.2.1.marks.grades x1.2.2.1.marks.components) (Slips.mk x1.2.2.1.slips.falls x1.2.2.1.slips.seconds x1.2.2.1.slips.other))]).length:Int)),(123,v181),(245,.v (.bool ((((!x254.2.2) || decide (x228.1 < x254.1)) || decide (x228.1 > x254.2.1)) || decide ((w64 (x254.2.1 - x254.1)) > x236.1))))],[(1,.row 4 (List.map ze3 x1.1.elements)),(2,.row 1 (List.map ze0 x1.1.limits)),(6,.box [.R 1,.R 2,x1.1.repeats,x1.1.bonus,x1.1.keeps,x1.1.fall]),(9,.box [v178,.R 40]),(10,.row 6 (List.map qGl [(Performance.mk x1.2.1.items (Marks.mk x1.2.1.marks.grades x1.2.1.marks.components) (Slips.mk x1.2.1.slips.falls x1.2.1.slips.seconds x1.2.1.slips.other)),(Performance.mk x1.2.2.1.items (Marks.mk x1.2.2.1.marks.grades x1.2.2.1.marks.components) (Slips.mk x1.2.2.1.slips.falls x1.2.2.1.slips.seconds x1.2.2.1.slips.other))])),(38,.row 2 (List.map qCV v177)),(40,.row 3 (List.map qCa v179)),(43,.row 3 (List.map ze8 v180)),(66,.box [.s (List.map ze2 x226.items),.s (List.map ze1 x226.marks.grades),.s (List.map ze1 x226.marks.components),x226.slips.falls,x226.slips.seconds,x226.slips.other])],399,[]⟩:St))) ?_)
 refine AW.c (b:=((((!x254.2.2) || decide (x228.1 < x254.1)) || decide (x228.1 > x254.2.1)) || decide ((w64 (x254.2.1 - x254.1)) > x236.1))) rfl (fun hc=>?_) (fun hc=>?_)
 replace hH:=condT hc hH
 refine AW.q (AW.r (AO.pu T ?_))
 refine AO.n (AW.t ?_)
 obtain rfl:=zS hH
 replace hH:=hK225
 have hR:=zS hH;subst hR
 exact retQ.i [] rfl (.c (.c .v))
 replace hH:=condF hc hH
 refine AW.k (AW.r ?_)
 refine AO.pu T ?_
 refine AO.w aws ?_
 refine AO.pu T ?_
 refine AO.n ?_
 refine ⟨(k246,w64 (v252+1)),hH,Nat.lt_succ_self _,?_⟩
 exact Le.ct 0 0
 replace hH:=condF hc hH
 refine AW.exit (AW.q (AW.q ?_))
 refine AW.r (AO.p2 T ?_)
 refine AO.n (AW.c (b:=decide (x230.1 > 100000)) rfl (fun hc=>?_) (fun hc=>?_))
 replace hH:=condT hc hH
 refine AW.q (AW.r (AO.pu T ?_))
 refine AO.n (AW.t ?_)
 obtain rfl:=zS hH
 replace hH:=hK225
 have hR:=zS hH;subst hR
 exact retQ.i [] rfl (.c (.c .v))
 replace hH:=condF hc hH
 refine AW.k (AW.q ?_)
 obtain ⟨u256,hx257,hH⟩:=zB hH
 refine AW.r (AO.p2 T ?_)
 iterate 2 refine AO.w aws ?_
 refine AO.pu T ?_
 refine AO.x (mks T 69 ze0 ([x230.1])) ?_
 refine AO.pu T (d:=.g [w64 (7 - (w64 (3 * v181))),.R 69]) ?_
 refine AO.x (qJD T rfl 70 rfl rfl rfl rfl rfl rfl (f:=qCV) (l:=[(Result.mk (w64 (7 - (w64 (3 * v181)))) [x230.1])]) (ids:=[69]) rfl rfl (fun _=>rfl) (by exact zC .v (zC (.rowR rfl) (zCn))) (by decide) rfl rfl rfl rfl rfl) ?_
 refine AO.x (qEP T rfl 71 rfl rfl rfl rfl rfl (by decide) rfl rfl rfl rfl rfl (qA4 (hx257)) rfl rfl) ?_
 refine AO.pu T ?_
 refine AO.n (AW.q ?_)
 obtain ⟨u258,hx259,hH⟩:=zB hH
 refine AW.r (AO.pu T ?_)
 refine AO.w (qCC T) ?_
 refine AO.w (qLP rfl rfl rfl (neZ (qA4 (hx259)))) ?_
 refine AO.w aws ?_
 refine AO.pu T ?_
 iterate 2 refine AO.w aws ?_
 refine AO.pu T ?_
 refine AO.pu T (d:=.g [w64 (1+((more.length:Int).tmod 9)),w64 (7 - (w64 (3 * v181))),x230.1]) ?_
 refine AO.x (als T 72) ?_
 refine AO.se T [w64 (1+((more.length:Int).tmod 9)),w64 (7 - (w64 (3 * v181))),x230.1] ?_
 refine AO.n (AW.le (Le.ct 0 0 (σ':=(⟨[(1,.s (List.map ze4 more)),(5,.p 6 0),(17,.R 71),(18,.p 9 0),(19,.R 43),(38,.p 72 0),(121,.R 10),(122,(([(Performance.mk x1.2.1.items (Marks.mk x1.2.1.marks.grades x1.2.1.marks.components) (Slips.mk x1.2.1.slips.falls x1.2.1.slips.seconds x1.2.1.slips.other)),(Performance.mk x1.2.2.1.items (Marks.mk x1.2.2.1.marks.grades x1.2.2.1.marks.components) (Slips.mk x1.2.2.1.slips.falls x1.2.2.1.slips.seconds x1.2.2.1.slips.other))]).length:Int)),(123,v181)],[(1,.row 4 (List.map ze3 x1.1.elements)),(2,.row 1 (List.map ze0 x1.1.limits)),(6,.box [.R 1,.R 2,x1.1.repeats,x1.1.bonus,x1.1.keeps,x1.1.fall]),(9,.box [v178,.R 40]),(10,.row 6 (List.map qGl [(Performance.mk x1.2.1.items (Marks.mk x1.2.1.marks.grades x1.2.1.marks.components) (Slips.mk x1.2.1.slips.falls x1.2.1.slips.seconds x1.2.1.slips.other)),(Performance.mk x1.2.2.1.items (Marks.mk x1.2.2.1.marks.grades x1.2.2.1.marks.components) (Slips.mk x1.2.2.1.slips.falls x1.2.2.1.slips.seconds x1.2.2.1.slips.other))])),(40,.row 3 (List.map qCa v179)),(43,.row 3 (List.map ze8 v180)),(71,.row 2 (List.map qCV (v177++[(Result.mk (w64 (7 - (w64 (3 * v181)))) [x230.1])]))),(72,.box [w64 (1+((more.length:Int).tmod 9)),w64 (7 - (w64 (3 * v181))),x230.1])],399,[]⟩:St))) ?_)
 refine AW.q ?_
 obtain ⟨x260,hx261,hH⟩:=zB hH
 refine AW.r (AO.pu T (d:=.g [v178,.R 40]) ?_)
 refine AO.pu T (d:=.g [w64 (1+((more.length:Int).tmod 9)),w64 (7 - (w64 (3 * v181))),x230.1]) ?_
 refine AO.x (qEi rfl 73 rfl rfl (es:=[.g (qEd (Season.mk v178 v179)),.g (ze8 (Entry.mk (w64 (1+((more.length:Int).tmod 9))) (w64 (7 - (w64 (3 * v181)))) x230.1))]) (by exact ⟨qE1 (LendL.cons (.free rfl) (LendL.cons ((.rowR rfl (.map fun y=>qMn y))) LendL.nil)),.free rfl,trivial⟩) (qLk fuel _ _ _ (hx261)) (qE8 (zfl (.cons (qPN (zfl (.cons (qAF _) (.cons (qAO (fun y=>(.cons (qAF _) (.cons (qAO (fun y=>(.cons (qAF _) .nil))) (.cons (qAO (fun y=>(.cons (qAF _) .nil))) .nil))))) .nil)))) (.cons (qAF _) .nil)))) rfl rfl rfl) ?_
 refine AO.pu T ?_
 refine AO.pu T (d:=.g [x260.1.best,.R 73]) ?_
 refine AO.pu T ?_
 refine AO.x (als T 74) ?_
 refine AO.se T [x260.1.best,.R 73] ?_
 refine AO.pu T ?_
 refine AO.n (AW.q (AW.q ?_))
 refine AW.r (AO.p2 T ?_)
 refine AO.n (AW.c (b:=(!x260.2)) rfl (fun hc=>?_) (fun hc=>?_))
 replace hH:=condT hc hH
 refine AW.q (AW.r (AO.pu T ?_))
 refine AO.n (AW.t ?_)
 obtain rfl:=zS hH
 replace hH:=hK225
 have hR:=zS hH;subst hR
 exact retQ.i [] rfl (.c (.c .v))
 replace hH:=condF hc hH
 refine AW.k (AW.q (AW.r ?_))
 refine AO.pu T (d:=.g [x260.1.best,.R 73]) ?_
 refine AO.se T [x260.1.best,.R 73] ?_
 refine AO.n ?_
 obtain ⟨u262,hx263,hH⟩:=zB hH
 refine AW.r (AO.pu T ?_)
 refine AO.pu T (d:=.g [w64 (1+((more.length:Int).tmod 9)),w64 (7 - (w64 (3 * v181))),x230.1]) ?_
 refine AO.x (mks T 75 ze8 ([(Entry.mk (w64 (1+((more.length:Int).tmod 9))) (w64 (7 - (w64 (3 * v181)))) x230.1)])) ?_
 refine AO.x (rvs T 76 (hfit:=by exact qA4 (hx263))) ?_
 refine AO.pu T ?_
 refine AO.n ?_
 refine ⟨_,zS hH,?_⟩
 refine Le.trans (Le.ct 71 60 (σ':=(⟨[(1,.s (List.map ze4 more)),(5,.p 6 0),(17,.R 60),(18,.p 9 0),(19,.R 76),(121,.R 10),(122,(([(Performance.mk x1.2.1.items (Marks.mk x1.2.1.marks.grades x1.2.1.marks.components) (Slips.mk x1.2.1.slips.falls x1.2.1.slips.seconds x1.2.1.slips.other)),(Performance.mk x1.2.2.1.items (Marks.mk x1.2.2.1.marks.grades x1.2.2.1.marks.components) (Slips.mk x1.2.2.1.slips.falls x1.2.2.1.slips.seconds x1.2.2.1.slips.other))]).length:Int)),(123,v181)],[(1,.row 4 (List.map ze3 x1.1.elements)),(2,.row 1 (List.map ze0 x1.1.limits)),(6,.box [.R 1,.R 2,x1.1.repeats,x1.1.bonus,x1.1.keeps,x1.1.fall]),(9,.box [x260.1.best,.R 73]),(10,.row 6 (List.map qGl [(Performance.mk x1.2.1.items (Marks.mk x1.2.1.marks.grades x1.2.1.marks.components) (Slips.mk x1.2.1.slips.falls x1.2.1.slips.seconds x1.2.1.slips.other)),(Performance.mk x1.2.2.1.items (Marks.mk x1.2.2.1.marks.grades x1.2.2.1.marks.components) (Slips.mk x1.2.2.1.slips.falls x1.2.2.1.slips.seconds x1.2.2.1.slips.other))])),(60,.row 2 (List.map qCV (v177++[(Result.mk (w64 (7 - (w64 (3 * v181)))) [x230.1])]))),(73,.row 3 (List.map qCa x260.1.lines)),(76,.row 3 (List.map ze8 (v180++[(Entry.mk (w64 (1+((more.length:Int).tmod 9))) (w64 (7 - (w64 (3 * v181)))) x230.1)])))],399,[]⟩:St))) ?_
 refine Le.trans (Le.ct 76 65 (σ':=(⟨[(1,.s (List.map ze4 more)),(5,.p 6 0),(17,.R 60),(18,.p 9 0),(19,.R 65),(121,.R 10),(122,(([(Performance.mk x1.2.1.items (Marks.mk x1.2.1.marks.grades x1.2.1.marks.components) (Slips.mk x1.2.1.slips.falls x1.2.1.slips.seconds x1.2.1.slips.other)),(Performance.mk x1.2.2.1.items (Marks.mk x1.2.2.1.marks.grades x1.2.2.1.marks.components) (Slips.mk x1.2.2.1.slips.falls x1.2.2.1.slips.seconds x1.2.2.1.slips.other))]).length:Int)),(123,v181)],[(1,.row 4 (List.map ze3 x1.1.elements)),(2,.row 1 (List.map ze0 x1.1.limits)),(6,.box [.R 1,.R 2,x1.1.repeats,x1.1.bonus,x1.1.keeps,x1.1.fall]),(9,.box [x260.1.best,.R 73]),(10,.row 6 (List.map qGl [(Performance.mk x1.2.1.items (Marks.mk x1.2.1.marks.grades x1.2.1.marks.components) (Slips.mk x1.2.1.slips.falls x1.2.1.slips.seconds x1.2.1.slips.other)),(Performance.mk x1.2.2.1.items (Marks.mk x1.2.2.1.marks.grades x1.2.2.1.marks.components) (Slips.mk x1.2.2.1.slips.falls x1.2.2.1.slips.seconds x1.2.2.1.slips.other))])),(60,.row 2 (List.map qCV (v177++[(Result.mk (w64 (7 - (w64 (3 * v181)))) [x230.1])]))),(65,.row 3 (List.map ze8 (v180++[(Entry.mk (w64 (1+((more.length:Int).tmod 9))) (w64 (7 - (w64 (3 * v181)))) x230.1)]))),(73,.row 3 (List.map qCa x260.1.lines))],399,[]⟩:St))) ?_
 exact Le.ct 73 62
 rintro ⟨v220,v221,v222,v223⟩ hs
 subst hs
 replace hH:=hK225
 try dsimp only [qKp,qID] at hH
 try dsimp only
 refine AW.r (AO.w aws ?_)
 refine AO.pu T ?_
 refine AO.n ?_
 refine ⟨(k11,v220,v221,v222,v223,w64 (v181+1)),hH,Nat.lt_succ_self _,?_⟩
 refine Le.trans (Le.ct 60 38 (σ':=(⟨[(1,.s (List.map ze4 more)),(5,.p 6 0),(17,.R 38),(18,.p 9 0),(19,.R 65),(121,.R 10),(122,(([(Performance.mk x1.2.1.items (Marks.mk x1.2.1.marks.grades x1.2.1.marks.components) (Slips.mk x1.2.1.slips.falls x1.2.1.slips.seconds x1.2.1.slips.other)),(Performance.mk x1.2.2.1.items (Marks.mk x1.2.2.1.marks.grades x1.2.2.1.marks.components) (Slips.mk x1.2.2.1.slips.falls x1.2.2.1.slips.seconds x1.2.2.1.slips.other))]).length:Int)),(123,w64 (v181+1))],[(1,.row 4 (List.map ze3 x1.1.elements)),(2,.row 1 (List.map ze0 x1.1.limits)),(6,.box [.R 1,.R 2,x1.1.repeats,x1.1.bonus,x1.1.keeps,x1.1.fall]),(9,.box [v221,.R 62]),(10,.row 6 (List.map qGl [(Performance.mk x1.2.1.items (Marks.mk x1.2.1.marks.grades x1.2.1.marks.components) (Slips.mk x1.2.1.slips.falls x1.2.1.slips.seconds x1.2.1.slips.other)),(Performance.mk x1.2.2.1.items (Marks.mk x1.2.2.1.marks.grades x1.2.2.1.marks.components) (Slips.mk x1.2.2.1.slips.falls x1.2.2.1.slips.seconds x1.2.2.1.slips.other))])),(38,.row 2 (List.map qCV v220)),(62,.row 3 (List.map qCa v222)),(65,.row 3 (List.map ze8 v223))],399,[]⟩:St))) ?_
 refine Le.trans (Le.ct 65 43 (σ':=(⟨[(1,.s (List.map ze4 more)),(5,.p 6 0),(17,.R 38),(18,.p 9 0),(19,.R 43),(121,.R 10),(122,(([(Performance.mk x1.2.1.items (Marks.mk x1.2.1.marks.grades x1.2.1.marks.components) (Slips.mk x1.2.1.slips.falls x1.2.1.slips.seconds x1.2.1.slips.other)),(Performance.mk x1.2.2.1.items (Marks.mk x1.2.2.1.marks.grades x1.2.2.1.marks.components) (Slips.mk x1.2.2.1.slips.falls x1.2.2.1.slips.seconds x1.2.2.1.slips.other))]).length:Int)),(123,w64 (v181+1))],[(1,.row 4 (List.map ze3 x1.1.elements)),(2,.row 1 (List.map ze0 x1.1.limits)),(6,.box [.R 1,.R 2,x1.1.repeats,x1.1.bonus,x1.1.keeps,x1.1.fall]),(9,.box [v221,.R 62]),(10,.row 6 (List.map qGl [(Performance.mk x1.2.1.items (Marks.mk x1.2.1.marks.grades x1.2.1.marks.components) (Slips.mk x1.2.1.slips.falls x1.2.1.slips.seconds x1.2.1.slips.other)),(Performance.mk x1.2.2.1.items (Marks.mk x1.2.2.1.marks.grades x1.2.2.1.marks.components) (Slips.mk x1.2.2.1.slips.falls x1.2.2.1.slips.seconds x1.2.2.1.slips.other))])),(38,.row 2 (List.map qCV v220)),(43,.row 3 (List.map ze8 v223)),(62,.row 3 (List.map qCa v222))],399,[]⟩:St))) ?_
 exact Le.ct 62 40
 replace hH:=condF hc hH
 refine AW.exit (AW.q ?_)
 obtain ⟨x264,hx265,hH⟩:=zB hH
 refine AW.r (AO.pu T ?_)
 refine AO.x (qEi rfl 77 rfl rfl (es:=[.s (List.map qHf v177)]) (by exact ⟨(.rowR rfl (.map fun y=>qKQ y)),trivial⟩) (qIQ fuel _ _ (hx265)) (qE8 (zfl (.cons (qAO (fun y=>(.cons (qAF _) .nil))) (.cons (qAF _) .nil)))) rfl rfl rfl) ?_
 iterate 5 refine AO.pu T ?_
 refine AO.n (AW.q ?_)
 obtain ⟨x266,hx267,hH⟩:=zB hH
 refine AW.r (AO.pu T ?_)
 refine AO.x (qEi rfl 78 rfl rfl (es:=[.s (List.map qHf v177)]) (by exact ⟨(.rowR rfl (.map fun y=>qKQ y)),trivial⟩) (qIh fuel _ _ (hx267)) (qE8 (zfl (.cons (qAO (fun y=>(.cons (qAF _) .nil))) (.cons (qAF _) .nil)))) rfl rfl rfl) ?_
 iterate 5 refine AO.pu T ?_
 refine AO.n (AW.q ?_)
 obtain ⟨x268,hx269,hH⟩:=zB hH
 refine AW.r (AO.pu T ?_)
 refine AO.x (qEi rfl 79 rfl rfl (es:=[.s (List.map qHf v177)]) (by exact ⟨(.rowR rfl (.map fun y=>qKQ y)),trivial⟩) (qIz fuel _ _ (hx269)) (qE8 (zfl (.cons (qAO (fun y=>(.cons (qAF _) .nil))) (.cons (qAF _) .nil)))) rfl rfl rfl) ?_
 iterate 5 refine AO.pu T ?_
 refine AO.n (AW.q ?_)
 obtain ⟨x270,hx271,hH⟩:=zB hH
 refine AW.r (AO.pu T ?_)
 refine AO.x (qEi rfl 80 rfl rfl (es:=[(1:Int),.s (List.map ze8 v180)]) (by exact ⟨.free rfl,(.rowR rfl (.map fun y=>.vs rfl)),trivial⟩) (qKH _ _ _ (hx271)) (qE8 (zfl (.cons (qPN (zfl (.cons (qAF _) (.cons (qAO (fun y=>(.cons (qAF _) (.cons (qAO (fun y=>(.cons (qAF _) .nil))) (.cons (qAO (fun y=>(.cons (qAF _) .nil))) .nil))))) .nil)))) (.cons (qAF _) .nil)))) rfl rfl rfl) ?_
 refine AO.pu T ?_
 refine AO.pu T (d:=.g [x270.1.best,.R 80]) ?_
 refine AO.pu T ?_
 refine AO.x (als T 81) ?_
 refine AO.se T [x270.1.best,.R 80] ?_
 refine AO.pu T ?_
 refine AO.n (AW.le (Le.ct 0 0 (σ':=(⟨[(17,.R 38),(18,.p 9 0),(41,.R 77),(42,.v (.bool x264.2)),(43,.R 78),(44,.v (.bool x266.2)),(45,.R 79),(46,.v (.bool x268.2)),(47,.p 81 0),(48,.v (.bool x270.2))],[(9,.box [v178,.R 40]),(38,.row 2 (List.map qCV v177)),(40,.row 3 (List.map qCa v179)),(77,.row 1 (List.map ze0 x264.1)),(78,.row 1 (List.map ze0 x266.1)),(79,.row 1 (List.map ze0 x268.1)),(80,.row 3 (List.map qCa x270.1.lines)),(81,.box [x270.1.best,.R 80])],399,[]⟩:St))) ?_)
 refine AW.q ?_
 obtain ⟨x272,hx273,hH⟩:=zB hH
 refine AW.r (AO.pu T (d:=.g [v178,.R 40]) ?_)
 refine AO.x (qEi rfl 82 rfl rfl (es:=[.g (qEd (Season.mk v178 v179))]) (by exact ⟨qE1 (LendL.cons (.free rfl) (LendL.cons ((.rowR rfl (.map fun y=>qMn y))) LendL.nil)),trivial⟩) (qLg fuel _ _ (hx273)) (qE8 (zfl (.cons (qAO (fun y=>(.cons (qAF _) .nil))) (.cons (qAF _) .nil)))) rfl rfl rfl) ?_
 iterate 5 refine AO.pu T ?_
 refine AO.n (AW.q (AW.q ?_))
 obtain ⟨x274,hx275,hH⟩:=zB hH
 obtain ⟨x276,hx277,hH⟩:=zB hH
 refine AW.r ?_
 iterate 3 refine AO.pu T ?_
 refine AO.g T [] rfl trivial rfl rfl ?_
 refine AO.g T [308] rfl ⟨fun h=>h,trivial⟩ rfl rfl ?_
 refine AO.w ors ?_
 refine AO.pu T ?_
 iterate 2 refine AO.g T [] rfl trivial rfl rfl ?_
 refine AO.d [312,313] rfl ⟨fun h=>h,fun h=>h,trivial⟩ (fun hg=>zLV rfl rfl rfl (es:=[.s (List.map ze0 x264.1),.s (List.map ze0 x266.1)]) ⟨(.rowR rfl (.map fun y=>.vs rfl)),(.rowR rfl (.map fun y=>.vs rfl)),trivial⟩ (qIL _ _ _ (qEA hx275 hg)) (qAF _) rfl) rfl ?_
 refine AO.g T [314] rfl ⟨fun h=>h,trivial⟩ rfl rfl ?_
 refine AO.w ors ?_
 refine AO.pu T ?_
 refine AO.g T [] rfl trivial rfl rfl ?_
 refine AO.g T [318] rfl ⟨fun h=>h,trivial⟩ rfl rfl ?_
 refine AO.w ors ?_
 refine AO.pu T ?_
 refine AO.g T [] rfl trivial rfl rfl ?_
 refine AO.d [322] rfl ⟨fun h=>h,trivial⟩ (fun hg=>qJZ T rfl rfl rfl rfl) rfl ?_
 refine AO.g T [323] rfl ⟨fun h=>h,trivial⟩ rfl rfl ?_
 refine AO.w ors ?_
 refine AO.pu T ?_
 refine AO.g T [] rfl trivial rfl rfl ?_
 refine AO.g T [327] rfl ⟨fun h=>h,trivial⟩ rfl rfl ?_
 refine AO.w ors ?_
 refine AO.pu T ?_
 refine AO.g T (d:=.g [x270.1.best,.R 80]) [] rfl trivial rfl rfl ?_
 refine AO.g T (d:=.g [v178,.R 40]) [] rfl trivial rfl rfl ?_
 refine AO.d [331,332] rfl ⟨fun h=>h,fun h=>h,trivial⟩ (fun hg=>zLV rfl rfl rfl (es:=[.g (qEd x270.1),.g (qEd (Season.mk v178 v179))]) ⟨qE1 (LendL.cons (.free rfl) (LendL.cons ((.rowR rfl (.map fun y=>qMn y))) LendL.nil)),qE1 (LendL.cons (.free rfl) (LendL.cons ((.rowR rfl (.map fun y=>qMn y))) LendL.nil)),trivial⟩ (qMp _ _ _ (qEA hx277 hg)) (qAF _) rfl) rfl ?_
 refine AO.g T [333] rfl ⟨fun h=>h,trivial⟩ rfl rfl ?_
 refine AO.w ors ?_
 refine AO.pu T ?_
 refine AO.g T [] rfl trivial rfl rfl ?_
 refine AO.g T [337] rfl ⟨fun h=>h,trivial⟩ rfl rfl ?_
 refine AO.w ors ?_
 refine AO.pu T ?_
 refine AO.g T [] rfl trivial rfl rfl ?_
 refine AO.d [341] rfl ⟨fun h=>h,trivial⟩ (fun hg=>qJZ T rfl rfl rfl rfl) rfl ?_
 refine AO.g T [342] rfl ⟨fun h=>h,trivial⟩ rfl rfl ?_
 refine AO.w ors ?_
 refine AO.n (AW.le (Le.ct 0 0 (σ':=(⟨[(17,.R 38),(43,.R 78),(49,.R 82),(344,.v (.bool (((((((((!x264.2) || (!x266.2)) || (!x274)) || (!x268.2)) || ((x268.1.length:Int) != 2)) || (!x270.2)) || (!x276)) || (!x272.2)) || ((x272.1.length:Int) != 2))))],[(38,.row 2 (List.map qCV v177)),(78,.row 1 (List.map ze0 x266.1)),(82,.row 1 (List.map ze0 x272.1))],399,[]⟩:St))) ?_)
 refine AW.c (b:=(((((((((!x264.2) || (!x266.2)) || (!x274)) || (!x268.2)) || ((x268.1.length:Int) != 2)) || (!x270.2)) || (!x276)) || (!x272.2)) || ((x272.1.length:Int) != 2))) rfl (fun hc=>?_) (fun hc=>?_)
 replace hH:=condT hc hH
 refine AW.q (AW.r (AO.pu T ?_))
 refine AO.n (AW.t ?_)
 have hR:=zS hH;subst hR
 exact retQ.i [] rfl (.c (.c .v))
 replace hH:=condF hc hH
 refine AW.k (AW.q ?_)
 obtain ⟨x278,hx279,hH⟩:=zB hH
 obtain ⟨x280,hx281,hH⟩:=zB hH
 obtain ⟨x282,hx283,hH⟩:=zB hH
 obtain ⟨x284,hx285,hH⟩:=zB hH
 refine AW.le (Le.freezeIn 38 (g:=qHf) rfl (fun y=>qKQ y)) ?_
 refine AW.drawn 13 83 [] mix (by kernel_rfl) rfl ?_
 refine AD.pu T ?_
 refine AD.vv (ixr T (hx279)) ?_
 refine AD.pu T ?_
 refine AD.vv (zLr T rfl rfl rfl rfl (zgG (hx279)) rfl rfl rfl) ?_
 refine AD.vv (ixs T (hx281)) ?_
 iterate 2 refine AD.pu T ?_
 refine AD.vv (ixr T (hx283)) ?_
 refine AD.pu T ?_
 refine AD.vv (zLr T rfl rfl rfl rfl (zgG (hx283)) rfl rfl rfl) ?_
 refine AD.vv (ixs T (hx285)) ?_
 iterate 2 refine AD.pu T ?_
 refine AD.nil (AO.pu T ?_)
 refine AO.n (AW.q ?_)
 obtain ⟨x286,hx287,hH⟩:=zB hH
 obtain ⟨x288,hx289,hH⟩:=zB hH
 obtain ⟨x290,hx291,hH⟩:=zB hH
 obtain ⟨x292,hx293,hH⟩:=zB hH
 refine AW.drawn 40 83 [] mix (by kernel_rfl) rfl ?_
 iterate 4 refine AD.pu T ?_
 refine AD.vv (ixr T (hx287)) ?_
 refine AD.vv (zLr T rfl rfl rfl rfl (zgG (hx287)) rfl rfl rfl) ?_
 refine AD.pu T ?_
 refine AD.vv (ixr T (hx289)) ?_
 refine AD.vv (zLr T rfl rfl rfl rfl (zgG (hx289)) rfl rfl rfl) ?_
 iterate 3 refine AD.pu T ?_
 iterate 2 refine AD.pureG T [] rfl trivial rfl rfl ?_
 refine AD.pureG T [369,370] rfl ⟨fun h=>h,fun h=>h,trivial⟩ rfl rfl ?_
 refine AD.pureG T [] rfl trivial rfl rfl ?_
 refine AD.guard [372] rfl ⟨fun h=>h,trivial⟩ (fun hg=>zXr T rfl rfl rfl rfl rfl rfl (hx287)) rfl ?_
 refine AD.guard [373] rfl ⟨fun h=>h,trivial⟩ (fun hg=>zLr T rfl rfl rfl rfl (zgG (hx287)) rfl rfl rfl) rfl ?_
 refine AD.pureG T [] rfl trivial rfl rfl ?_
 refine AD.guard [375] rfl ⟨fun h=>h,trivial⟩ (fun hg=>zXr T rfl rfl rfl rfl rfl rfl (hx289)) rfl ?_
 refine AD.guard [376] rfl ⟨fun h=>h,trivial⟩ (fun hg=>zLr T rfl rfl rfl rfl (zgG (hx289)) rfl rfl rfl) rfl ?_
 refine AD.pureG T [374,377] rfl ⟨fun h=>h,fun h=>h,trivial⟩ rfl rfl ?_
 refine AD.pureG T [371,378] rfl ⟨fun h=>h,fun h=>h,trivial⟩ rfl rfl ?_
 refine AD.vv qFy ?_
 refine AD.pu T ?_
 refine AD.pureG T [] rfl trivial rfl rfl ?_
 refine AD.guard [382] rfl ⟨fun h=>h,trivial⟩ (fun hg=>zXr T rfl rfl rfl rfl rfl rfl (qEA hx291 hg)) rfl ?_
 refine AD.guard [383] rfl ⟨fun h=>h,trivial⟩ (fun hg=>zLr T rfl rfl rfl rfl (zgG (qEA hx291 hg)) rfl rfl rfl) rfl ?_
 refine AD.pureG T [] rfl trivial rfl rfl ?_
 refine AD.guard [385] rfl ⟨fun h=>h,trivial⟩ (fun hg=>zXr T rfl rfl rfl rfl rfl rfl (hx289)) rfl ?_
 refine AD.guard [386] rfl ⟨fun h=>h,trivial⟩ (fun hg=>zLr T rfl rfl rfl rfl (zgG (hx289)) rfl rfl rfl) rfl ?_
 refine AD.pureG T [384,387] rfl ⟨fun h=>h,fun h=>h,trivial⟩ rfl rfl ?_
 refine AD.vv qFy ?_
 refine AD.pu T ?_
 refine AD.pureG T [] rfl trivial rfl rfl ?_
 refine AD.guard [391] rfl ⟨fun h=>h,trivial⟩ (fun hg=>zXr T rfl rfl rfl rfl rfl rfl (qEA hx293 hg)) rfl ?_
 refine AD.guard [392] rfl ⟨fun h=>h,trivial⟩ (fun hg=>zLr T rfl rfl rfl rfl (zgG (qEA hx293 hg)) rfl rfl rfl) rfl ?_
 refine AD.pureG T [] rfl trivial rfl rfl ?_
 refine AD.guard [394] rfl ⟨fun h=>h,trivial⟩ (fun hg=>zXr T rfl rfl rfl rfl rfl rfl (hx287)) rfl ?_
 refine AD.guard [395] rfl ⟨fun h=>h,trivial⟩ (fun hg=>zLr T rfl rfl rfl rfl (zgG (hx287)) rfl rfl rfl) rfl ?_
 refine AD.nil (AO.g T [393,396] rfl ⟨fun h=>h,fun h=>h,trivial⟩ rfl rfl ?_)
 refine AO.w qFy ?_
 refine AO.pu T ?_
 refine AO.n (AW.le (Le.ct 0 0 (σ':=(⟨[(4,.v (.bool ((((decide (x280 > x284) == decide (x286 < x288)) && ((x280 == x284) == (x286 == x288))) && (x290 == x288)) && (x292 == x286))))],[],399,[]⟩:St))) ?_)
 refine AW.t ?_
 have hR:=zS hH;subst hR
 exact retQ.i [] rfl (.c (.c .v))

end Go.Proofs.YtpmgadenilnabaaGreat

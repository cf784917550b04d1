/- The walk, part 3: what each function reached by the law FnTop computes. No condition. -/
import Derived.Test.YtpmgadenilnabaaGreatWalk2
set_option maxRecDepth 4000
set_option maxHeartbeats 1000000
set_option linter.unusedVariables false
set_option linter.unusedSimpArgs false
set_option linter.unusedSectionVars false

namespace Go.Proofs.YtpmgadenilnabaaGreat
open Go.AM

def qB8 (l:List Item) (fuel:Nat):List Item→Nat→Option Bool
 | [],k1 =>
  some (decide ((l.length:Int) ≤ 14))
 | y2::ys3,k1 =>
  (qIg fuel y2).bind fun x12 =>
  cond (!x12)
   (some false)
   (qB8 l fuel ys3 (k1+1))
def qHF (fuel:Nat) (l:List Item):Option Bool :=
 qB8 l fuel l 0
theorem qLT (fuel:Nat) (l:List Item) (r:Bool) (hH:qHF fuel l=some r):qAE Tryz.prog 75 [.s (List.map ze2 l)] (.v (.bool r)):=by
 refine fns T Tryz.func75 ?_
 refine AW.q (AW.r (AO.pu T ?_))
 refine AO.n (AW.q (AW.q ?_))
 refine AW.r (AO.pu T ?_)
 refine AO.w (qCC T) ?_
 refine AO.pu T ?_
 refine AO.n (AW.b ?_)
 refine AW.loopS (fun s:Nat=>(⟨[(0,.s (List.map ze2 l)),(5,.s (List.map ze2 l)),(6,(l.length:Int)),(7,(s:Int))],[],18,[]⟩:St)) (fun s=>s ≤ l.length∧qB8 l fuel (l.drop s) s=some r) (fun s=>l.length - s) 0 ⟨Nat.zero_le _,hH⟩ ?_ ?_
 exact Le.ct 0 0
 rintro k1 ⟨hk,hH⟩
 replace hH:qB8 l fuel (l.drop k1) k1=some r:=hH
 try dsimp only
 refine AW.boundM (t:=0) (l:=l) rfl (fun hb5=>?_)
 rcases hd4:l.drop k1 with _ | ⟨y2,ys3⟩
 rw [hd4,qB8] at hH
 have hlt6:=qAJ hd4
 refine AW.q (AW.r (AO.pu T ?_))
 refine AO.n (AW.q (AW.condF' (b:=decide ((k1:Int) < (l.length:Int))) rfl (qEQ hlt6) ?_))
 refine AW.exit (AW.q (AW.r ?_))
 refine AO.pu T ?_
 refine AO.w (qCC T) ?_
 refine AO.p2 T ?_
 refine AO.n (AW.t ?_)
 have hR:=zS hH;subst hR
 exact retQ.i [] rfl (.c (.c .v))
 rw [hd4,qB8] at hH
 have hlt6:=qAK hd4
 refine AW.q (AW.r (AO.pu T ?_))
 refine AO.n (AW.q (AW.condT' (b:=decide ((k1:Int) < (l.length:Int))) rfl (qER hlt6) ?_))
 refine AW.k (AW.q ?_)
 refine AW.b (AW.q (AW.r ?_))
 refine AO.w (ixs T (zgD hd4)) ?_
 refine AO.pu T (d:=.g [.s (List.map ze5 y2.names),.s (List.map ze0 y2.marks),.v (.bool y2.late)]) ?_
 refine AO.x (als T 3) ?_
 refine AO.se T [.s (List.map ze5 y2.names),.s (List.map ze0 y2.marks),.v (.bool y2.late)] ?_
 refine AO.n (AW.q ?_)
 obtain ⟨x12,hx13,hH⟩:=zB hH
 refine AW.r (AO.pu T (d:=.g [.s (List.map ze5 y2.names),.s (List.map ze0 y2.marks),.v (.bool y2.late)]) ?_)
 refine AO.w (cVs (qM3 fuel _ _ (hx13))) ?_
 refine AO.pu T ?_
 refine AO.n (AW.c (b:=(!x12)) rfl (fun hc=>?_) (fun hc=>?_))
 replace hH:=condT hc hH
 refine AW.q (AW.r (AO.pu T ?_))
 refine AO.n (AW.t ?_)
 have hR:=zS hH;subst hR
 exact retQ.i [] rfl (.c (.c .v))
 replace hH:=condF hc hH
 refine AW.k (AW.r ?_)
 refine AO.w (zR rfl rfl rfl rfl (zK hlt6 hb5)) ?_
 refine AO.pu T ?_
 refine AO.n ?_
 refine ⟨k1+1,⟨Nat.succ_le_of_lt hlt6,(by rw [zds hd4];exact hH)⟩,(by have:=hlt6;dsimp only;omega),?_⟩
 exact Le.ct 0 0

def qAU (f:Element→Option Bool):List Element→Nat→Option Int
 | [],k1 =>
  some (-1)
 | y2::ys3,k1 =>
  (f y2).bind fun x12 =>
  cond x12
   (some (k1:Int))
   (qAU f ys3 (k1+1))
def qDf (sA:List Element) (f:Element→Option Bool):Option Int :=
 qAU f sA 0
theorem qG3 (sA:List Element) (f_f:Nat) (f_c:List D) (f_k:f_c.all D.capOk=true) (f:Element→Option Bool) (f_h:∀ (a0:Element) (q:Bool),f a0=some q→qAE Tryz.prog f_f ([.g (ze3 a0)]++f_c) (.v (.bool q))) (r:Int) (hH:qDf sA f=some r):qAE Tryz.prog 194 [.s (List.map ze3 sA),.f f_f f_c] (.v (.int .i64 r)):=by
 have f_r:=qHA f_k
 refine fns T Tryz.func194 ?_
 refine AW.q (AW.r (AO.pu T ?_))
 refine AO.n (AW.q (AW.q ?_))
 refine AW.r (AO.pu T ?_)
 refine AO.w (qCC T) ?_
 refine AO.pu T ?_
 refine AO.n (AW.b ?_)
 refine AW.loopS (fun s:Nat=>(⟨[(0,.s (List.map ze3 sA)),(1,.f f_f f_c),(7,(sA.length:Int)),(8,(s:Int))],[],19,[]⟩:St)) (fun s=>s ≤ sA.length∧qAU f (sA.drop s) s=some r) (fun s=>sA.length - s) 0 ⟨Nat.zero_le _,hH⟩ ?_ ?_
 exact Le.cut 0 0 rfl ⟨⟨_,rfl,rfl⟩,⟨_,rfl,qJM f_r⟩,⟨_,rfl,rfl⟩,⟨_,rfl,rfl⟩,trivial⟩ (by repeat' (first | exact trivial | refine ⟨⟨_,rfl,rfl⟩,?_⟩)) (qOK (qHQ rfl (qHQ (qFr f_r) (qHQ rfl (qHQ rfl qQO)))) rfl)
 rintro k1 ⟨hk,hH⟩
 replace hH:qAU f (sA.drop k1) k1=some r:=hH
 try dsimp only
 refine AW.boundM (t:=0) (l:=sA) rfl (fun hb5=>?_)
 rcases hd4:sA.drop k1 with _ | ⟨y2,ys3⟩
 rw [hd4,qAU] at hH
 have hlt6:=qAJ hd4
 refine AW.q (AW.r (AO.pu T ?_))
 refine AO.n (AW.q (AW.condF' (b:=decide ((k1:Int) < (sA.length:Int))) rfl (qEQ hlt6) ?_))
 refine AW.exit (AW.q (AW.r ?_))
 refine AO.pu T ?_
 refine AO.n (AW.t ?_)
 have hR:=zS hH;subst hR
 exact retQ.i [] rfl (.c (.c .v))
 rw [hd4,qAU] at hH
 have hlt6:=qAK hd4
 refine AW.q (AW.r (AO.pu T ?_))
 refine AO.n (AW.q (AW.condT' (b:=decide ((k1:Int) < (sA.length:Int))) rfl (qER hlt6) ?_))
 refine AW.k (AW.q ?_)
 refine AW.b (AW.q (AW.r ?_))
 refine AO.p2 T ?_
 refine AO.n (AW.q ?_)
 obtain ⟨x12,hx13,hH⟩:=zB hH
 refine AW.r ?_
 iterate 3 refine AO.pu T ?_
 refine AO.w (ixs T (zgD hd4)) ?_
 refine AO.pu T (d:=.g [.v (.string y2.name),y2.family,y2.level,y2.base]) ?_
 refine AO.w (zV rfl rfl rfl (qOK rfl (qH7 f_r)) (f_h _ _ (hx13)) rfl) ?_
 refine AO.n (AW.c (b:=x12) rfl (fun hc=>?_) (fun hc=>?_))
 replace hH:=condT hc hH
 refine AW.q (AW.r (AO.p2 T ?_))
 refine AO.n (AW.t ?_)
 have hR:=zS hH;subst hR
 exact retQ.i [] rfl (.c (.c .v))
 replace hH:=condF hc hH
 refine AW.k (AW.r ?_)
 refine AO.w (zR rfl rfl rfl rfl (zK hlt6 hb5)) ?_
 refine AO.pu T ?_
 refine AO.n ?_
 refine ⟨k1+1,⟨Nat.succ_le_of_lt hlt6,(by rw [zds hd4];exact hH)⟩,(by have:=hlt6;dsimp only;omega),?_⟩
 exact Le.cut 0 0 rfl ⟨⟨_,rfl,rfl⟩,⟨_,rfl,qJM f_r⟩,⟨_,rfl,rfl⟩,⟨_,rfl,rfl⟩,trivial⟩ (by repeat' (first | exact trivial | refine ⟨⟨_,rfl,rfl⟩,?_⟩)) (qOK (qHQ rfl (qHQ (qFr f_r) (qHQ rfl (qHQ rfl qQO)))) rfl)

def qCz (x:Element) (a:ByteArray):Option Bool :=
 some (decide (x.name=a))
theorem qIt (x:Element) (a:ByteArray) (r:Bool) (hH:qCz x a=some r):qAE Tryz.prog 195 [.g (ze3 x),.q [.v (.string a)]] (.v (.bool r)):=by
 refine fns T Tryz.func195 ?_
 refine AW.q (AW.r (AO.x (bxs T 1) ?_))
 refine AO.pu T ?_
 refine AO.n (AW.q (AW.r ?_))
 iterate 5 refine AO.pu T ?_
 refine AO.n (AW.t ?_)
 have hR:=zS hH;subst hR
 exact retQ.i [] rfl (.c (.c .v))

def qDw (c:Code) (name:ByteArray):Option Int :=
 (qDf c.elements (fun a0=>qCz a0 name)).bind fun x1 =>
 some x1
theorem qHN (c:Code) (name:ByteArray) (r:Int) (hH:qDw c name=some r):qAE Tryz.prog 154 [.g (ze7 c),.v (.string name)] (.v (.int .i64 r)):=by
 refine fns T Tryz.func154 ?_
 refine AW.q (AW.r (AO.x (bxs T 1) ?_))
 refine AO.x (bxs T 2) ?_
 refine AO.pu T ?_
 refine AO.n (AW.q ?_)
 obtain ⟨x1,hx2,hH⟩:=zB hH
 refine AW.r ?_
 iterate 3 refine AO.pu T ?_
 refine AO.w (zLV rfl rfl rfl (es:=[.s (List.map ze3 c.elements),.f 195 [.q [.v (.string name)]]]) ⟨.free rfl,qS7 (LendL.cons (Lend.boxF rfl rfl) LendL.nil),trivial⟩ (qG3 _ 195 [.q [.v (.string name)]] rfl (fun a0=>qCz a0 name) (fun a0 q h=>qIt a0 name q h) _ (hx2)) (qAF _) rfl) ?_
 refine AO.pu T ?_
 refine AO.n (AW.t ?_)
 have hR:=zS hH;subst hR
 exact retQ.i [] rfl (.c (.c .v))

def qCK (c:Code):List ByteArray→Nat→Option (Except Bool Unit)
 | [],k74 =>
  some (.ok ())
 | y75::ys76,k74 =>
  (qDw c y75).bind fun x85 =>
  cond (decide (x85 < 0))
   (some (.error false))
   (qCK c ys76 (k74+1))
def qCQ (c:Code):List Item→Nat→Option Bool
 | [],k1 =>
  some true
 | y2::ys3,k1 =>
  (qCK c y2.names 0).bind fun o72=>qKp o72 fun _ =>
  qCQ c ys3 (k1+1)
def qH0 (c:Code) (l:List Item):Option Bool :=
 qCQ c l 0
theorem qMl (c:Code) (l:List Item) (r:Bool) (hH:qH0 c l=some r):qAE Tryz.prog 121 [.g (ze7 c),.s (List.map ze2 l)] (.v (.bool r)):=by
 refine fns T Tryz.func121 ?_
 refine AW.q (AW.r (AO.x (bxs T 1) ?_))
 refine AO.pu T ?_
 refine AO.n (AW.q (AW.q ?_))
 refine AW.r (AO.pu T ?_)
 refine AO.w (qCC T) ?_
 refine AO.pu T ?_
 refine AO.n (AW.b ?_)
 refine AW.loopS (fun s:Nat=>(⟨[(2,.p 1 0),(9,.s (List.map ze2 l)),(10,(l.length:Int)),(11,(s:Int))],[(1,.box [.s (List.map ze3 c.elements),.s (List.map ze0 c.limits),c.repeats,c.bonus,c.keeps,c.fall])],28,[]⟩:St)) (fun s=>s ≤ l.length∧qCQ c (l.drop s) s=some r) (fun s=>l.length - s) 0 ⟨Nat.zero_le _,hH⟩ ?_ ?_
 exact Le.ct 0 0
 rintro k1 ⟨hk,hH⟩
 replace hH:qCQ c (l.drop k1) k1=some r:=hH
 try dsimp only
 refine AW.boundM (t:=9) (l:=l) rfl (fun hb5=>?_)
 rcases hd4:l.drop k1 with _ | ⟨y2,ys3⟩
 rw [hd4,qCQ] at hH
 have hlt6:=qAJ hd4
 refine AW.q (AW.r (AO.pu T ?_))
 refine AO.n (AW.q (AW.condF' (b:=decide ((k1:Int) < (l.length:Int))) rfl (qEQ hlt6) ?_))
 refine AW.exit (AW.q (AW.r ?_))
 refine AO.pu T ?_
 refine AO.n (AW.t ?_)
 have hR:=zS hH;subst hR
 exact retQ.i [] rfl (.c (.c .v))
 rw [hd4,qCQ] at hH
 have hlt6:=qAK hd4
 refine AW.q (AW.r (AO.pu T ?_))
 refine AO.n (AW.q (AW.condT' (b:=decide ((k1:Int) < (l.length:Int))) rfl (qER hlt6) ?_))
 refine AW.k ?_
 obtain ⟨o72,hH,hK73⟩:=zB hH
 refine AW.seqJ (fun s:Unit=>(⟨[(2,.p 1 0),(9,.s (List.map ze2 l)),(10,(l.length:Int)),(11,(k1:Int))],[(1,.box [.s (List.map ze3 c.elements),.s (List.map ze0 c.limits),c.repeats,c.bonus,c.keeps,c.fall])],28,[]⟩:St)) (fun s=>.ok s=o72) ?_ ?_
 refine AW.b (AW.q (AW.r ?_))
 refine AO.w (ixs T (zgD hd4)) ?_
 refine AO.pu T (d:=.g [.s (List.map ze5 y2.names),.s (List.map ze0 y2.marks),.v (.bool y2.late)]) ?_
 refine AO.x (als T 7) ?_
 refine AO.se T [.s (List.map ze5 y2.names),.s (List.map ze0 y2.marks),.v (.bool y2.late)] ?_
 refine AO.n (AW.q (AW.r ?_))
 refine AO.p2 T ?_
 refine AO.w (qCC T) ?_
 refine AO.pu T ?_
 refine AO.n (AW.b ?_)
 refine AW.loopS (fun s:Nat=>(⟨[(2,.p 1 0),(9,.s (List.map ze2 l)),(10,(l.length:Int)),(11,(k1:Int)),(16,.s (List.map ze5 y2.names)),(17,(y2.names.length:Int)),(18,(s:Int))],[(1,.box [.s (List.map ze3 c.elements),.s (List.map ze0 c.limits),c.repeats,c.bonus,c.keeps,c.fall])],28,[]⟩:St)) (fun s=>s ≤ y2.names.length∧qCK c (y2.names.drop s) s=some o72) (fun s=>y2.names.length - s) 0 ⟨Nat.zero_le _,hH⟩ ?_ ?_
 exact Le.ct 0 0
 rintro k74 ⟨hk,hH⟩
 replace hH:qCK c (y2.names.drop k74) k74=some o72:=hH
 try dsimp only
 refine AW.boundM (t:=16) (l:=y2.names) rfl (fun hb78=>?_)
 rcases hd77:y2.names.drop k74 with _ | ⟨y75,ys76⟩
 rw [hd77,qCK] at hH
 have hlt79:=qAJ hd77
 refine AW.q (AW.r (AO.pu T ?_))
 refine AO.n (AW.q (AW.condF' (b:=decide ((k74:Int) < (y2.names.length:Int))) rfl (qEQ hlt79) ?_))
 refine AW.exit ?_
 refine ⟨_,zS hH,?_⟩
 exact Le.ct 0 0
 rw [hd77,qCK] at hH
 have hlt79:=qAK hd77
 refine AW.q (AW.r (AO.pu T ?_))
 refine AO.n (AW.q (AW.condT' (b:=decide ((k74:Int) < (y2.names.length:Int))) rfl (qER hlt79) ?_))
 refine AW.k (AW.q ?_)
 refine AW.b (AW.q (AW.r ?_))
 refine AO.w (ixs T (zgD hd77)) ?_
 refine AO.p2 T ?_
 refine AO.n (AW.q ?_)
 obtain ⟨x85,hx86,hH⟩:=zB hH
 refine AW.r (AO.pu T (d:=.g [.s (List.map ze3 c.elements),.s (List.map ze0 c.limits),c.repeats,c.bonus,c.keeps,c.fall]) ?_)
 refine AO.pu T ?_
 refine AO.w (cVs (qHN _ _ _ (hx86))) ?_
 refine AO.pu T ?_
 refine AO.n (AW.c (b:=decide (x85 < 0)) rfl (fun hc=>?_) (fun hc=>?_))
 replace hH:=condT hc hH
 refine AW.q (AW.r (AO.pu T ?_))
 refine AO.n (AW.t ?_)
 obtain rfl:=zS hH
 replace hH:=hK73
 have hR:=zS hH;subst hR
 exact retQ.i [] rfl (.c (.c .v))
 replace hH:=condF hc hH
 refine AW.k (AW.r ?_)
 refine AO.w (zR rfl rfl rfl rfl (zK hlt79 hb78)) ?_
 refine AO.pu T ?_
 refine AO.n ?_
 refine ⟨k74+1,⟨Nat.succ_le_of_lt hlt79,(by rw [zds hd77];exact hH)⟩,(by have:=hlt79;dsimp only;omega),?_⟩
 exact Le.ct 0 0
 rintro _ hs
 subst hs
 replace hH:=hK73
 try dsimp only [qKp,qID] at hH
 try dsimp only
 refine AW.r (AO.w (zR rfl rfl rfl rfl (zK hlt6 hb5)) ?_)
 refine AO.pu T ?_
 refine AO.n ?_
 refine ⟨k1+1,⟨Nat.succ_le_of_lt hlt6,(by rw [zds hd4];exact hH)⟩,(by have:=hlt6;dsimp only;omega),?_⟩
 exact Le.ct 0 0

def qBL (m:Marks):Option Int :=
 (qAb m.components 0).bind fun x1 =>
 some (x1.length:Int)
theorem qFN (m:Marks) (r:Int) (hH:qBL m=some r):qAE Tryz.prog 86 [.g (qBN m)] (.v (.int .i64 r)):=by
 refine fns T Tryz.func86 ?_
 refine AW.q (AW.r (AO.x (bxs T 1) ?_))
 refine AO.pu T ?_
 refine AO.n (AW.q ?_)
 obtain ⟨x1,hx2,hH⟩:=zB hH
 refine AW.r (AO.p2 T ?_)
 refine AO.w (ixs T (hx2)) ?_
 refine AO.pu T ?_
 refine AO.w (qCC T) ?_
 refine AO.pu T ?_
 refine AO.n (AW.t ?_)
 have hR:=zS hH;subst hR
 exact retQ.i [] rfl (.c (.c .v))

def qAk (f:Int→Option Bool):List Int→Nat→Option Int
 | [],k1 =>
  some (-1)
 | y2::ys3,k1 =>
  (f y2).bind fun x12 =>
  cond x12
   (some (k1:Int))
   (qAk f ys3 (k1+1))
def qET (sA:List Int) (f:Int→Option Bool):Option Int :=
 qAk f sA 0
theorem qIe (sA:List Int) (f_f:Nat) (f_c:List D) (f_k:f_c.all D.capOk=true) (f:Int→Option Bool) (f_h:∀ (a0:Int) (q:Bool),f a0=some q→qAE Tryz.prog f_f ([.v (.int .i64 a0)]++f_c) (.v (.bool q))) (r:Int) (hH:qET sA f=some r):qAE Tryz.prog 216 [.s (List.map ze0 sA),.f f_f f_c] (.v (.int .i64 r)):=by
 have f_r:=qHA f_k
 refine fns T Tryz.func216 ?_
 refine AW.q (AW.r (AO.pu T ?_))
 refine AO.n (AW.q (AW.q ?_))
 refine AW.r (AO.pu T ?_)
 refine AO.w (qCC T) ?_
 refine AO.pu T ?_
 refine AO.n (AW.b ?_)
 refine AW.loopS (fun s:Nat=>(⟨[(0,.s (List.map ze0 sA)),(1,.f f_f f_c),(7,(sA.length:Int)),(8,(s:Int))],[],19,[]⟩:St)) (fun s=>s ≤ sA.length∧qAk f (sA.drop s) s=some r) (fun s=>sA.length - s) 0 ⟨Nat.zero_le _,hH⟩ ?_ ?_
 exact Le.cut 0 0 rfl ⟨⟨_,rfl,rfl⟩,⟨_,rfl,qJM f_r⟩,⟨_,rfl,rfl⟩,⟨_,rfl,rfl⟩,trivial⟩ (by repeat' (first | exact trivial | refine ⟨⟨_,rfl,rfl⟩,?_⟩)) (qOK (qHQ rfl (qHQ (qFr f_r) (qHQ rfl (qHQ rfl qQO)))) rfl)
 rintro k1 ⟨hk,hH⟩
 replace hH:qAk f (sA.drop k1) k1=some r:=hH
 try dsimp only
 refine AW.boundM (t:=0) (l:=sA) rfl (fun hb5=>?_)
 rcases hd4:sA.drop k1 with _ | ⟨y2,ys3⟩
 rw [hd4,qAk] at hH
 have hlt6:=qAJ hd4
 refine AW.q (AW.r (AO.pu T ?_))
 refine AO.n (AW.q (AW.condF' (b:=decide ((k1:Int) < (sA.length:Int))) rfl (qEQ hlt6) ?_))
 refine AW.exit (AW.q (AW.r ?_))
 refine AO.pu T ?_
 refine AO.n (AW.t ?_)
 have hR:=zS hH;subst hR
 exact retQ.i [] rfl (.c (.c .v))
 rw [hd4,qAk] at hH
 have hlt6:=qAK hd4
 refine AW.q (AW.r (AO.pu T ?_))
 refine AO.n (AW.q (AW.condT' (b:=decide ((k1:Int) < (sA.length:Int))) rfl (qER hlt6) ?_))
 refine AW.k (AW.q ?_)
 refine AW.b (AW.q (AW.r ?_))
 refine AO.p2 T ?_
 refine AO.n (AW.q ?_)
 obtain ⟨x12,hx13,hH⟩:=zB hH
 refine AW.r ?_
 iterate 3 refine AO.pu T ?_
 refine AO.w (ixs T (zgD hd4)) ?_
 refine AO.pu T ?_
 refine AO.w (zV rfl rfl rfl (qOK rfl (qH7 f_r)) (f_h _ _ (hx13)) rfl) ?_
 refine AO.n (AW.c (b:=x12) rfl (fun hc=>?_) (fun hc=>?_))
 replace hH:=condT hc hH
 refine AW.q (AW.r (AO.p2 T ?_))
 refine AO.n (AW.t ?_)
 have hR:=zS hH;subst hR
 exact retQ.i [] rfl (.c (.c .v))
 replace hH:=condF hc hH
 refine AW.k (AW.r ?_)
 refine AO.w (zR rfl rfl rfl rfl (zK hlt6 hb5)) ?_
 refine AO.pu T ?_
 refine AO.n ?_
 refine ⟨k1+1,⟨Nat.succ_le_of_lt hlt6,(by rw [zds hd4];exact hH)⟩,(by have:=hlt6;dsimp only;omega),?_⟩
 exact Le.cut 0 0 rfl ⟨⟨_,rfl,rfl⟩,⟨_,rfl,qJM f_r⟩,⟨_,rfl,rfl⟩,⟨_,rfl,rfl⟩,trivial⟩ (by repeat' (first | exact trivial | refine ⟨⟨_,rfl,rfl⟩,?_⟩)) (qOK (qHQ rfl (qHQ (qFr f_r) (qHQ rfl (qHQ rfl qQO)))) rfl)

def qCv (sA:List Int) (f:Int→Option Bool):Option Bool :=
 (qET sA f).bind fun x1 =>
 some (decide (x1 ≥ 0))
theorem qHS (sA:List Int) (f_f:Nat) (f_c:List D) (f_k:f_c.all D.capOk=true) (f:Int→Option Bool) (f_h:∀ (a0:Int) (q:Bool),f a0=some q→qAE Tryz.prog f_f ([.v (.int .i64 a0)]++f_c) (.v (.bool q))) (r:Bool) (hH:qCv sA f=some r):qAE Tryz.prog 196 [.s (List.map ze0 sA),.f f_f f_c] (.v (.bool r)):=by
 have f_r:=qHA f_k
 refine fns T Tryz.func196 ?_
 refine AW.q (AW.r (AO.pu T ?_))
 refine AO.n (AW.q ?_)
 obtain ⟨x1,hx2,hH⟩:=zB hH
 refine AW.r (AO.p2 T ?_)
 refine AO.w (zV rfl rfl rfl (qOK (qHQ rfl (qHQ f_r qQO)) rfl) (qIe _ f_f f_c f_k f f_h _ (hx2)) rfl) ?_
 refine AO.p2 T ?_
 refine AO.n (AW.t ?_)
 have hR:=zS hH;subst hR
 exact retQ.i [] rfl (.c (.c .v))

def qEV (mark:Int):Option Bool :=
 (qAM mark 0 1000).bind fun x1 =>
 (opt x1 default (qCw (25 != 0))).bind fun u3 =>
 some (x1 && ((mark.tmod 25) == 0))
theorem qId (mark:Int) (r:Bool) (hH:qEV mark=some r):qAE Tryz.prog 198 [mark] (.v (.bool r)):=by
 refine fns T Tryz.func198 ?_
 refine AW.q (AW.r (AO.pu T ?_))
 refine AO.n (AW.q ?_)
 obtain ⟨x1,hx2,hH⟩:=zB hH
 obtain ⟨u3,hx4,hH⟩:=zB hH
 refine AW.r (AO.pu T ?_)
 refine AO.w (cVs (qAP _ _ _ _ (hx2))) ?_
 refine AO.pu T ?_
 refine AO.g T [] rfl trivial rfl rfl ?_
 refine AO.d [6] rfl ⟨fun h=>h,trivial⟩ (fun hg=>qLP rfl rfl rfl (neZ (qA4 (qEA hx4 hg)))) rfl ?_
 refine AO.g T [7] rfl ⟨fun h=>h,trivial⟩ rfl rfl ?_
 refine AO.w qFy ?_
 refine AO.pu T ?_
 refine AO.n (AW.t ?_)
 have hR:=zS hH;subst hR
 exact retQ.i [] rfl (.c (.c .v))

def qCh (mark:Int):Option Bool :=
 (qEV mark).bind fun x1 =>
 some (!x1)
theorem qKM (mark:Int) (r:Bool) (hH:qCh mark=some r):qAE Tryz.prog 197 [mark] (.v (.bool r)):=by
 refine fns T Tryz.func197 ?_
 refine AW.q (AW.r (AO.pu T ?_))
 refine AO.n (AW.q ?_)
 obtain ⟨x1,hx2,hH⟩:=zB hH
 refine AW.r (AO.pu T ?_)
 refine AO.w (cVs (qId _ _ (hx2))) ?_
 refine AO.p2 T ?_
 refine AO.n (AW.t ?_)
 have hR:=zS hH;subst hR
 exact retQ.i [] rfl (.c (.c .v))

def qCT (m:Marks):List (List Int)→Nat→Option Bool
 | [],k20 =>
  some true
 | y21::ys22,k20 =>
  (qBL m).bind fun x35 =>
  (opt (!((y21.length:Int) != x35)) default (qCv y21 (fun a0=>qCh a0 ))).bind fun x37 =>
  cond (((y21.length:Int) != x35) || x37)
   (some false)
   (qCT m ys22 (k20+1))
def qCJ (m:Marks):List (List Int)→Nat→Option Bool
 | [],k5 =>
  qCT m m.components 0
 | y6::ys7,k5 =>
  (qBL m).bind fun x39 =>
  (opt (!((y6.length:Int) != x39)) default (qDA y6 (-5) 5)).bind fun x41 =>
  cond (((y6.length:Int) != x39) || (!x41))
   (some false)
   (qCJ m ys7 (k5+1))
def qFF (m:Marks):Option Bool :=
 (opt (!(decide ((m.grades.length:Int) > 14) || ((m.components.length:Int) != 3))) default (qAb m.components 0)).bind fun x1 =>
 (opt (!(decide ((m.grades.length:Int) > 14) || ((m.components.length:Int) != 3))) default (qAM (x1.length:Int) 3 9)).bind fun x3 =>
 cond ((decide ((m.grades.length:Int) > 14) || ((m.components.length:Int) != 3)) || (!x3))
  (some false)
  (qCJ m m.grades 0)
theorem qMT (m:Marks) (r:Bool) (hH:qFF m=some r):qAE Tryz.prog 155 [.g (qBN m)] (.v (.bool r)):=by
 refine fns T Tryz.func155 ?_
 refine AW.q (AW.r (AO.x (bxs T 1) ?_))
 refine AO.pu T ?_
 refine AO.n (AW.q (AW.q ?_))
 obtain ⟨x1,hx2,hH⟩:=zB hH
 obtain ⟨x3,hx4,hH⟩:=zB hH
 refine AW.r (AO.p2 T ?_)
 refine AO.w (qCC T) ?_
 refine AO.p2 T ?_
 refine AO.g T [] rfl trivial rfl rfl ?_
 refine AO.g T [12] rfl ⟨fun h=>h,trivial⟩ rfl rfl ?_
 refine AO.d [13] rfl ⟨fun h=>h,trivial⟩ (fun hg=>zL T rfl rfl rfl) rfl ?_
 refine AO.g T [14] rfl ⟨fun h=>h,trivial⟩ rfl rfl ?_
 refine AO.w ors ?_
 refine AO.pu T ?_
 refine AO.g T [] rfl trivial rfl rfl ?_
 refine AO.g T [18] rfl ⟨fun h=>h,trivial⟩ rfl rfl ?_
 refine AO.d [19] rfl ⟨fun h=>h,trivial⟩ (fun hg=>zX T rfl rfl rfl rfl rfl (qEA hx2 hg) rfl) rfl ?_
 refine AO.g T [20] rfl ⟨fun h=>h,trivial⟩ rfl rfl ?_
 refine AO.d [21] rfl ⟨fun h=>h,trivial⟩ (fun hg=>zL T rfl rfl rfl) rfl ?_
 refine AO.d [22] rfl ⟨fun h=>h,trivial⟩ (fun hg=>zV rfl rfl rfl rfl (qAP _ _ _ _ (qEA hx4 hg)) rfl) rfl ?_
 refine AO.g T [23] rfl ⟨fun h=>h,trivial⟩ rfl rfl ?_
 refine AO.w ors ?_
 refine AO.n (AW.c (b:=((decide ((m.grades.length:Int) > 14) || ((m.components.length:Int) != 3)) || (!x3))) rfl (fun hc=>?_) (fun hc=>?_))
 replace hH:=condT hc hH
 refine AW.q (AW.r (AO.pu T ?_))
 refine AO.n (AW.t ?_)
 have hR:=zS hH;subst hR
 exact retQ.i [] rfl (.c (.c .v))
 replace hH:=condF hc hH
 refine AW.k (AW.q (AW.q ?_))
 refine AW.r (AO.p2 T ?_)
 refine AO.w (qCC T) ?_
 refine AO.pu T ?_
 refine AO.n (AW.le (Le.ct 0 0 (σ':=(⟨[(1,.p 1 0),(27,.s (List.map ze1 m.grades)),(28,(m.grades.length:Int)),(29,(0:Int))],[(1,.box [.s (List.map ze1 m.grades),.s (List.map ze1 m.components)])],61,[]⟩:St))) ?_)
 refine AW.b (AW.loopS (fun s:Nat=>(⟨[(1,.p 1 0),(27,.s (List.map ze1 m.grades)),(28,(m.grades.length:Int)),(29,(s:Int))],[(1,.box [.s (List.map ze1 m.grades),.s (List.map ze1 m.components)])],61,[]⟩:St)) (fun s=>s ≤ m.grades.length∧qCJ m (m.grades.drop s) s=some r) (fun s=>m.grades.length - s) 0 ⟨Nat.zero_le _,hH⟩ ?_ ?_)
 exact Le.ct 0 0
 rintro k5 ⟨hk,hH⟩
 replace hH:qCJ m (m.grades.drop k5) k5=some r:=hH
 try dsimp only
 refine AW.boundM (t:=27) (l:=m.grades) rfl (fun hb9=>?_)
 rcases hd8:m.grades.drop k5 with _ | ⟨y6,ys7⟩
 rw [hd8,qCJ] at hH
 have hlt10:=qAJ hd8
 refine AW.q (AW.r (AO.pu T ?_))
 refine AO.n (AW.q (AW.condF' (b:=decide ((k5:Int) < (m.grades.length:Int))) rfl (qEQ hlt10) ?_))
 refine AW.exit (AW.q (AW.q ?_))
 refine AW.r (AO.p2 T ?_)
 refine AO.w (qCC T) ?_
 refine AO.pu T ?_
 refine AO.n (AW.b ?_)
 refine AW.loopS (fun s:Nat=>(⟨[(1,.p 1 0),(45,.s (List.map ze1 m.components)),(46,(m.components.length:Int)),(47,(s:Int))],[(1,.box [.s (List.map ze1 m.grades),.s (List.map ze1 m.components)])],61,[]⟩:St)) (fun s=>s ≤ m.components.length∧qCT m (m.components.drop s) s=some r) (fun s=>m.components.length - s) 0 ⟨Nat.zero_le _,hH⟩ ?_ ?_
 exact Le.ct 0 0
 rintro k20 ⟨hk,hH⟩
 replace hH:qCT m (m.components.drop k20) k20=some r:=hH
 try dsimp only
 refine AW.boundM (t:=45) (l:=m.components) rfl (fun hb24=>?_)
 rcases hd23:m.components.drop k20 with _ | ⟨y21,ys22⟩
 rw [hd23,qCT] at hH
 have hlt25:=qAJ hd23
 refine AW.q (AW.r (AO.pu T ?_))
 refine AO.n (AW.q (AW.condF' (b:=decide ((k20:Int) < (m.components.length:Int))) rfl (qEQ hlt25) ?_))
 refine AW.exit (AW.q (AW.r ?_))
 refine AO.pu T ?_
 refine AO.n (AW.t ?_)
 have hR:=zS hH;subst hR
 exact retQ.i [] rfl (.c (.c .v))
 rw [hd23,qCT] at hH
 have hlt25:=qAK hd23
 refine AW.q (AW.r (AO.pu T ?_))
 refine AO.n (AW.q (AW.condT' (b:=decide ((k20:Int) < (m.components.length:Int))) rfl (qER hlt25) ?_))
 refine AW.k (AW.q ?_)
 refine AW.b (AW.q (AW.r ?_))
 refine AO.w (ixs T (zgD hd23)) ?_
 refine AO.p2 T ?_
 refine AO.n (AW.q ?_)
 obtain ⟨x35,hx36,hH⟩:=zB hH
 obtain ⟨x37,hx38,hH⟩:=zB hH
 refine AW.r (AO.pu T ?_)
 refine AO.w (qCC T) ?_
 refine AO.pu T (d:=.g [.s (List.map ze1 m.grades),.s (List.map ze1 m.components)]) ?_
 refine AO.w (cVs (qFN _ _ (hx36))) ?_
 refine AO.p2 T ?_
 refine AO.g T [] rfl trivial rfl rfl ?_
 refine AO.d [57] rfl ⟨fun h=>h,trivial⟩ (fun hg=>zV rfl rfl rfl rfl (qHS _ 197 [] rfl (fun a0=>qCh a0 ) (fun a0 q h=>qKM a0  q h) _ (qEA hx38 hg)) rfl) rfl ?_
 refine AO.w ors ?_
 refine AO.n (AW.c (b:=(((y21.length:Int) != x35) || x37)) rfl (fun hc=>?_) (fun hc=>?_))
 replace hH:=condT hc hH
 refine AW.q (AW.r (AO.pu T ?_))
 refine AO.n (AW.t ?_)
 have hR:=zS hH;subst hR
 exact retQ.i [] rfl (.c (.c .v))
 replace hH:=condF hc hH
 refine AW.k (AW.r ?_)
 refine AO.w (zR rfl rfl rfl rfl (zK hlt25 hb24)) ?_
 refine AO.pu T ?_
 refine AO.n ?_
 refine ⟨k20+1,⟨Nat.succ_le_of_lt hlt25,(by rw [zds hd23];exact hH)⟩,(by have:=hlt25;dsimp only;omega),?_⟩
 exact Le.ct 0 0
 rw [hd8,qCJ] at hH
 have hlt10:=qAK hd8
 refine AW.q (AW.r (AO.pu T ?_))
 refine AO.n (AW.q (AW.condT' (b:=decide ((k5:Int) < (m.grades.length:Int))) rfl (qER hlt10) ?_))
 refine AW.k (AW.q ?_)
 refine AW.b (AW.q (AW.r ?_))
 refine AO.w (ixs T (zgD hd8)) ?_
 refine AO.p2 T ?_
 refine AO.n (AW.q ?_)
 obtain ⟨x39,hx40,hH⟩:=zB hH
 obtain ⟨x41,hx42,hH⟩:=zB hH
 refine AW.r (AO.pu T ?_)
 refine AO.w (qCC T) ?_
 refine AO.pu T (d:=.g [.s (List.map ze1 m.grades),.s (List.map ze1 m.components)]) ?_
 refine AO.w (cVs (qFN _ _ (hx40))) ?_
 refine AO.p2 T ?_
 refine AO.g T [] rfl trivial rfl rfl ?_
 refine AO.d [39] rfl ⟨fun h=>h,trivial⟩ (fun hg=>zV rfl rfl rfl rfl (qF5 _ _ _ _ (qEA hx42 hg)) rfl) rfl ?_
 refine AO.g T [40] rfl ⟨fun h=>h,trivial⟩ rfl rfl ?_
 refine AO.w ors ?_
 refine AO.n (AW.c (b:=(((y6.length:Int) != x39) || (!x41))) rfl (fun hc=>?_) (fun hc=>?_))
 replace hH:=condT hc hH
 refine AW.q (AW.r (AO.pu T ?_))
 refine AO.n (AW.t ?_)
 have hR:=zS hH;subst hR
 exact retQ.i [] rfl (.c (.c .v))
 replace hH:=condF hc hH
 refine AW.k (AW.r ?_)
 refine AO.w (zR rfl rfl rfl rfl (zK hlt10 hb9)) ?_
 refine AO.pu T ?_
 refine AO.n ?_
 refine ⟨k5+1,⟨Nat.succ_le_of_lt hlt10,(by rw [zds hd8];exact hH)⟩,(by have:=hlt10;dsimp only;omega),?_⟩
 exact Le.ct 0 0

def qG9 (m:Marks) (items:Int):Option Bool :=
 (qFF m).bind fun x1 =>
 some (x1 && ((m.grades.length:Int) == items))
theorem qLY (m:Marks) (items:Int) (r:Bool) (hH:qG9 m items=some r):qAE Tryz.prog 122 [.g (qBN m),items] (.v (.bool r)):=by
 refine fns T Tryz.func122 ?_
 refine AW.q (AW.r (AO.x (bxs T 1) ?_))
 refine AO.pu T ?_
 refine AO.n (AW.q ?_)
 obtain ⟨x1,hx2,hH⟩:=zB hH
 refine AW.r (AO.pu T (d:=.g [.s (List.map ze1 m.grades),.s (List.map ze1 m.components)]) ?_)
 refine AO.w (cVs (qMT _ _ (hx2))) ?_
 refine AO.pu T ?_
 refine AO.g T [] rfl trivial rfl rfl ?_
 refine AO.g T [8] rfl ⟨fun h=>h,trivial⟩ rfl rfl ?_
 refine AO.d [9] rfl ⟨fun h=>h,trivial⟩ (fun hg=>zL T rfl rfl rfl) rfl ?_
 refine AO.g T [] rfl trivial rfl rfl ?_
 refine AO.g T [10,11] rfl ⟨fun h=>h,fun h=>h,trivial⟩ rfl rfl ?_
 refine AO.w qFy ?_
 refine AO.pu T ?_
 refine AO.n (AW.t ?_)
 have hR:=zS hH;subst hR
 exact retQ.i [] rfl (.c (.c .v))

def qIa (c:Code) (l:List Item) (m:Marks):Option Bool :=
 (qH0 c l).bind fun x1 =>
 (opt x1 default (qG9 m (l.length:Int))).bind fun x3 =>
 some (x1 && x3)
theorem qNJ (c:Code) (l:List Item) (m:Marks) (r:Bool) (hH:qIa c l m=some r):qAE Tryz.prog 76 [.g (ze7 c),.s (List.map ze2 l),.g (qBN m)] (.v (.bool r)):=by
 refine fns T Tryz.func76 ?_
 refine AW.q (AW.r (AO.x (bxs T 1) ?_))
 refine AO.x (bxs T 2) ?_
 refine AO.pu T ?_
 refine AO.n (AW.q ?_)
 obtain ⟨x1,hx2,hH⟩:=zB hH
 obtain ⟨x3,hx4,hH⟩:=zB hH
 refine AW.r (AO.pu T (d:=.g [.s (List.map ze3 c.elements),.s (List.map ze0 c.limits),c.repeats,c.bonus,c.keeps,c.fall]) ?_)
 refine AO.pu T ?_
 refine AO.w (cVs (qMl _ _ _ (hx2))) ?_
 refine AO.pu T ?_
 refine AO.g T (d:=.g [.s (List.map ze1 m.grades),.s (List.map ze1 m.components)]) [] rfl trivial rfl rfl ?_
 refine AO.g T [] rfl trivial rfl rfl ?_
 refine AO.d [12] rfl ⟨fun h=>h,trivial⟩ (fun hg=>zL T rfl rfl rfl) rfl ?_
 refine AO.d [11,13] rfl ⟨fun h=>h,fun h=>h,trivial⟩ (fun hg=>zV rfl rfl rfl rfl (qLY _ _ _ (qEA hx4 hg)) rfl) rfl ?_
 refine AO.w qFy ?_
 refine AO.pu T ?_
 refine AO.n (AW.t ?_)
 have hR:=zS hH;subst hR
 exact retQ.i [] rfl (.c (.c .v))

def qEK (fuel:Nat) (c:Code) (l:List Item) (m:Marks):Option Bool :=
 (qFc fuel c).bind fun x1 =>
 (opt x1 default (qHF fuel l)).bind fun x3 =>
 (opt (x1 && x3) default (qIa c l m)).bind fun x5 =>
 some ((x1 && x3) && x5)
theorem qH2 (fuel:Nat) (c:Code) (l:List Item) (m:Marks) (r:Bool) (hH:qEK fuel c l m=some r):qAE Tryz.prog 33 [.g (ze7 c),.s (List.map ze2 l),.g (qBN m)] (.v (.bool r)):=by
 refine fns T Tryz.func33 ?_
 refine AW.q (AW.r (AO.x (bxs T 1) ?_))
 refine AO.x (bxs T 2) ?_
 refine AO.pu T ?_
 refine AO.n (AW.q ?_)
 obtain ⟨x1,hx2,hH⟩:=zB hH
 obtain ⟨x3,hx4,hH⟩:=zB hH
 obtain ⟨x5,hx6,hH⟩:=zB hH
 refine AW.r (AO.pu T (d:=.g [.s (List.map ze3 c.elements),.s (List.map ze0 c.limits),c.repeats,c.bonus,c.keeps,c.fall]) ?_)
 refine AO.w (cVs (qJy fuel _ _ (hx2))) ?_
 refine AO.pu T ?_
 refine AO.g T [] rfl trivial rfl rfl ?_
 refine AO.d [10] rfl ⟨fun h=>h,trivial⟩ (fun hg=>zV rfl rfl rfl rfl (qLT fuel _ _ (qEA hx4 hg)) rfl) rfl ?_
 refine AO.w qFy ?_
 refine AO.pu T ?_
 refine AO.g T (d:=.g [.s (List.map ze3 c.elements),.s (List.map ze0 c.limits),c.repeats,c.bonus,c.keeps,c.fall]) [] rfl trivial rfl rfl ?_
 refine AO.g T [] rfl trivial rfl rfl ?_
 refine AO.g T (d:=.g [.s (List.map ze1 m.grades),.s (List.map ze1 m.components)]) [] rfl trivial rfl rfl ?_
 refine AO.d [14,15,16] rfl ⟨fun h=>h,fun h=>h,fun h=>h,trivial⟩ (fun hg=>zV rfl rfl rfl rfl (qNJ _ _ _ _ (qEA hx6 hg)) rfl) rfl ?_
 refine AO.w qFy ?_
 refine AO.pu T ?_
 refine AO.n (AW.t ?_)
 have hR:=zS hH;subst hR
 exact retQ.i [] rfl (.c (.c .v))

def qFx (sA:Slips):Option Bool :=
 (qAM sA.falls 0 9).bind fun x1 =>
 (opt x1 default (qAM sA.seconds 0 60)).bind fun x3 =>
 (opt (x1 && x3) default (qAM sA.other 0 500)).bind fun x5 =>
 some ((x1 && x3) && x5)
theorem qLZ (sA:Slips) (r:Bool) (hH:qFx sA=some r):qAE Tryz.prog 66 [.g (qJh sA)] (.v (.bool r)):=by
 refine fns T Tryz.func66 ?_
 refine AW.q (AW.r (AO.x (bxs T 1) ?_))
 refine AO.pu T ?_
 refine AO.n (AW.q ?_)
 obtain ⟨x1,hx2,hH⟩:=zB hH
 obtain ⟨x3,hx4,hH⟩:=zB hH
 obtain ⟨x5,hx6,hH⟩:=zB hH
 refine AW.r (AO.p2 T ?_)
 refine AO.w (cVs (qAP _ _ _ _ (hx2))) ?_
 refine AO.pu T ?_
 refine AO.g T [] rfl trivial rfl rfl ?_
 refine AO.g T [7] rfl ⟨fun h=>h,trivial⟩ rfl rfl ?_
 refine AO.d [8] rfl ⟨fun h=>h,trivial⟩ (fun hg=>zV rfl rfl rfl rfl (qAP _ _ _ _ (qEA hx4 hg)) rfl) rfl ?_
 refine AO.w qFy ?_
 refine AO.pu T ?_
 refine AO.g T [] rfl trivial rfl rfl ?_
 refine AO.g T [12] rfl ⟨fun h=>h,trivial⟩ rfl rfl ?_
 refine AO.d [13] rfl ⟨fun h=>h,trivial⟩ (fun hg=>zV rfl rfl rfl rfl (qAP _ _ _ _ (qEA hx6 hg)) rfl) rfl ?_
 refine AO.w qFy ?_
 refine AO.pu T ?_
 refine AO.n (AW.t ?_)
 have hR:=zS hH;subst hR
 exact retQ.i [] rfl (.c (.c .v))

def qAi (fuel:Nat) (c:Code) (p:Performance):Option Bool :=
 (qEK fuel c p.items p.marks).bind fun x1 =>
 (opt x1 default (qFx p.slips)).bind fun x3 =>
 some (x1 && x3)
theorem qGY (fuel:Nat) (c:Code) (p:Performance) (r:Bool) (hH:qAi fuel c p=some r):qAE Tryz.prog 26 [.g (ze7 c),.g (qGl p)] (.v (.bool r)):=by
 refine fns T Tryz.func26 ?_
 refine AW.q (AW.r (AO.x (bxs T 1) ?_))
 refine AO.x (bxs T 2) ?_
 refine AO.pu T ?_
 refine AO.n (AW.q ?_)
 obtain ⟨x1,hx2,hH⟩:=zB hH
 obtain ⟨x3,hx4,hH⟩:=zB hH
 refine AW.r (AO.pu T (d:=.g [.s (List.map ze3 c.elements),.s (List.map ze0 c.limits),c.repeats,c.bonus,c.keeps,c.fall]) ?_)
 iterate 3 refine AO.pu T ?_
 refine AO.pu T (d:=.g [.s (List.map ze1 p.marks.grades),.s (List.map ze1 p.marks.components)]) ?_
 refine AO.w (cVs (qH2 fuel _ _ _ _ (hx2))) ?_
 refine AO.pu T ?_
 refine AO.g T [] rfl trivial rfl rfl ?_
 refine AO.g T (d:=.g [p.slips.falls,p.slips.seconds,p.slips.other]) [12] rfl ⟨fun h=>h,trivial⟩ rfl rfl ?_
 refine AO.d [13] rfl ⟨fun h=>h,trivial⟩ (fun hg=>zV rfl rfl rfl rfl (qLZ _ _ (qEA hx4 hg)) rfl) rfl ?_
 refine AO.w qFy ?_
 refine AO.pu T ?_
 refine AO.n (AW.t ?_)
 have hR:=zS hH;subst hR
 exact retQ.i [] rfl (.c (.c .v))

def qCU (fuel:Nat) (c:Code) (p:Performance):Option (Bool × Bool) :=
 (qFc fuel c).bind fun x1 =>
 cond (!x1)
  (some (false,false))
  ((qAi fuel c p).bind fun x3 =>
  some (x3,true))
theorem qGU (fuel:Nat) (c:Code) (p:Performance) (r:(Bool × Bool)) (hH:qCU fuel c p=some r):qAE Tryz.prog 5 [.g (ze7 c),.g (qGl p)] (.t [.v (.bool r.1),.v (.bool r.2)]):=by
 refine fns T Tryz.func5 ?_
 refine AW.q (AW.r (AO.x (bxs T 1) ?_))
 refine AO.x (bxs T 2) ?_
 refine AO.p2 T ?_
 refine AO.n (AW.q (AW.q ?_))
 obtain ⟨x1,hx2,hH⟩:=zB hH
 refine AW.r (AO.pu T (d:=.g [.s (List.map ze3 c.elements),.s (List.map ze0 c.limits),c.repeats,c.bonus,c.keeps,c.fall]) ?_)
 refine AO.w (cVs (qJy fuel _ _ (hx2))) ?_
 refine AO.pu T ?_
 refine AO.n (AW.c (b:=(!x1)) rfl (fun hc=>?_) (fun hc=>?_))
 replace hH:=condT hc hH
 refine AW.q (AW.r (AO.p2 T ?_))
 refine AO.n (AW.t ?_)
 have hR:=zS hH;subst hR
 exact retQ.i [] rfl (.t (zG (.c .v) (zG (.c .v) (zGn))))
 replace hH:=condF hc hH
 refine AW.k (AW.q ?_)
 obtain ⟨x3,hx4,hH⟩:=zB hH
 refine AW.r (AO.pu T (d:=.g [.s (List.map ze3 c.elements),.s (List.map ze0 c.limits),c.repeats,c.bonus,c.keeps,c.fall]) ?_)
 refine AO.pu T (d:=.g [.s (List.map ze2 p.items),.s (List.map ze1 p.marks.grades),.s (List.map ze1 p.marks.components),p.slips.falls,p.slips.seconds,p.slips.other]) ?_
 refine AO.w (cVs (qGY fuel _ _ _ (hx4))) ?_
 refine AO.p2 T ?_
 refine AO.n (AW.t ?_)
 have hR:=zS hH;subst hR
 exact retQ.i [] rfl (.t (zG (.c .v) (zG (.c .v) (zGn))))

def qCS (c:Code):List ByteArray→Nat→Option (Except Bool Unit)
 | [],k74 =>
  some (.ok ())
 | y75::ys76,k74 =>
  (qEn c y75).bind fun x85 =>
  cond (decide (x85 < 0))
   (some (.error false))
   (qCS c ys76 (k74+1))
def qCN (c:Code):List Item→Nat→Option Bool
 | [],k1 =>
  some true
 | y2::ys3,k1 =>
  (qCS c y2.names 0).bind fun o72=>qKp o72 fun _ =>
  qCN c ys3 (k1+1)
def qHj (c:Code) (l:List Item):Option Bool :=
 qCN c l 0
theorem qMD (c:Code) (l:List Item) (r:Bool) (hH:qHj c l=some r):qAE Tryz.prog 146 [.g (ze7 c),.s (List.map ze2 l)] (.v (.bool r)):=by
 refine fns T Tryz.func146 ?_
 refine AW.q (AW.r (AO.x (bxs T 1) ?_))
 refine AO.pu T ?_
 refine AO.n (AW.q (AW.q ?_))
 refine AW.r (AO.pu T ?_)
 refine AO.w (qCC T) ?_
 refine AO.pu T ?_
 refine AO.n (AW.b ?_)
 refine AW.loopS (fun s:Nat=>(⟨[(2,.p 1 0),(9,.s (List.map ze2 l)),(10,(l.length:Int)),(11,(s:Int))],[(1,.box [.s (List.map ze3 c.elements),.s (List.map ze0 c.limits),c.repeats,c.bonus,c.keeps,c.fall])],28,[]⟩:St)) (fun s=>s ≤ l.length∧qCN c (l.drop s) s=some r) (fun s=>l.length - s) 0 ⟨Nat.zero_le _,hH⟩ ?_ ?_
 exact Le.ct 0 0
 rintro k1 ⟨hk,hH⟩
 replace hH:qCN c (l.drop k1) k1=some r:=hH
 try dsimp only
 refine AW.boundM (t:=9) (l:=l) rfl (fun hb5=>?_)
 rcases hd4:l.drop k1 with _ | ⟨y2,ys3⟩
 rw [hd4,qCN] at hH
 have hlt6:=qAJ hd4
 refine AW.q (AW.r (AO.pu T ?_))
 refine AO.n (AW.q (AW.condF' (b:=decide ((k1:Int) < (l.length:Int))) rfl (qEQ hlt6) ?_))
 refine AW.exit (AW.q (AW.r ?_))
 refine AO.pu T ?_
 refine AO.n (AW.t ?_)
 have hR:=zS hH;subst hR
 exact retQ.i [] rfl (.c (.c .v))
 rw [hd4,qCN] at hH
 have hlt6:=qAK hd4
 refine AW.q (AW.r (AO.pu T ?_))
 refine AO.n (AW.q (AW.condT' (b:=decide ((k1:Int) < (l.length:Int))) rfl (qER hlt6) ?_))
 refine AW.k ?_
 obtain ⟨o72,hH,hK73⟩:=zB hH
 refine AW.seqJ (fun s:Unit=>(⟨[(2,.p 1 0),(9,.s (List.map ze2 l)),(10,(l.length:Int)),(11,(k1:Int))],[(1,.box [.s (List.map ze3 c.elements),.s (List.map ze0 c.limits),c.repeats,c.bonus,c.keeps,c.fall])],28,[]⟩:St)) (fun s=>.ok s=o72) ?_ ?_
 refine AW.b (AW.q (AW.r ?_))
 refine AO.w (ixs T (zgD hd4)) ?_
 refine AO.pu T (d:=.g [.s (List.map ze5 y2.names),.s (List.map ze0 y2.marks),.v (.bool y2.late)]) ?_
 refine AO.x (als T 7) ?_
 refine AO.se T [.s (List.map ze5 y2.names),.s (List.map ze0 y2.marks),.v (.bool y2.late)] ?_
 refine AO.n (AW.q (AW.r ?_))
 refine AO.p2 T ?_
 refine AO.w (qCC T) ?_
 refine AO.pu T ?_
 refine AO.n (AW.b ?_)
 refine AW.loopS (fun s:Nat=>(⟨[(2,.p 1 0),(9,.s (List.map ze2 l)),(10,(l.length:Int)),(11,(k1:Int)),(16,.s (List.map ze5 y2.names)),(17,(y2.names.length:Int)),(18,(s:Int))],[(1,.box [.s (List.map ze3 c.elements),.s (List.map ze0 c.limits),c.repeats,c.bonus,c.keeps,c.fall])],28,[]⟩:St)) (fun s=>s ≤ y2.names.length∧qCS c (y2.names.drop s) s=some o72) (fun s=>y2.names.length - s) 0 ⟨Nat.zero_le _,hH⟩ ?_ ?_
 exact Le.ct 0 0
 rintro k74 ⟨hk,hH⟩
 replace hH:qCS c (y2.names.drop k74) k74=some o72:=hH
 try dsimp only
 refine AW.boundM (t:=16) (l:=y2.names) rfl (fun hb78=>?_)
 rcases hd77:y2.names.drop k74 with _ | ⟨y75,ys76⟩
 rw [hd77,qCS] at hH
 have hlt79:=qAJ hd77
 refine AW.q (AW.r (AO.pu T ?_))
 refine AO.n (AW.q (AW.condF' (b:=decide ((k74:Int) < (y2.names.length:Int))) rfl (qEQ hlt79) ?_))
 refine AW.exit ?_
 refine ⟨_,zS hH,?_⟩
 exact Le.ct 0 0
 rw [hd77,qCS] at hH
 have hlt79:=qAK hd77
 refine AW.q (AW.r (AO.pu T ?_))
 refine AO.n (AW.q (AW.condT' (b:=decide ((k74:Int) < (y2.names.length:Int))) rfl (qER hlt79) ?_))
 refine AW.k (AW.q ?_)
 refine AW.b (AW.q (AW.r ?_))
 refine AO.w (ixs T (zgD hd77)) ?_
 refine AO.p2 T ?_
 refine AO.n (AW.q ?_)
 obtain ⟨x85,hx86,hH⟩:=zB hH
 refine AW.r (AO.pu T (d:=.g [.s (List.map ze3 c.elements),.s (List.map ze0 c.limits),c.repeats,c.bonus,c.keeps,c.fall]) ?_)
 refine AO.pu T ?_
 refine AO.w (cVs (qGN _ _ _ (hx86))) ?_
 refine AO.pu T ?_
 refine AO.n (AW.c (b:=decide (x85 < 0)) rfl (fun hc=>?_) (fun hc=>?_))
 replace hH:=condT hc hH
 refine AW.q (AW.r (AO.pu T ?_))
 refine AO.n (AW.t ?_)
 obtain rfl:=zS hH
 replace hH:=hK73
 have hR:=zS hH;subst hR
 exact retQ.i [] rfl (.c (.c .v))
 replace hH:=condF hc hH
 refine AW.k (AW.r ?_)
 refine AO.w (zR rfl rfl rfl rfl (zK hlt79 hb78)) ?_
 refine AO.pu T ?_
 refine AO.n ?_
 refine ⟨k74+1,⟨Nat.succ_le_of_lt hlt79,(by rw [zds hd77];exact hH)⟩,(by have:=hlt79;dsimp only;omega),?_⟩
 exact Le.ct 0 0
 rintro _ hs
 subst hs
 replace hH:=hK73
 try dsimp only [qKp,qID] at hH
 try dsimp only
 refine AW.r (AO.w (zR rfl rfl rfl rfl (zK hlt6 hb5)) ?_)
 refine AO.pu T ?_
 refine AO.n ?_
 refine ⟨k1+1,⟨Nat.succ_le_of_lt hlt6,(by rw [zds hd4];exact hH)⟩,(by have:=hlt6;dsimp only;omega),?_⟩
 exact Le.ct 0 0

def qIJ (fuel:Nat) (c:Code) (l:List Item):Option Bool :=
 (qEs fuel c).bind fun x1 =>
 (opt x1 default (qGq fuel l)).bind fun x3 =>
 (opt (x1 && x3) default (qHj c l)).bind fun x5 =>
 some ((x1 && x3) && x5)
theorem qNL (fuel:Nat) (c:Code) (l:List Item) (r:Bool) (hH:qIJ fuel c l=some r):qAE Tryz.prog 115 [.g (ze7 c),.s (List.map ze2 l)] (.v (.bool r)):=by
 refine fns T Tryz.func115 ?_
 refine AW.q (AW.r (AO.x (bxs T 1) ?_))
 refine AO.pu T ?_
 refine AO.n (AW.q ?_)
 obtain ⟨x1,hx2,hH⟩:=zB hH
 obtain ⟨x3,hx4,hH⟩:=zB hH
 obtain ⟨x5,hx6,hH⟩:=zB hH
 refine AW.r (AO.pu T (d:=.g [.s (List.map ze3 c.elements),.s (List.map ze0 c.limits),c.repeats,c.bonus,c.keeps,c.fall]) ?_)
 refine AO.w (cVs (qHr fuel _ _ (hx2))) ?_
 refine AO.pu T ?_
 refine AO.g T [] rfl trivial rfl rfl ?_
 refine AO.d [8] rfl ⟨fun h=>h,trivial⟩ (fun hg=>zV rfl rfl rfl rfl (qJz fuel _ _ (qEA hx4 hg)) rfl) rfl ?_
 refine AO.w qFy ?_
 refine AO.pu T ?_
 refine AO.g T (d:=.g [.s (List.map ze3 c.elements),.s (List.map ze0 c.limits),c.repeats,c.bonus,c.keeps,c.fall]) [] rfl trivial rfl rfl ?_
 refine AO.g T [] rfl trivial rfl rfl ?_
 refine AO.d [12,13] rfl ⟨fun h=>h,fun h=>h,trivial⟩ (fun hg=>zV rfl rfl rfl rfl (qMD _ _ _ (qEA hx6 hg)) rfl) rfl ?_
 refine AO.w qFy ?_
 refine AO.pu T ?_
 refine AO.n (AW.t ?_)
 have hR:=zS hH;subst hR
 exact retQ.i [] rfl (.c (.c .v))

def qIT (m:Marks) (items:Int):Option Bool :=
 (qEB m).bind fun x1 =>
 some (x1 && ((m.grades.length:Int) == items))
theorem qMz (m:Marks) (items:Int) (r:Bool) (hH:qIT m items=some r):qAE Tryz.prog 116 [.g (qBN m),items] (.v (.bool r)):=by
 refine fns T Tryz.func116 ?_
 refine AW.q (AW.r (AO.x (bxs T 1) ?_))
 refine AO.pu T ?_
 refine AO.n (AW.q ?_)
 obtain ⟨x1,hx2,hH⟩:=zB hH
 refine AW.r (AO.pu T (d:=.g [.s (List.map ze1 m.grades),.s (List.map ze1 m.components)]) ?_)
 refine AO.w (cVs (qIi _ _ (hx2))) ?_
 refine AO.pu T ?_
 refine AO.g T [] rfl trivial rfl rfl ?_
 refine AO.g T [8] rfl ⟨fun h=>h,trivial⟩ rfl rfl ?_
 refine AO.d [9] rfl ⟨fun h=>h,trivial⟩ (fun hg=>zL T rfl rfl rfl) rfl ?_
 refine AO.g T [] rfl trivial rfl rfl ?_
 refine AO.g T [10,11] rfl ⟨fun h=>h,fun h=>h,trivial⟩ rfl rfl ?_
 refine AO.w qFy ?_
 refine AO.pu T ?_
 refine AO.n (AW.t ?_)
 have hR:=zS hH;subst hR
 exact retQ.i [] rfl (.c (.c .v))

def qIO (fuel:Nat) (c:Code) (l:List Item) (m:Marks):Option Bool :=
 (qIJ fuel c l).bind fun x1 =>
 (opt x1 default (qIT m (l.length:Int))).bind fun x3 =>
 some (x1 && x3)
theorem qM7 (fuel:Nat) (c:Code) (l:List Item) (m:Marks) (r:Bool) (hH:qIO fuel c l m=some r):qAE Tryz.prog 70 [.g (ze7 c),.s (List.map ze2 l),.g (qBN m)] (.v (.bool r)):=by
 refine fns T Tryz.func70 ?_
 refine AW.q (AW.r (AO.x (bxs T 1) ?_))
 refine AO.x (bxs T 2) ?_
 refine AO.pu T ?_
 refine AO.n (AW.q ?_)
 obtain ⟨x1,hx2,hH⟩:=zB hH
 obtain ⟨x3,hx4,hH⟩:=zB hH
 refine AW.r (AO.pu T (d:=.g [.s (List.map ze3 c.elements),.s (List.map ze0 c.limits),c.repeats,c.bonus,c.keeps,c.fall]) ?_)
 refine AO.pu T ?_
 refine AO.w (cVs (qNL fuel _ _ _ (hx2))) ?_
 refine AO.pu T ?_
 refine AO.g T (d:=.g [.s (List.map ze1 m.grades),.s (List.map ze1 m.components)]) [] rfl trivial rfl rfl ?_
 refine AO.g T [] rfl trivial rfl rfl ?_
 refine AO.d [12] rfl ⟨fun h=>h,trivial⟩ (fun hg=>zL T rfl rfl rfl) rfl ?_
 refine AO.d [11,13] rfl ⟨fun h=>h,fun h=>h,trivial⟩ (fun hg=>zV rfl rfl rfl rfl (qMz _ _ _ (qEA hx4 hg)) rfl) rfl ?_
 refine AO.w qFy ?_
 refine AO.pu T ?_
 refine AO.n (AW.t ?_)
 have hR:=zS hH;subst hR
 exact retQ.i [] rfl (.c (.c .v))

def qGm (sA:Slips):Option Bool :=
 (qAp sA.falls 0 9).bind fun x1 =>
 (opt x1 default (qAp sA.seconds 0 60)).bind fun x3 =>
 (opt (x1 && x3) default (qAp sA.other 0 500)).bind fun x5 =>
 some ((x1 && x3) && x5)
theorem qNA (sA:Slips) (r:Bool) (hH:qGm sA=some r):qAE Tryz.prog 71 [.g (qJh sA)] (.v (.bool r)):=by
 refine fns T Tryz.func71 ?_
 refine AW.q (AW.r (AO.x (bxs T 1) ?_))
 refine AO.pu T ?_
 refine AO.n (AW.q ?_)
 obtain ⟨x1,hx2,hH⟩:=zB hH
 obtain ⟨x3,hx4,hH⟩:=zB hH
 obtain ⟨x5,hx6,hH⟩:=zB hH
 refine AW.r (AO.p2 T ?_)
 refine AO.w (cVs (qAt _ _ _ _ (hx2))) ?_
 refine AO.pu T ?_
 refine AO.g T [] rfl trivial rfl rfl ?_
 refine AO.g T [7] rfl ⟨fun h=>h,trivial⟩ rfl rfl ?_
 refine AO.d [8] rfl ⟨fun h=>h,trivial⟩ (fun hg=>zV rfl rfl rfl rfl (qAt _ _ _ _ (qEA hx4 hg)) rfl) rfl ?_
 refine AO.w qFy ?_
 refine AO.pu T ?_
 refine AO.g T [] rfl trivial rfl rfl ?_
 refine AO.g T [12] rfl ⟨fun h=>h,trivial⟩ rfl rfl ?_
 refine AO.d [13] rfl ⟨fun h=>h,trivial⟩ (fun hg=>zV rfl rfl rfl rfl (qAt _ _ _ _ (qEA hx6 hg)) rfl) rfl ?_
 refine AO.w qFy ?_
 refine AO.pu T ?_
 refine AO.n (AW.t ?_)
 have hR:=zS hH;subst hR
 exact retQ.i [] rfl (.c (.c .v))

def qDM (fuel:Nat) (c:Code) (p:Performance):Option Bool :=
 (qIO fuel c p.items p.marks).bind fun x1 =>
 (opt x1 default (qGm p.slips)).bind fun x3 =>
 some (x1 && x3)
theorem qJ1 (fuel:Nat) (c:Code) (p:Performance) (r:Bool) (hH:qDM fuel c p=some r):qAE Tryz.prog 28 [.g (ze7 c),.g (qGl p)] (.v (.bool r)):=by
 refine fns T Tryz.func28 ?_
 refine AW.q (AW.r (AO.x (bxs T 1) ?_))
 refine AO.x (bxs T 2) ?_
 refine AO.pu T ?_
 refine AO.n (AW.q ?_)
 obtain ⟨x1,hx2,hH⟩:=zB hH
 obtain ⟨x3,hx4,hH⟩:=zB hH
 refine AW.r (AO.pu T (d:=.g [.s (List.map ze3 c.elements),.s (List.map ze0 c.limits),c.repeats,c.bonus,c.keeps,c.fall]) ?_)
 iterate 3 refine AO.pu T ?_
 refine AO.pu T (d:=.g [.s (List.map ze1 p.marks.grades),.s (List.map ze1 p.marks.components)]) ?_
 refine AO.w (cVs (qM7 fuel _ _ _ _ (hx2))) ?_
 refine AO.pu T ?_
 refine AO.g T [] rfl trivial rfl rfl ?_
 refine AO.g T (d:=.g [p.slips.falls,p.slips.seconds,p.slips.other]) [12] rfl ⟨fun h=>h,trivial⟩ rfl rfl ?_
 refine AO.d [13] rfl ⟨fun h=>h,trivial⟩ (fun hg=>zV rfl rfl rfl rfl (qNA _ _ (qEA hx4 hg)) rfl) rfl ?_
 refine AO.w qFy ?_
 refine AO.pu T ?_
 refine AO.n (AW.t ?_)
 have hR:=zS hH;subst hR
 exact retQ.i [] rfl (.c (.c .v))

def qCW (fuel:Nat) (c:Code) (p:Performance):Option (Bool × Bool) :=
 (qEs fuel c).bind fun x1 =>
 cond (!x1)
  (some (false,false))
  ((qDM fuel c p).bind fun x3 =>
  some (x3,true))
theorem qGZ (fuel:Nat) (c:Code) (p:Performance) (r:(Bool × Bool)) (hH:qCW fuel c p=some r):qAE Tryz.prog 6 [.g (ze7 c),.g (qGl p)] (.t [.v (.bool r.1),.v (.bool r.2)]):=by
 refine fns T Tryz.func6 ?_
 refine AW.q (AW.r (AO.x (bxs T 1) ?_))
 refine AO.x (bxs T 2) ?_
 refine AO.p2 T ?_
 refine AO.n (AW.q (AW.q ?_))
 obtain ⟨x1,hx2,hH⟩:=zB hH
 refine AW.r (AO.pu T (d:=.g [.s (List.map ze3 c.elements),.s (List.map ze0 c.limits),c.repeats,c.bonus,c.keeps,c.fall]) ?_)
 refine AO.w (cVs (qHr fuel _ _ (hx2))) ?_
 refine AO.pu T ?_
 refine AO.n (AW.c (b:=(!x1)) rfl (fun hc=>?_) (fun hc=>?_))
 replace hH:=condT hc hH
 refine AW.q (AW.r (AO.p2 T ?_))
 refine AO.n (AW.t ?_)
 have hR:=zS hH;subst hR
 exact retQ.i [] rfl (.t (zG (.c .v) (zG (.c .v) (zGn))))
 replace hH:=condF hc hH
 refine AW.k (AW.q ?_)
 obtain ⟨x3,hx4,hH⟩:=zB hH
 refine AW.r (AO.pu T (d:=.g [.s (List.map ze3 c.elements),.s (List.map ze0 c.limits),c.repeats,c.bonus,c.keeps,c.fall]) ?_)
 refine AO.pu T (d:=.g [.s (List.map ze2 p.items),.s (List.map ze1 p.marks.grades),.s (List.map ze1 p.marks.components),p.slips.falls,p.slips.seconds,p.slips.other]) ?_
 refine AO.w (cVs (qJ1 fuel _ _ _ (hx4))) ?_
 refine AO.p2 T ?_
 refine AO.n (AW.t ?_)
 have hR:=zS hH;subst hR
 exact retQ.i [] rfl (.t (zG (.c .v) (zG (.c .v) (zGn))))

def qG2 (factor:Int):Option Bool :=
 (qAM factor 10 400).bind fun x1 =>
 some x1
theorem qLR (factor:Int) (r:Bool) (hH:qG2 factor=some r):qAE Tryz.prog 72 [factor] (.v (.bool r)):=by
 refine fns T Tryz.func72 ?_
 refine AW.q (AW.r (AO.pu T ?_))
 refine AO.n (AW.q ?_)
 obtain ⟨x1,hx2,hH⟩:=zB hH
 refine AW.r (AO.pu T ?_)
 refine AO.w (cVs (qAP _ _ _ _ (hx2))) ?_
 refine AO.pu T ?_
 refine AO.n (AW.t ?_)
 have hR:=zS hH;subst hR
 exact retQ.i [] rfl (.c (.c .v))

def qDZ (fuel:Nat) (c:Code) (p:Performance) (factor:Int):Option Bool :=
 (qAi fuel c p).bind fun x1 =>
 (opt x1 default (qG2 factor)).bind fun x3 =>
 some (x1 && x3)
theorem qFP (fuel:Nat) (c:Code) (p:Performance) (factor:Int) (r:Bool) (hH:qDZ fuel c p factor=some r):qAE Tryz.prog 29 [.g (ze7 c),.g (qGl p),factor] (.v (.bool r)):=by
 refine fns T Tryz.func29 ?_
 refine AW.q (AW.r (AO.x (bxs T 1) ?_))
 refine AO.x (bxs T 2) ?_
 refine AO.pu T ?_
 refine AO.n (AW.q ?_)
 obtain ⟨x1,hx2,hH⟩:=zB hH
 obtain ⟨x3,hx4,hH⟩:=zB hH
 refine AW.r (AO.pu T (d:=.g [.s (List.map ze3 c.elements),.s (List.map ze0 c.limits),c.repeats,c.bonus,c.keeps,c.fall]) ?_)
 refine AO.pu T (d:=.g [.s (List.map ze2 p.items),.s (List.map ze1 p.marks.grades),.s (List.map ze1 p.marks.components),p.slips.falls,p.slips.seconds,p.slips.other]) ?_
 refine AO.w (cVs (qGY fuel _ _ _ (hx2))) ?_
 refine AO.pu T ?_
 refine AO.g T [] rfl trivial rfl rfl ?_
 refine AO.d [11] rfl ⟨fun h=>h,trivial⟩ (fun hg=>zV rfl rfl rfl rfl (qLR _ _ (qEA hx4 hg)) rfl) rfl ?_
 refine AO.w qFy ?_
 refine AO.pu T ?_
 refine AO.n (AW.t ?_)
 have hR:=zS hH;subst hR
 exact retQ.i [] rfl (.c (.c .v))

def qAd (l:List Item) (k:Int):List Item→Nat→Int→Option Int
 | [],k3,v26 =>
  some v26
 | y4::ys5,k3,v26 =>
  (qAb y4.names 0).bind fun x28 =>
  (qAb l k).bind fun x30 =>
  (qAb x30.names 0).bind fun x32 =>
  (opt (decide (x28=x32)) default (qAb y4.marks 0)).bind fun x34 =>
  cond (decide (x28=x32) && (x34 != 3))
   (qAd l k ys5 (k3+1) (w64 (v26+1)))
   (qAd l k ys5 (k3+1) v26)
def qGd (l:List Item) (k:Int):Option Int :=
 (qCD l k).bind fun x1 =>
 qAd l k x1 0 0
theorem qKv (l:List Item) (k:Int) (r:Int) (hH:qGd l k=some r):qAE Tryz.prog 127 [.s (List.map ze2 l),k] (.v (.int .i64 r)):=by
 refine fns T Tryz.func127 ?_
 refine AW.q (AW.r (AO.pu T ?_))
 refine AO.n (AW.q (AW.r ?_))
 refine AO.pu T ?_
 refine AO.n (AW.q (AW.q ?_))
 obtain ⟨x1,hx2,hH⟩:=zB hH
 refine AW.r (AO.p2 T ?_)
 refine AO.w (qAa T rfl rfl rfl rfl rfl (hx2) (fun _=>rfl)) ?_
 refine AO.w (qCC T) ?_
 refine AO.pu T ?_
 refine AO.n (AW.b ?_)
 refine AW.loopS (fun s:Nat × Int=>(⟨[(0,.s (List.map ze2 l)),(1,k),(5,s.2),(10,.s (List.map ze2 x1)),(11,(x1.length:Int)),(12,(s.1:Int))],[],39,[]⟩:St)) (fun s=>s.1 ≤ x1.length∧qAd l k (x1.drop s.1) s.1 s.2=some r) (fun s=>x1.length - s.1) (0,0) ⟨Nat.zero_le _,hH⟩ ?_ ?_
 exact Le.ct 0 0
 rintro ⟨k3,v26⟩ ⟨hk,hH⟩
 replace hH:qAd l k (x1.drop k3) k3 v26=some r:=hH
 try dsimp only
 refine AW.boundM (t:=10) (l:=x1) rfl (fun hb7=>?_)
 rcases hd6:x1.drop k3 with _ | ⟨y4,ys5⟩
 rw [hd6,qAd] at hH
 have hlt8:=qAJ hd6
 refine AW.q (AW.r (AO.pu T ?_))
 refine AO.n (AW.q (AW.condF' (b:=decide ((k3:Int) < (x1.length:Int))) rfl (qEQ hlt8) ?_))
 refine AW.exit (AW.q (AW.r ?_))
 refine AO.p2 T ?_
 refine AO.n (AW.t ?_)
 have hR:=zS hH;subst hR
 exact retQ.i [] rfl (.c (.c .v))
 rw [hd6,qAd] at hH
 have hlt8:=qAK hd6
 refine AW.q (AW.r (AO.pu T ?_))
 refine AO.n (AW.q (AW.condT' (b:=decide ((k3:Int) < (x1.length:Int))) rfl (qER hlt8) ?_))
 refine AW.k (AW.q ?_)
 refine AW.b (AW.q (AW.r ?_))
 refine AO.w (ixs T (zgD hd6)) ?_
 refine AO.pu T (d:=.g [.s (List.map ze5 y4.names),.s (List.map ze0 y4.marks),.v (.bool y4.late)]) ?_
 refine AO.x (als T 3) ?_
 refine AO.se T [.s (List.map ze5 y4.names),.s (List.map ze0 y4.marks),.v (.bool y4.late)] ?_
 refine AO.n (AW.q ?_)
 obtain ⟨x28,hx29,hH⟩:=zB hH
 obtain ⟨x30,hx31,hH⟩:=zB hH
 obtain ⟨x32,hx33,hH⟩:=zB hH
 obtain ⟨x34,hx35,hH⟩:=zB hH
 refine AW.drawn 11 4 [] mix (by kernel_rfl) rfl ?_
 iterate 2 refine AD.pu T ?_
 refine AD.vv (ixs T (hx29)) ?_
 iterate 3 refine AD.pu T ?_
 refine AD.vv (ixs T (hx31)) ?_
 iterate 2 refine AD.pu T ?_
 refine AD.vv (ixs T (hx33)) ?_
 refine AD.pu T ?_
 refine AD.nil (AO.p2 T ?_)
 refine AO.g T [] rfl trivial rfl rfl ?_
 refine AO.g T [29] rfl ⟨fun h=>h,trivial⟩ rfl rfl ?_
 refine AO.d [30] rfl ⟨fun h=>h,trivial⟩ (fun hg=>zX T rfl rfl rfl rfl rfl (qEA hx35 hg) rfl) rfl ?_
 refine AO.g T [31] rfl ⟨fun h=>h,trivial⟩ rfl rfl ?_
 refine AO.g T [32] rfl ⟨fun h=>h,trivial⟩ rfl rfl ?_
 refine AO.w qFy ?_
 refine AO.n (AW.le (Le.ct 0 0 (σ':=(⟨[(0,.s (List.map ze2 l)),(1,k),(5,v26),(10,.s (List.map ze2 x1)),(11,(x1.length:Int)),(12,(k3:Int)),(34,.v (.bool (decide (x28=x32) && (x34 != 3))))],[],39,[]⟩:St))) ?_)
 refine AW.c (b:=(decide (x28=x32) && (x34 != 3))) rfl (fun hc=>?_) (fun hc=>?_)
 replace hH:=condT hc hH
 refine AW.r (AO.pu T ?_)
 refine AO.w aws ?_
 refine AO.pu T ?_
 refine AO.n (AW.r ?_)
 refine AO.w (zR rfl rfl rfl rfl (zK hlt8 hb7)) ?_
 refine AO.pu T ?_
 refine AO.n ?_
 refine ⟨(k3+1,w64 (v26+1)),⟨Nat.succ_le_of_lt hlt8,(by rw [zds hd6];exact hH)⟩,(by have:=hlt8;dsimp only;omega),?_⟩
 exact Le.ct 0 0
 replace hH:=condF hc hH
 refine AW.k (AW.r ?_)
 refine AO.w (zR rfl rfl rfl rfl (zK hlt8 hb7)) ?_
 refine AO.pu T ?_
 refine AO.n ?_
 refine ⟨(k3+1,v26),⟨Nat.succ_le_of_lt hlt8,(by rw [zds hd6];exact hH)⟩,(by have:=hlt8;dsimp only;omega),?_⟩
 exact Le.ct 0 0

def qE9 (c:Code) (x:Element) (mark:Int):Option Int :=
 cond (mark == 1)
  ((qCw (100 != 0)).bind fun u1 =>
  some (w64 ((w64 (x.base * c.keeps)).tdiv 100)))
  (cond (mark == 2)
   ((qCw (10 != 0)).bind fun u3 =>
   some (w64 ((w64 (x.base * 9)).tdiv 10)))
   (cond (mark == 3)
    (some 0)
    (some x.base)))
theorem qMO (c:Code) (x:Element) (mark:Int) (r:Int) (hH:qE9 c x mark=some r):qAE Tryz.prog 158 [.g (ze7 c),.g (ze3 x),mark] (.v (.int .i64 r)):=by
 refine fns T Tryz.func158 ?_
 refine AW.q (AW.r (AO.x (bxs T 1) ?_))
 refine AO.x (bxs T 2) ?_
 refine AO.pu T ?_
 refine AO.n (AW.q (AW.q ?_))
 refine AW.r (AO.pu T ?_)
 refine AO.n (AW.b ?_)
 refine AW.q (AW.r (AO.p2 T ?_))
 refine AO.n (AW.c (b:=(mark == 1)) rfl (fun hc=>?_) (fun hc=>?_))
 replace hH:=condT hc hH
 refine AW.q ?_
 obtain ⟨u1,hx2,hH⟩:=zB hH
 refine AW.r ?_
 iterate 4 refine AO.pu T ?_
 refine AO.w aws ?_
 refine AO.w (qGi rfl rfl rfl (neZ (qA4 (hx2)))) ?_
 refine AO.pu T ?_
 refine AO.n (AW.t ?_)
 have hR:=zS hH;subst hR
 exact retQ.i [] rfl (.c (.c .v))
 replace hH:=condF hc hH
 refine AW.q (AW.r (AO.p2 T ?_))
 refine AO.n (AW.c (b:=(mark == 2)) rfl (fun hc=>?_) (fun hc=>?_))
 replace hH:=condT hc hH
 refine AW.q ?_
 obtain ⟨u3,hx4,hH⟩:=zB hH
 refine AW.r (AO.p2 T ?_)
 refine AO.w aws ?_
 refine AO.w (qGi rfl rfl rfl (neZ (qA4 (hx4)))) ?_
 refine AO.pu T ?_
 refine AO.n (AW.t ?_)
 have hR:=zS hH;subst hR
 exact retQ.i [] rfl (.c (.c .v))
 replace hH:=condF hc hH
 refine AW.q (AW.r (AO.p2 T ?_))
 refine AO.n (AW.c (b:=(mark == 3)) rfl (fun hc=>?_) (fun hc=>?_))
 replace hH:=condT hc hH
 refine AW.q (AW.r (AO.pu T ?_))
 refine AO.n (AW.t ?_)
 have hR:=zS hH;subst hR
 exact retQ.i [] rfl (.c (.c .v))
 replace hH:=condF hc hH
 refine AW.k (AW.q (AW.r ?_))
 iterate 3 refine AO.pu T ?_
 refine AO.n (AW.t ?_)
 have hR:=zS hH;subst hR
 exact retQ.i [] rfl (.c (.c .v))

def qCt (c:Code) (it:Item):List ByteArray→Nat→List Int→Option ((List Int))
 | [],k1,v28 =>
  some v28
 | y2::ys3,k1,v28 =>
  (qDw c y2).bind fun x30 =>
  (qAb c.elements x30).bind fun x32 =>
  (qAb it.marks (k1:Int)).bind fun x34 =>
  (qE9 c x32 x34).bind fun x36 =>
  (qCw (qBE 8 (v28.length+([x36]).length))).bind fun u38 =>
  qCt c it ys3 (k1+1) (v28++[x36])
def qGw (c:Code) (it:Item):Option (List Int) :=
 qCt c it it.names 0 []
theorem qJv (c:Code) (it:Item) (r:(List Int)) (hH:qGw c it=some r):qAE Tryz.prog 130 [.g (ze7 c),.g (ze2 it)] (.w 1 (r.map ze0)):=by
 refine fns T Tryz.func130 ?_
 refine AW.q (AW.r (AO.x (bxs T 1) ?_))
 refine AO.x (bxs T 2) ?_
 refine AO.pu T ?_
 refine AO.n (AW.q (AW.r ?_))
 refine AO.x (qHd T rfl rfl rfl rfl) ?_
 refine AO.pu T ?_
 refine AO.n (AW.q (AW.q ?_))
 refine AW.r (AO.p2 T ?_)
 refine AO.w (qCC T) ?_
 refine AO.pu T ?_
 refine AO.n (AW.b ?_)
 refine AW.loopS (fun s:Nat × (List Int)=>(⟨[(2,.p 1 0),(3,.p 2 0),(5,.R 6),(10,.s (List.map ze5 it.names)),(11,(it.names.length:Int)),(12,(s.1:Int))],[(1,.box [.s (List.map ze3 c.elements),.s (List.map ze0 c.limits),c.repeats,c.bonus,c.keeps,c.fall]),(2,.box [.s (List.map ze5 it.names),.s (List.map ze0 it.marks),.v (.bool it.late)]),(6,.row 1 (List.map ze0 s.2))],36,[]⟩:St)) (fun s=>s.1 ≤ it.names.length∧qCt c it (it.names.drop s.1) s.1 s.2=some r) (fun s=>it.names.length - s.1) (0,[]) ⟨Nat.zero_le _,hH⟩ ?_ ?_
 refine Le.trans (Le.void 5 6 1 rfl rfl) ?_
 exact Le.ct 0 0
 rintro ⟨k1,v28⟩ ⟨hk,hH⟩
 replace hH:qCt c it (it.names.drop k1) k1 v28=some r:=hH
 try dsimp only
 refine AW.boundM (t:=10) (l:=it.names) rfl (fun hb5=>?_)
 rcases hd4:it.names.drop k1 with _ | ⟨y2,ys3⟩
 rw [hd4,qCt] at hH
 have hlt6:=qAJ hd4
 refine AW.q (AW.r (AO.pu T ?_))
 refine AO.n (AW.q (AW.condF' (b:=decide ((k1:Int) < (it.names.length:Int))) rfl (qEQ hlt6) ?_))
 refine AW.exit (AW.q (AW.r ?_))
 refine AO.p2 T ?_
 refine AO.n (AW.t ?_)
 have hR:=zS hH;subst hR
 exact retQ.i [6] rfl (.c (.c (.rowR rfl)))
 rw [hd4,qCt] at hH
 have hlt6:=qAK hd4
 refine AW.q (AW.r (AO.pu T ?_))
 refine AO.n (AW.q (AW.condT' (b:=decide ((k1:Int) < (it.names.length:Int))) rfl (qER hlt6) ?_))
 refine AW.k (AW.q ?_)
 refine AW.b (AW.q (AW.r ?_))
 refine AO.pu T ?_
 refine AO.w (ixs T (zgD hd4)) ?_
 iterate 3 refine AO.pu T ?_
 refine AO.n ?_
 obtain ⟨x30,hx31,hH⟩:=zB hH
 obtain ⟨x32,hx33,hH⟩:=zB hH
 obtain ⟨x34,hx35,hH⟩:=zB hH
 obtain ⟨x36,hx37,hH⟩:=zB hH
 obtain ⟨u38,hx39,hH⟩:=zB hH
 refine AW.drawn 16 7 [] mix (by kernel_rfl) rfl ?_
 refine AD.pu T ?_
 refine AD.p T (d:=.g [.s (List.map ze3 c.elements),.s (List.map ze0 c.limits),c.repeats,c.bonus,c.keeps,c.fall]) rfl rfl rfl ?_
 iterate 2 refine AD.pu T ?_
 refine AD.p T (d:=.g [.s (List.map ze3 c.elements),.s (List.map ze0 c.limits),c.repeats,c.bonus,c.keeps,c.fall]) rfl rfl rfl ?_
 refine AD.pu T ?_
 refine AD.vv (cVs (qHN _ _ _ (hx31))) ?_
 refine AD.vv (ixs T (hx33)) ?_
 refine AD.p T (d:=.g [.v (.string x32.name),x32.family,x32.level,x32.base]) rfl rfl rfl ?_
 iterate 3 refine AD.pu T ?_
 refine AD.vv (ixs T (hx35)) ?_
 refine AD.pu T ?_
 refine AD.vv (cVs (qMO _ _ _ _ (hx37))) ?_
 refine AD.q (FStep.mk T (f:=ze0) (l:=[x36]) rfl rfl rfl rfl rfl rfl rfl rfl rfl (fun _=>rfl) rfl rfl rfl rfl) (by simp [qBV]) (Nat.le_succ _) rfl ?_
 refine AD.nil (AO.x (rvs T 8 (hfit:=by exact qA4 (hx39))) ?_)
 refine AO.pu T ?_
 refine AO.n (AW.le (Le.ct 0 0 (σ':=(⟨[(2,.p 1 0),(3,.p 2 0),(5,.R 8),(10,.s (List.map ze5 it.names)),(11,(it.names.length:Int)),(12,(k1:Int))],[(1,.box [.s (List.map ze3 c.elements),.s (List.map ze0 c.limits),c.repeats,c.bonus,c.keeps,c.fall]),(2,.box [.s (List.map ze5 it.names),.s (List.map ze0 it.marks),.v (.bool it.late)]),(8,.row 1 (List.map ze0 (v28++[x36])))],36,[]⟩:St))) ?_)
 refine AW.r (AO.w (zR rfl rfl rfl rfl (zK hlt6 hb5)) ?_)
 refine AO.pu T ?_
 refine AO.n ?_
 refine ⟨(k1+1,(v28++[x36])),⟨Nat.succ_le_of_lt hlt6,(by rw [zds hd4];exact hH)⟩,(by have:=hlt6;dsimp only;omega),?_⟩
 exact Le.ct 8 6

def qAW:List Int→Nat→Int→Option Int
 | [],k1,v8 =>
  some v8
 | y2::ys3,k1,v8 =>
  qAW ys3 (k1+1) (w64 (v8+y2))
def qA5 (l:List Int):Option Int :=
 qAW l 0 0
theorem qDX (l:List Int) (r:Int) (hH:qA5 l=some r):qAE Tryz.prog 80 [.s (List.map ze0 l)] (.v (.int .i64 r)):=by
 refine fns T Tryz.func80 ?_
 refine AW.q (AW.r (AO.pu T ?_))
 refine AO.n (AW.q (AW.r ?_))
 refine AO.pu T ?_
 refine AO.n (AW.q (AW.q ?_))
 refine AW.r (AO.pu T ?_)
 refine AO.w (qCC T) ?_
 refine AO.pu T ?_
 refine AO.n (AW.b ?_)
 refine AW.loopS (fun s:Nat × Int=>(⟨[(3,s.2),(6,.s (List.map ze0 l)),(7,(l.length:Int)),(8,(s.1:Int))],[],17,[]⟩:St)) (fun s=>s.1 ≤ l.length∧qAW (l.drop s.1) s.1 s.2=some r) (fun s=>l.length - s.1) (0,0) ⟨Nat.zero_le _,hH⟩ ?_ ?_
 exact Le.ct 0 0
 rintro ⟨k1,v8⟩ ⟨hk,hH⟩
 replace hH:qAW (l.drop k1) k1 v8=some r:=hH
 try dsimp only
 refine AW.boundM (t:=6) (l:=l) rfl (fun hb5=>?_)
 rcases hd4:l.drop k1 with _ | ⟨y2,ys3⟩
 rw [hd4,qAW] at hH
 have hlt6:=qAJ hd4
 refine AW.q (AW.r (AO.pu T ?_))
 refine AO.n (AW.q (AW.condF' (b:=decide ((k1:Int) < (l.length:Int))) rfl (qEQ hlt6) ?_))
 refine AW.exit (AW.q (AW.r ?_))
 refine AO.p2 T ?_
 refine AO.n (AW.t ?_)
 have hR:=zS hH;subst hR
 exact retQ.i [] rfl (.c (.c .v))
 rw [hd4,qAW] at hH
 have hlt6:=qAK hd4
 refine AW.q (AW.r (AO.pu T ?_))
 refine AO.n (AW.q (AW.condT' (b:=decide ((k1:Int) < (l.length:Int))) rfl (qER hlt6) ?_))
 refine AW.k (AW.q ?_)
 refine AW.b (AW.q (AW.r ?_))
 refine AO.w (ixs T (zgD hd4)) ?_
 refine AO.p2 T ?_
 refine AO.n (AW.r ?_)
 refine AO.p2 T ?_
 refine AO.w aws ?_
 refine AO.pu T ?_
 refine AO.n (AW.r ?_)
 refine AO.w (zR rfl rfl rfl rfl (zK hlt6 hb5)) ?_
 refine AO.pu T ?_
 refine AO.n ?_
 refine ⟨(k1+1,w64 (v8+y2)),⟨Nat.succ_le_of_lt hlt6,(by rw [zds hd4];exact hH)⟩,(by have:=hlt6;dsimp only;omega),?_⟩
 exact Le.ct 0 0

def qD8 (a:Int) (b:Int):Option Int :=
 (qCw (b != 0)).bind fun u1 =>
 cond (decide ((a.tmod b) < 0))
  (some (w64 ((w64 (a.tdiv b)) - 1)))
  (some (w64 (a.tdiv b)))
theorem qGh (a:Int) (b:Int) (r:Int) (hH:qD8 a b=some r):qAE Tryz.prog 84 [a,b] (.v (.int .i64 r)):=by
 refine fns T Tryz.func84 ?_
 refine AW.q (AW.r (AO.pu T ?_))
 refine AO.n (AW.q ?_)
 obtain ⟨u1,hx2,hH⟩:=zB hH
 refine AW.r (AO.p2 T ?_)
 refine AO.w (qGi rfl rfl rfl (neZ (qA4 (hx2)))) ?_
 refine AO.pu T ?_
 refine AO.n (AW.q (AW.q ?_))
 refine AW.r (AO.p2 T ?_)
 refine AO.w (qLP rfl rfl rfl (neZ (qA4 (hx2)))) ?_
 refine AO.pu T ?_
 refine AO.n (AW.c (b:=decide ((a.tmod b) < 0)) rfl (fun hc=>?_) (fun hc=>?_))
 replace hH:=condT hc hH
 refine AW.r (AO.pu T ?_)
 refine AO.w aws ?_
 refine AO.pu T ?_
 refine AO.n (AW.q (AW.r ?_))
 refine AO.p2 T ?_
 refine AO.n (AW.t ?_)
 have hR:=zS hH;subst hR
 exact retQ.i [] rfl (.c (.c .v))
 replace hH:=condF hc hH
 refine AW.k (AW.q (AW.r ?_))
 refine AO.p2 T ?_
 refine AO.n (AW.t ?_)
 have hR:=zS hH;subst hR
 exact retQ.i [] rfl (.c (.c .v))

def qCx (a:Int) (b:Int):Option Int :=
 (qD8 (w64 ((w64 (2 * a))+b)) (w64 (2 * b))).bind fun x1 =>
 some x1
theorem qEM (a:Int) (b:Int) (r:Int) (hH:qCx a b=some r):qAE Tryz.prog 85 [a,b] (.v (.int .i64 r)):=by
 refine fns T Tryz.func85 ?_
 refine AW.q (AW.r (AO.pu T ?_))
 refine AO.n (AW.q ?_)
 obtain ⟨x1,hx2,hH⟩:=zB hH
 refine AW.r (AO.pu T ?_)
 refine AO.w aws ?_
 refine AO.pu T ?_
 refine AO.w aws ?_
 refine AO.pu T ?_
 refine AO.w aws ?_
 refine AO.w (cVs (qGh _ _ _ (hx2))) ?_
 refine AO.pu T ?_
 refine AO.n (AW.t ?_)
 have hR:=zS hH;subst hR
 exact retQ.i [] rfl (.c (.c .v))

def qFd (c:Code) (it:Item):Option Int :=
 (qGw c it).bind fun x1 =>
 (qA5 x1).bind fun x3 =>
 cond it.late
  ((qCx (w64 (x3 * (w64 (100+c.bonus)))) 100).bind fun x5 =>
  some x5)
  (some x3)
theorem qLb (c:Code) (it:Item) (r:Int) (hH:qFd c it=some r):qAE Tryz.prog 128 [.g (ze7 c),.g (ze2 it)] (.v (.int .i64 r)):=by
 refine fns T Tryz.func128 ?_
 refine AW.q (AW.r (AO.x (bxs T 1) ?_))
 refine AO.x (bxs T 2) ?_
 refine AO.pu T ?_
 refine AO.n (AW.q ?_)
 obtain ⟨x1,hx2,hH⟩:=zB hH
 obtain ⟨x3,hx4,hH⟩:=zB hH
 refine AW.r (AO.pu T (d:=.g [.s (List.map ze3 c.elements),.s (List.map ze0 c.limits),c.repeats,c.bonus,c.keeps,c.fall]) ?_)
 refine AO.pu T (d:=.g [.s (List.map ze5 it.names),.s (List.map ze0 it.marks),.v (.bool it.late)]) ?_
 refine AO.x (qBk rfl 3 rfl rfl rfl (qJv _ _ _ (hx2)) rfl rfl rfl) ?_
 refine AO.w (zLV rfl rfl rfl (es:=[.s (List.map ze0 x1)]) ⟨(.rowR rfl (.map fun y=>.vs rfl)),trivial⟩ (qDX _ _ (hx4)) (qAF _) rfl) ?_
 refine AO.pu T ?_
 refine AO.n (AW.q (AW.q ?_))
 refine AW.r (AO.p2 T ?_)
 refine AO.n (AW.c (b:=it.late) rfl (fun hc=>?_) (fun hc=>?_))
 replace hH:=condT hc hH
 obtain ⟨x5,hx6,hH⟩:=zB hH
 refine AW.r ?_
 iterate 3 refine AO.pu T ?_
 iterate 2 refine AO.w aws ?_
 refine AO.w (cVs (qEM _ _ _ (hx6))) ?_
 refine AO.pu T ?_
 refine AO.n (AW.q (AW.r ?_))
 refine AO.p2 T ?_
 refine AO.n (AW.t ?_)
 have hR:=zS hH;subst hR
 exact retQ.i [] rfl (.c (.c .v))
 replace hH:=condF hc hH
 refine AW.k (AW.q (AW.r ?_))
 refine AO.p2 T ?_
 refine AO.n (AW.t ?_)
 have hR:=zS hH;subst hR
 exact retQ.i [] rfl (.c (.c .v))

def qC2 (c:Code) (l:List Item) (k:Int):Option Int :=
 (qGd l k).bind fun x1 =>
 (qAb l k).bind fun x3 =>
 (qFd c x3).bind fun x5 =>
 cond (decide (x1 < c.repeats))
  (some x5)
  (cond (x1 == c.repeats)
   ((qCw (10 != 0)).bind fun u7 =>
   some (w64 ((w64 (x5 * 7)).tdiv 10)))
   (some 0))
theorem qGe (c:Code) (l:List Item) (k:Int) (r:Int) (hH:qC2 c l k=some r):qAE Tryz.prog 82 [.g (ze7 c),.s (List.map ze2 l),k] (.v (.int .i64 r)):=by
 refine fns T Tryz.func82 ?_
 refine AW.q (AW.r (AO.x (bxs T 1) ?_))
 refine AO.pu T ?_
 refine AO.n (AW.q ?_)
 obtain ⟨x1,hx2,hH⟩:=zB hH
 obtain ⟨x3,hx4,hH⟩:=zB hH
 obtain ⟨x5,hx6,hH⟩:=zB hH
 refine AW.drawn 8 2 [] mix (by kernel_rfl) rfl ?_
 iterate 2 refine AD.pu T ?_
 refine AD.vv (cVs (qKv _ _ _ (hx2))) ?_
 refine AD.p T (d:=.g [.s (List.map ze3 c.elements),.s (List.map ze0 c.limits),c.repeats,c.bonus,c.keeps,c.fall]) rfl rfl rfl ?_
 iterate 2 refine AD.pu T ?_
 refine AD.vv (ixs T (hx4)) ?_
 refine AD.p T (d:=.g [.s (List.map ze5 x3.names),.s (List.map ze0 x3.marks),.v (.bool x3.late)]) rfl rfl rfl ?_
 refine AD.nil (AO.w (cVs (qLb _ _ _ (hx6))) ?_)
 refine AO.p2 T ?_
 refine AO.n (AW.q (AW.b ?_))
 refine AW.q (AW.r ?_)
 iterate 5 refine AO.pu T ?_
 refine AO.n (AW.c (b:=decide (x1 < c.repeats)) rfl (fun hc=>?_) (fun hc=>?_))
 replace hH:=condT hc hH
 refine AW.q (AW.r (AO.p2 T ?_))
 refine AO.n (AW.t ?_)
 have hR:=zS hH;subst hR
 exact retQ.i [] rfl (.c (.c .v))
 replace hH:=condF hc hH
 refine AW.q (AW.r ?_)
 iterate 5 refine AO.pu T ?_
 refine AO.n (AW.c (b:=(x1 == c.repeats)) rfl (fun hc=>?_) (fun hc=>?_))
 replace hH:=condT hc hH
 refine AW.q ?_
 obtain ⟨u7,hx8,hH⟩:=zB hH
 refine AW.r (AO.pu T ?_)
 refine AO.w aws ?_
 refine AO.w (qGi rfl rfl rfl (neZ (qA4 (hx8)))) ?_
 refine AO.pu T ?_
 refine AO.n (AW.le (Le.ct 0 0 (σ':=(⟨[(6,w64 ((w64 (x5 * 7)).tdiv 10))],[],32,[]⟩:St))) ?_)
 refine AW.t ?_
 have hR:=zS hH;subst hR
 exact retQ.i [] rfl (.c (.c .v))
 replace hH:=condF hc hH
 refine AW.k (AW.q (AW.r ?_))
 refine AO.pu T ?_
 refine AO.n (AW.le (Le.ct 0 0 (σ':=(⟨[(6,(0:Int))],[],32,[]⟩:St))) ?_)
 refine AW.t ?_
 have hR:=zS hH;subst hR
 exact retQ.i [] rfl (.c (.c .v))

def qAx (x:List Int):Nat→Int→Int→Option Int
 | 0,_,_=>none
 | k3+1,v10,v11 =>
  cond (decide (v11 < (x.length:Int)))
   ((qAb x v11).bind fun x13 =>
   qAx x k3 (max v10 x13) (w64 (v11+1)))
   (some v10)
def qDk (fuel:Nat) (x:List Int):Option Int :=
 cond (decide ((x.length:Int) < 1))
  (none)
  ((qAb x 0).bind fun x1 =>
  qAx x fuel x1 1)
theorem qIF (fuel:Nat) (x:List Int) (r:Int) (hH:qDk fuel x=some r):qAE Tryz.prog 129 [.s (List.map ze0 x)] (.v (.int .i64 r)):=by
 refine fns T Tryz.func129 ?_
 refine AW.q (AW.r (AO.pu T ?_))
 refine AO.n (AW.q (AW.q ?_))
 refine AW.r (AO.pu T ?_)
 refine AO.w (qCC T) ?_
 refine AO.pu T ?_
 refine AO.n (AW.c (b:=decide ((x.length:Int) < 1)) rfl (fun hc=>?_) (fun hc=>?_))
 replace hH:=condT hc hH
 cases hH
 replace hH:=condF hc hH
 refine AW.k (AW.q ?_)
 obtain ⟨x1,hx2,hH⟩:=zB hH
 refine AW.r (AO.pu T ?_)
 refine AO.w (ixs T (hx2)) ?_
 refine AO.p2 T ?_
 refine AO.n (AW.q (AW.q ?_))
 refine AW.r (AO.pu T ?_)
 refine AO.n (AW.b ?_)
 refine AW.loopS (fun s:Nat × Int × Int=>(⟨[(0,.s (List.map ze0 x)),(3,s.2.1),(4,s.2.2)],[],25,[]⟩:St)) (fun s=>qAx x s.1 s.2.1 s.2.2=some r) (fun s=>s.1) (fuel,x1,1) hH ?_ ?_
 exact Le.ct 0 0
 rintro ⟨k3,v10,v11⟩ hH
 replace hH:qAx x k3 v10 v11=some r:=hH
 try dsimp only
 rcases k3 with _ | k3
 cases (show none=some _ from hH)
 rw [qAx] at hH
 refine AW.q (AW.q (AW.r ?_))
 refine AO.p2 T ?_
 refine AO.w (qCC T) ?_
 refine AO.pu T ?_
 refine AO.n (AW.c (b:=decide (v11 < (x.length:Int))) rfl (fun hc=>?_) (fun hc=>?_))
 replace hH:=condT hc hH
 refine AW.k (AW.q ?_)
 refine AW.b ?_
 obtain ⟨x13,hx14,hH⟩:=zB hH
 refine AW.r ?_
 iterate 3 refine AO.pu T ?_
 refine AO.w (ixs T (hx14)) ?_
 refine AO.pu T ?_
 refine AO.w (qPv rfl rfl rfl) ?_
 refine AO.pu T ?_
 refine AO.n (AW.r ?_)
 refine AO.pu T ?_
 refine AO.w aws ?_
 refine AO.pu T ?_
 refine AO.n ?_
 refine ⟨(k3,(max v10 x13),w64 (v11+1)),hH,Nat.lt_succ_self _,?_⟩
 exact Le.ct 0 0
 replace hH:=condF hc hH
 refine AW.exit (AW.q (AW.r ?_))
 refine AO.p2 T ?_
 refine AO.n (AW.t ?_)
 have hR:=zS hH;subst hR
 exact retQ.i [] rfl (.c (.c .v))

def qCA (x:List Int):Nat→Int→Int→Option Int
 | 0,_,_=>none
 | k3+1,v10,v11 =>
  cond (decide (v11 < (x.length:Int)))
   ((qAb x v11).bind fun x13 =>
   qCA x k3 (min v10 x13) (w64 (v11+1)))
   (some v10)
def qFI (fuel:Nat) (x:List Int):Option Int :=
 cond (decide ((x.length:Int) < 1))
  (none)
  ((qAb x 0).bind fun x1 =>
  qCA x fuel x1 1)
theorem qLC (fuel:Nat) (x:List Int) (r:Int) (hH:qFI fuel x=some r):qAE Tryz.prog 199 [.s (List.map ze0 x)] (.v (.int .i64 r)):=by
 refine fns T Tryz.func199 ?_
 refine AW.q (AW.r (AO.pu T ?_))
 refine AO.n (AW.q (AW.q ?_))
 refine AW.r (AO.pu T ?_)
 refine AO.w (qCC T) ?_
 refine AO.pu T ?_
 refine AO.n (AW.c (b:=decide ((x.length:Int) < 1)) rfl (fun hc=>?_) (fun hc=>?_))
 replace hH:=condT hc hH
 cases hH
 replace hH:=condF hc hH
 refine AW.k (AW.q ?_)
 obtain ⟨x1,hx2,hH⟩:=zB hH
 refine AW.r (AO.pu T ?_)
 refine AO.w (ixs T (hx2)) ?_
 refine AO.p2 T ?_
 refine AO.n (AW.q (AW.q ?_))
 refine AW.r (AO.pu T ?_)
 refine AO.n (AW.b ?_)
 refine AW.loopS (fun s:Nat × Int × Int=>(⟨[(0,.s (List.map ze0 x)),(3,s.2.1),(4,s.2.2)],[],25,[]⟩:St)) (fun s=>qCA x s.1 s.2.1 s.2.2=some r) (fun s=>s.1) (fuel,x1,1) hH ?_ ?_
 exact Le.ct 0 0
 rintro ⟨k3,v10,v11⟩ hH
 replace hH:qCA x k3 v10 v11=some r:=hH
 try dsimp only
 rcases k3 with _ | k3
 cases (show none=some _ from hH)
 rw [qCA] at hH
 refine AW.q (AW.q (AW.r ?_))
 refine AO.p2 T ?_
 refine AO.w (qCC T) ?_
 refine AO.pu T ?_
 refine AO.n (AW.c (b:=decide (v11 < (x.length:Int))) rfl (fun hc=>?_) (fun hc=>?_))
 replace hH:=condT hc hH
 refine AW.k (AW.q ?_)
 refine AW.b ?_
 obtain ⟨x13,hx14,hH⟩:=zB hH
 refine AW.r ?_
 iterate 3 refine AO.pu T ?_
 refine AO.w (ixs T (hx14)) ?_
 refine AO.pu T ?_
 refine AO.w (qOo rfl rfl rfl) ?_
 refine AO.pu T ?_
 refine AO.n (AW.r ?_)
 refine AO.pu T ?_
 refine AO.w aws ?_
 refine AO.pu T ?_
 refine AO.n ?_
 refine ⟨(k3,(min v10 x13),w64 (v11+1)),hH,Nat.lt_succ_self _,?_⟩
 exact Le.ct 0 0
 replace hH:=condF hc hH
 refine AW.exit (AW.q (AW.r ?_))
 refine AO.p2 T ?_
 refine AO.n (AW.t ?_)
 have hR:=zS hH;subst hR
 exact retQ.i [] rfl (.c (.c .v))

def qD6 (fuel:Nat) (l:List Int):Option (Int × Int) :=
 cond (decide ((l.length:Int) < 5))
  ((qA5 l).bind fun x1 =>
  some (x1,(l.length:Int)))
  ((qA5 l).bind fun x3 =>
  (qDk fuel l).bind fun x5 =>
  (qFI fuel l).bind fun x7 =>
  some (w64 ((w64 (x3 - x5)) - x7),w64 ((l.length:Int) - 2)))
theorem qHh (fuel:Nat) (l:List Int) (r:(Int × Int)) (hH:qD6 fuel l=some r):qAE Tryz.prog 156 [.s (List.map ze0 l)] (.t [.v (.int .i64 r.1),.v (.int .i64 r.2)]):=by
 refine fns T Tryz.func156 ?_
 refine AW.q (AW.r (AO.p2 T ?_))
 refine AO.n (AW.q (AW.q ?_))
 refine AW.r (AO.pu T ?_)
 refine AO.w (qCC T) ?_
 refine AO.pu T ?_
 refine AO.n (AW.c (b:=decide ((l.length:Int) < 5)) rfl (fun hc=>?_) (fun hc=>?_))
 replace hH:=condT hc hH
 refine AW.q ?_
 obtain ⟨x1,hx2,hH⟩:=zB hH
 refine AW.r (AO.pu T ?_)
 refine AO.w (cVs (qDX _ _ (hx2))) ?_
 refine AO.pu T ?_
 refine AO.w (qCC T) ?_
 refine AO.p2 T ?_
 refine AO.n (AW.t ?_)
 have hR:=zS hH;subst hR
 exact retQ.i [] rfl (.t (zG (.c .v) (zG (.c .v) (zGn))))
 replace hH:=condF hc hH
 refine AW.k (AW.q ?_)
 obtain ⟨x3,hx4,hH⟩:=zB hH
 obtain ⟨x5,hx6,hH⟩:=zB hH
 obtain ⟨x7,hx8,hH⟩:=zB hH
 refine AW.r (AO.pu T ?_)
 refine AO.w (cVs (qDX _ _ (hx4))) ?_
 refine AO.pu T ?_
 refine AO.w (cVs (qIF fuel _ _ (hx6))) ?_
 refine AO.w aws ?_
 refine AO.pu T ?_
 refine AO.w (cVs (qLC fuel _ _ (hx8))) ?_
 refine AO.w aws ?_
 refine AO.pu T ?_
 refine AO.w (qCC T) ?_
 refine AO.w aws ?_
 refine AO.p2 T ?_
 refine AO.n (AW.t ?_)
 have hR:=zS hH;subst hR
 exact retQ.i [] rfl (.t (zG (.c .v) (zG (.c .v) (zGn))))

def qFq (fuel:Nat) (c:Code) (it:Item):Option Int :=
 (qGw c it).bind fun x1 =>
 (qDk fuel x1).bind fun x3 =>
 some x3
theorem qJ6 (fuel:Nat) (c:Code) (it:Item) (r:Int) (hH:qFq fuel c it=some r):qAE Tryz.prog 83 [.g (ze7 c),.g (ze2 it)] (.v (.int .i64 r)):=by
 refine fns T Tryz.func83 ?_
 refine AW.q (AW.r (AO.x (bxs T 1) ?_))
 refine AO.x (bxs T 2) ?_
 refine AO.pu T ?_
 refine AO.n (AW.q ?_)
 obtain ⟨x1,hx2,hH⟩:=zB hH
 obtain ⟨x3,hx4,hH⟩:=zB hH
 refine AW.r (AO.pu T (d:=.g [.s (List.map ze3 c.elements),.s (List.map ze0 c.limits),c.repeats,c.bonus,c.keeps,c.fall]) ?_)
 refine AO.pu T (d:=.g [.s (List.map ze5 it.names),.s (List.map ze0 it.marks),.v (.bool it.late)]) ?_
 refine AO.x (qBk rfl 3 rfl rfl rfl (qJv _ _ _ (hx2)) rfl rfl rfl) ?_
 refine AO.w (zLV rfl rfl rfl (es:=[.s (List.map ze0 x1)]) ⟨(.rowR rfl (.map fun y=>.vs rfl)),trivial⟩ (qIF fuel _ _ (hx4)) (qAF _) rfl) ?_
 refine AO.pu T ?_
 refine AO.n (AW.t ?_)
 have hR:=zS hH;subst hR
 exact retQ.i [] rfl (.c (.c .v))

def qFL (fuel:Nat) (c:Code) (l:List Item) (k:Int) (grades:List Int):Option Int :=
 (qC2 c l k).bind fun x1 =>
 cond (x1 == 0)
  (some 0)
  ((qD6 fuel grades).bind fun x3 =>
  (qAb l k).bind fun x5 =>
  (qFq fuel c x5).bind fun x7 =>
  (qCx (w64 (x3.1 * x7)) (w64 (10 * x3.2))).bind fun x9 =>
  some x9)
theorem qK6 (fuel:Nat) (c:Code) (l:List Item) (k:Int) (grades:List Int) (r:Int) (hH:qFL fuel c l k grades=some r):qAE Tryz.prog 123 [.g (ze7 c),.s (List.map ze2 l),k,.s (List.map ze0 grades)] (.v (.int .i64 r)):=by
 refine fns T Tryz.func123 ?_
 refine AW.q (AW.r (AO.x (bxs T 1) ?_))
 refine AO.pu T ?_
 refine AO.n (AW.q (AW.q ?_))
 obtain ⟨x1,hx2,hH⟩:=zB hH
 refine AW.r (AO.pu T (d:=.g [.s (List.map ze3 c.elements),.s (List.map ze0 c.limits),c.repeats,c.bonus,c.keeps,c.fall]) ?_)
 refine AO.p2 T ?_
 refine AO.w (cVs (qGe _ _ _ _ (hx2))) ?_
 refine AO.pu T ?_
 refine AO.n (AW.c (b:=(x1 == 0)) rfl (fun hc=>?_) (fun hc=>?_))
 replace hH:=condT hc hH
 refine AW.q (AW.r (AO.pu T ?_))
 refine AO.n (AW.t ?_)
 have hR:=zS hH;subst hR
 exact retQ.i [] rfl (.c (.c .v))
 replace hH:=condF hc hH
 refine AW.k (AW.q ?_)
 obtain ⟨x3,hx4,hH⟩:=zB hH
 refine AW.r (AO.pu T ?_)
 refine AO.w (cVs (qHh fuel _ _ (hx4))) ?_
 iterate 5 refine AO.pu T ?_
 refine AO.n (AW.q ?_)
 obtain ⟨x5,hx6,hH⟩:=zB hH
 obtain ⟨x7,hx8,hH⟩:=zB hH
 obtain ⟨x9,hx10,hH⟩:=zB hH
 refine AW.drawn 10 2 [] mix (by kernel_rfl) rfl ?_
 refine AD.pu T ?_
 refine AD.p T (d:=.g [.s (List.map ze3 c.elements),.s (List.map ze0 c.limits),c.repeats,c.bonus,c.keeps,c.fall]) rfl rfl rfl ?_
 iterate 2 refine AD.pu T ?_
 refine AD.vv (ixs T (hx6)) ?_
 refine AD.p T (d:=.g [.s (List.map ze5 x5.names),.s (List.map ze0 x5.marks),.v (.bool x5.late)]) rfl rfl rfl ?_
 refine AD.vv (cVs (qJ6 fuel _ _ _ (hx8))) ?_
 refine AD.vv aws ?_
 refine AD.pu T ?_
 refine AD.vv aws ?_
 refine AD.nil (AO.w (cVs (qEM _ _ _ (hx10))) ?_)
 refine AO.pu T ?_
 refine AO.n (AW.le (Le.ct 0 0 (σ':=(⟨[(8,x9)],[],32,[]⟩:St))) ?_)
 refine AW.t ?_
 have hR:=zS hH;subst hR
 exact retQ.i [] rfl (.c (.c .v))

def qGb (fuel:Nat) (c:Code) (l:List Item) (m:Marks) (k:Int):Option Int :=
 (qC2 c l k).bind fun x1 =>
 (qAb m.grades k).bind fun x3 =>
 (qFL fuel c l k x3).bind fun x5 =>
 some (w64 (x1+x5))
theorem qKu (fuel:Nat) (c:Code) (l:List Item) (m:Marks) (k:Int) (r:Int) (hH:qGb fuel c l m k=some r):qAE Tryz.prog 77 [.g (ze7 c),.s (List.map ze2 l),.g (qBN m),k] (.v (.int .i64 r)):=by
 refine fns T Tryz.func77 ?_
 refine AW.q (AW.r (AO.x (bxs T 1) ?_))
 refine AO.x (bxs T 2) ?_
 refine AO.pu T ?_
 refine AO.n (AW.q ?_)
 obtain ⟨x1,hx2,hH⟩:=zB hH
 obtain ⟨x3,hx4,hH⟩:=zB hH
 obtain ⟨x5,hx6,hH⟩:=zB hH
 refine AW.drawn 12 3 [] mix (by kernel_rfl) rfl ?_
 refine AD.p T (d:=.g [.s (List.map ze3 c.elements),.s (List.map ze0 c.limits),c.repeats,c.bonus,c.keeps,c.fall]) rfl rfl rfl ?_
 iterate 2 refine AD.pu T ?_
 refine AD.vv (cVs (qGe _ _ _ _ (hx2))) ?_
 refine AD.p T (d:=.g [.s (List.map ze3 c.elements),.s (List.map ze0 c.limits),c.repeats,c.bonus,c.keeps,c.fall]) rfl rfl rfl ?_
 iterate 5 refine AD.pu T ?_
 refine AD.vv (ixs T (hx4)) ?_
 refine AD.pu T ?_
 refine AD.nil (AO.w (cVs (qK6 fuel _ _ _ _ _ (hx6))) ?_)
 refine AO.w aws ?_
 refine AO.pu T ?_
 refine AO.n (AW.t ?_)
 have hR:=zS hH;subst hR
 exact retQ.i [] rfl (.c (.c .v))

def qBT (c:Code) (l:List Item) (m:Marks) (fuel:Nat):List Item→Nat→List Int→Option ((List Int))
 | [],k1,v16 =>
  some v16
 | y2::ys3,k1,v16 =>
  (qGb fuel c l m (k1:Int)).bind fun x18 =>
  (qCw (qBE 8 (v16.length+([x18]).length))).bind fun u20 =>
  qBT c l m fuel ys3 (k1+1) (v16++[x18])
def qEx (fuel:Nat) (c:Code) (l:List Item) (m:Marks):Option (List Int) :=
 qBT c l m fuel l 0 []
theorem qHX (fuel:Nat) (c:Code) (l:List Item) (m:Marks) (r:(List Int)) (hH:qEx fuel c l m=some r):qAE Tryz.prog 34 [.g (ze7 c),.s (List.map ze2 l),.g (qBN m)] (.w 1 (r.map ze0)):=by
 refine fns T Tryz.func34 ?_
 refine AW.q (AW.r (AO.x (bxs T 1) ?_))
 refine AO.x (bxs T 2) ?_
 refine AO.pu T ?_
 refine AO.n (AW.q (AW.r ?_))
 refine AO.x (qHd T rfl rfl rfl rfl) ?_
 refine AO.pu T ?_
 refine AO.n (AW.q (AW.q ?_))
 refine AW.r (AO.pu T ?_)
 refine AO.w (qCC T) ?_
 refine AO.pu T ?_
 refine AO.n (AW.b ?_)
 refine AW.loopS (fun s:Nat × (List Int)=>(⟨[(1,.s (List.map ze2 l)),(3,.p 1 0),(5,.p 2 0),(7,.R 6),(11,(l.length:Int)),(12,(s.1:Int))],[(1,.box [.s (List.map ze3 c.elements),.s (List.map ze0 c.limits),c.repeats,c.bonus,c.keeps,c.fall]),(2,.box [.s (List.map ze1 m.grades),.s (List.map ze1 m.components)]),(6,.row 1 (List.map ze0 s.2))],25,[]⟩:St)) (fun s=>s.1 ≤ l.length∧qBT c l m fuel (l.drop s.1) s.1 s.2=some r) (fun s=>l.length - s.1) (0,[]) ⟨Nat.zero_le _,hH⟩ ?_ ?_
 refine Le.trans (Le.void 7 6 1 rfl rfl) ?_
 exact Le.ct 0 0
 rintro ⟨k1,v16⟩ ⟨hk,hH⟩
 replace hH:qBT c l m fuel (l.drop k1) k1 v16=some r:=hH
 try dsimp only
 refine AW.boundM (t:=1) (l:=l) rfl (fun hb5=>?_)
 rcases hd4:l.drop k1 with _ | ⟨y2,ys3⟩
 rw [hd4,qBT] at hH
 have hlt6:=qAJ hd4
 refine AW.q (AW.r (AO.pu T ?_))
 refine AO.n (AW.q (AW.condF' (b:=decide ((k1:Int) < (l.length:Int))) rfl (qEQ hlt6) ?_))
 refine AW.exit (AW.q (AW.r ?_))
 refine AO.p2 T ?_
 refine AO.n (AW.t ?_)
 have hR:=zS hH;subst hR
 exact retQ.i [6] rfl (.c (.c (.rowR rfl)))
 rw [hd4,qBT] at hH
 have hlt6:=qAK hd4
 refine AW.q (AW.r (AO.pu T ?_))
 refine AO.n (AW.q (AW.condT' (b:=decide ((k1:Int) < (l.length:Int))) rfl (qER hlt6) ?_))
 refine AW.k (AW.q ?_)
 refine AW.b (AW.q (AW.r ?_))
 refine AO.p2 T ?_
 refine AO.n ?_
 obtain ⟨x18,hx19,hH⟩:=zB hH
 obtain ⟨u20,hx21,hH⟩:=zB hH
 refine AW.r (AO.pu T ?_)
 refine AO.pu T (d:=.g [.s (List.map ze3 c.elements),.s (List.map ze0 c.limits),c.repeats,c.bonus,c.keeps,c.fall]) ?_
 refine AO.pu T ?_
 refine AO.pu T (d:=.g [.s (List.map ze1 m.grades),.s (List.map ze1 m.components)]) ?_
 refine AO.pu T ?_
 refine AO.w (cVs (qKu fuel _ _ _ _ _ (hx19))) ?_
 refine AO.x (mks T 7 ze0 ([x18])) ?_
 refine AO.x (rvs T 8 (hfit:=by exact qA4 (hx21))) ?_
 refine AO.pu T ?_
 refine AO.n (AW.r ?_)
 refine AO.w (zR rfl rfl rfl rfl (zK hlt6 hb5)) ?_
 refine AO.pu T ?_
 refine AO.n ?_
 refine ⟨(k1+1,(v16++[x18])),⟨Nat.succ_le_of_lt hlt6,(by rw [zds hd4];exact hH)⟩,(by have:=hlt6;dsimp only;omega),?_⟩
 exact Le.ct 8 6

def qEc (fuel:Nat) (c:Code) (p:Performance):Option Int :=
 (qEx fuel c p.items p.marks).bind fun x1 =>
 (qA5 x1).bind fun x3 =>
 some x3
theorem qIw (fuel:Nat) (c:Code) (p:Performance) (r:Int) (hH:qEc fuel c p=some r):qAE Tryz.prog 78 [.g (ze7 c),.g (qGl p)] (.v (.int .i64 r)):=by
 refine fns T Tryz.func78 ?_
 refine AW.q (AW.r (AO.x (bxs T 1) ?_))
 refine AO.x (bxs T 2) ?_
 refine AO.pu T ?_
 refine AO.n (AW.q ?_)
 obtain ⟨x1,hx2,hH⟩:=zB hH
 obtain ⟨x3,hx4,hH⟩:=zB hH
 refine AW.r (AO.pu T (d:=.g [.s (List.map ze3 c.elements),.s (List.map ze0 c.limits),c.repeats,c.bonus,c.keeps,c.fall]) ?_)
 iterate 3 refine AO.pu T ?_
 refine AO.pu T (d:=.g [.s (List.map ze1 p.marks.grades),.s (List.map ze1 p.marks.components)]) ?_
 refine AO.x (qBk rfl 3 rfl rfl rfl (qHX fuel _ _ _ _ (hx2)) rfl rfl rfl) ?_
 refine AO.w (zLV rfl rfl rfl (es:=[.s (List.map ze0 x1)]) ⟨(.rowR rfl (.map fun y=>.vs rfl)),trivial⟩ (qDX _ _ (hx4)) (qAF _) rfl) ?_
 refine AO.pu T ?_
 refine AO.n (AW.t ?_)
 have hR:=zS hH;subst hR
 exact retQ.i [] rfl (.c (.c .v))

def qDq (fuel:Nat) (marks:List Int):Option Int :=
 (qD6 fuel marks).bind fun x1 =>
 (qCx x1.1 x1.2).bind fun x3 =>
 some x3
theorem qIs (fuel:Nat) (marks:List Int) (r:Int) (hH:qDq fuel marks=some r):qAE Tryz.prog 200 [.s (List.map ze0 marks)] (.v (.int .i64 r)):=by
 refine fns T Tryz.func200 ?_
 refine AW.q (AW.r (AO.pu T ?_))
 refine AO.n (AW.q ?_)
 obtain ⟨x1,hx2,hH⟩:=zB hH
 refine AW.r (AO.pu T ?_)
 refine AO.w (cVs (qHh fuel _ _ (hx2))) ?_
 iterate 5 refine AO.pu T ?_
 refine AO.n (AW.q ?_)
 obtain ⟨x3,hx4,hH⟩:=zB hH
 refine AW.r (AO.p2 T ?_)
 refine AO.w (cVs (qEM _ _ _ (hx4))) ?_
 refine AO.pu T ?_
 refine AO.n (AW.t ?_)
 have hR:=zS hH;subst hR
 exact retQ.i [] rfl (.c (.c .v))

def qAl (fuel:Nat):List (List Int)→Nat→List Int→Option ((List Int))
 | [],k1,v16 =>
  some v16
 | y2::ys3,k1,v16 =>
  (qDq fuel y2).bind fun x18 =>
  (qCw (qBE 8 (v16.length+([x18]).length))).bind fun u20 =>
  qAl fuel ys3 (k1+1) (v16++[x18])
def qCc (fuel:Nat) (m:Marks):Option (List Int) :=
 qAl fuel m.components 0 []
theorem qEE (fuel:Nat) (m:Marks) (r:(List Int)) (hH:qCc fuel m=some r):qAE Tryz.prog 157 [.g (qBN m)] (.w 1 (r.map ze0)):=by
 refine fns T Tryz.func157 ?_
 refine AW.q (AW.r (AO.x (bxs T 1) ?_))
 refine AO.pu T ?_
 refine AO.n (AW.q (AW.r ?_))
 refine AO.x (qHd T rfl rfl rfl rfl) ?_
 refine AO.pu T ?_
 refine AO.n (AW.q (AW.q ?_))
 refine AW.r (AO.p2 T ?_)
 refine AO.w (qCC T) ?_
 refine AO.pu T ?_
 refine AO.n (AW.b ?_)
 refine AW.loopS (fun s:Nat × (List Int)=>(⟨[(3,.R 5),(8,.s (List.map ze1 m.components)),(9,(m.components.length:Int)),(10,(s.1:Int))],[(5,.row 1 (List.map ze0 s.2))],21,[]⟩:St)) (fun s=>s.1 ≤ m.components.length∧qAl fuel (m.components.drop s.1) s.1 s.2=some r) (fun s=>m.components.length - s.1) (0,[]) ⟨Nat.zero_le _,hH⟩ ?_ ?_
 refine Le.trans (Le.void 3 5 1 rfl rfl) ?_
 exact Le.ct 0 0
 rintro ⟨k1,v16⟩ ⟨hk,hH⟩
 replace hH:qAl fuel (m.components.drop k1) k1 v16=some r:=hH
 try dsimp only
 refine AW.boundM (t:=8) (l:=m.components) rfl (fun hb5=>?_)
 rcases hd4:m.components.drop k1 with _ | ⟨y2,ys3⟩
 rw [hd4,qAl] at hH
 have hlt6:=qAJ hd4
 refine AW.q (AW.r (AO.pu T ?_))
 refine AO.n (AW.q (AW.condF' (b:=decide ((k1:Int) < (m.components.length:Int))) rfl (qEQ hlt6) ?_))
 refine AW.exit (AW.q (AW.r ?_))
 refine AO.p2 T ?_
 refine AO.n (AW.t ?_)
 have hR:=zS hH;subst hR
 exact retQ.i [5] rfl (.c (.c (.rowR rfl)))
 rw [hd4,qAl] at hH
 have hlt6:=qAK hd4
 refine AW.q (AW.r (AO.pu T ?_))
 refine AO.n (AW.q (AW.condT' (b:=decide ((k1:Int) < (m.components.length:Int))) rfl (qER hlt6) ?_))
 refine AW.k (AW.q ?_)
 refine AW.b (AW.q (AW.r ?_))
 refine AO.w (ixs T (zgD hd4)) ?_
 refine AO.p2 T ?_
 refine AO.n ?_
 obtain ⟨x18,hx19,hH⟩:=zB hH
 obtain ⟨u20,hx21,hH⟩:=zB hH
 refine AW.r (AO.p2 T ?_)
 refine AO.w (cVs (qIs fuel _ _ (hx19))) ?_
 refine AO.x (mks T 6 ze0 ([x18])) ?_
 refine AO.x (rvs T 7 (hfit:=by exact qA4 (hx21))) ?_
 refine AO.pu T ?_
 refine AO.n (AW.r ?_)
 refine AO.w (zR rfl rfl rfl rfl (zK hlt6 hb5)) ?_
 refine AO.pu T ?_
 refine AO.n ?_
 refine ⟨(k1+1,(v16++[x18])),⟨Nat.succ_le_of_lt hlt6,(by rw [zds hd4];exact hH)⟩,(by have:=hlt6;dsimp only;omega),?_⟩
 exact Le.ct 7 5

def qBl:List Int→Nat→Int→Option Int
 | [],k3,v10 =>
  some v10
 | y4::ys5,k3,v10 =>
  qBl ys5 (k3+1) (w64 (v10+(min y4 950)))
def qBm:List Int→Nat→Int→Option Int
 | [],k14,v21 =>
  some v21
 | y15::ys16,k14,v21 =>
  qBm ys16 (k14+1) (w64 (v21+(min y15 900)))
def qBp:List Int→Nat→Int→Option Int
 | [],k25,v32 =>
  some v32
 | y26::ys27,k25,v32 =>
  qBp ys27 (k25+1) (w64 (v32+(min y26 1000)))
def qFO (fuel:Nat) (m:Marks) (falls:Int):Option Int :=
 cond (falls == 1)
  ((qCc fuel m).bind fun x1 =>
  qBl x1 0 0)
  (cond (decide (falls > 1))
   ((qCc fuel m).bind fun x12 =>
   qBm x12 0 0)
   ((qCc fuel m).bind fun x23 =>
   qBp x23 0 0))
theorem qKq (fuel:Nat) (m:Marks) (falls:Int) (r:Int) (hH:qFO fuel m falls=some r):qAE Tryz.prog 124 [.g (qBN m),falls] (.v (.int .i64 r)):=by
 refine fns T Tryz.func124 ?_
 refine AW.q (AW.r (AO.x (bxs T 1) ?_))
 refine AO.pu T ?_
 refine AO.n (AW.q (AW.r ?_))
 refine AO.pu T ?_
 refine AO.n (AW.q (AW.b ?_))
 refine AW.q (AW.r ?_)
 iterate 3 refine AO.pu T ?_
 refine AO.n (AW.c (b:=(falls == 1)) rfl (fun hc=>?_) (fun hc=>?_))
 replace hH:=condT hc hH
 refine AW.r (AO.pu T ?_)
 refine AO.n (AW.q (AW.r ?_))
 refine AO.pu T ?_
 refine AO.n (AW.q (AW.q ?_))
 obtain ⟨x1,hx2,hH⟩:=zB hH
 refine AW.r (AO.pu T (d:=.g [.s (List.map ze1 m.grades),.s (List.map ze1 m.components)]) ?_)
 refine AO.x (qBk rfl 2 rfl rfl rfl (qEE fuel _ _ (hx2)) rfl rfl rfl) ?_
 refine AO.w (qGn T) ?_
 refine AO.pu T ?_
 refine AO.n (AW.b ?_)
 refine AW.loopS (fun s:Nat × Int=>(⟨[(5,(950:Int)),(6,s.2),(16,.R 2),(17,(x1.length:Int)),(18,(s.1:Int))],[(2,.row 1 (List.map ze0 x1))],29,[]⟩:St)) (fun s=>s.1 ≤ x1.length∧qBl (x1.drop s.1) s.1 s.2=some r) (fun s=>x1.length - s.1) (0,0) ⟨Nat.zero_le _,hH⟩ ?_ ?_
 exact Le.ct 0 0
 rintro ⟨k3,v10⟩ ⟨hk,hH⟩
 replace hH:qBl (x1.drop k3) k3 v10=some r:=hH
 try dsimp only
 refine AW.boundR (id:=2) (l:=x1) rfl (fun hb7=>?_)
 rcases hd6:x1.drop k3 with _ | ⟨y4,ys5⟩
 rw [hd6,qBl] at hH
 have hlt8:=qAJ hd6
 refine AW.q (AW.r (AO.pu T ?_))
 refine AO.n (AW.q (AW.condF' (b:=decide ((k3:Int) < (x1.length:Int))) rfl (qEQ hlt8) ?_))
 refine AW.exit (AW.q (AW.r ?_))
 refine AO.p2 T ?_
 refine AO.n (AW.t ?_)
 have hR:=zS hH;subst hR
 exact retQ.i [] rfl (.c (.c .v))
 rw [hd6,qBl] at hH
 have hlt8:=qAK hd6
 refine AW.q (AW.r (AO.pu T ?_))
 refine AO.n (AW.q (AW.condT' (b:=decide ((k3:Int) < (x1.length:Int))) rfl (qER hlt8) ?_))
 refine AW.k (AW.q ?_)
 refine AW.b (AW.q (AW.r ?_))
 refine AO.w (ixr T (zgD hd6)) ?_
 refine AO.w (zLr T rfl rfl rfl rfl (zgG (zgD hd6)) rfl rfl rfl) ?_
 refine AO.pu T ?_
 refine AO.n (AW.r ?_)
 iterate 3 refine AO.pu T ?_
 refine AO.w (qOo rfl rfl rfl) ?_
 refine AO.w aws ?_
 refine AO.pu T ?_
 refine AO.n (AW.r ?_)
 refine AO.w (zR rfl rfl rfl rfl (zK hlt8 hb7)) ?_
 refine AO.pu T ?_
 refine AO.n ?_
 refine ⟨(k3+1,w64 (v10+(min y4 950))),⟨Nat.succ_le_of_lt hlt8,(by rw [zds hd6];exact hH)⟩,(by have:=hlt8;dsimp only;omega),?_⟩
 exact Le.ct 0 0
 replace hH:=condF hc hH
 refine AW.q (AW.r ?_)
 iterate 3 refine AO.pu T ?_
 refine AO.n (AW.c (b:=decide (falls > 1)) rfl (fun hc=>?_) (fun hc=>?_))
 replace hH:=condT hc hH
 refine AW.r (AO.pu T ?_)
 refine AO.n (AW.q (AW.r ?_))
 refine AO.pu T ?_
 refine AO.n (AW.q (AW.q ?_))
 obtain ⟨x12,hx13,hH⟩:=zB hH
 refine AW.r (AO.pu T (d:=.g [.s (List.map ze1 m.grades),.s (List.map ze1 m.components)]) ?_)
 refine AO.x (qBk rfl 3 rfl rfl rfl (qEE fuel _ _ (hx13)) rfl rfl rfl) ?_
 refine AO.w (qGn T) ?_
 refine AO.pu T ?_
 refine AO.n (AW.b ?_)
 refine AW.loopS (fun s:Nat × Int=>(⟨[(5,(900:Int)),(6,s.2),(16,.R 3),(17,(x12.length:Int)),(18,(s.1:Int))],[(3,.row 1 (List.map ze0 x12))],29,[]⟩:St)) (fun s=>s.1 ≤ x12.length∧qBm (x12.drop s.1) s.1 s.2=some r) (fun s=>x12.length - s.1) (0,0) ⟨Nat.zero_le _,hH⟩ ?_ ?_
 exact Le.ct 0 0
 rintro ⟨k14,v21⟩ ⟨hk,hH⟩
 replace hH:qBm (x12.drop k14) k14 v21=some r:=hH
 try dsimp only
 refine AW.boundR (id:=3) (l:=x12) rfl (fun hb18=>?_)
 rcases hd17:x12.drop k14 with _ | ⟨y15,ys16⟩
 rw [hd17,qBm] at hH
 have hlt19:=qAJ hd17
 refine AW.q (AW.r (AO.pu T ?_))
 refine AO.n (AW.q (AW.condF' (b:=decide ((k14:Int) < (x12.length:Int))) rfl (qEQ hlt19) ?_))
 refine AW.exit (AW.q (AW.r ?_))
 refine AO.p2 T ?_
 refine AO.n (AW.t ?_)
 have hR:=zS hH;subst hR
 exact retQ.i [] rfl (.c (.c .v))
 rw [hd17,qBm] at hH
 have hlt19:=qAK hd17
 refine AW.q (AW.r (AO.pu T ?_))
 refine AO.n (AW.q (AW.condT' (b:=decide ((k14:Int) < (x12.length:Int))) rfl (qER hlt19) ?_))
 refine AW.k (AW.q ?_)
 refine AW.b (AW.q (AW.r ?_))
 refine AO.w (ixr T (zgD hd17)) ?_
 refine AO.w (zLr T rfl rfl rfl rfl (zgG (zgD hd17)) rfl rfl rfl) ?_
 refine AO.pu T ?_
 refine AO.n (AW.r ?_)
 iterate 3 refine AO.pu T ?_
 refine AO.w (qOo rfl rfl rfl) ?_
 refine AO.w aws ?_
 refine AO.pu T ?_
 refine AO.n (AW.r ?_)
 refine AO.w (zR rfl rfl rfl rfl (zK hlt19 hb18)) ?_
 refine AO.pu T ?_
 refine AO.n ?_
 refine ⟨(k14+1,w64 (v21+(min y15 900))),⟨Nat.succ_le_of_lt hlt19,(by rw [zds hd17];exact hH)⟩,(by have:=hlt19;dsimp only;omega),?_⟩
 exact Le.ct 0 0
 replace hH:=condF hc hH
 refine AW.k (AW.q (AW.r ?_))
 refine AO.pu T ?_
 refine AO.n (AW.q (AW.q ?_))
 obtain ⟨x23,hx24,hH⟩:=zB hH
 refine AW.r (AO.pu T (d:=.g [.s (List.map ze1 m.grades),.s (List.map ze1 m.components)]) ?_)
 refine AO.x (qBk rfl 4 rfl rfl rfl (qEE fuel _ _ (hx24)) rfl rfl rfl) ?_
 refine AO.w (qGn T) ?_
 refine AO.pu T ?_
 refine AO.n (AW.b ?_)
 refine AW.loopS (fun s:Nat × Int=>(⟨[(5,(1000:Int)),(6,s.2),(16,.R 4),(17,(x23.length:Int)),(18,(s.1:Int))],[(4,.row 1 (List.map ze0 x23))],29,[]⟩:St)) (fun s=>s.1 ≤ x23.length∧qBp (x23.drop s.1) s.1 s.2=some r) (fun s=>x23.length - s.1) (0,0) ⟨Nat.zero_le _,hH⟩ ?_ ?_
 exact Le.ct 0 0
 rintro ⟨k25,v32⟩ ⟨hk,hH⟩
 replace hH:qBp (x23.drop k25) k25 v32=some r:=hH
 try dsimp only
 refine AW.boundR (id:=4) (l:=x23) rfl (fun hb29=>?_)
 rcases hd28:x23.drop k25 with _ | ⟨y26,ys27⟩
 rw [hd28,qBp] at hH
 have hlt30:=qAJ hd28
 refine AW.q (AW.r (AO.pu T ?_))
 refine AO.n (AW.q (AW.condF' (b:=decide ((k25:Int) < (x23.length:Int))) rfl (qEQ hlt30) ?_))
 refine AW.exit (AW.q (AW.r ?_))
 refine AO.p2 T ?_
 refine AO.n (AW.t ?_)
 have hR:=zS hH;subst hR
 exact retQ.i [] rfl (.c (.c .v))
 rw [hd28,qBp] at hH
 have hlt30:=qAK hd28
 refine AW.q (AW.r (AO.pu T ?_))
 refine AO.n (AW.q (AW.condT' (b:=decide ((k25:Int) < (x23.length:Int))) rfl (qER hlt30) ?_))
 refine AW.k (AW.q ?_)
 refine AW.b (AW.q (AW.r ?_))
 refine AO.w (ixr T (zgD hd28)) ?_
 refine AO.w (zLr T rfl rfl rfl rfl (zgG (zgD hd28)) rfl rfl rfl) ?_
 refine AO.pu T ?_
 refine AO.n (AW.r ?_)
 iterate 3 refine AO.pu T ?_
 refine AO.w (qOo rfl rfl rfl) ?_
 refine AO.w aws ?_
 refine AO.pu T ?_
 refine AO.n (AW.r ?_)
 refine AO.w (zR rfl rfl rfl rfl (zK hlt30 hb29)) ?_
 refine AO.pu T ?_
 refine AO.n ?_
 refine ⟨(k25+1,w64 (v32+(min y26 1000))),⟨Nat.succ_le_of_lt hlt30,(by rw [zds hd28];exact hH)⟩,(by have:=hlt30;dsimp only;omega),?_⟩
 exact Le.ct 0 0

def qEW (fuel:Nat) (m:Marks) (factor:Int) (falls:Int):Option Int :=
 (qFO fuel m falls).bind fun x1 =>
 (qCx (w64 (x1 * factor)) 100).bind fun x3 =>
 some x3
theorem qKJ (fuel:Nat) (m:Marks) (factor:Int) (falls:Int) (r:Int) (hH:qEW fuel m factor falls=some r):qAE Tryz.prog 79 [.g (qBN m),factor,falls] (.v (.int .i64 r)):=by
 refine fns T Tryz.func79 ?_
 refine AW.q (AW.r (AO.x (bxs T 1) ?_))
 refine AO.pu T ?_
 refine AO.n (AW.q ?_)
 obtain ⟨x1,hx2,hH⟩:=zB hH
 obtain ⟨x3,hx4,hH⟩:=zB hH
 refine AW.r (AO.pu T (d:=.g [.s (List.map ze1 m.grades),.s (List.map ze1 m.components)]) ?_)
 refine AO.pu T ?_
 refine AO.w (cVs (qKq fuel _ _ _ (hx2))) ?_
 refine AO.pu T ?_
 refine AO.w aws ?_
 refine AO.w (cVs (qEM _ _ _ (hx4))) ?_
 refine AO.pu T ?_
 refine AO.n (AW.t ?_)
 have hR:=zS hH;subst hR
 exact retQ.i [] rfl (.c (.c .v))

def qE3 (fall:Int) (falls:Int):Option Int :=
 some (w64 (fall * (w64 ((w64 (falls+(max (w64 (falls - 2)) 0)))+(max (w64 (falls - 4)) 0)))))
theorem qI1 (fall:Int) (falls:Int) (r:Int) (hH:qE3 fall falls=some r):qAE Tryz.prog 125 [fall,falls] (.v (.int .i64 r)):=by
 refine fns T Tryz.func125 ?_
 refine AW.q (AW.r (AO.pu T ?_))
 refine AO.n (AW.q (AW.r ?_))
 iterate 3 refine AO.pu T ?_
 refine AO.w aws ?_
 refine AO.w (qPv rfl rfl rfl) ?_
 refine AO.w aws ?_
 refine AO.pu T ?_
 refine AO.w aws ?_
 refine AO.w (qPv rfl rfl rfl) ?_
 iterate 2 refine AO.w aws ?_
 refine AO.pu T ?_
 refine AO.n (AW.t ?_)
 have hR:=zS hH;subst hR
 exact retQ.i [] rfl (.c (.c .v))

def qE6 (seconds:Int):Option Int :=
 (qCw (5 != 0)).bind fun u1 =>
 some (w64 ((w64 ((w64 (seconds+4)).tdiv 5)) * 100))
theorem qJE (seconds:Int) (r:Int) (hH:qE6 seconds=some r):qAE Tryz.prog 126 [seconds] (.v (.int .i64 r)):=by
 refine fns T Tryz.func126 ?_
 refine AW.q (AW.r (AO.pu T ?_))
 refine AO.n (AW.q ?_)
 obtain ⟨u1,hx2,hH⟩:=zB hH
 refine AW.r (AO.pu T ?_)
 refine AO.w aws ?_
 refine AO.w (qGi rfl rfl rfl (neZ (qA4 (hx2)))) ?_
 refine AO.w aws ?_
 refine AO.pu T ?_
 refine AO.n (AW.t ?_)
 have hR:=zS hH;subst hR
 exact retQ.i [] rfl (.c (.c .v))

def qEt (c:Code) (sA:Slips):Option (List Int) :=
 (qE3 c.fall sA.falls).bind fun x1 =>
 (qE6 sA.seconds).bind fun x3 =>
 some [x1,x3,sA.other]
theorem qKm (c:Code) (sA:Slips) (r:(List Int)) (hH:qEt c sA=some r):qAE Tryz.prog 81 [.g (ze7 c),.g (qJh sA)] (.w 1 (r.map ze0)):=by
 refine fns T Tryz.func81 ?_
 refine AW.q (AW.r (AO.x (bxs T 1) ?_))
 refine AO.x (bxs T 2) ?_
 refine AO.pu T ?_
 refine AO.n (AW.q ?_)
 obtain ⟨x1,hx2,hH⟩:=zB hH
 obtain ⟨x3,hx4,hH⟩:=zB hH
 refine AW.drawn 10 3 [] mix (by kernel_rfl) rfl ?_
 iterate 4 refine AD.pu T ?_
 refine AD.vv (cVs (qI1 _ _ _ (hx2))) ?_
 iterate 2 refine AD.pu T ?_
 refine AD.vv (cVs (qJE _ _ (hx4))) ?_
 iterate 2 refine AD.pu T ?_
 refine AD.nil (AO.x (mks T 3 ze0 ([x1,x3,sA.other])) ?_)
 refine AO.pu T ?_
 refine AO.n (AW.t ?_)
 have hR:=zS hH;subst hR
 exact retQ.i [3] rfl (.c (.c (.rowR rfl)))

def qFC (fuel:Nat) (c:Code) (p:Performance) (factor:Int):Option (List Int) :=
 (qEc fuel c p).bind fun x1 =>
 (qEW fuel p.marks factor p.slips.falls).bind fun x3 =>
 (qEt c p.slips).bind fun x5 =>
 (qA5 x5).bind fun x7 =>
 some [x1,x3,x7,(max (w64 ((w64 (x1+x3)) - x7)) 0)]
theorem qI8 (fuel:Nat) (c:Code) (p:Performance) (factor:Int) (r:(List Int)) (hH:qFC fuel c p factor=some r):qAE Tryz.prog 35 [.g (ze7 c),.g (qGl p),factor] (.w 1 (r.map ze0)):=by
 refine fns T Tryz.func35 ?_
 refine AW.q (AW.r (AO.x (bxs T 1) ?_))
 refine AO.x (bxs T 2) ?_
 refine AO.pu T ?_
 refine AO.n (AW.q ?_)
 obtain ⟨x1,hx2,hH⟩:=zB hH
 obtain ⟨x3,hx4,hH⟩:=zB hH
 obtain ⟨x5,hx6,hH⟩:=zB hH
 obtain ⟨x7,hx8,hH⟩:=zB hH
 refine AW.drawn 13 3 [] mix (by kernel_rfl) rfl ?_
 refine AD.p T (d:=.g [.s (List.map ze3 c.elements),.s (List.map ze0 c.limits),c.repeats,c.bonus,c.keeps,c.fall]) rfl rfl rfl ?_
 refine AD.p T (d:=.g [.s (List.map ze2 p.items),.s (List.map ze1 p.marks.grades),.s (List.map ze1 p.marks.components),p.slips.falls,p.slips.seconds,p.slips.other]) rfl rfl rfl ?_
 refine AD.vv (cVs (qIw fuel _ _ _ (hx2))) ?_
 refine AD.pu T ?_
 refine AD.p T (d:=.g [.s (List.map ze1 p.marks.grades),.s (List.map ze1 p.marks.components)]) rfl rfl rfl ?_
 iterate 4 refine AD.pu T ?_
 refine AD.vv (cVs (qKJ fuel _ _ _ _ (hx4))) ?_
 refine AD.p T (d:=.g [.s (List.map ze3 c.elements),.s (List.map ze0 c.limits),c.repeats,c.bonus,c.keeps,c.fall]) rfl rfl rfl ?_
 refine AD.pu T ?_
 refine AD.p T (d:=.g [p.slips.falls,p.slips.seconds,p.slips.other]) rfl rfl rfl ?_
 refine AD.nil (AO.x (qBk rfl 3 rfl rfl rfl (qKm _ _ _ (hx6)) rfl rfl rfl) ?_)
 refine AO.w (zLV rfl rfl rfl (es:=[.s (List.map ze0 x5)]) ⟨(.rowR rfl (.map fun y=>.vs rfl)),trivial⟩ (qDX _ _ (hx8)) (qAF _) rfl) ?_
 iterate 3 refine AO.pu T ?_
 refine AO.n (AW.q (AW.r ?_))
 iterate 5 refine AO.pu T ?_
 refine AO.w aws ?_
 refine AO.pu T ?_
 refine AO.w aws ?_
 refine AO.w (qPv rfl rfl rfl) ?_
 refine AO.x (mks T 4 ze0 ([x1,x3,x7,(max (w64 ((w64 (x1+x3)) - x7)) 0)])) ?_
 refine AO.pu T ?_
 refine AO.n (AW.le (Le.ct 0 0 (σ':=(⟨[(6,.R 4)],[(4,.row 1 (List.map ze0 [x1,x3,x7,(max (w64 ((w64 (x1+x3)) - x7)) 0)]))],35,[]⟩:St))) ?_)
 refine AW.t ?_
 have hR:=zS hH;subst hR
 exact retQ.i [4] rfl (.c (.c (.rowR rfl)))

def qCi (fuel:Nat) (c:Code) (p:Performance) (factor:Int):Option Int :=
 (qFC fuel c p factor).bind fun x1 =>
 (qAb x1 3).bind fun x3 =>
 some x3
theorem qE2 (fuel:Nat) (c:Code) (p:Performance) (factor:Int) (r:Int) (hH:qCi fuel c p factor=some r):qAE Tryz.prog 30 [.g (ze7 c),.g (qGl p),factor] (.v (.int .i64 r)):=by
 refine fns T Tryz.func30 ?_
 refine AW.q (AW.r (AO.x (bxs T 1) ?_))
 refine AO.x (bxs T 2) ?_
 refine AO.pu T ?_
 refine AO.n (AW.q ?_)
 obtain ⟨x1,hx2,hH⟩:=zB hH
 obtain ⟨x3,hx4,hH⟩:=zB hH
 refine AW.r (AO.pu T (d:=.g [.s (List.map ze3 c.elements),.s (List.map ze0 c.limits),c.repeats,c.bonus,c.keeps,c.fall]) ?_)
 refine AO.pu T (d:=.g [.s (List.map ze2 p.items),.s (List.map ze1 p.marks.grades),.s (List.map ze1 p.marks.components),p.slips.falls,p.slips.seconds,p.slips.other]) ?_
 refine AO.pu T ?_
 refine AO.x (qBk rfl 3 rfl rfl rfl (qI8 fuel _ _ _ _ (hx2)) rfl rfl rfl) ?_
 refine AO.w (ixr T (hx4)) ?_
 refine AO.w (zLr T rfl rfl rfl rfl (zgG (hx4)) rfl rfl rfl) ?_
 refine AO.pu T ?_
 refine AO.n (AW.t ?_)
 have hR:=zS hH;subst hR
 exact retQ.i [] rfl (.c (.c .v))

def qEI (fuel:Nat) (c:Code) (p:Performance) (factor:Int):Option (Int × Bool) :=
 (qDZ fuel c p factor).bind fun x1 =>
 cond (!x1)
  (some (0,false))
  ((qCi fuel c p factor).bind fun x3 =>
  some (x3,true))
theorem qJm (fuel:Nat) (c:Code) (p:Performance) (factor:Int) (r:(Int × Bool)) (hH:qEI fuel c p factor=some r):qAE Tryz.prog 7 [.g (ze7 c),.g (qGl p),factor] (.t [.v (.int .i64 r.1),.v (.bool r.2)]):=by
 refine fns T Tryz.func7 ?_
 refine AW.q (AW.r (AO.x (bxs T 1) ?_))
 refine AO.x (bxs T 2) ?_
 refine AO.p2 T ?_
 refine AO.n (AW.q (AW.q ?_))
 obtain ⟨x1,hx2,hH⟩:=zB hH
 refine AW.r (AO.pu T (d:=.g [.s (List.map ze3 c.elements),.s (List.map ze0 c.limits),c.repeats,c.bonus,c.keeps,c.fall]) ?_)
 refine AO.pu T (d:=.g [.s (List.map ze2 p.items),.s (List.map ze1 p.marks.grades),.s (List.map ze1 p.marks.components),p.slips.falls,p.slips.seconds,p.slips.other]) ?_
 refine AO.pu T ?_
 refine AO.w (cVs (qFP fuel _ _ _ _ (hx2))) ?_
 refine AO.pu T ?_
 refine AO.n (AW.c (b:=(!x1)) rfl (fun hc=>?_) (fun hc=>?_))
 replace hH:=condT hc hH
 refine AW.q (AW.r (AO.p2 T ?_))
 refine AO.n (AW.t ?_)
 have hR:=zS hH;subst hR
 exact retQ.i [] rfl (.t (zG (.c .v) (zG (.c .v) (zGn))))
 replace hH:=condF hc hH
 refine AW.k (AW.q ?_)
 obtain ⟨x3,hx4,hH⟩:=zB hH
 refine AW.r (AO.pu T (d:=.g [.s (List.map ze3 c.elements),.s (List.map ze0 c.limits),c.repeats,c.bonus,c.keeps,c.fall]) ?_)
 refine AO.pu T (d:=.g [.s (List.map ze2 p.items),.s (List.map ze1 p.marks.grades),.s (List.map ze1 p.marks.components),p.slips.falls,p.slips.seconds,p.slips.other]) ?_
 refine AO.pu T ?_
 refine AO.w (cVs (qE2 fuel _ _ _ _ (hx4))) ?_
 refine AO.p2 T ?_
 refine AO.n (AW.t ?_)
 have hR:=zS hH;subst hR
 exact retQ.i [] rfl (.t (zG (.c .v) (zG (.c .v) (zGn))))

def qHD (factor:Int):Option Bool :=
 (qAp factor 10 400).bind fun x1 =>
 some x1
theorem qLj (factor:Int) (r:Bool) (hH:qHD factor=some r):qAE Tryz.prog 73 [factor] (.v (.bool r)):=by
 refine fns T Tryz.func73 ?_
 refine AW.q (AW.r (AO.pu T ?_))
 refine AO.n (AW.q ?_)
 obtain ⟨x1,hx2,hH⟩:=zB hH
 refine AW.r (AO.pu T ?_)
 refine AO.w (cVs (qAt _ _ _ _ (hx2))) ?_
 refine AO.pu T ?_
 refine AO.n (AW.t ?_)
 have hR:=zS hH;subst hR
 exact retQ.i [] rfl (.c (.c .v))

def qGI (fuel:Nat) (c:Code) (p:Performance) (factor:Int):Option Bool :=
 (qDM fuel c p).bind fun x1 =>
 (opt x1 default (qHD factor)).bind fun x3 =>
 some (x1 && x3)
theorem qMb (fuel:Nat) (c:Code) (p:Performance) (factor:Int) (r:Bool) (hH:qGI fuel c p factor=some r):qAE Tryz.prog 31 [.g (ze7 c),.g (qGl p),factor] (.v (.bool r)):=by
 refine fns T Tryz.func31 ?_
 refine AW.q (AW.r (AO.x (bxs T 1) ?_))
 refine AO.x (bxs T 2) ?_
 refine AO.pu T ?_
 refine AO.n (AW.q ?_)
 obtain ⟨x1,hx2,hH⟩:=zB hH
 obtain ⟨x3,hx4,hH⟩:=zB hH
 refine AW.r (AO.pu T (d:=.g [.s (List.map ze3 c.elements),.s (List.map ze0 c.limits),c.repeats,c.bonus,c.keeps,c.fall]) ?_)
 refine AO.pu T (d:=.g [.s (List.map ze2 p.items),.s (List.map ze1 p.marks.grades),.s (List.map ze1 p.marks.components),p.slips.falls,p.slips.seconds,p.slips.other]) ?_
 refine AO.w (cVs (qJ1 fuel _ _ _ (hx2))) ?_
 refine AO.pu T ?_
 refine AO.g T [] rfl trivial rfl rfl ?_
 refine AO.d [11] rfl ⟨fun h=>h,trivial⟩ (fun hg=>zV rfl rfl rfl rfl (qLj _ _ (qEA hx4 hg)) rfl) rfl ?_
 refine AO.w qFy ?_
 refine AO.pu T ?_
 refine AO.n (AW.t ?_)
 have hR:=zS hH;subst hR
 exact retQ.i [] rfl (.c (.c .v))

def qFE (c:Code) (name:ByteArray) (mark:Int):Option Int :=
 (qEn c name).bind fun x1 =>
 cond (decide (x1 < 0))
  (some (-1))
  ((qAb c.elements x1).bind fun x3 =>
  cond (mark == 1)
   ((qCw (100 != 0)).bind fun u5 =>
   some (w64 ((w64 (x3.base * c.keeps)).tdiv 100)))
   (cond (mark == 2)
    ((qCw (10 != 0)).bind fun u7 =>
    some (w64 ((w64 (x3.base * 9)).tdiv 10)))
    (cond (mark == 3)
     (some 0)
     (some x3.base))))
theorem qI9 (c:Code) (name:ByteArray) (mark:Int) (r:Int) (hH:qFE c name mark=some r):qAE Tryz.prog 236 [.g (ze7 c),.v (.string name),mark] (.v (.int .i64 r)):=by
 refine fns T Tryz.func236 ?_
 refine AW.q (AW.r (AO.x (bxs T 1) ?_))
 refine AO.pu T ?_
 refine AO.n (AW.q ?_)
 obtain ⟨x1,hx2,hH⟩:=zB hH
 refine AW.r (AO.pu T (d:=.g [.s (List.map ze3 c.elements),.s (List.map ze0 c.limits),c.repeats,c.bonus,c.keeps,c.fall]) ?_)
 refine AO.pu T ?_
 refine AO.w (cVs (qGN _ _ _ (hx2))) ?_
 refine AO.pu T ?_
 refine AO.n (AW.q (AW.q ?_))
 refine AW.r (AO.p2 T ?_)
 refine AO.n (AW.c (b:=decide (x1 < 0)) rfl (fun hc=>?_) (fun hc=>?_))
 replace hH:=condT hc hH
 refine AW.q (AW.r (AO.pu T ?_))
 refine AO.n (AW.t ?_)
 have hR:=zS hH;subst hR
 exact retQ.i [] rfl (.c (.c .v))
 replace hH:=condF hc hH
 refine AW.k (AW.q ?_)
 obtain ⟨x3,hx4,hH⟩:=zB hH
 refine AW.r ?_
 iterate 3 refine AO.pu T ?_
 refine AO.w (ixs T (hx4)) ?_
 iterate 3 refine AO.pu T ?_
 refine AO.n (AW.q (AW.q ?_))
 refine AW.r (AO.pu T ?_)
 refine AO.n (AW.b ?_)
 refine AW.q (AW.r (AO.p2 T ?_))
 refine AO.n (AW.c (b:=(mark == 1)) rfl (fun hc=>?_) (fun hc=>?_))
 replace hH:=condT hc hH
 refine AW.q ?_
 obtain ⟨u5,hx6,hH⟩:=zB hH
 refine AW.r ?_
 iterate 3 refine AO.pu T ?_
 refine AO.w aws ?_
 refine AO.w (qGi rfl rfl rfl (neZ (qA4 (hx6)))) ?_
 refine AO.pu T ?_
 refine AO.n (AW.le (Le.ct 0 0 (σ':=(⟨[(6,w64 ((w64 (x3.base * c.keeps)).tdiv 100))],[],36,[]⟩:St))) ?_)
 refine AW.t ?_
 have hR:=zS hH;subst hR
 exact retQ.i [] rfl (.c (.c .v))
 replace hH:=condF hc hH
 refine AW.q (AW.r (AO.p2 T ?_))
 refine AO.n (AW.c (b:=(mark == 2)) rfl (fun hc=>?_) (fun hc=>?_))
 replace hH:=condT hc hH
 refine AW.q ?_
 obtain ⟨u7,hx8,hH⟩:=zB hH
 refine AW.r (AO.pu T ?_)
 refine AO.w aws ?_
 refine AO.w (qGi rfl rfl rfl (neZ (qA4 (hx8)))) ?_
 refine AO.pu T ?_
 refine AO.n (AW.le (Le.ct 0 0 (σ':=(⟨[(6,w64 ((w64 (x3.base * 9)).tdiv 10))],[],36,[]⟩:St))) ?_)
 refine AW.t ?_
 have hR:=zS hH;subst hR
 exact retQ.i [] rfl (.c (.c .v))
 replace hH:=condF hc hH
 refine AW.q (AW.r (AO.p2 T ?_))
 refine AO.n (AW.c (b:=(mark == 3)) rfl (fun hc=>?_) (fun hc=>?_))
 replace hH:=condT hc hH
 refine AW.q (AW.r (AO.pu T ?_))
 refine AO.n (AW.t ?_)
 have hR:=zS hH;subst hR
 exact retQ.i [] rfl (.c (.c .v))
 replace hH:=condF hc hH
 refine AW.k (AW.q (AW.r ?_))
 refine AO.p2 T ?_
 refine AO.n (AW.le (Le.ct 0 0 (σ':=(⟨[(6,x3.base)],[],36,[]⟩:St))) ?_)
 refine AW.t ?_
 have hR:=zS hH;subst hR
 exact retQ.i [] rfl (.c (.c .v))

def qGx (a:Int) (b:Int):Option Int :=
 (qCw (b != 0)).bind fun u1 =>
 cond (decide ((a.tmod b) < 0))
  (some (w64 ((w64 (a.tdiv b)) - 1)))
  (some (w64 (a.tdiv b)))
theorem qNF (a:Int) (b:Int) (r:Int) (hH:qGx a b=some r):qAE Tryz.prog 192 [a,b] (.v (.int .i64 r)):=by
 refine fns T Tryz.func192 ?_
 refine AW.q (AW.r (AO.pu T ?_))
 refine AO.n (AW.q ?_)
 obtain ⟨u1,hx2,hH⟩:=zB hH
 refine AW.r (AO.p2 T ?_)
 refine AO.w (qGi rfl rfl rfl (neZ (qA4 (hx2)))) ?_
 refine AO.pu T ?_
 refine AO.n (AW.q (AW.q ?_))
 refine AW.r (AO.p2 T ?_)
 refine AO.w (qLP rfl rfl rfl (neZ (qA4 (hx2)))) ?_
 refine AO.pu T ?_
 refine AO.n (AW.c (b:=decide ((a.tmod b) < 0)) rfl (fun hc=>?_) (fun hc=>?_))
 replace hH:=condT hc hH
 refine AW.r (AO.pu T ?_)
 refine AO.w aws ?_
 refine AO.pu T ?_
 refine AO.n (AW.q (AW.r ?_))
 refine AO.p2 T ?_
 refine AO.n (AW.t ?_)
 have hR:=zS hH;subst hR
 exact retQ.i [] rfl (.c (.c .v))
 replace hH:=condF hc hH
 refine AW.k (AW.q (AW.r ?_))
 refine AO.p2 T ?_
 refine AO.n (AW.t ?_)
 have hR:=zS hH;subst hR
 exact retQ.i [] rfl (.c (.c .v))

def qDO (a:Int) (b:Int):Option Int :=
 (qGx (w64 ((w64 (2 * a))+b)) (w64 (2 * b))).bind fun x1 =>
 some x1
theorem qFk (a:Int) (b:Int) (r:Int) (hH:qDO a b=some r):qAE Tryz.prog 149 [a,b] (.v (.int .i64 r)):=by
 refine fns T Tryz.func149 ?_
 refine AW.q (AW.r (AO.pu T ?_))
 refine AO.n (AW.q ?_)
 obtain ⟨x1,hx2,hH⟩:=zB hH
 refine AW.r (AO.pu T ?_)
 refine AO.w aws ?_
 refine AO.pu T ?_
 refine AO.w aws ?_
 refine AO.pu T ?_
 refine AO.w aws ?_
 refine AO.w (cVs (qNF _ _ _ (hx2))) ?_
 refine AO.pu T ?_
 refine AO.n (AW.t ?_)
 have hR:=zS hH;subst hR
 exact retQ.i [] rfl (.c (.c .v))

def qBi (c:Code) (it:Item):List ByteArray→Nat→Int→Option Int
 | [],k1,v16 =>
  cond it.late
   ((qDO (w64 (v16 * (w64 (100+c.bonus)))) 100).bind fun x18 =>
   some x18)
   (some v16)
 | y2::ys3,k1,v16 =>
  (qAb it.marks (k1:Int)).bind fun x20 =>
  (qFE c y2 x20).bind fun x22 =>
  qBi c it ys3 (k1+1) (w64 (v16+x22))
def qGr (c:Code) (it:Item):Option Int :=
 qBi c it it.names 0 0
theorem qND (c:Code) (it:Item) (r:Int) (hH:qGr c it=some r):qAE Tryz.prog 230 [.g (ze7 c),.g (ze2 it)] (.v (.int .i64 r)):=by
 refine fns T Tryz.func230 ?_
 refine AW.q (AW.r (AO.x (bxs T 1) ?_))
 refine AO.x (bxs T 2) ?_
 refine AO.pu T ?_
 refine AO.n (AW.q (AW.r ?_))
 refine AO.pu T ?_
 refine AO.n (AW.q (AW.q ?_))
 refine AW.r (AO.p2 T ?_)
 refine AO.w (qCC T) ?_
 refine AO.pu T ?_
 refine AO.n (AW.b ?_)
 refine AW.loopS (fun s:Nat × Int=>(⟨[(2,.p 1 0),(3,.p 2 0),(5,s.2),(9,.s (List.map ze5 it.names)),(10,(it.names.length:Int)),(11,(s.1:Int))],[(1,.box [.s (List.map ze3 c.elements),.s (List.map ze0 c.limits),c.repeats,c.bonus,c.keeps,c.fall]),(2,.box [.s (List.map ze5 it.names),.s (List.map ze0 it.marks),.v (.bool it.late)])],36,[]⟩:St)) (fun s=>s.1 ≤ it.names.length∧qBi c it (it.names.drop s.1) s.1 s.2=some r) (fun s=>it.names.length - s.1) (0,0) ⟨Nat.zero_le _,hH⟩ ?_ ?_
 exact Le.ct 0 0
 rintro ⟨k1,v16⟩ ⟨hk,hH⟩
 replace hH:qBi c it (it.names.drop k1) k1 v16=some r:=hH
 try dsimp only
 refine AW.boundM (t:=9) (l:=it.names) rfl (fun hb5=>?_)
 rcases hd4:it.names.drop k1 with _ | ⟨y2,ys3⟩
 rw [hd4,qBi] at hH
 have hlt6:=qAJ hd4
 refine AW.q (AW.r (AO.pu T ?_))
 refine AO.n (AW.q (AW.condF' (b:=decide ((k1:Int) < (it.names.length:Int))) rfl (qEQ hlt6) ?_))
 refine AW.exit (AW.q (AW.q ?_))
 refine AW.r (AO.p2 T ?_)
 refine AO.n (AW.c (b:=it.late) rfl (fun hc=>?_) (fun hc=>?_))
 replace hH:=condT hc hH
 refine AW.q ?_
 obtain ⟨x18,hx19,hH⟩:=zB hH
 refine AW.r ?_
 iterate 3 refine AO.pu T ?_
 iterate 2 refine AO.w aws ?_
 refine AO.w (cVs (qFk _ _ _ (hx19))) ?_
 refine AO.pu T ?_
 refine AO.n (AW.t ?_)
 have hR:=zS hH;subst hR
 exact retQ.i [] rfl (.c (.c .v))
 replace hH:=condF hc hH
 refine AW.k (AW.q (AW.r ?_))
 refine AO.p2 T ?_
 refine AO.n (AW.t ?_)
 have hR:=zS hH;subst hR
 exact retQ.i [] rfl (.c (.c .v))
 rw [hd4,qBi] at hH
 have hlt6:=qAK hd4
 refine AW.q (AW.r (AO.pu T ?_))
 refine AO.n (AW.q (AW.condT' (b:=decide ((k1:Int) < (it.names.length:Int))) rfl (qER hlt6) ?_))
 refine AW.k (AW.q ?_)
 refine AW.b (AW.q (AW.r ?_))
 refine AO.pu T ?_
 refine AO.w (ixs T (zgD hd4)) ?_
 iterate 3 refine AO.pu T ?_
 refine AO.n ?_
 obtain ⟨x20,hx21,hH⟩:=zB hH
 obtain ⟨x22,hx23,hH⟩:=zB hH
 refine AW.drawn 9 3 [] mix (by kernel_rfl) rfl ?_
 refine AD.pu T ?_
 refine AD.p T (d:=.g [.s (List.map ze3 c.elements),.s (List.map ze0 c.limits),c.repeats,c.bonus,c.keeps,c.fall]) rfl rfl rfl ?_
 iterate 4 refine AD.pu T ?_
 refine AD.vv (ixs T (hx21)) ?_
 refine AD.pu T ?_
 refine AD.vv (cVs (qI9 _ _ _ _ (hx23))) ?_
 refine AD.nil (AO.w aws ?_)
 refine AO.pu T ?_
 refine AO.n (AW.r ?_)
 refine AO.w (zR rfl rfl rfl rfl (zK hlt6 hb5)) ?_
 refine AO.pu T ?_
 refine AO.n ?_
 refine ⟨(k1+1,w64 (v16+x22)),⟨Nat.succ_le_of_lt hlt6,(by rw [zds hd4];exact hH)⟩,(by have:=hlt6;dsimp only;omega),?_⟩
 exact Le.ct 0 0

def qAf (l:List Item) (k:Int):List Item→Nat→Int→Option Int
 | [],k3,v26 =>
  some v26
 | y4::ys5,k3,v26 =>
  (qAb y4.names 0).bind fun x28 =>
  (qAb l k).bind fun x30 =>
  (qAb x30.names 0).bind fun x32 =>
  (opt (decide (x28=x32)) default (qAb y4.marks 0)).bind fun x34 =>
  cond (decide (x28=x32) && (x34 != 3))
   (qAf l k ys5 (k3+1) (w64 (v26+1)))
   (qAf l k ys5 (k3+1) v26)
def qGf (l:List Item) (k:Int):Option Int :=
 (qCD l k).bind fun x1 =>
 qAf l k x1 0 0
theorem qK1 (l:List Item) (k:Int) (r:Int) (hH:qGf l k=some r):qAE Tryz.prog 231 [.s (List.map ze2 l),k] (.v (.int .i64 r)):=by
 refine fns T Tryz.func231 ?_
 refine AW.q (AW.r (AO.pu T ?_))
 refine AO.n (AW.q (AW.r ?_))
 refine AO.pu T ?_
 refine AO.n (AW.q (AW.q ?_))
 obtain ⟨x1,hx2,hH⟩:=zB hH
 refine AW.r (AO.p2 T ?_)
 refine AO.w (qAa T rfl rfl rfl rfl rfl (hx2) (fun _=>rfl)) ?_
 refine AO.w (qCC T) ?_
 refine AO.pu T ?_
 refine AO.n (AW.b ?_)
 refine AW.loopS (fun s:Nat × Int=>(⟨[(0,.s (List.map ze2 l)),(1,k),(5,s.2),(10,.s (List.map ze2 x1)),(11,(x1.length:Int)),(12,(s.1:Int))],[],39,[]⟩:St)) (fun s=>s.1 ≤ x1.length∧qAf l k (x1.drop s.1) s.1 s.2=some r) (fun s=>x1.length - s.1) (0,0) ⟨Nat.zero_le _,hH⟩ ?_ ?_
 exact Le.ct 0 0
 rintro ⟨k3,v26⟩ ⟨hk,hH⟩
 replace hH:qAf l k (x1.drop k3) k3 v26=some r:=hH
 try dsimp only
 refine AW.boundM (t:=10) (l:=x1) rfl (fun hb7=>?_)
 rcases hd6:x1.drop k3 with _ | ⟨y4,ys5⟩
 rw [hd6,qAf] at hH
 have hlt8:=qAJ hd6
 refine AW.q (AW.r (AO.pu T ?_))
 refine AO.n (AW.q (AW.condF' (b:=decide ((k3:Int) < (x1.length:Int))) rfl (qEQ hlt8) ?_))
 refine AW.exit (AW.q (AW.r ?_))
 refine AO.p2 T ?_
 refine AO.n (AW.t ?_)
 have hR:=zS hH;subst hR
 exact retQ.i [] rfl (.c (.c .v))
 rw [hd6,qAf] at hH
 have hlt8:=qAK hd6
 refine AW.q (AW.r (AO.pu T ?_))
 refine AO.n (AW.q (AW.condT' (b:=decide ((k3:Int) < (x1.length:Int))) rfl (qER hlt8) ?_))
 refine AW.k (AW.q ?_)
 refine AW.b (AW.q (AW.r ?_))
 refine AO.w (ixs T (zgD hd6)) ?_
 refine AO.pu T (d:=.g [.s (List.map ze5 y4.names),.s (List.map ze0 y4.marks),.v (.bool y4.late)]) ?_
 refine AO.x (als T 3) ?_
 refine AO.se T [.s (List.map ze5 y4.names),.s (List.map ze0 y4.marks),.v (.bool y4.late)] ?_
 refine AO.n (AW.q ?_)
 obtain ⟨x28,hx29,hH⟩:=zB hH
 obtain ⟨x30,hx31,hH⟩:=zB hH
 obtain ⟨x32,hx33,hH⟩:=zB hH
 obtain ⟨x34,hx35,hH⟩:=zB hH
 refine AW.drawn 11 4 [] mix (by kernel_rfl) rfl ?_
 iterate 2 refine AD.pu T ?_
 refine AD.vv (ixs T (hx29)) ?_
 iterate 3 refine AD.pu T ?_
 refine AD.vv (ixs T (hx31)) ?_
 iterate 2 refine AD.pu T ?_
 refine AD.vv (ixs T (hx33)) ?_
 refine AD.pu T ?_
 refine AD.nil (AO.p2 T ?_)
 refine AO.g T [] rfl trivial rfl rfl ?_
 refine AO.g T [29] rfl ⟨fun h=>h,trivial⟩ rfl rfl ?_
 refine AO.d [30] rfl ⟨fun h=>h,trivial⟩ (fun hg=>zX T rfl rfl rfl rfl rfl (qEA hx35 hg) rfl) rfl ?_
 refine AO.g T [31] rfl ⟨fun h=>h,trivial⟩ rfl rfl ?_
 refine AO.g T [32] rfl ⟨fun h=>h,trivial⟩ rfl rfl ?_
 refine AO.w qFy ?_
 refine AO.n (AW.le (Le.ct 0 0 (σ':=(⟨[(0,.s (List.map ze2 l)),(1,k),(5,v26),(10,.s (List.map ze2 x1)),(11,(x1.length:Int)),(12,(k3:Int)),(34,.v (.bool (decide (x28=x32) && (x34 != 3))))],[],39,[]⟩:St))) ?_)
 refine AW.c (b:=(decide (x28=x32) && (x34 != 3))) rfl (fun hc=>?_) (fun hc=>?_)
 replace hH:=condT hc hH
 refine AW.r (AO.pu T ?_)
 refine AO.w aws ?_
 refine AO.pu T ?_
 refine AO.n (AW.r ?_)
 refine AO.w (zR rfl rfl rfl rfl (zK hlt8 hb7)) ?_
 refine AO.pu T ?_
 refine AO.n ?_
 refine ⟨(k3+1,w64 (v26+1)),⟨Nat.succ_le_of_lt hlt8,(by rw [zds hd6];exact hH)⟩,(by have:=hlt8;dsimp only;omega),?_⟩
 exact Le.ct 0 0
 replace hH:=condF hc hH
 refine AW.k (AW.r ?_)
 refine AO.w (zR rfl rfl rfl rfl (zK hlt8 hb7)) ?_
 refine AO.pu T ?_
 refine AO.n ?_
 refine ⟨(k3+1,v26),⟨Nat.succ_le_of_lt hlt8,(by rw [zds hd6];exact hH)⟩,(by have:=hlt8;dsimp only;omega),?_⟩
 exact Le.ct 0 0

def qEu (c:Code) (l:List Item) (k:Int):Option Int :=
 (qAb l k).bind fun x1 =>
 (qGr c x1).bind fun x3 =>
 (qGf l k).bind fun x5 =>
 cond (decide (x5 < c.repeats))
  (some x3)
  (cond (x5 == c.repeats)
   ((qCw (10 != 0)).bind fun u7 =>
   some (w64 ((w64 (x3 * 7)).tdiv 10)))
   (some 0))
theorem qJ4 (c:Code) (l:List Item) (k:Int) (r:Int) (hH:qEu c l k=some r):qAE Tryz.prog 222 [.g (ze7 c),.s (List.map ze2 l),k] (.v (.int .i64 r)):=by
 refine fns T Tryz.func222 ?_
 refine AW.q (AW.r (AO.x (bxs T 1) ?_))
 refine AO.pu T ?_
 refine AO.n (AW.q ?_)
 obtain ⟨x1,hx2,hH⟩:=zB hH
 obtain ⟨x3,hx4,hH⟩:=zB hH
 refine AW.drawn 5 2 [] mix (by kernel_rfl) rfl ?_
 refine AD.p T (d:=.g [.s (List.map ze3 c.elements),.s (List.map ze0 c.limits),c.repeats,c.bonus,c.keeps,c.fall]) rfl rfl rfl ?_
 iterate 2 refine AD.pu T ?_
 refine AD.vv (ixs T (hx2)) ?_
 refine AD.p T (d:=.g [.s (List.map ze5 x1.names),.s (List.map ze0 x1.marks),.v (.bool x1.late)]) rfl rfl rfl ?_
 refine AD.nil (AO.w (cVs (qND _ _ _ (hx4))) ?_)
 refine AO.pu T ?_
 refine AO.n (AW.q (AW.q ?_))
 obtain ⟨x5,hx6,hH⟩:=zB hH
 refine AW.r (AO.p2 T ?_)
 refine AO.w (cVs (qK1 _ _ _ (hx6))) ?_
 refine AO.pu T ?_
 refine AO.n (AW.b ?_)
 refine AW.q (AW.r ?_)
 iterate 5 refine AO.pu T ?_
 refine AO.n (AW.c (b:=decide (x5 < c.repeats)) rfl (fun hc=>?_) (fun hc=>?_))
 replace hH:=condT hc hH
 refine AW.q (AW.r (AO.p2 T ?_))
 refine AO.n (AW.t ?_)
 have hR:=zS hH;subst hR
 exact retQ.i [] rfl (.c (.c .v))
 replace hH:=condF hc hH
 refine AW.q (AW.r ?_)
 iterate 5 refine AO.pu T ?_
 refine AO.n (AW.c (b:=(x5 == c.repeats)) rfl (fun hc=>?_) (fun hc=>?_))
 replace hH:=condT hc hH
 refine AW.q ?_
 obtain ⟨u7,hx8,hH⟩:=zB hH
 refine AW.r (AO.pu T ?_)
 refine AO.w aws ?_
 refine AO.w (qGi rfl rfl rfl (neZ (qA4 (hx8)))) ?_
 refine AO.pu T ?_
 refine AO.n (AW.le (Le.ct 0 0 (σ':=(⟨[(6,w64 ((w64 (x3 * 7)).tdiv 10))],[],32,[]⟩:St))) ?_)
 refine AW.t ?_
 have hR:=zS hH;subst hR
 exact retQ.i [] rfl (.c (.c .v))
 replace hH:=condF hc hH
 refine AW.k (AW.q (AW.r ?_))
 refine AO.pu T ?_
 refine AO.n (AW.le (Le.ct 0 0 (σ':=(⟨[(6,(0:Int))],[],32,[]⟩:St))) ?_)
 refine AW.t ?_
 have hR:=zS hH;subst hR
 exact retQ.i [] rfl (.c (.c .v))

def qB4:List Int→Nat→Int→Option Int
 | [],k1,v8 =>
  some v8
 | y2::ys3,k1,v8 =>
  qB4 ys3 (k1+1) (w64 (v8+y2))
def qC0 (l:List Int):Option Int :=
 qB4 l 0 0
theorem qFh (l:List Int) (r:Int) (hH:qC0 l=some r):qAE Tryz.prog 147 [.s (List.map ze0 l)] (.v (.int .i64 r)):=by
 refine fns T Tryz.func147 ?_
 refine AW.q (AW.r (AO.pu T ?_))
 refine AO.n (AW.q (AW.r ?_))
 refine AO.pu T ?_
 refine AO.n (AW.q (AW.q ?_))
 refine AW.r (AO.pu T ?_)
 refine AO.w (qCC T) ?_
 refine AO.pu T ?_
 refine AO.n (AW.b ?_)
 refine AW.loopS (fun s:Nat × Int=>(⟨[(3,s.2),(6,.s (List.map ze0 l)),(7,(l.length:Int)),(8,(s.1:Int))],[],17,[]⟩:St)) (fun s=>s.1 ≤ l.length∧qB4 (l.drop s.1) s.1 s.2=some r) (fun s=>l.length - s.1) (0,0) ⟨Nat.zero_le _,hH⟩ ?_ ?_
 exact Le.ct 0 0
 rintro ⟨k1,v8⟩ ⟨hk,hH⟩
 replace hH:qB4 (l.drop k1) k1 v8=some r:=hH
 try dsimp only
 refine AW.boundM (t:=6) (l:=l) rfl (fun hb5=>?_)
 rcases hd4:l.drop k1 with _ | ⟨y2,ys3⟩
 rw [hd4,qB4] at hH
 have hlt6:=qAJ hd4
 refine AW.q (AW.r (AO.pu T ?_))
 refine AO.n (AW.q (AW.condF' (b:=decide ((k1:Int) < (l.length:Int))) rfl (qEQ hlt6) ?_))
 refine AW.exit (AW.q (AW.r ?_))
 refine AO.p2 T ?_
 refine AO.n (AW.t ?_)
 have hR:=zS hH;subst hR
 exact retQ.i [] rfl (.c (.c .v))
 rw [hd4,qB4] at hH
 have hlt6:=qAK hd4
 refine AW.q (AW.r (AO.pu T ?_))
 refine AO.n (AW.q (AW.condT' (b:=decide ((k1:Int) < (l.length:Int))) rfl (qER hlt6) ?_))
 refine AW.k (AW.q ?_)
 refine AW.b (AW.q (AW.r ?_))
 refine AO.w (ixs T (zgD hd4)) ?_
 refine AO.p2 T ?_
 refine AO.n (AW.r ?_)
 refine AO.p2 T ?_
 refine AO.w aws ?_
 refine AO.pu T ?_
 refine AO.n (AW.r ?_)
 refine AO.w (zR rfl rfl rfl rfl (zK hlt6 hb5)) ?_
 refine AO.pu T ?_
 refine AO.n ?_
 refine ⟨(k1+1,w64 (v8+y2)),⟨Nat.succ_le_of_lt hlt6,(by rw [zds hd4];exact hH)⟩,(by have:=hlt6;dsimp only;omega),?_⟩
 exact Le.ct 0 0

def qCZ (y2:Int) (v105:List Int):Nat→Int→Option Int
 | 0,_=>none
 | k153+1,v159 =>
  (opt (decide (v159 > 0)) default (qAb v105 (w64 (v159 - 1)))).bind fun x161 =>
  cond (decide (v159 > 0) && decide (x161 < y2))
   (qCZ y2 v105 k153 (w64 (v159 - 1)))
   (some v159)
def qB0 (fuel:Nat):List Int→Nat→List Int→Option ((List Int))
 | [],k1,v105 =>
  some v105
 | y2::ys3,k1,v105 =>
  ((qCZ y2 v105 fuel (v105.length:Int)).bind fun v150 =>
  (qCD v105 v150).bind fun x163 =>
  (qCw (qBE 8 x163.length)).bind fun u165 =>
  (qCw (qBE 8 (x163.length+([y2]).length))).bind fun u167 =>
  (qJ9 v105 v150).bind fun x169 =>
  (qCw (qBE 8 (((x163++[y2])).length+x169.length))).bind fun u171 =>
  some ((x163++[y2])++x169)).bind fun v138 =>
  qB0 fuel ys3 (k1+1) v138
def qG4 (fuel:Nat) (l:List Int):Option (List Int) :=
 qB0 fuel l 0 []
theorem qLn (fuel:Nat) (l:List Int) (r:(List Int)) (hH:qG4 fuel l=some r):qAE Tryz.prog 233 [.s (List.map ze0 l)] (.w 1 (r.map ze0)):=by
 refine fns T Tryz.func233 ?_
 refine AW.q (AW.r (AO.pu T ?_))
 refine AO.n (AW.q (AW.r ?_))
 refine AO.pu T ?_
 refine AO.n (AW.q (AW.q ?_))
 refine AW.r (AO.pu T ?_)
 refine AO.w (qCC T) ?_
 refine AO.pu T ?_
 refine AO.n (AW.b ?_)
 refine AW.loopS (fun s:Nat × (List Int)=>(⟨[(3,.R 12),(7,.s (List.map ze0 l)),(8,(l.length:Int)),(9,(s.1:Int))],[(12,.row 1 (List.map ze0 s.2))],42,[]⟩:St)) (fun s=>s.1 ≤ l.length∧qB0 fuel (l.drop s.1) s.1 s.2=some r) (fun s=>l.length - s.1) (0,[]) ⟨Nat.zero_le _,hH⟩ ?_ ?_
 refine Le.trans (Le.void 3 12 1 rfl rfl) ?_
 exact Le.ct 0 0
 rintro ⟨k1,v105⟩ ⟨hk,hH⟩
 replace hH:qB0 fuel (l.drop k1) k1 v105=some r:=hH
 try dsimp only
 refine AW.boundM (t:=7) (l:=l) rfl (fun hb5=>?_)
 rcases hd4:l.drop k1 with _ | ⟨y2,ys3⟩
 rw [hd4,qB0] at hH
 have hlt6:=qAJ hd4
 refine AW.q (AW.r (AO.pu T ?_))
 refine AO.n (AW.q (AW.condF' (b:=decide ((k1:Int) < (l.length:Int))) rfl (qEQ hlt6) ?_))
 refine AW.exit (AW.q (AW.r ?_))
 refine AO.p2 T ?_
 refine AO.n (AW.t ?_)
 have hR:=zS hH;subst hR
 exact retQ.i [12] rfl (.c (.c (.rowR rfl)))
 rw [hd4,qB0] at hH
 have hlt6:=qAK hd4
 refine AW.q (AW.r (AO.pu T ?_))
 refine AO.n (AW.q (AW.condT' (b:=decide ((k1:Int) < (l.length:Int))) rfl (qER hlt6) ?_))
 refine AW.k ?_
 obtain ⟨o139,hH,hK140⟩:=zB hH
 refine AW.seqJ (fun s:List Int=>(⟨[(3,.R 20),(7,.s (List.map ze0 l)),(8,(l.length:Int)),(9,(k1:Int))],[(20,.row 1 (List.map ze0 s))],42,[]⟩:St)) (fun s=>s=o139) ?_ ?_
 refine AW.b (AW.q (AW.r ?_))
 refine AO.w (ixs T (zgD hd4)) ?_
 refine AO.p2 T ?_
 refine AO.n (AW.q (AW.r ?_))
 refine AO.pu T ?_
 refine AO.w (qGn T) ?_
 refine AO.pu T ?_
 refine AO.n ?_
 obtain ⟨o151,hH,hK152⟩:=zB hH
 refine AW.seqJ (fun s:Int=>(⟨[(3,.R 12),(5,y2),(6,s),(7,.s (List.map ze0 l)),(8,(l.length:Int)),(9,(k1:Int))],[(12,.row 1 (List.map ze0 v105))],42,[]⟩:St)) (fun s=>s=o151) ?_ ?_
 refine AW.b (AW.loopS (fun s:Nat × Int=>(⟨[(3,.R 12),(5,y2),(6,s.2),(7,.s (List.map ze0 l)),(8,(l.length:Int)),(9,(k1:Int))],[(12,.row 1 (List.map ze0 v105))],42,[]⟩:St)) (fun s=>qCZ y2 v105 s.1 s.2=some o151) (fun s=>s.1) (fuel,(v105.length:Int)) hH ?_ ?_)
 exact Le.ct 0 0
 rintro ⟨k153,v159⟩ hH
 replace hH:qCZ y2 v105 k153 v159=some o151:=hH
 try dsimp only
 rcases k153 with _ | k153
 cases (show none=some _ from hH)
 rw [qCZ] at hH
 refine AW.q (AW.q ?_)
 obtain ⟨x161,hx162,hH⟩:=zB hH
 refine AW.r ?_
 iterate 3 refine AO.pu T ?_
 iterate 2 refine AO.g T [] rfl trivial rfl rfl ?_
 refine AO.d [19] rfl ⟨fun h=>h,trivial⟩ (fun hg=>zW rfl rfl rfl rfl) rfl ?_
 refine AO.d [18,20] rfl ⟨fun h=>h,fun h=>h,trivial⟩ (fun hg=>zXr T rfl rfl rfl rfl rfl rfl (qEA hx162 hg)) rfl ?_
 refine AO.d [21] rfl ⟨fun h=>h,trivial⟩ (fun hg=>zLr T rfl rfl rfl rfl (zgG (qEA hx162 hg)) rfl rfl rfl) rfl ?_
 refine AO.g T [] rfl trivial rfl rfl ?_
 refine AO.g T [22,23] rfl ⟨fun h=>h,fun h=>h,trivial⟩ rfl rfl ?_
 refine AO.w qFy ?_
 refine AO.n (AW.c (b:=(decide (v159 > 0) && decide (x161 < y2))) rfl (fun hc=>?_) (fun hc=>?_))
 replace hH:=condT hc hH
 refine AW.k (AW.b ?_)
 refine AW.r (AO.pu T ?_)
 refine AO.w aws ?_
 refine AO.pu T ?_
 refine AO.n ?_
 refine ⟨(k153,w64 (v159 - 1)),hH,Nat.lt_succ_self _,?_⟩
 exact Le.ct 0 0
 replace hH:=condF hc hH
 refine AW.exit ?_
 refine ⟨_,zS hH,?_⟩
 exact Le.ct 0 0
 rintro v150 hs
 subst hs
 replace hH:=hK152
 try dsimp only [qKp,qID] at hH
 try dsimp only
 obtain ⟨x163,hx164,hH⟩:=zB hH
 obtain ⟨u165,hx166,hH⟩:=zB hH
 obtain ⟨u167,hx168,hH⟩:=zB hH
 obtain ⟨x169,hx170,hH⟩:=zB hH
 obtain ⟨u171,hx172,hH⟩:=zB hH
 refine AW.le (Le.fM 12 (g:=ze0) rfl (fun y=>.vs rfl)) ?_
 refine AW.drawn 11 21 [] mix (by kernel_rfl) rfl ?_
 refine AD.v (FStep.mk0 T rfl rfl rfl rfl rfl) ?_
 iterate 2 refine AD.pu T ?_
 refine AD.vv (qAa T rfl rfl rfl rfl rfl (hx164) (fun _=>rfl)) ?_
 refine AD.q (FStep.app_ws T rfl rfl rfl rfl rfl rfl rfl (by decide) (by decide) rfl rfl (fun _=>rfl) (qA4 (hx166)) rfl) (by simp [qBV]) (Nat.le_succ _) rfl ?_
 refine AD.pu T ?_
 refine AD.q (FStep.mk T (f:=ze0) (l:=[y2]) rfl rfl rfl rfl rfl rfl rfl rfl rfl (fun _=>rfl) rfl rfl rfl rfl) (by simp [qBV]) (Nat.le_succ _) rfl ?_
 refine AD.kk (FStep.app_rv T rfl rfl rfl rfl rfl rfl rfl (by decide) rfl rfl rfl rfl (fun _=>rfl) (qA4 (hx168)) rfl) ?_
 iterate 2 refine AD.pu T ?_
 refine AD.vv (qJL T rfl rfl rfl rfl rfl (hx170) (fun _=>rfl)) ?_
 refine AD.nil (AO.x (qJU T rfl 24 rfl rfl rfl rfl rfl (by decide) (by decide) rfl rfl rfl (fun _=>rfl) (qA4 (hx172)) rfl rfl) ?_)
 refine AO.pu T ?_
 refine AO.n ?_
 refine ⟨_,zS hH,?_⟩
 exact Le.ct 24 20
 rintro v138 hs
 subst hs
 replace hH:=hK140
 try dsimp only [qKp,qID] at hH
 try dsimp only
 refine AW.r (AO.w (zR rfl rfl rfl rfl (zK hlt6 hb5)) ?_)
 refine AO.pu T ?_
 refine AO.n ?_
 refine ⟨(k1+1,v138),⟨Nat.succ_le_of_lt hlt6,(by rw [zds hd4];exact hH)⟩,(by have:=hlt6;dsimp only;omega),?_⟩
 exact Le.ct 20 12

def qFn (fuel:Nat) (l:List Int):Option (Int × Int) :=
 (qC0 l).bind fun x1 =>
 cond (decide ((l.length:Int) < 5))
  (some (x1,(l.length:Int)))
  ((qG4 fuel l).bind fun x3 =>
  (qAb x3 0).bind fun x5 =>
  (qAb x3 (w64 ((x3.length:Int) - 1))).bind fun x7 =>
  some (w64 ((w64 (x1 - x5)) - x7),w64 ((l.length:Int) - 2)))
theorem qJ3 (fuel:Nat) (l:List Int) (r:(Int × Int)) (hH:qFn fuel l=some r):qAE Tryz.prog 224 [.s (List.map ze0 l)] (.t [.v (.int .i64 r.1),.v (.int .i64 r.2)]):=by
 refine fns T Tryz.func224 ?_
 refine AW.q (AW.r (AO.p2 T ?_))
 refine AO.n (AW.q ?_)
 obtain ⟨x1,hx2,hH⟩:=zB hH
 refine AW.r (AO.pu T ?_)
 refine AO.w (cVs (qFh _ _ (hx2))) ?_
 refine AO.pu T ?_
 refine AO.n (AW.q (AW.q ?_))
 refine AW.r (AO.pu T ?_)
 refine AO.w (qCC T) ?_
 refine AO.pu T ?_
 refine AO.n (AW.c (b:=decide ((l.length:Int) < 5)) rfl (fun hc=>?_) (fun hc=>?_))
 replace hH:=condT hc hH
 refine AW.q (AW.r (AO.p2 T ?_))
 refine AO.w (qCC T) ?_
 refine AO.p2 T ?_
 refine AO.n (AW.t ?_)
 have hR:=zS hH;subst hR
 exact retQ.i [] rfl (.t (zG (.c .v) (zG (.c .v) (zGn))))
 replace hH:=condF hc hH
 refine AW.k (AW.q ?_)
 obtain ⟨x3,hx4,hH⟩:=zB hH
 refine AW.r (AO.pu T ?_)
 refine AO.x (qBk rfl 1 rfl rfl rfl (qLn fuel _ _ (hx4)) rfl rfl rfl) ?_
 refine AO.pu T ?_
 refine AO.n (AW.q ?_)
 obtain ⟨x5,hx6,hH⟩:=zB hH
 obtain ⟨x7,hx8,hH⟩:=zB hH
 refine AW.drawn 16 2 [] mix (by kernel_rfl) rfl ?_
 iterate 2 refine AD.pu T ?_
 refine AD.vv (ixr T (hx6)) ?_
 refine AD.vv (zLr T rfl rfl rfl rfl (zgG (hx6)) rfl rfl rfl) ?_
 refine AD.vv aws ?_
 iterate 2 refine AD.pu T ?_
 refine AD.vv (qGn T) ?_
 refine AD.vv aws ?_
 refine AD.vv (ixr T (hx8)) ?_
 refine AD.vv (zLr T rfl rfl rfl rfl (zgG (hx8)) rfl rfl rfl) ?_
 refine AD.vv aws ?_
 refine AD.pu T ?_
 refine AD.vv (qCC T) ?_
 refine AD.vv aws ?_
 refine AD.pu T ?_
 refine AD.nil (AO.pu T ?_)
 refine AO.n (AW.le (Le.ct 0 0 (σ':=(⟨[(2,w64 ((w64 (x1 - x5)) - x7)),(3,w64 ((l.length:Int) - 2))],[],31,[]⟩:St))) ?_)
 refine AW.t ?_
 have hR:=zS hH;subst hR
 exact retQ.i [] rfl (.t (zG (.c .v) (zG (.c .v) (zGn))))

def qCk (c:Code) (it:Item):List ByteArray→Nat→Int→Option Int
 | [],k1,v20 =>
  some v20
 | y2::ys3,k1,v20 =>
  (qAb it.marks (k1:Int)).bind fun x22 =>
  (qFE c y2 x22).bind fun x24 =>
  (qDI v20 x24).bind fun x26 =>
  qCk c it ys3 (k1+1) x26
def qIK (c:Code) (it:Item):Option Int :=
 qCk c it it.names 0 0
theorem qNG (c:Code) (it:Item) (r:Int) (hH:qIK c it=some r):qAE Tryz.prog 232 [.g (ze7 c),.g (ze2 it)] (.v (.int .i64 r)):=by
 refine fns T Tryz.func232 ?_
 refine AW.q (AW.r (AO.x (bxs T 1) ?_))
 refine AO.x (bxs T 2) ?_
 refine AO.pu T ?_
 refine AO.n (AW.q (AW.r ?_))
 refine AO.pu T ?_
 refine AO.n (AW.q (AW.q ?_))
 refine AW.r (AO.p2 T ?_)
 refine AO.w (qCC T) ?_
 refine AO.pu T ?_
 refine AO.n (AW.b ?_)
 refine AW.loopS (fun s:Nat × Int=>(⟨[(2,.p 1 0),(3,.p 2 0),(5,s.2),(9,.s (List.map ze5 it.names)),(10,(it.names.length:Int)),(11,(s.1:Int))],[(1,.box [.s (List.map ze3 c.elements),.s (List.map ze0 c.limits),c.repeats,c.bonus,c.keeps,c.fall]),(2,.box [.s (List.map ze5 it.names),.s (List.map ze0 it.marks),.v (.bool it.late)])],28,[]⟩:St)) (fun s=>s.1 ≤ it.names.length∧qCk c it (it.names.drop s.1) s.1 s.2=some r) (fun s=>it.names.length - s.1) (0,0) ⟨Nat.zero_le _,hH⟩ ?_ ?_
 exact Le.ct 0 0
 rintro ⟨k1,v20⟩ ⟨hk,hH⟩
 replace hH:qCk c it (it.names.drop k1) k1 v20=some r:=hH
 try dsimp only
 refine AW.boundM (t:=9) (l:=it.names) rfl (fun hb5=>?_)
 rcases hd4:it.names.drop k1 with _ | ⟨y2,ys3⟩
 rw [hd4,qCk] at hH
 have hlt6:=qAJ hd4
 refine AW.q (AW.r (AO.pu T ?_))
 refine AO.n (AW.q (AW.condF' (b:=decide ((k1:Int) < (it.names.length:Int))) rfl (qEQ hlt6) ?_))
 refine AW.exit (AW.q (AW.r ?_))
 refine AO.p2 T ?_
 refine AO.n (AW.t ?_)
 have hR:=zS hH;subst hR
 exact retQ.i [] rfl (.c (.c .v))
 rw [hd4,qCk] at hH
 have hlt6:=qAK hd4
 refine AW.q (AW.r (AO.pu T ?_))
 refine AO.n (AW.q (AW.condT' (b:=decide ((k1:Int) < (it.names.length:Int))) rfl (qER hlt6) ?_))
 refine AW.k (AW.q ?_)
 refine AW.b (AW.q (AW.r ?_))
 refine AO.pu T ?_
 refine AO.w (ixs T (zgD hd4)) ?_
 iterate 3 refine AO.pu T ?_
 refine AO.n ?_
 obtain ⟨x22,hx23,hH⟩:=zB hH
 obtain ⟨x24,hx25,hH⟩:=zB hH
 obtain ⟨x26,hx27,hH⟩:=zB hH
 refine AW.drawn 9 3 [] mix (by kernel_rfl) rfl ?_
 refine AD.pu T ?_
 refine AD.p T (d:=.g [.s (List.map ze3 c.elements),.s (List.map ze0 c.limits),c.repeats,c.bonus,c.keeps,c.fall]) rfl rfl rfl ?_
 iterate 4 refine AD.pu T ?_
 refine AD.vv (ixs T (hx23)) ?_
 refine AD.pu T ?_
 refine AD.vv (cVs (qI9 _ _ _ _ (hx25))) ?_
 refine AD.nil (AO.w (cVs (qGJ _ _ _ (hx27))) ?_)
 refine AO.pu T ?_
 refine AO.n (AW.r ?_)
 refine AO.w (zR rfl rfl rfl rfl (zK hlt6 hb5)) ?_
 refine AO.pu T ?_
 refine AO.n ?_
 refine ⟨(k1+1,x26),⟨Nat.succ_le_of_lt hlt6,(by rw [zds hd4];exact hH)⟩,(by have:=hlt6;dsimp only;omega),?_⟩
 exact Le.ct 0 0

def qFY (fuel:Nat) (c:Code) (l:List Item) (k:Int) (grades:List Int):Option Int :=
 (qEu c l k).bind fun x1 =>
 cond (x1 == 0)
  (some 0)
  ((qFn fuel grades).bind fun x3 =>
  (qAb l k).bind fun x5 =>
  (qIK c x5).bind fun x7 =>
  (qDO (w64 (x3.1 * x7)) (w64 (10 * x3.2))).bind fun x9 =>
  some x9)
theorem qLq (fuel:Nat) (c:Code) (l:List Item) (k:Int) (grades:List Int) (r:Int) (hH:qFY fuel c l k grades=some r):qAE Tryz.prog 223 [.g (ze7 c),.s (List.map ze2 l),k,.s (List.map ze0 grades)] (.v (.int .i64 r)):=by
 refine fns T Tryz.func223 ?_
 refine AW.q (AW.r (AO.x (bxs T 1) ?_))
 refine AO.pu T ?_
 refine AO.n (AW.q (AW.q ?_))
 obtain ⟨x1,hx2,hH⟩:=zB hH
 refine AW.r (AO.pu T (d:=.g [.s (List.map ze3 c.elements),.s (List.map ze0 c.limits),c.repeats,c.bonus,c.keeps,c.fall]) ?_)
 refine AO.p2 T ?_
 refine AO.w (cVs (qJ4 _ _ _ _ (hx2))) ?_
 refine AO.pu T ?_
 refine AO.n (AW.c (b:=(x1 == 0)) rfl (fun hc=>?_) (fun hc=>?_))
 replace hH:=condT hc hH
 refine AW.q (AW.r (AO.pu T ?_))
 refine AO.n (AW.t ?_)
 have hR:=zS hH;subst hR
 exact retQ.i [] rfl (.c (.c .v))
 replace hH:=condF hc hH
 refine AW.k (AW.q ?_)
 obtain ⟨x3,hx4,hH⟩:=zB hH
 refine AW.r (AO.pu T ?_)
 refine AO.w (cVs (qJ3 fuel _ _ (hx4))) ?_
 iterate 5 refine AO.pu T ?_
 refine AO.n (AW.q ?_)
 obtain ⟨x5,hx6,hH⟩:=zB hH
 obtain ⟨x7,hx8,hH⟩:=zB hH
 obtain ⟨x9,hx10,hH⟩:=zB hH
 refine AW.drawn 10 2 [] mix (by kernel_rfl) rfl ?_
 refine AD.pu T ?_
 refine AD.p T (d:=.g [.s (List.map ze3 c.elements),.s (List.map ze0 c.limits),c.repeats,c.bonus,c.keeps,c.fall]) rfl rfl rfl ?_
 iterate 2 refine AD.pu T ?_
 refine AD.vv (ixs T (hx6)) ?_
 refine AD.p T (d:=.g [.s (List.map ze5 x5.names),.s (List.map ze0 x5.marks),.v (.bool x5.late)]) rfl rfl rfl ?_
 refine AD.vv (cVs (qNG _ _ _ (hx8))) ?_
 refine AD.vv aws ?_
 refine AD.pu T ?_
 refine AD.vv aws ?_
 refine AD.nil (AO.w (cVs (qFk _ _ _ (hx10))) ?_)
 refine AO.pu T ?_
 refine AO.n (AW.le (Le.ct 0 0 (σ':=(⟨[(8,x9)],[],32,[]⟩:St))) ?_)
 refine AW.t ?_
 have hR:=zS hH;subst hR
 exact retQ.i [] rfl (.c (.c .v))

def qJ8 (fuel:Nat) (c:Code) (l:List Item) (k:Int) (grades:List Int):Option Int :=
 (qEu c l k).bind fun x1 =>
 (qFY fuel c l k grades).bind fun x3 =>
 some (w64 (x1+x3))
theorem qOg (fuel:Nat) (c:Code) (l:List Item) (k:Int) (grades:List Int) (r:Int) (hH:qJ8 fuel c l k grades=some r):qAE Tryz.prog 214 [.g (ze7 c),.s (List.map ze2 l),k,.s (List.map ze0 grades)] (.v (.int .i64 r)):=by
 refine fns T Tryz.func214 ?_
 refine AW.q (AW.r (AO.x (bxs T 1) ?_))
 refine AO.pu T ?_
 refine AO.n (AW.q ?_)
 obtain ⟨x1,hx2,hH⟩:=zB hH
 obtain ⟨x3,hx4,hH⟩:=zB hH
 refine AW.drawn 8 2 [] mix (by kernel_rfl) rfl ?_
 refine AD.p T (d:=.g [.s (List.map ze3 c.elements),.s (List.map ze0 c.limits),c.repeats,c.bonus,c.keeps,c.fall]) rfl rfl rfl ?_
 iterate 2 refine AD.pu T ?_
 refine AD.vv (cVs (qJ4 _ _ _ _ (hx2))) ?_
 refine AD.p T (d:=.g [.s (List.map ze3 c.elements),.s (List.map ze0 c.limits),c.repeats,c.bonus,c.keeps,c.fall]) rfl rfl rfl ?_
 iterate 3 refine AD.pu T ?_
 refine AD.nil (AO.w (cVs (qLq fuel _ _ _ _ _ (hx4))) ?_)
 refine AO.w aws ?_
 refine AO.pu T ?_
 refine AO.n (AW.t ?_)
 have hR:=zS hH;subst hR
 exact retQ.i [] rfl (.c (.c .v))

def qH1 (fuel:Nat) (c:Code) (l:List Item) (m:Marks) (k:Int):Option Int :=
 (qAb m.grades k).bind fun x1 =>
 (qJ8 fuel c l k x1).bind fun x3 =>
 some x3
theorem qMe (fuel:Nat) (c:Code) (l:List Item) (m:Marks) (k:Int) (r:Int) (hH:qH1 fuel c l m k=some r):qAE Tryz.prog 191 [.g (ze7 c),.s (List.map ze2 l),.g (qBN m),k] (.v (.int .i64 r)):=by
 refine fns T Tryz.func191 ?_
 refine AW.q (AW.r (AO.x (bxs T 1) ?_))
 refine AO.x (bxs T 2) ?_
 refine AO.pu T ?_
 refine AO.n (AW.q ?_)
 obtain ⟨x1,hx2,hH⟩:=zB hH
 obtain ⟨x3,hx4,hH⟩:=zB hH
 refine AW.drawn 8 3 [] mix (by kernel_rfl) rfl ?_
 refine AD.p T (d:=.g [.s (List.map ze3 c.elements),.s (List.map ze0 c.limits),c.repeats,c.bonus,c.keeps,c.fall]) rfl rfl rfl ?_
 iterate 5 refine AD.pu T ?_
 refine AD.vv (ixs T (hx2)) ?_
 refine AD.pu T ?_
 refine AD.nil (AO.w (cVs (qOg fuel _ _ _ _ _ (hx4))) ?_)
 refine AO.pu T ?_
 refine AO.n (AW.t ?_)
 have hR:=zS hH;subst hR
 exact retQ.i [] rfl (.c (.c .v))

def qB3 (c:Code) (l:List Item) (m:Marks) (fuel:Nat):List Item→Nat→List Int→Option ((List Int))
 | [],k1,v16 =>
  some v16
 | y2::ys3,k1,v16 =>
  (qH1 fuel c l m (k1:Int)).bind fun x18 =>
  (qCw (qBE 8 (v16.length+([x18]).length))).bind fun u20 =>
  qB3 c l m fuel ys3 (k1+1) (v16++[x18])
def qG8 (fuel:Nat) (c:Code) (l:List Item) (m:Marks):Option (List Int) :=
 qB3 c l m fuel l 0 []
theorem qLm (fuel:Nat) (c:Code) (l:List Item) (m:Marks) (r:(List Int)) (hH:qG8 fuel c l m=some r):qAE Tryz.prog 148 [.g (ze7 c),.s (List.map ze2 l),.g (qBN m)] (.w 1 (r.map ze0)):=by
 refine fns T Tryz.func148 ?_
 refine AW.q (AW.r (AO.x (bxs T 1) ?_))
 refine AO.x (bxs T 2) ?_
 refine AO.pu T ?_
 refine AO.n (AW.q (AW.r ?_))
 refine AO.pu T ?_
 refine AO.n (AW.q (AW.q ?_))
 refine AW.r (AO.pu T ?_)
 refine AO.w (qCC T) ?_
 refine AO.pu T ?_
 refine AO.n (AW.b ?_)
 refine AW.loopS (fun s:Nat × (List Int)=>(⟨[(1,.s (List.map ze2 l)),(3,.p 1 0),(5,.p 2 0),(7,.R 6),(10,(l.length:Int)),(11,(s.1:Int))],[(1,.box [.s (List.map ze3 c.elements),.s (List.map ze0 c.limits),c.repeats,c.bonus,c.keeps,c.fall]),(2,.box [.s (List.map ze1 m.grades),.s (List.map ze1 m.components)]),(6,.row 1 (List.map ze0 s.2))],24,[]⟩:St)) (fun s=>s.1 ≤ l.length∧qB3 c l m fuel (l.drop s.1) s.1 s.2=some r) (fun s=>l.length - s.1) (0,[]) ⟨Nat.zero_le _,hH⟩ ?_ ?_
 refine Le.trans (Le.void 7 6 1 rfl rfl) ?_
 exact Le.ct 0 0
 rintro ⟨k1,v16⟩ ⟨hk,hH⟩
 replace hH:qB3 c l m fuel (l.drop k1) k1 v16=some r:=hH
 try dsimp only
 refine AW.boundM (t:=1) (l:=l) rfl (fun hb5=>?_)
 rcases hd4:l.drop k1 with _ | ⟨y2,ys3⟩
 rw [hd4,qB3] at hH
 have hlt6:=qAJ hd4
 refine AW.q (AW.r (AO.pu T ?_))
 refine AO.n (AW.q (AW.condF' (b:=decide ((k1:Int) < (l.length:Int))) rfl (qEQ hlt6) ?_))
 refine AW.exit (AW.q (AW.r ?_))
 refine AO.p2 T ?_
 refine AO.n (AW.t ?_)
 have hR:=zS hH;subst hR
 exact retQ.i [6] rfl (.c (.c (.rowR rfl)))
 rw [hd4,qB3] at hH
 have hlt6:=qAK hd4
 refine AW.q (AW.r (AO.pu T ?_))
 refine AO.n (AW.q (AW.condT' (b:=decide ((k1:Int) < (l.length:Int))) rfl (qER hlt6) ?_))
 refine AW.k (AW.q ?_)
 refine AW.b (AW.q (AW.r ?_))
 refine AO.p2 T ?_
 refine AO.n ?_
 obtain ⟨x18,hx19,hH⟩:=zB hH
 obtain ⟨u20,hx21,hH⟩:=zB hH
 refine AW.r (AO.pu T ?_)
 refine AO.pu T (d:=.g [.s (List.map ze3 c.elements),.s (List.map ze0 c.limits),c.repeats,c.bonus,c.keeps,c.fall]) ?_
 refine AO.pu T ?_
 refine AO.pu T (d:=.g [.s (List.map ze1 m.grades),.s (List.map ze1 m.components)]) ?_
 refine AO.pu T ?_
 refine AO.w (cVs (qMe fuel _ _ _ _ _ (hx19))) ?_
 refine AO.x (mks T 7 ze0 ([x18])) ?_
 refine AO.x (rvs T 8 (hfit:=by exact qA4 (hx21))) ?_
 refine AO.pu T ?_
 refine AO.n (AW.r ?_)
 refine AO.w (zR rfl rfl rfl rfl (zK hlt6 hb5)) ?_
 refine AO.pu T ?_
 refine AO.n ?_
 refine ⟨(k1+1,(v16++[x18])),⟨Nat.succ_le_of_lt hlt6,(by rw [zds hd4];exact hH)⟩,(by have:=hlt6;dsimp only;omega),?_⟩
 exact Le.ct 8 6

def qFb (fuel:Nat) (c:Code) (p:Performance):Option Int :=
 (qG8 fuel c p.items p.marks).bind fun x1 =>
 (qC0 x1).bind fun x3 =>
 some x3
theorem qJ7 (fuel:Nat) (c:Code) (p:Performance) (r:Int) (hH:qFb fuel c p=some r):qAE Tryz.prog 117 [.g (ze7 c),.g (qGl p)] (.v (.int .i64 r)):=by
 refine fns T Tryz.func117 ?_
 refine AW.q (AW.r (AO.x (bxs T 1) ?_))
 refine AO.x (bxs T 2) ?_
 refine AO.pu T ?_
 refine AO.n (AW.q ?_)
 obtain ⟨x1,hx2,hH⟩:=zB hH
 obtain ⟨x3,hx4,hH⟩:=zB hH
 refine AW.r (AO.pu T (d:=.g [.s (List.map ze3 c.elements),.s (List.map ze0 c.limits),c.repeats,c.bonus,c.keeps,c.fall]) ?_)
 iterate 3 refine AO.pu T ?_
 refine AO.pu T (d:=.g [.s (List.map ze1 p.marks.grades),.s (List.map ze1 p.marks.components)]) ?_
 refine AO.x (qBk rfl 3 rfl rfl rfl (qLm fuel _ _ _ _ (hx2)) rfl rfl rfl) ?_
 refine AO.w (zLV rfl rfl rfl (es:=[.s (List.map ze0 x1)]) ⟨(.rowR rfl (.map fun y=>.vs rfl)),trivial⟩ (qFh _ _ (hx4)) (qAF _) rfl) ?_
 refine AO.pu T ?_
 refine AO.n (AW.t ?_)
 have hR:=zS hH;subst hR
 exact retQ.i [] rfl (.c (.c .v))

def qGT (fuel:Nat) (m:Marks) (k:Int):Option Int :=
 (qAb m.components k).bind fun x1 =>
 (qFn fuel x1).bind fun x3 =>
 (qDO x3.1 x3.2).bind fun x5 =>
 some x5
theorem qMS (fuel:Nat) (m:Marks) (k:Int) (r:Int) (hH:qGT fuel m k=some r):qAE Tryz.prog 215 [.g (qBN m),k] (.v (.int .i64 r)):=by
 refine fns T Tryz.func215 ?_
 refine AW.q (AW.r (AO.x (bxs T 1) ?_))
 refine AO.pu T ?_
 refine AO.n (AW.q ?_)
 obtain ⟨x1,hx2,hH⟩:=zB hH
 obtain ⟨x3,hx4,hH⟩:=zB hH
 refine AW.r ?_
 iterate 3 refine AO.pu T ?_
 refine AO.w (ixs T (hx2)) ?_
 refine AO.pu T ?_
 refine AO.w (cVs (qJ3 fuel _ _ (hx4))) ?_
 iterate 5 refine AO.pu T ?_
 refine AO.n (AW.q ?_)
 obtain ⟨x5,hx6,hH⟩:=zB hH
 refine AW.r (AO.p2 T ?_)
 refine AO.w (cVs (qFk _ _ _ (hx6))) ?_
 refine AO.pu T ?_
 refine AO.n (AW.t ?_)
 have hR:=zS hH;subst hR
 exact retQ.i [] rfl (.c (.c .v))

def qB1 (m:Marks) (most:Int) (fuel:Nat):List (List Int)→Nat→List Int→Option ((List Int))
 | [],k1,v20 =>
  some v20
 | y2::ys3,k1,v20 =>
  (qGT fuel m (k1:Int)).bind fun x22 =>
  (qBB x22 most).bind fun x24 =>
  (qCw (qBE 8 (v20.length+([x24]).length))).bind fun u26 =>
  qB1 m most fuel ys3 (k1+1) (v20++[x24])
def qEX (fuel:Nat) (m:Marks) (most:Int):Option (List Int) :=
 qB1 m most fuel m.components 0 []
theorem qGj (fuel:Nat) (m:Marks) (most:Int) (r:(List Int)) (hH:qEX fuel m most=some r):qAE Tryz.prog 193 [.g (qBN m),most] (.w 1 (r.map ze0)):=by
 refine fns T Tryz.func193 ?_
 refine AW.q (AW.r (AO.x (bxs T 1) ?_))
 refine AO.pu T ?_
 refine AO.n (AW.q (AW.r ?_))
 refine AO.pu T ?_
 refine AO.n (AW.q (AW.q ?_))
 refine AW.r (AO.p2 T ?_)
 refine AO.w (qCC T) ?_
 refine AO.pu T ?_
 refine AO.n (AW.b ?_)
 refine AW.loopS (fun s:Nat × (List Int)=>(⟨[(1,most),(2,.p 1 0),(5,.R 5),(9,(m.components.length:Int)),(10,(s.1:Int))],[(1,.box [.s (List.map ze1 m.grades),.s (List.map ze1 m.components)]),(5,.row 1 (List.map ze0 s.2))],23,[]⟩:St)) (fun s=>s.1 ≤ m.components.length∧qB1 m most fuel (m.components.drop s.1) s.1 s.2=some r) (fun s=>m.components.length - s.1) (0,[]) ⟨Nat.zero_le _,hH⟩ ?_ ?_
 refine Le.trans (Le.void 5 5 1 rfl rfl) ?_
 exact Le.ct 0 0
 rintro ⟨k1,v20⟩ ⟨hk,hH⟩
 replace hH:qB1 m most fuel (m.components.drop k1) k1 v20=some r:=hH
 try dsimp only
 refine AW.boundBox (id:=1) (j:=1) (l:=m.components) rfl rfl (fun hb5=>?_)
 rcases hd4:m.components.drop k1 with _ | ⟨y2,ys3⟩
 rw [hd4,qB1] at hH
 have hlt6:=qAJ hd4
 refine AW.q (AW.r (AO.pu T ?_))
 refine AO.n (AW.q (AW.condF' (b:=decide ((k1:Int) < (m.components.length:Int))) rfl (qEQ hlt6) ?_))
 refine AW.exit (AW.q (AW.r ?_))
 refine AO.p2 T ?_
 refine AO.n (AW.t ?_)
 have hR:=zS hH;subst hR
 exact retQ.i [5] rfl (.c (.c (.rowR rfl)))
 rw [hd4,qB1] at hH
 have hlt6:=qAK hd4
 refine AW.q (AW.r (AO.pu T ?_))
 refine AO.n (AW.q (AW.condT' (b:=decide ((k1:Int) < (m.components.length:Int))) rfl (qER hlt6) ?_))
 refine AW.k (AW.q ?_)
 refine AW.b (AW.q (AW.r ?_))
 refine AO.p2 T ?_
 refine AO.n ?_
 obtain ⟨x22,hx23,hH⟩:=zB hH
 obtain ⟨x24,hx25,hH⟩:=zB hH
 obtain ⟨u26,hx27,hH⟩:=zB hH
 refine AW.r (AO.pu T ?_)
 refine AO.pu T (d:=.g [.s (List.map ze1 m.grades),.s (List.map ze1 m.components)]) ?_
 refine AO.pu T ?_
 refine AO.w (cVs (qMS fuel _ _ _ (hx23))) ?_
 refine AO.pu T ?_
 refine AO.w (cVs (qBZ _ _ _ (hx25))) ?_
 refine AO.x (mks T 6 ze0 ([x24])) ?_
 refine AO.x (rvs T 7 (hfit:=by exact qA4 (hx27))) ?_
 refine AO.pu T ?_
 refine AO.n (AW.r ?_)
 refine AO.w (zR rfl rfl rfl rfl (zK hlt6 hb5)) ?_
 refine AO.pu T ?_
 refine AO.n ?_
 refine ⟨(k1+1,(v20++[x24])),⟨Nat.succ_le_of_lt hlt6,(by rw [zds hd4];exact hH)⟩,(by have:=hlt6;dsimp only;omega),?_⟩
 exact Le.ct 7 5

def qHc (fuel:Nat) (m:Marks) (falls:Int):Option Int :=
 cond (falls == 0)
  ((qEX fuel m 1000).bind fun x1 =>
  (qC0 x1).bind fun x3 =>
  some x3)
  (cond (falls == 1)
   ((qEX fuel m 950).bind fun x5 =>
   (qC0 x5).bind fun x7 =>
   some x7)
   ((qEX fuel m 900).bind fun x9 =>
   (qC0 x9).bind fun x11 =>
   some x11))
theorem qN3 (fuel:Nat) (m:Marks) (falls:Int) (r:Int) (hH:qHc fuel m falls=some r):qAE Tryz.prog 150 [.g (qBN m),falls] (.v (.int .i64 r)):=by
 refine fns T Tryz.func150 ?_
 refine AW.q (AW.r (AO.x (bxs T 1) ?_))
 refine AO.pu T ?_
 refine AO.n (AW.q (AW.r ?_))
 refine AO.pu T ?_
 refine AO.n (AW.q (AW.q ?_))
 refine AW.r (AO.pu T ?_)
 refine AO.n (AW.b ?_)
 refine AW.q (AW.r (AO.p2 T ?_))
 refine AO.n (AW.c (b:=(falls == 0)) rfl (fun hc=>?_) (fun hc=>?_))
 replace hH:=condT hc hH
 refine AW.r (AO.pu T ?_)
 refine AO.n (AW.q ?_)
 obtain ⟨x1,hx2,hH⟩:=zB hH
 obtain ⟨x3,hx4,hH⟩:=zB hH
 refine AW.r (AO.pu T (d:=.g [.s (List.map ze1 m.grades),.s (List.map ze1 m.components)]) ?_)
 refine AO.pu T ?_
 refine AO.x (qBk rfl 2 rfl rfl rfl (qGj fuel _ _ _ (hx2)) rfl rfl rfl) ?_
 refine AO.w (zLV rfl rfl rfl (es:=[.s (List.map ze0 x1)]) ⟨(.rowR rfl (.map fun y=>.vs rfl)),trivial⟩ (qFh _ _ (hx4)) (qAF _) rfl) ?_
 refine AO.pu T ?_
 refine AO.n (AW.t ?_)
 have hR:=zS hH;subst hR
 exact retQ.i [] rfl (.c (.c .v))
 replace hH:=condF hc hH
 refine AW.q (AW.r (AO.p2 T ?_))
 refine AO.n (AW.c (b:=(falls == 1)) rfl (fun hc=>?_) (fun hc=>?_))
 replace hH:=condT hc hH
 refine AW.r (AO.pu T ?_)
 refine AO.n (AW.q ?_)
 obtain ⟨x5,hx6,hH⟩:=zB hH
 obtain ⟨x7,hx8,hH⟩:=zB hH
 refine AW.r (AO.pu T (d:=.g [.s (List.map ze1 m.grades),.s (List.map ze1 m.components)]) ?_)
 refine AO.pu T ?_
 refine AO.x (qBk rfl 3 rfl rfl rfl (qGj fuel _ _ _ (hx6)) rfl rfl rfl) ?_
 refine AO.w (zLV rfl rfl rfl (es:=[.s (List.map ze0 x5)]) ⟨(.rowR rfl (.map fun y=>.vs rfl)),trivial⟩ (qFh _ _ (hx8)) (qAF _) rfl) ?_
 refine AO.pu T ?_
 refine AO.n (AW.t ?_)
 have hR:=zS hH;subst hR
 exact retQ.i [] rfl (.c (.c .v))
 replace hH:=condF hc hH
 refine AW.k (AW.q ?_)
 obtain ⟨x9,hx10,hH⟩:=zB hH
 obtain ⟨x11,hx12,hH⟩:=zB hH
 refine AW.r (AO.pu T (d:=.g [.s (List.map ze1 m.grades),.s (List.map ze1 m.components)]) ?_)
 refine AO.pu T ?_
 refine AO.x (qBk rfl 4 rfl rfl rfl (qGj fuel _ _ _ (hx10)) rfl rfl rfl) ?_
 refine AO.w (zLV rfl rfl rfl (es:=[.s (List.map ze0 x9)]) ⟨(.rowR rfl (.map fun y=>.vs rfl)),trivial⟩ (qFh _ _ (hx12)) (qAF _) rfl) ?_
 refine AO.pu T ?_
 refine AO.n (AW.t ?_)
 have hR:=zS hH;subst hR
 exact retQ.i [] rfl (.c (.c .v))

def qEr (fuel:Nat) (m:Marks) (factor:Int) (falls:Int):Option Int :=
 (qHc fuel m falls).bind fun x1 =>
 (qDO (w64 (x1 * factor)) 100).bind fun x3 =>
 some x3
theorem qKO (fuel:Nat) (m:Marks) (factor:Int) (falls:Int) (r:Int) (hH:qEr fuel m factor falls=some r):qAE Tryz.prog 118 [.g (qBN m),factor,falls] (.v (.int .i64 r)):=by
 refine fns T Tryz.func118 ?_
 refine AW.q (AW.r (AO.x (bxs T 1) ?_))
 refine AO.pu T ?_
 refine AO.n (AW.q ?_)
 obtain ⟨x1,hx2,hH⟩:=zB hH
 obtain ⟨x3,hx4,hH⟩:=zB hH
 refine AW.r (AO.pu T (d:=.g [.s (List.map ze1 m.grades),.s (List.map ze1 m.components)]) ?_)
 refine AO.pu T ?_
 refine AO.w (cVs (qN3 fuel _ _ _ (hx2))) ?_
 refine AO.pu T ?_
 refine AO.w aws ?_
 refine AO.w (cVs (qFk _ _ _ (hx4))) ?_
 refine AO.pu T ?_
 refine AO.n (AW.t ?_)
 have hR:=zS hH;subst hR
 exact retQ.i [] rfl (.c (.c .v))

def qC1 (fall:Int) (falls:Int):Nat→Int→Int→Option Int
 | 0,_,_=>none
 | k1+1,v12,v13 =>
  cond (decide (v13 < falls))
   ((qCw (2 != 0)).bind fun u15 =>
   (qBB 3 (w64 ((w64 (v13.tdiv 2))+1))).bind fun x17 =>
   qC1 fall falls k1 (w64 (v12+(w64 (fall * x17)))) (w64 (v13+1)))
   (some v12)
def qHp (fuel:Nat) (fall:Int) (falls:Int):Option Int :=
 qC1 fall falls fuel 0 0
theorem qMZ (fuel:Nat) (fall:Int) (falls:Int) (r:Int) (hH:qHp fuel fall falls=some r):qAE Tryz.prog 151 [fall,falls] (.v (.int .i64 r)):=by
 refine fns T Tryz.func151 ?_
 refine AW.q (AW.r (AO.pu T ?_))
 refine AO.n (AW.q (AW.r ?_))
 refine AO.pu T ?_
 refine AO.n (AW.q (AW.q ?_))
 refine AW.r (AO.pu T ?_)
 refine AO.n (AW.b ?_)
 refine AW.loopS (fun s:Nat × Int × Int=>(⟨[(0,fall),(1,falls),(5,s.2.1),(6,s.2.2)],[],21,[]⟩:St)) (fun s=>qC1 fall falls s.1 s.2.1 s.2.2=some r) (fun s=>s.1) (fuel,0,0) hH ?_ ?_
 exact Le.ct 0 0
 rintro ⟨k1,v12,v13⟩ hH
 replace hH:qC1 fall falls k1 v12 v13=some r:=hH
 try dsimp only
 rcases k1 with _ | k1
 cases (show none=some _ from hH)
 rw [qC1] at hH
 refine AW.q (AW.q (AW.r ?_))
 iterate 3 refine AO.pu T ?_
 refine AO.n (AW.c (b:=decide (v13 < falls)) rfl (fun hc=>?_) (fun hc=>?_))
 replace hH:=condT hc hH
 refine AW.k (AW.q ?_)
 refine AW.b ?_
 obtain ⟨u15,hx16,hH⟩:=zB hH
 obtain ⟨x17,hx18,hH⟩:=zB hH
 refine AW.r ?_
 iterate 3 refine AO.pu T ?_
 refine AO.w (qGi rfl rfl rfl (neZ (qA4 (hx16)))) ?_
 refine AO.w aws ?_
 refine AO.w (cVs (qBZ _ _ _ (hx18))) ?_
 iterate 2 refine AO.w aws ?_
 refine AO.pu T ?_
 refine AO.n (AW.r ?_)
 refine AO.pu T ?_
 refine AO.w aws ?_
 refine AO.pu T ?_
 refine AO.n ?_
 refine ⟨(k1,w64 (v12+(w64 (fall * x17))),w64 (v13+1)),hH,Nat.lt_succ_self _,?_⟩
 exact Le.ct 0 0
 replace hH:=condF hc hH
 refine AW.exit (AW.q (AW.r ?_))
 refine AO.p2 T ?_
 refine AO.n (AW.t ?_)
 have hR:=zS hH;subst hR
 exact retQ.i [] rfl (.c (.c .v))

def qIN (seconds:Int):Option Int :=
 (qCw (5 != 0)).bind fun u1 =>
 some (w64 ((w64 ((w64 (seconds+4)).tdiv 5)) * 100))
theorem qM9 (seconds:Int) (r:Int) (hH:qIN seconds=some r):qAE Tryz.prog 152 [seconds] (.v (.int .i64 r)):=by
 refine fns T Tryz.func152 ?_
 refine AW.q (AW.r (AO.pu T ?_))
 refine AO.n (AW.q ?_)
 obtain ⟨u1,hx2,hH⟩:=zB hH
 refine AW.r (AO.pu T ?_)
 refine AO.w aws ?_
 refine AO.w (qGi rfl rfl rfl (neZ (qA4 (hx2)))) ?_
 refine AO.w aws ?_
 refine AO.pu T ?_
 refine AO.n (AW.t ?_)
 have hR:=zS hH;subst hR
 exact retQ.i [] rfl (.c (.c .v))

def qHe (fuel:Nat) (c:Code) (sA:Slips):Option Int :=
 (qHp fuel c.fall sA.falls).bind fun x1 =>
 (qIN sA.seconds).bind fun x3 =>
 some (w64 ((w64 (x1+x3))+sA.other))
theorem qN5 (fuel:Nat) (c:Code) (sA:Slips) (r:Int) (hH:qHe fuel c sA=some r):qAE Tryz.prog 119 [.g (ze7 c),.g (qJh sA)] (.v (.int .i64 r)):=by
 refine fns T Tryz.func119 ?_
 refine AW.q (AW.r (AO.x (bxs T 1) ?_))
 refine AO.x (bxs T 2) ?_
 refine AO.pu T ?_
 refine AO.n (AW.q ?_)
 obtain ⟨x1,hx2,hH⟩:=zB hH
 obtain ⟨x3,hx4,hH⟩:=zB hH
 refine AW.drawn 11 3 [] mix (by kernel_rfl) rfl ?_
 iterate 4 refine AD.pu T ?_
 refine AD.vv (cVs (qMZ fuel _ _ _ (hx2))) ?_
 iterate 2 refine AD.pu T ?_
 refine AD.vv (cVs (qM9 _ _ (hx4))) ?_
 refine AD.vv aws ?_
 iterate 2 refine AD.pu T ?_
 refine AD.nil (AO.w aws ?_)
 refine AO.pu T ?_
 refine AO.n (AW.t ?_)
 have hR:=zS hH;subst hR
 exact retQ.i [] rfl (.c (.c .v))

def qGD (fuel:Nat) (c:Code) (p:Performance) (factor:Int):Option (List Int) :=
 (qFb fuel c p).bind fun x1 =>
 (qEr fuel p.marks factor p.slips.falls).bind fun x3 =>
 (qHe fuel c p.slips).bind fun x5 =>
 (qDI 0 (w64 ((w64 (x1+x3)) - x5))).bind fun x7 =>
 some [x1,x3,x5,x7]
theorem qMV (fuel:Nat) (c:Code) (p:Performance) (factor:Int) (r:(List Int)) (hH:qGD fuel c p factor=some r):qAE Tryz.prog 74 [.g (ze7 c),.g (qGl p),factor] (.w 1 (r.map ze0)):=by
 refine fns T Tryz.func74 ?_
 refine AW.q (AW.r (AO.x (bxs T 1) ?_))
 refine AO.x (bxs T 2) ?_
 refine AO.pu T ?_
 refine AO.n (AW.q ?_)
 obtain ⟨x1,hx2,hH⟩:=zB hH
 obtain ⟨x3,hx4,hH⟩:=zB hH
 obtain ⟨x5,hx6,hH⟩:=zB hH
 refine AW.drawn 13 3 [] mix (by kernel_rfl) rfl ?_
 refine AD.p T (d:=.g [.s (List.map ze3 c.elements),.s (List.map ze0 c.limits),c.repeats,c.bonus,c.keeps,c.fall]) rfl rfl rfl ?_
 refine AD.p T (d:=.g [.s (List.map ze2 p.items),.s (List.map ze1 p.marks.grades),.s (List.map ze1 p.marks.components),p.slips.falls,p.slips.seconds,p.slips.other]) rfl rfl rfl ?_
 refine AD.vv (cVs (qJ7 fuel _ _ _ (hx2))) ?_
 refine AD.pu T ?_
 refine AD.p T (d:=.g [.s (List.map ze1 p.marks.grades),.s (List.map ze1 p.marks.components)]) rfl rfl rfl ?_
 iterate 4 refine AD.pu T ?_
 refine AD.vv (cVs (qKO fuel _ _ _ _ (hx4))) ?_
 refine AD.p T (d:=.g [.s (List.map ze3 c.elements),.s (List.map ze0 c.limits),c.repeats,c.bonus,c.keeps,c.fall]) rfl rfl rfl ?_
 refine AD.pu T ?_
 refine AD.p T (d:=.g [p.slips.falls,p.slips.seconds,p.slips.other]) rfl rfl rfl ?_
 refine AD.nil (AO.w (cVs (qN5 fuel _ _ _ (hx6))) ?_)
 iterate 3 refine AO.pu T ?_
 refine AO.n (AW.q ?_)
 obtain ⟨x7,hx8,hH⟩:=zB hH
 refine AW.r ?_
 iterate 5 refine AO.pu T ?_
 refine AO.w aws ?_
 refine AO.pu T ?_
 refine AO.w aws ?_
 refine AO.w (cVs (qGJ _ _ _ (hx8))) ?_
 refine AO.x (mks T 3 ze0 ([x1,x3,x5,x7])) ?_
 refine AO.pu T ?_
 refine AO.n (AW.le (Le.ct 0 0 (σ':=(⟨[(6,.R 3)],[(3,.row 1 (List.map ze0 [x1,x3,x5,x7]))],34,[]⟩:St))) ?_)
 refine AW.t ?_
 have hR:=zS hH;subst hR
 exact retQ.i [3] rfl (.c (.c (.rowR rfl)))

def qGQ (fuel:Nat) (c:Code) (p:Performance) (factor:Int):Option Int :=
 (qGD fuel c p factor).bind fun x1 =>
 (qAb x1 3).bind fun x3 =>
 some x3
theorem qMs (fuel:Nat) (c:Code) (p:Performance) (factor:Int) (r:Int) (hH:qGQ fuel c p factor=some r):qAE Tryz.prog 32 [.g (ze7 c),.g (qGl p),factor] (.v (.int .i64 r)):=by
 refine fns T Tryz.func32 ?_
 refine AW.q (AW.r (AO.x (bxs T 1) ?_))
 refine AO.x (bxs T 2) ?_
 refine AO.pu T ?_
 refine AO.n (AW.q ?_)
 obtain ⟨x1,hx2,hH⟩:=zB hH
 obtain ⟨x3,hx4,hH⟩:=zB hH
 refine AW.r (AO.pu T (d:=.g [.s (List.map ze3 c.elements),.s (List.map ze0 c.limits),c.repeats,c.bonus,c.keeps,c.fall]) ?_)
 refine AO.pu T (d:=.g [.s (List.map ze2 p.items),.s (List.map ze1 p.marks.grades),.s (List.map ze1 p.marks.components),p.slips.falls,p.slips.seconds,p.slips.other]) ?_
 refine AO.pu T ?_
 refine AO.x (qBk rfl 3 rfl rfl rfl (qMV fuel _ _ _ _ (hx2)) rfl rfl rfl) ?_
 refine AO.w (ixr T (hx4)) ?_
 refine AO.w (zLr T rfl rfl rfl rfl (zgG (hx4)) rfl rfl rfl) ?_
 refine AO.pu T ?_
 refine AO.n (AW.t ?_)
 have hR:=zS hH;subst hR
 exact retQ.i [] rfl (.c (.c .v))

def qEC (fuel:Nat) (c:Code) (p:Performance) (factor:Int):Option (Int × Bool) :=
 (qGI fuel c p factor).bind fun x1 =>
 cond (!x1)
  (some (0,false))
  ((qGQ fuel c p factor).bind fun x3 =>
  some (x3,true))
theorem qJn (fuel:Nat) (c:Code) (p:Performance) (factor:Int) (r:(Int × Bool)) (hH:qEC fuel c p factor=some r):qAE Tryz.prog 8 [.g (ze7 c),.g (qGl p),factor] (.t [.v (.int .i64 r.1),.v (.bool r.2)]):=by
 refine fns T Tryz.func8 ?_
 refine AW.q (AW.r (AO.x (bxs T 1) ?_))
 refine AO.x (bxs T 2) ?_
 refine AO.p2 T ?_
 refine AO.n (AW.q (AW.q ?_))
 obtain ⟨x1,hx2,hH⟩:=zB hH
 refine AW.r (AO.pu T (d:=.g [.s (List.map ze3 c.elements),.s (List.map ze0 c.limits),c.repeats,c.bonus,c.keeps,c.fall]) ?_)
 refine AO.pu T (d:=.g [.s (List.map ze2 p.items),.s (List.map ze1 p.marks.grades),.s (List.map ze1 p.marks.components),p.slips.falls,p.slips.seconds,p.slips.other]) ?_
 refine AO.pu T ?_
 refine AO.w (cVs (qMb fuel _ _ _ _ (hx2))) ?_
 refine AO.pu T ?_
 refine AO.n (AW.c (b:=(!x1)) rfl (fun hc=>?_) (fun hc=>?_))
 replace hH:=condT hc hH
 refine AW.q (AW.r (AO.p2 T ?_))
 refine AO.n (AW.t ?_)
 have hR:=zS hH;subst hR
 exact retQ.i [] rfl (.t (zG (.c .v) (zG (.c .v) (zGn))))
 replace hH:=condF hc hH
 refine AW.k (AW.q ?_)
 obtain ⟨x3,hx4,hH⟩:=zB hH
 refine AW.r (AO.pu T (d:=.g [.s (List.map ze3 c.elements),.s (List.map ze0 c.limits),c.repeats,c.bonus,c.keeps,c.fall]) ?_)
 refine AO.pu T (d:=.g [.s (List.map ze2 p.items),.s (List.map ze1 p.marks.grades),.s (List.map ze1 p.marks.components),p.slips.falls,p.slips.seconds,p.slips.other]) ?_
 refine AO.pu T ?_
 refine AO.w (cVs (qMs fuel _ _ _ _ (hx4))) ?_
 refine AO.p2 T ?_
 refine AO.n (AW.t ?_)
 have hR:=zS hH;subst hR
 exact retQ.i [] rfl (.t (zG (.c .v) (zG (.c .v) (zGn))))

def qEo (fuel:Nat) (c:Code) (l:List Item) (m:Marks):Option ((List Int) × Bool) :=
 (qEK fuel c l m).bind fun x1 =>
 cond (!x1)
  (some ([],false))
  ((qEx fuel c l m).bind fun x3 =>
  some (x3,true))
theorem qKT (fuel:Nat) (c:Code) (l:List Item) (m:Marks) (r:((List Int) × Bool)) (hH:qEo fuel c l m=some r):qAE Tryz.prog 9 [.g (ze7 c),.s (List.map ze2 l),.g (qBN m)] (.t [.w 1 (r.1.map ze0),.v (.bool r.2)]):=by
 refine fns T Tryz.func9 ?_
 refine AW.q (AW.r (AO.x (bxs T 1) ?_))
 refine AO.x (bxs T 2) ?_
 refine AO.p2 T ?_
 refine AO.n (AW.q (AW.q ?_))
 obtain ⟨x1,hx2,hH⟩:=zB hH
 refine AW.r (AO.pu T (d:=.g [.s (List.map ze3 c.elements),.s (List.map ze0 c.limits),c.repeats,c.bonus,c.keeps,c.fall]) ?_)
 refine AO.pu T ?_
 refine AO.pu T (d:=.g [.s (List.map ze1 m.grades),.s (List.map ze1 m.components)]) ?_
 refine AO.w (cVs (qH2 fuel _ _ _ _ (hx2))) ?_
 refine AO.pu T ?_
 refine AO.n (AW.c (b:=(!x1)) rfl (fun hc=>?_) (fun hc=>?_))
 replace hH:=condT hc hH
 refine AW.q (AW.r (AO.p2 T ?_))
 refine AO.n (AW.t ?_)
 have hR:=zS hH;subst hR
 exact retQ.i [] rfl (.t (zG (.c .nil) (zG (.c .v) (zGn))))
 replace hH:=condF hc hH
 refine AW.k (AW.q ?_)
 obtain ⟨x3,hx4,hH⟩:=zB hH
 refine AW.r (AO.pu T (d:=.g [.s (List.map ze3 c.elements),.s (List.map ze0 c.limits),c.repeats,c.bonus,c.keeps,c.fall]) ?_)
 refine AO.pu T ?_
 refine AO.pu T (d:=.g [.s (List.map ze1 m.grades),.s (List.map ze1 m.components)]) ?_
 refine AO.x (qBk rfl 3 rfl rfl rfl (qHX fuel _ _ _ _ (hx4)) rfl rfl rfl) ?_
 refine AO.p2 T ?_
 refine AO.n (AW.t ?_)
 have hR:=zS hH;subst hR
 exact retQ.i [3] rfl (.t (zG (.c (.rowR rfl)) (zG (.c .v) (zGn))))

def qGP (fuel:Nat) (c:Code) (p:Performance) (factor:Int):Option ((List Int) × Bool) :=
 (qDZ fuel c p factor).bind fun x1 =>
 cond (!x1)
  (some ([],false))
  ((qFC fuel c p factor).bind fun x3 =>
  some (x3,true))
theorem qL4 (fuel:Nat) (c:Code) (p:Performance) (factor:Int) (r:((List Int) × Bool)) (hH:qGP fuel c p factor=some r):qAE Tryz.prog 10 [.g (ze7 c),.g (qGl p),factor] (.t [.w 1 (r.1.map ze0),.v (.bool r.2)]):=by
 refine fns T Tryz.func10 ?_
 refine AW.q (AW.r (AO.x (bxs T 1) ?_))
 refine AO.x (bxs T 2) ?_
 refine AO.p2 T ?_
 refine AO.n (AW.q (AW.q ?_))
 obtain ⟨x1,hx2,hH⟩:=zB hH
 refine AW.r (AO.pu T (d:=.g [.s (List.map ze3 c.elements),.s (List.map ze0 c.limits),c.repeats,c.bonus,c.keeps,c.fall]) ?_)
 refine AO.pu T (d:=.g [.s (List.map ze2 p.items),.s (List.map ze1 p.marks.grades),.s (List.map ze1 p.marks.components),p.slips.falls,p.slips.seconds,p.slips.other]) ?_
 refine AO.pu T ?_
 refine AO.w (cVs (qFP fuel _ _ _ _ (hx2))) ?_
 refine AO.pu T ?_
 refine AO.n (AW.c (b:=(!x1)) rfl (fun hc=>?_) (fun hc=>?_))
 replace hH:=condT hc hH
 refine AW.q (AW.r (AO.p2 T ?_))
 refine AO.n (AW.t ?_)
 have hR:=zS hH;subst hR
 exact retQ.i [] rfl (.t (zG (.c .nil) (zG (.c .v) (zGn))))
 replace hH:=condF hc hH
 refine AW.k (AW.q ?_)
 obtain ⟨x3,hx4,hH⟩:=zB hH
 refine AW.r (AO.pu T (d:=.g [.s (List.map ze3 c.elements),.s (List.map ze0 c.limits),c.repeats,c.bonus,c.keeps,c.fall]) ?_)
 refine AO.pu T (d:=.g [.s (List.map ze2 p.items),.s (List.map ze1 p.marks.grades),.s (List.map ze1 p.marks.components),p.slips.falls,p.slips.seconds,p.slips.other]) ?_
 refine AO.pu T ?_
 refine AO.x (qBk rfl 3 rfl rfl rfl (qI8 fuel _ _ _ _ (hx4)) rfl rfl rfl) ?_
 refine AO.p2 T ?_
 refine AO.n (AW.t ?_)
 have hR:=zS hH;subst hR
 exact retQ.i [3] rfl (.t (zG (.c (.rowR rfl)) (zG (.c .v) (zGn))))

def qFG (p:Performance):Option Int :=
 (qBL p.marks).bind fun x1 =>
 cond (decide (x1 ≥ 5))
  (some (w64 (x1 - 2)))
  (some x1)
theorem qJC (p:Performance) (r:Int) (hH:qFG p=some r):qAE Tryz.prog 38 [.g (qGl p)] (.v (.int .i64 r)):=by
 refine fns T Tryz.func38 ?_
 refine AW.q (AW.r (AO.x (bxs T 1) ?_))
 refine AO.pu T ?_
 refine AO.n (AW.q ?_)
 obtain ⟨x1,hx2,hH⟩:=zB hH
 refine AW.r (AO.pu T ?_)
 refine AO.pu T (d:=.g [.s (List.map ze1 p.marks.grades),.s (List.map ze1 p.marks.components)]) ?_
 refine AO.w (cVs (qFN _ _ (hx2))) ?_
 refine AO.pu T ?_
 refine AO.n (AW.q (AW.q ?_))
 refine AW.r (AO.p2 T ?_)
 refine AO.n (AW.c (b:=decide (x1 ≥ 5)) rfl (fun hc=>?_) (fun hc=>?_))
 replace hH:=condT hc hH
 refine AW.r (AO.pu T ?_)
 refine AO.w aws ?_
 refine AO.pu T ?_
 refine AO.n (AW.q (AW.r ?_))
 refine AO.p2 T ?_
 refine AO.n (AW.t ?_)
 have hR:=zS hH;subst hR
 exact retQ.i [] rfl (.c (.c .v))
 replace hH:=condF hc hH
 refine AW.k (AW.q (AW.r ?_))
 refine AO.p2 T ?_
 refine AO.n (AW.t ?_)
 have hR:=zS hH;subst hR
 exact retQ.i [] rfl (.c (.c .v))

def qDi (a:Int) (b:Int) (mode:Int):Option Int :=
 cond (mode == (-1))
  ((qD8 a b).bind fun x1 =>
  some x1)
  (cond (mode == 1)
   ((qD8 (w64 (-a)) b).bind fun x3 =>
   some (w64 (-x3)))
   ((qCx a b).bind fun x5 =>
   some x5))
theorem qGC (a:Int) (b:Int) (mode:Int) (r:Int) (hH:qDi a b mode=some r):qAE Tryz.prog 37 [a,b,mode] (.v (.int .i64 r)):=by
 refine fns T Tryz.func37 ?_
 refine AW.q (AW.r (AO.pu T ?_))
 refine AO.n (AW.q (AW.q ?_))
 refine AW.r (AO.pu T ?_)
 refine AO.n (AW.b ?_)
 refine AW.q (AW.r (AO.p2 T ?_))
 refine AO.n (AW.c (b:=(mode == (-1))) rfl (fun hc=>?_) (fun hc=>?_))
 replace hH:=condT hc hH
 refine AW.q ?_
 obtain ⟨x1,hx2,hH⟩:=zB hH
 refine AW.r (AO.p2 T ?_)
 refine AO.w (cVs (qGh _ _ _ (hx2))) ?_
 refine AO.pu T ?_
 refine AO.n (AW.t ?_)
 have hR:=zS hH;subst hR
 exact retQ.i [] rfl (.c (.c .v))
 replace hH:=condF hc hH
 refine AW.q (AW.r (AO.p2 T ?_))
 refine AO.n (AW.c (b:=(mode == 1)) rfl (fun hc=>?_) (fun hc=>?_))
 replace hH:=condT hc hH
 refine AW.q ?_
 obtain ⟨x3,hx4,hH⟩:=zB hH
 refine AW.r (AO.pu T ?_)
 refine AO.w (qPK rfl rfl) ?_
 refine AO.pu T ?_
 refine AO.w (cVs (qGh _ _ _ (hx4))) ?_
 refine AO.w (qPK rfl rfl) ?_
 refine AO.pu T ?_
 refine AO.n (AW.t ?_)
 have hR:=zS hH;subst hR
 exact retQ.i [] rfl (.c (.c .v))
 replace hH:=condF hc hH
 refine AW.k (AW.q ?_)
 obtain ⟨x5,hx6,hH⟩:=zB hH
 refine AW.r (AO.p2 T ?_)
 refine AO.w (cVs (qEM _ _ _ (hx6))) ?_
 refine AO.pu T ?_
 refine AO.n (AW.t ?_)
 have hR:=zS hH;subst hR
 exact retQ.i [] rfl (.c (.c .v))

def qFJ (fuel:Nat) (c:Code) (p:Performance) (k:Int):Option Int :=
 (qC2 c p.items k).bind fun x1 =>
 cond (x1 == 0)
  (some 0)
  ((qAb p.items k).bind fun x3 =>
  (qFq fuel c x3).bind fun x5 =>
  (qFG p).bind fun x7 =>
  (qDi x5 x7 1).bind fun x9 =>
  some x9)
theorem qLA (fuel:Nat) (c:Code) (p:Performance) (k:Int) (r:Int) (hH:qFJ fuel c p k=some r):qAE Tryz.prog 36 [.g (ze7 c),.g (qGl p),k] (.v (.int .i64 r)):=by
 refine fns T Tryz.func36 ?_
 refine AW.q (AW.r (AO.x (bxs T 1) ?_))
 refine AO.x (bxs T 2) ?_
 refine AO.pu T ?_
 refine AO.n (AW.q (AW.q ?_))
 obtain ⟨x1,hx2,hH⟩:=zB hH
 refine AW.r (AO.pu T (d:=.g [.s (List.map ze3 c.elements),.s (List.map ze0 c.limits),c.repeats,c.bonus,c.keeps,c.fall]) ?_)
 iterate 3 refine AO.pu T ?_
 refine AO.w (cVs (qGe _ _ _ _ (hx2))) ?_
 refine AO.pu T ?_
 refine AO.n (AW.c (b:=(x1 == 0)) rfl (fun hc=>?_) (fun hc=>?_))
 replace hH:=condT hc hH
 refine AW.q (AW.r (AO.pu T ?_))
 refine AO.n (AW.t ?_)
 have hR:=zS hH;subst hR
 exact retQ.i [] rfl (.c (.c .v))
 replace hH:=condF hc hH
 refine AW.k (AW.q ?_)
 obtain ⟨x3,hx4,hH⟩:=zB hH
 obtain ⟨x5,hx6,hH⟩:=zB hH
 obtain ⟨x7,hx8,hH⟩:=zB hH
 obtain ⟨x9,hx10,hH⟩:=zB hH
 refine AW.drawn 8 3 [] mix (by kernel_rfl) rfl ?_
 refine AD.p T (d:=.g [.s (List.map ze3 c.elements),.s (List.map ze0 c.limits),c.repeats,c.bonus,c.keeps,c.fall]) rfl rfl rfl ?_
 iterate 3 refine AD.pu T ?_
 refine AD.vv (ixs T (hx4)) ?_
 refine AD.p T (d:=.g [.s (List.map ze5 x3.names),.s (List.map ze0 x3.marks),.v (.bool x3.late)]) rfl rfl rfl ?_
 refine AD.vv (cVs (qJ6 fuel _ _ _ (hx6))) ?_
 refine AD.p T (d:=.g [.s (List.map ze2 p.items),.s (List.map ze1 p.marks.grades),.s (List.map ze1 p.marks.components),p.slips.falls,p.slips.seconds,p.slips.other]) rfl rfl rfl ?_
 refine AD.nil (AO.w (cVs (qJC _ _ (hx8))) ?_)
 refine AO.w (cVs (qGC _ _ _ _ (hx10))) ?_
 refine AO.pu T ?_
 refine AO.n (AW.t ?_)
 have hR:=zS hH;subst hR
 exact retQ.i [] rfl (.c (.c .v))

def qA8 (c:Code) (p:Performance) (factor:Int) (fuel:Nat):List Item→Nat→Int→Option ((Int × Bool))
 | [],k3,v14 =>
  (qFG p).bind fun x16 =>
  (qDi 1000 x16 1).bind fun x18 =>
  (qDi (w64 ((w64 (factor * 3)) * x18)) 100 1).bind fun x20 =>
  some (w64 (v14+x20),true)
 | y4::ys5,k3,v14 =>
  (qFJ fuel c p (k3:Int)).bind fun x22 =>
  qA8 c p factor fuel ys5 (k3+1) (w64 (v14+x22))
def qEJ (fuel:Nat) (c:Code) (p:Performance) (factor:Int):Option (Int × Bool) :=
 (qDZ fuel c p factor).bind fun x1 =>
 cond (!x1)
  (some (0,false))
  (qA8 c p factor fuel p.items 0 0)
theorem qJr (fuel:Nat) (c:Code) (p:Performance) (factor:Int) (r:(Int × Bool)) (hH:qEJ fuel c p factor=some r):qAE Tryz.prog 11 [.g (ze7 c),.g (qGl p),factor] (.t [.v (.int .i64 r.1),.v (.bool r.2)]):=by
 refine fns T Tryz.func11 ?_
 refine AW.q (AW.r (AO.x (bxs T 1) ?_))
 refine AO.x (bxs T 2) ?_
 refine AO.p2 T ?_
 refine AO.n (AW.q (AW.q ?_))
 obtain ⟨x1,hx2,hH⟩:=zB hH
 refine AW.r (AO.pu T (d:=.g [.s (List.map ze3 c.elements),.s (List.map ze0 c.limits),c.repeats,c.bonus,c.keeps,c.fall]) ?_)
 refine AO.pu T (d:=.g [.s (List.map ze2 p.items),.s (List.map ze1 p.marks.grades),.s (List.map ze1 p.marks.components),p.slips.falls,p.slips.seconds,p.slips.other]) ?_
 refine AO.pu T ?_
 refine AO.w (cVs (qFP fuel _ _ _ _ (hx2))) ?_
 refine AO.pu T ?_
 refine AO.n (AW.c (b:=(!x1)) rfl (fun hc=>?_) (fun hc=>?_))
 replace hH:=condT hc hH
 refine AW.q (AW.r (AO.p2 T ?_))
 refine AO.n (AW.t ?_)
 have hR:=zS hH;subst hR
 exact retQ.i [] rfl (.t (zG (.c .v) (zG (.c .v) (zGn))))
 replace hH:=condF hc hH
 refine AW.k (AW.q (AW.r ?_))
 refine AO.pu T ?_
 refine AO.n (AW.q (AW.q ?_))
 refine AW.r (AO.p2 T ?_)
 refine AO.w (qCC T) ?_
 refine AO.pu T ?_
 refine AO.n (AW.b ?_)
 refine AW.loopS (fun s:Nat × Int=>(⟨[(2,factor),(3,.p 1 0),(4,.p 2 0),(8,s.2),(17,(p.items.length:Int)),(18,(s.1:Int))],[(1,.box [.s (List.map ze3 c.elements),.s (List.map ze0 c.limits),c.repeats,c.bonus,c.keeps,c.fall]),(2,.box [.s (List.map ze2 p.items),.s (List.map ze1 p.marks.grades),.s (List.map ze1 p.marks.components),p.slips.falls,p.slips.seconds,p.slips.other])],37,[]⟩:St)) (fun s=>s.1 ≤ p.items.length∧qA8 c p factor fuel (p.items.drop s.1) s.1 s.2=some r) (fun s=>p.items.length - s.1) (0,0) ⟨Nat.zero_le _,hH⟩ ?_ ?_
 exact Le.ct 0 0
 rintro ⟨k3,v14⟩ ⟨hk,hH⟩
 replace hH:qA8 c p factor fuel (p.items.drop k3) k3 v14=some r:=hH
 try dsimp only
 refine AW.boundBox (id:=2) (j:=0) (l:=p.items) rfl rfl (fun hb7=>?_)
 rcases hd6:p.items.drop k3 with _ | ⟨y4,ys5⟩
 rw [hd6,qA8] at hH
 have hlt8:=qAJ hd6
 refine AW.q (AW.r (AO.pu T ?_))
 refine AO.n (AW.q (AW.condF' (b:=decide ((k3:Int) < (p.items.length:Int))) rfl (qEQ hlt8) ?_))
 refine AW.exit (AW.q ?_)
 obtain ⟨x16,hx17,hH⟩:=zB hH
 obtain ⟨x18,hx19,hH⟩:=zB hH
 obtain ⟨x20,hx21,hH⟩:=zB hH
 refine AW.r (AO.p2 T ?_)
 refine AO.w aws ?_
 refine AO.pu T (d:=.g [.s (List.map ze2 p.items),.s (List.map ze1 p.marks.grades),.s (List.map ze1 p.marks.components),p.slips.falls,p.slips.seconds,p.slips.other]) ?_
 refine AO.w (cVs (qJC _ _ (hx17))) ?_
 refine AO.w (cVs (qGC _ _ _ _ (hx19))) ?_
 refine AO.w aws ?_
 refine AO.w (cVs (qGC _ _ _ _ (hx21))) ?_
 refine AO.w aws ?_
 refine AO.p2 T ?_
 refine AO.n (AW.t ?_)
 have hR:=zS hH;subst hR
 exact retQ.i [] rfl (.t (zG (.c .v) (zG (.c .v) (zGn))))
 rw [hd6,qA8] at hH
 have hlt8:=qAK hd6
 refine AW.q (AW.r (AO.pu T ?_))
 refine AO.n (AW.q (AW.condT' (b:=decide ((k3:Int) < (p.items.length:Int))) rfl (qER hlt8) ?_))
 refine AW.k (AW.q ?_)
 refine AW.b (AW.q (AW.r ?_))
 refine AO.p2 T ?_
 refine AO.n ?_
 obtain ⟨x22,hx23,hH⟩:=zB hH
 refine AW.r (AO.pu T ?_)
 refine AO.pu T (d:=.g [.s (List.map ze3 c.elements),.s (List.map ze0 c.limits),c.repeats,c.bonus,c.keeps,c.fall]) ?_
 refine AO.pu T (d:=.g [.s (List.map ze2 p.items),.s (List.map ze1 p.marks.grades),.s (List.map ze1 p.marks.components),p.slips.falls,p.slips.seconds,p.slips.other]) ?_
 refine AO.pu T ?_
 refine AO.w (cVs (qLA fuel _ _ _ _ (hx23))) ?_
 refine AO.w aws ?_
 refine AO.pu T ?_
 refine AO.n (AW.r ?_)
 refine AO.w (zR rfl rfl rfl rfl (zK hlt8 hb7)) ?_
 refine AO.pu T ?_
 refine AO.n ?_
 refine ⟨(k3+1,w64 (v14+x22)),⟨Nat.succ_le_of_lt hlt8,(by rw [zds hd6];exact hH)⟩,(by have:=hlt8;dsimp only;omega),?_⟩
 exact Le.ct 0 0

def qFm (m:Marks):Option (Int × Bool) :=
 (qEB m).bind fun x1 =>
 cond (!x1)
  (some (0,false))
  ((qEg m).bind fun x3 =>
  some (x3,true))
theorem qLe (m:Marks) (r:(Int × Bool)) (hH:qFm m=some r):qAE Tryz.prog 12 [.g (qBN m)] (.t [.v (.int .i64 r.1),.v (.bool r.2)]):=by
 refine fns T Tryz.func12 ?_
 refine AW.q (AW.r (AO.x (bxs T 1) ?_))
 refine AO.p2 T ?_
 refine AO.n (AW.q (AW.q ?_))
 obtain ⟨x1,hx2,hH⟩:=zB hH
 refine AW.r (AO.pu T (d:=.g [.s (List.map ze1 m.grades),.s (List.map ze1 m.components)]) ?_)
 refine AO.w (cVs (qIi _ _ (hx2))) ?_
 refine AO.pu T ?_
 refine AO.n (AW.c (b:=(!x1)) rfl (fun hc=>?_) (fun hc=>?_))
 replace hH:=condT hc hH
 refine AW.q (AW.r (AO.p2 T ?_))
 refine AO.n (AW.t ?_)
 have hR:=zS hH;subst hR
 exact retQ.i [] rfl (.t (zG (.c .v) (zG (.c .v) (zGn))))
 replace hH:=condF hc hH
 refine AW.k (AW.q ?_)
 obtain ⟨x3,hx4,hH⟩:=zB hH
 refine AW.r (AO.pu T (d:=.g [.s (List.map ze1 m.grades),.s (List.map ze1 m.components)]) ?_)
 refine AO.w (cVs (qIp _ _ (hx4))) ?_
 refine AO.p2 T ?_
 refine AO.n (AW.t ?_)
 have hR:=zS hH;subst hR
 exact retQ.i [] rfl (.t (zG (.c .v) (zG (.c .v) (zGn))))

def qDl:List Int→Nat→Int→Option Int
 | [],k1,v8 =>
  some v8
 | y2::ys3,k1,v8 =>
  qDl ys3 (k1+1) (w64 (v8+y2))
def qF4 (l:List Int):Option Int :=
 qDl l 0 0
theorem qOx (l:List Int) (r:Int) (hH:qF4 l=some r):qAE Tryz.prog 13 [.s (List.map ze0 l)] (.v (.int .i64 r)):=by
 refine fns T Tryz.func13 ?_
 refine AW.q (AW.r (AO.pu T ?_))
 refine AO.n (AW.q (AW.r ?_))
 refine AO.pu T ?_
 refine AO.n (AW.q (AW.q ?_))
 refine AW.r (AO.pu T ?_)
 refine AO.w (qCC T) ?_
 refine AO.pu T ?_
 refine AO.n (AW.b ?_)
 refine AW.loopS (fun s:Nat × Int=>(⟨[(3,s.2),(6,.s (List.map ze0 l)),(7,(l.length:Int)),(8,(s.1:Int))],[],17,[]⟩:St)) (fun s=>s.1 ≤ l.length∧qDl (l.drop s.1) s.1 s.2=some r) (fun s=>l.length - s.1) (0,0) ⟨Nat.zero_le _,hH⟩ ?_ ?_
 exact Le.ct 0 0
 rintro ⟨k1,v8⟩ ⟨hk,hH⟩
 replace hH:qDl (l.drop k1) k1 v8=some r:=hH
 try dsimp only
 refine AW.boundM (t:=6) (l:=l) rfl (fun hb5=>?_)
 rcases hd4:l.drop k1 with _ | ⟨y2,ys3⟩
 rw [hd4,qDl] at hH
 have hlt6:=qAJ hd4
 refine AW.q (AW.r (AO.pu T ?_))
 refine AO.n (AW.q (AW.condF' (b:=decide ((k1:Int) < (l.length:Int))) rfl (qEQ hlt6) ?_))
 refine AW.exit (AW.q (AW.r ?_))
 refine AO.p2 T ?_
 refine AO.n (AW.t ?_)
 have hR:=zS hH;subst hR
 exact retQ.i [] rfl (.c (.c .v))
 rw [hd4,qDl] at hH
 have hlt6:=qAK hd4
 refine AW.q (AW.r (AO.pu T ?_))
 refine AO.n (AW.q (AW.condT' (b:=decide ((k1:Int) < (l.length:Int))) rfl (qER hlt6) ?_))
 refine AW.k (AW.q ?_)
 refine AW.b (AW.q (AW.r ?_))
 refine AO.w (ixs T (zgD hd4)) ?_
 refine AO.p2 T ?_
 refine AO.n (AW.r ?_)
 refine AO.p2 T ?_
 refine AO.w aws ?_
 refine AO.pu T ?_
 refine AO.n (AW.r ?_)
 refine AO.w (zR rfl rfl rfl rfl (zK hlt6 hb5)) ?_
 refine AO.pu T ?_
 refine AO.n ?_
 refine ⟨(k1+1,w64 (v8+y2)),⟨Nat.succ_le_of_lt hlt6,(by rw [zds hd4];exact hH)⟩,(by have:=hlt6;dsimp only;omega),?_⟩
 exact Le.ct 0 0

def qHG (fuel:Nat) (c:Code) (p:Performance) (factor:Int) (judge:Int):Option Bool :=
 (qDZ fuel c p factor).bind fun x1 =>
 (opt x1 default (qBL p.marks)).bind fun x3 =>
 (opt x1 default (qAM judge 0 (w64 (x3 - 1)))).bind fun x5 =>
 some (x1 && x5)
theorem qLp (fuel:Nat) (c:Code) (p:Performance) (factor:Int) (judge:Int) (r:Bool) (hH:qHG fuel c p factor judge=some r):qAE Tryz.prog 41 [.g (ze7 c),.g (qGl p),factor,judge] (.v (.bool r)):=by
 refine fns T Tryz.func41 ?_
 refine AW.q (AW.r (AO.x (bxs T 1) ?_))
 refine AO.x (bxs T 2) ?_
 refine AO.pu T ?_
 refine AO.n (AW.q ?_)
 obtain ⟨x1,hx2,hH⟩:=zB hH
 obtain ⟨x3,hx4,hH⟩:=zB hH
 obtain ⟨x5,hx6,hH⟩:=zB hH
 refine AW.r (AO.pu T (d:=.g [.s (List.map ze3 c.elements),.s (List.map ze0 c.limits),c.repeats,c.bonus,c.keeps,c.fall]) ?_)
 refine AO.pu T (d:=.g [.s (List.map ze2 p.items),.s (List.map ze1 p.marks.grades),.s (List.map ze1 p.marks.components),p.slips.falls,p.slips.seconds,p.slips.other]) ?_
 refine AO.pu T ?_
 refine AO.w (cVs (qFP fuel _ _ _ _ (hx2))) ?_
 refine AO.pu T ?_
 iterate 2 refine AO.g T [] rfl trivial rfl rfl ?_
 refine AO.g T (d:=.g [.s (List.map ze1 p.marks.grades),.s (List.map ze1 p.marks.components)]) [15] rfl ⟨fun h=>h,trivial⟩ rfl rfl ?_
 refine AO.d [16] rfl ⟨fun h=>h,trivial⟩ (fun hg=>zV rfl rfl rfl rfl (qFN _ _ (qEA hx4 hg)) rfl) rfl ?_
 refine AO.d [17] rfl ⟨fun h=>h,trivial⟩ (fun hg=>zW rfl rfl rfl rfl) rfl ?_
 refine AO.d [14,18] rfl ⟨fun h=>h,fun h=>h,trivial⟩ (fun hg=>zV rfl rfl rfl rfl (qAP _ _ _ _ (qEA hx6 hg)) rfl) rfl ?_
 refine AO.w qFy ?_
 refine AO.pu T ?_
 refine AO.n (AW.t ?_)
 have hR:=zS hH;subst hR
 exact retQ.i [] rfl (.c (.c .v))

def qHH (l:List Int):Option (List Int) :=
 (qCw (qBE 8 l.length)).bind fun u1 =>
 some l
theorem qLa (l:List Int) (r:(List Int)) (hH:qHH l=some r):qAE Tryz.prog 201 [.s (List.map ze0 l)] (.w 1 (r.map ze0)):=by
 refine fns T Tryz.func201 ?_
 refine AW.q (AW.r (AO.pu T ?_))
 refine AO.n (AW.q ?_)
 obtain ⟨u1,hx2,hH⟩:=zB hH
 refine AW.r (AO.x (qHd T rfl rfl rfl rfl) ?_)
 refine AO.pu T ?_
 refine AO.x (qIA T rfl 1 rfl rfl rfl rfl rfl (by decide) (by decide) rfl rfl (fun _=>rfl) (qA4 (hx2)) rfl rfl) ?_
 refine AO.pu T ?_
 refine AO.n (AW.t ?_)
 have hR:=zS hH;subst hR
 exact retQ.i [1] rfl (.c (.c (.rowR rfl)))

def qBn:List (List Int)→Nat→List (List Int)→Option ((List (List Int)))
 | [],k1,v16 =>
  some v16
 | y2::ys3,k1,v16 =>
  (qHH y2).bind fun x18 =>
  (qCw (qBE 24 (v16.length+([x18]).length))).bind fun u20 =>
  qBn ys3 (k1+1) (v16++[x18])
def qFM (l:List (List Int)):Option (List (List Int)) :=
 qBn l 0 []
theorem qH4 (l:List (List Int)) (r:(List (List Int))) (hH:qFM l=some r):qAE Tryz.prog 159 [.s (List.map ze1 l)] (.w 1 (r.map ze6)):=by
 refine fns T Tryz.func159 ?_
 refine AW.q (AW.r (AO.pu T ?_))
 refine AO.n (AW.q (AW.r ?_))
 refine AO.x (qHd T rfl rfl rfl rfl) ?_
 refine AO.pu T ?_
 refine AO.n (AW.q (AW.q ?_))
 refine AW.r (AO.pu T ?_)
 refine AO.w (qCC T) ?_
 refine AO.pu T ?_
 refine AO.n (AW.b ?_)
 refine AW.loopS (fun s:Nat × (List (List Int))=>(⟨[(3,.R 6),(7,.s (List.map ze1 l)),(8,(l.length:Int)),(9,(s.1:Int))],[(6,.row 1 (List.map ze6 s.2))],20,[]⟩:St)) (fun s=>s.1 ≤ l.length∧qBn (l.drop s.1) s.1 s.2=some r) (fun s=>l.length - s.1) (0,[]) ⟨Nat.zero_le _,hH⟩ ?_ ?_
 refine Le.trans (Le.void 3 6 1 rfl rfl) ?_
 exact Le.ct 0 0
 rintro ⟨k1,v16⟩ ⟨hk,hH⟩
 replace hH:qBn (l.drop k1) k1 v16=some r:=hH
 try dsimp only
 refine AW.boundM (t:=7) (l:=l) rfl (fun hb5=>?_)
 rcases hd4:l.drop k1 with _ | ⟨y2,ys3⟩
 rw [hd4,qBn] at hH
 have hlt6:=qAJ hd4
 refine AW.q (AW.r (AO.pu T ?_))
 refine AO.n (AW.q (AW.condF' (b:=decide ((k1:Int) < (l.length:Int))) rfl (qEQ hlt6) ?_))
 refine AW.exit (AW.q (AW.r ?_))
 refine AO.p2 T ?_
 refine AO.n (AW.t ?_)
 have hR:=zS hH;subst hR
 exact retQ.i [6] rfl (.c (.c (.rowR rfl)))
 rw [hd4,qBn] at hH
 have hlt6:=qAK hd4
 refine AW.q (AW.r (AO.pu T ?_))
 refine AO.n (AW.q (AW.condT' (b:=decide ((k1:Int) < (l.length:Int))) rfl (qER hlt6) ?_))
 refine AW.k (AW.q ?_)
 refine AW.b (AW.q (AW.r ?_))
 refine AO.w (ixs T (zgD hd4)) ?_
 refine AO.p2 T ?_
 refine AO.n ?_
 obtain ⟨x18,hx19,hH⟩:=zB hH
 obtain ⟨u20,hx21,hH⟩:=zB hH
 refine AW.r (AO.p2 T ?_)
 refine AO.x (qBk rfl 7 rfl rfl rfl (qLa _ _ (hx19)) rfl rfl rfl) ?_
 refine AO.x (qJD T rfl 8 rfl rfl rfl rfl rfl rfl (f:=ze6) (l:=[x18]) (ids:=[7]) rfl rfl (fun _=>rfl) (by exact zC (.rowR rfl) (zCn)) (by decide) rfl rfl rfl rfl rfl) ?_
 refine AO.x (qEP T rfl 9 rfl rfl rfl rfl rfl (by decide) rfl rfl rfl rfl rfl (qA4 (hx21)) rfl rfl) ?_
 refine AO.pu T ?_
 refine AO.n (AW.r ?_)
 refine AO.w (zR rfl rfl rfl rfl (zK hlt6 hb5)) ?_
 refine AO.pu T ?_
 refine AO.n ?_
 refine ⟨(k1+1,(v16++[x18])),⟨Nat.succ_le_of_lt hlt6,(by rw [zds hd4];exact hH)⟩,(by have:=hlt6;dsimp only;omega),?_⟩
 exact Le.ct 9 6

def qFH (m:Marks):Option Marks :=
 (qFM m.grades).bind fun x1 =>
 (qFM m.components).bind fun x3 =>
 some (Marks.mk x1 x3)
theorem qK3 (m:Marks) (r:Marks) (hH:qFH m=some r):qAE Tryz.prog 131 [.g (qBN m)] (.g (qJO r)):=by
 refine fns T Tryz.func131 ?_
 refine AW.q (AW.r (AO.x (bxs T 1) ?_))
 refine AO.x (als T 2) ?_
 refine AO.n (AW.q ?_)
 obtain ⟨x1,hx2,hH⟩:=zB hH
 obtain ⟨x3,hx4,hH⟩:=zB hH
 refine AW.drawn 5 3 [] mix (by kernel_rfl) rfl ?_
 iterate 2 refine AD.pu T ?_
 refine AD.q (FStep.call rfl rfl rfl rfl rfl (qH4 _ _ (hx2)) rfl rfl) (qDj _ _) (qGc _ _) rfl ?_
 iterate 2 refine AD.pu T ?_
 refine AD.nil (AO.x (qBk rfl 4 rfl rfl rfl (qH4 _ _ (hx4)) rfl rfl rfl) ?_)
 refine AO.pu T (d:=.g [.R 3,.R 4]) ?_
 refine AO.se T [.R 3,.R 4] ?_
 refine AO.n (AW.t ?_)
 have hR:=zS hH;subst hR
 exact retQ.i [3,4] rfl (.c (.g (zC (.rowR rfl) (zC (.rowR rfl) (zCn)))))

def qBy (judge:Int) (mark:Int) (x1:Marks) (v16:List (List Int)):Nat→List (List Int)→List (List Int)→Int→Option Marks
 | 0,_,_,_=>none
 | k23+1,v35,v36,v37 =>
  cond (decide (v37 < (x1.components.length:Int)))
   ((qAb v36 v37).bind fun x39 =>
   (qAb x39 judge).bind fun x41 =>
   qBy judge mark x1 v16 k23 (v36.set v37.toNat (x39.set judge.toNat mark)) (v36.set v37.toNat (x39.set judge.toNat mark)) (w64 (v37+1)))
   (some (Marks.mk v16 v36))
def qCY (judge:Int) (grade:Int) (mark:Int) (fuel:Nat) (x1:Marks):Nat→List (List Int)→List (List Int)→Int→Option Marks
 | 0,_,_,_=>none
 | k3+1,v15,v16,v17 =>
  cond (decide (v17 < (x1.grades.length:Int)))
   ((qAb v16 v17).bind fun x19 =>
   (qAb x19 judge).bind fun x21 =>
   qCY judge grade mark fuel x1 k3 (v16.set v17.toNat (x19.set judge.toNat grade)) (v16.set v17.toNat (x19.set judge.toNat grade)) (w64 (v17+1)))
   (qBy judge mark x1 v16 fuel x1.components x1.components 0)
def qEZ (fuel:Nat) (m:Marks) (judge:Int) (grade:Int) (mark:Int):Option Marks :=
 (qFH m).bind fun x1 =>
 qCY judge grade mark fuel x1 fuel x1.grades x1.grades 0
theorem qIl (fuel:Nat) (m:Marks) (judge:Int) (grade:Int) (mark:Int) (r:Marks) (hH:qEZ fuel m judge grade mark=some r):qAE Tryz.prog 88 [.g (qBN m),judge,grade,mark] (.g (qJO r)):=by
 refine fns T Tryz.func88 ?_
 refine AW.q (AW.r (AO.x (bxs T 1) ?_))
 refine AO.x (als T 2) ?_
 refine AO.n (AW.q ?_)
 obtain ⟨x1,hx2,hH⟩:=zB hH
 refine AW.r (AO.pu T (d:=.g [.s (List.map ze1 m.grades),.s (List.map ze1 m.components)]) ?_)
 refine AO.x (qBk rfl 3 rfl rfl rfl (qK3 _ _ (hx2)) rfl rfl rfl) ?_
 refine AO.x (als T 5) ?_
 refine AO.se T [.R 3,.R 4] ?_
 refine AO.n (AW.q (AW.q ?_))
 refine AW.r (AO.p2 T ?_)
 refine AO.w (qGn T) ?_
 refine AO.pu T ?_
 refine AO.n (AW.b ?_)
 refine AW.loopS (fun s:Nat × (List (List Int)) × (List (List Int)) × Int=>(⟨[(1,judge),(2,grade),(3,mark),(8,.p 2 0),(9,.p 5 0),(17,.R 3),(18,(x1.grades.length:Int)),(19,s.2.2.2)],[(2,.box [.w 0 [],.w 0 []]),(3,.row 1 (List.map ze6 s.2.2.1)),(4,.row 1 (List.map ze6 x1.components)),(5,.box [.R 3,.R 4])],41,[]⟩:St)) (fun s=>qCY judge grade mark fuel x1 s.1 s.2.1 s.2.2.1 s.2.2.2=some r) (fun s=>s.1) (fuel,x1.grades,x1.grades,0) hH ?_ ?_
 exact Le.ct 0 0
 rintro ⟨k3,v15,v16,v17⟩ hH
 replace hH:qCY judge grade mark fuel x1 k3 v15 v16 v17=some r:=hH
 try dsimp only
 rcases k3 with _ | k3
 cases (show none=some _ from hH)
 rw [qCY] at hH
 refine AW.q (AW.r (AO.pu T ?_))
 refine AO.n (AW.q (AW.c (b:=decide (v17 < (x1.grades.length:Int))) rfl (fun hc=>?_) (fun hc=>?_)))
 replace hH:=condT hc hH
 refine AW.k (AW.q ?_)
 refine AW.b (AW.q ?_)
 obtain ⟨x19,hx20,hH⟩:=zB hH
 refine AW.le (Le.openM 3 v17.toNat 0 8 rfl (zgG (hx20)) rfl rfl) ?_
 refine AW.r (AO.w (qC8 T rfl rfl rfl rfl rfl rfl (hx20)) ?_)
 refine AO.w (qBF T rfl rfl rfl rfl rfl) ?_
 refine AO.pu T ?_
 refine AO.n ?_
 obtain ⟨x21,hx22,hH⟩:=zB hH
 refine AW.r ?_
 iterate 3 refine AO.pu T ?_
 refine AO.w (ixr T (hx22)) ?_
 refine AO.x (zSr T rfl rfl rfl rfl rfl (zgG (hx22)) rfl rfl rfl rfl (u':=grade) rfl rfl) ?_
 refine AO.le (Le.closeM 3 v17.toNat 0 8 rfl rfl (zgG (hx20)) rfl (u':=(x19.set judge.toNat grade)) rfl) ?_
 refine AO.n (AW.r ?_)
 refine AO.w aws ?_
 refine AO.pu T ?_
 refine AO.n ?_
 refine ⟨(k3,(v16.set v17.toNat (x19.set judge.toNat grade)),(v16.set v17.toNat (x19.set judge.toNat grade)),w64 (v17+1)),hH,Nat.lt_succ_self _,?_⟩
 exact Le.ct 0 0
 replace hH:=condF hc hH
 refine AW.exit (AW.q (AW.q ?_))
 refine AW.r (AO.p2 T ?_)
 refine AO.w (qGn T) ?_
 refine AO.pu T ?_
 refine AO.n (AW.b ?_)
 refine AW.loopS (fun s:Nat × (List (List Int)) × (List (List Int)) × Int=>(⟨[(1,judge),(3,mark),(8,.p 2 0),(9,.p 5 0),(29,.R 4),(30,(x1.components.length:Int)),(31,s.2.2.2)],[(2,.box [.w 0 [],.w 0 []]),(3,.row 1 (List.map ze6 v16)),(4,.row 1 (List.map ze6 s.2.2.1)),(5,.box [.R 3,.R 4])],41,[]⟩:St)) (fun s=>qBy judge mark x1 v16 s.1 s.2.1 s.2.2.1 s.2.2.2=some r) (fun s=>s.1) (fuel,x1.components,x1.components,0) hH ?_ ?_
 exact Le.ct 0 0
 rintro ⟨k23,v35,v36,v37⟩ hH
 replace hH:qBy judge mark x1 v16 k23 v35 v36 v37=some r:=hH
 try dsimp only
 rcases k23 with _ | k23
 cases (show none=some _ from hH)
 rw [qBy] at hH
 refine AW.q (AW.r (AO.pu T ?_))
 refine AO.n (AW.q (AW.c (b:=decide (v37 < (x1.components.length:Int))) rfl (fun hc=>?_) (fun hc=>?_)))
 replace hH:=condT hc hH
 refine AW.k (AW.q ?_)
 refine AW.b (AW.q ?_)
 obtain ⟨x39,hx40,hH⟩:=zB hH
 refine AW.le (Le.openM 4 v37.toNat 0 11 rfl (zgG (hx40)) rfl rfl) ?_
 refine AW.r (AO.w (qC8 T rfl rfl rfl rfl rfl rfl (hx40)) ?_)
 refine AO.w (qBF T rfl rfl rfl rfl rfl) ?_
 refine AO.pu T ?_
 refine AO.n ?_
 obtain ⟨x41,hx42,hH⟩:=zB hH
 refine AW.r ?_
 iterate 3 refine AO.pu T ?_
 refine AO.w (ixr T (hx42)) ?_
 refine AO.x (zSr T rfl rfl rfl rfl rfl (zgG (hx42)) rfl rfl rfl rfl (u':=mark) rfl rfl) ?_
 refine AO.le (Le.closeM 4 v37.toNat 0 11 rfl rfl (zgG (hx40)) rfl (u':=(x39.set judge.toNat mark)) rfl) ?_
 refine AO.n (AW.r ?_)
 refine AO.w aws ?_
 refine AO.pu T ?_
 refine AO.n ?_
 refine ⟨(k23,(v36.set v37.toNat (x39.set judge.toNat mark)),(v36.set v37.toNat (x39.set judge.toNat mark)),w64 (v37+1)),hH,Nat.lt_succ_self _,?_⟩
 exact Le.ct 0 0
 replace hH:=condF hc hH
 refine AW.exit (AW.q (AW.r ?_))
 refine AO.pu T (d:=.g [.R 3,.R 4]) ?_
 refine AO.se T [.R 3,.R 4] ?_
 refine AO.n (AW.t ?_)
 have hR:=zS hH;subst hR
 exact retQ.i [3,4] rfl (.c (.g (zC (.rowR rfl) (zC (.rowR rfl) (zCn)))))

def qED (fuel:Nat) (c:Code) (p:Performance) (factor:Int) (judge:Int):Option (Int × Int) :=
 (qEZ fuel p.marks judge (-5) 0).bind fun x1 =>
 (qEZ fuel p.marks judge 5 1000).bind fun x3 =>
 (qCi fuel c (Performance.mk p.items x1 p.slips) factor).bind fun x5 =>
 (qCi fuel c (Performance.mk p.items x3 p.slips) factor).bind fun x7 =>
 some (x5,x7)
theorem qJl (fuel:Nat) (c:Code) (p:Performance) (factor:Int) (judge:Int) (r:(Int × Int)) (hH:qED fuel c p factor judge=some r):qAE Tryz.prog 42 [.g (ze7 c),.g (qGl p),factor,judge] (.t [.v (.int .i64 r.1),.v (.int .i64 r.2)]):=by
 refine fns T Tryz.func42 ?_
 refine AW.q (AW.r (AO.x (bxs T 1) ?_))
 refine AO.x (bxs T 2) ?_
 refine AO.p2 T ?_
 refine AO.n (AW.q (AW.drawn 5 3 [] mix (by kernel_rfl) rfl ?_))
 iterate 2 refine AD.p T (d:=.g [.s (List.map ze2 p.items),.s (List.map ze1 p.marks.grades),.s (List.map ze1 p.marks.components),p.slips.falls,p.slips.seconds,p.slips.other]) rfl rfl rfl ?_
 iterate 2 refine AD.q (FStep.alloc T rfl rfl rfl rfl rfl rfl) (by simp [qBV]) (Nat.le_succ _) rfl ?_
 refine AD.kk (FStep.store_p T rfl rfl rfl rfl rfl rfl rfl rfl rfl rfl rfl) ?_
 refine AD.nil (AO.se T [.s (List.map ze2 p.items),.s (List.map ze1 p.marks.grades),.s (List.map ze1 p.marks.components),p.slips.falls,p.slips.seconds,p.slips.other] ?_)
 refine AO.n (AW.le (Le.ct 0 0 (σ':=(⟨[(2,factor),(3,judge),(4,.p 1 0),(5,.p 2 0),(10,.p 3 0),(11,.p 4 0)],[(1,.box [.s (List.map ze3 c.elements),.s (List.map ze0 c.limits),c.repeats,c.bonus,c.keeps,c.fall]),(2,.box [.s (List.map ze2 p.items),.s (List.map ze1 p.marks.grades),.s (List.map ze1 p.marks.components),p.slips.falls,p.slips.seconds,p.slips.other]),(3,.box [.s (List.map ze2 p.items),.s (List.map ze1 p.marks.grades),.s (List.map ze1 p.marks.components),p.slips.falls,p.slips.seconds,p.slips.other]),(4,.box [.s (List.map ze2 p.items),.s (List.map ze1 p.marks.grades),.s (List.map ze1 p.marks.components),p.slips.falls,p.slips.seconds,p.slips.other])],32,[]⟩:St))) ?_)
 refine AW.q ?_
 obtain ⟨x1,hx2,hH⟩:=zB hH
 refine AW.r (AO.pu T ?_)
 refine AO.pu T (d:=.g [.s (List.map ze1 p.marks.grades),.s (List.map ze1 p.marks.components)]) ?_
 refine AO.pu T ?_
 refine AO.x (qBk rfl 5 rfl rfl rfl (qIl fuel _ _ _ _ _ (hx2)) rfl rfl rfl) ?_
 refine AO.pu T ?_
 refine AO.se T [.s (List.map ze2 p.items),.R 5,.R 6,p.slips.falls,p.slips.seconds,p.slips.other] ?_
 refine AO.n (AW.q ?_)
 obtain ⟨x3,hx4,hH⟩:=zB hH
 refine AW.r (AO.pu T ?_)
 refine AO.pu T (d:=.g [.s (List.map ze1 p.marks.grades),.s (List.map ze1 p.marks.components)]) ?_
 refine AO.pu T ?_
 refine AO.x (qBk rfl 7 rfl rfl rfl (qIl fuel _ _ _ _ _ (hx4)) rfl rfl rfl) ?_
 refine AO.pu T ?_
 refine AO.se T [.s (List.map ze2 p.items),.R 7,.R 8,p.slips.falls,p.slips.seconds,p.slips.other] ?_
 refine AO.n (AW.le (Le.ct 0 0 (σ':=(⟨[(2,factor),(4,.p 1 0),(10,.p 3 0),(11,.p 4 0)],[(1,.box [.s (List.map ze3 c.elements),.s (List.map ze0 c.limits),c.repeats,c.bonus,c.keeps,c.fall]),(3,.box [.s (List.map ze2 p.items),.R 5,.R 6,p.slips.falls,p.slips.seconds,p.slips.other]),(4,.box [.s (List.map ze2 p.items),.R 7,.R 8,p.slips.falls,p.slips.seconds,p.slips.other]),(5,.row 1 (List.map ze6 x1.grades)),(6,.row 1 (List.map ze6 x1.components)),(7,.row 1 (List.map ze6 x3.grades)),(8,.row 1 (List.map ze6 x3.components))],32,[]⟩:St))) ?_)
 refine AW.q ?_
 obtain ⟨x5,hx6,hH⟩:=zB hH
 obtain ⟨x7,hx8,hH⟩:=zB hH
 refine AW.drawn 7 9 [] mix (by kernel_rfl) rfl ?_
 refine AD.p T (d:=.g [.s (List.map ze3 c.elements),.s (List.map ze0 c.limits),c.repeats,c.bonus,c.keeps,c.fall]) rfl rfl rfl ?_
 refine AD.p T (d:=.g [.s (List.map ze2 p.items),.R 5,.R 6,p.slips.falls,p.slips.seconds,p.slips.other]) rfl rfl rfl ?_
 refine AD.pu T ?_
 refine AD.vv (zLV rfl rfl rfl (es:=[.g (ze7 c),.g (qGl (Performance.mk p.items x1 p.slips)),factor]) ⟨.free rfl,qE1 (LendL.cons (.free rfl) (LendL.cons ((.rowR rfl (.map fun y=>qA9 y))) (LendL.cons ((.rowR rfl (.map fun y=>qA9 y))) (LendL.cons (.free rfl) (LendL.cons (.free rfl) (LendL.cons (.free rfl) LendL.nil)))))),.free rfl,trivial⟩ (qE2 fuel _ _ _ _ (hx6)) (qAF _) rfl) ?_
 refine AD.p T (d:=.g [.s (List.map ze3 c.elements),.s (List.map ze0 c.limits),c.repeats,c.bonus,c.keeps,c.fall]) rfl rfl rfl ?_
 refine AD.p T (d:=.g [.s (List.map ze2 p.items),.R 7,.R 8,p.slips.falls,p.slips.seconds,p.slips.other]) rfl rfl rfl ?_
 refine AD.pu T ?_
 refine AD.nil (AO.w (zLV rfl rfl rfl (es:=[.g (ze7 c),.g (qGl (Performance.mk p.items x3 p.slips)),factor]) ⟨.free rfl,qE1 (LendL.cons (.free rfl) (LendL.cons ((.rowR rfl (.map fun y=>qA9 y))) (LendL.cons ((.rowR rfl (.map fun y=>qA9 y))) (LendL.cons (.free rfl) (LendL.cons (.free rfl) (LendL.cons (.free rfl) LendL.nil)))))),.free rfl,trivial⟩ (qE2 fuel _ _ _ _ (hx8)) (qAF _) rfl) ?_)
 refine AO.p2 T ?_
 refine AO.n (AW.le (Le.ct 0 0 (σ':=(⟨[(8,x5),(9,x7)],[],32,[]⟩:St))) ?_)
 refine AW.t ?_
 have hR:=zS hH;subst hR
 exact retQ.i [] rfl (.t (zG (.c .v) (zG (.c .v) (zGn))))

end Go.Proofs.YtpmgadenilnabaaGreat

/- A part of my own walk library: how the model runs a function, told over abstract values. It states no law of the program; no condition. -/
import Derived.Test.YtkidpkmpnbibmaaGreatDoorCaAm3
import Derived.Lib.AppendZerosOnto
import Derived.Lib.Overlaps
import Derived.Shelf.Spec.SlicesInsertGrow
import Derived.KernelRfl
set_option linter.unusedSimpArgs false
set_option linter.unusedVariables false
set_option linter.unusedSectionVars false
section
namespace Go.AM
section
variable {P:Program} {te:TE} (T:qGL P te) {t ty e:Nat} {s b z} {ti:TI} (ht:te t=some ⟨.slice e,s,b,z⟩) (hte:te e=some ti)
theorem qKK {P:Program} {w:World} {b off k m sz c:Nat} {arr:Array Value} {el fz} (hb:w.heap[b]?=some (.cells arr el fz)) (hle:off+k*sz≤arr.size) :
  qKq P w.heap sz k (.slice (some ⟨b,off,none⟩) m c) ((arr.toList.drop off).take (k*sz)):=by
 intro w' hw
 have:=qKB (P:=P) (c:=c) hb hle w' hw
 simpa [Builtin.firstCells]using this
include T ht hte
theorem qIX {w:World} {bk o k dLen dCap m c2:Nat} {A2:Option Addr} {arr:Array Value} {el} {new:List Value} (hb:w.heap[bk]?=some (.cells arr el (0,0))) (hk:Nat.min m dLen=k) (hsize:o+k*ti.size≤arr.size)
  (hnew:qKq P w.heap ti.size k (.slice A2 m c2) new) (hlen:new.length=k*ti.size) (hone:∀v∈new,v.oneCell'=true) :
  (Builtin.copy_ #[t,t] ty #[.slice (some ⟨bk,o,none⟩) dLen dCap,.slice A2 m c2]).run P w=.ok (goInt k) (w.setRow bk (qAR arr.toList o new).toArray):=by
 have hu:=qBi T ht
 have hst:=run_storeCells_at (P:=P) bk o el new 0 arr w hb (by rw[hlen];omega) hone
 simp only[Builtin.copy_,List.getElem?_toArray,List.getElem?_cons_zero,List.getElem?_cons_succ,Sem.run_bind,run_underlying hu,Result.andThen_ok,qAg T hte,Sem.run_pure,Builtin.lenOf,hk,hnew w rfl]
 rw[show qAR arr.toList o new=List.take (o+0) arr.toList++new++List.drop (o+0+new.length) arr.toList from rfl,hst]
 rfl
end
def qWG (P:Program) (f:FuncId) (sz by':Nat):Prop:=∀(w:World) (a:Option Addr) (n c i vb voff vc:Nat) (arv:Array Value) (elv:TypeId) (old:List Value) (fp:List Nat),
 ((n=0∧c=0∧old=[]∧fp=[])∨∃b off arr el,a=some ⟨b,off,none⟩∧w.heap[b]?=some (.cells arr el (0,0))∧n≤c∧c≤qDp∧off+c*sz≤arr.size∧b≠vb∧old=(arr.toList.drop off).take (n*sz)∧fp=[b])→
 w.heap[vb]?=some (.cells arv elv (0,0))→voff+vc*sz≤arv.size→1≤vc→vc≤qDp→i≤n→2*(n+1)*by'≤281474976710656→(∀v∈old,v.oneCell'=true)→(∀v∈(arv.toList.drop voff).take sz,v.oneCell'=true)→
 Calls P f #[.slice a n c,.int .i64 (i:Int),.slice (some ⟨vb,voff,none⟩) 1 vc] w fun e w'=>∃b' o' c' arr' el',e=.returned (.slice (some ⟨b',o',none⟩) (n+1) c')∧Chg fp w w'∧(b'∈fp∨w.heap.size≤b')∧b'<w'.heap.size∧
  w'.heap[b']?=some (.cells arr' el' (0,0))∧n+1≤c'∧c'≤qDp∧o'+c'*sz≤arr'.size∧(arr'.toList.drop o').take ((n+1)*sz)=old.take (i*sz)++(arv.toList.drop voff).take sz++old.drop (i*sz)
theorem qMJ {α:Type} (l m:List α) (o p:Nat) (h:o+p≤l.length):((qAR l (o+p) m).drop o).take (p+m.length)=(l.drop o).take p++m:=by
 have e:qAR l (o+p) m=l.take (o+p)++(m++l.drop (o+p+m.length)):=by unfold qAR;rw[List.append_assoc]
 rw[e,List.drop_append_of_le_length (by rw[List.length_take];omega),List.drop_take,Nat.add_sub_cancel_left,←List.append_assoc]
 exact List.take_left' (by simp;omega)
theorem qTN {α:Type} (l m tl:List α) (o p:Nat) (h:o+p+m.length+tl.length≤l.length) :
  ((qAR (qAR l (o+p+m.length) tl) (o+p) m).drop o).take (p+m.length+tl.length)=(l.drop o).take p++m++tl:=by
 have hl:=qDc l tl (o+p+m.length) (by omega)
 have e1:(qAR l (o+p+m.length) tl).take (o+p)=l.take (o+p):=by
  unfold qAR
  rw[List.append_assoc,List.take_append_of_le_length (by rw[List.length_take];omega),List.take_take,Nat.min_eq_left (by omega)]
 have e2:(qAR l (o+p+m.length) tl).drop (o+p+m.length)=tl++l.drop (o+p+m.length+tl.length):=by
  unfold qAR
  rw[List.append_assoc]
  exact List.drop_left' (by rw[List.length_take];omega)
 have e:qAR (qAR l (o+p+m.length) tl) (o+p) m=l.take (o+p)++(m++(tl++l.drop (o+p+m.length+tl.length))):=by
  rw[←e1,←e2]
  show List.take (o+p) _++m++List.drop (o+p+m.length) _=_
  rw[List.append_assoc]
 rw[e,List.drop_append_of_le_length (by rw[List.length_take];omega),List.drop_take,Nat.add_sub_cancel_left,←List.append_assoc,←List.append_assoc]
 exact List.take_left' (by simp;omega)
theorem qP2 {sz:Nat}:∀{xs:List (List D)} (_:∀x∈xs,x.length=sz) (n:Nat),xs.flatten.drop (n*sz)=(xs.drop n).flatten
 |xs,_,0=>by simp
 | [],_,n+1=>by simp
 |x::xs,h,n+1=>by
  have hx:=h x (by simp)
  rw[List.flatten_cons,List.drop_succ_cons,Nat.succ_mul,Nat.add_comm,←List.drop_drop,show sz=x.length from hx.symm,List.drop_left,hx]
  exact qP2 (fun y hy=>h y (by simp[hy])) n
theorem qPw {sz:Nat}:∀{xs:List (List D)} (_:∀x∈xs,x.length=sz) (n:Nat),xs.flatten.take (n*sz)=(xs.take n).flatten
 |xs,_,0=>by simp
 | [],_,n+1=>by simp
 |x::xs,h,n+1=>by
  have hx:=h x (by simp)
  rw[List.flatten_cons,List.take_succ_cons,Nat.succ_mul,Nat.add_comm,List.flatten_cons,show sz=x.length from hx.symm,List.take_length_add_append,hx]
  rw[qPw (fun y hy=>h y (by simp[hy])) n]
def D.vv:D→Bool
 |.v _=>true
 |_=>false
theorem ARL.vvW {w w':World} {Z Z':Nat→Prop} {loc loc':Nat→Option Loc}:∀{ds:List D} {fp:List Nat} {vs:List Value},ds.all D.vv=true→ARL w Z loc fp ds vs→fp=[]∧ARL w' Z' loc' [] ds vs
 | [],_,_,_,h=>by cases h;exact⟨rfl,.nil⟩
 |d::ds,_,_,hd,h=>by
  rw[List.all_cons,Bool.and_eq_true]at hd
  cases h with
  |cons h1 h2 h3 =>
   obtain⟨e3,k3⟩:=ARL.vvW (w':=w') (Z':=Z') (loc':=loc') hd.2 h3
   subst e3
   cases d with
   |v y =>
    cases h2
    exact⟨rfl,.cons (fp:=[]) h1 .v k3⟩
   |_=>simp[D.vv]at hd
theorem Chg.sub {fp fp':List Nat} {w w':World} (h:Chg fp w w') (hs:∀x∈fp,x∈fp'):Chg fp' w w' :=
 ⟨h.size,fun b hb hn=>h.same b hb (fun hx=>hn (hs b hx)),h.shape,h.os,h.output,h.tape⟩
theorem qVM {α:Type} {P:Program} {f:FuncId} {sz by':Nat} (hc:qHp P f) (H:qWG P f sz by') {enc:α→List D} (hsz:∀y,(enc y).length=sz) (hvv:∀y,(enc y).all D.vv=true) (x:List α) (i:Int) (v:List α)
  (hn:(decide (0≤i)&&decide (i≤(x.length:Int))&&decide (v.length=1)&&qAf by' (x.length+1))=true) :
  qFk P f [.w sz (x.map enc),.v (.int .i64 i),.w sz (v.map enc)] [.u,.u,.u] (.w sz ((x.take i.toNat++v++x.drop i.toNat).map enc)):=by
 simp only[Bool.and_eq_true,decide_eq_true_eq]at hn
 obtain⟨⟨⟨i0,i1⟩,hv1⟩,hfit⟩:=hn
 have hfit:=Nat.le_of_ble_eq_true hfit
 refine⟨hc,fun w Z vs fp hart hnd hfp hZ hG hF=>?_⟩
 obtain⟨s,vv,fp1,fp2,rfl,hs,hv,rfl⟩:∃s vv fp1 fp2,vs=#[s,.int .i64 i,vv]∧AR w Z qAb fp1 (.w sz (x.map enc)) s∧AR w Z qAb fp2 (.w sz (v.map enc)) vv∧fp=fp1++fp2:=by
  cases vs with
  |mk vs =>
   generalize hq:(⟨vs⟩:Array Value).toList=q at hart
   cases hart with
   | @cons _ fp1 fp2 _ v _ vs' h1 h2 =>
    cases h2 with
    | @cons _ fp3 fp4 _ v2 _ vs2 h3 h4 =>
     cases h4 with
     | @cons _ fp5 fp6 _ v3 _ vs3 h5 h6 =>
      cases h6
      cases h3
      simp at hq
      exact⟨v,v3,fp1,fp5,by rw[hq],h1,h5,by simp⟩
 have hall:∀l:List α,((l.map enc).flatten).all D.vv=true:=by
  intro l
  rw[List.all_flatten]
  simp only[List.all_eq_true,List.mem_map]
  rintro _ ⟨y,_,rfl⟩
  simpa [List.all_eq_true]using hvv y
 have hlen:∀(l:List α),∀y∈l.map enc,y.length=sz:=fun l y hy=>by obtain⟨z,_,rfl⟩:=List.mem_map.1 hy;exact hsz z
 have hI:i=((i.toNat:Nat):Int):=by omega
 obtain⟨I,hI2⟩:∃I,I=i.toNat:=⟨_,rfl⟩
 rw[←hI2]at hI⊢
 subst hI
 clear hI2
 generalize hys:v.map enc=ys at hv
 have hy1:ys.length=1:=by rw[←hys];simpa using hv1
 cases hv with
 |w0=>cases hy1
 | @w _ fpN _ vb voff _ arv elv vc g1 g2 g3 g4 g5 g6 =>
  rw[hy1]at g3 g6⊢
  rw[Nat.one_mul]at g6
  rw[←hys]at g6
  obtain⟨rfl,k6⟩:=ARL.vvW (w':=w) (Z':=Z) (loc':=qAb) (hall v) g6
  have hvlt:=(Array.getElem?_eq_some_iff.1 g1).1
  have hone:=ARL.oneC k6
  have fin:∀(a:Option Addr) (c:Nat) (old:List Value),s=.slice a x.length c→
    ((x.length=0∧c=0∧old=[]∧fp1=[])∨∃b off arr el,a=some ⟨b,off,none⟩∧w.heap[b]?=some (.cells arr el (0,0))∧x.length≤c∧c≤qDp∧off+c*sz≤arr.size∧b≠vb∧old=(arr.toList.drop off).take (x.length*sz)∧fp1=[b])→
    ARL w Z qAb [] (x.map enc).flatten old→
    Calls P f #[s,.int .i64 (I:Int),.slice (some ⟨vb,voff,none⟩) 1 vc] w fun e w'=>∃v1 Z' fpo fpr,e=.returned v1∧Chg (fp1++[vb]) w w'∧ART w' Z' qAb fpo [.u,.u,.u] [s,.int .i64 (I:Int),.slice (some ⟨vb,voff,none⟩) 1 vc]∧AR w' Z' qAb fpr (.w sz ((x.take I++v++x.drop I).map enc)) v1∧(fpo++fpr).Nodup∧
     (∀b∈fpo++fpr,¬Z' b∧b<w'.heap.size∧(b∈fp1++[vb]∨w.heap.size≤b))∧(∀b,Z' b→b<w'.heap.size∧(Z b∨b∈fp1++[vb]∨w.heap.size≤b)):=by
   rintro a c old rfl ha ho
   refine(H w a x.length c I vb voff vc arv elv old fp1 ha g1 g5 g3 g4 (by omega) (by omega) (ARL.oneC ho) hone).mono ?_
   rintro e w' ⟨b',o',c',arr',el',rfl,q1,q2,q3,q4,q5,q6,q7,q8⟩
   refine⟨_,Z,[],[b'],rfl,q1.sub fun y hy=>List.mem_append_left _ hy,?_,?_,by simp,fun b hb=>?_,fun b hb=>⟨Nat.lt_of_lt_of_le (hZ b hb) q1.size,.inl hb⟩⟩
   ·exact .cons (fp:=[]) .u (.cons (fp:=[]) .u (.cons (fp:=[]) .u .nil))
   ·have hl:((x.take I++v++x.drop I).map enc).length=x.length+1:=by simp;omega
    have key:AR w' Z qAb [b'] (.w sz ((x.take I++v++x.drop I).map enc)) (.slice (some ⟨b',o',none⟩) ((x.take I++v++x.drop I).map enc).length c'):=by
     refine .w q4 (hlen _) (by rw[hl];exact q5) q6 q7 ?_
     rw[hl,q8,List.map_append,List.map_append,List.flatten_append,List.flatten_append,List.map_take,List.map_drop,←qPw (hlen x) I,←qP2 (hlen x) I]
     obtain⟨_,o2⟩:=ARL.vvW (w':=w') (Z':=Z) (loc':=qAb) (hall x) ho
     obtain⟨_,n2⟩:=ARL.vvW (w':=w') (Z':=Z) (loc':=qAb) (hall v) k6
     exact ARL.append (fp:=[]) (fp':=[]) (ARL.append (fp:=[]) (fp':=[]) (o2.take0 _) n2) (o2.drop0 _)
    rw[hl]at key
    exact key
   ·simp only[List.nil_append,List.mem_singleton]at hb
    subst hb
    rcases q2 with q2|q2
    ·exact⟨(hfp b (List.mem_append_left _ q2)).1,q3,.inl (List.mem_append_left _ q2)⟩
    ·exact⟨fun hz=>absurd (hZ b hz) (by omega),q3,.inr q2⟩
  generalize hxs:x.map enc=xs at hs
  have hxl:xs.length=x.length:=by rw[←hxs];simp
  cases hs with
  | @w0 _ _ a =>
   have hx0:x=[]:=by simpa using hxs
   subst hx0
   exact fin a 0 [] rfl (.inl ⟨rfl,rfl,rfl,rfl⟩) .nil
  | @w _ fpM _ b off _ arr el c m1 m2 m3 m4 m5 m6 =>
   rw[hxl]at m3 m6
   rw[←hxs]at m6
   obtain⟨rfl,n6⟩:=ARL.vvW (w':=w) (Z':=Z) (loc':=qAb) (hall x) m6
   exact fin (some ⟨b,off,none⟩) c _ (by rw[hxl]) (.inr ⟨b,off,arr,el,rfl,m1,m3,m4,m5,fun e=>by subst e;simp at hnd,rfl,rfl⟩) n6
end Go.AM
end
section
namespace Go.AM
theorem qFI {P : Program} {te : TE} (T : qGL P te) {f : FuncId} {fn : Func} {body : Code} {asx outs : List D} {res : D} (hf : P.funcs[f]? = some fn) (hb : fn.body=some body) (hname : (fn.name == "runtime.NumGoroutine")=false) (hn : Nat.ble asx.length fn.ntmps=true) (hok : asx.all D.gOk=true)
  (ds:List D) (hs:List (Nat×Root)) (k:Nat) (hi:qFZ 1 asx=(ds,hs,k)) (keep:List Nat) (hsub:keep.all (fun i=>(hs.map (·.1)).contains i)=true) (hkeep:ds.all (D.refsIn keep)=true) (h:∀L:Nat→Loc,AW P body (qWh te fn ds outs res (qJf keep L)) ⟨qOr 0 ds,hs,fn.ntmps,qJf keep L⟩):qFk P f asx outs res :=
 qUD T hf hb hname hn hok keep (fun i hm=>by rw[hi];simpa using List.all_eq_true.1 hsub i hm) (fun _ hart=>by rw[hi]at hart⊢;exact ART.refsK hkeep hart) (by rw[hi];exact h)
theorem FStep.frzInE {P:Program} {ops:Array Oper} {τ:St} {o:Oper} {k0 k' sz:Nat} {d:D} {hs:List (Nat×Root)} {α:Type} {l:List α} {p q:α→List D} (hf:∀y,FrzL (p y) (q y)) (h:FStep P ops τ o d hs k0 k') (hd:hs=[(k0,.row sz (l.map p))]):FStep P ops τ o d [(k0,.row sz (l.map q))] k0 k':=FStep.frzIn hf (hd▸h)
theorem qAc {P:Program} {σ:St} {o:Oper} {f:FuncId} {callee:Operand} {args:Array Operand} {ts:Array TypeId} {caps ds es us cs ds0:List D} {ids:List Nat} {id:Nat} {res:D} (cs':List D) (hs:List (Nat×Root)) (k2:Nat) {k:Nat} (hi:qDZ k cs=(cs',hs,k2)) (ho:o.op=.call { callee:=.value callee,args:=args,argTypes:=ts }) (k':Nat) (hkk:k'=k)
  (hc:σ.ev callee=some (.f f caps)) (ha:evs σ args.toList=some (.p id 0::ds)) (hg:get σ.h id=some (.box ds0)) (hp:qLI σ (.p id 0::(ds++caps)) es ids) (hids:ids.Nodup) (hm:id∈ids) (S:qFk P f es (.pn cs::us) res) (hokc:cs.all D.cellOk=true) (hok:res.tOk=true)
  (hk:St.freshFrom { σ with h:=qD7 ids σ.h } k=true) (hd:qBF σ o=true) :
  qJX P σ o (St.put { σ with h:=(qHa k2 res).2.1++((id,.box cs')::(hs++qD7 ids σ.h)) } o.dst (qHa k2 res).1):=by
 have h:=qV6 ho k hc ha hg hp hids hm S hokc hok hk hd
 rw[hi]at h
 exact h
theorem qQg {P:Program} {σ:St} {o:Oper} {f:FuncId} {callee:Operand} {args:Array Operand} {ts:Array TypeId} {caps ds:List D} {res:D} (d:D) (hs:List (Nat×Root)) (k2:Nat) {k:Nat} (hi:qHa k res=(d,hs,k2)) (ho:o.op=.call { callee:=.value callee,args:=args,argTypes:=ts }) (k':Nat) (hkk:k'=k)
  (hc:σ.ev callee=some (.f f caps)) (ha:evs σ args.toList=some ds) (hfree:(ds.all D.free&&caps.all D.free)=true) (S:qAC P f (ds++caps) res) (hok:res.tOk=true) (hk:σ.freshFrom k=true) (hd:qBF σ o=true) :
  qJX P σ o (St.put { σ with h:=hs++σ.h } o.dst d):=by
 have h:=qAU ho k hc ha hfree S hok hk hd
 rw[hi]at h
 exact h
end Go.AM
end
section
namespace Go.AM
theorem qSo {P:Program} {σ:St} {o:Oper} {f:FuncId} {callee:Operand} {args:Array Operand} {ts:Array TypeId} {d1 e1:D} {id sz:Nat} {xs:List (List D)} {res:D} (ho:o.op=.call { callee:=.value callee,args:=args,argTypes:=ts }) (k:Nat)
  (hc:σ.ev callee=some (.f f [])) (ha:evs σ args.toList=some [d1,.R id]) (hg:get σ.h id=some (.row sz xs)) (hl:Lend { σ with h:=qD7 [id] σ.h } d1 e1)
  (S:qFk P f [e1,.w sz xs] [.u,.u] res) (hzf:res.zfree) (hok:res.tOk=true) (hk:St.freshIn { σ with h:=qD7 [id] σ.h } k (qHa k res).2.2) (hd:qBF σ o=true) :
  qJX P σ o (St.put { σ with h:=(qHa k res).2.1++qD7 [id] σ.h } o.dst (qHa k res).1):=by
 rintro E a w ⟨Z,loc,fps,R⟩
 have hcv:=R.ev hc
 generalize hav:a.eval callee=cv at hcv
 cases hcv with
 | @f _ _ _ _ arr hcaps =>
  have hc0:arr.toList=[]:=by have:=hcaps.length;exact List.eq_nil_of_length_eq_zero (by simpa using this.symm)
  unfold Oper.wp
  rw[qFX ho hav S.1]
  have hargs:=qG7 R.toRelV ha
  obtain⟨v1,v2,hv,h1,h2⟩:∃v1 v2,(args.map a.eval++arr).toList=[v1,v2]∧AR w Z loc [] d1 v1∧AR w Z loc [] (.R id) v2:=by
   rw[Array.toList_append,hc0,List.append_nil,Array.toList_map]
   generalize args.toList.map a.eval=l at hargs
   cases hargs with
   |cons a1 a2=>cases a2 with|cons b1 b2=>cases b2 with|nil=>exact⟨_,_,rfl,a1,b1⟩
  obtain⟨fp,hw,hnd,hmem⟩:∃fp,AR w Z qAb fp (.w sz xs) v2∧Handed σ fps [id] fp:=by
   obtain⟨fp,g1,g2⟩:=qMU (ds:=[.R id]) (es:=[.w sz xs]) (ids:=[id]) R (zG (.c (.rowR hg)) zGn) (by simp) (.cons (fp:=[]) (fp':=[]) h2 .nil)
   cases g1 with
   | @cons _ f1 f2 _ _ _ _ k1 k2=>cases k2;exact⟨_,k1,by simpa using g2⟩
  have hown:∀b∈fp,¬Z b∧b<w.heap.size∧(E.w0.heap.size≤b∨b∈E.own):=fun b hb=>by
   obtain⟨i,ρ,_,h1,h2⟩:=hmem b hb;exact R.owned i ρ b h1 h2
  have Rk:=R.kills [id]
  have hdis:∀b∈fp,∀i ρ,St.live { σ with h:=qD7 [id] σ.h } i ρ→b∉fps i:=by
   intro b hb i ρ hl hbi
   obtain⟨h1,h2⟩:=qEg hl
   obtain⟨j,ρ',h3,h4,h5⟩:=hmem b hb
   have:=R.disj i j ρ ρ' b h2 h4 hbi h5
   subst this;exact h1 h3
  have hz:∀b,Z b→b<w.heap.size∧b∉fp:=fun b hb=>⟨R.zlt b hb,fun h=>(hown b h).1 hb⟩
  have hlend:=Rk.toRelV.lendZ (Zc:=fun b=>b<w.heap.size∧b∉fp) hz (fun i ρ b hl hb=>⟨(Rk.owned i ρ b hl hb).2.1,fun h=>hdis b h i ρ hl hb⟩) hl h1
  have hart:ART w (fun b=>b<w.heap.size∧b∉fp) qAb fp [e1,.w sz xs] (args.map a.eval++arr).toList:=by
   rw[hv]
   have:=ART.cons (fp:=[]) hlend (.cons (hw.mono hz (fun _ _ h=>h) (fun _ _=>rfl)) .nil)
   simpa using this
  refine Calls.mono (S.2 w _ _ fp hart hnd (fun b hb=>⟨fun h=>h.2 hb,(hown b hb).2.1⟩) (fun _ h=>h.1) ⟨R.glob,fun b hb=>hz b (R.globZ.2 b hb)⟩ (fun b hb=>R.high (hown b hb).2.2)) ?_
  rintro e w' ⟨v,Z',fpo,fpr,rfl,X,hao,har,hnd',hfp',hz'⟩
  have R1:Rel E { σ with h:=qD7 [id] σ.h } a w' Z loc fps:=Rk.chg X (fun b hb=>(hown b hb).1) hdis (fun b hb=>(hown b hb).2.2)
  have hndo:=List.nodup_append.1 hnd'
  obtain⟨loc',fps',ht,har'⟩:=qQe R1 hk ((hzf _ _ Z _ _ _ har).mono (fun _ h=>h) (fun _ _ h=>by simp[qAb]at h) (fun _ _=>rfl)) hndo.2.1 (fun b hb=>by
   obtain⟨g1,g2,g3⟩:=hfp' b (List.mem_append_right _ hb)
   rcases g3 with g3|g3
   ·exact⟨(hown b g3).1,g2,(hown b g3).2.2,hdis b g3⟩
   ·exact⟨fun h=>absurd (R.zlt b h) (by omega),g2,.inl (Nat.le_trans R.grow g3),fun i ρ hl hbi=>absurd (Rk.owned i ρ b hl hbi).2.1 (by omega)⟩) hok
  exact⟨_,loc',fps',ht.1.put (σ:={ σ with h:=(qHa k res).2.1++qD7 [id] σ.h }) (qAn hd) har'⟩
theorem Lend.up {τ σ:St} (h2:∀id ρ,get τ.h id=some ρ→get σ.h id=some ρ) {d e:D} (h:Lend τ d e):Lend σ d e:=by
 induction h with
 |free h=>exact .free h
 |nil=>exact .nil
 |row a b c=>exact .row (h2 _ _ a) b c
 |part a b c=>exact .part (h2 _ _ a) b c
 |rowR a b=>exact .rowR (h2 _ _ a) b
 |rowD a b c=>exact .rowD (h2 _ _ a) b c
 |partD a b c=>exact .partD (h2 _ _ a) b c
 |box a b _ ih=>exact .box (h2 _ _ a) b ih
 |elem a b c=>exact .elem (h2 _ _ a) b c
 |g a _ ih=>exact .g a ih
 |f a _ ih=>exact .f a ih
theorem FStep.callGL {P:Program} {o:Oper} {ops:Array Oper} {τ:St} {f:FuncId} {callee:Operand} {args:Array Operand} {ts:Array TypeId} {d1 e1:D} {id sz:Nat} {xs:List (List D)} {res:D} {k:Nat} (ho:o.op=.call { callee:=.value callee,args:=args,argTypes:=ts }) (hw:τ.wants ops o=some true)
  (hc:τ.ev callee=some (.f f [])) (ha:evs τ args.toList=some [d1,.R id]) (hg:get τ.h id=some (.row sz xs)) (hl:Lend { τ with h:=qD7 [id] τ.h } d1 e1)
  (S:qFk P f [e1,.w sz xs] [.u,.u] res) (hzf:res.zfree) (hok:res.tOk=true) (hk:Nat.blt id k=true) (hd:qBF τ o=true) :
  FStep P ops τ o (qHa k res).1 ((qHa k res).2.1++qD7 [id] []) k (qHa k res).2.2 :=
 .of_ok hw hd fun σ h1 h2 hfr hd'=>by
  have hevs:∀{l:List Operand} {r},evs τ l=some r→evs σ l=some r:=by
   intro l
   induction l with
   |nil=>intro r h;exact h
   |cons x l ih =>
    intro r h
    simp only[evs]at h⊢
    cases hx:τ.ev x with
    |none=>simp[hx]at h
    |some d =>
     cases hl:evs τ l with
     |none=>simp[hx,hl]at h
     |some r'=>rw[qGs h1 hx,ih hl];simpa [hx,hl]using h
  have hfr':St.freshIn { σ with h:=qD7 [id] σ.h } k (qHa k res).2.2:=by
   intro i hi1 hi2
   show get (qD7 [id] σ.h) i=none
   rw[qHr,if_neg (fun h=>by rw[List.mem_singleton]at h;simp only[Nat.blt_eq]at hk;omega)]
   exact hfr i hi1 hi2
  have:=qSo (σ:=σ) ho k (qGs h1 hc) (hevs ha) (h2 _ _ hg) (hl.up fun i ρ h=>by
   simp only[qHr]at h⊢
   split at h
   ·rw[if_pos ‹_›];exact h
   ·rw[if_neg ‹_›];exact h2 i ρ h) S hzf hok hfr' hd'
  have e:(qHa k res).2.1++qD7 [id] []++σ.h=(qHa k res).2.1++qD7 [id] σ.h:=by rw[List.append_assoc,qQh]
  rw[e]
  exact this
section
variable {P:Program} {σ:St}
end
end Go.AM
end
section
namespace Go.AM
section
variable {P:Program} {Q:Exit→St→Prop} {σ:St} {ops:Array Oper} {o:Oper} {rest:List Oper} {te:TE}
theorem ixa (T:qGL P te) {t e:Nat} {s b z} {ti:TI} {x i:Operand} {k:IntKind} {n:Int} {α:Type} {l:List α} {f:α→List D} {y:α} (ho:o.op=.indexAddr t x i:=by exact rfl) (ht:te t=some ⟨.slice e,s,b,z⟩:=by exact rfl) (hte:te e=some ti:=by exact rfl)
  (hx:σ.ev x=some (.s (l.map f)):=by exact rfl) (hi:σ.ev i=some (.v (.int k n)):=by exact rfl) (hg:qAT l n=some y:=by first|assumption|exact zgD (by assumption)) (hsz:(f y).length=ti.size:=by exact rfl):OpV P σ o (.q (f y)):=zX T ho ht hte hx hi hg hsz
theorem ixb (T:qGL P te) {t e:Nat} {s b z} {ti:TI} {x i:Operand} {k:IntKind} {n:Int} {id:Nat} {α:Type} {l:List α} {f:α→List D} {y:α} (ho:o.op=.indexAddr t x i:=by exact rfl) (ht:te t=some ⟨.slice e,s,b,z⟩:=by exact rfl) (hte:te e=some ti:=by exact rfl)
  (hx:σ.ev x=some (.R id):=by exact rfl) (hi:σ.ev i=some (.v (.int k n)):=by exact rfl) (hg:get σ.h id=some (.row ti.size (l.map f)):=by exact rfl) (hn:qAT l n=some y:=by first|assumption|exact zgD (by assumption)):OpV P σ o (.e id n.toNat 0):=zXr T ho ht hte hx hi hg hn
theorem inc {x y:Operand} {t u:Nat} {k n:Nat} (ho:o.op=.binOp .add t x y u:=by exact rfl) (hx:σ.ev x=some (.v (.int .i64 (k:Int))):=by exact rfl) (hy:σ.ev y=some (.v (.int .i64 1)):=by exact rfl) (h:k<n:=by assumption) (hn:n≤qDp:=by assumption):OpV P σ o (.v (.int .i64 ((k:Int)+1))) :=
 zR ho hx hy rfl (zK h hn)
theorem rgT {c:Operand} {x y:Code} {k n:Nat} (h1:AW P x Q σ) (hc:σ.ev c=some (.v (.bool (decide ((k:Int)<(n:Int))))):=by exact rfl) (h:k<n:=by assumption):AW P (.cond c x y) Q σ:=AW.condT' hc (qZD h) h1
theorem rgF {c:Operand} {x y:Code} {k n:Nat} (h1:AW P y Q σ) (hc:σ.ev c=some (.v (.bool (decide ((k:Int)<(n:Int))))):=by exact rfl) (h:n≤k:=by assumption):AW P (.cond c x y) Q σ:=AW.condF' hc (qZE h) h1
theorem AO.g0 (T:qGL P te) {g:Bool} {d:D} (hr:AO P ops rest Q (σ.put o.dst (.c g d))) (hg:σ.gval ops o=some g:=by exact rfl) (hd:qBF σ o=true:=by exact rfl) (h:qLa te (σ.unc []) o.op=some d:=by exact rfl):AO P ops (o::rest) Q σ:=AO.g T [] hg trivial hd h hr
theorem AO.g1 (T:qGL P te) (k:Nat) {g:Bool} {d:D} (hr:AO P ops rest Q (σ.put o.dst (.c g d))) (hg:σ.gval ops o=some g:=by exact rfl) (hc:qIF σ g [k]:=by exact⟨fun h=>h,trivial⟩) (hd:qBF σ o=true:=by exact rfl) (h:qLa te (σ.unc [k]) o.op=some d:=by exact rfl):AO P ops (o::rest) Q σ:=AO.g T [k] hg hc hd h hr
theorem AO.g2 (T:qGL P te) (j k:Nat) {g:Bool} {d:D} (hr:AO P ops rest Q (σ.put o.dst (.c g d))) (hg:σ.gval ops o=some g:=by exact rfl) (hc:qIF σ g [j,k]:=by exact⟨fun h=>h,fun h=>h,trivial⟩) (hd:qBF σ o=true:=by exact rfl) (h:qLa te (σ.unc [j,k]) o.op=some d:=by exact rfl):AO P ops (o::rest) Q σ:=AO.g T [j,k] hg hc hd h hr
theorem AO.d1 (k:Nat) {g:Bool} {d:D} (hop:g=true→OpV P (σ.unc [k]) o d) (hr:AO P ops rest Q (σ.put o.dst (.c g d))) (hg:σ.gval ops o=some g:=by exact rfl) (hc:qIF σ g [k]:=by exact⟨fun h=>h,trivial⟩) (hd:qBF σ o=true:=by exact rfl):AO P ops (o::rest) Q σ:=AO.d [k] hg hc hop hd hr
theorem AO.d2 (j k:Nat) {g:Bool} {d:D} (hop:g=true→OpV P (σ.unc [j,k]) o d) (hr:AO P ops rest Q (σ.put o.dst (.c g d))) (hg:σ.gval ops o=some g:=by exact rfl) (hc:qIF σ g [j,k]:=by exact⟨fun h=>h,fun h=>h,trivial⟩) (hd:qBF σ o=true:=by exact rfl):AO P ops (o::rest) Q σ:=AO.d [j,k] hg hc hop hd hr
theorem qBz {k n:Nat} (h:k<n):n-(k+1)<n-k:=by omega
theorem AW.cH {α:Type} {c:Operand} {x y:Code} {b:Bool} {A B r:α} (hH:_root_.cond b A B=r) (h1:b=true→A=r→AW P x Q σ) (h2:b=false→B=r→AW P y Q σ) (hc:σ.ev c=some (.v (.bool b)):=by exact rfl):AW P (.cond c x y) Q σ :=
 AW.c hc (fun h=>h1 h (Go.AM.condT h hH)) (fun h=>h2 h (Go.AM.condF h hH))
end
abbrev sv {α:Type} (f:α→List D) (l:List α):D:=.s (l.map f)
abbrev ro {α:Type} (n:Nat) (f:α→List D) (l:List α):Root:=.row n (l.map f)
theorem qAH {α β γ:Type} {o:Option α} {f:α→Option β} {g:α→β→Option γ} {r:γ} (h:o.bind (fun x=>(f x).bind (g x))=some r):∃x,o=some x∧∃y,f x=some y∧g x y=some r:=by
 obtain⟨x,h1,h⟩:=zB h
 obtain⟨y,h2,h⟩:=zB h
 exact⟨x,h1,y,h2,h⟩
theorem qA9 {α β γ δ:Type} {o:Option α} {f:α→Option β} {g:α→β→Option γ} {k:α→β→γ→Option δ} {r:δ} (h:o.bind (fun x=>(f x).bind fun y=>(g x y).bind (k x y))=some r):∃x,o=some x∧∃y,f x=some y∧∃z,g x y=some z∧k x y z=some r:=by
 obtain⟨x,h1,h⟩:=zB h
 obtain⟨y,h2,z,h3,h⟩:=qAH h
 exact⟨x,h1,y,h2,z,h3,h⟩
structure Hid (R:Prop):Prop where
 h:R
theorem go {G R:Prop} (h:R) (f:Hid R→G:=by
 intro hgo
 repeat (first
  |refine AO.w (qLn T) ?_
  |refine AO.w (qW7 T) ?_
  |refine AO.pu T ?_
  |refine AO.n ?_
  |refine AW.q ?_
  |refine AW.r ?_
  |refine AO.w inc ?_
  |refine AO.w aws ?_
  |refine AO.w (ixa T) ?_
  |refine AW.b ?_
  |refine AW.k ?_
  |refine AW.exit ?_
  |refine rgT ?_
  |refine rgF ?_
  |refine AO.w (ixb T) ?_
  |refine AO.w qYg ?_
  |refine AO.w ors ?_
  |refine AW.t ?_
  |refine AD.vv (qLn T) ?_
  |refine AD.vv (qW7 T) ?_
  |refine AD.pu T ?_
  |refine AD.vv (ixa T) ?_
  |refine AD.nil ?_)
 exact Hid.h hgo):G:=f ⟨h⟩
theorem gs {G R:Prop} (h:R) (f:Hid R→G:=by
 intro hgo
 first
  |refine AO.w (qLn T) ?_
  |refine AO.w (qW7 T) ?_
  |refine AO.pu T ?_
  |refine AO.n ?_
  |refine AW.q ?_
  |refine AW.r ?_
  |refine AO.w inc ?_
  |refine AO.w aws ?_
  |refine AO.w (ixa T) ?_
  |refine AW.b ?_
  |refine AW.k ?_
  |refine AW.exit ?_
  |refine rgT ?_
  |refine rgF ?_
  |refine AO.w (ixb T) ?_
  |refine AO.w qYg ?_
  |refine AO.w ors ?_
  |refine AW.t ?_
  |refine AD.vv (qLn T) ?_
  |refine AD.vv (qW7 T) ?_
  |refine AD.pu T ?_
  |refine AD.vv (ixa T) ?_
  |refine AD.nil ?_
 exact Hid.h hgo):G:=f ⟨h⟩
theorem fin {G:Prop} (h:G:=by
  have hR:=zS hH
  subst hR
  first
    |exact⟨trivial,_,_,rfl,by exact .c (.c .v),by decide⟩
    |exact⟨trivial,_,_,rfl,by exact .c (.c (.rowR rfl)),by decide⟩
    |exact⟨trivial,_,_,rfl,by exact .c (.c .s),by decide⟩
    |exact⟨trivial,_,_,rfl,by
        first
          | (apply ExpT.t
             repeat (first|exact zGn|apply zG (.c .v)|apply zG (.c .nil)|apply zG (.c .nilS)|apply zG (.c .s)|apply zG (.c (.rowR rfl))|apply zG (.g (by repeat (first|exact zCn|apply zC .v|apply zC .s|apply zC .nilS|apply zC .nil|apply zC (.rowR rfl))))))
          | (apply ExpT.c;apply ExpG.g
             repeat (first|exact zCn|apply zC .v|apply zC .s|apply zC .nilS|apply zC .nil|apply zC (.rowR rfl))),by decide⟩):G:=h
theorem qET {G:Prop} (h:G:=by
 have hR:=zS hH
 subst hR
 exact⟨trivial,rfl,_,_,_,rfl,by repeat (first|exact zGn|apply zG (.c .u)|apply zG (.c (.box rfl rfl))|apply zG (.pb rfl (qA1 rfl rfl))|apply zG (.pb rfl (qJN rfl rfl rfl))|apply zG (.pb rfl (qJN rfl rfl))|apply zG (.pb rfl (qJN rfl))|apply zG (.c (.rowR rfl))|apply zG (.g (by repeat (first|exact zCn|apply zC .u|apply zC (.rowR rfl))))),by exact .c (.c .v),by decide⟩):G:=h
theorem gs2 {G R:Prop} (h:R) (f:Hid R→G:=by intro hgo; refine gs ?_; refine gs ?_; exact Hid.h hgo):G:=f ⟨h⟩
theorem gs3 {G R:Prop} (h:R) (f:Hid R→G:=by intro hgo; refine gs2 ?_; refine gs ?_; exact Hid.h hgo):G:=f ⟨h⟩
theorem gs4 {G R:Prop} (h:R) (f:Hid R→G:=by intro hgo; refine gs3 ?_; refine gs ?_; exact Hid.h hgo):G:=f ⟨h⟩
theorem gs5 {G R:Prop} (h:R) (f:Hid R→G:=by intro hgo; refine gs4 ?_; refine gs ?_; exact Hid.h hgo):G:=f ⟨h⟩
theorem gs6 {G R:Prop} (h:R) (f:Hid R→G:=by intro hgo; refine gs5 ?_; refine gs ?_; exact Hid.h hgo):G:=f ⟨h⟩
theorem gs7 {G R:Prop} (h:R) (f:Hid R→G:=by intro hgo; refine gs6 ?_; refine gs ?_; exact Hid.h hgo):G:=f ⟨h⟩
theorem gs8 {G R:Prop} (h:R) (f:Hid R→G:=by intro hgo; refine gs7 ?_; refine gs ?_; exact Hid.h hgo):G:=f ⟨h⟩
theorem gs9 {G R:Prop} (h:R) (f:Hid R→G:=by intro hgo; refine gs8 ?_; refine gs ?_; exact Hid.h hgo):G:=f ⟨h⟩
end Go.AM
end

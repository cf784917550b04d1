/- A part of my own walk library: how the model runs a function, told over abstract values. It states no law of the program; no condition. -/
import Derived.Test.YtkidpkmpnbibmaaGreatDoorAm3
import Derived.KernelRfl
set_option linter.unusedSimpArgs false
set_option linter.unusedVariables false
set_option linter.unusedSectionVars false
section
namespace Go.AM
theorem qFh {P : Program} {te : TE} (T : qGp P te) {f : FuncId} {fn : Func} {body : Code} {asx outs : List D} {res : D} (hf : P.funcs[f]? = some fn) (hb : fn.body=some body) (hname : (fn.name == "runtime.NumGoroutine")=false) (hn : Nat.ble asx.length fn.ntmps=true) (hok : asx.all D.gOk=true)
  (ds:List D) (hs:List (Nat×Root)) (k:Nat) (hi:qFj 1 asx=(ds,hs,k)) (keep:List Nat) (hsub:keep.all (fun i=>(hs.map (·.1)).contains i)=true) (hkeep:ds.all (D.refsIn keep)=true) (h:∀L:Nat->Loc,AW P body (qX3 te fn ds outs res (qJ4 keep L)) ⟨qPP 0 ds,hs,fn.ntmps,qJ4 keep L⟩):qFe P f asx outs res :=
 qVg T hf hb hname hn hok keep (fun i hm=>by rw[hi];simpa using List.all_eq_true.1 hsub i hm) (fun _ hart=>by rw[hi]at hart⊢;exact ART.refsK hkeep hart) (by rw[hi];exact h)
theorem FStep.frzInE {P:Program} {ops:Array Oper} {τ:St} {o:Oper} {k0 k' sz:Nat} {d:D} {hs:List (Nat×Root)} {α:Type} {l:List α} {p q:α->List D} (hf:∀y,FrzL (p y) (q y)) (h:FStep P ops τ o d hs k0 k') (hd:hs=[(k0,.row sz (l.map p))]):FStep P ops τ o d [(k0,.row sz (l.map q))] k0 k':=FStep.frzIn hf (hd▸h)
theorem qAd {P:Program} {σ:St} {o:Oper} {f:FuncId} {callee:Operand} {args:Array Operand} {ts:Array TypeId} {caps ds es us cs ds0:List D} {ids:List Nat} {id:Nat} {res:D} (cs':List D) (hs:List (Nat×Root)) (k2:Nat) {k:Nat} (hi:qDm k cs=(cs',hs,k2)) (ho:o.op=.call { callee:=.value callee,args:=args,argTypes:=ts }) (k':Nat) (hkk:k'=k)
  (hc:σ.ev callee=some (.f f caps)) (ha:evs σ args.toList=some (.p id 0::ds)) (hg:get σ.h id=some (.box ds0)) (hp:qLf σ (.p id 0::(ds++caps)) es ids) (hids:ids.Nodup) (hm:id∈ids) (S:qFe P f es (.pn cs::us) res) (hokc:cs.all D.cellOk=true) (hok:res.tOk=true)
  (hk:St.freshFrom { σ with h:=qFA ids σ.h } k=true) (hd:qBJ σ o=true) :
  qKG P σ o (St.put { σ with h:=(qJJ k2 res).2.1++((id,.box cs')::(hs++qFA ids σ.h)) } o.dst (qJJ k2 res).1):=by
 have h:=qWC ho k hc ha hg hp hids hm S hokc hok hk hd
 rw[hi]at h
 exact h
theorem qQ2 {P:Program} {σ:St} {o:Oper} {f:FuncId} {callee:Operand} {args:Array Operand} {ts:Array TypeId} {caps ds:List D} {res:D} (d:D) (hs:List (Nat×Root)) (k2:Nat) {k:Nat} (hi:qJJ k res=(d,hs,k2)) (ho:o.op=.call { callee:=.value callee,args:=args,argTypes:=ts }) (k':Nat) (hkk:k'=k)
  (hc:σ.ev callee=some (.f f caps)) (ha:evs σ args.toList=some ds) (hfree:(ds.all D.free&&caps.all D.free)=true) (S:qAC P f (ds++caps) res) (hok:res.tOk=true) (hk:σ.freshFrom k=true) (hd:qBJ σ o=true) :
  qKG P σ o (St.put { σ with h:=hs++σ.h } o.dst d):=by
 have h:=qAV ho k hc ha hfree S hok hk hd
 rw[hi]at h
 exact h
end Go.AM
end
section
namespace Go.AM
section
variable {P:Program} {Q:Exit->St->Prop} {σ:St} {ops:Array Oper} {o:Oper} {rest:List Oper} {te:TE}
theorem ixa (T:qGp P te) {t e:Nat} {s b z} {ti:TI} {x i:Operand} {k:IntKind} {n:Int} {α:Type} {l:List α} {f:α->List D} {y:α} (ho:o.op=.indexAddr t x i:=by exact rfl) (ht:te t=some ⟨.slice e,s,b,z⟩:=by exact rfl) (hte:te e=some ti:=by exact rfl)
  (hx:σ.ev x=some (.s (l.map f)):=by exact rfl) (hi:σ.ev i=some (.v (.int k n)):=by exact rfl) (hg:qAT l n=some y:=by first|assumption|exact zgD (by assumption)) (hsz:(f y).length=ti.size:=by exact rfl):OpV P σ o (.q (f y)):=zX T ho ht hte hx hi hg hsz
theorem ixb (T:qGp P te) {t e:Nat} {s b z} {ti:TI} {x i:Operand} {k:IntKind} {n:Int} {id:Nat} {α:Type} {l:List α} {f:α->List D} {y:α} (ho:o.op=.indexAddr t x i:=by exact rfl) (ht:te t=some ⟨.slice e,s,b,z⟩:=by exact rfl) (hte:te e=some ti:=by exact rfl)
  (hx:σ.ev x=some (.R id):=by exact rfl) (hi:σ.ev i=some (.v (.int k n)):=by exact rfl) (hg:get σ.h id=some (.row ti.size (l.map f)):=by exact rfl) (hn:qAT l n=some y:=by first|assumption|exact zgD (by assumption)):OpV P σ o (.e id n.toNat 0):=zXr T ho ht hte hx hi hg hn
theorem inc {x y:Operand} {t u:Nat} {k n:Nat} (ho:o.op=.binOp .add t x y u:=by exact rfl) (hx:σ.ev x=some (.v (.int .i64 (k:Int))):=by exact rfl) (hy:σ.ev y=some (.v (.int .i64 1)):=by exact rfl) (h:k<n:=by assumption) (hn:n<=qDx:=by assumption):OpV P σ o (.v (.int .i64 ((k:Int)+1))) :=
 zR ho hx hy rfl (zK h hn)
theorem rgT {c:Operand} {x y:Code} {k n:Nat} (h1:AW P x Q σ) (hc:σ.ev c=some (.v (.bool (decide ((k:Int)<(n:Int))))):=by exact rfl) (h:k<n:=by assumption):AW P (.cond c x y) Q σ:=AW.condT' hc (qZ5 h) h1
theorem rgF {c:Operand} {x y:Code} {k n:Nat} (h1:AW P y Q σ) (hc:σ.ev c=some (.v (.bool (decide ((k:Int)<(n:Int))))):=by exact rfl) (h:n<=k:=by assumption):AW P (.cond c x y) Q σ:=AW.condF' hc (qZ6 h) h1
theorem AO.g0 (T:qGp P te) {g:Bool} {d:D} (hr:AO P ops rest Q (σ.put o.dst (.c g d))) (hg:σ.gval ops o=some g:=by exact rfl) (hd:qBJ σ o=true:=by exact rfl) (h:qL7 te (σ.unc []) o.op=some d:=by exact rfl):AO P ops (o::rest) Q σ:=AO.g T [] hg trivial hd h hr
theorem AO.g1 (T:qGp P te) (k:Nat) {g:Bool} {d:D} (hr:AO P ops rest Q (σ.put o.dst (.c g d))) (hg:σ.gval ops o=some g:=by exact rfl) (hc:qIb σ g [k]:=by exact⟨fun h=>h,trivial⟩) (hd:qBJ σ o=true:=by exact rfl) (h:qL7 te (σ.unc [k]) o.op=some d:=by exact rfl):AO P ops (o::rest) Q σ:=AO.g T [k] hg hc hd h hr
theorem AO.g2 (T:qGp P te) (j k:Nat) {g:Bool} {d:D} (hr:AO P ops rest Q (σ.put o.dst (.c g d))) (hg:σ.gval ops o=some g:=by exact rfl) (hc:qIb σ g [j,k]:=by exact⟨fun h=>h,fun h=>h,trivial⟩) (hd:qBJ σ o=true:=by exact rfl) (h:qL7 te (σ.unc [j,k]) o.op=some d:=by exact rfl):AO P ops (o::rest) Q σ:=AO.g T [j,k] hg hc hd h hr
theorem AO.d1 (k:Nat) {g:Bool} {d:D} (hop:g=true->OpV P (σ.unc [k]) o d) (hr:AO P ops rest Q (σ.put o.dst (.c g d))) (hg:σ.gval ops o=some g:=by exact rfl) (hc:qIb σ g [k]:=by exact⟨fun h=>h,trivial⟩) (hd:qBJ σ o=true:=by exact rfl):AO P ops (o::rest) Q σ:=AO.d [k] hg hc hop hd hr
theorem AO.d2 (j k:Nat) {g:Bool} {d:D} (hop:g=true->OpV P (σ.unc [j,k]) o d) (hr:AO P ops rest Q (σ.put o.dst (.c g d))) (hg:σ.gval ops o=some g:=by exact rfl) (hc:qIb σ g [j,k]:=by exact⟨fun h=>h,fun h=>h,trivial⟩) (hd:qBJ σ o=true:=by exact rfl):AO P ops (o::rest) Q σ:=AO.d [j,k] hg hc hop hd hr
theorem qBl {k n:Nat} (h:k<n):n-(k+1)<n-k:=by omega
theorem AW.cH {α:Type} {c:Operand} {x y:Code} {b:Bool} {A B r:α} (hH:_root_.cond b A B=r) (h1:b=true->A=r->AW P x Q σ) (h2:b=false->B=r->AW P y Q σ) (hc:σ.ev c=some (.v (.bool b)):=by exact rfl):AW P (.cond c x y) Q σ :=
 AW.c hc (fun h=>h1 h (Go.AM.condT h hH)) (fun h=>h2 h (Go.AM.condF h hH))
end
abbrev sv {α:Type} (f:α->List D) (l:List α):D:=.s (l.map f)
abbrev ro {α:Type} (n:Nat) (f:α->List D) (l:List α):Root:=.row n (l.map f)
theorem qAH {α β γ:Type} {o:Option α} {f:α->Option β} {g:α->β->Option γ} {r:γ} (h:o.bind (fun x=>(f x).bind (g x))=some r):∃x,o=some x/\∃y,f x=some y/\g x y=some r:=by
 obtain⟨x,h1,h⟩:=zB h
 obtain⟨y,h2,h⟩:=zB h
 exact⟨x,h1,y,h2,h⟩
theorem qBC {α β γ δ:Type} {o:Option α} {f:α->Option β} {g:α->β->Option γ} {k:α->β->γ->Option δ} {r:δ} (h:o.bind (fun x=>(f x).bind fun y=>(g x y).bind (k x y))=some r):∃x,o=some x/\∃y,f x=some y/\∃z,g x y=some z/\k x y z=some r:=by
 obtain⟨x,h1,h⟩:=zB h
 obtain⟨y,h2,z,h3,h⟩:=qAH h
 exact⟨x,h1,y,h2,z,h3,h⟩
structure Hid (R:Prop):Prop where
 h:R
theorem go {G R:Prop} (h:R) (f:Hid R->G:=by
 intro hgo
 repeat (first
  |refine AO.w (qMi T) ?_
  |refine AO.w (qXH T) ?_
  |refine AO.pu T ?_
  |refine AO.n ?_
  |refine AW.q ?_
  |refine AW.r ?_
  |refine AO.w inc ?_
  |refine AO.w aws ?_
  |refine AO.w (ixa T) ?_
  |refine AW.b ?_
  |refine AW.k ?_
  |refine AW.exit ?_
  |refine rgT ?_
  |refine rgF ?_
  |refine AO.w (ixb T) ?_
  |refine AO.w qZY ?_
  |refine AO.w ors ?_
  |refine AW.t ?_
  |refine AD.vv (qMi T) ?_
  |refine AD.vv (qXH T) ?_
  |refine AD.pu T ?_
  |refine AD.vv (ixa T) ?_
  |refine AD.nil ?_)
 exact Hid.h hgo):G:=f ⟨h⟩
theorem gs {G R:Prop} (h:R) (f:Hid R->G:=by
 intro hgo
 first
  |refine AO.w (qMi T) ?_
  |refine AO.w (qXH T) ?_
  |refine AO.pu T ?_
  |refine AO.n ?_
  |refine AW.q ?_
  |refine AW.r ?_
  |refine AO.w inc ?_
  |refine AO.w aws ?_
  |refine AO.w (ixa T) ?_
  |refine AW.b ?_
  |refine AW.k ?_
  |refine AW.exit ?_
  |refine rgT ?_
  |refine rgF ?_
  |refine AO.w (ixb T) ?_
  |refine AO.w qZY ?_
  |refine AO.w ors ?_
  |refine AW.t ?_
  |refine AD.vv (qMi T) ?_
  |refine AD.vv (qXH T) ?_
  |refine AD.pu T ?_
  |refine AD.vv (ixa T) ?_
  |refine AD.nil ?_
 exact Hid.h hgo):G:=f ⟨h⟩
theorem fin {G:Prop} (h:G:=by
  have hR:=zS hH
  subst hR
  first
    |exact⟨trivial,_,_,rfl,by exact .c (.c .v),by decide⟩
    |exact⟨trivial,_,_,rfl,by exact .c (.c (.rowR rfl)),by decide⟩
    |exact⟨trivial,_,_,rfl,by exact .c (.c .s),by decide⟩
    |exact⟨trivial,_,_,rfl,by
        first
          | (apply ExpT.t
             repeat (first|exact zGn|apply zG (.c .v)|apply zG (.c .nil)|apply zG (.c .nilS)|apply zG (.c .s)|apply zG (.c (.rowR rfl))|apply zG (.g (by repeat (first|exact zCn|apply zC .v|apply zC .s|apply zC .nilS|apply zC .nil|apply zC (.rowR rfl))))))
          | (apply ExpT.c;apply ExpG.g
             repeat (first|exact zCn|apply zC .v|apply zC .s|apply zC .nilS|apply zC .nil|apply zC (.rowR rfl))),by decide⟩):G:=h
theorem qEa {G:Prop} (h:G:=by
 have hR:=zS hH
 subst hR
 exact⟨trivial,rfl,_,_,_,rfl,by repeat (first|exact zGn|apply zG (.c .u)|apply zG (.c (.box rfl rfl))|apply zG (.pb rfl (qA4 rfl rfl))|apply zG (.pb rfl (qJl rfl rfl rfl))|apply zG (.pb rfl (qJl rfl rfl))|apply zG (.pb rfl (qJl rfl))|apply zG (.c (.rowR rfl))|apply zG (.g (by repeat (first|exact zCn|apply zC .u|apply zC (.rowR rfl))))),by exact .c (.c .v),by decide⟩):G:=h
theorem gs2 {G R:Prop} (h:R) (f:Hid R->G:=by intro hgo; refine gs ?_; refine gs ?_; exact Hid.h hgo):G:=f ⟨h⟩
theorem gs3 {G R:Prop} (h:R) (f:Hid R->G:=by intro hgo; refine gs2 ?_; refine gs ?_; exact Hid.h hgo):G:=f ⟨h⟩
theorem gs4 {G R:Prop} (h:R) (f:Hid R->G:=by intro hgo; refine gs3 ?_; refine gs ?_; exact Hid.h hgo):G:=f ⟨h⟩
theorem gs5 {G R:Prop} (h:R) (f:Hid R->G:=by intro hgo; refine gs4 ?_; refine gs ?_; exact Hid.h hgo):G:=f ⟨h⟩
theorem gs6 {G R:Prop} (h:R) (f:Hid R->G:=by intro hgo; refine gs5 ?_; refine gs ?_; exact Hid.h hgo):G:=f ⟨h⟩
theorem gs7 {G R:Prop} (h:R) (f:Hid R->G:=by intro hgo; refine gs6 ?_; refine gs ?_; exact Hid.h hgo):G:=f ⟨h⟩
theorem gs8 {G R:Prop} (h:R) (f:Hid R->G:=by intro hgo; refine gs7 ?_; refine gs ?_; exact Hid.h hgo):G:=f ⟨h⟩
theorem gs9 {G R:Prop} (h:R) (f:Hid R->G:=by intro hgo; refine gs8 ?_; refine gs ?_; exact Hid.h hgo):G:=f ⟨h⟩
end Go.AM
end

/- A part of my own walk library: how the model runs a function, told over abstract values. It states no law of the program; no condition. -/
import Derived.Test.YtkidpkmpnbibmaaGreatDoorSrAm3
import Derived.KernelRfl
set_option linter.unusedSimpArgs false
set_option linter.unusedVariables false
set_option linter.unusedSectionVars false
section
namespace Go.AM
theorem qFN {P : Program} {te : TE} (T : qGk P te) {f : FuncId} {fn : Func} {body : Code} {asx outs : List D} {res : D} (hf : P.funcs[f]? = some fn) (hb : fn.body=some body) (hname : (fn.name == "runtime.NumGoroutine")=false) (hn : Nat.ble asx.length fn.ntmps=true) (hok : asx.all D.gOk=true)
  (ds:List D) (hs:List (Nat×Root)) (k:Nat) (hi:qFX 1 asx=(ds,hs,k)) (keep:List Nat) (hsub:keep.all (fun i=>(hs.map (·.1)).contains i)=true) (hkeep:ds.all (D.refsIn keep)=true) (h:∀L:Nat→Loc,AW P body (qWs te fn ds outs res (qJj keep L)) ⟨qOY 0 ds,hs,fn.ntmps,qJj keep L⟩):qF3 P f asx outs res :=
 qUU T hf hb hname hn hok keep (fun i hm=>by rw[hi];simpa using List.all_eq_true.1 hsub i hm) (fun _ hart=>by rw[hi]at hart⊢;exact ART.refsK hkeep hart) (by rw[hi];exact h)
theorem FStep.frzInE {P:Program} {ops:Array Oper} {τ:St} {o:Oper} {k0 k' sz:Nat} {d:D} {hs:List (Nat×Root)} {α:Type} {l:List α} {p q:α→List D} (hf:∀y,FrzL (p y) (q y)) (h:FStep P ops τ o d hs k0 k') (hd:hs=[(k0,.row sz (l.map p))]):FStep P ops τ o d [(k0,.row sz (l.map q))] k0 k':=FStep.frzIn hf (hd▸h)
theorem qAd {P:Program} {σ:St} {o:Oper} {f:FuncId} {callee:Operand} {args:Array Operand} {ts:Array TypeId} {caps ds es us cs ds0:List D} {ids:List Nat} {id:Nat} {res:D} (cs':List D) (hs:List (Nat×Root)) (k2:Nat) {k:Nat} (hi:qDb k cs=(cs',hs,k2)) (ho:o.op=.call { callee:=.value callee,args:=args,argTypes:=ts }) (k':Nat) (hkk:k'=k)
  (hc:σ.ev callee=some (.f f caps)) (ha:evs σ args.toList=some (.p id 0::ds)) (hg:get σ.h id=some (.box ds0)) (hp:qKq σ (.p id 0::(ds++caps)) es ids) (hids:ids.Nodup) (hm:id∈ids) (S:qF3 P f es (.pn cs::us) res) (hokc:cs.all D.cellOk=true) (hok:res.tOk=true)
  (hk:St.freshFrom { σ with h:=qEN ids σ.h } k=true) (hd:qBI σ o=true) :
  qJX P σ o (St.put { σ with h:=(qIg k2 res).2.1++((id,.box cs')::(hs++qEN ids σ.h)) } o.dst (qIg k2 res).1):=by
 have h:=qVi ho k hc ha hg hp hids hm S hokc hok hk hd
 rw[hi]at h
 exact h
theorem qQa {P:Program} {σ:St} {o:Oper} {f:FuncId} {callee:Operand} {args:Array Operand} {ts:Array TypeId} {caps ds:List D} {res:D} (d:D) (hs:List (Nat×Root)) (k2:Nat) {k:Nat} (hi:qIg k res=(d,hs,k2)) (ho:o.op=.call { callee:=.value callee,args:=args,argTypes:=ts }) (k':Nat) (hkk:k'=k)
  (hc:σ.ev callee=some (.f f caps)) (ha:evs σ args.toList=some ds) (hfree:(ds.all D.free&&caps.all D.free)=true) (S:qAC P f (ds++caps) res) (hok:res.tOk=true) (hk:σ.freshFrom k=true) (hd:qBI σ o=true) :
  qJX P σ o (St.put { σ with h:=hs++σ.h } o.dst d):=by
 have h:=qAU ho k hc ha hfree S hok hk hd
 rw[hi]at h
 exact h
end Go.AM
end
section
namespace Go.AM
abbrev V2:=Value×Value
def qMu (x:V2):List D:=[.v x.1,.v x.2]
def qIN:List V2→List Value
 | []=>[]
 |x::l=>x.1::x.2::qIN l
theorem qQ4 (l m:List V2):qIN (l++m)=qIN l++qIN m:=by
 induction l with
 |nil=>rfl
 |cons x l ih=>simp[qIN,ih]
theorem qWJ:∀(n:Nat) (vs:List Value),vs.length=n*2→∃xv:List V2,xv.length=n∧qIN xv=vs
 |0,vs,h=>⟨[],rfl,by have:vs=[]:=List.eq_nil_of_length_eq_zero (by omega);rw[this];rfl⟩
 |n+1,vs,h=>by
  match vs,h with
  | [],h=>exact absurd h (by simp)
  | [_],h=>exact absurd h (by simp only[List.length_cons,List.length_nil];omega)
  |a::b::vs,h =>
   obtain⟨xv,h1,h2⟩:=qWJ n vs (by simp only[List.length_cons]at h;omega)
   exact⟨(a,b)::xv,by simp[h1],by simp[qIN,h2]⟩
theorem qY2 {w Z loc}:∀(xv:List V2) (hone:∀v∈qIN xv,v.oneCell'=true),ARL w Z loc [] (xv.map qMu).flatten (qIN xv):=by
 intro xv
 induction xv with
 |nil=>intro _;exact .nil
 |cons x xv ih =>
  intro hone
  simp only[qIN,List.mem_cons,forall_eq_or_imp]at hone
  have:=ih hone.2.2
  exact .cons (fp:=[]) hone.1 .v (.cons (fp:=[]) hone.2.1 .v this)
theorem qTX {w Z loc}:∀(xv:List V2) {fp vs},ARL w Z loc fp (xv.map qMu).flatten vs→vs=qIN xv:=by
 intro xv
 induction xv with
 |nil=>intro fp vs h;cases h;rfl
 |cons x xv ih =>
  intro fp vs h
  simp only[List.map_cons,List.flatten_cons,qMu,List.cons_append,List.nil_append]at h
  cases h with
  |cons _ h1 h2 =>
   cases h2 with
   |cons _ h3 h4 =>
    cases h1;cases h3
    rw[qIN,ih h4]
section
variable {P:Program} {σ:St}
theorem RelX.raw (id id2:Nat) {α:Type} {l:List α} {f:α→List D} (hg:get σ.h id=some (.row 2 (l.map f))) (hid:get σ.h id2=none) {E:Env} {a:Act} {w:World} (hR:RelX E σ a w) :
  ∃xv:List V2,xv.length=l.length∧RelX E { σ with h:=(id2,.limb (l.map f).flatten (qIN xv))::(id,.row 2 (xv.map qMu))::σ.h } a w:=by
 obtain⟨Z,loc,fps,R⟩:=hR
 have hl:σ.live id (.row 2 (l.map f)):=⟨hg,by simp⟩
 obtain⟨L,hL,e1,e2,e3,e4,h3⟩:=R.roots id _ hl
 have hnd:=R.nodup id _ hl
 obtain⟨xv,hxl,fpc,fpl,hfp,hrow,hlimb⟩:∃xv:List V2,xv.length=l.length∧∃fpc fpl,fps id=fpc++fpl∧RootRel w Z loc fpc L (.row 2 (xv.map qMu))∧ARL w Z qAa fpl (l.map f).flatten (qIN xv):=by
  rcases h3 with⟨h3,h4⟩|⟨fpN,arr,el,e5,h4,h5,h6⟩
  ·have:l=[]:=List.eq_nil_of_length_eq_zero (by have:=e3.1;simp at this;omega)
   subst this
   exact⟨[],rfl,[],[],by rw[h4];rfl,⟨e1,by simp,e3,e4,.inl ⟨h3,rfl⟩⟩,.nil⟩
  ·have hlen:=h6.length
   rw[qEL e2,List.length_map]at hlen
   obtain⟨xv,g1,g2⟩:=qWJ l.length _ hlen.symm
   rw[List.length_map,←g2]at h6
   have hlen3:∀x∈xv.map qMu,x.length=2:=by intro x hx;obtain⟨y,_,rfl⟩:=List.mem_map.1 hx;rfl
   refine⟨xv,g1,[L.b],fpN,by rw[e5];rfl,⟨e1,hlen3,by simpa [g1]using e3,e4,.inr ⟨[],arr,el,rfl,h4,h5,?_⟩⟩,h6⟩
   rw[List.length_map,g1,←g2]
   exact qY2 xv h6.one
 rw[hfp]at hnd
 have hnd':=List.nodup_append.1 hnd
 have R1:=Rel.setRoot (ks:=[]) (id0:=id) (ρ0:=.row 2 (xv.map qMu)) (L0:=L) (fp0:=fpc) R (Nat.le_refl _) (fun _ _ _=>rfl) (fun _ _=>rfl) rfl rfl ⟨rfl,Nat.le_refl _⟩
  (fun b hb=>⟨(R.owned id _ b hl (by rw[hfp];exact List.mem_append_left _ hb)).2.1,.inr ⟨id,_,.inl rfl,hl,by rw[hfp];exact List.mem_append_left _ hb⟩⟩) hnd'.1 (.inr hL) (fun _ h=>h) (fun _ h=>.inl h)
  (hrow.mono (fun _ h=>h) (qTd hL) (fun _ _=>rfl))
 have hne:id2≠id:=fun e=>by subst e;rw[hg]at hid;cases hid
 have R2:=R1.adopt (id:=id2) (ρ:=.limb (l.map f).flatten (qIN xv)) (L:=L) (fp0:=fpl) (by show get ((id,_)::σ.h) id2=none;rw[qAQ,if_neg hne];exact hid) (by
  intro b hb
  obtain⟨g1,g2,g3⟩:=R.owned id _ b hl (by rw[hfp];exact List.mem_append_right _ hb)
  refine⟨g1,g2,g3,fun i ρ' hl' hbi=>?_⟩
  obtain⟨k1,k2⟩:=hl'
  simp only[qEN,List.foldr_nil,qAQ]at k1
  split at k1
  ·rename_i e
   subst e
   simp only[qGN,if_true]at hbi
   exact hnd'.2.2 b hbi b hb rfl
  ·rename_i e
   simp only[qGN,if_neg e]at hbi
   exact e (R.disj i id ρ' _ b ⟨k1,k2⟩ hl hbi (by rw[hfp];exact List.mem_append_right _ hb))) hnd'.2.1 hlimb
 exact⟨xv,hxl,Z,_,_,R2⟩
theorem AW.raw {c:Code} {Q:Exit→St→Prop} (id id2:Nat) {α:Type} {l:List α} {f:α→List D} (hg:get σ.h id=some (.row 2 (l.map f))) (hid:get σ.h id2=none)
  (h:∀xv:List V2,xv.length=l.length→AW P c Q { σ with h:=(id2,.limb (l.map f).flatten (qIN xv))::(id,.row 2 (xv.map qMu))::σ.h }):AW P c Q σ:=fun E a w R =>
 let ⟨xv,h1,h2⟩:=RelX.raw id id2 hg hid R
 h xv h1 E a w h2
theorem AO.raw {ops:Array Oper} {rest:List Oper} {Q:Exit→St→Prop} (id id2:Nat) {α:Type} {l:List α} {f:α→List D} (hg:get σ.h id=some (.row 2 (l.map f))) (hid:get σ.h id2=none)
  (h:∀xv:List V2,xv.length=l.length→AO P ops rest Q { σ with h:=(id2,.limb (l.map f).flatten (qIN xv))::(id,.row 2 (xv.map qMu))::σ.h }):AO P ops rest Q σ:=fun k1 k2 E a w R =>
 let ⟨xv,h1,h2⟩:=RelX.raw id id2 hg hid R
 h xv h1 k1 k2 E a w h2
theorem Le.unraw (m id2:Nat) {α:Type} {l:List α} {f:α→List D} {xv:List V2} (hm:get σ.h m=some (.row 2 (xv.map qMu))) (h2:get σ.h id2=some (.limb (l.map f).flatten (qIN xv))) (hl:xv.length=l.length) (hf:∀y,(f y).length=2) (hne:Nat.beq m id2=false) :
  Le σ { σ with h:=(m,.row 2 (l.map f))::qEN [id2] σ.h }:=by
 have hne:m≠id2:=fun e=>by rw[e]at hne;simp at hne
 rintro E act w ⟨Z,loc,fps,R⟩
 have la:σ.live m _:=⟨hm,by simp⟩
 have l2:σ.live id2 _:=⟨h2,by simp⟩
 obtain⟨L,hL,e1,e2,e3,e4,h4⟩:=R.roots m _ la
 obtain⟨_,_,r2⟩:=R.roots id2 _ l2
 have n2:=R.nodup id2 _ l2
 have r2:ARL w Z qAa (fps id2) (l.map f).flatten (qIN xv):=r2
 have hsz:∀y∈l.map f,y.length=2:=by intro y hy;obtain⟨z,_,rfl⟩:=List.mem_map.1 hy;exact hf z
 have e3':(l.map f).length≤L.tot∧L.n=(l.map f).length:=by simpa [hl]using e3
 rcases h4 with⟨h4,h5⟩|⟨fpN,arr,el,e5,h5,h6,h7⟩
 ·have hx:l=[]:=List.eq_nil_of_length_eq_zero (by have:=e3'.1;simp at this;omega)
  subst hx
  exact⟨Z,_,_,Rel.setRoot (ks:=[id2]) (id0:=m) (L0:=L) (fp0:=[]) R (Nat.le_refl _) (fun _ _ _=>rfl) (fun _ _=>rfl) rfl rfl ⟨rfl,Nat.le_refl _⟩ (by simp) (by simp) (.inr hL) (fun _ h=>h) (fun _ h=>.inl h) ⟨e1,by simp,by simpa using e3',e4,.inl ⟨h4,rfl⟩⟩⟩
 have hseg:=qTX _ h7
 have nd:=R.nodup m _ la
 rw[e5]at nd
 refine⟨Z,_,_,Rel.setRoot (ks:=[id2]) (id0:=m) (L0:=L) (fp0:=L.b::fps id2) R (Nat.le_refl _) (fun _ _ _=>rfl) (fun _ _=>rfl) rfl rfl ⟨rfl,Nat.le_refl _⟩ ?_ ?_ (.inr hL) (fun _ h=>h) (fun _ h=>.inl h) ?_⟩
 ·intro b hb
  have:∃id ρ,(id=m∨id∈[id2])∧σ.live id ρ∧b∈fps id:=by
   rcases List.mem_cons.1 hb with rfl|hb
   ·exact⟨m,_,.inl rfl,la,by rw[e5];simp⟩
   ·exact⟨id2,_,.inr (by simp),l2,hb⟩
  obtain⟨id,ρ,k1,k2,k3⟩:=this
  exact⟨(R.owned id ρ b k2 k3).2.1,.inr ⟨id,ρ,k1,k2,k3⟩⟩
 ·exact List.nodup_cons.2 ⟨fun hb=>hne (R.disj m id2 _ _ _ la l2 (by rw[e5];simp) hb),n2⟩
 ·refine⟨e1,hsz,e3',e4,.inr ⟨fps id2,arr,el,rfl,h5,h6,?_⟩⟩
  rw[List.length_map,hl]at hseg
  rw[List.length_map,hseg]
  exact r2
theorem Le.limbs (id2 id3:Nat) {ds es:List D} {vs us:List Value} (h2:get σ.h id2=some (.limb ds vs)) (h3:get σ.h id3=some (.limb es us)) (hne:Nat.beq id2 id3=false) :
  Le σ { σ with h:=(id2,.limb (ds++es) (vs++us))::qEN [id3] σ.h }:=by
 have hne:id2≠id3:=fun e=>by rw[e]at hne;simp at hne
 rintro E act w ⟨Z,loc,fps,R⟩
 have l2:σ.live id2 _:=⟨h2,by simp⟩
 have l3:σ.live id3 _:=⟨h3,by simp⟩
 obtain⟨L,hL,r2⟩:=R.roots id2 _ l2
 obtain⟨_,_,r3⟩:=R.roots id3 _ l3
 refine⟨Z,_,_,Rel.setRoot (ks:=[id3]) (id0:=id2) (L0:=L) (fp0:=fps id2++fps id3) R (Nat.le_refl _) (fun _ _ _=>rfl) (fun _ _=>rfl) rfl rfl ⟨rfl,Nat.le_refl _⟩ ?_ ?_ (.inr hL) (fun _ h=>h) (fun _ h=>.inl h) (ARL.append r2 r3)⟩
 ·intro b hb
  rcases List.mem_append.1 hb with h|h
  ·exact⟨(R.owned id2 _ b l2 h).2.1,.inr ⟨id2,_,.inl rfl,l2,h⟩⟩
  ·exact⟨(R.owned id3 _ b l3 h).2.1,.inr ⟨id3,_,.inr (by simp),l3,h⟩⟩
 ·exact List.nodup_append.2 ⟨R.nodup id2 _ l2,R.nodup id3 _ l3,fun b hb b' hb' e=>by subst e;exact hne (R.disj id2 id3 _ _ b l2 l3 hb hb')⟩
theorem Le.unraws (m id2 id3:Nat) {α:Type} {l l':List α} {f:α→List D} {xv qv:List V2} (hm:get σ.h m=some (.row 2 ((xv++qv).map qMu))) (h2:get σ.h id2=some (.limb (l.map f).flatten (qIN xv))) (h3:get σ.h id3=some (.limb (l'.map f).flatten (qIN qv))) (hl:xv.length=l.length) (hl':qv.length=l'.length) (hf:∀y,(f y).length=2)
  (hne:Nat.beq id2 id3=false) (hne2:Nat.beq m id2=false) (hne3:Nat.beq m id3=false):Le σ { σ with h:=(m,.row 2 ((l++l').map f))::qEN [id2,id3] σ.h }:=by
 have n2:m≠id2:=fun e=>by rw[e]at hne2;simp at hne2
 have n3:m≠id3:=fun e=>by rw[e]at hne3;simp at hne3
 refine Le.trans (Le.limbs id2 id3 h2 h3 hne) (Le.trans (Le.unraw m id2 (l:=l++l') (xv:=xv++qv) (f:=f) ?_ ?_ (by simp[hl,hl']) hf hne2) (Le.congr (fun _=>rfl) (fun i=>?_) rfl rfl))
 ·show get ((id2,_)::qEN [id3] σ.h) m=_
  rw[qAQ,if_neg n2,qGh,if_neg (by simpa using n3)];exact hm
 ·show get ((id2,_)::qEN [id3] σ.h) id2=_
  rw[qAQ,if_pos rfl,qQ4,List.map_append,List.flatten_append]
 ·show get ((m,_)::qEN [id2] ((id2,_)::qEN [id3] σ.h)) i=get ((m,_)::qEN [id2,id3] σ.h) i
  rw[qAQ,qAQ]
  split
  ·rfl
  ·rw[qGh,qGh,qAQ,qGh]
   by_cases e2:i=id2
   ·simp[e2]
   ·by_cases e3:i=id3<;>simp[e2,e3]
theorem qSo {o:Oper} {f:FuncId} {callee:Operand} {args:Array Operand} {ts:Array TypeId} {m id2 id3:Nat} {ds es:List D} {vs us:List Value} {rv:List V2} {α:Type} {l:List α} {g:α→List D} {x:Value} (ho:o.op=.call { callee:=.value callee,args:=args,argTypes:=ts })
  (hc:σ.ev callee=some (.f f [])) (ha:evs σ args.toList=some [.R m]) (hm:get σ.h m=some (.row 2 (rv.map qMu))) (h2:get σ.h id2=some (.limb ds vs)) (h3:get σ.h id3=some (.limb es us)) (he:qIN rv=vs++us) (hlen:rv.length=l.length) (hf:FrzL (ds++es) (l.map g).flatten) (hg:∀y,(g y).length=2)
  (S:qAC P f [.s (l.map g)] (.v x)) (hd:qBI σ o=true):qJX P σ o (σ.put o.dst (.v x)):=by
 rintro E a w ⟨Z,loc,fps,R⟩
 have hcv:=R.ev hc
 generalize hav:a.eval callee=cv at hcv
 cases hcv with
 | @f _ _ _ _ arr hcaps =>
  have hc0:arr.toList=[]:=by have:=hcaps.length;exact List.eq_nil_of_length_eq_zero (by simpa using this.symm)
  unfold Oper.wp
  rw[qFU ho hav S.1]
  have hargs:=qHT R.toRelV ha
  obtain⟨v1,hv,h1⟩:∃v1,(args.map a.eval++arr).toList=[v1]∧AR w Z loc [] (.R m) v1:=by
   rw[Array.toList_append,hc0,List.append_nil,Array.toList_map]
   generalize args.toList.map a.eval=l at hargs
   cases hargs with
   |cons a1 a2=>cases a2 with|nil=>exact⟨_,rfl,a1⟩
  have hart:ART w (fun b=>b<w.heap.size) qAa [] [.s (l.map g)] (args.map a.eval++arr).toList:=by
   rw[hv]
   refine .cons (fp:=[]) (fp':=[]) ?_ .nil
   have la:σ.live m _:=⟨hm,by simp⟩
   have l2:σ.live id2 _:=⟨h2,by simp⟩
   have l3:σ.live id3 _:=⟨h3,by simp⟩
   obtain⟨L,hL,e1,e2,e3,e4,h4⟩:=R.roots m _ la
   obtain⟨_,_,r2⟩:=R.roots id2 _ l2
   obtain⟨_,_,r3⟩:=R.roots id3 _ l3
   have r23:ARL w Z qAa (fps id2++fps id3) (ds++es) (vs++us):=ARL.append r2 r3
   have hZ:∀b,Z b→b<w.heap.size:=R.zlt
   have hr:ARL w (fun b=>b<w.heap.size) qAa [] (l.map g).flatten (vs++us):=qMq (fun j d e hd he fp v h hb=>qTO hZ (hf.2 j d e hd he) h hb) hf.1 r23 (fun b hb=>by
    rcases List.mem_append.1 hb with h|h
    ·exact(R.owned id2 _ b l2 h).2.1
    ·exact(R.owned id3 _ b l3 h).2.1)
   have hsz:∀y∈l.map g,y.length=2:=by intro y hy;obtain⟨z,_,rfl⟩:=List.mem_map.1 hy;exact hg z
   have el:L.n=(l.map g).length:=by rw[List.length_map,←hlen];simpa using e3.2
   cases h1 with
   | @R _ _ L' a' g1 g2 g3 g4 =>
    rw[hL]at g1
    obtain rfl:=(Option.some.inj g1).symm
    rcases h4 with⟨h4,_⟩|⟨fpN,arr',el',e5,h5,h6,h7⟩
    ·have hx:l=[]:=List.eq_nil_of_length_eq_zero (by have:=e3.1;simp at this;omega)
     subst hx
     rw[el]
     exact .s0
    ·have hseg:=qTX _ h7
     rcases g4 with g4|g4
     ·have hx:l=[]:=List.eq_nil_of_length_eq_zero (by have:=e3.1;simp at this;omega)
      subst hx
      rw[el]
      exact .s0
     ·subst g4
      rw[el]
      refine .s (R.owned m _ L'.b la (by rw[e5];simp)).2.1 h5 hsz (by rw[←el];exact g2) g3 ?_
      rw[List.length_map]at hseg
      rw[List.length_map,←hlen,hseg,he]
      exact hr
  refine Calls.mono (S.2 w _ _ hart (fun _ h=>h) R.glob.all) ?_
  rintro e w' ⟨v,Z',fpr,rfl,X,hr,hnd,hfp,hz⟩
  have:=R.after (k:=0) (Zc:=fun b=>b<w.heap.size) X hr hnd hfp hz (.inr (qAc x)) (fun i hi hi'=>by simp[qIg,qNq,qMP]at hi') rfl (dst:=o.dst) (qAm hd)
  exact this
end
end Go.AM
end
section
namespace Go.AM
section
variable {P:Program} {Q:Exit→St→Prop} {σ:St} {ops:Array Oper} {o:Oper} {rest:List Oper} {te:TE}
theorem ixa (T:qGk P te) {t e:Nat} {s b z} {ti:TI} {x i:Operand} {k:IntKind} {n:Int} {α:Type} {l:List α} {f:α→List D} {y:α} (ho:o.op=.indexAddr t x i:=by exact rfl) (ht:te t=some ⟨.slice e,s,b,z⟩:=by exact rfl) (hte:te e=some ti:=by exact rfl)
  (hx:σ.ev x=some (.s (l.map f)):=by exact rfl) (hi:σ.ev i=some (.v (.int k n)):=by exact rfl) (hg:qAV l n=some y:=by first|assumption|exact zgD (by assumption)) (hsz:(f y).length=ti.size:=by exact rfl):OpV P σ o (.q (f y)):=zX T ho ht hte hx hi hg hsz
theorem ixb (T:qGk P te) {t e:Nat} {s b z} {ti:TI} {x i:Operand} {k:IntKind} {n:Int} {id:Nat} {α:Type} {l:List α} {f:α→List D} {y:α} (ho:o.op=.indexAddr t x i:=by exact rfl) (ht:te t=some ⟨.slice e,s,b,z⟩:=by exact rfl) (hte:te e=some ti:=by exact rfl)
  (hx:σ.ev x=some (.R id):=by exact rfl) (hi:σ.ev i=some (.v (.int k n)):=by exact rfl) (hg:get σ.h id=some (.row ti.size (l.map f)):=by exact rfl) (hn:qAV l n=some y:=by first|assumption|exact zgD (by assumption)):OpV P σ o (.e id n.toNat 0):=zXr T ho ht hte hx hi hg hn
theorem inc {x y:Operand} {t u:Nat} {k n:Nat} (ho:o.op=.binOp .add t x y u:=by exact rfl) (hx:σ.ev x=some (.v (.int .i64 (k:Int))):=by exact rfl) (hy:σ.ev y=some (.v (.int .i64 1)):=by exact rfl) (h:k<n:=by assumption) (hn:n≤qEO:=by assumption):OpV P σ o (.v (.int .i64 ((k:Int)+1))) :=
 zR ho hx hy rfl (zK h hn)
theorem rgT {c:Operand} {x y:Code} {k n:Nat} (h1:AW P x Q σ) (hc:σ.ev c=some (.v (.bool (decide ((k:Int)<(n:Int))))):=by exact rfl) (h:k<n:=by assumption):AW P (.cond c x y) Q σ:=AW.condT' hc (qY5 h) h1
theorem rgF {c:Operand} {x y:Code} {k n:Nat} (h1:AW P y Q σ) (hc:σ.ev c=some (.v (.bool (decide ((k:Int)<(n:Int))))):=by exact rfl) (h:n≤k:=by assumption):AW P (.cond c x y) Q σ:=AW.condF' hc (qY1 h) h1
theorem AO.g0 (T:qGk P te) {g:Bool} {d:D} (hr:AO P ops rest Q (σ.put o.dst (.c g d))) (hg:σ.gval ops o=some g:=by exact rfl) (hd:qBI σ o=true:=by exact rfl) (h:qLd te (σ.unc []) o.op=some d:=by exact rfl):AO P ops (o::rest) Q σ:=AO.g T [] hg trivial hd h hr
theorem AO.g1 (T:qGk P te) (k:Nat) {g:Bool} {d:D} (hr:AO P ops rest Q (σ.put o.dst (.c g d))) (hg:σ.gval ops o=some g:=by exact rfl) (hc:qIC σ g [k]:=by exact⟨fun h=>h,trivial⟩) (hd:qBI σ o=true:=by exact rfl) (h:qLd te (σ.unc [k]) o.op=some d:=by exact rfl):AO P ops (o::rest) Q σ:=AO.g T [k] hg hc hd h hr
theorem AO.g2 (T:qGk P te) (j k:Nat) {g:Bool} {d:D} (hr:AO P ops rest Q (σ.put o.dst (.c g d))) (hg:σ.gval ops o=some g:=by exact rfl) (hc:qIC σ g [j,k]:=by exact⟨fun h=>h,fun h=>h,trivial⟩) (hd:qBI σ o=true:=by exact rfl) (h:qLd te (σ.unc [j,k]) o.op=some d:=by exact rfl):AO P ops (o::rest) Q σ:=AO.g T [j,k] hg hc hd h hr
theorem AO.d1 (k:Nat) {g:Bool} {d:D} (hop:g=true→OpV P (σ.unc [k]) o d) (hr:AO P ops rest Q (σ.put o.dst (.c g d))) (hg:σ.gval ops o=some g:=by exact rfl) (hc:qIC σ g [k]:=by exact⟨fun h=>h,trivial⟩) (hd:qBI σ o=true:=by exact rfl):AO P ops (o::rest) Q σ:=AO.d [k] hg hc hop hd hr
theorem AO.d2 (j k:Nat) {g:Bool} {d:D} (hop:g=true→OpV P (σ.unc [j,k]) o d) (hr:AO P ops rest Q (σ.put o.dst (.c g d))) (hg:σ.gval ops o=some g:=by exact rfl) (hc:qIC σ g [j,k]:=by exact⟨fun h=>h,fun h=>h,trivial⟩) (hd:qBI σ o=true:=by exact rfl):AO P ops (o::rest) Q σ:=AO.d [j,k] hg hc hop hd hr
theorem qCC {k n:Nat} (h:k<n):n-(k+1)<n-k:=by omega
theorem AW.cH {α:Type} {c:Operand} {x y:Code} {b:Bool} {A B r:α} (hH:_root_.cond b A B=r) (h1:b=true→A=r→AW P x Q σ) (h2:b=false→B=r→AW P y Q σ) (hc:σ.ev c=some (.v (.bool b)):=by exact rfl):AW P (.cond c x y) Q σ :=
 AW.c hc (fun h=>h1 h (Go.AM.condT h hH)) (fun h=>h2 h (Go.AM.condF h hH))
end
abbrev sv {α:Type} (f:α→List D) (l:List α):D:=.s (l.map f)
abbrev ro {α:Type} (n:Nat) (f:α→List D) (l:List α):Root:=.row n (l.map f)
theorem qAI {α β γ:Type} {o:Option α} {f:α→Option β} {g:α→β→Option γ} {r:γ} (h:o.bind (fun x=>(f x).bind (g x))=some r):∃x,o=some x∧∃y,f x=some y∧g x y=some r:=by
 obtain⟨x,h1,h⟩:=zB h
 obtain⟨y,h2,h⟩:=zB h
 exact⟨x,h1,y,h2,h⟩
theorem qBB {α β γ δ:Type} {o:Option α} {f:α→Option β} {g:α→β→Option γ} {k:α→β→γ→Option δ} {r:δ} (h:o.bind (fun x=>(f x).bind fun y=>(g x y).bind (k x y))=some r):∃x,o=some x∧∃y,f x=some y∧∃z,g x y=some z∧k x y z=some r:=by
 obtain⟨x,h1,h⟩:=zB h
 obtain⟨y,h2,z,h3,h⟩:=qAI h
 exact⟨x,h1,y,h2,z,h3,h⟩
structure Hid (R:Prop):Prop where
 h:R
theorem go {G R:Prop} (h:R) (f:Hid R→G:=by
 intro hgo
 repeat (first
  |refine AO.w (qLn T) ?_
  |refine AO.w (qV6 T) ?_
  |refine AO.pu T ?_
  |refine AO.n ?_
  |refine AW.q ?_
  |refine AW.r ?_
  |refine AO.w inc ?_
  |refine AO.w aws ?_
  |refine AO.w (ixa T) ?_
  |refine AW.b ?_
  |refine AW.k ?_
  |refine AW.exit ?_
  |refine rgT ?_
  |refine rgF ?_
  |refine AO.w (ixb T) ?_
  |refine AO.w qYY ?_
  |refine AO.w ors ?_
  |refine AW.t ?_
  |refine AD.vv (qLn T) ?_
  |refine AD.vv (qV6 T) ?_
  |refine AD.pu T ?_
  |refine AD.vv (ixa T) ?_
  |refine AD.nil ?_)
 exact Hid.h hgo):G:=f ⟨h⟩
theorem gs {G R:Prop} (h:R) (f:Hid R→G:=by
 intro hgo
 first
  |refine AO.w (qLn T) ?_
  |refine AO.w (qV6 T) ?_
  |refine AO.pu T ?_
  |refine AO.n ?_
  |refine AW.q ?_
  |refine AW.r ?_
  |refine AO.w inc ?_
  |refine AO.w aws ?_
  |refine AO.w (ixa T) ?_
  |refine AW.b ?_
  |refine AW.k ?_
  |refine AW.exit ?_
  |refine rgT ?_
  |refine rgF ?_
  |refine AO.w (ixb T) ?_
  |refine AO.w qYY ?_
  |refine AO.w ors ?_
  |refine AW.t ?_
  |refine AD.vv (qLn T) ?_
  |refine AD.vv (qV6 T) ?_
  |refine AD.pu T ?_
  |refine AD.vv (ixa T) ?_
  |refine AD.nil ?_
 exact Hid.h hgo):G:=f ⟨h⟩
theorem fin {G:Prop} (h:G:=by
  have hR:=zS hH
  subst hR
  first
    |exact⟨trivial,_,_,rfl,by exact .c (.c .v),by decide⟩
    |exact⟨trivial,_,_,rfl,by exact .c (.c (.rowR rfl)),by decide⟩
    |exact⟨trivial,_,_,rfl,by exact .c (.c .s),by decide⟩
    |exact⟨trivial,_,_,rfl,by
        first
          | (apply ExpT.t
             repeat (first|exact zGn|apply zG (.c .v)|apply zG (.c .nil)|apply zG (.c .nilS)|apply zG (.c .s)|apply zG (.c (.rowR rfl))|apply zG (.g (by repeat (first|exact zCn|apply zC .v|apply zC .s|apply zC .nilS|apply zC .nil|apply zC (.rowR rfl))))))
          | (apply ExpT.c;apply ExpG.g
             repeat (first|exact zCn|apply zC .v|apply zC .s|apply zC .nilS|apply zC .nil|apply zC (.rowR rfl))),by decide⟩):G:=h
theorem qEW {G:Prop} (h:G:=by
 have hR:=zS hH
 subst hR
 exact⟨trivial,rfl,_,_,_,rfl,by repeat (first|exact zGn|apply zG (.c .u)|apply zG (.c (.box rfl rfl))|apply zG (.pb rfl (qA3 rfl rfl))|apply zG (.pb rfl (qAJ rfl rfl rfl))|apply zG (.pb rfl (qAJ rfl rfl))|apply zG (.pb rfl (qAJ rfl))|apply zG (.c (.rowR rfl))|apply zG (.g (by repeat (first|exact zCn|apply zC .u|apply zC (.rowR rfl))))),by exact .c (.c .v),by decide⟩):G:=h
theorem gs2 {G R:Prop} (h:R) (f:Hid R→G:=by intro hgo; refine gs ?_; refine gs ?_; exact Hid.h hgo):G:=f ⟨h⟩
theorem gs3 {G R:Prop} (h:R) (f:Hid R→G:=by intro hgo; refine gs2 ?_; refine gs ?_; exact Hid.h hgo):G:=f ⟨h⟩
theorem gs4 {G R:Prop} (h:R) (f:Hid R→G:=by intro hgo; refine gs3 ?_; refine gs ?_; exact Hid.h hgo):G:=f ⟨h⟩
theorem gs5 {G R:Prop} (h:R) (f:Hid R→G:=by intro hgo; refine gs4 ?_; refine gs ?_; exact Hid.h hgo):G:=f ⟨h⟩
theorem gs6 {G R:Prop} (h:R) (f:Hid R→G:=by intro hgo; refine gs5 ?_; refine gs ?_; exact Hid.h hgo):G:=f ⟨h⟩
theorem gs7 {G R:Prop} (h:R) (f:Hid R→G:=by intro hgo; refine gs6 ?_; refine gs ?_; exact Hid.h hgo):G:=f ⟨h⟩
theorem gs8 {G R:Prop} (h:R) (f:Hid R→G:=by intro hgo; refine gs7 ?_; refine gs ?_; exact Hid.h hgo):G:=f ⟨h⟩
theorem gs9 {G R:Prop} (h:R) (f:Hid R→G:=by intro hgo; refine gs8 ?_; refine gs ?_; exact Hid.h hgo):G:=f ⟨h⟩
end Go.AM
end

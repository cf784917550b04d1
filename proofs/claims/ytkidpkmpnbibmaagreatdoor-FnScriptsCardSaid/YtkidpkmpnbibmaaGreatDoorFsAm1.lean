/- A part of my own walk library: how the model runs a function, told over abstract values. It states no law of the program; no condition. -/
import Derived.Calls
import Derived.Orders
import Derived.Laws.Cells
import Derived.Laws.CopyRow
import Derived.Laws.AppendOwn
import Derived.Laws.Strings
import Derived.Lib.LaidTab
import Derived.Lib.ItoaNum
import Derived.Laws.Entries
import Derived.IntWalk
set_option linter.unusedSimpArgs false
set_option linter.unusedVariables false
set_option linter.unusedSectionVars false
section
namespace Go.AM
universe u
theorem dF {p:Prop} [Decidable p] (h:¬p):decide p=false:=decide_eq_false h
theorem dT {p:Prop} [Decidable p] (h:p):decide p=true:=decide_eq_true h
theorem cF {α:Type u} (a b:α):cond false a b=b:=rfl
theorem cW {α:Type u} (a b:α):cond true a b=a:=rfl
def GN:Nat:=6
def qVr:Array Value:=((List.range 20).map fun i=>Value.int .u64 ((10 ^ i:Nat):Int)).toArray
def GP (h:Nat->Option Obj):Prop:=(∃(w:Go.World) (m:Int),w.cell? ⟨2,0,none⟩=some (.int .i64 m)/\w.heap[2]?=h 2)/\∃el fz,h 5=some (.cells qVr el fz)
def GV (n:Nat):Option (List Value):=bif Nat.beq n 0 then some [.string ⟨#[110,111,110,101]⟩,.string ⟨#[100,111,119,110]⟩,.string ⟨#[101,100,103,101]⟩,.string ⟨#[118,111,105,100]⟩]
 else bif Nat.beq n 1 then some [.string ⟨#[]⟩,.string ⟨#[60]⟩,.string ⟨#[101]⟩,.string ⟨#[42]⟩] else none
end Go.AM
end
section
namespace Go.AM
structure Loc where
 b:Nat
 base:Nat
 sz:Nat
 tot:Nat
 n:Nat
inductive D where
 |u
 |v (x:Value)
 |s (xs:List (List D))
 |w (sz:Nat) (xs:List (List D))
 |r (id lo n:Nat)
 |R (id:Nat)
 |p (id off:Nat)
 |e (id i k:Nat)
 |q (cs:List D)
 |pw (cs:List D)
 |g (ds:List D)
 |t (ds:List D)
 |f (fn:Nat) (caps:List D)
 |c (b:Bool) (d:D)
 |m (id:Nat)
 |mw (es:List (Value×Value))
 |pn (cs:List D)
 |mi (es:List (Value×Value))
 deriving Inhabited
def qDF:Nat:=9223372036854775807
def qAi:Nat->Option Loc:=fun _=>none
mutual
inductive AR (w:World) (Z:Nat->Prop):(Nat->Option Loc)->List Nat->D->Value->Prop
 |u {loc x}:AR w Z loc [] .u x
 |v {loc x}:AR w Z loc [] (.v x) x
 |s0 {loc a c}:AR w Z loc [] (.s []) (.slice a 0 c)
 |s {loc xs b off sz arr el fz cap}:Z b->w.heap[b]?=some (.cells arr el fz)->(∀x∈xs,x.length=sz)->xs.length<=cap->cap<=qDF->
   ARL w Z qAi [] xs.flatten ((arr.toList.drop off).take (xs.length*sz))->AR w Z loc [] (.s xs) (.slice (some ⟨b,off,none⟩) xs.length cap)
 |w0 {loc sz a}:AR w Z loc [] (.w sz []) (.slice a 0 0)
 |w {loc fp xs b off sz arr el cap}:w.heap[b]?=some (.cells arr el (0,0))->(∀x∈xs,x.length=sz)->xs.length<=cap->cap<=qDF->
   off+cap*sz<=arr.size->ARL w Z qAi fp xs.flatten ((arr.toList.drop off).take (xs.length*sz))->
   AR w Z loc (b::fp) (.w sz xs) (.slice (some ⟨b,off,none⟩) xs.length cap)
 |r {loc id lo n L cap a}:loc id=some L->n<=cap->lo+cap<=L.tot->cap<=qDF->(cap=0\/a=some ⟨L.b,L.base+lo*L.sz,none⟩)->
   AR w Z loc [] (.r id lo n) (.slice a n cap)
 |R {loc id L a}:loc id=some L->L.n<=L.tot->L.tot<=qDF->(L.tot=0\/a=some ⟨L.b,L.base,none⟩)->AR w Z loc [] (.R id) (.slice a L.n L.tot)
 |p {loc id off L}:loc id=some L->AR w Z loc [] (.p id off) (.pointer (some ⟨L.b,L.base+off,none⟩))
 |e {loc id i k L}:loc id=some L->AR w Z loc [] (.e id i k) (.pointer (some ⟨L.b,L.base+i*L.sz+k,none⟩))
 |q {loc cs b off arr el fz}:Z b->w.heap[b]?=some (.cells arr el fz)->ARL w Z qAi [] cs ((arr.toList.drop off).take cs.length)->
   AR w Z loc [] (.q cs) (.pointer (some ⟨b,off,none⟩))
 |pw {loc fp cs b arr el}:w.heap[b]?=some (.cells arr el (0,0))->ARL w Z qAi fp cs arr.toList->AR w Z loc (b::fp) (.pw cs) (.pointer (some ⟨b,0,none⟩))
 |g {loc fp ds arr}:ARL w Z loc fp ds arr.toList->AR w Z loc fp (.g ds) (.agg arr)
 |t {loc fp ds arr}:ART w Z loc fp ds arr.toList->AR w Z loc fp (.t ds) (.tuple arr)
 |f {loc fp fn caps arr}:ARL w Z loc fp caps arr.toList->AR w Z loc fp (.f fn caps) (.func (.func fn) #[] arr)
 |c {loc b d v}:(b=true->AR w Z loc [] d v)->(b=false->v=undef)->AR w Z loc [] (.c b d) v
 |m {loc id L}:loc id=some L->AR w Z loc [] (.m id) (.map (some L.b))
 |mw {loc es b entries clock}:w.heap[b]?=some (.map entries clock)->entries.toList.map (fun e=>(e.key,e.val))=es->AR w Z loc [b] (.mw es) (.map (some b))
 |pn {loc fp cs b arr el}:w.heap[b]?=some (.cells arr el (0,0))->ARL w Z qAi fp cs arr.toList->AR w Z loc (b::fp) (.pn cs) (.pointer (some ⟨b,0,none⟩))
 |mi {loc es b entries clock}:Z b->w.heap[b]?=some (.map entries clock)->entries.toList.map (fun e=>(e.key,e.val))=es->AR w Z loc [] (.mi es) (.map (some b))
inductive ARL (w:World) (Z:Nat->Prop):(Nat->Option Loc)->List Nat->List D->List Value->Prop
 |nil {loc}:ARL w Z loc [] [] []
 |cons {loc fp fp' d v ds vs}:v.oneCell'=true->AR w Z loc fp d v->ARL w Z loc fp' ds vs->ARL w Z loc (fp++fp') (d::ds) (v::vs)
inductive ART (w:World) (Z:Nat->Prop):(Nat->Option Loc)->List Nat->List D->List Value->Prop
 |nil {loc}:ART w Z loc [] [] []
 |cons {loc fp fp' d v ds vs}:AR w Z loc fp d v->ART w Z loc fp' ds vs->ART w Z loc (fp++fp') (d::ds) (v::vs)
end
section mono
variable {w w':World} {Z Z':Nat->Prop}
def qXT (w w':World) (Z Z':Nat->Prop) (loc:Nat->Option Loc) (fp:List Nat) (d:D) (v:Value):Prop :=
 ∀loc',(∀id L,loc id=some L->loc' id=some L)->(∀b,Z b\/b∈fp->w'.heap[b]?=w.heap[b]?)->AR w' Z' loc' fp d v
def qU9 (w w':World) (Z Z':Nat->Prop) (loc:Nat->Option Loc) (fp:List Nat) (d:List D) (v:List Value):Prop :=
 ∀loc',(∀id L,loc id=some L->loc' id=some L)->(∀b,Z b\/b∈fp->w'.heap[b]?=w.heap[b]?)->ARL w' Z' loc' fp d v
def qYb (w w':World) (Z Z':Nat->Prop) (loc:Nat->Option Loc) (fp:List Nat) (d:List D) (v:List Value):Prop :=
 ∀loc',(∀id L,loc id=some L->loc' id=some L)->(∀b,Z b\/b∈fp->w'.heap[b]?=w.heap[b]?)->ART w' Z' loc' fp d v
theorem qTG {loc}:qU9 w w' Z Z' loc [] [] []:=fun _ _ _=>.nil
theorem qUH {loc fp fp' d v ds vs} (h1:qXT w w' Z Z' loc fp d v) (h2:qYb w w' Z Z' loc fp' ds vs):qYb w w' Z Z' loc (fp++fp') (d::ds) (v::vs) :=
 fun loc' hl hw=>.cons (h1 loc' hl (fun b hb=>hw b (hb.imp id (List.mem_append_left _)))) (h2 loc' hl (fun b hb=>hw b (hb.imp id (List.mem_append_right _))))
theorem qR6 {loc fp fp' d v ds vs} (h0:v.oneCell'=true) (h1:qXT w w' Z Z' loc fp d v) (h2:qU9 w w' Z Z' loc fp' ds vs):qU9 w w' Z Z' loc (fp++fp') (d::ds) (v::vs) :=
 fun loc' hl hw=>.cons h0 (h1 loc' hl (fun b hb=>hw b (hb.imp id (List.mem_append_left _)))) (h2 loc' hl (fun b hb=>hw b (hb.imp id (List.mem_append_right _))))
theorem AR.monoA (hZ:∀b,Z b->Z' b) {loc fp d v} (h:AR w Z loc fp d v):qXT w w' Z Z' loc fp d v:=by
 refine AR.rec (motive_1:=fun loc fp d v _=>qXT w w' Z Z' loc fp d v) (motive_2:=fun loc fp d v _=>qU9 w w' Z Z' loc fp d v) (motive_3:=fun loc fp d v _=>qYb w w' Z Z' loc fp d v)
  ?_ ?_ ?_ ?_ ?_ ?_ ?_ ?_ ?_ ?_ ?_ ?_ ?_ ?_ ?_ ?_ ?_ ?_ ?_ ?_ ?_ ?_ ?_ ?_ h
 ·exact fun _ _ _=>.u
 ·exact fun _ _ _=>.v
 ·exact fun _ _ _=>.s0
 ·exact fun h1 h2 h3 h4 h5 _ h6 loc' hl hw=>.s (hZ _ h1) ((hw _ (.inl h1)).trans h2) h3 h4 h5 (h6 _ (fun _ _ h=>h) hw)
 ·exact fun _ _ _=>.w0
 ·exact fun h2 h3 h4 h5 h6 _ h7 loc' hl hw=>.w ((hw _ (.inr (List.mem_cons_self ..))).trans h2) h3 h4 h5 h6 (h7 _ (fun _ _ h=>h) (fun b hb=>hw b (hb.imp id (List.mem_cons_of_mem _))))
 ·exact fun h1 h2 h3 h4 h5 loc' hl hw=>.r (hl _ _ h1) h2 h3 h4 h5
 ·exact fun h1 h2 h3 h4 loc' hl hw=>.R (hl _ _ h1) h2 h3 h4
 ·exact fun h1 loc' hl hw=>.p (hl _ _ h1)
 ·exact fun h1 loc' hl hw=>.e (hl _ _ h1)
 ·exact fun h1 h2 _ h3 loc' hl hw=>.q (hZ _ h1) ((hw _ (.inl h1)).trans h2) (h3 _ (fun _ _ h=>h) hw)
 ·exact fun h1 _ h2 loc' hl hw=>.pw ((hw _ (.inr (List.mem_cons_self ..))).trans h1) (h2 _ (fun _ _ h=>h) (fun b hb=>hw b (hb.imp id (List.mem_cons_of_mem _))))
 ·exact fun _ h1 loc' hl hw=>.g (h1 _ hl hw)
 ·exact fun _ h1 loc' hl hw=>.t (h1 _ hl hw)
 ·exact fun _ h1 loc' hl hw=>.f (h1 _ hl hw)
 ·exact fun _ h2 h1 loc' hl hw=>.c (fun e=>h1 e _ hl hw) h2
 ·exact fun h1 loc' hl hw=>.m (hl _ _ h1)
 ·exact fun h1 h2 loc' hl hw=>.mw ((hw _ (.inr (List.mem_cons_self ..))).trans h1) h2
 ·exact fun h1 _ h2 loc' hl hw=>.pn ((hw _ (.inr (List.mem_cons_self ..))).trans h1) (h2 _ (fun _ _ h=>h) (fun b hb=>hw b (hb.imp id (List.mem_cons_of_mem _))))
 ·exact fun h0 h1 h2 loc' hl hw=>.mi (hZ _ h0) ((hw _ (.inl h0)).trans h1) h2
 ·exact qTG
 ·exact fun h0 _ _ h1 h2=>qR6 h0 h1 h2
 ·exact fun _ _ _=>.nil
 ·exact fun _ _ h1 h2=>qUH h1 h2
theorem ARL.monoL (hZ:∀b,Z b->Z' b):∀{loc fp d v},ARL w Z loc fp d v->qU9 w w' Z Z' loc fp d v:=by
 intro loc fp d
 induction d generalizing fp with
 |nil=>intro v h;cases h;exact qTG
 |cons d ds ih=>intro v h;cases h with|cons h0 h1 h2=>exact qR6 h0 (AR.monoA hZ h1) (ih h2)
theorem AR.mono {loc loc':Nat->Option Loc} {fp:List Nat} {d:D} {v:Value} (h:AR w Z loc fp d v)
  (hZ:∀b,Z b->Z' b) (hl:∀id L,loc id=some L->loc' id=some L) (hw:∀b,Z b\/b∈fp->w'.heap[b]?=w.heap[b]?):AR w' Z' loc' fp d v :=
 AR.monoA hZ h loc' hl hw
theorem ARL.mono {loc loc':Nat->Option Loc} {fp:List Nat} {d:List D} {v:List Value} (h:ARL w Z loc fp d v)
  (hZ:∀b,Z b->Z' b) (hl:∀id L,loc id=some L->loc' id=some L) (hw:∀b,Z b\/b∈fp->w'.heap[b]?=w.heap[b]?):ARL w' Z' loc' fp d v :=
 ARL.monoL hZ h loc' hl hw
end mono
theorem ARL.length {w Z loc fp ds vs} (h:ARL w Z loc fp ds vs):ds.length=vs.length:=by
 induction ds generalizing fp vs with
 |nil=>cases h;rfl
 |cons d ds ih=>cases h with|cons h0 h1 h2=>simp[ih h2]
theorem ARL.append {w Z loc fp fp' ds ds' vs vs'} (h:ARL w Z loc fp ds vs) (h':ARL w Z loc fp' ds' vs'):ARL w Z loc (fp++fp') (ds++ds') (vs++vs'):=by
 induction ds generalizing fp vs with
 |nil=>cases h;simpa using h'
 |cons d ds ih=>cases h with|cons h0 h1 h2=>rw[List.append_assoc];exact .cons h0 h1 (ih h2)
theorem ARL.split {w Z loc fp ds ds' vs} (h:ARL w Z loc fp (ds++ds') vs):∃fp1 fp2 vs1 vs2,fp=fp1++fp2/\vs=vs1++vs2/\ARL w Z loc fp1 ds vs1/\ARL w Z loc fp2 ds' vs2:=by
 induction ds generalizing fp vs with
 |nil=>exact⟨[],fp,[],vs,rfl,rfl,.nil,h⟩
 |cons d ds ih =>
  cases h with
  |cons h0 h1 h2 =>
   obtain⟨fp1,fp2,vs1,vs2,rfl,rfl,h3,h4⟩:=ih h2
   exact⟨_++fp1,fp2,_::vs1,vs2,by simp,rfl,.cons h0 h1 h3,h4⟩
theorem ARL.get0 {w Z loc ds vs} {i:Nat} {d:D} (h:ARL w Z loc [] ds vs) (hi:ds[i]?=some d):∃v,vs[i]?=some v/\v.oneCell'=true/\AR w Z loc [] d v:=by
 generalize hfp:([]:List Nat)=fp at h
 induction ds generalizing fp vs i with
 |nil=>simp at hi
 |cons d' ds ih =>
  cases h with
  | @cons _ fp1 fp2 _ v _ vs h0 h1 h2 =>
   obtain⟨rfl,rfl⟩:fp1=[]/\fp2=[]:=List.append_eq_nil_iff.1 hfp.symm
   cases i with
   |zero=>simp at hi;subst hi;exact⟨v,rfl,h0,h1⟩
   |succ i=>simpa using ih (by simpa using hi) [] rfl h2
theorem ARL.of_get {w Z loc}:∀{ds:List D} {vs:List Value},ds.length=vs.length->(∀(i:Nat) (d:D) (v:Value),ds[i]?=some d->vs[i]?=some v->v.oneCell'=true/\AR w Z loc [] d v)->ARL w Z loc [] ds vs
 | [],[],_,_=>.nil
 |d::ds,v::vs,hl,h=>.cons (fp:=[]) (fp':=[]) (h 0 d v rfl rfl).1 (h 0 d v rfl rfl).2 (ARL.of_get (by simpa using hl) fun i d' v' h1 h2=>h (i+1) d' v' (by simpa using h1) (by simpa using h2))
theorem ARL.drop0 {w Z loc ds vs} (h:ARL w Z loc [] ds vs) (k:Nat):ARL w Z loc [] (ds.drop k) (vs.drop k) :=
 .of_get (by simp[h.length]) fun i d v h1 h2=>by
  rw[List.getElem?_drop]at h1 h2
  obtain⟨v',h3,h4⟩:=h.get0 h1
  rw[h3]at h2;cases h2;exact h4
theorem ARL.take0 {w Z loc ds vs} (h:ARL w Z loc [] ds vs) (k:Nat):ARL w Z loc [] (ds.take k) (vs.take k) :=
 .of_get (by simp[h.length]) fun i d v h1 h2=>by
  rw[List.getElem?_take]at h1 h2
  split at h1
  ·rename_i hk
   rw[if_pos hk]at h2
   obtain⟨v',h3,h4⟩:=h.get0 h1
   rw[h3]at h2;cases h2;exact h4
  ·simp at h1
inductive Root where
 |box (ds:List D)
 |row (sz:Nat) (xs:List (List D))
 |orow (sz:Nat) (xs:List (List D)) (i k id:Nat)
 |map (es:List (Value×Value))
 |limb (ds:List D) (vs:List Value)
 |bld (f:Bool) (T U:TypeId) (s:ByteArray)
 |dead
def get {α:Type}:List (Nat×α)->Nat->Option α
 | [],_=>none
 | (k,a)::l,n=>bif Nat.beq n k then some a else get l n
theorem qAa {α:Type} (k:Nat) (a:α) (l:List (Nat×α)) (n:Nat):get ((k,a)::l) n=if n=k then some a else get l n:=by
 show (bif Nat.beq n k then some a else get l n)=_
 cases h:Nat.beq n k
 ·have:n≠k:=fun e=>by subst e;simp at h
  simp[this]
 ·have:n=k:=Nat.eq_of_beq_eq_true h
  simp[this]
structure St where
 t:List (Nat×D)
 h:List (Nat×Root)
 nt:Nat
 g:List (Nat×Loc):=[]
def GlobW (w:World):Prop:=GN<=w.heap.size/\GP (fun b=>if b<GN then w.heap[b]? else none)/\∀n vs,GV n=some vs->n<GN/\∃arr el fz,w.heap[n]?=some (.cells arr el fz)/\arr.toList.take vs.length=vs/\vs.all Value.oneCell'=true
def qW9 (w:World) (Z:Nat->Prop):Prop:=GlobW w/\∀b,b<GN->Z b
theorem GlobW.all {w:World} (h:GlobW w):qW9 w (fun b=>b<w.heap.size):=⟨h,fun b hb=>Nat.lt_of_lt_of_le hb h.1⟩
theorem GlobW.same {w w':World} (h:GlobW w) (hs:w.heap.size<=w'.heap.size) (hb:∀b,b<GN->w'.heap[b]?=w.heap[b]?):GlobW w':=by
 refine⟨Nat.le_trans h.1 hs,?_,fun n vs hv=>?_⟩
 rotate_left
 ·obtain⟨h1,arr,el,fz,h2,h3⟩:=h.2.2 n vs hv
  exact⟨h1,arr,el,fz,by rw[hb n h1];exact h2,h3⟩
 have e:(fun b=>if b<GN then w'.heap[b]? else none)=(fun b=>if b<GN then w.heap[b]? else none):=by
  funext b;split
  ·rename_i hlt;exact hb b hlt
  ·rfl
 rw[e];exact h.2.1
structure Env where
 w0:World
 Z0:Nat->Prop
 own:List Nat
 glob:GlobW w0
 high:∀b∈own,GN<=b
 zg:∀b,b<GN->Z0 b
def RowU (w:World) (fp:List Nat) (U:TypeId) (v:Value) (l:List UInt8):Prop :=
 (fp=[]/\l=[]/\v=.slice none 0 0)\/∃g cap arr,fp=[g]/\0<cap/\v=.slice (some ⟨g,0,none⟩) l.length cap/\w.heap[g]?=some (.cells arr U (0,0))/\l.length<=cap/\cap<=9223372036854775807/\arr.size=cap/\arr.toList.take l.length=l.map fun x=>Value.int .u8 x.toNat
def BldR (w:World) (fp:List Nat) (b:Nat) (f:Bool) (T U:TypeId) (l:List UInt8):Prop :=
 ∃p v fr,(p=.pointer none\/p=.pointer (some ⟨b,0,none⟩))/\w.heap[b]?=some (.cells #[p,v] T (0,0))/\fp=b::fr/\RowU w fr U v l/\(f=true->p=.pointer none/\v=.slice none 0 0)
theorem RowU.same {w w':World} {fp:List Nat} {U:TypeId} {v:Value} {l:List UInt8} (h:RowU w fp U v l) (hw:∀k∈fp,w'.heap[k]?=w.heap[k]?):RowU w' fp U v l:=by
 rcases h with h|⟨g,cap,arr,e,q1,q2,q3,q4⟩
 ·exact .inl h
 ·exact .inr ⟨g,cap,arr,e,q1,q2,by rw[hw g (by rw[e];simp)];exact q3,q4⟩
theorem BldR.same {w w':World} {fp:List Nat} {b:Nat} {f:Bool} {T U:TypeId} {l:List UInt8} (h:BldR w fp b f T U l) (hw:∀k∈fp,w'.heap[k]?=w.heap[k]?):BldR w' fp b f T U l:=by
 obtain⟨p,v,fr,h1,h2,h3,h4,h5⟩:=h
 refine⟨p,v,fr,h1,?_,h3,h4.same fun k hk=>hw k (by rw[h3];exact List.mem_cons_of_mem _ hk),h5⟩
 rw[hw b (by rw[h3];simp)];exact h2
def RootRel (w:World) (Z:Nat->Prop) (loc:Nat->Option Loc) (fp:List Nat) (L:Loc):Root->Prop
 |.box ds=>L.base=0/\fp=[L.b]/\∃arr el,w.heap[L.b]?=some (.cells arr el (0,0))/\ARL w Z loc [] ds arr.toList
 |.row sz xs=>L.sz=sz/\(∀x∈xs,x.length=sz)/\(xs.length<=L.tot/\L.n=xs.length)/\L.tot<=qDF/\
   ((L.tot=0/\fp=[])\/∃fpN arr el,fp=L.b::fpN/\w.heap[L.b]?=some (.cells arr el (0,0))/\L.base+L.tot*sz<=arr.size/\
    ARL w Z qAi fpN xs.flatten ((arr.toList.drop L.base).take (xs.length*sz)))
 |.orow sz xs i k id=>L.sz=sz/\(∀x∈xs,x.length=sz)/\(xs.length<=L.tot/\L.n=xs.length)/\L.tot<=qDF/\
   ∃fpN arr el,fp=L.b::fpN/\w.heap[L.b]?=some (.cells arr el (0,0))/\L.base+L.tot*sz<=arr.size/\
    ∃L' a,loc id=some L'/\L'.n<=L'.tot/\L'.tot<=qDF/\(L'.tot=0\/a=some ⟨L'.b,L'.base,none⟩)/\i*sz+k<xs.length*sz/\
     ARL w Z qAi fpN (xs.flatten.set (i*sz+k) .u) ((arr.toList.drop L.base).take (xs.length*sz))/\arr[L.base+(i*sz+k)]?=some (.slice a L'.n L'.tot)
 |.map es=>L.base=0/\fp=[L.b]/\∃entries clock,w.heap[L.b]?=some (.map entries clock)/\entries.toList.map (fun e=>(e.key,e.val))=es
 |.limb ds vs=>ARL w Z qAi fp ds vs
 |.bld f T U s=>L.base=0/\BldR w fp L.b f T U s.data.toList
 |.dead=>True
def St.live (σ:St) (id:Nat) (ρ:Root):Prop:=get σ.h id=some ρ/\ρ≠.dead
structure RelV (E:Env) (σ:St) (a:Act) (w:World) (Z:Nat->Prop) (loc:Nat->Option Loc) (fps:Nat->List Nat):Prop where
 size:a.tmps.size=σ.nt
 defers:a.defers=[]
 temps:∀t d,get σ.t t=some d->∃v,a.tmps[t]?=some v/\AR w Z loc [] d v
 roots:∀id ρ,σ.live id ρ->∃L,loc id=some L/\RootRel w Z loc (fps id) L ρ
 nodup:∀id ρ,σ.live id ρ->(fps id).Nodup
 disj:∀i j ρ ρ' b,σ.live i ρ->σ.live j ρ'->b∈fps i->b∈fps j->i=j
 owned:∀i ρ b,σ.live i ρ->b∈fps i->¬Z b/\b<w.heap.size/\(E.w0.heap.size<=b\/b∈E.own)
 zlt:∀b,Z b->b<w.heap.size
 zsub:∀b,E.Z0 b->Z b
 znew:∀b,Z b->E.Z0 b\/E.w0.heap.size<=b\/b∈E.own
 frame:∀b,b<E.w0.heap.size->b∉E.own->w.heap[b]?=E.w0.heap[b]?
 grow:E.w0.heap.size<=w.heap.size
 shape:∀b,b<E.w0.heap.size->w.shape? b=E.w0.shape? b
 os:w.os=E.w0.os
 output:w.output=E.w0.output
 tape:w.tape=E.w0.tape/\E.w0.drawn<=w.drawn
theorem RelV.glob {E σ a w Z loc fps} (R:RelV E σ a w Z loc fps):GlobW w :=
 E.glob.same R.grow fun b hb=>R.frame b (Nat.lt_of_lt_of_le hb E.glob.1) fun h=>absurd (E.high b h) (Nat.not_le.2 hb)
theorem RelV.globZ {E σ a w Z loc fps} (R:RelV E σ a w Z loc fps):qW9 w Z:=⟨R.glob,fun b hb=>R.zsub b (E.zg b hb)⟩
theorem RelV.high {E σ a w Z loc fps} (_:RelV E σ a w Z loc fps) {b:Nat} (h:E.w0.heap.size<=b\/b∈E.own):GN<=b :=
 h.elim (fun h=>Nat.le_trans E.glob.1 h) (E.high b)
structure Rel (E:Env) (σ:St) (a:Act) (w:World) (Z:Nat->Prop) (loc:Nat->Option Loc) (fps:Nat->List Nat):Prop extends RelV E σ a w Z loc fps where
 fresh:∀id,get σ.h id=none->loc id=none
 pins:∀id L,get σ.g id=some L->loc id=some L
def qSg (E:Env) (σ:St) (a:Act) (w:World):Prop:=∃Z loc fps,Rel E σ a w Z loc fps
theorem qXB {a b c:World} (k:c.tape=b.tape/\b.drawn<=c.drawn) (h:b.tape=a.tape/\a.drawn<=b.drawn):c.tape=a.tape/\a.drawn<=c.drawn:=⟨k.1.trans h.1,Nat.le_trans h.2 k.2⟩
structure Ext (w w':World):Prop where
 size:w.heap.size<=w'.heap.size
 same:∀b,b<w.heap.size->w'.heap[b]?=w.heap[b]?
 os:w'.os=w.os
 output:w'.output=w.output
 tape:w'.tape=w.tape/\w.drawn<=w'.drawn
theorem Ext.refl (w:World):Ext w w:=⟨Nat.le_refl _,fun _ _=>rfl,rfl,rfl,rfl,Nat.le_refl _⟩
theorem Ext.trans {a b c:World} (h:Ext a b) (k:Ext b c):Ext a c :=
 ⟨Nat.le_trans h.size k.size,fun i hi=>(k.same i (Nat.lt_of_lt_of_le hi h.size)).trans (h.same i hi),k.os.trans h.os,k.output.trans h.output,qXB k.tape h.tape⟩
theorem Rel.ext {E σ a w Z loc fps w'} (R:Rel E σ a w Z loc fps) (X:Ext w w'):Rel E σ a w' Z loc fps where
 size:=R.size
 defers:=R.defers
 temps t d h:=by
  obtain⟨v,h1,h2⟩:=R.temps t d h
  exact⟨v,h1,h2.mono (fun _ h=>h) (fun _ _ h=>h) (fun b hb=>X.same b (hb.elim (R.zlt b) (fun h=>by simp at h)))⟩
 roots id ρ hl:=by
  obtain⟨L,h1,h2⟩:=R.roots id ρ hl
  refine⟨L,h1,?_⟩
  have ho:=fun b=>R.owned id ρ b hl
  cases ρ with
  |box ds =>
   obtain⟨e1,e2,arr,el,h3,h4⟩:=h2
   refine⟨e1,e2,arr,el,?_,h4.mono (fun _ h=>h) (fun _ _ h=>h) (fun b hb=>X.same b (hb.elim (R.zlt b) (fun h=>by simp at h)))⟩
   rw[X.same _ (ho _ (by rw[e2];simp)).2.1];exact h3
  |row sz xs =>
   obtain⟨e1,e2,e3,e4,h3⟩:=h2
   refine⟨e1,e2,e3,e4,h3.imp (fun h=>h) ?_⟩
   rintro⟨fpN,arr,el,e5,h4,h5,h6⟩
   refine⟨fpN,arr,el,e5,?_,h5,h6.mono (fun _ h=>h) (fun _ _ h=>h) (fun b hb=>X.same b (hb.elim (R.zlt b) (fun h=>?_)))⟩
   ·rw[X.same _ (ho _ (by rw[e5];simp)).2.1];exact h4
   ·exact(ho b (by rw[e5];exact List.mem_cons_of_mem _ h)).2.1
  |orow sz xs i k id =>
   obtain⟨e1,e2,e3,e4,fpN,arr,el,e5,h4,h5,L',a,q1,q2,q4,q5,q6,h6,q7⟩:=h2
   refine⟨e1,e2,e3,e4,fpN,arr,el,e5,?_,h5,L',a,q1,q2,q4,q5,q6,h6.mono (fun _ h=>h) (fun _ _ h=>h) (fun b hb=>X.same b (hb.elim (R.zlt b) (fun h=>?_))),q7⟩
   ·rw[X.same _ (ho _ (by rw[e5];simp)).2.1];exact h4
   ·exact(ho b (by rw[e5];exact List.mem_cons_of_mem _ h)).2.1
  |map es =>
   obtain⟨e1,e2,en,cl,h3,h4⟩:=h2
   refine⟨e1,e2,en,cl,?_,h4⟩
   rw[X.same _ (ho _ (by rw[e2];simp)).2.1];exact h3
  |limb ds vs=>exact ARL.mono h2 (fun _ h=>h) (fun _ _ h=>h) (fun b hb=>X.same b (hb.elim (R.zlt b) (fun h=>(ho b h).2.1)))
  |bld f T U l=>exact⟨h2.1,h2.2.same fun b hb=>X.same b (ho b hb).2.1⟩
  |dead=>trivial
 nodup:=R.nodup
 disj:=R.disj
 owned i ρ b hl hb:=let ⟨h1,h2,h3⟩:=R.owned i ρ b hl hb;⟨h1,Nat.lt_of_lt_of_le h2 X.size,h3⟩
 fresh:=R.fresh
 zlt b hb:=Nat.lt_of_lt_of_le (R.zlt b hb) X.size
 zsub:=R.zsub
 znew:=R.znew
 frame b hb hn:=(X.same b (Nat.lt_of_lt_of_le hb R.grow)).trans (R.frame b hb hn)
 grow:=Nat.le_trans R.grow X.size
 shape b hb:=by
  have h1:=R.shape b hb
  have h2:=X.same b (Nat.lt_of_lt_of_le hb R.grow)
  simp only[World.shape?,h2]at h1⊢;exact h1
 os:=X.os.trans R.os
 output:=X.output.trans R.output
 tape:=qXB X.tape R.tape
 pins:=R.pins
def St.put (σ:St) (dst:Option Tmp) (d:D):St :=
 match dst with
 |some k=>{ σ with t:=(k,d)::σ.t }
 |none=>σ
theorem Rel.put {E σ a w Z loc fps} (R:Rel E σ a w Z loc fps) {dst:Option Tmp} {d:D} {v:Value} (hk:∀k,dst=some k->k<σ.nt) (h:AR w Z loc [] d v) :
  Rel E (σ.put dst d) (a.put dst v) w Z loc fps:=by
 cases dst with
 |none=>exact R
 |some k =>
  refine { R with size:=?_,temps:=?_ }
  ·simpa [Act.put,St.put]using R.size
  ·intro t d' ht
   simp only[St.put,qAa]at ht
   split at ht
   ·rename_i e;subst e;cases ht
    exact⟨v,by simp[Act.put,R.size,hk t rfl],h⟩
   ·rename_i e
    obtain⟨v',h1,h2⟩:=R.temps t d' ht
    refine⟨v',?_,h2⟩
    simp only[Act.put]
    rw[Array.getElem?_setIfInBounds_ne (fun e'=>e e'.symm)];exact h1
end Go.AM
end
section
namespace Go.AM
theorem qUT {w w':Go.World} {b i:Nat} (h:w.heap[b]?=w'.heap[b]?):w.cell? ⟨b,i,none⟩=w'.cell? ⟨b,i,none⟩:=by
 unfold World.cell?
 simp only[h]
theorem qZC {w:Go.World} (h:GlobW w):∃m:Int,w.cell? ⟨2,0,none⟩=some (.int .i64 m):=by
 obtain⟨_,⟨⟨w1,m,h1,h2⟩,_⟩,_⟩:=h
 exact⟨m,(qUT (w:=w) (w':=w1) h2.symm).trans h1⟩
theorem qYk {P : Program} {w : Go.World} (hn : P.globalNamed "internal/strconv.uint64pow10" = some 5) (h : GlobW w) : Lib.TabIs P w "internal/strconv.uint64pow10" .u64 Lib.pow10Tab := by
 obtain⟨_,⟨_,el,fz,h2⟩,_⟩:=h
 have h3:w.heap[5]?=some (.cells qVr el fz):=h2
 unfold Lib.TabIs World.var?
 rw[hn,Option.bind_some,h3]
 rfl
theorem qZQ {n:Nat} {vs:List Value} (h:GV n=some vs):(n=0/\vs=[.string ⟨#[110,111,110,101]⟩,.string ⟨#[100,111,119,110]⟩,.string ⟨#[101,100,103,101]⟩,.string ⟨#[118,111,105,100]⟩])\/(n=1/\vs=[.string ⟨#[]⟩,.string ⟨#[60]⟩,.string ⟨#[101]⟩,.string ⟨#[42]⟩]):=by
 unfold GV at h
 cases hn:Nat.beq n 0 with
 |false =>
  rw[hn]at h
  cases hm:Nat.beq n 1 with
  |false=>rw[hm]at h;cases h
  |true=>rw[hm]at h;cases h;exact .inr ⟨Nat.eq_of_beq_eq_true hm,rfl⟩
 |true=>rw[hn]at h;cases h;exact .inl ⟨Nat.eq_of_beq_eq_true hn,rfl⟩
theorem qXV {P : Program} {w : Go.World} (hn : P.globalNamed "internal/strconv.uint64pow10" = some 5) (h : ∃m : Int, w.cell? ⟨2, 0, none⟩=some (.int .i64 m)) (hm : ∃arr el fz, w.heap[0]? = some (.cells arr el fz)/\arr.toList.take 4=[.string ⟨#[110, 111, 110, 101]⟩, .string ⟨#[100, 111, 119, 110]⟩, .string ⟨#[101, 100, 103, 101]⟩, .string ⟨#[118, 111, 105, 100]⟩])
  (hs:∃arr el fz,w.heap[1]?=some (.cells arr el fz)/\arr.toList.take 4=[.string ⟨#[]⟩,.string ⟨#[60]⟩,.string ⟨#[101]⟩,.string ⟨#[42]⟩])
  (ht : Lib.TabIs P w "internal/strconv.uint64pow10" .u64 Lib.pow10Tab) : GlobW w := by
 obtain⟨m,h⟩:=h
 have h2:∃el fz,w.heap[5]?=some (.cells qVr el fz):=by
  unfold Lib.TabIs World.var? at ht
  rw[hn,Option.bind_some]at ht
  split at ht
  ·rename_i c t f hh
   exact⟨t,f,by rw[hh,Option.some.inj ht];rfl⟩
  ·cases ht
 refine⟨?_,⟨⟨w,m,h,rfl⟩,h2⟩,fun n vs hv=>?_⟩
 ·obtain⟨_,_,h2⟩:=h2
  show 6<=w.heap.size
  rcases Nat.lt_or_ge 5 w.heap.size with q|q
  ·exact q
  ·rw[Array.getElem?_eq_none (by omega)]at h2
   cases h2
 ·rcases qZQ hv with⟨rfl,rfl⟩|⟨rfl,rfl⟩
  ·obtain⟨arr,el,fz,q1,q2⟩:=hm
   exact⟨by decide,arr,el,fz,q1,q2,rfl⟩
  ·obtain⟨arr,el,fz,q1,q2⟩:=hs
   exact⟨by decide,arr,el,fz,q1,q2,rfl⟩
end Go.AM
end
section
namespace Go.AM
def qFj (ks:List Nat) (l:List (Nat×Root)):List (Nat×Root):=ks.foldr (fun k l=>(k,.dead)::l) l
theorem qJw (ks:List Nat) (l:List (Nat×Root)) (n:Nat):get (qFj ks l) n=if n∈ks then some .dead else get l n:=by
 induction ks with
 |nil=>simp[qFj]
 |cons k ks ih =>
  show get ((k,Root.dead)::qFj ks l) n=_
  rw[qAa,ih]
  by_cases h:n=k<;>simp[h]
def qNE (loc:Nat->Option Loc) (id:Nat) (L:Loc):Nat->Option Loc:=fun n=>if n=id then some L else loc n
def qHN (fps:Nat->List Nat) (id:Nat) (fp:List Nat):Nat->List Nat:=fun n=>if n=id then fp else fps n
theorem RootRel.mono {w w':World} {Z Z':Nat->Prop} {loc loc':Nat->Option Loc} {fp:List Nat} {L:Loc} {ρ:Root} (h:RootRel w Z loc fp L ρ)
  (hZ:∀b,Z b->Z' b) (hl:∀id L,loc id=some L->loc' id=some L) (hw:∀b,Z b\/b∈fp->w'.heap[b]?=w.heap[b]?):RootRel w' Z' loc' fp L ρ:=by
 cases ρ with
 |box ds =>
  obtain⟨e1,e2,arr,el,h3,h4⟩:=h
  refine⟨e1,e2,arr,el,?_,h4.mono hZ hl (fun b hb=>hw b (hb.imp (fun h=>h) (fun h=>by simp at h)))⟩
  rw[hw _ (.inr (by rw[e2];simp))];exact h3
 |row sz xs =>
  obtain⟨e1,e2,e3,e4,h3⟩:=h
  refine⟨e1,e2,e3,e4,h3.imp (fun h=>h) ?_⟩
  rintro⟨fpN,arr,el,e5,h4,h5,h6⟩
  refine⟨fpN,arr,el,e5,?_,h5,h6.mono hZ (fun _ _ h=>h) (fun b hb=>hw b (hb.imp (fun h=>h) (fun h=>by rw[e5];exact List.mem_cons_of_mem _ h)))⟩
  rw[hw _ (.inr (by rw[e5];simp))];exact h4
 |orow sz xs i k id =>
  obtain⟨e1,e2,e3,e4,fpN,arr,el,e5,h4,h5,L',a,q1,q2,q4,q5,q6,h6,q7⟩:=h
  refine⟨e1,e2,e3,e4,fpN,arr,el,e5,?_,h5,L',a,hl _ _ q1,q2,q4,q5,q6,h6.mono hZ (fun _ _ h=>h) (fun b hb=>hw b (hb.imp (fun h=>h) (fun h=>by rw[e5];exact List.mem_cons_of_mem _ h))),q7⟩
  rw[hw _ (.inr (by rw[e5];simp))];exact h4
 |map es =>
  obtain⟨e1,e2,en,cl,h3,h4⟩:=h
  exact⟨e1,e2,en,cl,(hw _ (.inr (by rw[e2];simp))).trans h3,h4⟩
 |limb ds vs=>exact ARL.mono h hZ (fun _ _ h=>h) hw
 |bld _ T U l=>exact⟨h.1,h.2.same fun b hb=>hw b (.inr hb)⟩
 |dead=>trivial
theorem Rel.setRoot {E σ a w Z loc fps} (R:Rel E σ a w Z loc fps) {w':World} {id0:Nat} {ρ0:Root} {L0:Loc} {fp0 ks:List Nat} {Z':Nat->Prop}
  (hgrow:w.heap.size<=w'.heap.size)
  (hsame:∀b,b<w.heap.size->(∀id ρ,id=id0\/id∈ks->σ.live id ρ->b∉fps id)->w'.heap[b]?=w.heap[b]?)
  (hshape:∀b,b<w.heap.size->w'.shape? b=w.shape? b)
  (hos:w'.os=w.os) (hout:w'.output=w.output) (htape:w'.tape=w.tape/\w.drawn<=w'.drawn)
  (hfp:∀b∈fp0,b<w'.heap.size/\(w.heap.size<=b\/∃id ρ,(id=id0\/id∈ks)/\σ.live id ρ/\b∈fps id))
  (hnd:fp0.Nodup) (hloc:loc id0=none\/loc id0=some L0)
  (hZ:∀b,Z b->Z' b) (hZ':∀b,Z' b->Z b\/(b<w'.heap.size/\b∉fp0/\(w.heap.size<=b\/∃id ρ,(id=id0\/id∈ks)/\σ.live id ρ/\b∈fps id)))
  (hroot:RootRel w' Z' (qNE loc id0 L0) fp0 L0 ρ0) :
  Rel E { σ with h:=(id0,ρ0)::qFj ks σ.h } a w' Z' (qNE loc id0 L0) (qHN fps id0 fp0):=by
 have hlm:∀id L,loc id=some L->qNE loc id0 L0 id=some L:=by
  intro id L h
  unfold qNE
  split
  ·rename_i e;subst e;rcases hloc with h'|h'<;>rw[h']at h<;>simp_all
  ·exact h
 have hlive:∀id ρ,St.live { σ with h:=(id0,ρ0)::qFj ks σ.h } id ρ->(id=id0/\ρ=ρ0)\/(id≠id0/\id∉ks/\σ.live id ρ):=by
  rintro id ρ ⟨h1,h2⟩
  simp only[qAa,qJw]at h1
  split at h1
  ·cases h1;exact .inl ⟨‹_›,rfl⟩
  ·split at h1
   ·cases h1;exact absurd rfl h2
   ·exact .inr ⟨‹_›,‹_›,h1,h2⟩
 have hz:∀b,Z b->w'.heap[b]?=w.heap[b]?:=fun b hb=>hsame b (R.zlt b hb) fun id ρ _ hl hm=>(R.owned id ρ b hl hm).1 hb
 have hother:∀id ρ b,id≠id0->id∉ks->σ.live id ρ->b∈fps id->w'.heap[b]?=w.heap[b]?:=by
  intro id ρ b h1 h2 hl hb
  refine hsame b (R.owned id ρ b hl hb).2.1 fun id' ρ' hid hl' hm=>?_
  have:=R.disj id id' ρ ρ' b hl hl' hb hm
  subst this
  exact hid.elim h1 h2
 refine { size := R.size, defers := R.defers, temps := ?_, roots := ?_, nodup := ?_, disj := ?_, owned := ?_, fresh := ?_, zlt := ?_, zsub := fun b hb => hZ b (R.zsub b hb), znew := ?_,frame:=?_,grow:=Nat.le_trans R.grow hgrow,shape:=fun b hb=>(hshape b (Nat.lt_of_lt_of_le hb R.grow)).trans (R.shape b hb),os:=hos.trans R.os,output:=hout.trans R.output,tape:=qXB htape R.tape,pins:=fun id L h=>hlm id L (R.pins id L h) }
 ·intro t d ht
  obtain⟨v,h1,h2⟩:=R.temps t d ht
  exact⟨v,h1,h2.mono hZ hlm (fun b hb=>hz b (hb.elim (fun h=>h) (fun h=>by simp at h)))⟩
 ·intro id ρ hl
  rcases hlive id ρ hl with⟨rfl,rfl⟩|⟨h1,h2,h3⟩
  ·exact⟨L0,by simp[qNE],by simpa [qHN]using hroot⟩
  ·obtain⟨L,h4,h5⟩:=R.roots id ρ h3
   refine⟨L,hlm _ _ h4,?_⟩
   simp only[qHN,if_neg h1]
   exact h5.mono hZ hlm (fun b hb=>hb.elim (hz b) (hother id ρ b h1 h2 h3))
 ·intro id ρ hl
  rcases hlive id ρ hl with⟨rfl,rfl⟩|⟨h1,h2,h3⟩
  ·simpa [qHN]using hnd
  ·simpa [qHN,h1]using R.nodup id ρ h3
 ·have key:∀j ρ' b,j≠id0->j∉ks->σ.live j ρ'->b∈fps j->b∉fp0:=by
   intro j ρ' b h1 h2 h3 hb hb0
   rcases (hfp b hb0).2 with h|⟨id,ρ,h4,h5,h6⟩
   ·exact absurd (R.owned j ρ' b h3 hb).2.1 (by omega)
   ·have:=R.disj j id ρ' ρ b h3 h5 hb h6
    subst this
    exact h4.elim h1 h2
  intro i j ρ ρ' b hi hj hbi hbj
  rcases hlive i ρ hi with⟨rfl,rfl⟩|⟨h1,h2,h3⟩<;>rcases hlive j ρ' hj with⟨rfl,rfl⟩|⟨h1',h2',h3'⟩
  ·rfl
  ·simp only[qHN,if_neg h1',if_true]at hbi hbj
   exact absurd hbi (key j ρ' b h1' h2' h3' hbj)
  ·simp only[qHN,if_neg h1,if_true]at hbi hbj
   exact absurd hbj (key i ρ b h1 h2 h3 hbi)
  ·simp only[qHN,if_neg h1,if_neg h1']at hbi hbj
   exact R.disj i j ρ ρ' b h3 h3' hbi hbj
 ·intro i ρ b hl hb
  rcases hlive i ρ hl with⟨rfl,rfl⟩|⟨h1,h2,h3⟩
  ·simp only[qHN,if_true]at hb
   obtain⟨h4,h5⟩:=hfp b hb
   refine⟨?_,h4,?_⟩
   ·intro hZb
    rcases hZ' b hZb with h|⟨_,h,_⟩
    ·rcases h5 with h6|⟨id,ρ',h6,h7,h8⟩
     ·exact absurd (R.zlt b h) (by omega)
     ·exact(R.owned id ρ' b h7 h8).1 h
    ·exact h hb
   ·rcases h5 with h6|⟨id,ρ',h6,h7,h8⟩
    ·exact .inl (Nat.le_trans R.grow h6)
    ·exact(R.owned id ρ' b h7 h8).2.2
  ·simp only[qHN,if_neg h1]at hb
   obtain⟨h4,h5,h6⟩:=R.owned i ρ b h3 hb
   refine⟨?_,Nat.lt_of_lt_of_le h5 hgrow,h6⟩
   intro hZb
   rcases hZ' b hZb with h|⟨_,_,h|⟨id,ρ',h7,h8,h9⟩⟩
   ·exact h4 h
   ·omega
   ·have:=R.disj i id ρ ρ' b h3 h8 hb h9
    subst this
    exact h7.elim h1 h2
 ·intro b hb
  rcases hZ' b hb with h|⟨h,_⟩
  ·exact Nat.lt_of_lt_of_le (R.zlt b h) hgrow
  ·exact h
 ·intro b hb
  rcases hZ' b hb with h|⟨_,_,h|⟨id,ρ,_,h8,h9⟩⟩
  ·exact R.znew b h
  ·exact .inr (.inl (Nat.le_trans R.grow h))
  ·exact .inr (R.owned id ρ b h8 h9).2.2
 ·intro b hb hn
  rw[hsame b (Nat.lt_of_lt_of_le hb R.grow) fun id ρ _ hl hm=>?_]
  ·exact R.frame b hb hn
  ·rcases (R.owned id ρ b hl hm).2.2 with h|h
   ·omega
   ·exact hn h
 ·intro id h
  simp only[qAa,qJw]at h
  split at h
  ·cases h
  ·split at h
   ·cases h
   ·simp only[qNE];rw[if_neg ‹_›];exact R.fresh id h
theorem Rel.zone {E:Env} {a:Act} {w:World} {Z:Nat->Prop} {σ loc fps} (R:Rel E σ a w Z loc fps) {Z':Nat->Prop} (h1:∀b,Z b->Z' b) (h2:∀b,Z' b->Z b\/(b<w.heap.size/\(E.w0.heap.size<=b\/b∈E.own)/\∀i ρ,σ.live i ρ->b∉fps i)):Rel E σ a w Z' loc fps:=by
 refine { R with temps:=?_,roots:=?_,owned:=?_,zlt:=?_,zsub:=fun b hb=>h1 b (R.zsub b hb),znew:=?_ }
 ·intro t d ht
  obtain⟨v,g1,g2⟩:=R.temps t d ht
  exact⟨v,g1,g2.mono h1 (fun _ _ h=>h) (fun _ _=>rfl)⟩
 ·intro i ρ hl
  obtain⟨L,g1,g2⟩:=R.roots i ρ hl
  exact⟨L,g1,g2.mono h1 (fun _ _ h=>h) (fun _ _=>rfl)⟩
 ·intro i ρ b hl hb
  obtain⟨g1,g2,g3⟩:=R.owned i ρ b hl hb
  refine⟨fun hz=>?_,g2,g3⟩
  rcases h2 b hz with h|⟨_,_,h⟩
  ·exact g1 h
  ·exact h i ρ hl hb
 ·intro b hb
  rcases h2 b hb with h|⟨h,_⟩
  ·exact R.zlt b h
  ·exact h
 ·intro b hb
  rcases h2 b hb with h|⟨_,h,_⟩
  ·exact R.znew b h
  ·exact .inr h
structure ZExt (w w':World) (Z Z':Nat->Prop):Prop where
 sub:∀b,Z b->Z' b
 new:∀b,Z' b->Z b\/(w.heap.size<=b/\b<w'.heap.size)
theorem ZExt.refl (w:World) (Z:Nat->Prop):ZExt w w Z Z:=⟨fun _ h=>h,fun _ h=>.inl h⟩
theorem Rel.grown {E:Env} {a:Act} {w w':World} {Z Z':Nat->Prop} {σ loc fps} (R:Rel E σ a w Z loc fps) (X:Ext w w') (hz:ZExt w w' Z Z'):Rel E σ a w' Z' loc fps :=
 (R.ext X).zone hz.sub fun b hb=>by
  rcases hz.new b hb with h|⟨h1,h2⟩
  ·exact .inl h
  ·exact .inr ⟨h2,.inl (Nat.le_trans R.grow h1),fun i ρ hl hb=>absurd (R.owned i ρ b hl hb).2.1 (by omega)⟩
end Go.AM
end
section
namespace Go.AM
inductive TK where
 |int (k:IntKind)|bool|str|slice (e:Nat)|ptr (e:Nat)|struct (fs:List (Nat×Nat))|array (n e:Nat)|other
structure TI where
 k:TK
 size:Nat
 bytes:Nat
 zero:Option Value
def qWZ:TypeDesc->TK
 |.int k=>.int k|.bool=>.bool|.string=>.str|.slice e=>.slice e|.pointer e=>.ptr e
 |.struct fs=>.struct (fs.toList.map fun f=>(f.offset,f.type))|.array n e=>.array n e|_=>.other
def qau (P:Program) (t:Nat):Option TI :=
 match P.info? t,P.underlying t with
 |some i,some d=>some ⟨qWZ d,i.size,i.bytes,i.zero⟩
 |_,_=>none
abbrev TE:=Nat->Option TI
def qGz (P:Program) (te:TE):Prop:=∀t ti,te t=some ti->qau P t=some ti
def TI.agg (ti:TI):Bool:=match ti.k with|.struct _=>true|.array ..=>true|_=>false
section
variable {P:Program} {te:TE} (T:qGz P te) {t:Nat} {ti:TI}
include T
theorem qGm (h:te t=some ti):∃i d,P.info? t=some i/\P.underlying t=some d/\ti=⟨qWZ d,i.size,i.bytes,i.zero⟩:=by
 have:=T t ti h
 unfold qau at this
 split at this
 ·rename_i i d h1 h2;exact⟨i,d,h1,h2,by cases this;rfl⟩
 ·cases this
theorem qAm (h:te t=some ti) (w:World):(sizeOf t).run P w=.ok ti.size w:=by
 obtain⟨i,d,h1,h2,rfl⟩:=qGm T h
 simp[sizeOf,typeInfo,h1]
theorem qK5 (h:te t=some ti) (w:World):∃i,(typeInfo t).run P w=.ok i w/\i.size=ti.size/\i.bytes=ti.bytes/\i.zero=ti.zero:=by
 obtain⟨i,d,h1,h2,rfl⟩:=qGm T h
 exact⟨i,by simp[typeInfo,h1],rfl,rfl,rfl⟩
theorem qDV (h:te t=some ti) {z:Value} (hz:ti.zero=some z) (w:World):(zeroValue t).run P w=.ok z w:=by
 obtain⟨i,d,h1,h2,rfl⟩:=qGm T h
 simp only at hz
 simp[zeroValue,typeInfo,h1,hz]
theorem qOU (h:te t=some ti) (w:World):(isAgg t).run P w=.ok ti.agg w:=by
 obtain⟨i,d,h1,h2,rfl⟩:=qGm T h
 simp only[isAgg,Sem.run_bind,run_underlying h2,Result.andThen_ok]
 cases d<;>simp[TI.agg,qWZ]
theorem qML {fs:List (Nat×Nat)} {s b z} (h:te t=some ⟨.struct fs,s,b,z⟩):∃fields,P.underlying t=some (.struct fields)/\fields.toList.map (fun f=>(f.offset,f.type))=fs:=by
 obtain⟨i,d,h1,h2,h3⟩:=qGm T h
 cases d<;>simp[qWZ]at h3
 exact⟨_,h2,h3.1.symm⟩
theorem qCE {e s b z} (h:te t=some ⟨.slice e,s,b,z⟩):P.underlying t=some (.slice e):=by
 obtain⟨i,d,h1,h2,h3⟩:=qGm T h
 cases d<;>simp[qWZ]at h3
 rw[h2,h3.1]
theorem qNN {n e s b z} (h:te t=some ⟨.array n e,s,b,z⟩):P.underlying t=some (.array n e):=by
 obtain⟨i,d,h1,h2,h3⟩:=qGm T h
 cases d<;>simp[qWZ]at h3
 rw[h2,h3.1.1,h3.1.2]
theorem qPV {s b z} (h:te t=some ⟨.bool,s,b,z⟩):P.underlying t=some .bool:=by
 obtain⟨i,d,h1,h2,h3⟩:=qGm T h
 cases d<;>simp[qWZ]at h3
 exact h2
theorem qJd {s b z} (h:te t=some ⟨.str,s,b,z⟩):P.underlying t=some .string:=by
 obtain⟨i,d,h1,h2,h3⟩:=qGm T h
 cases d<;>simp[qWZ]at h3
 exact h2
theorem qRj {k s b z} (h:te t=some ⟨.int k,s,b,z⟩):P.underlying t=some (.int k):=by
 obtain⟨i,d,h1,h2,h3⟩:=qGm T h
 cases d<;>simp[qWZ]at h3
 rw[h2,h3.1]
end
def constCell:Value->D
 |.slice none 0 0=>.w 0 []
 |x=>.v x
def constD:Value->D
 |.agg cs=>.g (cs.toList.map constCell)
 |x=>constCell x
theorem AR.constCell {w Z loc} (x:Value):AR w Z loc [] (constCell x) x:=by
 unfold AM.constCell
 split
 ·exact .w0
 ·exact .v
def qSt:Value->Bool
 |.agg cs=>cs.toList.all (·.oneCell')
 |_=>true
theorem ARL.constCells {w Z loc}:∀(l:List Value),l.all (·.oneCell')=true->ARL w Z loc [] (l.map constCell) l
 | [],_=>.nil
 |x::l,h=>by
  simp only[List.all_cons,Bool.and_eq_true]at h
  exact .cons (fp:=[]) (fp':=[]) h.1 (AR.constCell x) (ARL.constCells l h.2)
theorem AR.constD {w Z loc} (x:Value) (h:qSt x=true):AR w Z loc [] (constD x) x:=by
 unfold AM.constD
 split
 ·exact .g (ARL.constCells _ h)
 ·exact AR.constCell x
def St.ev (σ:St):Operand->Option D
 |.tmp t=>get σ.t t
 |.const v=>bif qSt v then some (constD v) else none
 |.func f=>some (.f f [])
 |.global n=>(GV n).map fun vs=>.q (vs.map .v)
theorem RelV.ev {E σ a w Z loc fps} (R:RelV E σ a w Z loc fps) {x:Operand} {d:D} (h:σ.ev x=some d):AR w Z loc [] d (a.eval x):=by
 cases x with
 |tmp t =>
  obtain⟨v,h1,h2⟩:=R.temps t d h
  have:a.eval (.tmp t)=v:=by simp[Act.eval,Array.getD_eq_getD_getElem?,h1]
  rw[this];exact h2
 |const v =>
  simp only[St.ev]at h
  cases hc:qSt v
  ·simp[hc]at h
  ·simp only[hc,cW]at h;cases h;exact AR.constD v hc
 |func f=>simp only[St.ev]at h;cases h;exact .f .nil
 |global g =>
  simp only[St.ev]at h
  cases hv:GV g with
  |none=>rw[hv]at h;cases h
  |some vs =>
   rw[hv]at h
   cases h
   obtain⟨h1,arr,el,fz,h2,h3,h4⟩:=R.glob.2.2 g vs hv
   have key:∀l:List Value,l.all Value.oneCell'=true->ARL w Z qAi [] (l.map D.v) l:=by
    intro l
    induction l with
    |nil=>intro _;exact .nil
    |cons x l ih=>intro hl;rw[List.all_cons,Bool.and_eq_true]at hl;exact .cons (fp:=[]) (fp':=[]) hl.1 .v (ih hl.2)
   exact .q (b:=g) (off:=0) (R.globZ.2 g h1) h2 (by rw[List.drop_zero,List.length_map,h3];exact key vs h4)
def St.res (σ:St):D->D
 |.R id=>match get σ.h id with|some (.row _ xs)=>.r id 0 xs.length|some (.orow _ xs _ _ _)=>.r id 0 xs.length|_=>.R id
 |d=>d
def St.evr (σ:St) (x:Operand):Option D:=(σ.ev x).map σ.res
theorem RelV.res {E σ a w Z loc fps} (R:RelV E σ a w Z loc fps) {d:D} {v:Value} (h:AR w Z loc [] d v):AR w Z loc [] (σ.res d) v:=by
 generalize hfp:([]:List Nat)=fp at h
 cases h with
 | @R _ id L a h1 h2 h4 h5 =>
  show AR w Z loc [] (match get σ.h id with|some (.row _ xs)=>.r id 0 xs.length|some (.orow _ xs _ _ _)=>.r id 0 xs.length|_=>.R id) _
  split
  ·rename_i sz xs hg
   obtain⟨L',g1,g2,g3,g4,g5,g6⟩:=R.roots id _ ⟨hg,by simp⟩
   rw[h1]at g1;cases g1
   rw[<-g4.2]
   exact .r h1 h2 (by omega) h4 (h5.imp (fun h=>h) (fun h=>by simpa using h))
  ·rename_i sz xs p i2 i3 hg
   obtain⟨L',g1,g2,g3,g4,g5,g6⟩:=R.roots id _ ⟨hg,by simp⟩
   rw[h1]at g1;cases g1
   rw[<-g4.2]
   exact .r h1 h2 (by omega) h4 (h5.imp (fun h=>h) (fun h=>by simpa using h))
  ·exact .R h1 h2 h4 h5
 |u=>exact .u
 |v=>exact .v
 |s0=>exact .s0
 |s h1 h2 h3 h4 h5 h6=>exact .s h1 h2 h3 h4 h5 h6
 |w0=>exact .w0
 |w=>cases hfp
 |r h1 h2 h3 h4 h5=>exact .r h1 h2 h3 h4 h5
 |p h1=>exact .p h1
 |e h1=>exact .e h1
 |q h1 h2 h3=>exact .q h1 h2 h3
 |pw=>cases hfp
 |g h1=>subst hfp;exact .g h1
 |t h1=>subst hfp;exact .t h1
 |f h1=>subst hfp;exact .f h1
 |c h1 h2=>exact .c h1 h2
 |m h1=>exact .m h1
 |mw=>cases hfp
 |pn=>cases hfp
 |mi h1 h2 h3=>exact .mi h1 h2 h3
theorem RelV.evr {E σ a w Z loc fps} (R:RelV E σ a w Z loc fps) {x:Operand} {d:D} (h:σ.evr x=some d):AR w Z loc [] d (a.eval x):=by
 unfold St.evr at h
 cases hx:σ.ev x with
 |none=>simp[hx]at h
 |some d0=>simp only[hx,Option.map_some,Option.some.injEq]at h;subst h;exact R.res (R.ev hx)
def qBb (σ:St) (o:Oper):Bool:=match o.dst with|some k=>Nat.blt k σ.nt|none=>true
theorem qA7 {σ:St} {o:Oper} (h:qBb σ o=true):∀k,o.dst=some k->k<σ.nt:=by
 intro k hk;simp only[qBb,hk]at h;simpa [Nat.blt_eq]using h
def qKh (P:Program) (σ:St) (o:Oper) (σ':St):Prop :=
 ∀E a w,qSg E σ a w->o.wp P a w (fun a' w'=>qSg E σ' a' w') (fun _ _ _=>False)
def OpV (P:Program) (σ:St) (o:Oper) (d:D):Prop :=
 ∀E a w Z loc fps,RelV E σ a w Z loc fps->o.wp P a w (fun a' w'=>∃v Z',a'=a.put o.dst v/\Ext w w'/\ZExt w w' Z Z'/\AR w' Z' loc [] d v) (fun _ _ _=>False)
theorem OpV.of_val {P:Program} {σ:St} {o:Oper} {d:D}
  (h:∀E a w Z loc fps,RelV E σ a w Z loc fps->∃v,(execOp a.eval o).run P w=.ok (.value v) w/\AR w Z loc [] d v):OpV P σ o d:=by
 intro E a w Z loc fps R
 obtain⟨v,h1,h2⟩:=h E a w Z loc fps R
 unfold Oper.wp
 rw[h1]
 exact⟨v,Z,rfl,Ext.refl w,ZExt.refl w Z,h2⟩
theorem OpV.ok {P:Program} {σ:St} {o:Oper} {d:D} (h:OpV P σ o d) (hd:qBb σ o=true):qKh P σ o (σ.put o.dst d):=by
 rintro E a w ⟨Z,loc,fps,R⟩
 refine Oper.wp_mono ?_ (h E a w Z loc fps R.toRelV)
 rintro a' w' ⟨v,Z',rfl,X,hz,hv⟩
 exact⟨Z',loc,fps,(R.grown X hz).put (qA7 hd) hv⟩
def D.cells?:D->Option (List D)
 |.g ds=>some ds
 |.v x=>bif x.oneCell' then some [.v x] else none
 |.u=>none
 |.t _=>none
 |.c _ _=>none
 |d=>some [d]
theorem qWW {v:Value} (h:v.oneCell'=true):v.cells.toList=[v]:=by cases v<;>simp_all [Value.oneCell',Value.cells]
theorem D.cells_rel {w Z loc fp d v ds} (h:D.cells? d=some ds) (r:AR w Z loc fp d v):ARL w Z loc fp ds v.cells.toList:=by
 have one:∀{d fp},v.oneCell'=true->AR w Z loc fp d v->ARL w Z loc fp [d] v.cells.toList:=fun ho r=>by
  rw[qWW ho];have:=ARL.cons ho r .nil;simpa using this
 cases r with
 |u=>simp[D.cells?]at h
 |v =>
  simp only[D.cells?]at h
  cases ho:v.oneCell'
  ·simp[ho]at h
  ·simp only[ho,cW]at h;cases h;exact one ho .v
 |t=>simp[D.cells?]at h
 |c=>simp[D.cells?]at h
 |g h1=>simp only[D.cells?]at h;cases h;exact h1
 |s0=>simp only[D.cells?]at h;cases h;exact one rfl .s0
 |s h1 h2 h3 h4 h5 h6=>simp only[D.cells?]at h;cases h;exact one rfl (.s h1 h2 h3 h4 h5 h6)
 |w0=>simp only[D.cells?]at h;cases h;exact one rfl .w0
 |w h2 h3 h4 h5 h6 h7=>simp only[D.cells?]at h;cases h;exact one rfl (.w h2 h3 h4 h5 h6 h7)
 |r h1 h2 h3 h4 h5=>simp only[D.cells?]at h;cases h;exact one rfl (.r h1 h2 h3 h4 h5)
 |R h1 h2 h3 h4=>simp only[D.cells?]at h;cases h;exact one rfl (.R h1 h2 h3 h4)
 |p h1=>simp only[D.cells?]at h;cases h;exact one rfl (.p h1)
 |e h1=>simp only[D.cells?]at h;cases h;exact one rfl (.e h1)
 |q h1 h2 h3=>simp only[D.cells?]at h;cases h;exact one rfl (.q h1 h2 h3)
 |pw h1 h2=>simp only[D.cells?]at h;cases h;exact one rfl (.pw h1 h2)
 |f h1=>simp only[D.cells?]at h;cases h;exact one rfl (.f h1)
 |m h1=>simp only[D.cells?]at h;cases h;exact one rfl (.m h1)
 |mw h1 h2=>simp only[D.cells?]at h;cases h;exact one rfl (.mw h1 h2)
 |pn h1 h2=>simp only[D.cells?]at h;cases h;exact one rfl (.pn h1 h2)
 |mi h1 h2 h3=>simp only[D.cells?]at h;cases h;exact one rfl (.mi h1 h2 h3)
theorem ARL.one {w Z loc fp ds vs} (h:ARL w Z loc fp ds vs):∀v∈vs,v.oneCell'=true:=by
 induction ds generalizing fp vs with
 |nil=>cases h;simp
 |cons d ds ih=>cases h with|cons h0 h1 h2=>intro v hv;rcases List.mem_cons.1 hv with rfl|hv;exact h0;exact ih h2 v hv
def qMh (ti:TI) (ds:List D):Option D:=bif ti.agg then (bif Nat.ble ti.size ds.length then some (.g (ds.take ti.size)) else none) else ds.head?
theorem qJu {P:Program} {te:TE} (T:qGz P te) {t:Nat} {ti:TI} (ht:te t=some ti) {w:World} {Z loc} {b off:Nat} {arr:Array Value} {el fz} {ds:List D} {vs:List Value} {d:D}
  (hb:w.heap[b]?=some (.cells arr el fz)) (hvs:∀(j:Nat) v,vs[j]?=some v->arr.toList[off+j]?=some v) (h:ARL w Z loc [] ds vs) (hd:qMh ti ds=some d) :
  ∃v,(loadVar t ⟨b,off,none⟩).run P w=.ok v w/\AR w Z loc [] d v:=by
 have hcell:∀(j:Nat) v,vs[j]?=some v->w.cell? ((⟨b,off,none⟩:Addr).add j)=some v:=by
  intro j v hj
  have:=hvs j v hj
  rw[Addr.add_lit]
  simp only[World.cell?,hb]
  simpa using this
 unfold qMh at hd
 cases hagg:ti.agg
 ·simp only[hagg,cF]at hd
  obtain⟨v,h1,h2,h3⟩:=h.get0 (i:=0) (d:=d) (by cases ds<;>simp_all)
  refine⟨v,?_,h3⟩
  have:=hcell 0 v h1
  rw[Addr.add_zero']at this
  simp[loadVar,qOU T ht,hagg,this]
 ·simp only[hagg,cW]at hd
  cases hs:Nat.ble ti.size ds.length
  ·simp[hs]at hd
  ·simp only[hs,cW]at hd
   cases hd
   have hle:ti.size<=ds.length:=Nat.le_of_ble_eq_true hs
   have hlen:(vs.take ti.size).length=ti.size:=by simp[<-h.length,hle]
   refine⟨.agg (vs.take ti.size).toArray,?_,.g (by simpa using h.take0 ti.size)⟩
   have hr:=run_loadCells_list (P:=P) w ⟨b,off,none⟩ (vs.take ti.size) (fun j v hj=>hcell j v (by
    rw[List.getElem?_take]at hj;split at hj<;>simp_all))
   rw[hlen]at hr
   simp[loadVar,qOU T ht,hagg,qAm T ht,hr]
def St.at (σ:St):D->Option (List D)
 |.p id off=>match get σ.h id with|some (.box ds)=>some (ds.drop off)|_=>none
 |.q cs=>some cs
 |_=>none
theorem RelV.loadAt {P:Program} {te:TE} (T:qGz P te) {E σ a w Z loc fps} (R:RelV E σ a w Z loc fps) {t:Nat} {ti:TI} (ht:te t=some ti) {p d:D} {ds:List D} {v:Value}
  (hp:AR w Z loc [] p v) (hat:σ.at p=some ds) (hd:qMh ti ds=some d):∃u,(Instr.loadAt t v).run P w=.ok u w/\AR w Z loc [] d u:=by
 cases hp with
 |p h1 =>
  simp only[St.at]at hat
  split at hat
  ·rename_i ds' hg
   cases hat
   obtain⟨L,h2,e1,e2,arr,el,h3,h4⟩:=R.roots _ _ ⟨hg,by simp⟩
   rw[h1]at h2;cases h2
   have:=qJu T ht (off:=0+_) h3 (fun j v hj=>by rw[List.getElem?_drop]at hj;simpa using hj) (h4.drop0 _) hd
   obtain⟨u,h5,h6⟩:=this
   exact⟨u,by simpa [Instr.loadAt,Instr.sureAddr,e1]using h5,h6⟩
  ·cases hat
 |q h1 h2 h3 =>
  simp only[St.at]at hat;cases hat
  obtain⟨u,h5,h6⟩:=qJu T ht h2 (fun j v hj=>by
   rw[List.getElem?_take]at hj;split at hj
   ·simpa [List.getElem?_drop]using hj
   ·cases hj) (h3.mono (loc':=loc) (fun _ h=>h) (fun _ _ h=>by simp[qAi]at h) (fun _ _=>rfl)) hd
  exact⟨u,by simpa [Instr.loadAt,Instr.sureAddr]using h5,h6⟩
 |_=>simp[St.at]at hat
end Go.AM
end
section
namespace Go.AM
def qAU {α:Type} (l:List α) (off:Nat) (m:List α):List α:=l.take off++m++l.drop (off+m.length)
theorem qMI {α:Type} (l m:List α) (off i:Nat) (h:off+m.length<=l.length):(qAU l off m)[i]?=if off<=i/\i<off+m.length then m[i-off]? else l[i]?:=by
 unfold qAU
 rw[List.append_assoc,List.getElem?_append,List.length_take,Nat.min_eq_left (by omega)]
 split
 ·rw[if_neg (by omega),List.getElem?_take,if_pos (by omega)]
 ·rw[List.getElem?_append]
  split
  ·rw[if_pos (by omega)]
  ·rw[if_neg (by omega),List.getElem?_drop];congr 1;omega
theorem qOl {α:Type} (cs:List α):∀(k off:Nat) (arr:Array α),off+k+cs.length<=arr.size->
  (((cs.zipIdx k).foldl (fun a (x:α×Nat)=>a.setIfInBounds (off+x.2) x.1) arr)).toList=qAU arr.toList (off+k) cs:=by
 induction cs with
 |nil=>intro k off arr h;simp[qAU]
 |cons c cs ih =>
  intro k off arr h
  simp only[List.zipIdx_cons,List.foldl_cons]
  simp only[List.length_cons]at h
  rw[ih (k+1) off _ (by simp;omega)]
  apply List.ext_getElem?
  intro i
  rw[qMI _ _ _ _ (by simp;omega),qMI _ _ _ _ (by simp;omega)]
  simp only[Array.toList_setIfInBounds,List.getElem?_set,List.length_cons]
  by_cases h1:off+(k+1)<=i/\i<off+(k+1)+cs.length
  ·rw[if_pos h1,if_pos (by omega)]
   rw[show i-(off+k)=(i-(off+(k+1)))+1 by omega];simp
  ·rw[if_neg h1]
   by_cases h2:off+k=i
   ·rw[if_pos h2,if_pos (by simp;omega),if_pos (by omega)];subst h2;simp
   ·rw[if_neg h2,if_neg (by omega)]
theorem ARL.splice0 {w Z loc ds vs ds' vs'} (h:ARL w Z loc [] ds vs) (h':ARL w Z loc [] ds' vs') (off:Nat):ARL w Z loc [] (qAU ds off ds') (qAU vs off vs'):=by
 unfold qAU
 have h1:=((h.take0 off).append h').append (h.drop0 (off+ds'.length))
 rw[h'.length]at h1⊢
 exact h1
inductive All2 {α β:Type} (R:α->β->Prop):List α->List β->Prop
 |nil:All2 R [] []
 |cons {a b l m}:R a b->All2 R l m->All2 R (a::l) (b::m)
def qSa (place:Nat->Option (Nat×Nat)) (cells:List D):List (Nat×D)->Option (List D)
 | []=>some cells
 | (i,d)::rest =>
  match place i,D.cells? d with
  |some (off,size),some ds=>bif (Nat.beq ds.length size&&Nat.ble (off+size) cells.length) then qSa place (qAU cells off ds) rest else none
  |_,_=>none
theorem qTy {w Z loc} {place place':Nat->Option (Nat×Nat)} (hp:∀i x,place i=some x->place' i=some x):∀{parts:List (Nat×D)} {parts':List (Nat×Value)} {cells out:List D} {arr:Array Value},
  All2 (fun (x:Nat×D) (y:Nat×Value)=>x.1=y.1/\AR w Z loc [] x.2 y.2) parts parts'->ARL w Z loc [] cells arr.toList->qSa place cells parts=some out->
  ∃arr',Instr.fill place' arr parts'=some arr'/\ARL w Z loc [] out arr'.toList:=by
 intro parts
 induction parts with
 |nil=>intro parts' cells out arr hf hc ho;cases hf;simp only[qSa]at ho;cases ho;exact⟨arr,rfl,hc⟩
 |cons x parts ih =>
  intro parts' cells out arr hf hc ho
  cases hf with
  | @cons _ y _ ys hxy hrest =>
   obtain⟨i,d⟩:=x;obtain⟨j,v⟩:=y
   obtain⟨rfl,hd⟩:=hxy
   simp only[qSa]at ho
   split at ho
   ·rename_i off size ds h1 h2
    cases hb:(Nat.beq ds.length size&&Nat.ble (off+size) cells.length)
    ·simp[hb]at ho
    ·simp only[hb,cW]at ho
     simp only[Bool.and_eq_true]at hb
     have e1:ds.length=size:=Nat.eq_of_beq_eq_true hb.1
     have e2:off+size<=cells.length:=Nat.le_of_ble_eq_true hb.2
     have hcs:=D.cells_rel h2 hd
     have hl:v.cells.size=size:=by have:=hcs.length;simp at this;omega
     have hcl:=hc.length
     simp only[Array.length_toList]at hcl
     simp only[Instr.fill,hp i _ h1,hl]
     rw[if_neg (by simp;omega)]
     refine ih hrest ?_ ho
     have hfs:=qOl v.cells.toList 0 off arr (by simp;omega)
     have heq:(v.cells.zipIdx.foldl (fun cs (x:Value×Nat)=>cs.setIfInBounds (off+x.2) x.1) arr).toList=qAU arr.toList off v.cells.toList:=by
      rw[<-Array.foldl_toList,Array.toList_zipIdx];simpa using hfs
     have hrel:=hc.splice0 hcs off
     rw[<-heq]at hrel
     exact hrel
   ·cases ho
theorem qPk {α β:Type} {P:Program} {w:World} {f:α->Sem β} {g:α->β}:∀{l:List α},(∀x∈l,(f x).run P w=.ok (g x) w)->(l.mapM f).run P w=.ok (l.map g) w
 | [],_=>by simp
 |x::l,h=>by
  have ih:=qPk (fun y hy=>h y (List.mem_cons_of_mem _ hy))
  simp[List.mapM_cons,h x (by simp),ih]
theorem qO1 {α β:Type} {P:Program} {w:World} {f:α->Sem β} {g:α->β} {l:Array α} (h:∀x∈l.toList,(f x).run P w=.ok (g x) w):(l.mapM f).run P w=.ok (l.map g) w:=by
 rw[Array.mapM_eq_mapM_toList]
 simp only[Sem.run_map,qPk h,Result.andThen_ok]
 congr 1
 apply Array.ext';simp
def qMU (σ:St):List (Nat×Operand)->Option (List (Nat×D))
 | []=>some []
 | (i,x)::l=>match σ.ev x,qMU σ l with|some d,some r=>some ((i,d)::r)|_,_=>none
def evs (σ:St):List Operand->Option (List D)
 | []=>some []
 |x::l=>match σ.ev x,evs σ l with|some d,some r=>some (d::r)|_,_=>none
theorem qLs {E σ a w Z loc fps} (R:RelV E σ a w Z loc fps):∀{l:List (Nat×Operand)} {r},qMU σ l=some r->
  All2 (fun (x:Nat×D) (y:Nat×Value)=>x.1=y.1/\AR w Z loc [] x.2 y.2) r (l.map fun x=>(x.1,a.eval x.2))
 | [],r,h=>by simp only[qMU]at h;cases h;exact .nil
 | (i,x)::l,r,h=>by
  simp only[qMU]at h
  split at h
  ·rename_i d r' h1 h2;cases h;exact .cons ⟨rfl,R.ev h1⟩ (qLs R h2)
  ·cases h
theorem qIx {E σ a w Z loc fps} (R:RelV E σ a w Z loc fps):∀{l:List Operand} {r},evs σ l=some r->All2 (fun d v=>AR w Z loc [] d v) r (l.map a.eval)
 | [],r,h=>by simp only[evs]at h;cases h;exact .nil
 |x::l,r,h=>by
  simp only[evs]at h
  split at h
  ·rename_i d r' h1 h2;cases h;exact .cons (R.ev h1) (qIx R h2)
  ·cases h
def fieldPlace (te:TE) (fs:List (Nat×Nat)) (i:Nat):Option (Nat×Nat):=match fs[i]? with|some (off,ft)=>(te ft).map fun ti=>(off,ti.size)|none=>none
def qU8 (te:TE) (t:Nat) (parts:List (Nat×D)):Option D :=
 match te t with
 |some ⟨.struct fs,_,_,some z⟩ =>
  bif (fs.all fun f=>(te f.2).isSome)&&z.cells.toList.all (·.oneCell') then (qSa (fieldPlace te fs) (z.cells.toList.map constCell) parts).map .g else none
 |some ⟨.array _ e,_,_,some z⟩ =>
  match te e with
  |some ti=>bif z.cells.toList.all (·.oneCell') then (qSa (fun i=>some (i*ti.size,ti.size)) (z.cells.toList.map constCell) parts).map .g else none
  |none=>none
 |_=>none
theorem qWV {P:Program} {te:TE} (T:qGz P te) {w Z loc} {t:Nat} {parts:List (Nat×D)} {parts':Array (Nat×Value)} {d:D}
  (hp:All2 (fun (x:Nat×D) (y:Nat×Value)=>x.1=y.1/\AR w Z loc [] x.2 y.2) parts parts'.toList) (h:qU8 te t parts=some d) :
  ∃v,(Instr.build t parts').run P w=.ok v w/\AR w Z loc [] d v:=by
 unfold qU8 at h
 split at h
 ·rename_i fs s b z ht
  cases hb:(fs.all fun f=>(te f.2).isSome)&&z.cells.toList.all (·.oneCell')
  ·rw[hb]at h;cases h
  ·rw[hb,cW]at h
   simp only[Bool.and_eq_true]at hb
   cases hf:qSa (fieldPlace te fs) (z.cells.toList.map constCell) parts with
   |none=>simp[hf]at h
   |some out =>
    simp only[hf,Option.map_some]at h;cases h
    obtain⟨fields,hu,hfs⟩:=qML T ht
    have hm:(fields.mapM fun (f:Field)=>do pure (f.offset,<-sizeOf f.type)).run P w=.ok (fields.map fun (f:Field)=>(f.offset,((te f.type).map (·.size)).getD 0)) w:=by
     refine qO1 fun f hfm=>?_
     have:(f.offset,f.type)∈fs:=by rw[<-hfs];exact List.mem_map.2 ⟨f,hfm,rfl⟩
     have hsome:=List.all_eq_true.1 hb.1 _ this
     obtain⟨ti,hti⟩:=Option.isSome_iff_exists.1 hsome
     simp only at hti
     simp[qAm T hti,hti]
    obtain⟨arr',h1,h2⟩:=qTy (place':=fun i=>(fields.map fun f=>(f.offset,((te f.type).map (·.size)).getD 0))[i]?) (by
     intro i x hx
     unfold fieldPlace at hx
     rw[<-hfs]at hx
     simp only[List.getElem?_map,Array.getElem?_toList]at hx
     cases hfi:fields[i]? with
     |none=>simp[hfi]at hx
     |some f =>
      simp only[hfi,Option.map_some]at hx
      cases hte:te f.type with
      |none=>simp[hte]at hx
      |some ti=>simp only[hte,Option.map_some]at hx;simpa [hfi,hte]using hx) hp (ARL.constCells (w:=w) (Z:=Z) (loc:=loc) z.cells.toList hb.2) hf
    refine⟨.agg arr',?_,.g h2⟩
    simp only[Instr.build,Sem.run_bind,qDV T ht rfl,Result.andThen_ok,run_underlying hu,hm,h1,Sem.run_pure]
 ·rename_i n e s b z ht
  split at h
  ·rename_i ti hte
   cases hb:z.cells.toList.all (·.oneCell')
   ·rw[hb]at h;cases h
   ·rw[hb,cW]at h
    cases hf:qSa (fun i=>some (i*ti.size,ti.size)) (z.cells.toList.map constCell) parts with
    |none=>simp[hf]at h
    |some out =>
     simp only[hf,Option.map_some]at h;cases h
     have hu:=qNN T ht
     obtain⟨arr',h1,h2⟩:=qTy (place':=fun i=>some (i*ti.size,ti.size)) (fun _ _ h=>h) hp (ARL.constCells (w:=w) (Z:=Z) (loc:=loc) z.cells.toList hb) hf
     refine⟨.agg arr',?_,.g h2⟩
     simp only[Instr.build,Sem.run_bind,qDV T ht rfl,Result.andThen_ok,run_underlying hu,qAm T hte,h1,Sem.run_pure]
  ·cases h
 ·cases h
def D.isPtr:D->Bool|.p ..=>true|.e ..=>true|.q ..=>true|_=>false
theorem D.isPtr_one {w Z loc fp d v} (h:D.isPtr d=true) (r:AR w Z loc fp d v):v.oneCell'=true/\fp=[]:=by
 cases r<;>first|(simp[D.isPtr]at h;done)|exact⟨rfl,rfl⟩
def qa1 (op:BinOp) (a b:Int):Option Bool :=
 match op with
 |.lss=>some (decide (a<b))|.leq=>some (decide (a<=b))|.gtr=>some (decide (a>b))|.geq=>some (decide (a>=b))|.eql=>some (a==b)|.neq=>some (a != b)|_=>none
def qNe (a b:ByteArray):Bool:=Op.bytesLess a.toList b.toList
def qax (op:BinOp) (a b:ByteArray):Option Bool :=
 match op with
 |.eql=>some (decide (a=b))|.neq=>some (!decide (a=b))
 |.lss=>some (qNe a b)|.leq=>some (qNe a b||decide (a=b))|.gtr=>some (!(qNe a b||decide (a=b)))|.geq=>some (!qNe a b)|_=>none
def qav (te:TE) (op:BinOp) (t:Nat) (x y:D):Option D :=
 match x,y with
 |.v (.int k a),.v (.int k' b)=>bif decide (k=k') then (qa1 op a b).map fun r=>.v (.bool r) else none
 |.v (.string a),.v (.string b)=>(qax op a b).map fun r=>.v (.bool r)
 |.v (.bool a),.v (.bool b) =>
  match te t,op with
  |some ⟨.bool,_,_,_⟩,.eql=>some (.v (.bool (a==b)))
  |some ⟨.bool,_,_,_⟩,.neq=>some (.v (.bool (!(a==b))))
  |_,_=>none
 |_,_=>none
def qOc (te:TE) (t f:Nat) (p:D):Option D :=
 match te t with
 |some ⟨.struct fs,_,_,_⟩ =>
  match fs[f]? with
  |some (off,ft) =>
   (match te ft with
   |some ti =>
    bif Nat.beq ti.size 0 then none else
    (match p with
    |.p id o=>some (.p id (o+off))
    |.e id i k=>some (.e id i (k+off))
    |.q cs=>some (.q (cs.drop off))
    |_=>none)
   |none=>none)
  |none=>none
 |_=>none
def qVd (te:TE) (t f:Nat) (x:D):Option D :=
 match te t,x with
 |some ⟨.struct fs,_,_,_⟩,.g ds =>
  match fs[f]? with
  |some (off,ft)=>match te ft with|some ti=>qMh ti (ds.drop off)|none=>none
  |none=>none
 |_,_=>none
def qaQ (te:TE) (t:Nat) (x:D):Option D :=
 match te t with
 |some ⟨.slice _,_,_,_⟩ =>
  (match x with
  |.s xs=>some (.v (.int .i64 xs.length))
  |.w _ xs=>some (.v (.int .i64 xs.length))
  |.r _ _ n=>some (.v (.int .i64 n))
  |_=>none)
 |some ⟨.str,_,_,_⟩ =>
  (match x with
  |.v (.string s)=>some (.v (.int .i64 s.size))
  |_=>none)
 |some ⟨.array n _,_,_,_⟩=>some (.v (.int .i64 n))
 |_=>none
def qSf (x:D):Option D:=match x with|.p id o=>some (.p id o)|.e id i k=>some (.e id i k)|.q cs=>some (.q cs)|.f fn cs=>some (.f fn cs)|_=>none
def qMX (te:TE) (σ:St):Op->Option D
 |.move x=>σ.ev x
 |.assign x=>σ.ev x
 |.pick c x y=>match σ.ev c with|some (.v (.bool true))=>σ.ev x|some (.v (.bool false))=>σ.ev y|_=>none
 |.load t a=>match te t,σ.ev a with|some ti,some p=>(match σ.at p with|some ds=>qMh ti ds|none=>none)|_,_=>none
 |.fieldAddr t x f=>match σ.ev x with|some p=>qOc te t f p|none=>none
 |.field t x f=>match σ.ev x with|some p=>qVd te t f p|none=>none
 |.extract x i=>match σ.ev x with|some (.t ds)=>ds[i]?|_=>none
 |.makeFunc (.func f) first caps=>bif first.isEmpty then (match evs σ caps.toList with|some ds=>bif ds.all D.isPtr then some (.f f ds) else none|none=>none) else none
 |.unOp .not _ x=>match σ.ev x with|some (.v (.bool b))=>some (.v (.bool (!b)))|_=>none
 |.binOp op t x y _=>match σ.ev x,σ.ev y with|some a,some b=>qav te op t a b|_,_=>none
 |.build t parts=>match qMU σ parts.toList with|some ps=>qU8 te t ps|none=>none
 |.nilCheck x=>match σ.ev x with|some d=>qSf d|none=>none
 |.call { callee:=.builtin .len,args:=args,argTypes:=ts } =>
  (match args.toList,ts.toList with
  | [x],[t]=>(match σ.evr x with|some d=>qaQ te t d|none=>none)
  |_,_=>none)
 |_=>none
theorem All2.arl {w Z loc}:∀{ds:List D} {vs:List Value},All2 (fun d v=>AR w Z loc [] d v) ds vs->ds.all D.isPtr=true->ARL w Z loc [] ds vs
 | [],_,h,_=>by cases h;exact .nil
 |d::ds,_,h,hp=>by
  cases h with
  |cons h1 h2 =>
   simp only[List.all_cons,Bool.and_eq_true]at hp
   exact .cons (fp:=[]) (fp':=[]) (D.isPtr_one hp.1 h1).1 h1 (All2.arl h2 hp.2)
theorem qYc {P:Program} {te:TE} (T:qGz P te) {w Z loc} {t:Nat} {x d:D} {v:Value} {ty:Nat} (hx:AR w Z loc [] x v) (h:qaQ te t x=some d) :
  ∃u,(Builtin.len_ #[t] ty #[v]).run P w=.ok u w/\AR w Z loc [] d u:=by
 unfold qaQ at h
 split at h
 ·rename_i e s b z ht
  have hu:=qCE T ht
  split at h
  ·cases h;cases hx<;>exact⟨_,by simp[Builtin.len_,run_underlying hu,goInt],.v⟩
  ·cases h
   generalize hfp:([]:List Nat)=fp at hx
   cases hx with
   |w0=>exact⟨_,by simp[Builtin.len_,run_underlying hu,goInt],.v⟩
   |w=>cases hfp
  ·cases h;cases hx;exact⟨_,by simp[Builtin.len_,run_underlying hu,goInt],.v⟩
  ·cases h
 ·rename_i s b z ht
  have hu:=qJd T ht
  split at h
  ·cases h;cases hx;exact⟨_,by simp[Builtin.len_,run_underlying hu,goInt],.v⟩
  ·cases h
 ·rename_i n e s b z ht
  have hu:=qNN T ht
  cases h;exact⟨_,by simp[Builtin.len_,run_underlying hu,goInt],.v⟩
 ·cases h
end Go.AM
end
section
namespace Go.AM
theorem qWC {P:Program} {te:TE} (T:qGz P te) {w Z loc} {t f:Nat} {x d:D} {v:Value} (hx:AR w Z loc [] x v) (h:qVd te t f x=some d) :
  ∃u,(Instr.field t v f).run P w=.ok u w/\AR w Z loc [] d u:=by
 unfold qVd at h
 split at h
 ·rename_i fs s b z ds ht
  split at h
  ·rename_i off ft hf
   split at h
   ·rename_i ti hti
    obtain⟨fields,hu,hfs⟩:=qML T ht
    cases hx with
    | @g _ _ _ arr h1 =>
     have hf':∃fd,fields[f]?=some fd/\fd.offset=off/\fd.type=ft:=by
      rw[<-hfs]at hf
      simp only[List.getElem?_map,Array.getElem?_toList]at hf
      cases hfi:fields[f]? with
      |none=>simp[hfi]at hf
      |some fd=>simp[hfi]at hf;exact⟨fd,rfl,hf.1,hf.2⟩
     obtain⟨fd,hfd,rfl,rfl⟩:=hf'
     simp only[Instr.field,Sem.run_bind,run_underlying hu,Result.andThen_ok,hfd,asAgg,Sem.run_pure]
     unfold qMh at h
     simp only[part,Sem.run_bind,qOU T hti,Result.andThen_ok]
     have hd:=h1.drop0 fd.offset
     cases hagg:ti.agg
     ·simp only[hagg,cF]at h
      obtain⟨u,h2,h3,h4⟩:=hd.get0 (i:=0) (d:=d) (by cases hdd:ds.drop fd.offset<;>simp_all)
      rw[List.getElem?_drop]at h2
      simp only[Nat.add_zero,Array.getElem?_toList]at h2
      exact⟨u,by simp[h2],h4⟩
     ·simp only[hagg,cW]at h
      cases hs:Nat.ble ti.size (ds.drop fd.offset).length
      ·rw[hs]at h;cases h
      ·rw[hs,cW]at h
       cases h
       refine⟨.agg (arr.extract fd.offset (fd.offset+ti.size)),by simp[qAm T hti],.g ?_⟩
       have:=hd.take0 ti.size
       rw[Array.toList_extract,List.extract_eq_take_drop]
       simpa using this
   ·cases h
  ·cases h
 ·cases h
theorem qSv {P:Program} {te:TE} (T:qGz P te) {w Z loc} {t f:Nat} {x d:D} {v:Value} (hx:AR w Z loc [] x v) (h:qOc te t f x=some d) :
  ∃u,(Instr.fieldAt t v f).run P w=.ok u w/\AR w Z loc [] d u:=by
 unfold qOc at h
 split at h
 ·rename_i fs s b z ht
  obtain⟨fields,hu,hfs⟩:=qML T ht
  split at h
  ·rename_i off ft hf
   split at h
   ·rename_i ti hti
    cases hz:Nat.beq ti.size 0
    ·simp only[hz,cF]at h
     have hz':ti.size≠0:=fun e=>by rw[e]at hz;cases hz
     have hf':∃fd,fields[f]?=some fd/\fd.offset=off/\fd.type=ft:=by
      rw[<-hfs]at hf
      simp only[List.getElem?_map,Array.getElem?_toList]at hf
      cases hfi:fields[f]? with
      |none=>simp[hfi]at hf
      |some fd=>simp[hfi]at hf;exact⟨fd,rfl,hf.1,hf.2⟩
     obtain⟨fd,h1,rfl,rfl⟩:=hf'
     have hpl:∀A:Addr,(Go.fieldPlace A fd).run P w=.ok (A.add fd.offset) w:=by
      intro A
      simp only[Go.fieldPlace,Sem.run_bind,qAm T hti,Result.andThen_ok]
      rw[if_neg hz'];rfl
     split at h
     ·cases h
      cases hx with
      | @p _ id o L h2 =>
       refine⟨_,by simp only[Instr.fieldAt,Sem.run_bind,run_underlying hu,Result.andThen_ok,h1,Instr.sureAddr,Sem.run_pure,hpl];rfl,?_⟩
       rw[Addr.add_lit]
       rw[Nat.add_assoc];exact AR.p h2
     ·cases h
      cases hx with
      | @e _ id i k L h2 =>
       refine⟨_,by simp only[Instr.fieldAt,Sem.run_bind,run_underlying hu,Result.andThen_ok,h1,Instr.sureAddr,Sem.run_pure,hpl];rfl,?_⟩
       rw[Addr.add_lit]
       rw[Nat.add_assoc];exact AR.e h2
     ·cases h
      cases hx with
      | @q _ _ b off arr el fz h2 h3 h4 =>
       refine⟨_,by simp only[Instr.fieldAt,Sem.run_bind,run_underlying hu,Result.andThen_ok,h1,Instr.sureAddr,Sem.run_pure,hpl];rfl,?_⟩
       rw[Addr.add_lit]
       refine AR.q h2 h3 ?_
       have:=h4.drop0 fd.offset
       rw[List.drop_take,List.drop_drop]at this
       simpa using this
     ·cases h
    ·simp[hz]at h
   ·cases h
  ·cases h
 ·cases h
theorem qVe (a b:ByteArray):(a.toList==b.toList)=decide (a=b):=by
 rw[ByteArray.toList_eq,ByteArray.toList_eq]
 by_cases h:a=b
 ·subst h;simp
 ·rw[dF h,beq_eq_false_iff_ne]
  exact fun e=>h (ByteArray.ext (Array.toList_inj.1 e))
theorem qMo {P:Program} {t:Nat} (hu:P.underlying t=some .bool) (a b:Bool) (w:World):(Op.equal t (.bool a) (.bool b)).run P w=.ok (a==b) w:=by
 unfold Op.equal Op.maxDepth
 rw[Op.equalIn.eq_def]
 simp only[Sem.run_bind,run_underlying hu,Result.andThen_ok,Sem.run_pure]
theorem qY8 {P:Program} {te:TE} (T:qGz P te) {w Z loc} {t:Nat} {op:BinOp} {x y d:D} {a b:Value} {p q:Operand} (hx:AR w Z loc [] x a) (hy:AR w Z loc [] y b) (h:qav te op t x y=some d) :
  ∃u,(do eqGuard op t p q a b;binOp op t a b:Sem Value).run P w=.ok u w/\AR w Z loc [] d u:=by
 unfold qav at h
 split at h
 ·rename_i k m k' n
  cases hx;cases hy
  cases hk:decide (k=k')
  ·simp[hk]at h
  ·simp only[hk,cW]at h
   have hk:=of_decide_eq_true hk
   subst hk
   cases op<;>simp only[qa1,Option.map_some,Option.map_none]at h<;>first
    |cases h;done
    | (cases h;exact⟨_,by simp[go_sem],.v⟩)
 ·rename_i m n
  cases hx;cases hy
  cases op<;>simp only[qax,qNe,Option.map_some,Option.map_none,<-qVe]at h<;>first
   |cases h;done
   | (cases h;exact⟨_,by simp[go_sem,binOp,Op.stringOp],.v⟩)
 ·rename_i m n
  cases hx;cases hy
  split at h
  ·rename_i s b z ht
   have hu:=qPV T ht
   cases h;refine⟨_,?_,.v⟩
   rw[eqGuard_at_bool]
   show (do pure (.bool (<-Op.equal t (.bool m) (.bool n))):Sem Value).run P w=_
   simp only[Sem.run_bind,qMo hu,Result.andThen_ok,Sem.run_pure]
  ·rename_i s b z ht
   have hu:=qPV T ht
   cases h;refine⟨_,?_,.v⟩
   rw[eqGuard_at_bool]
   show (do pure (.bool (!(<-Op.equal t (.bool m) (.bool n)))):Sem Value).run P w=_
   simp only[Sem.run_bind,qMo hu,Result.andThen_ok,Sem.run_pure]
  ·cases h
 ·cases h
theorem qNA {P:Program} {te:TE} (T:qGz P te) {σ:St} {o:Oper} {d:D} (h:qMX te σ o.op=some d):OpV P σ o d:=by
 refine OpV.of_val fun E a w Z loc fps R=>?_
 have qUf:∀{s:Sem Value},(∃u,s.run P w=.ok u w/\AR w Z loc [] d u)->∃v,(do pure (Next.value (<-s)):Sem Next).run P w=.ok (.value v) w/\AR w Z loc [] d v:=by
  rintro s ⟨u,h1,h2⟩
  exact⟨u,by simp[h1],h2⟩
 unfold qMX at h
 split at h
 case h_1 x ho=>exact⟨_,by simp[execOp,ho],R.ev h⟩
 case h_2 x ho=>exact⟨_,by simp[execOp,ho],R.ev h⟩
 case h_3 c x y ho =>
  split at h
  ·rename_i hc
   have:=R.ev hc
   generalize hv:a.eval c=v at this
   cases this
   exact⟨_,by simp[execOp,ho,hv,asBool],R.ev h⟩
  ·rename_i hc
   have:=R.ev hc
   generalize hv:a.eval c=v at this
   cases this
   exact⟨_,by simp[execOp,ho,hv,asBool],R.ev h⟩
  ·cases h
 case h_4 t x ho =>
  split at h
  ·rename_i ti p hti hp
   split at h
   ·rename_i ds hat
    have:=qUf (R.loadAt T hti (R.ev hp) hat h)
    simpa [execOp,ho]using this
   ·cases h
  ·cases h
 case h_5 t x f ho =>
  split at h
  ·rename_i p hp
   have:=qUf (qSv T (R.ev hp) h)
   simpa [execOp,ho]using this
  ·cases h
 case h_6 t x f ho =>
  split at h
  ·rename_i p hp
   have:=qUf (qWC T (R.ev hp) h)
   simpa [execOp,ho]using this
  ·cases h
 case h_7 x i ho =>
  split at h
  ·rename_i ds hx
   have:=R.ev hx
   generalize hv:a.eval x=v at this
   cases this with
   | @t _ _ _ arr h1 =>
    have key:∀{ds:List D} {vs:List Value} {fp} {i:Nat},ART w Z loc fp ds vs->fp=[]->ds[i]?=some d->∃u,vs[i]?=some u/\AR w Z loc [] d u:=by
     intro ds
     induction ds with
     |nil=>intro vs fp i _ _ h;simp at h
     |cons d' ds ih =>
      intro vs fp i hh hfp hi
      cases hh with
      | @cons _ fp1 fp2 _ v _ vs h1 h2 =>
       obtain⟨rfl,rfl⟩:fp1=[]/\fp2=[]:=List.append_eq_nil_iff.1 hfp
       cases i with
       |zero=>simp at hi;subst hi;exact⟨v,rfl,h1⟩
       |succ i=>simpa using ih h2 rfl (by simpa using hi)
    obtain⟨u,h2,h3⟩:=key h1 rfl h
    refine⟨u,?_,h3⟩
    rw[Array.getElem?_toList]at h2
    simp[execOp,ho,hv,Instr.extract,h2]
  ·cases h
 case h_8 f first caps ho =>
  cases hf:first.isEmpty
  ·simp[hf]at h
  ·simp only[hf,cW]at h
   split at h
   ·rename_i ds hds
    cases hp:ds.all D.isPtr
    ·simp[hp]at h
    ·simp only[hp,cW]at h;cases h
     have:=(qIx R hds).arl hp
     have hfirst:first=#[]:=by simpa using hf
     subst hfirst
     exact⟨.func (.func f) #[] (caps.map a.eval),by simp[execOp,ho,Instr.makeFunc],.f (by simpa using this)⟩
   ·cases h
 case h_9 t x ho =>
  split at h
  ·rename_i b hx
   have:=R.ev hx
   generalize hv:a.eval x=v at this
   cases this;cases h
   exact⟨_,by simp[execOp,ho,hv,Op.unary],.v⟩
  ·cases h
 case h_10 op t x y yt ho =>
  split at h
  ·rename_i p q hp hq
   have:=qUf (qY8 T (p:=x) (q:=y) (R.ev hp) (R.ev hq) h)
   simpa [execOp,ho]using this
  ·cases h
 case h_11 t parts ho =>
  split at h
  ·rename_i ps hps
   have h1:=qLs R hps
   have:=qUf (qWV T (parts':=parts.map fun (i,x)=>(i,a.eval x)) (by simpa using h1) h)
   simpa [execOp,ho]using this
  ·cases h
 case h_12 x ho =>
  split at h
  ·rename_i p hp
   have:=R.ev hp
   unfold qSf at h
   split at h
   all_goals first|(cases h;done)|skip
   all_goals
    cases h
    generalize hv:a.eval x=v at this
    cases this
   ·rename_i L h1;exact⟨_,by simp[execOp,ho,hv],.p h1⟩
   ·rename_i L h1;exact⟨_,by simp[execOp,ho,hv],.e h1⟩
   ·rename_i h1 h2 h3;exact⟨_,by simp[execOp,ho,hv],.q h1 h2 h3⟩
   ·rename_i arr h1;exact⟨_,by simp[execOp,ho,hv],.f h1⟩
  ·cases h
 case h_13 args ts ho =>
  split at h
  ·rename_i x t hargs hts
   split at h
   ·rename_i p hp
    have e1:args=#[x]:=by apply Array.ext';simpa using hargs
    have e2:ts=#[t]:=by apply Array.ext';simpa using hts
    subst e1 e2
    have:=qUf (qYc T (ty:=o.type) (R.evr hp) h)
    simpa [execOp,ho,resolve,invoke,builtin]using this
   ·cases h
  ·cases h
 case h_14=>cases h
end Go.AM
end
section
namespace Go.AM
def qUf (E:Env) (Q:Exit->St->Prop):Exit->Act->World->Prop:=fun e a w=>∃σ',Q e σ'/\qSg E σ' a w
def AW (P:Program) (c:Code) (Q:Exit->St->Prop) (σ:St):Prop:=∀E a w,qSg E σ a w->c.wp P (qUf E Q) a w
theorem Oper.wp_false {P:Program} {o:Oper} {a:Act} {w:World} {K:Act->World->Prop} {Q:Exit->Act->World->Prop}
  (h:o.wp P a w K (fun _ _ _=>False)):o.wp P a w K Q:=by
 unfold Oper.wp at *
 generalize (execOp a.eval o).run P w=r at *
 cases r with
 |ok n w' =>
  cases n<;>simp only[Oper.upon]at h⊢ <;>
   first
    |exact h
    |exact Calls.mono h (fun e w'' he=>by
      cases e with
      |returned v=>exact he
      |panicked c=>exact he.elim
      |outgrown=>obtain⟨_,_,h⟩:=he;exact h.elim)
 |halt x w'=>cases x<;>simp only[Oper.upon]at h⊢
@[reducible] def thenQ (P:Program) (y:Code) (Q:Exit->St->Prop):Exit->St->Prop
 |.normal,σ=>AW P y Q σ
 |.exit id,σ=>Q (.exit id) σ
 |.goto l,σ=>Q (.goto l) σ
 |.ret,σ=>Q .ret σ
 |.panic c,σ=>Q (.panic c) σ
 |.outgrown,σ=>Q .outgrown σ
@[reducible] def blockQ (id:Nat) (Q:Exit->St->Prop):Exit->St->Prop
 |.normal,σ=>Q .normal σ
 |.exit id',σ=>bif Nat.beq id' id then Q .normal σ else Q (.exit id') σ
 |.goto l,σ=>Q (.goto l) σ
 |.ret,σ=>Q .ret σ
 |.panic c,σ=>Q (.panic c) σ
 |.outgrown,σ=>Q .outgrown σ
section
variable {P:Program} {Q:Exit->St->Prop} {σ:St}
theorem AW.q {x y:Code} (h:AW P x (thenQ P y Q) σ):AW P (.seq x y) Q σ:=by
 intro E a w R
 refine wp_seq (wp_mono (h E a w R) ?_)
 rintro e a' w' ⟨σ',h1,h2⟩
 cases e with
 |normal=>exact h1 E a' w' h2
 |exit id=>exact⟨σ',h1,h2⟩
 |goto l=>exact⟨σ',h1,h2⟩
 |ret=>exact⟨σ',h1,h2⟩
 |panic c=>exact⟨σ',h1,h2⟩
 |outgrown=>exact⟨σ',h1,h2⟩
theorem AW.b {id:Nat} {c:Code} (h:AW P c (blockQ id Q) σ):AW P (.block id c) Q σ:=by
 intro E a w R
 refine wp_block (wp_mono (h E a w R) ?_)
 rintro e a' w' ⟨σ',h1,h2⟩
 cases e with
 |normal=>exact⟨σ',h1,h2⟩
 |exit id' =>
  simp only[Exit.inBlock]
  simp only[blockQ]at h1
  split
  ·rename_i e;subst e;simp at h1;exact⟨σ',h1,h2⟩
  ·rename_i e
   have:Nat.beq id' id=false:=by cases hb:Nat.beq id' id;rfl;exact absurd (Nat.eq_of_beq_eq_true hb) e
   rw[this]at h1;exact⟨σ',h1,h2⟩
 |goto l=>exact⟨σ',h1,h2⟩
 |ret=>exact⟨σ',h1,h2⟩
 |panic c=>exact⟨σ',h1,h2⟩
 |outgrown=>exact⟨σ',h1,h2⟩
theorem AW.k (h:Q .normal σ):AW P .skip Q σ:=fun _ _ _ R=>wp_skip ⟨σ,h,R⟩
theorem AW.exit {id:Nat} (h:Q (.exit id) σ):AW P (.exit id) Q σ:=fun _ _ _ R=>wp_exit ⟨σ,h,R⟩
theorem AW.t (h:Q .ret σ):AW P .ret Q σ:=fun _ _ _ R=>wp_ret ⟨σ,h,R⟩
theorem AW.c {c:Operand} {x y:Code} {b:Bool} (hc:σ.ev c=some (.v (.bool b))) (h1:b=true->AW P x Q σ) (h2:b=false->AW P y Q σ):AW P (.cond c x y) Q σ:=by
 rintro E a w ⟨Z,loc,fps,R⟩
 have:=R.ev hc
 generalize hv:a.eval c=v at this
 cases this
 exact wp_cond_split hv (fun e=>h1 e E a w ⟨Z,loc,fps,R⟩) (fun e=>h2 e E a w ⟨Z,loc,fps,R⟩)
theorem AW.condT {c:Operand} {x y:Code} (hc:σ.ev c=some (.v (.bool true))) (h1:AW P x Q σ):AW P (.cond c x y) Q σ:=AW.c hc (fun _=>h1) (fun e=>by cases e)
theorem AW.condF {c:Operand} {x y:Code} (hc:σ.ev c=some (.v (.bool false))) (h1:AW P y Q σ):AW P (.cond c x y) Q σ:=AW.c hc (fun e=>by cases e) (fun _=>h1)
theorem AW.mono {c:Code} {Q':Exit->St->Prop} (h:AW P c Q σ) (hq:∀e σ,Q e σ->Q' e σ):AW P c Q' σ :=
 fun E a w R=>wp_mono (h E a w R) fun e a' w' ⟨σ',h1,h2⟩=>⟨σ',hq _ _ h1,h2⟩
@[reducible] def loopQ (I:Nat->St->Prop) (k:Nat) (Q:Exit->St->Prop):Exit->St->Prop
 |.normal,σ=>∃k',k'<k/\I k' σ
 |.exit id,σ=>Q (.exit id) σ
 |.goto l,σ=>Q (.goto l) σ
 |.ret,σ=>Q .ret σ
 |.panic c,σ=>Q (.panic c) σ
 |.outgrown,σ=>Q .outgrown σ
theorem AW.loop {c:Code} (I:Nat->St->Prop) {k:Nat} (h0:I k σ) (round:∀k σ,I k σ->AW P c (loopQ I k Q) σ):AW P (.loop c) Q σ:=by
 intro E a w R b ks cs
 have key:∀n σ a w,I n σ->qSg E σ a w->∃e a' w',qUf E Q e a' w'/\Arrives P (lone (b.at a (.code c::.inLoop c::ks)) cs w) b ks cs e a' w':=by
  intro n
  induction n using Nat.strongRecOn with
  |_ n ih =>
   intro σ a w hI hR
   obtain⟨e,a₁,w₁,⟨σ₁,hq,hR₁⟩,harr⟩:=round n σ hI E a w hR b (.inLoop c::ks) cs
   cases e with
   |normal =>
    obtain⟨k',hlt,hI'⟩:=hq
    obtain⟨e₂,a₂,w₂,hq₂,harr₂⟩:=ih k' hlt σ₁ a₁ w₁ hI' hR₁
    exact⟨e₂,a₂,w₂,hq₂,.of_steps (Steps.trans harr (.one step_inLoop)) harr₂⟩
   |exit id=>exact⟨_,a₁,w₁,⟨σ₁,hq,hR₁⟩,.pass (x:=.inLoop c) rfl (fun _ _=>.inl (by simp)) harr⟩
   |goto l=>exact⟨_,a₁,w₁,⟨σ₁,hq,hR₁⟩,.pass (x:=.inLoop c) rfl (fun _ _=>.inl (by simp)) harr⟩
   |ret=>exact⟨_,a₁,w₁,⟨σ₁,hq,hR₁⟩,.pass (x:=.inLoop c) rfl (fun _ _=>.inl (by simp)) harr⟩
   |panic ch=>exact⟨_,a₁,w₁,⟨σ₁,hq,hR₁⟩,.pass (x:=.inLoop c) rfl (fun _ _=>.inl (by simp)) harr⟩
   |outgrown=>exact⟨_,a₁,w₁,⟨σ₁,hq,hR₁⟩,.pass (x:=.inLoop c) rfl (fun _ _=>.inl (by simp)) harr⟩
 obtain⟨e,a',w',hq,harr⟩:=key k σ a w h0 R
 exact⟨e,a',w',hq,.of_steps (.one step_loop) harr⟩
end
def AO (P:Program) (ops:Array Oper) (l:List Oper) (Q:Exit->St->Prop) (σ:St):Prop :=
 ops.toList.drop (ops.size-l.length)=l->l.length<=ops.size->∀E a w,qSg E σ a w->wpOps P ops (qUf E Q) (List.range' (ops.size-l.length) l.length) a w
def St.wants (ops:Array Oper) (σ:St) (o:Oper):Option Bool :=
 match o.guard with
 |none=>some true
 |some (j,want) =>
  match (ops[j]?).bind (·.dst) with
  |some k=>(match get σ.t k with|some (.v (.bool b))=>some (b==want)|_=>none)
  |none=>none
theorem RelV.wants {E σ a w Z loc fps} (R:RelV E σ a w Z loc fps) {ops:Array Oper} {o:Oper} {r:Bool} (h:σ.wants ops o=some r):Region.wanted o (yielded ops a.tmps)=r:=by
 unfold St.wants at h
 unfold Region.wanted
 split at h
 ·rename_i hg;cases h;simp[hg]
 ·rename_i j want hg
  simp only[hg]
  split at h
  ·rename_i k hk
   split at h
   ·rename_i b hb
    cases h
    obtain⟨v,h1,h2⟩:=R.temps _ _ hb
    cases h2
    simp[yielded,hk,h1]
   ·cases h
  ·cases h
section
variable {P:Program} {Q:Exit->St->Prop} {σ σ':St} {ops:Array Oper} {o:Oper} {rest:List Oper}
theorem AO.n (h:Q .normal σ):AO P ops [] Q σ:=by
 intro _ _ E a w R
 simp only[List.length_nil,List.range'_zero,wpOps]
 exact⟨σ,h,R⟩
theorem AO.idx (h:ops.toList.drop (ops.size-(o::rest).length)=o::rest) (hl:(o::rest).length<=ops.size) :
  ops[ops.size-(o::rest).length]?=some o/\ops.toList.drop (ops.size-rest.length)=rest/\List.range' (ops.size-(o::rest).length) (o::rest).length=(ops.size-(o::rest).length)::List.range' (ops.size-rest.length) rest.length:=by
 have e:ops.size-rest.length=ops.size-(o::rest).length+1:=by simp at hl⊢;omega
 refine⟨?_,?_,?_⟩
 ·have:=congrArg (·[0]?) h
  simpa [List.getElem?_drop]using this
 ·rw[e,<-List.drop_drop,h];rfl
 ·rw[e];simp only[List.length_cons,List.range'_succ]
theorem AO.s (hw:σ.wants ops o=some true) (h:qKh P σ o σ') (hr:AO P ops rest Q σ'):AO P ops (o::rest) Q σ:=by
 rintro hd hl E a w ⟨Z,loc,fps,R⟩
 obtain⟨h1,h2,h3⟩:=AO.idx hd hl
 rw[h3]
 simp only[wpOps,h1,R.wants hw,if_true]
 refine .inl (Oper.wp_mono ?_ (Oper.wp_false (h E a w ⟨Z,loc,fps,R⟩)))
 intro a' w' R'
 exact hr h2 (by simp at hl;omega) E a' w' R'
theorem AO.skip (hw:σ.wants ops o=some false) (hd:qBb σ o=true) (hr:AO P ops rest Q (σ.put o.dst .u)):AO P ops (o::rest) Q σ:=by
 rintro hd' hl E a w ⟨Z,loc,fps,R⟩
 obtain⟨h1,h2,h3⟩:=AO.idx hd' hl
 rw[h3]
 simp only[wpOps,h1,R.wants hw]
 exact hr h2 (by simp at hl;omega) E _ w ⟨Z,loc,fps,R.put (qA7 hd) .u⟩
theorem AW.r {id:Nat} (h:AO P ops ops.toList Q σ):AW P (.region id ops false) Q σ:=by
 intro E a w R
 refine wp_region ?_
 have:=h (by simp) (by simp) E a w R
 simpa [List.range_eq_range']using this
theorem AO.pure {te:TE} (T:qGz P te) {d:D} (hw:σ.wants ops o=some true) (hd:qBb σ o=true) (h:qMX te σ o.op=some d) (hr:AO P ops rest Q (σ.put o.dst d)):AO P ops (o::rest) Q σ :=
 AO.s hw ((qNA T h).ok hd) hr
end
end Go.AM
end
section
namespace Go.AM
theorem qG6 (w:World) (o:Obj):Ext w { w with heap:=w.heap.push o } :=
 ⟨by simp,fun b hb=>by simp[Array.getElem?_push,Nat.ne_of_lt hb],rfl,rfl,rfl,Nat.le_refl _⟩
theorem Ext.shape {w w':World} (X:Ext w w'):∀b,b<w.heap.size->w'.shape? b=w.shape? b:=fun b hb=>by simp only[World.shape?,X.same b hb]
theorem qPX (w:World) (o:Obj):({ w with heap:=w.heap.push o }:World).heap[w.heap.size]?=some o:=by simp
theorem Rel.newRoot {E σ a w Z loc fps} (R:Rel E σ a w Z loc fps) {id:Nat} (hid:get σ.h id=none) {ρ:Root} {L:Loc} {o:Obj} (hb:L.b=w.heap.size)
  (hroot:RootRel { w with heap:=w.heap.push o } Z (qNE loc id L) [w.heap.size] L ρ) :
  Rel E { σ with h:=(id,ρ)::σ.h } a { w with heap:=w.heap.push o } Z (qNE loc id L) (qHN fps id [w.heap.size]) :=
 Rel.setRoot (ks:=[]) R (by simp) (fun b hb _=>(qG6 w o).same b hb) (qG6 w o).shape rfl rfl ⟨rfl,Nat.le_refl _⟩ (by simp) (by simp) (.inl (R.fresh id hid)) (fun _ h=>h) (fun _ h=>.inl h) hroot
theorem qCX (loc:Nat->Option Loc) (id:Nat) (L:Loc):qNE loc id L id=some L:=by simp[qNE]
theorem qH3 {loc:Nat->Option Loc} {id:Nat} {L:Loc} (h:loc id=none):∀i L',loc i=some L'->qNE loc id L i=some L':=by
 intro i L' hi
 unfold qNE;split
 ·rename_i e;subst e;rw[h]at hi;cases hi
 ·exact hi
theorem Rel.newBox {E σ a w Z loc fps} (R:Rel E σ a w Z loc fps) {id:Nat} (hid:get σ.h id=none) {ds:List D} {arr:Array Value} {el:TypeId} (h:ARL w Z loc [] ds arr.toList) :
  Rel E { σ with h:=(id,.box ds)::σ.h } a { w with heap:=w.heap.push (.cells arr el) } Z (qNE loc id ⟨w.heap.size,0,0,0,0⟩) (qHN fps id [w.heap.size]) :=
 R.newRoot hid rfl ⟨rfl,rfl,arr,el,by simp,h.mono (fun _ h=>h) (qH3 (R.fresh id hid)) (fun b hb=>(qG6 w _).same b (hb.elim (R.zlt b) (fun h=>by simp at h)))⟩
section
variable {P:Program} {te:TE} (T:qGz P te) {σ:St} {o:Oper}
include T
theorem zA {elem:Nat} {ti:TI} {z:Value} (ho:o.op=.alloc elem) (id:Nat) (ht:te elem=some ti) (hz:ti.zero=some z) (hid:get σ.h id=none) (hone:z.cells.toList.all (·.oneCell')=true) (hd:qBb σ o=true) :
  qKh P σ o (St.put { σ with h:=(id,.box (z.cells.toList.map constCell))::σ.h } o.dst (.p id 0)):=by
 rintro E a w ⟨Z,loc,fps,R⟩
 have hrun:(execOp a.eval o).run P w=.ok (.value (.pointer (some ⟨w.heap.size,0,none⟩))) { w with heap:=w.heap.push (.cells z.cells elem) }:=by
  simp[execOp,ho,Instr.alloc,qDV T ht hz,newVar,newRow]
 unfold Oper.wp
 rw[hrun]
 have R':=R.newBox hid (el:=elem) (ARL.constCells z.cells.toList hone)
 exact⟨_,_,_,R'.put (qA7 hd) (AR.p (L:=⟨w.heap.size,0,0,0,0⟩) (off:=0) (qCX _ _ _))⟩
theorem zBx {elem:Nat} {x:Operand} {d:D} {ds:List D} (ho:o.op=.box elem x) (id:Nat) (hx:σ.ev x=some d) (hds:d.cells?=some ds) (hid:get σ.h id=none) (hd:qBb σ o=true) :
  qKh P σ o (St.put { σ with h:=(id,.box ds)::σ.h } o.dst (.p id 0)):=by
 rintro E a w ⟨Z,loc,fps,R⟩
 have hrun:(execOp a.eval o).run P w=.ok (.value (.pointer (some ⟨w.heap.size,0,none⟩))) { w with heap:=w.heap.push (.cells (a.eval x).cells elem) }:=by
  simp[execOp,ho,Instr.box,newVar,newRow]
 unfold Oper.wp
 rw[hrun]
 have R':=R.newBox hid (el:=elem) (D.cells_rel hds (R.ev hx))
 exact⟨_,_,_,R'.put (qA7 hd) (AR.p (L:=⟨w.heap.size,0,0,0,0⟩) (off:=0) (qCX _ _ _))⟩
end
def D.plain:D->Bool
 |.v _=>true
 |.s _=>true
 |.w _ []=>true
 |.mi _=>true
 |_=>false
theorem AR.plain {w Z loc d v} (hp:d.plain=true) (h:AR w Z loc [] d v) (loc':Nat->Option Loc):AR w Z loc' [] d v:=by
 generalize hfp:([]:List Nat)=fp at h
 cases h<;>first
  |exact .v
  |exact .s0
  |exact .w0
  | (rename_i h1 h2 h3 h4 h5 h6;exact .s h1 h2 h3 h4 h5 h6)
  | (rename_i h1 h2 h3;exact .mi h1 h2 h3)
  | (simp[D.plain]at hp;done)
  | (cases hfp;done)
theorem ARL.plain {w Z loc}:∀{ds vs},(ds.all D.plain)=true->ARL w Z loc [] ds vs->∀loc',ARL w Z loc' [] ds vs
 |ds,vs,hp,h,loc'=>ARL.of_get h.length fun i d v h1 h2=>by
  obtain⟨v',h3,h4,h5⟩:=h.get0 h1
  rw[h3]at h2;cases h2
  exact⟨h4,h5.plain (List.all_eq_true.1 hp d (List.mem_of_getElem? h1)) loc'⟩
theorem qCV (w:World) (g:Nat) (cs:Array Value) (k:Nat) (h:k≠g):(w.setRow g cs).heap[k]?=w.heap[k]?:=by
 simp only[World.setRow,Array.getElem?_modify]
 rw[if_neg (by omega)]
theorem qFM (w:World) (g:Nat) (cs:Array Value):(w.setRow g cs).heap.size=w.heap.size:=by simp[World.setRow]
theorem qLn {w:World} {g:Nat} {arr:Array Value} {el fz} (hg:w.heap[g]?=some (.cells arr el fz)) {cs:Array Value} (hs:cs.size=arr.size):∀b,b<w.heap.size->(w.setRow g cs).shape? b=w.shape? b:=by
 intro b hb
 by_cases e:b=g
 ·subst e
  simp only[World.shape?,setRow_heap w b arr cs el fz hg,hg,hs]
 ·simp only[World.shape?,qCV w g cs b e]
theorem qNa {P:Program} {te:TE} (T:qGz P te) {t:Nat} {ti:TI} (ht:te t=some ti) {w:World} {b off:Nat} {arr:Array Value} {el} {v:Value}
  (hb:w.heap[b]?=some (.cells arr el (0,0))) (hsz:v.cells.size=ti.size) (hoff:off+v.cells.size<=arr.size) (h1:∀x∈v.cells.toList,x.oneCell'=true) :
  (storeVar t ⟨b,off,none⟩ v).run P w=.ok () (w.setRow b (qAU arr.toList off v.cells.toList).toArray):=by
 have:=run_storeCells_at (P:=P) b off el v.cells.toList 0 arr w hb (by simpa using hoff) h1
 simp only[storeVar,Sem.run_bind,qAm T ht,Result.andThen_ok,hsz,ne_eq,not_true_eq_false,if_false,Sem.run_pure]
 simpa [qAU]using this
section
variable {P:Program} {te:TE} (T:qGz P te) {σ:St} {o:Oper}
include T
theorem qTr {t:Nat} {x y:Operand} {ti:TI} {id off:Nat} {ds vs:List D} {d:D} (ho:o.op=.store t x y) (ht:te t=some ti) (hx:σ.ev x=some (.p id off)) (hy:σ.ev y=some d)
  (hg:get σ.h id=some (.box ds)) (hv:d.cells?=some vs) (hsz:vs.length=ti.size) (hoff':Nat.ble (off+vs.length) ds.length=true) (hdst:o.dst=none) :
  qKh P σ o { σ with h:=(id,.box (qAU ds off vs))::σ.h }:=by
 have hoff:=Nat.le_of_ble_eq_true hoff'
 rintro E a w ⟨Z,loc,fps,R⟩
 obtain⟨L,h1,e1,e2,arr,el,h3,h4⟩:=R.roots id _ ⟨hg,by simp⟩
 have hvs:=D.cells_rel hv (R.ev hy)
 have hpx:=R.ev hx
 generalize hax:a.eval x=px at hpx
 cases hpx with
 |p h1' =>
  rw[h1]at h1';cases h1'
  have hlen:(a.eval y).cells.size=vs.length:=by have:=hvs.length;simp at this;exact this.symm
  have hlen2:=h4.length
  simp only[Array.length_toList]at hlen2
  have hst:=qNa T ht (off:=off) (v:=a.eval y) h3 (by omega) (by omega) hvs.one
  have hrun:(execOp a.eval o).run P w=.ok .skip (w.setRow L.b (qAU arr.toList off (a.eval y).cells.toList).toArray):=by
   simp only[execOp,ho,hax,Instr.storeAt,Instr.sureAddr,Sem.run_bind,Sem.run_pure,Result.andThen_ok,e1,Nat.zero_add,hst]
  unfold Oper.wp
  rw[hrun]
  simp only[Oper.upon,hdst]
  have hown:=R.owned id _ L.b ⟨hg,by simp⟩ (by rw[e2];simp)
  refine⟨Z,_,_,Rel.setRoot (ks:=[]) (L0:=L) (fp0:=fps id) R (by rw[qFM];exact Nat.le_refl _) ?_ ?_ rfl rfl ⟨rfl,Nat.le_refl _⟩ ?_ (R.nodup id _ ⟨hg,by simp⟩) (.inr h1) (fun _ h=>h) (fun _ h=>.inl h) ?_⟩
  ·intro b hb hn
   refine qCV _ _ _ _ fun e=>?_
   subst e
   exact hn id _ (.inl rfl) ⟨hg,by simp⟩ (by rw[e2];simp)
  ·exact qLn h3 (by
    have hh:(a.eval y).cells.toList.length=vs.length:=by rw[Array.length_toList,hlen]
    unfold qAU;simp only[List.size_toArray,List.length_append,List.length_take,List.length_drop,Array.length_toList,hh,hlen];omega)
  ·intro b hb
   rw[qFM]
   exact⟨(R.owned id _ b ⟨hg,by simp⟩ hb).2.1,.inr ⟨id,_,.inl rfl,⟨hg,by simp⟩,hb⟩⟩
  ·refine⟨e1,e2,_,el,setRow_heap w L.b arr _ el _ h3,?_⟩
   have hlm:∀i L',loc i=some L'->qNE loc id L i=some L':=by
    intro i L' hi
    unfold qNE;split
    ·rename_i e;subst e;rw[h1]at hi;exact hi
    ·exact hi
   have:=(h4.splice0 hvs off).mono (w':=w.setRow L.b (qAU arr.toList off (a.eval y).cells.toList).toArray) (Z':=Z) (fun _ h=>h) hlm (fun b hb=>qCV _ _ _ _ fun e=>by
    subst e;exact hb.elim hown.1 (fun h=>by simp at h))
   simpa using this
end
end Go.AM
end
section
namespace Go.AM
theorem qEo {α:Type} {sz:Nat}:∀{xs:List (List α)},(∀x∈xs,x.length=sz)->xs.flatten.length=xs.length*sz
 | [],_=>by simp
 |x::xs,h=>by
  have:=qEo (xs:=xs) (fun y hy=>h y (List.mem_cons_of_mem _ hy))
  simp only[List.flatten_cons,List.length_append,this,h x (by simp),List.length_cons]
  rw[Nat.succ_mul];omega
theorem qPW {α:Type} {sz:Nat}:∀{xs:List (List α)} (i:Nat),(∀x∈xs,x.length=sz)->xs.flatten.drop (i*sz)=(xs.drop i).flatten
 |_,0,_=>by simp
 | [],i+1,_=>by simp
 |x::xs,i+1,h=>by
  have ih:=qPW (xs:=xs) i (fun y hy=>h y (List.mem_cons_of_mem _ hy))
  have hx:=h x (by simp)
  rw[List.flatten_cons,List.drop_append,List.drop_of_length_le (by rw[hx,Nat.succ_mul];omega),List.nil_append,List.drop_succ_cons,<-ih,hx]
  congr 1;rw[Nat.succ_mul];omega
theorem qSS {α:Type} {sz:Nat}:∀{xs:List (List α)} (i:Nat),(∀x∈xs,x.length=sz)->xs.flatten.take (i*sz)=(xs.take i).flatten
 |_,0,_=>by simp
 | [],i+1,_=>by simp
 |x::xs,i+1,h=>by
  have ih:=qSS (xs:=xs) i (fun y hy=>h y (List.mem_cons_of_mem _ hy))
  have hx:=h x (by simp)
  rw[List.flatten_cons,List.take_append,List.take_of_length_le (by rw[hx,Nat.succ_mul];omega),List.take_succ_cons,List.flatten_cons,<-ih,hx]
  congr 2;rw[Nat.succ_mul];omega
theorem qMN {α:Type} {sz:Nat} {xs:List (List α)} {i:Nat} {cs:List α} (h:∀x∈xs,x.length=sz) (hi:xs[i]?=some cs):(xs.flatten.drop (i*sz)).take sz=cs:=by
 rw[qPW i h]
 have hlt:i<xs.length:=(List.getElem?_eq_some_iff.1 hi).1
 have e:xs[i]=cs:=(List.getElem?_eq_some_iff.1 hi).2
 rw[List.drop_eq_getElem_cons hlt,e,List.flatten_cons,List.take_append,h cs (e▸List.getElem_mem hlt)]
 have hc:=h cs (e▸List.getElem_mem hlt)
 rw[List.take_of_length_le (by omega)];simp
theorem qHT {i n sz:Nat} (h:i<n):i*sz+sz<=n*sz:=by rw[<-Nat.succ_mul];exact Nat.mul_le_mul_right _ h
theorem qTh {α:Type} {sz:Nat} {xs:List (List α)} {i k:Nat} {cs vs:List α} (h:∀x∈xs,x.length=sz) (hi:xs[i]?=some cs) (hk:k+vs.length<=sz) :
  (xs.set i (qAU cs k vs)).flatten=qAU xs.flatten (i*sz+k) vs:=by
 have hlt:i<xs.length:=(List.getElem?_eq_some_iff.1 hi).1
 have e:xs[i]=cs:=(List.getElem?_eq_some_iff.1 hi).2
 have hc:cs.length=sz:=h cs (e▸List.getElem_mem hlt)
 have hm:=qHT (sz:=sz) hlt
 have h1:xs.flatten=(xs.take i).flatten++(cs++(xs.drop (i+1)).flatten):=by
  conv=>lhs;rw[<-List.take_append_drop i xs,List.drop_eq_getElem_cons hlt,e]
  simp
 have hl:(xs.take i).flatten.length=i*sz:=by
  rw[qEo (sz:=sz) (fun x hx=>h x (List.mem_of_mem_take hx)),List.length_take,Nat.min_eq_left (by omega)]
 rw[h1,List.set_eq_take_append_cons_drop,if_pos hlt,List.flatten_append,List.flatten_cons]
 generalize (xs.take i).flatten=A at hl
 generalize (xs.drop (i+1)).flatten=B
 unfold qAU
 have e1:List.take (i*sz+k) (A++(cs++B))=A++cs.take k:=by
  rw[List.take_append,List.take_of_length_le (by omega),hl,show i*sz+k-i*sz=k by omega,List.take_append,show k-cs.length=0 by omega];simp
 have e2:List.drop (i*sz+k+vs.length) (A++(cs++B))=cs.drop (k+vs.length)++B:=by
  rw[List.drop_append,List.drop_of_length_le (by omega),hl,show i*sz+k+vs.length-i*sz=k+vs.length by omega,List.drop_append,show k+vs.length-cs.length=0 by omega];simp
 rw[e1,e2];simp
theorem qLO {α:Type} (l m:List α) (base n off:Nat) (h1:base+n<=l.length) (h2:off+m.length<=n) :
  ((qAU l (base+off) m).drop base).take n=qAU ((l.drop base).take n) off m:=by
 apply List.ext_getElem?
 intro i
 rw[List.getElem?_take,List.getElem?_drop,qMI _ _ _ _ (by omega),qMI _ _ _ _ (by simp;omega),List.getElem?_take,List.getElem?_drop]
 by_cases hi:i<n
 ·rw[if_pos hi,if_pos hi]
  by_cases hc:off<=i/\i<off+m.length
  ·rw[if_pos hc,if_pos (by omega)];congr 1;omega
  ·rw[if_neg hc,if_neg (by omega)]
 ·rw[if_neg hi,if_neg hi,if_neg (by omega)]
theorem qDy {α:Type} (l m:List α) (off:Nat) (h:off+m.length<=l.length):(qAU l off m).length=l.length:=by
 unfold qAU;simp;omega
theorem ARL.getO {w Z loc fp ds vs} {i:Nat} {d:D} (h:ARL w Z loc fp ds vs) (hi:ds[i]?=some d):∃v fp',vs[i]?=some v/\v.oneCell'=true/\AR w Z loc fp' d v:=by
 induction ds generalizing fp vs i with
 |nil=>simp at hi
 |cons d' ds ih =>
  cases h with
  | @cons _ fp1 fp2 _ v _ vs h0 h1 h2 =>
   cases i with
   |zero=>simp at hi;subst hi;exact⟨v,_,rfl,h0,h1⟩
   |succ i=>simpa using ih h2 (by simpa using hi)
def D.isVS:D->Bool|.v _=>true|.s _=>true|.mi _=>true|_=>false
theorem AR.vs_fp {w Z loc fp d v} (hp:d.isVS=true) (h:AR w Z loc fp d v):AR w Z loc [] d v/\fp=[]:=by
 cases h<;>first
  |exact⟨.v,rfl⟩
  |exact⟨.s0,rfl⟩
  | (rename_i h1 h2 h3 h4 h5 h6;exact⟨.s h1 h2 h3 h4 h5 h6,rfl⟩)
  | (rename_i h1 h2 h3;exact⟨.mi h1 h2 h3,rfl⟩)
  | (simp[D.isVS]at hp;done)
theorem D.isVS_plain {d:D} (h:d.isVS=true):d.plain=true:=by cases d<;>simp_all [D.isVS,D.plain]
theorem ARL.segVS {w Z loc fp ds vs} (h:ARL w Z loc fp ds vs) (i n:Nat) (hp:((ds.drop i).take n).all D.isVS=true):ARL w Z loc [] ((ds.drop i).take n) ((vs.drop i).take n):=by
 refine ARL.of_get (by simp[h.length]) fun j d v h1 h2=>?_
 have hm:=List.all_eq_true.1 hp d (List.mem_of_getElem? h1)
 rw[List.getElem?_take]at h1 h2
 split at h1
 ·rename_i hj
  rw[if_pos hj,List.getElem?_drop]at h2
  rw[List.getElem?_drop]at h1
  obtain⟨v',fp',h3,h4,h5⟩:=h.getO h1
  rw[h3]at h2;cases h2
  exact⟨h4,(h5.vs_fp hm).1⟩
 ·cases h1
theorem ARL.spliceO {w Z loc fp ds vs ds' vs'} (h:ARL w Z loc fp ds vs) (h':ARL w Z loc [] ds' vs') (off:Nat) (hoff:off+ds'.length<=ds.length) :
  ∃fp',List.Sublist fp' fp/\ARL w Z loc fp' (qAU ds off ds') (qAU vs off vs'):=by
 have e:ds=ds.take off++((ds.drop off).take ds'.length++ds.drop (off+ds'.length)):=by
  rw[<-List.drop_drop,List.take_append_drop,List.take_append_drop]
 rw[e]at h
 obtain⟨fp1,fp2,vs1,vs2,rfl,rfl,h1,h2⟩:=h.split
 obtain⟨fp3,fp4,vs3,vs4,rfl,rfl,h3,h4⟩:=h2.split
 refine⟨fp1++fp4,?_,?_⟩
 ·exact List.Sublist.append (List.Sublist.refl _) (List.sublist_append_right _ _)
 ·have l1:=h1.length;have l3:=h3.length;have l':=h'.length
  simp only[List.length_take,List.length_drop]at l1 l3
  have:=(h1.append h').append h4
  simp only[List.append_nil]at this
  have e2:qAU (vs1++(vs3++vs4)) off vs'=vs1++vs'++vs4:=by
   unfold qAU
   rw[List.take_append,List.take_of_length_le (by omega),show off-vs1.length=0 by omega,List.drop_append,List.drop_of_length_le (by omega),List.drop_append,List.drop_of_length_le (by omega)]
   rw[show off+vs'.length-vs1.length-vs3.length=0 by omega]
   simp
  rw[e2]
  exact this
section
variable {P:Program} {te:TE} (T:qGz P te) {σ:St} {o:Oper}
include T
theorem qZE {t e:Nat} {s b z} {ti:TI} {x i:Operand} {k:IntKind} {n:Int} {xs:List (List D)} {cs:List D} (ho:o.op=.indexAddr t x i) (ht:te t=some ⟨.slice e,s,b,z⟩) (hte:te e=some ti)
  (hx:σ.ev x=some (.s xs)) (hi:σ.ev i=some (.v (.int k n))) (hn:0<=n) (hc:xs[n.toNat]?=some cs) (hsz:cs.length=ti.size):OpV P σ o (.q cs):=by
 refine OpV.of_val fun E a w Z loc fps R=>?_
 have hu:=qCE T ht
 have h1:=R.ev hx;have h2:=R.ev hi
 generalize hax:a.eval x=vx at h1
 generalize hai:a.eval i=vi at h2
 have hlt:n.toNat<xs.length:=(List.getElem?_eq_some_iff.1 hc).1
 cases h2
 cases h1 with
 |s0=>simp at hlt
 | @s _ _ b off sz arr el fz cap g1 g2 g3 g4 g5 g6 =>
  have hcs:cs.length=sz:=g3 cs (List.mem_of_getElem? hc)
  obtain rfl:ti.size=sz:=by omega
  refine⟨.pointer (some ⟨b,off+n.toNat*ti.size,none⟩),?_,?_⟩
  ·have hlt':n<xs.length:=by omega
   simp[execOp,ho,hax,hai,Instr.indexAt,asIntOf,run_underlying hu,hn,hlt',qAm T hte,Addr.add_lit]
  ·refine AR.q g1 g2 ?_
   have:=(g6.drop0 (n.toNat*ti.size)).take0 ti.size
   rw[qMN g3 hc]at this
   rw[hcs]
   have hm:=qHT (sz:=ti.size) hlt
   rw[List.drop_take,List.take_take,Nat.min_eq_left (by omega),List.drop_drop]at this
   exact this
theorem qYs {t e:Nat} {s b z} {ti:TI} {x i:Operand} {k:IntKind} {n:Int} {id lo m:Nat} {xs:List (List D)} (ho:o.op=.indexAddr t x i) (ht:te t=some ⟨.slice e,s,b,z⟩) (hte:te e=some ti)
  (hx:σ.evr x=some (.r id lo m)) (hi:σ.ev i=some (.v (.int k n))) (hg:get σ.h id=some (.row ti.size xs)) (hn:0<=n) (hlt:n.toNat<m):OpV P σ o (.e id (lo+n.toNat) 0):=by
 refine OpV.of_val fun E a w Z loc fps R=>?_
 have hu:=qCE T ht
 have h1:=R.evr hx;have h2:=R.ev hi
 generalize hax:a.eval x=vx at h1
 generalize hai:a.eval i=vi at h2
 obtain⟨L,hL,e1,_⟩:=R.roots id _ ⟨hg,by simp⟩
 cases h2
 cases h1 with
 |r g1 g2 g3 g4 g5 =>
  rw[hL]at g1;cases g1
  rcases g5 with g5|rfl
  ·omega
  ·refine⟨.pointer (some ⟨L.b,L.base+lo*L.sz+n.toNat*ti.size,none⟩),?_,?_⟩
   ·have hlt':n<m:=by omega
    simp[execOp,ho,hax,hai,Instr.indexAt,asIntOf,run_underlying hu,hn,hlt',qAm T hte,Addr.add_lit]
   ·have:=AR.e (w:=w) (Z:=Z) (loc:=loc) (i:=lo+n.toNat) (k:=0) hL
    rw[<-e1]
    rw[Nat.add_mul]at this
    simpa [Nat.add_assoc]using this
theorem qXl {t e:Nat} {s b z} {ti:TI} {x i:Operand} {k:IntKind} {n:Int} {id m:Nat} {xs:List (List D)} (ho:o.op=.indexAddr t x i) (ht:te t=some ⟨.slice e,s,b,z⟩) (hte:te e=some ti)
  (hx:σ.evr x=some (.r id 0 m)) (hi:σ.ev i=some (.v (.int k n))) (hg:get σ.h id=some (.row ti.size xs)) (hn:0<=n) (hlt:n.toNat<m):OpV P σ o (.e id n.toNat 0):=by
 have:=qYs T ho ht hte hx hi hg hn hlt
 rwa [Nat.zero_add]at this
theorem qYY {t e:Nat} {s b z} {len:Nat} {ti:TI} {x i:Operand} {k:IntKind} {n:Int} {cs:List D} (ho:o.op=.indexAddr t x i) (ht:te t=some ⟨.array len e,s,b,z⟩) (hte:te e=some ti)
  (hx:σ.ev x=some (.q cs)) (hi:σ.ev i=some (.v (.int k n))) (hn:0<=n) (hlt:n<len):OpV P σ o (.q (cs.drop (n.toNat*ti.size))):=by
 refine OpV.of_val fun E a w Z loc fps R=>?_
 have hu:=qNN T ht
 have h1:=R.ev hx;have h2:=R.ev hi
 generalize hax:a.eval x=vx at h1
 generalize hai:a.eval i=vi at h2
 cases h2
 cases h1 with
 | @q _ _ b off arr el fz h2 h3 h4 =>
  refine⟨.pointer (some ⟨b,off+n.toNat*ti.size,none⟩),?_,?_⟩
  ·simp[execOp,ho,hax,hai,Instr.indexAt,asIntOf,run_underlying hu,hn,hlt,qAm T hte,Addr.add_lit,Instr.sureAddr]
  ·refine AR.q h2 h3 ?_
   have:=h4.drop0 (n.toNat*ti.size)
   rw[List.drop_take,List.drop_drop]at this
   simpa using this
theorem qVU {t:Nat} {ti:TI} {x:Operand} {id i k sz:Nat} {xs:List (List D)} {cs:List D} {d:D} (ho:o.op=.load t x) (ht:te t=some ti) (hx:σ.ev x=some (.e id i k))
  (hg:get σ.h id=some (.row sz xs)) (hc:xs[i]?=some cs) (hk:Nat.ble (k+ti.size) sz=true) (hv:((cs.drop k).take ti.size).all D.isVS=true) (hr:qMh ti ((cs.drop k).take ti.size)=some d):OpV P σ o d:=by
 have hk:=Nat.le_of_ble_eq_true hk
 refine OpV.of_val fun E a w Z loc fps R=>?_
 have h1:=R.ev hx
 generalize hax:a.eval x=vx at h1
 obtain⟨L,hL,e1,e2,e3,e4,h3⟩:=R.roots id _ ⟨hg,by simp⟩
 have hlt:i<xs.length:=(List.getElem?_eq_some_iff.1 hc).1
 cases h1 with
 |e g1 =>
  rw[hL]at g1;cases g1
  rcases h3 with⟨h3,_⟩|⟨fpN,arr,el,e5,h4,h5,h6⟩
  ·omega
  ·have hcs:cs.length=sz:=e2 cs (List.mem_of_getElem? hc)
   have hm:=qHT (sz:=sz) hlt
   have hflat:(xs.flatten.drop (i*sz+k)).take ti.size=(cs.drop k).take ti.size:=by
    rw[<-qMN e2 hc,List.drop_take,List.take_take,Nat.min_eq_left (by omega),List.drop_drop]
   have hd0:=h6.segVS (i*sz+k) ti.size (by rw[hflat];exact hv)
   rw[hflat,List.drop_take,List.take_take,Nat.min_eq_left (by omega),List.drop_drop]at hd0
   have hpl:((cs.drop k).take ti.size).all D.plain=true:=List.all_eq_true.2 fun d hd=>D.isVS_plain (List.all_eq_true.1 hv d hd)
   obtain⟨u,h7,h8⟩:=qJu T ht (off:=L.base+i*L.sz+k) h4 (fun j v hj=>by
    rw[List.getElem?_take]at hj;split at hj
    ·rw[List.getElem?_drop]at hj;rw[e1,Nat.add_assoc L.base];exact hj
    ·cases hj) (hd0.plain hpl loc) hr
   exact⟨u,by simp[execOp,ho,hax,Instr.loadAt,Instr.sureAddr,h7],h8⟩
theorem qUL {t:Nat} {ti:TI} {x y:Operand} {id i k sz:Nat} {xs:List (List D)} {cs vs:List D} {d:D} (ho:o.op=.store t x y) (ht:te t=some ti) (hx:σ.ev x=some (.e id i k)) (hy:σ.ev y=some d)
  (hg:get σ.h id=some (.row sz xs)) (hc:xs[i]?=some cs) (hv:d.cells?=some vs) (hpl:vs.all D.plain=true) (hsz:vs.length=ti.size) (hk':Nat.ble (k+vs.length) sz=true) (hdst:o.dst=none) :
  qKh P σ o { σ with h:=(id,.row sz (xs.set i (qAU cs k vs)))::σ.h }:=by
 have hk:=Nat.le_of_ble_eq_true hk'
 rintro E a w ⟨Z,loc,fps,R⟩
 obtain⟨L,hL,e1,e2,e3,e4,h3⟩:=R.roots id _ ⟨hg,by simp⟩
 have hvs:=D.cells_rel hv (R.ev hy)
 have hlt:i<xs.length:=(List.getElem?_eq_some_iff.1 hc).1
 have hpx:=R.ev hx
 generalize hax:a.eval x=px at hpx
 have hcs:cs.length=sz:=e2 cs (List.mem_of_getElem? hc)
 have hm:=qHT (sz:=sz) hlt
 cases hpx with
 |e g1 =>
  rw[hL]at g1;cases g1
  rcases h3 with⟨h3,_⟩|⟨fpN,arr,el,e5,h4,h5,h6⟩
  ·omega
  ·have hlen:(a.eval y).cells.size=vs.length:=by have:=hvs.length;simp at this;exact this.symm
   have hxt:xs.length*sz<=L.tot*sz:=Nat.mul_le_mul_right _ e3.1
   have hst:=qNa T ht (off:=L.base+i*sz+k) (v:=a.eval y) h4 (by omega) (by omega) hvs.one
   have hrun:(execOp a.eval o).run P w=.ok .skip (w.setRow L.b (qAU arr.toList (L.base+i*sz+k) (a.eval y).cells.toList).toArray):=by
    simp only[execOp,ho,hax,Instr.storeAt,Instr.sureAddr,Sem.run_bind,Sem.run_pure,Result.andThen_ok,e1,hst]
   unfold Oper.wp
   rw[hrun]
   simp only[Oper.upon,hdst]
   obtain⟨fp',hsub,hnew⟩:=h6.spliceO (hvs.plain hpl qAi) (i*sz+k) (by rw[qEo e2];omega)
   have hnd:=R.nodup id _ ⟨hg,by simp⟩
   rw[e5]at hnd
   have hown:=R.owned id _ L.b ⟨hg,by simp⟩ (by rw[e5];simp)
   refine⟨Z,_,_,Rel.setRoot (ks:=[]) (L0:=L) (fp0:=L.b::fp') R (by rw[qFM];exact Nat.le_refl _) ?_ ?_ rfl rfl ⟨rfl,Nat.le_refl _⟩ ?_ (List.Nodup.sublist (hsub.cons_cons _) hnd) (.inr hL) (fun _ h=>h) (fun _ h=>.inl h) ?_⟩
   ·intro b hb hn
    refine qCV _ _ _ _ fun e=>?_
    subst e
    exact hn id _ (.inl rfl) ⟨hg,by simp⟩ (by rw[e5];simp)
   ·exact qLn h4 (by rw[List.size_toArray,qDy _ _ _ (by simp;omega)];simp)
   ·intro b hb
    rw[qFM]
    have hb':b∈fps id:=by rw[e5];exact(hsub.cons_cons _).subset hb
    exact⟨(R.owned id _ b ⟨hg,by simp⟩ hb').2.1,.inr ⟨id,_,.inl rfl,⟨hg,by simp⟩,hb'⟩⟩
   ·refine⟨e1,?_,by simpa using e3,e4,.inr ⟨fp',_,el,rfl,setRow_heap w L.b arr _ el _ h4,?_,?_⟩⟩
    ·intro x' hx'
     rcases List.mem_or_eq_of_mem_set hx' with h|h
     ·exact e2 x' h
     ·subst h;rw[qDy _ _ _ (by omega)];exact hcs
    ·have:(qAU arr.toList (L.base+i*sz+k) (a.eval y).cells.toList).length=arr.size:=by rw[qDy _ _ _ (by simp;omega)];simp
     simp only[List.size_toArray,this];exact h5
    ·rw[qTh e2 hc hk,List.length_set]
     have hs:((qAU arr.toList (L.base+i*sz+k) (a.eval y).cells.toList).drop L.base).take (xs.length*sz)=qAU ((arr.toList.drop L.base).take (xs.length*sz)) (i*sz+k) (a.eval y).cells.toList:=by
      rw[Nat.add_assoc];exact qLO _ _ _ _ _ (by simp;omega) (by simp;omega)
     show ARL _ _ _ _ _ (List.take _ (List.drop _ (qAU arr.toList (L.base+i*sz+k) (a.eval y).cells.toList).toArray.toList))
     simp only[hs]
     refine hnew.mono (fun _ h=>h) (fun _ _ h=>h) (fun b hb=>qCV _ _ _ _ fun e=>?_)
     subst e
     rcases hb with hb|hb
     ·exact hown.1 hb
     ·exact(List.nodup_cons.1 hnd).1 (hsub.subset hb)
end
end Go.AM
end
section
namespace Go.AM
def arD (op:BinOp) (a b:Int):Option Int:=match op with|.add=>some (a+b)|.sub=>some (a-b)|.mul=>some (a*b)|_=>none
def inI (k:IntKind) (n:Int):Prop:=k.wrap n=n
theorem qV7 {n:Int} (h:-9223372036854775808<=n/\n<=9223372036854775807):inI .i64 n:=IntWalk.i64_in n h
section
variable {P:Program} {σ:St} {o:Oper}
theorem zR {op:BinOp} {t u:Nat} {x y:Operand} {k:IntKind} {a b c:Int} (ho:o.op=.binOp op t x y u) (hx:σ.ev x=some (.v (.int k a))) (hy:σ.ev y=some (.v (.int k b)))
  (hc:arD op a b=some c) (hin:inI k c):OpV P σ o (.v (.int k c)):=by
 refine OpV.of_val fun E a' w Z loc fps R=>?_
 have h1:=R.ev hx;have h2:=R.ev hy
 generalize hax:a'.eval x=vx at h1
 generalize hay:a'.eval y=vy at h2
 cases h1;cases h2
 unfold inI at hin
 refine⟨_,?_,.v⟩
 cases op<;>simp only[arD]at hc<;>first
  | (cases hc;done)
  | (cases hc;simp[execOp,ho,hax,hay,eqGuard_at_int,binOp_add,binOp_sub,binOp_mul,Op.intArith,hin])
theorem zW {op:BinOp} {t u:Nat} {x y:Operand} {k:IntKind} {a b c:Int} (ho:o.op=.binOp op t x y u) (hx:σ.ev x=some (.v (.int k a))) (hy:σ.ev y=some (.v (.int k b)))
  (hc:arD op a b=some c):OpV P σ o (.v (.int k (k.wrap c))):=by
 refine OpV.of_val fun E a' w Z loc fps R=>?_
 have h1:=R.ev hx;have h2:=R.ev hy
 generalize hax:a'.eval x=vx at h1
 generalize hay:a'.eval y=vy at h2
 cases h1;cases h2
 refine⟨_,?_,.v⟩
 cases op<;>simp only[arD]at hc<;>first
  | (cases hc;done)
  | (cases hc;simp[execOp,ho,hax,hay,eqGuard_at_int,binOp_add,binOp_sub,binOp_mul,Op.intArith])
theorem qP7 {t u:Nat} {x y:Operand} {k:IntKind} {a b:Int} (ho:o.op=.binOp .rem t x y u) (hx:σ.ev x=some (.v (.int k a))) (hy:σ.ev y=some (.v (.int k b)))
  (hb:b≠0):OpV P σ o (.v (.int k (a.tmod b))):=by
 refine OpV.of_val fun E a' w Z loc fps R=>?_
 have h1:=R.ev hx;have h2:=R.ev hy
 generalize hax:a'.eval x=vx at h1
 generalize hay:a'.eval y=vy at h2
 cases h1;cases h2
 exact⟨_,by simp[execOp,ho,hax,hay,eqGuard_at_int,binOp_quo,binOp_rem,Op.intDiv,hb],.v⟩
theorem qAP {t u:Nat} {x y:Operand} {a b:ByteArray} (ho:o.op=.binOp .add t x y u) (hx:σ.ev x=some (.v (.string a))) (hy:σ.ev y=some (.v (.string b)))
  (hin:a.size+b.size<=qDF):OpV P σ o (.v (.string (a++b))):=by
 refine OpV.of_val fun E a' w Z loc fps R=>?_
 have h1:=R.ev hx;have h2:=R.ev hy
 generalize hax:a'.eval x=vx at h1
 generalize hay:a'.eval y=vy at h2
 cases h1;cases h2
 unfold qDF at hin
 have:¬(9223372036854775807:Int)<(a.size:Int)+(b.size:Int):=by omega
 exact⟨_,by simp[execOp,ho,hax,hay,eqGuard_at_string,binOp,Op.stringOp,this],.v⟩
theorem qR0 {x y:Operand} {ts:Array TypeId} {k:IntKind} {a b:Int} (ho:o.op=.call { callee:=.builtin .max,args:=#[x,y],argTypes:=ts }) (hx:σ.ev x=some (.v (.int k a))) (hy:σ.ev y=some (.v (.int k b))):OpV P σ o (.v (.int k (max a b))):=by
 refine OpV.of_val fun E a' w Z loc fps R=>?_
 have h1:=R.ev hx;have h2:=R.ev hy
 generalize hax:a'.eval x=vx at h1
 generalize hay:a'.eval y=vy at h2
 cases h1;cases h2
 refine⟨_,?_,.v⟩
 have:(if b>a then b else a)=max a b:=by rw[Int.max_def];split<;>split<;>omega
 simp[execOp,ho,hax,hay,resolve,invoke,builtin,Builtin.max_,Builtin.max2]
 exact this
theorem qTT {x y:Operand} {ts:Array TypeId} {k:IntKind} {a b:Int} (ho:o.op=.call { callee:=.builtin .min,args:=#[x,y],argTypes:=ts }) (hx:σ.ev x=some (.v (.int k a))) (hy:σ.ev y=some (.v (.int k b))):OpV P σ o (.v (.int k (min a b))):=by
 refine OpV.of_val fun E a' w Z loc fps R=>?_
 have h1:=R.ev hx;have h2:=R.ev hy
 generalize hax:a'.eval x=vx at h1
 generalize hay:a'.eval y=vy at h2
 cases h1;cases h2
 refine⟨_,?_,.v⟩
 have:(if b<a then b else a)=min a b:=by rw[Int.min_def];split<;>split<;>omega
 simp[execOp,ho,hax,hay,resolve,invoke,builtin,Builtin.min_,Builtin.min2]
 exact this
end
section
variable {P:Program} {te:TE} (T:qGz P te) {σ:St} {o:Oper}
include T
theorem qVI {t:Nat} {s b z} {x i:Operand} {k:IntKind} {n:Int} {str:ByteArray} {c:UInt8} (ho:o.op=.index t x i) (ht:te t=some ⟨.str,s,b,z⟩)
  (hx:σ.ev x=some (.v (.string str))) (hi:σ.ev i=some (.v (.int k n))) (hn:0<=n) (hc:str[n.toNat]?=some c):OpV P σ o (.v (.int .u8 c.toNat)):=by
 refine OpV.of_val fun E a w Z loc fps R=>?_
 have hu:=qJd T ht
 have h1:=R.ev hx;have h2:=R.ev hi
 generalize hax:a.eval x=vx at h1
 generalize hai:a.eval i=vi at h2
 cases h1;cases h2
 exact⟨_,by simp[execOp,ho,hax,hai,Instr.index,asIntOf,run_underlying hu,hn,hc],.v⟩
end
theorem qU7 {P:Program} {E σ a w Z loc fps} (R:RelV E σ a w Z loc fps) {x:Operand} {k:IntKind} {n:Int} (hx:σ.ev x=some (.v (.int k n))) (h0:0<=n) (y:Nat) (hy:n.toNat<=y) (code:BoundsCode) :
  (Instr.sliceBound (a.eval x) y code).run P w=.ok n.toNat w:=by
 have h1:=R.ev hx
 generalize a.eval x=vx at h1
 cases h1
 have:n<=y:=by omega
 simp[Instr.sliceBound,asIntOf,h0,this]
section
variable {P:Program} {te:TE} (T:qGz P te)
include T
theorem qRJ {t e:Nat} {s b z} {ti:TI} (ht:te t=some ⟨.slice e,s,b,z⟩) (hte:te e=some ti) {w:World} {A:Option Addr} {len cap l h:Nat} {lo hi:Option Value}
  (hb:(Instr.sliceBounds true len cap lo hi none).run P w=.ok (l,h,cap) w) :
  (Instr.sliceAt t (.slice A len cap) lo hi none).run P w=.ok (.slice (if cap=l then A else A.map (·.add (l*ti.size))) (h-l) (cap-l)) w:=by
 have hu:=qCE T ht
 simp only[Instr.sliceAt,Instr.slice,Sem.run_bind,run_underlying hu,Result.andThen_ok,hb,qAm T hte,Sem.run_pure]
omit T in
theorem AR.subS {w Z loc xs A len cap} {l h sz':Nat} (hA:AR w Z loc [] (.s xs) (.slice A len cap)) (hl:l<=h) (hh:h<=xs.length) (hsz:∀x∈xs,x.length=sz') :
  AR w Z loc [] (.s ((xs.take h).drop l)) (.slice (if cap=l then A else A.map (·.add (l*sz'))) (h-l) (cap-l)):=by
 by_cases hlt:l=h
 ·subst hlt
  have:(xs.take l).drop l=[]:=by simp
  rw[this,Nat.sub_self];exact .s0
 ·cases hA with
  |s0=>simp at hh;omega
  | @s _ _ b off sz arr el fz cap g1 g2 g3 g4 g5 g6 =>
   obtain rfl:sz=sz':=by
    cases xs with
    |nil=>simp at hh;omega
    |cons x xs=>rw[<-g3 x (by simp),hsz x (by simp)]
   rw[if_neg (by omega)]
   have hlen:((xs.take h).drop l).length=h-l:=by simp;omega
   have hm:=Nat.mul_le_mul_right sz hh
   have hm2:=Nat.mul_le_mul_right sz hl
   have key:=AR.s (loc:=loc) (xs:=(xs.take h).drop l) (b:=b) (off:=off+l*sz) (sz:=sz) (cap:=cap-l) g1 g2 (fun x hx=>g3 x (List.mem_of_mem_take (List.mem_of_mem_drop hx))) (by omega) (by omega) (by
    have:=(g6.take0 (h*sz)).drop0 (l*sz)
    rw[qSS h g3,qPW l (fun x hx=>g3 x (List.mem_of_mem_take hx)),List.take_take,Nat.min_eq_left hm]at this
    rw[hlen,Nat.sub_mul,<-List.drop_drop,<-List.drop_take];exact this)
   rw[hlen]at key
   simpa [Addr.add_lit]using key
variable {σ:St} {o:Oper}
theorem qSw {t e:Nat} {s b z} {ti:TI} {x y:Operand} {k:IntKind} {n:Int} {xs:List (List D)} (ho:o.op=.slice t x none (some y) none) (ht:te t=some ⟨.slice e,s,b,z⟩) (hte:te e=some ti)
  (hx:σ.ev x=some (.s xs)) (hy:σ.ev y=some (.v (.int k n))) (hn:0<=n) (hle:n.toNat<=xs.length) (hsz:∀x∈xs,x.length=ti.size):OpV P σ o (.s (xs.take n.toNat)):=by
 refine OpV.of_val fun E a w Z loc fps R=>?_
 have h1:=R.ev hx
 generalize hax:a.eval x=vx at h1
 have hA:∃A len cap,vx=.slice A len cap/\len=xs.length/\len<=cap:=by cases h1<;>exact⟨_,_,_,rfl,rfl,by first|assumption|simp⟩
 obtain⟨A,len,cap,rfl,rfl,hc⟩:=hA
 have hb:(Instr.sliceBounds true xs.length cap none (some (a.eval y)) none).run P w=.ok (0,n.toNat,cap) w:=by
  simp only[Instr.sliceBounds,Sem.run_bind,Sem.run_pure,Result.andThen_ok,qU7 R hy hn cap (by omega)]
 refine⟨_,?_,AR.subS h1 (Nat.zero_le _) hle hsz⟩
 simp only[execOp,ho,hax,Option.map_none,Option.map_some,Sem.run_bind,qRJ T ht hte hb,Result.andThen_ok,Sem.run_pure]
theorem qS6 {t e:Nat} {s b z} {ti:TI} {x y:Operand} {k:IntKind} {n:Int} {xs:List (List D)} (ho:o.op=.slice t x (some y) none none) (ht:te t=some ⟨.slice e,s,b,z⟩) (hte:te e=some ti)
  (hx:σ.ev x=some (.s xs)) (hy:σ.ev y=some (.v (.int k n))) (hn:0<=n) (hle:n.toNat<=xs.length) (hsz:∀x∈xs,x.length=ti.size):OpV P σ o (.s (xs.drop n.toNat)):=by
 refine OpV.of_val fun E a w Z loc fps R=>?_
 have h1:=R.ev hx
 generalize hax:a.eval x=vx at h1
 have hA:∃A len cap,vx=.slice A len cap/\len=xs.length/\len<=cap:=by cases h1<;>exact⟨_,_,_,rfl,rfl,by first|assumption|simp⟩
 obtain⟨A,len,cap,rfl,rfl,hc⟩:=hA
 have hb:(Instr.sliceBounds true xs.length cap (some (a.eval y)) none none).run P w=.ok (n.toNat,xs.length,cap) w:=by
  simp only[Instr.sliceBounds,Sem.run_bind,Sem.run_pure,Result.andThen_ok,qU7 R hy hn xs.length hle]
 have h3:=AR.subS h1 hle (Nat.le_refl _) hsz
 rw[List.take_length]at h3
 refine⟨_,?_,h3⟩
 simp only[execOp,ho,hax,Option.map_none,Option.map_some,Sem.run_bind,qRJ T ht hte hb,Result.andThen_ok,Sem.run_pure]
end
end Go.AM
end
section
namespace Go.AM
def qIW:Nat->List (Nat×D)->Bool
 |_,[]=>true
 |k,(i,_)::l=>Nat.beq i k&&qIW (k+1) l
def qDx:List (Nat×D)->Option (List (List D))
 | []=>some []
 | (_,d)::l=>match d.cells?,qDx l with|some c,some r=>some (c::r)|_,_=>none
theorem qRs {w Z loc} {sz:Nat}:∀{ps:List (Nat×D)} {ps':List (Nat×Value)} {xs:List (List D)} {k:Nat} {arr:Array Value} {ds:List D},
  All2 (fun (x:Nat×D) (y:Nat×Value)=>x.1=y.1/\AR w Z loc [] x.2 y.2) ps ps'->qIW k ps=true->qDx ps=some xs->(∀x∈xs,x.length=sz)->arr.size=(k+ps.length)*sz->
  ARL w Z loc [] ds (arr.toList.take (k*sz))->∃arr',Instr.fill (fun i=>some (i*sz,sz)) arr ps'=some arr'/\ARL w Z loc [] (ds++xs.flatten) arr'.toList:=by
 intro ps
 induction ps with
 |nil =>
  intro ps' xs k arr ds hf _ hc _ hsz hds
  cases hf;simp only[qDx]at hc;cases hc
  refine⟨arr,rfl,?_⟩
  rw[List.take_of_length_le (by simp[hsz])]at hds
  simpa using hds
 |cons p ps ih =>
  intro ps' xs k arr ds hf hen hc hx hsz hds
  cases hf with
  | @cons _ y _ ys hxy hrest =>
   obtain⟨i,d⟩:=p;obtain⟨j,v⟩:=y
   obtain⟨rfl,hd⟩:=hxy
   simp only[qIW,Bool.and_eq_true]at hen
   have hik:i=k:=Nat.eq_of_beq_eq_true hen.1
   subst hik
   simp only[qDx]at hc
   split at hc
   ·rename_i c r h1 h2
    cases hc
    have hcs:=D.cells_rel h1 hd
    have hl:v.cells.size=sz:=by have:=hcs.length;rw[hx c (by simp)]at this;simpa using this.symm
    have hsz':i*sz+sz<=arr.size:=by
     rw[hsz,Nat.add_mul];simp only[List.length_cons,Nat.succ_mul];omega
    simp only[Instr.fill,hl]
    rw[if_neg (by simp;omega)]
    have hfs:=qOl v.cells.toList 0 (i*sz) arr (by simp;omega)
    have heq:(v.cells.zipIdx.foldl (fun cs (x:Value×Nat)=>cs.setIfInBounds (i*sz+x.2) x.1) arr).toList=qAU arr.toList (i*sz) v.cells.toList:=by
     rw[<-Array.foldl_toList,Array.toList_zipIdx];simpa using hfs
    have hsize:(v.cells.zipIdx.foldl (fun cs (x:Value×Nat)=>cs.setIfInBounds (i*sz+x.2) x.1) arr).size=arr.size:=by
     have:=congrArg List.length heq
     rw[qDy _ _ _ (by simp;omega)]at this
     simpa using this
    have hrel:ARL w Z loc [] (ds++c) ((v.cells.zipIdx.foldl (fun cs (x:Value×Nat)=>cs.setIfInBounds (i*sz+x.2) x.1) arr).toList.take ((i+1)*sz)):=by
     rw[heq]
     have e:(qAU arr.toList (i*sz) v.cells.toList).take ((i+1)*sz)=arr.toList.take (i*sz)++v.cells.toList:=by
      unfold qAU
      rw[List.take_append,List.take_of_length_le (by simp[Nat.succ_mul];omega)]
      rw[show (i+1)*sz-(arr.toList.take (i*sz)++v.cells.toList).length=0 by simp[Nat.succ_mul];omega]
      simp
     rw[e]
     have:=hds.append hcs
     simpa using this
    obtain⟨arr',h3,h4⟩:=ih hrest hen.2 h2 (fun x hx'=>hx x (by simp[hx'])) (by rw[hsize,hsz];congr 1;simp;omega) hrel
    exact⟨arr',h3,by simpa using h4⟩
   ·cases hc
section
variable {P:Program} {te:TE} (T:qGz P te) {σ:St} {o:Oper}
include T
theorem qF6 {t e:Nat} {s b z} {ti:TI} (ho:o.op=.buildSlice t 0 #[]) (ht:te t=some ⟨.slice e,s,b,z⟩) (hte:te e=some ti) (hd:qBb σ o=true):qKh P σ o (σ.put o.dst (.w ti.size [])):=by
 rintro E a w ⟨Z,loc,fps,R⟩
 have hu:=qCE T ht
 have hrun:(execOp a.eval o).run P w=.ok (.value (.slice (some ⟨w.heap.size,0,none⟩) 0 0)) { w with heap:=w.heap.push (.cells #[] e) }:=by
  simp[execOp,ho,Instr.buildSlice,run_underlying hu,qAm T hte,Instr.fill,newRow]
  congr 2
  apply Array.ext';simp
 unfold Oper.wp
 rw[hrun]
 exact⟨Z,loc,fps,(R.ext (qG6 w _)).put (qA7 hd) .w0⟩
theorem qai {t e len:Nat} {s b z} {ti:TI} {zv:Value} {parts:Array (Nat×Operand)} {ps:List (Nat×D)} {xs:List (List D)} (ho:o.op=.buildSlice t len parts) (id:Nat) (ht:te t=some ⟨.slice e,s,b,z⟩) (hte:te e=some ti) (hz:ti.zero=some zv)
  (hev:qMU σ parts.toList=some ps) (hen:qIW 0 ps=true) (hcs:qDx ps=some xs) (hlen:Nat.beq xs.length len=true) (hsz:∀x∈xs,x.length=ti.size) (hpl:xs.flatten.all D.plain=true) (hsmall:Nat.ble (len*ti.size) 16777216=true) (hsmall':Nat.ble len 16777216=true)
  (hid:get σ.h id=none) (hd:qBb σ o=true):qKh P σ o (St.put { σ with h:=(id,.row ti.size xs)::σ.h } o.dst (.R id)):=by
 rintro E a w ⟨Z,loc,fps,R⟩
 have hu:=qCE T ht
 have hlen:=Nat.eq_of_beq_eq_true hlen
 have hsmall:=Nat.le_of_ble_eq_true hsmall
 have hps:=qLs R.toRelV hev
 have hl2:∀{ps:List (Nat×D)} {xs},qDx ps=some xs->ps.length=xs.length:=by
  intro ps
  induction ps with
  |nil=>intro xs h;simp only[qDx]at h;cases h;rfl
  |cons p ps ih =>
   intro xs h
   simp only[qDx]at h
   split at h
   ·rename_i h1 h2;cases h;simp[ih h2]
   ·cases h
 obtain⟨zero,hzero⟩:∃zero:Array Value,zero=if len*ti.size=0 then #[] else zv.cells:=⟨_,rfl⟩
 obtain⟨arr',h1,h2⟩:=qRs (sz:=ti.size) (k:=0) (arr:=(Array.range (len*ti.size)).map (zero[·% zero.size]!)) (ds:=[]) hps hen hcs hsz (by simp[hl2 hcs,hlen]) (by simpa using ARL.nil)
 have hrun:(execOp a.eval o).run P w=.ok (.value (.slice (some ⟨w.heap.size,0,none⟩) len len)) { w with heap:=w.heap.push (.cells arr' e) }:=by
  have h1':Instr.fill (fun i=>some (i*ti.size,ti.size)) ((Array.range (len*ti.size)).map (zero[·% zero.size]!)) (parts.map fun (i,x)=>(i,a.eval x)).toList=some arr':=by simpa using h1
  have hns:¬len*ti.size>2 ^ 24:=by omega
  by_cases h0:len*ti.size=0
  ·rw[if_pos h0]at hzero
   subst hzero
   simp only[execOp,ho,Instr.buildSlice,Sem.run_bind,run_underlying hu,Result.andThen_ok,qAm T hte,if_neg hns,Sem.run_pure,if_pos h0,h1',newRow,run_newObj]
  ·rw[if_neg h0]at hzero
   subst hzero
   simp only[execOp,ho,Instr.buildSlice,Sem.run_bind,run_underlying hu,Result.andThen_ok,qAm T hte,if_neg hns,Sem.run_pure,if_neg h0,qDV T hte hz,h1',newRow,run_newObj]
 unfold Oper.wp
 rw[hrun]
 have hfl:xs.flatten.length=arr'.size:=by have:=h2.length;simpa using this
 have R':=R.newRoot (id:=id) hid (ρ:=.row ti.size xs) (L:=⟨w.heap.size,0,ti.size,len,len⟩) (o:=.cells arr' e) rfl (by
  refine⟨rfl,hsz,⟨Nat.le_of_eq hlen,hlen.symm⟩,?_,.inr ⟨[],arr',e,rfl,by simp,?_,?_⟩⟩
  ·show len<=qDF
   have:=Nat.le_of_ble_eq_true hsmall'
   unfold qDF;omega
  ·simp only[Nat.zero_add];rw[<-hfl,qEo hsz,hlen];exact Nat.le_refl _
  ·simp only[List.drop_zero]
   rw[List.take_of_length_le (by rw[Array.length_toList,<-hfl,qEo hsz];exact Nat.le_refl _)]
   have h2':ARL w Z loc [] xs.flatten arr'.toList:=by simpa using h2
   exact(h2'.plain hpl qAi).mono (fun _ h=>h) (fun _ _ h=>h) (fun b hb=>(qG6 w _).same b (hb.elim (R.zlt b) (fun h=>by simp at h))))
 refine⟨_,_,_,R'.put (qA7 hd) (AR.R (L:=⟨w.heap.size,0,ti.size,len,len⟩) (qCX _ _ _) (Nat.le_refl _) ?_ (.inr rfl))⟩
 have:=Nat.le_of_ble_eq_true hsmall'
 show len<=qDF
 unfold qDF;omega
omit T in
theorem qXi (z:Array Value) (n:Nat):((Array.range (n*z.size)).map (z[·% z.size]!)).toList=(List.replicate n z.toList).flatten:=by
 apply List.ext_getElem?
 intro i
 have hrep:∀x∈List.replicate n z.toList,x.length=z.size:=by intro x hx;rw[List.eq_of_mem_replicate hx];simp
 have hlen:(List.replicate n z.toList).flatten.length=n*z.size:=by rw[qEo hrep];simp
 by_cases hi:i<n*z.size
 ·have hz:0<z.size:=by rcases Nat.eq_zero_or_pos z.size with h|h;rw[h]at hi;simp at hi;exact h
  have hq:i/z.size<n:=by rw[Nat.div_lt_iff_lt_mul hz];exact hi
  have hg:=qMN (i:=i/z.size) (cs:=z.toList) hrep (by simp[hq])
  have h2:(((List.replicate n z.toList).flatten.drop (i/z.size*z.size)).take z.size)[i%z.size]?=z.toList[i%z.size]?:=by rw[hg]
  rw[List.getElem?_take,if_pos (Nat.mod_lt _ hz),List.getElem?_drop,Nat.mul_comm,Nat.div_add_mod]at h2
  rw[h2]
  have hm:=Nat.mod_lt i hz
  simp[hi,hm]
 ·rw[List.getElem?_eq_none (by simp;omega),List.getElem?_eq_none (by omega)]
inductive ZC:Value->D->Prop
 |eq {v}:ZC v (constCell v)
 |v {v}:ZC v (.v v)
 |w {k}:ZC (.slice none 0 0) (.w k [])
 |s:ZC (.slice none 0 0) (.s [])
inductive ZL:List Value->List D->Prop
 |nil:ZL [] []
 |cons {v d vs ds}:ZC v d->ZL vs ds->ZL (v::vs) (d::ds)
omit T in
theorem ZL.rel {w Z loc}:∀{vs ds},ZL vs ds->vs.all (·.oneCell')=true->ARL w Z loc [] ds vs:=by
 intro vs
 induction vs with
 |nil=>intro ds h _;cases h;exact .nil
 |cons v vs ih =>
  intro ds h ho
  simp only[List.all_cons,Bool.and_eq_true]at ho
  cases h with
  |cons h1 h2 =>
   refine .cons (fp:=[]) (fp':=[]) ho.1 ?_ (ih h2 ho.2)
   cases h1 with
   |eq=>exact AR.constCell v
   |v=>exact .v
   |w=>exact .w0
   |s=>exact .s0
omit T in
theorem ZL.len:∀{vs ds},ZL vs ds->ds.length=vs.length:=by
 intro vs
 induction vs with
 |nil=>intro ds h;cases h;rfl
 |cons v vs ih=>intro ds h;cases h with|cons h1 h2=>simp[ih h2]
theorem qVB {t e:Nat} {s b z} {ti:TI} {zv:Value} {x y:Operand} {k k':IntKind} {n:Int} {zs:List D} (ho:o.op=.makeSlice t x y) (id:Nat) (ht:te t=some ⟨.slice e,s,b,z⟩) (hte:te e=some ti) (hz:ti.zero=some zv)
  (hone:zv.cells.toList.all (·.oneCell')=true) (hzs:zv.cells.size=ti.size) (hzl:ZL zv.cells.toList zs) (hx:σ.ev x=some (.v (.int k n))) (hy:σ.ev y=some (.v (.int k' n))) (hn:0<=n) (hb:ti.bytes*n<=2 ^ 48) (hm:n<=9223372036854775807)
  (hid:get σ.h id=none) (hd:qBb σ o=true):qKh P σ o (St.put { σ with h:=(id,.row ti.size (List.replicate n.toNat zs))::σ.h } o.dst (.R id)):=by
 rintro E a w ⟨Z,loc,fps,R⟩
 have hu:=qCE T ht
 have h1:=R.ev hx;have h2:=R.ev hy
 generalize hax:a.eval x=vx at h1
 generalize hay:a.eval y=vy at h2
 cases h1;cases h2
 obtain⟨inf,hinf,i1,i2,i3⟩:=qK5 T hte w
 have hw:IntKind.i64.wrap n=n:=IntWalk.i64_in n ⟨by omega,hm⟩
 have hb':¬((2:Int) ^ 48<(ti.bytes:Int)*n):=by omega
 have hrun:(execOp a.eval o).run P w=.ok (.value (.slice (some ⟨w.heap.size,0,none⟩) n.toNat n.toNat)) { w with heap:=w.heap.push (.cells ((Array.range (n.toNat*zv.cells.size)).map (zv.cells[·% zv.cells.size]!)) e) }:=by
  have htl:∀c:Prop,[Decidable c]->¬c->((decide (n<0)||decide c):Bool)=false:=by intro c _ hc;simp[hc];omega
  by_cases h0:n.toNat*ti.size=0
  ·have hemp:((Array.range (n.toNat*zv.cells.size)).map (zv.cells[·% zv.cells.size]!))=#[]:=by rw[hzs,h0];apply Array.ext';simp
   rw[hemp]
   simp only[execOp,ho,hax,hay,Instr.makeSlice,Sem.run_bind,run_underlying hu,Result.andThen_ok,asInt,asIntOf,Sem.run_pure,hinf,hw,i2,run_askRoom,qAm T hte]
   rw[if_neg (by simp;omega)]
   simp only[run_askRoom,Sem.run_bind,qAm T hte,Sem.run_pure,Result.andThen_ok,h0,if_true,newRow,run_newObj]
   congr 4
   apply Array.ext';simp
  ·simp only[execOp,ho,hax,hay,Instr.makeSlice,Sem.run_bind,run_underlying hu,Result.andThen_ok,asInt,asIntOf,Sem.run_pure,hinf,hw,i2,run_askRoom,qAm T hte]
   rw[if_neg (by simp;omega)]
   simp only[run_askRoom,Sem.run_bind,qAm T hte,Sem.run_pure,Result.andThen_ok,h0,if_false,qDV T hte hz,newRow,run_newObj,hzs]
 unfold Oper.wp
 rw[hrun]
 have hrep:∀x∈List.replicate n.toNat zs,x.length=ti.size:=by intro x hx;rw[List.eq_of_mem_replicate hx,ZL.len hzl];simp[hzs]
 have hcells:∀n:Nat,ARL w Z qAi [] (List.replicate n zs).flatten (List.replicate n zv.cells.toList).flatten:=by
  intro n
  induction n with
  |zero=>simpa using ARL.nil
  |succ n ih =>
   simp only[List.replicate_succ,List.flatten_cons]
   have:=(hzl.rel (w:=w) (Z:=Z) (loc:=qAi) hone).append ih
   simpa using this
 have R':=R.newRoot (id:=id) hid (ρ:=.row ti.size (List.replicate n.toNat zs)) (L:=⟨w.heap.size,0,ti.size,n.toNat,n.toNat⟩) (o:=.cells ((Array.range (n.toNat*zv.cells.size)).map (zv.cells[·% zv.cells.size]!)) e) rfl (by
  refine⟨rfl,hrep,by simp,?_,.inr ⟨[],_,e,rfl,qPX w _,?_,?_⟩⟩
  ·show n.toNat<=qDF
   unfold qDF;omega
  ·simp[hzs]
  ·simp only[List.drop_zero]
   rw[qXi,List.take_of_length_le (by rw[qEo (sz:=ti.size) (by intro x hx;rw[List.eq_of_mem_replicate hx];simp[hzs])];simp)]
   exact(hcells n.toNat).mono (fun _ h=>h) (fun _ _ h=>h) (fun b hb=>(qG6 w _).same b (hb.elim (R.zlt b) (fun h=>by simp at h))))
 exact⟨_,_,_,R'.put (qA7 hd) (AR.R (L:=⟨w.heap.size,0,ti.size,n.toNat,n.toNat⟩) (qCX _ _ _) (Nat.le_refl _) (by show n.toNat<=qDF;unfold qDF;omega) (.inr rfl))⟩
end
end Go.AM
end
section
namespace Go.AM
def qLb (P:Program) (heap:Array Obj) (sz m:Nat) (v:Value) (cs:List Value):Prop:=∀w:World,w.heap=heap->(Builtin.firstCells sz m v).run P w=.ok cs.toArray w
theorem qLC {P:Program} {w:World} {b off m sz c:Nat} {arr:Array Value} {el fz} (hb:w.heap[b]?=some (.cells arr el fz)) (hle:off+m*sz<=arr.size) :
  qLb P w.heap sz m (.slice (some ⟨b,off,none⟩) m c) ((arr.toList.drop off).take (m*sz)):=by
 intro w' hw
 have hlen:((arr.toList.drop off).take (m*sz)).length=m*sz:=by simp;omega
 have:=run_loadCells_list (P:=P) w' ⟨b,off,none⟩ ((arr.toList.drop off).take (m*sz)) (fun j v hj=>by
  rw[List.getElem?_take]at hj
  split at hj
  ·rw[List.getElem?_drop]at hj
   rw[Addr.add_lit]
   simp only[World.cell?,hw,hb]
   simpa using hj
  ·cases hj)
 rw[hlen]at this
 simpa [Builtin.firstCells]using this
theorem qHV {P:Program} {heap:Array Obj} {sz c:Nat} {A:Option Addr}:qLb P heap sz 0 (.slice A 0 c) []:=by
 intro w hw
 cases A with
 |none=>simp[Builtin.firstCells]
 |some a=>simp[Builtin.firstCells,loadCells,loadCellsFrom]
section
variable {P:Program} {te:TE} (T:qGz P te) {t tx ty e:Nat} {s b z} {ti:TI} {dx:TypeDesc} (ht:te t=some ⟨.slice e,s,b,z⟩) (hte:te e=some ti) (hux:P.underlying tx=some dx) (hdx:∀k,dx≠.int k)
include T ht hte hux hdx
theorem run_append_fit {w:World} {bk off n m cap c2:Nat} {A2:Option Addr} {arr:Array Value} {el} {new:List Value} (hb:w.heap[bk]?=some (.cells arr el (0,0))) (hroom:n+m<=cap) (hsize:off+(n+m)*ti.size<=arr.size)
  (hnew:qLb P w.heap ti.size m (.slice A2 m c2) new) (hlen:new.length=m*ti.size) (hone:∀v∈new,v.oneCell'=true) :
  (Builtin.append_ #[t,tx] ty #[.slice (some ⟨bk,off,none⟩) n cap,.slice A2 m c2]).run P w=.ok (.slice (some ⟨bk,off,none⟩) (n+m) cap) (w.setRow bk (qAU arr.toList (off+n*ti.size) new).toArray):=by
 have hu:=qCE T ht
 have hz:(dx matches .int _)=false:=by cases dx<;>first|rfl|exact absurd rfl (hdx _)
 have hst:=run_storeCells_at (P:=P) bk (off+n*ti.size) el new 0 arr w hb (by rw[hlen];rw[Nat.add_mul]at hsize;omega) hone
 simp only[Builtin.append_,List.getElem?_toArray,List.getElem?_cons_zero,List.getElem?_cons_succ,Sem.run_bind,run_underlying hu,Result.andThen_ok,qAm T hte,run_underlying hux,Sem.run_pure,hz,Bool.false_eq_true,if_false,Builtin.lenOf,hroom,if_true,Bool.not_false,hnew w rfl,Addr.add_lit]
 rw[show qAU arr.toList (off+n*ti.size) new=List.take (off+n*ti.size+0) arr.toList++new++List.drop (off+n*ti.size+0+new.length) arr.toList from rfl,hst]
 rfl
theorem qLi {w:World} {A A2:Option Addr} {n cap c2:Nat} (hroom:n<=cap) :
  (Builtin.append_ #[t,tx] ty #[.slice A n cap,.slice A2 0 c2]).run P w=.ok (.slice A n cap) w:=by
 have hu:=qCE T ht
 have hz:(dx matches .int _)=false:=by cases dx<;>first|rfl|exact absurd rfl (hdx _)
 have hn:=qHV (P:=P) (heap:=w.heap) (sz:=ti.size) (A:=A2) (c:=c2) w rfl
 simp only[Builtin.append_,List.getElem?_toArray,List.getElem?_cons_zero,List.getElem?_cons_succ,Sem.run_bind,run_underlying hu,Result.andThen_ok,qAm T hte,run_underlying hux,Sem.run_pure,hz,Bool.false_eq_true,if_false,Builtin.lenOf,Nat.add_zero,hroom,if_true,Bool.not_false,hn]
 cases A<;>rfl
omit T ht hte hux hdx in
theorem qQz {qAl old:Nat} (h:old<qAl):Builtin.nextslicecap qAl old<=2*qAl:=by
 unfold Builtin.nextslicecap
 split
 ·omega
 ·split
  ·omega
  ·have:∀r c,c<=qAl+(qAl+768)/4->Builtin.growBy qAl r c<=qAl+(qAl+768)/4:=by
    intro r
    induction r with
    |zero=>intro c hc;simpa [Builtin.growBy]using hc
    |succ r ih =>
     intro c hc
     simp only[Builtin.growBy]
     split
     ·exact hc
     ·exact ih _ (by omega)
   have:=this 4 old (by omega)
   omega
theorem run_append_grow {w:World} {A A2:Option Addr} {n m cap c2:Nat} {zv:Value} {old new:List Value} (hz0:ti.zero=some zv) (hroom:cap<n+m) (hneed:n+m<=qDF) (hbytes:2*(n+m)*ti.bytes<=2 ^ 48)
  (hold:qLb P w.heap ti.size n (.slice A n cap) old) (hnew:qLb P w.heap ti.size m (.slice A2 m c2) new) :
  ∃newCap,n+m<=newCap/\newCap<=qDF/\(Builtin.append_ #[t,tx] ty #[.slice A n cap,.slice A2 m c2]).run P w =
   .ok (.slice (some ⟨w.heap.size,0,none⟩) (n+m) newCap) { w with drawn:=w.drawn+1,heap:=w.heap.push (.cells (old.toArray++new.toArray++Builtin.zeroCells zv.cells (newCap-(n+m))) e) }:=by
 have hu:=qCE T ht
 have hz:(dx matches .int _)=false:=by cases dx<;>first|rfl|exact absurd rfl (hdx _)
 obtain⟨inf,hinf,i1,i2,i3⟩:=qK5 T hte w
 have hnc:=qQz hroom
 have h1:¬(Builtin.nextslicecap (n+m) cap*inf.bytes>2 ^ 48):=by
  rw[i2]
  have:=Nat.mul_le_mul_right ti.bytes hnc
  omega
 have h2:¬(((n+m:Nat):Int)>IntKind.i64.max/\(False\/inf.bytes=0)):=by
  unfold qDF at hneed
  rw[IntKind.max_i64]
  rintro⟨h,_⟩
  omega
 have h3:¬n+m<=cap:=by omega
 let t0:=w.tape w.drawn (.appendCap (n+m) cap e)
 refine⟨n+m+t0%(2 ^ 63-(n+m)),by omega,?_,?_⟩
 ·have:t0%(2 ^ 63-(n+m))<2 ^ 63-(n+m):=Nat.mod_lt _ (by unfold qDF at hneed;omega)
  unfold qDF at *;omega
 ·obtain⟨inf',hinf',j1,j2,j3⟩:=qK5 T hte { w with drawn:=w.drawn+1 }
  simp only[Builtin.append_,List.getElem?_toArray,List.getElem?_cons_zero,List.getElem?_cons_succ,Sem.run_bind,run_underlying hu,Result.andThen_ok,qAm T hte,run_underlying hux,Sem.run_pure,hz,Bool.false_eq_true,if_false,Builtin.lenOf,h3]
  simp only[hinf,Result.andThen_ok,h2,if_false,Sem.run_pure,Sem.run_bind,h1,run_choose,Question.forced,Question.cut,Bool.false_eq_true,hinf',run_askRoom,hold { w with drawn:=w.drawn+1 } rfl,Bool.not_false,if_true,hnew { w with drawn:=w.drawn+1 } rfl,qDV T hte hz0,newRow,run_newObj]
  rfl
end
end Go.AM
end
section
namespace Go.AM
structure qa4 (σ:St) (w:World) (Z:Nat->Prop) (fps:Nat->List Nat) (ks:List Nat) (sz:Nat) (X:List (List D)) (A:Option Addr) (n cap:Nat) (bk off:Nat) (arr:Array Value) (el:TypeId) (fpX:List Nat):Prop where
 addr:A=some ⟨bk,off,none⟩
 heap:w.heap[bk]?=some (.cells arr el (0,0))
 room:off+cap*sz<=arr.size
 rel:ARL w Z qAi fpX X.flatten ((arr.toList.drop off).take (n*sz))
 nodup:(bk::fpX).Nodup
 mem:∀b∈bk::fpX,∃id ρ,id∈ks/\σ.live id ρ/\b∈fps id
theorem qRC {X ys:List (List D)} {sz:Nat} (hX:∀x∈X,x.length=sz) (hY:∀x∈ys,x.length=sz):∀x∈X++ys,x.length=sz:=by
 intro x hx;rcases List.mem_append.1 hx with h|h;exact hX x h;exact hY x h
theorem qKw {P:Program} {te:TE} (T:qGz P te) {t tx ty e:Nat} {s b z} {ti:TI} {dx:TypeDesc} {zv:Value} (ht:te t=some ⟨.slice e,s,b,z⟩) (hte:te e=some ti) (hux:P.underlying tx=some dx) (hdx:∀k,dx≠.int k) (hz0:ti.zero=some zv) (hzs:zv.cells.size=ti.size)
  {E σ a w Z loc fps} (R:Rel E σ a w Z loc fps) {ks:List Nat} {id':Nat} (hid':get σ.h id'=none) {X ys:List (List D)} {A A2:Option Addr} {n m cap c2:Nat} {new:List Value} {fpY:List Nat}
  (hX:∀x∈X,x.length=ti.size) (hXn:X.length=n) (hY:∀x∈ys,x.length=ti.size) (hYm:ys.length=m) (hn:n<=cap) (hcap:cap<=qDF) (hneed:n+m<=qDF) (hbytes:2*(n+m)*ti.bytes<=2 ^ 48)
  (hdest:(cap=0/\n=0)\/∃bk off arr el fpX,qa4 σ w Z fps ks ti.size X A n cap bk off arr el fpX/\(∀b∈fpY,b∉bk::fpX))
  (hfirst:qLb P w.heap ti.size m (.slice A2 m c2) new) (hnew:ARL w Z qAi fpY ys.flatten new) (hYnd:fpY.Nodup) (hYmem:∀b∈fpY,∃id ρ,id∈ks/\σ.live id ρ/\b∈fps id) :
  ∃v w' loc' fps',(Builtin.append_ #[t,tx] ty #[.slice A n cap,.slice A2 m c2]).run P w=.ok v w'/\
   Rel E { σ with h:=(id',.row ti.size (X++ys))::qFj ks σ.h } a w' Z loc' fps'/\AR w' Z loc' [] (.R id') v:=by
 have hnl:new.length=m*ti.size:=by have:=hnew.length;rw[qEo hY,hYm]at this;exact this.symm
 have hfl:∀w':World,(∀b,Z b\/b∈fpY->w'.heap[b]?=w.heap[b]?)->ARL w' Z qAi fpY ys.flatten new:=fun w' h=>hnew.mono (fun _ h=>h) (fun _ _ h=>h) h
 have hlenXY:(X++ys).length=n+m:=by simp[hXn,hYm]
 have hflat:(X++ys).flatten=X.flatten++ys.flatten:=by simp
 have ownY:∀b∈fpY,b<w.heap.size:=fun b hb=>by obtain⟨id,ρ,_,h1,h2⟩:=hYmem b hb;exact(R.owned id ρ b h1 h2).2.1
 by_cases hm:m=0
 ·
  subst hm
  have hys:ys=[]:=List.eq_nil_of_length_eq_zero hYm
  subst hys
  have hfp:fpY=[]:=by cases hnew;rfl
  subst hfp
  rw[List.append_nil]
  rcases hdest with⟨hc0,hn0⟩|⟨bk,off,arr,el,fpX,hD,_⟩
  ·subst hc0 hn0
   have hX0:X=[]:=List.eq_nil_of_length_eq_zero hXn
   subst hX0
   refine⟨_,w,_,_,qLi T ht hte hux hdx hn,Rel.setRoot (ks:=ks) (L0:=⟨0,0,ti.size,0,0⟩) (fp0:=[]) R (Nat.le_refl _) (fun _ _ _=>rfl) (fun _ _=>rfl) rfl rfl ⟨rfl,Nat.le_refl _⟩ (by simp) (by simp) (.inl (R.fresh id' hid')) (fun _ h=>h) (fun _ h=>.inl h) ?_,?_⟩
   ·exact⟨rfl,by simp,by simp,by simp,.inl ⟨rfl,rfl⟩⟩
   ·exact AR.R (L:=⟨0,0,ti.size,0,0⟩) (qCX _ _ _) (Nat.le_refl _) (by simp) (.inl rfl)
  ·refine⟨_,w,_,_,qLi T ht hte hux hdx hn,Rel.setRoot (ks:=ks) (L0:=⟨bk,off,ti.size,cap,n⟩) (fp0:=bk::fpX) R (Nat.le_refl _) (fun _ _ _=>rfl) (fun _ _=>rfl) rfl rfl ⟨rfl,Nat.le_refl _⟩ ?_ hD.nodup (.inl (R.fresh id' hid')) (fun _ h=>h) (fun _ h=>.inl h) ?_,?_⟩
   ·intro b hb
    obtain⟨id,ρ,h1,h2,h3⟩:=hD.mem b hb
    exact⟨(R.owned id ρ b h2 h3).2.1,.inr ⟨id,ρ,.inr h1,h2,h3⟩⟩
   ·exact⟨rfl,hX,⟨by rw[hXn];exact hn,hXn.symm⟩,hcap,.inr ⟨fpX,arr,el,rfl,hD.heap,hD.room,by rw[hXn];exact hD.rel⟩⟩
   ·rw[hD.addr]
    exact AR.R (L:=⟨bk,off,ti.size,cap,n⟩) (qCX _ _ _) hn hcap (.inr rfl)
 ·by_cases hfit:n+m<=cap
  ·
   rcases hdest with⟨hc0,hn0⟩|⟨bk,off,arr,el,fpX,hD,hdisj⟩
   ·omega
   ·have hsz:(n+m)*ti.size<=cap*ti.size:=Nat.mul_le_mul_right _ hfit
    have hroom:=hD.room
    have hmul:(n+m)*ti.size=n*ti.size+m*ti.size:=Nat.add_mul ..
    have hrun:=run_append_fit (off:=off) (n:=n) (m:=m) (cap:=cap) T ht hte hux hdx (ty:=ty) (A2:=A2) (c2:=c2) hD.heap hfit (by omega) hfirst hnl hnew.one
    obtain⟨idb,ρb,hb1,hb2,hb3⟩:=hD.mem bk (by simp)
    have hbZ:=(R.owned idb ρb bk hb2 hb3)
    have hother:∀b,b≠bk->(w.setRow bk (qAU arr.toList (off+n*ti.size) new).toArray).heap[b]?=w.heap[b]?:=fun b h=>qCV _ _ _ _ h
    have hheap':=setRow_heap w bk arr (qAU arr.toList (off+n*ti.size) new).toArray el _ hD.heap
    have hsize':(w.setRow bk (qAU arr.toList (off+n*ti.size) new).toArray).heap.size=w.heap.size:=qFM _ _ _
    have hshape':=qLn (cs:=(qAU arr.toList (off+n*ti.size) new).toArray) hD.heap (by rw[List.size_toArray,qDy _ _ _ (by rw[hnl];simp;omega)];simp)
    have hos':(w.setRow bk (qAU arr.toList (off+n*ti.size) new).toArray).os=w.os:=rfl
    have hout':(w.setRow bk (qAU arr.toList (off+n*ti.size) new).toArray).output=w.output:=rfl
    have htape':(w.setRow bk (qAU arr.toList (off+n*ti.size) new).toArray).tape=w.tape/\w.drawn<=(w.setRow bk (qAU arr.toList (off+n*ti.size) new).toArray).drawn:=⟨rfl,Nat.le_refl _⟩
    rw[hD.addr]
    generalize w.setRow bk (qAU arr.toList (off+n*ti.size) new).toArray=w1 at *
    refine⟨_,w1,_,_,hrun,Rel.setRoot (ks:=ks) (L0:=⟨bk,off,ti.size,cap,n+m⟩) (fp0:=bk::(fpX++fpY)) R (Nat.le_of_eq hsize'.symm) ?_ hshape' hos' hout' htape' ?_ ?_ (.inl (R.fresh id' hid')) (fun _ h=>h) (fun _ h=>.inl h) ?_,?_⟩
    ·intro b hb hn'
     refine hother b fun e=>?_
     subst e
     exact hn' idb ρb (.inr hb1) hb2 hb3
    ·intro b hb
     rw[hsize']
     have:∃id ρ,id∈ks/\σ.live id ρ/\b∈fps id:=by
      rcases List.mem_cons.1 hb with h|h
      ·exact hD.mem b (h▸List.mem_cons_self ..)
      ·rcases List.mem_append.1 h with h|h
       ·exact hD.mem b (List.mem_cons_of_mem _ h)
       ·exact hYmem b h
     obtain⟨id,ρ,h1,h2,h3⟩:=this
     exact⟨(R.owned id ρ b h2 h3).2.1,.inr ⟨id,ρ,.inr h1,h2,h3⟩⟩
    ·rw[<-List.cons_append]
     exact List.nodup_append.2 ⟨hD.nodup,hYnd,fun x hx y hy e=>by subst e;exact hdisj x hy hx⟩
    ·refine⟨rfl,qRC hX hY,⟨by rw[hlenXY];exact hfit,hlenXY.symm⟩,hcap,.inr ⟨fpX++fpY,_,el,rfl,hheap',?_,?_⟩⟩
     ·have:(qAU arr.toList (off+n*ti.size) new).length=arr.size:=by rw[qDy _ _ _ (by rw[hnl];simp;omega)];simp
      simp only[List.size_toArray,this];exact hroom
     ·rw[hlenXY,hflat]
      have hs:((qAU arr.toList (off+n*ti.size) new).drop off).take ((n+m)*ti.size)=(arr.toList.drop off).take (n*ti.size)++new:=by
       rw[qLO _ _ _ _ _ (by simp;omega) (by rw[hnl];omega)]
       unfold qAU
       have e3:List.drop (n*ti.size+new.length) (List.take ((n+m)*ti.size) (List.drop off arr.toList))=[]:=List.drop_of_length_le (by rw[List.length_take,hnl];omega)
       rw[e3,List.take_take,Nat.min_eq_left (by omega),List.append_nil]
      show ARL _ _ _ _ _ (List.take _ (List.drop _ (qAU arr.toList (off+n*ti.size) new).toArray.toList))
      simp only[hs]
      refine ARL.append (hD.rel.mono (fun _ h=>h) (fun _ _ h=>h) fun b hb=>hother b fun e=>?_) (hfl _ fun b hb=>hother b fun e=>?_)
      ·subst e;exact hb.elim hbZ.1 (List.nodup_cons.1 hD.nodup).1
      ·subst e;exact hb.elim hbZ.1 fun h=>hdisj b h (List.mem_cons_self ..)
    ·exact AR.R (L:=⟨bk,off,ti.size,cap,n+m⟩) (qCX _ _ _) hfit hcap (.inr rfl)
  ·
   have hgr:cap<n+m:=by omega
   obtain⟨old,fpX,hold,hrelX,hndX,hmemX,hdisjX⟩:∃old fpX,qLb P w.heap ti.size n (.slice A n cap) old/\ARL w Z qAi fpX X.flatten old/\fpX.Nodup/\(∀b∈fpX,∃id ρ,id∈ks/\σ.live id ρ/\b∈fps id)/\(∀b∈fpY,b∉fpX):=by
    rcases hdest with⟨hc0,hn0⟩|⟨bk,off,arr,el,fpX,hD,hdisj⟩
    ·subst hn0
     have hX0:X=[]:=List.eq_nil_of_length_eq_zero hXn
     subst hX0
     exact⟨[],[],qHV,by simpa using ARL.nil,by simp,by simp,by simp⟩
    ·rw[hD.addr]
     have:=Nat.mul_le_mul_right ti.size hn
     exact⟨_,fpX,qLC hD.heap (by have:=hD.room;omega),hD.rel,(List.nodup_cons.1 hD.nodup).2,fun b hb=>hD.mem b (List.mem_cons_of_mem _ hb),fun b hb h=>hdisj b hb (List.mem_cons_of_mem _ h)⟩
   obtain⟨newCap,hc1,hc2,hrun⟩:=run_append_grow T ht hte hux hdx (ty:=ty) (w:=w) hz0 hgr hneed hbytes hold hfirst
   have hol:old.length=n*ti.size:=by have:=hrelX.length;rw[qEo hX,hXn]at this;exact this.symm
   have hmul:(n+m)*ti.size=n*ti.size+m*ti.size:=Nat.add_mul ..
   let obj:Obj:=.cells (old.toArray++new.toArray++Builtin.zeroCells zv.cells (newCap-(n+m))) e
   have hX1:Ext w { w with drawn:=w.drawn+1,heap:=w.heap.push obj }:=⟨by simp,fun b hb=>by simp[Array.getElem?_push,Nat.ne_of_lt hb],rfl,rfl,rfl,Nat.le_succ _⟩
   have ownX:∀b∈fpX,b<w.heap.size:=fun b hb=>by obtain⟨id,ρ,_,h1,h2⟩:=hmemX b hb;exact(R.owned id ρ b h1 h2).2.1
   have hother:∀b,b<w.heap.size->({ w with drawn:=w.drawn+1,heap:=w.heap.push obj }:World).heap[b]?=w.heap[b]?:=hX1.same
   have hheap':({ w with drawn:=w.drawn+1,heap:=w.heap.push obj }:World).heap[w.heap.size]?=some obj:=by simp
   have hsz':({ w with drawn:=w.drawn+1,heap:=w.heap.push obj }:World).heap.size=w.heap.size+1:=by simp
   have hgrow:=hX1.size
   have hshape':=hX1.shape
   have hos':=hX1.os;have hout':=hX1.output;have htape':=hX1.tape
   have hobj:obj=.cells (old.toArray++new.toArray++Builtin.zeroCells zv.cells (newCap-(n+m))) e:=rfl
   generalize ({ w with drawn:=w.drawn+1,heap:=w.heap.push obj }:World)=w1 at *
   refine⟨_,w1,_,_,hrun,Rel.setRoot (ks:=ks) (L0:=⟨w.heap.size,0,ti.size,newCap,n+m⟩) (fp0:=w.heap.size::(fpX++fpY)) R hgrow (fun b hb _=>hother b hb) hshape' hos' hout' htape' ?_ ?_ (.inl (R.fresh id' hid')) (fun _ h=>h) (fun _ h=>.inl h) ?_,?_⟩
   ·intro b hb
    rw[hsz']
    rcases List.mem_cons.1 hb with h|h
    ·exact⟨by omega,.inl (by omega)⟩
    ·have:∃id ρ,id∈ks/\σ.live id ρ/\b∈fps id:=by
      rcases List.mem_append.1 h with h|h
      ·exact hmemX b h
      ·exact hYmem b h
     obtain⟨id,ρ,h1,h2,h3⟩:=this
     exact⟨Nat.lt_succ_of_lt (R.owned id ρ b h2 h3).2.1,.inr ⟨id,ρ,.inr h1,h2,h3⟩⟩
   ·refine List.nodup_cons.2 ⟨fun h=>?_,List.nodup_append.2 ⟨hndX,hYnd,fun x hx y hy e=>by subst e;exact hdisjX x hy hx⟩⟩
    rcases List.mem_append.1 h with h|h
    ·have:=ownX _ h;omega
    ·have:=ownY _ h;omega
   ·refine⟨rfl,qRC hX hY,⟨by rw[hlenXY];exact hc1,hlenXY.symm⟩,hc2,.inr ⟨fpX++fpY,_,e,rfl,hheap'.trans (congrArg some hobj),?_,?_⟩⟩
    ·have:newCap*ti.size=(n+m)*ti.size+(newCap-(n+m))*ti.size:=by rw[<-Nat.add_mul];congr 1;omega
     simp only[Array.size_append,List.size_toArray,size_zeroCells,hol,hnl,hzs,Nat.zero_add]
     omega
    ·rw[hlenXY,hflat]
     simp only[List.drop_zero,Array.toList_append,List.append_assoc]
     have e1:List.take ((n+m)*ti.size) (old++(new++(Builtin.zeroCells zv.cells (newCap-(n+m))).toList))=old++new:=by
      rw[<-List.append_assoc,List.take_append,List.take_of_length_le (by simp[hol,hnl];omega),show (n+m)*ti.size-(old++new).length=0 by simp[hol,hnl];omega]
      simp
     rw[e1]
     exact ARL.append (hrelX.mono (fun _ h=>h) (fun _ _ h=>h) fun b hb=>hother b (hb.elim (R.zlt b) (ownX b))) (hfl _ fun b hb=>hother b (hb.elim (R.zlt b) (ownY b)))
   ·exact AR.R (L:=⟨w.heap.size,0,ti.size,newCap,n+m⟩) (qCX _ _ _) hc1 hc2 (.inr rfl)
end Go.AM
end
section
namespace Go.AM
theorem ARL.window {w Z loc fp} {sz base:Nat} {arr:Array Value} {xs:List (List D)} (h:ARL w Z loc fp xs.flatten ((arr.toList.drop base).take (xs.length*sz))) (hsz:∀x∈xs,x.length=sz) {lo n:Nat} (hle:lo+n<=xs.length) :
  ∃fpX,List.Sublist fpX fp/\ARL w Z loc fpX ((xs.drop lo).take n).flatten ((arr.toList.drop (base+lo*sz)).take (n*sz)):=by
 have hl:=h.length
 rw[qEo hsz]at hl
 have e:xs.flatten=(xs.take lo).flatten++(((xs.drop lo).take n).flatten++(xs.drop (lo+n)).flatten):=by
  conv=>lhs;rw[<-List.take_append_drop lo xs,<-List.take_append_drop n (xs.drop lo),List.drop_drop]
  simp
 rw[e]at h
 obtain⟨fp1,fp2,vs1,vs2,rfl,hv,h1,h2⟩:=h.split
 obtain⟨fp3,fp4,vs3,vs4,rfl,rfl,h3,h4⟩:=h2.split
 have l1:=h1.length;have l3:=h3.length
 rw[qEo (sz:=sz) (fun x hx=>hsz x (List.mem_of_mem_take hx)),List.length_take,Nat.min_eq_left (by omega)]at l1
 rw[qEo (sz:=sz) (fun x hx=>hsz x (List.mem_of_mem_drop (List.mem_of_mem_take hx))),List.length_take,List.length_drop,Nat.min_eq_left (by omega)]at l3
 refine⟨fp3,?_,?_⟩
 ·exact List.Sublist.trans (List.sublist_append_left fp3 fp4) (List.sublist_append_right fp1 _)
 ·have hm:(lo+n)*sz<=xs.length*sz:=Nat.mul_le_mul_right _ hle
  rw[Nat.add_mul]at hm
  have:(arr.toList.drop (base+lo*sz)).take (n*sz)=vs3:=by
   have this:((List.take (xs.length*sz) (List.drop base arr.toList)).drop (lo*sz)).take (n*sz)=((vs1++(vs3++vs4)).drop (lo*sz)).take (n*sz):=by rw[hv]
   rw[List.drop_take,List.drop_drop,List.take_take,Nat.min_eq_left (by omega)]at this
   rw[this,List.drop_append,List.drop_of_length_le (by omega),show lo*sz-vs1.length=0 by omega,List.nil_append,List.drop_zero,List.take_append,List.take_of_length_le (by omega),show n*sz-vs3.length=0 by omega]
   simp
  rw[this];exact h3
structure Src (P:Program) (σ:St) (w:World) (Z:Nat->Prop) (fps:Nat->List Nat) (ks:List Nat) (sz:Nat) (ys:List (List D)) (m:Nat) (v:Value) where
 A:Option Addr
 c:Nat
 new:List Value
 fpY:List Nat
 val:v=.slice A m c
 len:ys.length=m
 sizes:∀x∈ys,x.length=sz
 first:qLb P w.heap sz m (.slice A m c) new
 rel:ARL w Z qAi fpY ys.flatten new
 nodup:fpY.Nodup
 mem:∀b∈fpY,∃id ρ,id∈ks/\σ.live id ρ/\b∈fps id
def D.imm?:D->Option (List (List D))
 |.s ys=>some ys
 |.w _ []=>some []
 |_=>none
theorem Rel.srcS {P:Program} {E σ a w Z loc fps} (R:Rel E σ a w Z loc fps) {d:D} {v:Value} {ys:List (List D)} {sz:Nat} (ks:List Nat) (hpos:0<sz) (hd:d.imm?=some ys) (hsz:∀x∈ys,x.length=sz) (h:AR w Z loc [] d v) :
  ∃S:Src P σ w Z fps ks sz ys ys.length v,S.fpY=[]:=by
 generalize hfp:([]:List Nat)=fp at h
 cases h with
 |s0=>simp only[D.imm?]at hd;cases hd;exact⟨⟨_,_,[],[],rfl,rfl,hsz,qHV,by simpa using ARL.nil,by simp,by simp⟩,rfl⟩
 | @s _ xs b off sz' arr el fz cap h1 h2 h3 h4 h5 h6 =>
  have hd:xs=ys:=by simpa [D.imm?]using hd
  subst hd
  by_cases hxs:xs=[]
  ·subst hxs;exact⟨⟨_,_,[],[],rfl,rfl,hsz,qHV,by simpa using ARL.nil,by simp,by simp⟩,rfl⟩
  ·have hss:sz'=sz:=by
    cases xs with
    |nil=>exact absurd rfl hxs
    |cons x xs=>rw[<-h3 x (by simp),hsz x (by simp)]
   subst hss
   have hl:=h6.length
   rw[qEo h3,List.length_take,List.length_drop]at hl
   refine⟨⟨_,_,_,[],rfl,rfl,hsz,qLC h2 ?_,h6,by simp,by simp⟩,rfl⟩
   simp only[Array.length_toList]at hl
   have:0<xs.length*sz':=Nat.mul_pos (List.length_pos_iff.2 hxs) hpos
   omega
 |w0=>simp only[D.imm?]at hd;cases hd;exact⟨⟨_,_,[],[],rfl,rfl,hsz,qHV,by simpa using ARL.nil,by simp,by simp⟩,rfl⟩
 |w=>cases hfp
 |_=>simp[D.imm?]at hd
theorem Rel.srcR {P:Program} {E σ a w Z loc fps} (R:Rel E σ a w Z loc fps) {id lo m sz:Nat} {v:Value} {xs:List (List D)} {ks:List Nat} (hk:id∈ks) (hg:get σ.h id=some (.row sz xs)) (hle:lo+m<=xs.length) (h:AR w Z loc [] (.r id lo m) v) :
  ∃S:Src P σ w Z fps ks sz ((xs.drop lo).take m) m v,∀b∈S.fpY,b∈fps id:=by
 obtain⟨L,hL,e1,e2,e3,e4,h3⟩:=R.roots id _ ⟨hg,by simp⟩
 have hnd:=R.nodup id _ ⟨hg,by simp⟩
 have hsz:∀x∈(xs.drop lo).take m,x.length=sz:=fun x hx=>e2 x (List.mem_of_mem_drop (List.mem_of_mem_take hx))
 have hlen:((xs.drop lo).take m).length=m:=by simp;omega
 cases h with
 | @r _ _ _ _ L' cap A g1 g2 g3 g4 g5 =>
  rw[hL]at g1;cases g1
  by_cases hm:m=0
  ·subst hm
   rw[List.take_zero]
   exact⟨⟨A,cap,[],[],rfl,rfl,by simp,qHV,by simpa using ARL.nil,by simp,by simp⟩,by simp⟩
  ·rcases h3 with⟨h3,_⟩|⟨fpN,arr,el,e5,h4,h5,h6⟩
   ·omega
   ·rcases g5 with g5|rfl
    ·omega
    ·obtain⟨fpX,hsub,hrel⟩:=h6.window e2 hle
     rw[e5]at hnd
     have hmem:∀b∈fpX,b∈fps id:=fun b hb=>by rw[e5];exact List.mem_cons_of_mem _ (hsub.subset hb)
     have:(lo+m)*sz<=L.tot*sz:=Nat.mul_le_mul_right _ (by omega)
     rw[Nat.add_mul]at this
     refine⟨⟨_,cap,_,fpX,rfl,hlen,hsz,?_,hrel,List.Nodup.sublist hsub (List.nodup_cons.1 hnd).2,fun b hb=>⟨id,_,hk,⟨hg,by simp⟩,hmem b hb⟩⟩,hmem⟩
     rw[e1]
     exact qLC h4 (by omega)
theorem Rel.destR {E σ a w Z loc fps} (R:Rel E σ a w Z loc fps) {id lo n sz:Nat} {v:Value} {xs:List (List D)} {ks:List Nat} (hk:id∈ks) (hg:get σ.h id=some (.row sz xs)) (hle:lo+n<=xs.length) (h:AR w Z loc [] (.r id lo n) v) :
  ∃A cap,v=.slice A n cap/\n<=cap/\cap<=qDF/\(∀x∈(xs.drop lo).take n,x.length=sz)/\((xs.drop lo).take n).length=n/\
   ((cap=0/\n=0)\/∃bk off arr el fpX,qa4 σ w Z fps ks sz ((xs.drop lo).take n) A n cap bk off arr el fpX/\∀b∈bk::fpX,b∈fps id):=by
 obtain⟨L,hL,e1,e2,e3,e4,h3⟩:=R.roots id _ ⟨hg,by simp⟩
 have hnd:=R.nodup id _ ⟨hg,by simp⟩
 have hsz:∀x∈(xs.drop lo).take n,x.length=sz:=fun x hx=>e2 x (List.mem_of_mem_drop (List.mem_of_mem_take hx))
 have hlen:((xs.drop lo).take n).length=n:=by simp;omega
 cases h with
 | @r _ _ _ _ L' cap A g1 g2 g3 g4 g5 =>
  rw[hL]at g1;cases g1
  refine⟨A,cap,rfl,g2,g4,hsz,hlen,?_⟩
  rcases g5 with g5|rfl
  ·left;omega
  ·rcases h3 with⟨h3,_⟩|⟨fpN,arr,el,e5,h4,h5,h6⟩
   ·left;omega
   ·right
    obtain⟨fpX,hsub,hrel⟩:=h6.window e2 hle
    rw[e5]at hnd
    have hmem:∀b∈L.b::fpX,b∈fps id:=fun b hb=>by rw[e5];exact(hsub.cons_cons _).subset hb
    have:(lo+cap)*sz<=L.tot*sz:=Nat.mul_le_mul_right _ g3
    rw[Nat.add_mul]at this
    refine⟨L.b,L.base+lo*sz,arr,el,fpX,⟨by rw[e1],h4,by omega,hrel,List.Nodup.sublist (hsub.cons_cons _) hnd,fun b hb=>⟨id,_,hk,⟨hg,by simp⟩,hmem b hb⟩⟩,hmem⟩
section
variable {P:Program} {te:TE} (T:qGz P te) {σ:St} {o:Oper} {t tx e e2:Nat} {s b z s2 b2 z2} {ti:TI} {zv:Value} {x y:Operand}
include T
theorem qVv {id lo n m:Nat} {xs ys:List (List D)} {d:D} (ho:o.op=.call { callee:=.builtin .append,args:=#[x,y],argTypes:=#[t,tx] }) (id':Nat)
  (ht:te t=some ⟨.slice e,s,b,z⟩) (htx:te tx=some ⟨.slice e2,s2,b2,z2⟩) (hte:te e=some ti) (hz0:ti.zero=some zv) (hzs:zv.cells.size=ti.size) (hpos:0<ti.size)
  (hx:σ.evr x=some (.r id lo n)) (hg:get σ.h id=some (.row ti.size xs)) (hle:lo+n<=xs.length) (hy:σ.ev y=some d) (hd':d.imm?=some ys) (hys:∀x∈ys,x.length=ti.size) (hm:ys.length=m)
  (hneed:n+m<=qDF) (hbytes:2*(n+m)*ti.bytes<=2 ^ 48) (hid:get σ.h id'=none) (hd:qBb σ o=true) :
  qKh P σ o (St.put { σ with h:=(id',.row ti.size ((xs.drop lo).take n++ys))::qFj [id] σ.h } o.dst (.R id')):=by
 rintro E a w ⟨Z,loc,fps,R⟩
 obtain⟨A,cap,hv,h1,h2,h3,h4,h5⟩:=R.destR (ks:=[id]) (by simp) hg hle (R.evr hx)
 obtain⟨S,hS⟩:=R.srcS (P:=P) [id] hpos hd' hys (R.ev hy)
 subst hm
 obtain⟨v,w',loc',fps',hrun,R',hA⟩:=qKw T (ty:=o.type) ht hte (qCE T htx) (by intro k h;cases h) hz0 hzs R (ks:=[id]) hid h3 h4 hys rfl h1 h2 hneed hbytes
  (h5.imp (fun h=>h) fun ⟨bk,off,arr,el,fpX,hD,_⟩=>⟨bk,off,arr,el,fpX,hD,by rw[hS];simp⟩) S.first S.rel S.nodup S.mem
 have hr:(execOp a.eval o).run P w=.ok (.value v) w':=by
  simp only[execOp,ho,resolve,invoke,builtin,Sem.run_bind,Sem.run_pure,Result.andThen_ok,List.map_toArray,List.map_cons,List.map_nil,hv,S.val,hrun]
 unfold Oper.wp
 rw[hr]
 exact⟨_,_,_,R'.put (qA7 (σ:={ σ with h:=_ }) hd) hA⟩
theorem qWM {id lo n id2 lo2 m:Nat} {xs ys:List (List D)} (ho:o.op=.call { callee:=.builtin .append,args:=#[x,y],argTypes:=#[t,tx] }) (id':Nat)
  (ht:te t=some ⟨.slice e,s,b,z⟩) (htx:te tx=some ⟨.slice e2,s2,b2,z2⟩) (hte:te e=some ti) (hz0:ti.zero=some zv) (hzs:zv.cells.size=ti.size)
  (hx:σ.evr x=some (.r id lo n)) (hg:get σ.h id=some (.row ti.size xs)) (hle:lo+n<=xs.length) (hy:σ.evr y=some (.r id2 lo2 m)) (hg2:get σ.h id2=some (.row ti.size ys)) (hle2:lo2+m<=ys.length) (hne:Nat.beq id id2=false)
  (hneed:n+m<=qDF) (hbytes:2*(n+m)*ti.bytes<=2 ^ 48) (hid:get σ.h id'=none) (hd:qBb σ o=true) :
  qKh P σ o (St.put { σ with h:=(id',.row ti.size ((xs.drop lo).take n++(ys.drop lo2).take m))::qFj [id,id2] σ.h } o.dst (.R id')):=by
 rintro E a w ⟨Z,loc,fps,R⟩
 obtain⟨A,cap,hv,h1,h2,h3,h4,h5⟩:=R.destR (ks:=[id,id2]) (by simp) hg hle (R.evr hx)
 obtain⟨S,hS⟩:=R.srcR (P:=P) (ks:=[id,id2]) (by simp) hg2 hle2 (R.evr hy)
 have hne':id≠id2:=fun e=>by subst e;simp at hne
 obtain⟨v,w',loc',fps',hrun,R',hA⟩:=qKw T (ty:=o.type) ht hte (qCE T htx) (by intro k h;cases h) hz0 hzs R (ks:=[id,id2]) hid h3 h4 S.sizes S.len h1 h2 hneed hbytes
  (h5.imp (fun h=>h) fun ⟨bk,off,arr,el,fpX,hD,hm⟩=>⟨bk,off,arr,el,fpX,hD,fun b hb hb'=>hne' (R.disj id id2 _ _ b ⟨hg,by simp⟩ ⟨hg2,by simp⟩ (hm b hb') (hS b hb))⟩) S.first S.rel S.nodup S.mem
 have hr:(execOp a.eval o).run P w=.ok (.value v) w':=by
  simp only[execOp,ho,resolve,invoke,builtin,Sem.run_bind,Sem.run_pure,Result.andThen_ok,List.map_toArray,List.map_cons,List.map_nil,hv,S.val,hrun]
 unfold Oper.wp
 rw[hr]
 exact⟨_,_,_,R'.put (qA7 (σ:={ σ with h:=_ }) hd) hA⟩
theorem qVu {k m:Nat} {ys:List (List D)} {d:D} (ho:o.op=.call { callee:=.builtin .append,args:=#[x,y],argTypes:=#[t,tx] }) (id':Nat)
  (ht:te t=some ⟨.slice e,s,b,z⟩) (htx:te tx=some ⟨.slice e2,s2,b2,z2⟩) (hte:te e=some ti) (hz0:ti.zero=some zv) (hzs:zv.cells.size=ti.size) (hpos:0<ti.size)
  (hx:σ.ev x=some (.w k [])) (hy:σ.ev y=some d) (hd':d.imm?=some ys) (hys:∀x∈ys,x.length=ti.size) (hm:ys.length=m)
  (hneed:m<=qDF) (hbytes:2*m*ti.bytes<=2 ^ 48) (hid:get σ.h id'=none) (hd:qBb σ o=true) :
  qKh P σ o (St.put { σ with h:=(id',.row ti.size ys)::σ.h } o.dst (.R id')):=by
 rintro E a w ⟨Z,loc,fps,R⟩
 have hxv:=R.ev hx
 generalize hax:a.eval x=vx at hxv
 generalize hfp:([]:List Nat)=fp at hxv
 cases hxv with
 |w=>cases hfp
 | @w0 _ _ A =>
  obtain⟨S,hS⟩:=R.srcS (P:=P) [] hpos hd' hys (R.ev hy)
  subst hm
  obtain⟨v,w',loc',fps',hrun,R',hA⟩:=qKw T (ty:=o.type) (X:=[]) (A:=A) (n:=0) (cap:=0) ht hte (qCE T htx) (by intro k h;cases h) hz0 hzs R (ks:=[]) hid (by simp) rfl hys rfl (Nat.le_refl _) (Nat.zero_le _) (by omega) (by simpa using hbytes)
   (.inl ⟨rfl,rfl⟩) S.first S.rel S.nodup S.mem
  have hr:(execOp a.eval o).run P w=.ok (.value v) w':=by
   simp only[execOp,ho,resolve,invoke,builtin,Sem.run_bind,Sem.run_pure,Result.andThen_ok,List.map_toArray,List.map_cons,List.map_nil,hax,S.val,hrun]
  unfold Oper.wp
  rw[hr]
  exact⟨_,_,_,R'.put (qA7 (σ:={ σ with h:=_ }) hd) hA⟩
end
end Go.AM
end
section
namespace Go.AM
inductive Frz:D->D->Prop
 |vs {d}:d.isVS=true->Frz d d
 |mw {es}:Frz (.mw es) (.mi es)
 |w {sz xs ys}:xs.length=ys.length->(∀(i:Nat) (x y:List D),xs[i]?=some x->ys[i]?=some y->x.length=y.length)->
   (∀(i:Nat) (x y:List D),xs[i]?=some x->ys[i]?=some y->∀(j:Nat) (d e:D),x[j]?=some d->y[j]?=some e->Frz d e)->Frz (.w sz xs) (.s ys)
def FrzL (x y:List D):Prop:=x.length=y.length/\∀(j:Nat) (d e:D),x[j]?=some d->y[j]?=some e->Frz d e
theorem FrzL.nil:FrzL [] []:=⟨rfl,by simp⟩
theorem FrzL.cons {d e:D} {x y:List D} (h:Frz d e) (k:FrzL x y):FrzL (d::x) (e::y) :=
 ⟨by simp[k.1],fun j d' e' h1 h2=>by
  cases j with
  |zero=>simp at h1 h2;subst h1 h2;exact h
  |succ j=>exact k.2 j d' e' (by simpa using h1) (by simpa using h2)⟩
theorem FrzL.vs {x:List D} (h:x.all D.isVS=true):FrzL x x:=⟨rfl,fun j d e h1 h2=>by
 rw[h1]at h2;cases h2;exact .vs (List.all_eq_true.1 h d (List.mem_of_getElem? h1))⟩
theorem Frz.map {α:Type} {f g:α->List D} {sz:Nat} {l:List α} (h:∀a,FrzL (f a) (g a)):Frz (.w sz (l.map f)) (.s (l.map g)) :=
 have key:∀(i:Nat) (x y:List D),(l.map f)[i]?=some x->(l.map g)[i]?=some y->FrzL x y:=fun i x y h1 h2=>by
  rw[List.getElem?_map]at h1 h2
  cases hl:l[i]? with
  |none=>simp[hl]at h1
  |some a=>simp[hl]at h1 h2;subst h1 h2;exact h a
 .w (by simp) (fun i x y h1 h2=>(key i x y h1 h2).1) (fun i x y h1 h2=>(key i x y h1 h2).2)
def FrzLL (xs ys:List (List D)):Prop:=xs.length=ys.length/\∀(i:Nat) (x y:List D),xs[i]?=some x->ys[i]?=some y->FrzL x y
theorem FrzLL.vs {xs:List (List D)} (h:∀x∈xs,x.all D.isVS=true):FrzLL xs xs:=⟨rfl,fun i x y h1 h2=>by rw[h1]at h2;cases h2;exact .vs (h x (List.mem_of_getElem? h1))⟩
theorem FrzLL.map {α:Type} {f g:α->List D} {l:List α} (h:∀a,FrzL (f a) (g a)):FrzLL (l.map f) (l.map g):=by
 have:=Frz.map (sz:=0) (l:=l) h
 refine⟨by simp,fun i x y h1 h2=>?_⟩
 rw[List.getElem?_map]at h1 h2
 cases hl:l[i]? with
 |none=>simp[hl]at h1
 |some a=>simp[hl]at h1 h2;subst h1 h2;exact h a
theorem FrzLL.part {xs ys:List (List D)} (h:FrzLL xs ys) (lo n:Nat):FrzLL ((xs.drop lo).take n) ((ys.drop lo).take n) :=
 ⟨by simp[h.1],fun i x y h1 h2=>by
  rw[List.getElem?_take]at h1 h2
  split at h1
  ·rw[if_pos ‹_›]at h2
   rw[List.getElem?_drop]at h1 h2
   exact h.2 _ x y h1 h2
  ·cases h1⟩
theorem FrzLL.flat:∀{xs ys:List (List D)},FrzLL xs ys->FrzL xs.flatten ys.flatten
 | [],[],_=>FrzL.nil
 | [],_::_,h=>by simp[FrzLL]at h
 |_::_,[],h=>by simp[FrzLL]at h
 |x::xs,y::ys,h=>by
  have hx:=h.2 0 x y rfl rfl
  have ht:FrzLL xs ys:=⟨by simpa using h.1,fun i a b h1 h2=>h.2 (i+1) a b (by simpa using h1) (by simpa using h2)⟩
  have ih:=FrzLL.flat ht
  refine⟨by rw[List.flatten_cons,List.flatten_cons,List.length_append,List.length_append,hx.1,ih.1],fun j d e h1 h2=>?_⟩
  simp only[List.flatten_cons]at h1 h2
  rw[List.getElem?_append]at h1 h2
  rw[<-hx.1]at h2
  split at h1
  ·rw[if_pos ‹_›]at h2;exact hx.2 j d e h1 h2
  ·rw[if_neg ‹_›]at h2;exact ih.2 _ d e h1 h2
theorem FrzL.tl {d e:D} {x y:List D} (h:FrzL (d::x) (e::y)):Frz d e/\FrzL x y :=
 ⟨h.2 0 d e rfl rfl,by simpa using h.1,fun j a b h1 h2=>h.2 (j+1) a b (by simpa using h1) (by simpa using h2)⟩
theorem qPL {w:World} {Z Z':Nat->Prop} {loc loc':Nat->Option Loc}:∀{x y:List D} {fp:List Nat} {vs:List Value},
  (∀(j:Nat) (d e:D),x[j]?=some d->y[j]?=some e->∀{fp v},AR w Z loc fp d v->(∀b∈fp,Z' b)->AR w Z' loc' [] e v)->
  x.length=y.length->ARL w Z loc fp x vs->(∀b∈fp,Z' b)->ARL w Z' loc' [] y vs
 | [],[],_,_,_,_,h,_=>by cases h;exact .nil
 | [],_::_,_,_,_,hl,_,_=>by simp at hl
 |_::_,[],_,_,_,hl,_,_=>by simp at hl
 |d::x,e::y,_,_,hp,hl,h,hfp=>by
  cases h with
  |cons h0 h1 h2 =>
   exact .cons (fp:=[]) (fp':=[]) h0 (hp 0 d e rfl rfl h1 fun b hb=>hfp b (List.mem_append_left _ hb))
    (qPL (fun j a b ha hb=>hp (j+1) a b (by simpa using ha) (by simpa using hb)) (by simpa using hl) h2 fun b hb=>hfp b (List.mem_append_right _ hb))
theorem qYJ {w:World} {Z Z':Nat->Prop} (hZ:∀b,Z b->Z' b) {d e:D} (hf:Frz d e):∀{loc loc':Nat->Option Loc} {fp:List Nat} {v:Value},AR w Z loc fp d v->(∀b∈fp,Z' b)->AR w Z' loc' [] e v:=by
 induction hf with
 | @vs d hd =>
  intro loc loc' fp v h hfp
  cases h with
  |v=>exact .v
  |s0=>exact .s0
  |s g1 g2 g3 g4 g5 g6=>exact .s (hZ _ g1) g2 g3 g4 g5 (g6.mono hZ (fun _ _ h=>h) (fun _ _=>rfl))
  |mi g1 g2 g3=>exact .mi (hZ _ g1) g2 g3
  |_=>simp[D.isVS]at hd
 |mw =>
  intro loc loc' fp v h hfp
  cases h with
  |mw g1 g2=>exact .mi (hfp _ (by simp)) g1 g2
 | @w sz xs ys hlen hsz hall ih =>
  intro loc loc' fp v h hfp
  have hll:FrzLL xs ys:=⟨hlen,fun i x y h1 h2=>⟨hsz i x y h1 h2,hall i x y h1 h2⟩⟩
  cases h with
  |w0 =>
   cases ys with
   |nil=>exact .s0
   |cons=>simp at hlen
  | @w _ fp xs b off sz arr el cap g2 g3 g4 g5 g6 g7 =>
   have hy:∀y∈ys,y.length=sz:=by
    intro y hy
    obtain⟨i,hi⟩:=List.getElem?_of_mem hy
    have hix:i<xs.length:=by rw[hlen];exact(List.getElem?_eq_some_iff.1 hi).1
    have:=hsz i _ y (List.getElem?_eq_getElem hix) hi
    rw[<-this];exact g3 _ (List.getElem_mem hix)
   have hflat:=hll.flat
   have key:=qPL (x:=xs.flatten) (y:=ys.flatten) (loc:=qAi) (loc':=qAi) (w:=w) (Z:=Z) (Z':=Z') (fp:=fp) (vs:=(arr.toList.drop off).take (xs.length*sz)) (by
    have gen:∀(xs ys:List (List D)),xs.length=ys.length->(∀(i:Nat) (x y:List D),xs[i]?=some x->ys[i]?=some y->x.length=y.length/\∀(j:Nat) (d e:D),x[j]?=some d->y[j]?=some e->∀{loc loc':Nat->Option Loc} {fp:List Nat} {v:Value},AR w Z loc fp d v->(∀b∈fp,Z' b)->AR w Z' loc' [] e v)->
      ∀(j:Nat) (d e:D),xs.flatten[j]?=some d->ys.flatten[j]?=some e->∀{fp v},AR w Z qAi fp d v->(∀b∈fp,Z' b)->AR w Z' qAi [] e v:=by
     intro xs
     induction xs with
     |nil=>intro ys _ _ j d e h1;simp at h1
     |cons x xs ihx =>
      intro ys hl hp j d e h1 h2
      cases ys with
      |nil=>simp at hl
      |cons y ys =>
       obtain⟨hxl,hxp⟩:=hp 0 x y rfl rfl
       simp only[List.flatten_cons]at h1 h2
       rw[List.getElem?_append]at h1 h2
       rw[<-hxl]at h2
       split at h1
       ·rw[if_pos ‹_›]at h2;intro fp v;exact hxp j d e h1 h2
       ·rw[if_neg ‹_›]at h2
        intro fp v
        exact ihx ys (by simpa using hl) (fun i a b ha hb=>hp (i+1) a b (by simpa using ha) (by simpa using hb)) _ d e h1 h2
    intro j d e h1 h2 fp v
    exact gen xs ys hlen (fun i x y h1 h2=>⟨hsz i x y h1 h2,fun j d e h3 h4=>fun {_ _ _ _}=>ih i x y h1 h2 j d e h3 h4⟩) j d e h1 h2)
    hflat.1 g7 (fun b hb=>hfp b (List.mem_cons_of_mem _ hb))
   have:=AR.s (w:=w) (Z:=Z') (loc:=loc') (xs:=ys) (b:=b) (off:=off) (sz:=sz) (cap:=cap) (hfp b (by simp)) g2 hy (by omega) g5 (by rw[<-hlen];exact key)
   rw[<-hlen]at this
   exact this
theorem RelV.row_viewDZ {E σ a w Z loc fps} (R:RelV E σ a w Z loc fps) {Zc:Nat->Prop} (hz:∀b,Z b->Zc b) (hzf:∀id ρ b,σ.live id ρ->b∈fps id->Zc b) {id lo n sz:Nat} {xs ys:List (List D)} {v:Value} (hg:get σ.h id=some (.row sz xs)) (hle:lo+n<=xs.length) (hf:FrzLL xs ys)
  (h:AR w Z loc [] (.r id lo n) v):AR w Zc qAi [] (.s ((ys.drop lo).take n)) v:=by
 obtain⟨L,hL,e1,e2,e3,e4,h3⟩:=R.roots id _ ⟨hg,by simp⟩
 have hlx:((xs.drop lo).take n).length=n:=by simp;omega
 have hly:((ys.drop lo).take n).length=n:=by have:=hf.1;simp;omega
 cases h with
 | @r _ _ _ _ L' cap A g1 g2 g3 g4 g5 =>
  rw[hL]at g1;cases g1
  by_cases hn:n=0
  ·subst hn;rw[List.take_zero];exact .s0
  ·rcases h3 with⟨h3,_⟩|⟨fpN,arr,el,e5,h4,h5,h6⟩
   ·omega
   ·rcases g5 with g5|rfl
    ·omega
    ·obtain⟨fpX,hsub,hrel⟩:=h6.window e2 hle
     have hp:=hf.part lo n
     have hfl:=hp.flat
     have hr0:=qPL (x:=((xs.drop lo).take n).flatten) (y:=((ys.drop lo).take n).flatten) (Z':=Zc) (loc':=qAi)
      (fun j d e h1 h2=>fun h3 h4=>qYJ hz (hfl.2 j d e h1 h2) h3 h4) hfl.1 hrel
      (fun b hb=>hzf id _ b ⟨hg,by simp⟩ (by rw[e5];exact List.mem_cons_of_mem _ (hsub.subset hb)))
     have hy:∀y∈(ys.drop lo).take n,y.length=sz:=by
      intro y hy
      obtain⟨i,hi⟩:=List.getElem?_of_mem (List.mem_of_mem_drop (List.mem_of_mem_take hy))
      have hix:i<xs.length:=by rw[hf.1];exact(List.getElem?_eq_some_iff.1 hi).1
      have:=(hf.2 i _ y (List.getElem?_eq_getElem hix) hi).1
      rw[<-this];exact e2 _ (List.getElem_mem hix)
     have key:=AR.s (w:=w) (Z:=Zc) (loc:=qAi) (xs:=(ys.drop lo).take n) (b:=L.b) (off:=L.base+lo*L.sz) (sz:=sz) (cap:=cap) (hzf id _ L.b ⟨hg,by simp⟩ (by rw[e5];simp)) h4
      hy (by omega) g4 (by rw[hly,e1];exact hr0)
     rw[hly]at key
     exact key
end Go.AM
end
section
namespace Go.AM
def D.cfree:D->Bool
 |.v _=>true
 |.s _=>true
 |.q _=>true
 |.w _ []=>true
 |_=>false
def D.ffree:D->Bool
 |.f _ caps=>caps.all D.cfree
 |d=>d.cfree
def D.free:D->Bool
 |.g ds=>ds.all D.ffree
 |d=>d.ffree
theorem AR.cfree {w Z loc d v} (h:d.cfree=true) (r:AR w Z loc [] d v) (loc':Nat->Option Loc):AR w Z loc' [] d v:=by
 generalize hfp:([]:List Nat)=fp at r
 cases r<;>first
  |exact .v
  |exact .s0
  |exact .w0
  | (simp[D.cfree]at h;done)
  | (cases hfp;done)
  | (rename_i h1 h2 h3 h4 h5 h6;exact .s h1 h2 h3 h4 h5 h6)
  | (rename_i h1 h2 h3;exact .q h1 h2 h3)
theorem ARL.of_all {w Z loc loc'} {p:D->Bool} (hp:∀d v,p d=true->AR w Z loc [] d v->AR w Z loc' [] d v) {ds vs} (h:ds.all p=true) (r:ARL w Z loc [] ds vs):ARL w Z loc' [] ds vs :=
 ARL.of_get r.length fun i d v h1 h2=>by
  obtain⟨v',h3,h4,h5⟩:=r.get0 h1
  rw[h3]at h2;cases h2
  exact⟨h4,hp d v (List.all_eq_true.1 h d (List.mem_of_getElem? h1)) h5⟩
theorem AR.ffree {w Z loc d v} (h:d.ffree=true) (r:AR w Z loc [] d v) (loc':Nat->Option Loc):AR w Z loc' [] d v:=by
 by_cases hf:∃fn caps,d=.f fn caps
 ·obtain⟨fn,caps,rfl⟩:=hf
  cases r with|f h1=>exact .f (ARL.of_all (fun d v hd r=>r.cfree hd loc') h h1)
 ·exact r.cfree (by cases d<;>first|exact h|exact absurd ⟨_,_,rfl⟩ hf) loc'
theorem AR.free {w Z loc d v} (h:d.free=true) (r:AR w Z loc [] d v) (loc':Nat->Option Loc):AR w Z loc' [] d v:=by
 by_cases hg:∃ds,d=.g ds
 ·obtain⟨ds,rfl⟩:=hg
  cases r with|g h1=>exact .g (ARL.of_all (fun d v hd r=>r.ffree hd loc') h h1)
 ·exact r.ffree (by cases d<;>first|exact h|exact absurd ⟨_,rfl⟩ hg) loc'
theorem ARL.allVS {w Z loc fp ds vs} (h:ARL w Z loc fp ds vs) (hp:ds.all D.isVS=true):ARL w Z loc [] ds vs :=
 ARL.of_get h.length fun i d v h1 h2=>by
  obtain⟨v',fp',h3,h4,h5⟩:=h.getO h1
  rw[h3]at h2;cases h2
  exact⟨h4,(h5.vs_fp (List.all_eq_true.1 hp d (List.mem_of_getElem? h1))).1⟩
inductive Lend (σ:St):D->D->Prop
 |free {d}:d.free=true->Lend σ d d
 |nil {k}:Lend σ (.w k []) (.s [])
 |row {id n sz xs}:get σ.h id=some (.row sz xs)->n=xs.length->(∀x∈xs,x.all D.isVS=true)->Lend σ (.r id 0 n) (.s xs)
 |part {id lo n sz xs}:get σ.h id=some (.row sz xs)->lo+n<=xs.length->(∀x∈xs,x.all D.isVS=true)->Lend σ (.r id lo n) (.s ((xs.drop lo).take n))
 |rowR {id sz xs ys}:get σ.h id=some (.row sz xs)->FrzLL xs ys->Lend σ (.R id) (.s ys)
 |rowD {id n sz xs ys}:get σ.h id=some (.row sz xs)->n=xs.length->FrzLL xs ys->Lend σ (.r id 0 n) (.s ys)
 |partD {id lo n sz xs ys}:get σ.h id=some (.row sz xs)->lo+n<=xs.length->FrzLL xs ys->Lend σ (.r id lo n) (.s ((ys.drop lo).take n))
 |box {id off:Nat} {ds ds':List D}:get σ.h id=some (.box ds)->ds.length=ds'.length->(∀(i:Nat) (d d':D),ds[i]?=some d->ds'[i]?=some d'->Lend σ d d')->Lend σ (.p id off) (.q (ds'.drop off))
 |elem {id i k sz xs cs}:get σ.h id=some (.row sz xs)->xs[i]?=some cs->cs.all D.isVS=true->Lend σ (.e id i k) (.q (cs.drop k))
 |g {ds ds':List D}:ds.length=ds'.length->(∀(i:Nat) (d d':D),ds[i]?=some d->ds'[i]?=some d'->Lend σ d d')->Lend σ (.g ds) (.g ds')
 |f {fn:Nat} {ds ds':List D}:ds.length=ds'.length->(∀(i:Nat) (d d':D),ds[i]?=some d->ds'[i]?=some d'->Lend σ d d')->Lend σ (.f fn ds) (.f fn ds')
theorem Lend.boxF {σ:St} {id off:Nat} {ds:List D} (hg:get σ.h id=some (.box ds)) (hf:ds.all D.free=true):Lend σ (.p id off) (.q (ds.drop off)) :=
 .box hg rfl fun i d d' h h'=>by rw[h]at h';cases h';exact .free (List.all_eq_true.1 hf d (List.mem_of_getElem? h))
theorem Lend.f1 {σ:St} {fn:Nat} {d d':D} (h:Lend σ d d'):Lend σ (.f fn [d]) (.f fn [d']) :=
 .f rfl fun i e e' h1 h2=>by cases i with|zero=>simp at h1 h2;subst h1 h2;exact h|succ i=>simp at h1
theorem Lend.f2 {σ:St} {fn:Nat} {d d' c c':D} (h:Lend σ d d') (k:Lend σ c c'):Lend σ (.f fn [d,c]) (.f fn [d',c']) :=
 .f rfl fun i e e' h1 h2=>by
  cases i with
  |zero=>simp at h1 h2;subst h1 h2;exact h
  |succ i=>cases i with|zero=>simp at h1 h2;subst h1 h2;exact k|succ i=>simp at h1
theorem RelV.row_viewZ {E σ a w Z loc fps} (R:RelV E σ a w Z loc fps) {Zc:Nat->Prop} (hz:∀b,Z b->Zc b) (hzf:∀id ρ b,σ.live id ρ->b∈fps id->Zc b) {id lo n sz:Nat} {xs:List (List D)} {v:Value} (hg:get σ.h id=some (.row sz xs)) (hle:lo+n<=xs.length) (hvs:∀x∈xs,x.all D.isVS=true)
  (h:AR w Z loc [] (.r id lo n) v):AR w Zc qAi [] (.s ((xs.drop lo).take n)) v:=by
 obtain⟨L,hL,e1,e2,e3,e4,h3⟩:=R.roots id _ ⟨hg,by simp⟩
 have hlen:((xs.drop lo).take n).length=n:=by simp;omega
 cases h with
 | @r _ _ _ _ L' cap A g1 g2 g3 g4 g5 =>
  rw[hL]at g1;cases g1
  by_cases hn:n=0
  ·subst hn;rw[List.take_zero];exact .s0
  ·rcases h3 with⟨h3,_⟩|⟨fpN,arr,el,e5,h4,h5,h6⟩
   ·omega
   ·rcases g5 with g5|rfl
    ·omega
    ·obtain⟨fpX,hsub,hrel⟩:=h6.window e2 hle
     have hall:(((xs.drop lo).take n).flatten).all D.isVS=true:=by
      rw[List.all_eq_true]
      intro d hd
      obtain⟨x,hx,hdx⟩:=List.mem_flatten.1 hd
      exact List.all_eq_true.1 (hvs x (List.mem_of_mem_drop (List.mem_of_mem_take hx))) d hdx
     have hr0:=hrel.allVS hall
     have key:=AR.s (w:=w) (Z:=Zc) (loc:=qAi) (xs:=(xs.drop lo).take n) (b:=L.b) (off:=L.base+lo*L.sz) (sz:=sz) (cap:=cap) (hzf id _ L.b ⟨hg,by simp⟩ (by rw[e5];simp)) h4
      (fun x hx=>e2 x (List.mem_of_mem_drop (List.mem_of_mem_take hx))) (by omega) g4 (by rw[hlen,e1];exact hr0.mono hz (fun _ _ h=>h) (fun _ _=>rfl))
     rw[hlen]at key
     exact key
theorem RelV.lendZ {E σ a w Z loc fps} (R:RelV E σ a w Z loc fps) {Zc:Nat->Prop} (hz:∀b,Z b->Zc b) (hzf:∀id ρ b,σ.live id ρ->b∈fps id->Zc b) {d d':D} (hl:Lend σ d d'):∀{v:Value},AR w Z loc [] d v->AR w Zc qAi [] d' v:=by
 have lists:∀{ds ds':List D} {vs:List Value},ds.length=ds'.length->(∀(i:Nat) (d d':D),ds[i]?=some d->ds'[i]?=some d'->∀{v:Value},AR w Z loc [] d v->AR w Zc qAi [] d' v)->ARL w Z loc [] ds vs->ARL w Zc qAi [] ds' vs:=by
  intro ds ds' vs hlen ih h
  refine ARL.of_get (by rw[<-hlen];exact h.length) fun i d' v h1 h2=>?_
  have hi:i<ds.length:=by rw[hlen];exact(List.getElem?_eq_some_iff.1 h1).1
  obtain⟨v',h3,h4,h5⟩:=h.get0 (List.getElem?_eq_getElem hi)
  rw[h3]at h2;cases h2
  exact⟨h4,ih i _ d' (List.getElem?_eq_getElem hi) h1 h5⟩
 induction hl with
 |free hf=>intro v h;exact(h.free hf qAi).mono hz (fun _ _ h=>h) (fun _ _=>rfl)
 |nil =>
  intro v h
  generalize hfp:([]:List Nat)=fp at h
  cases h with
  |w0=>exact .s0
  |w=>cases hfp
 |row hg hn hvs =>
  intro v h
  subst hn
  have:=R.row_viewZ hz hzf hg (by omega) hvs h
  simpa using this
 |part hg hle hvs=>intro v h;exact R.row_viewZ hz hzf hg hle hvs h
 |rowD hg hn hf =>
  intro v h
  subst hn
  have:=R.row_viewDZ hz hzf hg (by omega) hf h
  rw[hf.1]at this
  simpa using this
 | @rowR id sz xs ys hg hf =>
  intro v h
  have h':=R.res h
  simp only[St.res,hg]at h'
  have:=R.row_viewDZ hz hzf hg (by omega) hf h'
  rw[hf.1]at this
  simpa using this
 |partD hg hle hf=>intro v h;exact R.row_viewDZ hz hzf hg hle hf h
 | @box id off ds ds' hg hlen _ ih =>
  intro v h
  obtain⟨L,hL,e1,e2,arr,el,h3,h4⟩:=R.roots id _ ⟨hg,by simp⟩
  cases h with
  |p g1 =>
   rw[hL]at g1;cases g1
   have h5:=(lists hlen ih h4).drop0 off
   rw[e1,Nat.zero_add]
   have hl5:=h5.length
   refine AR.q (hzf id _ L.b ⟨hg,by simp⟩ (by rw[e2];simp)) h3 ?_
   rw[List.take_of_length_le (by rw[hl5];exact Nat.le_refl _)]
   exact h5
 | @elem id i k sz xs cs hg hc hvs =>
  intro v h
  obtain⟨L,hL,e1,e2,e3,e4,h3⟩:=R.roots id _ ⟨hg,by simp⟩
  have hlt:i<xs.length:=(List.getElem?_eq_some_iff.1 hc).1
  cases h with
  |e g1 =>
   rw[hL]at g1;cases g1
   rcases h3 with⟨h3,_⟩|⟨fpN,arr,el,e5,h4,h5,h6⟩
   ·omega
   ·have hcs:cs.length=sz:=e2 cs (List.mem_of_getElem? hc)
    have hm:=qHT (sz:=sz) hlt
    have hseg:=h6.segVS (i*sz) sz (by rw[qMN e2 hc];exact hvs)
    rw[qMN e2 hc,List.drop_take,List.take_take,Nat.min_eq_left (by omega),List.drop_drop]at hseg
    have hd0:=hseg.drop0 k
    rw[List.drop_take,List.drop_drop]at hd0
    refine AR.q (hzf id _ L.b ⟨hg,by simp⟩ (by rw[e5];simp)) h4 ?_
    rw[e1,List.length_drop,hcs]
    exact hd0.mono hz (fun _ _ h=>h) (fun _ _=>rfl)
 |g hlen _ ih=>intro v h;cases h with|g h1=>exact .g (lists hlen ih h1)
 |f hlen _ ih=>intro v h;cases h with|f h1=>exact .f (lists hlen ih h1)
theorem RelV.lend {E σ a w Z loc fps} (R:RelV E σ a w Z loc fps) {d d':D} (hl:Lend σ d d') {v:Value} (h:AR w Z loc [] d v):AR w (fun b=>b<w.heap.size) qAi [] d' v :=
 R.lendZ (fun b hb=>R.zlt b hb) (fun id ρ b h1 h2=>(R.owned id ρ b h1 h2).2.1) hl h
def qIX (P : Program) (f : FuncId) : Prop := ∃fn, P.funcs[f]? = some fn/\fn.body.isNone=false/\(fn.name == "runtime.NumGoroutine")=false
def qAC (P:Program) (f:FuncId) (az:List D) (res:D):Prop :=
 qIX P f/\∀(w:World) (Z:Nat->Prop) (vs:Array Value),ART w Z qAi [] az vs.toList->(∀b,Z b->b<w.heap.size)->qW9 w Z->
  Calls P f vs w fun e w'=>∃v Z' fpr,e=.returned v/\Ext w w'/\AR w' Z' qAi fpr res v/\fpr.Nodup/\(∀b∈fpr,¬Z' b/\w.heap.size<=b/\b<w'.heap.size)/\(∀b,Z' b->b<w'.heap.size/\(Z b\/w.heap.size<=b))
def D.zfree (d:D):Prop:=∀w Z Z' loc fp v,AR w Z loc fp d v->AR w Z' loc fp d v
theorem qAj (x:Value):D.zfree (.v x):=fun w Z Z' loc fp v h=>by cases h;exact .v
theorem qQt {ds:List D} (h:∀d∈ds,d.zfree):∀{w Z Z' loc fp vs},ARL w Z loc fp ds vs->ARL w Z' loc fp ds vs:=by
 induction ds with
 |nil=>intro w Z Z' loc fp vs r;cases r;exact .nil
 |cons d ds ih=>intro w Z Z' loc fp vs r;cases r with|cons h0 h1 h2=>exact .cons h0 (h d (by simp) _ _ _ _ _ _ h1) (ih (fun d hd=>h d (by simp[hd])) h2)
theorem qS0 {ds:List D} (h:∀d∈ds,d.zfree):∀{w Z Z' loc fp vs},ART w Z loc fp ds vs->ART w Z' loc fp ds vs:=by
 induction ds with
 |nil=>intro w Z Z' loc fp vs r;cases r;exact .nil
 |cons d ds ih=>intro w Z Z' loc fp vs r;cases r with|cons h1 h2=>exact .cons (h d (by simp) _ _ _ _ _ _ h1) (ih (fun d hd=>h d (by simp[hd])) h2)
theorem qYZ {ds:List D} (h:∀d∈ds,d.zfree):D.zfree (.g ds):=fun w Z Z' loc fp v r=>by cases r with|g h1=>exact .g (qQt h h1)
theorem qYp {ds:List D} (h:∀d∈ds,d.zfree):D.zfree (.t ds):=fun w Z Z' loc fp v r=>by cases r with|t h1=>exact .t (qS0 h h1)
theorem qYw {sz:Nat} {xs:List (List D)} (h:∀x∈xs,∀d∈x,d.zfree):D.zfree (.w sz xs):=fun w Z Z' loc fp v r=>by
 cases r with
 |w0=>exact .w0
 |w h2 h3 h4 h5 h6 h7=>exact .w h2 h3 h4 h5 h6 (qQt (fun d hd=>by obtain⟨x,hx,hdx⟩:=List.mem_flatten.1 hd;exact h x hx d hdx) h7)
end Go.AM
end

/- A part of my own walk library: how the model runs a function, told over abstract values. It states no law of the program; no condition. -/
import Derived.Test.YtkidpkmpnbibmaaGreatDoorSrAm1
import Derived.KernelRfl
set_option linter.unusedSimpArgs false
set_option linter.unusedVariables false
set_option linter.unusedSectionVars false
section
namespace Go.AM
theorem Rel.adopt {E σ a w Z loc fps} (R:Rel E σ a w Z loc fps) {id:Nat} (hid:get σ.h id=none) {ρ:Root} {L:Loc} {fp0:List Nat}
  (hfp:∀b∈fp0,¬Z b∧b<w.heap.size∧(E.w0.heap.size≤b∨b∈E.own)∧∀i ρ',σ.live i ρ'→b∉fps i) (hnd:fp0.Nodup) (hroot:RootRel w Z (qLY loc id L) fp0 L ρ) :
  Rel E { σ with h:=(id,ρ)::σ.h } a w Z (qLY loc id L) (qGN fps id fp0):=by
 have hlm:=qHP (L:=L) (R.fresh id hid)
 have hlive:∀i ρ',St.live { σ with h:=(id,ρ)::σ.h } i ρ'→(i=id∧ρ'=ρ)∨(i≠id∧σ.live i ρ'):=by
  rintro i ρ' ⟨h1,h2⟩
  simp only[qAQ]at h1
  split at h1
  ·cases h1;exact .inl ⟨‹_›,rfl⟩
  ·exact .inr ⟨‹_›,h1,h2⟩
 refine { R with temps:=?_,roots:=?_,nodup:=?_,disj:=?_,owned:=?_,fresh:=?_,pins:=fun i L' h=>hlm i L' (R.pins i L' h) }
 ·intro t d ht
  obtain⟨v,h1,h2⟩:=R.temps t d ht
  exact⟨v,h1,h2.mono (fun _ h=>h) hlm (fun _ _=>rfl)⟩
 ·intro i ρ' hl
  rcases hlive i ρ' hl with⟨rfl,rfl⟩|⟨h1,h2⟩
  ·exact⟨L,qCO _ _ _,by simpa [qGN]using hroot⟩
  ·obtain⟨L',h4,h5⟩:=R.roots i ρ' h2
   refine⟨L',hlm _ _ h4,?_⟩
   simp only[qGN,if_neg h1]
   exact h5.mono (fun _ h=>h) hlm (fun _ _=>rfl)
 ·intro i ρ' hl
  rcases hlive i ρ' hl with⟨rfl,rfl⟩|⟨h1,h2⟩
  ·simpa [qGN]using hnd
  ·simpa [qGN,h1]using R.nodup i ρ' h2
 ·intro i j ρ1 ρ2 b hi hj hbi hbj
  rcases hlive i ρ1 hi with⟨rfl,rfl⟩|⟨h1,h2⟩<;>rcases hlive j ρ2 hj with⟨rfl,rfl⟩|⟨h1',h2'⟩
  ·rfl
  ·simp only[qGN,if_neg h1',if_true]at hbi hbj
   exact absurd hbj ((hfp b hbi).2.2.2 j ρ2 h2')
  ·simp only[qGN,if_neg h1,if_true]at hbi hbj
   exact absurd hbi ((hfp b hbj).2.2.2 i ρ1 h2)
  ·simp only[qGN,if_neg h1,if_neg h1']at hbi hbj
   exact R.disj i j ρ1 ρ2 b h2 h2' hbi hbj
 ·intro i ρ' b hl hb
  rcases hlive i ρ' hl with⟨rfl,rfl⟩|⟨h1,h2⟩
  ·simp only[qGN,if_true]at hb
   obtain⟨g1,g2,g3,_⟩:=hfp b hb
   exact⟨g1,g2,g3⟩
  ·simp only[qGN,if_neg h1]at hb
   exact R.owned i ρ' b h2 hb
 ·intro i h
  simp only[qAQ]at h
  split at h
  ·cases h
  ·simp only[qLY];rw[if_neg ‹_›];exact R.fresh i h
def Loose (E:Env) (σ:St) (w:World) (Z:Nat→Prop) (fps:Nat→List Nat) (fp:List Nat):Prop :=
 ∀b∈fp,¬Z b∧b<w.heap.size∧(E.w0.heap.size≤b∨b∈E.own)∧∀i ρ',σ.live i ρ'→b∉fps i
def Took (E:Env) (a:Act) (w:World) (Z:Nat→Prop) (σ:St) (loc:Nat→Option Loc) (fps:Nat→List Nat) (fp:List Nat) (σ':St) (loc':Nat→Option Loc) (fps':Nat→List Nat):Prop :=
 Rel E σ' a w Z loc' fps'∧(∀id L,loc id=some L→loc' id=some L)∧(∀i ρ b,σ'.live i ρ→b∈fps' i→(∃i ρ,σ.live i ρ∧b∈fps i)∨b∈fp)
def qMP (k:Nat):D→D×List (Nat×Root)×Nat
 |.w sz xs=>(.R k,[(k,.row sz xs)],k+1)
 |.pw cs=>(.p k 0,[(k,.box cs)],k+1)
 |.mw es=>(.m k,[(k,.map es)],k+1)
 |d=>(d,[],k)
def D.pwOk:D→Bool|.pw cs=>cs.all D.isVS|_=>true
def qDb (k:Nat):List D→List D×List (Nat×Root)×Nat
 | []=>([],[],k)
 |d::ds=>((qMP k d).1::(qDb (qMP k d).2.2 ds).1,(qDb (qMP k d).2.2 ds).2.1++(qMP k d).2.1,(qDb (qMP k d).2.2 ds).2.2)
def qNq (k:Nat):D→D×List (Nat×Root)×Nat
 |.g ds=>(.g (qDb k ds).1,(qDb k ds).2.1,(qDb k ds).2.2)
 |.pn cs=>(.p k 0,(k,.box (qDb (k+1) cs).1)::(qDb (k+1) cs).2.1,(qDb (k+1) cs).2.2)
 |d=>qMP k d
def qFX (k:Nat):List D→List D×List (Nat×Root)×Nat
 | []=>([],[],k)
 |d::ds=>((qNq k d).1::(qFX (qNq k d).2.2 ds).1,(qFX (qNq k d).2.2 ds).2.1++(qNq k d).2.1,(qFX (qNq k d).2.2 ds).2.2)
def qIg (k:Nat):D→D×List (Nat×Root)×Nat
 |.t ds=>(.t (qFX k ds).1,(qFX k ds).2.1,(qFX k ds).2.2)
 |d=>qNq k d
def St.freshFrom (σ:St) (k:Nat):Bool:=σ.h.all fun x=>Nat.blt x.1 k
theorem qIS {h:List (Nat×Root)} {k:Nat} (hf:h.all (fun x=>Nat.blt x.1 k)=true):∀i,k≤i→get h i=none:=by
 induction h with
 |nil=>intro i _;rfl
 |cons x h ih =>
  intro i hi
  simp only[List.all_cons,Bool.and_eq_true,Nat.blt_eq]at hf
  obtain⟨n,ρ⟩:=x
  rw[qAQ,if_neg (by simp at hf;omega)]
  exact ih hf.2 i hi
def St.freshIn (σ:St) (k k':Nat):Prop:=∀i,k≤i→i<k'→get σ.h i=none
theorem qJH {σ:St} {k:Nat} (h:σ.freshFrom k=true) (k':Nat):σ.freshIn k k':=fun i hi _=>qIS h i hi
theorem qQW (k:Nat) (d:D):k≤(qMP k d).2.2:=by cases d<;>simp[qMP]
theorem qJG:∀(ds:List D) (k:Nat),k≤(qDb k ds).2.2
 | [],k=>Nat.le_refl _
 |d::ds,k=>Nat.le_trans (qQW k d) (qJG ds _)
theorem qQX (k:Nat) (d:D):k≤(qNq k d).2.2:=by
 by_cases h:∃ds,d=.g ds
 ·obtain⟨ds,rfl⟩:=h;exact qJG ds k
 ·by_cases h2:∃ds,d=.pn ds
  ·obtain⟨ds,rfl⟩:=h2;exact Nat.le_trans (Nat.le_succ k) (qJG ds (k+1))
  have e:qNq k d=qMP k d:=by cases d<;>first|rfl|exact absurd ⟨_,rfl⟩ h|exact absurd ⟨_,rfl⟩ h2
  rw[e];exact qQW k d
theorem qOL:∀(ds:List D) (k:Nat),k≤(qFX k ds).2.2
 | [],k=>Nat.le_refl _
 |d::ds,k=>Nat.le_trans (qQX k d) (qOL ds _)
theorem qDh (k:Nat) (d:D):k≤(qIg k d).2.2:=by
 by_cases h:∃ds,d=.t ds
 ·obtain⟨ds,rfl⟩:=h;exact qOL ds k
 ·have e:qIg k d=qNq k d:=by cases d<;>first|rfl|exact absurd ⟨_,rfl⟩ h
  rw[e];exact qQX k d
def qAu (l:List (Nat×Root)) (k k':Nat):Prop:=∀x∈l,k≤x.1∧x.1<k'
theorem qKG {l:List (Nat×Root)} {k k':Nat} (h:qAu l k k') {m:List (Nat×Root)} {i:Nat} (hi:¬(k≤i∧i<k')):get (l++m) i=get m i:=by
 induction l with
 |nil=>rfl
 |cons x l ih =>
  obtain⟨n,ρ⟩:=x
  have:=h (n,ρ) (by simp)
  rw[List.cons_append,qAQ,if_neg (by simp at this;omega)]
  exact ih (fun y hy=>h y (by simp[hy]))
theorem qNH (k:Nat) (d:D):qAu (qMP k d).2.1 k (qMP k d).2.2:=by cases d<;>simp[qMP,qAu]
theorem qHg:∀(ds:List D) (k:Nat),qAu (qDb k ds).2.1 k (qDb k ds).2.2
 | [],k=>by simp[qDb,qAu]
 |d::ds,k=>by
  intro x hx
  have h1:=qQW k d;have h2:=qJG ds (qMP k d).2.2
  simp only[qDb]at hx⊢
  rcases List.mem_append.1 hx with hx|hx
  ·have:=qHg ds _ x hx;omega
  ·have:=qNH k d x hx;omega
theorem qNJ (k:Nat) (d:D):qAu (qNq k d).2.1 k (qNq k d).2.2:=by
 by_cases h:∃ds,d=.g ds
 ·obtain⟨ds,rfl⟩:=h;exact qHg ds k
 ·by_cases h2:∃ds,d=.pn ds
  ·obtain⟨ds,rfl⟩:=h2
   intro x hx
   have h1:=qJG ds (k+1)
   simp only[qNq]at hx⊢
   rcases List.mem_cons.1 hx with rfl|hx
   ·dsimp only;omega
   ·have:=qHg ds (k+1) x hx;omega
  have e:qNq k d=qMP k d:=by cases d<;>first|rfl|exact absurd ⟨_,rfl⟩ h|exact absurd ⟨_,rfl⟩ h2
  rw[e];exact qNH k d
theorem qOb:∀(ds:List D) (k:Nat),qAu (qFX k ds).2.1 k (qFX k ds).2.2
 | [],k=>by simp[qFX,qAu]
 |d::ds,k=>by
  intro x hx
  have h1:=qQX k d;have h2:=qOL ds (qNq k d).2.2
  simp only[qFX]at hx⊢
  rcases List.mem_append.1 hx with hx|hx
  ·have:=qOb ds _ x hx;omega
  ·have:=qNJ k d x hx;omega
theorem qBF (k:Nat) (d:D):qAu (qIg k d).2.1 k (qIg k d).2.2:=by
 by_cases h:∃ds,d=.t ds
 ·obtain⟨ds,rfl⟩:=h;exact qOb ds k
 ·have e:qIg k d=qNq k d:=by cases d<;>first|rfl|exact absurd ⟨_,rfl⟩ h
  rw[e];exact qNJ k d
section
variable {E:Env} {a:Act} {w:World} {Z:Nat→Prop}
theorem qTM {σ loc fps} (R:Rel E σ a w Z loc fps) {k:Nat} {d:D} (hk:σ.freshIn k (qMP k d).2.2) {v:Value} {fp:List Nat} (hpw:d.pwOk=true) (h:AR w Z loc fp d v) (hnd:fp.Nodup) (hL:Loose E σ w Z fps fp) :
  ∃loc' fps',Took E a w Z σ loc fps fp { σ with h:=(qMP k d).2.1++σ.h } loc' fps'∧((∃n xs,d=.w n xs)∨(∃cs,d=.pw cs)∨(∃es,d=.mw es)∨fp=[]→AR w Z loc' [] (qMP k d).1 v):=by
 by_cases hw:∃sz xs,d=.w sz xs
 ·obtain⟨sz,xs,rfl⟩:=hw
  have hid:get σ.h k=none:=hk k (Nat.le_refl _) (by simp[qMP])
  cases h with
  |w0 =>
   have R':=R.adopt hid (ρ:=.row sz []) (L:=⟨0,0,sz,0,0⟩) (fp0:=[]) (by simp) (by simp) ⟨rfl,by simp,by simp,by simp,.inl ⟨rfl,rfl⟩⟩
   refine⟨_,_,⟨R',qHP (R.fresh k hid),?_⟩,fun _=>AR.R (L:=⟨0,0,sz,0,0⟩) (qCO _ _ _) (Nat.le_refl _) (by simp) (.inl rfl)⟩
   rintro i ρ b ⟨h1,h2⟩ hb
   simp only[qMP,List.cons_append,List.nil_append,qAQ]at h1
   split at h1
   ·rename_i e;subst e;simp[qGN]at hb
   ·rename_i e;simp only[qGN,if_neg e]at hb;exact .inl ⟨i,ρ,⟨h1,h2⟩,hb⟩
  | @w _ fpN _ b off _ arr el cap g1 g2 g3 g4 g5 g6 =>
   have R':=R.adopt hid (ρ:=.row sz xs) (L:=⟨b,off,sz,cap,xs.length⟩) (fp0:=b::fpN) hL hnd ⟨rfl,g2,⟨g3,rfl⟩,g4,.inr ⟨fpN,arr,el,rfl,g1,g5,g6⟩⟩
   refine⟨_,_,⟨R',qHP (R.fresh k hid),?_⟩,fun _=>AR.R (L:=⟨b,off,sz,cap,xs.length⟩) (qCO _ _ _) g3 g4 (.inr rfl)⟩
   rintro i ρ c ⟨h1,h2⟩ hb
   simp only[qMP,List.cons_append,List.nil_append,qAQ]at h1
   split at h1
   ·rename_i e;subst e;simp only[qGN,if_true]at hb;exact .inr hb
   ·rename_i e;simp only[qGN,if_neg e]at hb;exact .inl ⟨i,ρ,⟨h1,h2⟩,hb⟩
 ·by_cases hp:∃cs,d=.pw cs
  ·obtain⟨cs,rfl⟩:=hp
   have hid:get σ.h k=none:=hk k (Nat.le_refl _) (by simp[qMP])
   cases h with
   | @pw _ fpN _ b arr el g1 g2 =>
    have hpw':cs.all D.isVS=true:=hpw
    have g3:=g2.allVS hpw'
    have hfN:fpN=[]:=by
     have:∀{ds:List D} {vs:List Value} {fp:List Nat},ARL w Z qAa fp ds vs→ds.all D.isVS=true→fp=[]:=by
      intro ds
      induction ds with
      |nil=>intro vs fp h _;cases h;rfl
      |cons d ds ih =>
       intro vs fp h hv
       simp only[List.all_cons,Bool.and_eq_true]at hv
       cases h with|cons _ h1 h2=>rw[(h1.vs_fp hv.1).2,ih h2 hv.2];rfl
     exact this g2 hpw'
    subst hfN
    have R':=R.adopt hid (ρ:=.box cs) (L:=⟨b,0,0,0,0⟩) (fp0:=[b]) hL hnd ⟨rfl,rfl,arr,el,g1,g3.mono (fun _ h=>h) (fun _ _ h=>by simp[qAa]at h) (fun _ _=>rfl)⟩
    refine⟨_,_,⟨R',qHP (R.fresh k hid),?_⟩,fun _=>AR.p (L:=⟨b,0,0,0,0⟩) (off:=0) (qCO _ _ _)⟩
    rintro i ρ c ⟨h1,h2⟩ hb
    simp only[qMP,List.cons_append,List.nil_append,qAQ]at h1
    split at h1
    ·rename_i e;subst e;simp only[qGN,if_true]at hb;exact .inr hb
    ·rename_i e;simp only[qGN,if_neg e]at hb;exact .inl ⟨i,ρ,⟨h1,h2⟩,hb⟩
  ·by_cases hm:∃es,d=.mw es
   ·obtain⟨es,rfl⟩:=hm
    have hid:get σ.h k=none:=hk k (Nat.le_refl _) (by simp[qMP])
    cases h with
    | @mw _ _ b en cl g1 g2 =>
     have R':=R.adopt hid (ρ:=.map es) (L:=⟨b,0,0,0,0⟩) (fp0:=[b]) hL hnd ⟨rfl,rfl,en,cl,g1,g2⟩
     refine⟨_,_,⟨R',qHP (R.fresh k hid),?_⟩,fun _=>AR.m (L:=⟨b,0,0,0,0⟩) (qCO _ _ _)⟩
     rintro i ρ c ⟨h1,h2⟩ hb
     simp only[qMP,List.cons_append,List.nil_append,qAQ]at h1
     split at h1
     ·rename_i e;subst e;simp only[qGN,if_true]at hb;exact .inr hb
     ·rename_i e;simp only[qGN,if_neg e]at hb;exact .inl ⟨i,ρ,⟨h1,h2⟩,hb⟩
   ·have e:qMP k d=(d,[],k):=by cases d<;>first|rfl|exact absurd ⟨_,_,rfl⟩ hw|exact absurd ⟨_,rfl⟩ hp|exact absurd ⟨_,rfl⟩ hm
    rw[e]
    exact⟨loc,fps,⟨R,fun _ _ h=>h,fun i ρ b hl hb=>.inl ⟨i,ρ,hl,hb⟩⟩,fun hc=>by
     rcases hc with hc|hc|hc|rfl
     ·exact absurd hc hw
     ·exact absurd hc hp
     ·exact absurd hc hm
     ·exact h⟩
def D.capOk:D→Bool|.v _=>true|.s _=>true|.q _=>true|_=>false
def D.cellOk:D→Bool|.v _=>true|.s _=>true|.q _=>true|.w _ _=>true|.pw cs=>cs.all D.isVS|.mw _=>true|.u=>true|.f _ caps=>caps.all D.capOk|_=>false
theorem qRD {d:D} (h:d.cellOk=true):d.pwOk=true:=by cases d<;>first|rfl|exact h
def D.gOk:D→Bool|.g ds=>ds.all D.cellOk|.pn ds=>ds.all D.cellOk|d=>d.cellOk
def D.tOk:D→Bool|.t ds=>ds.all D.gOk|d=>d.gOk
theorem qYA {loc fp ds vs} (r:ARL w Z loc fp ds vs) (h:ds.all D.capOk=true):fp=[]:=by
 induction ds generalizing fp vs with
 |nil=>cases r;rfl
 |cons d ds ih =>
  simp only[List.all_cons,Bool.and_eq_true]at h
  cases r with
  |cons h0 h1 h2 =>
   rw[ih h2 h.2]
   have:∀{fp v},AR w Z loc fp d v→fp=[]:=by
    intro fp v r
    have hd:=h.1
    cases r with
    |_=>first|rfl|(simp[D.capOk]at hd;done)
   rw[this h1];rfl
theorem qQm {loc fp d v} (h:d.cellOk=true) (r:AR w Z loc fp d v):(∃n xs,d=.w n xs)∨(∃cs,d=.pw cs)∨(∃es,d=.mw es)∨fp=[]:=by
 cases r with
 |f h1=>exact .inr (.inr (.inr (qYA h1 h)))
 |pw=>exact .inr (.inl ⟨_,rfl⟩)
 |mw=>exact .inr (.inr (.inl ⟨_,rfl⟩))
 |w=>exact .inl ⟨_,_,rfl⟩
 |_=>first|exact .inr (.inr (.inr rfl))|(simp[D.cellOk]at h;done)
theorem Took.trans {σ σ1 σ2:St} {loc loc1 loc2 fps fps1 fps2} {fp1 fp2:List Nat} (h1:Took E a w Z σ loc fps fp1 σ1 loc1 fps1) (h2:Took E a w Z σ1 loc1 fps1 fp2 σ2 loc2 fps2):Took E a w Z σ loc fps (fp1++fp2) σ2 loc2 fps2:=by
 refine⟨h2.1,fun id L h=>h2.2.1 _ _ (h1.2.1 _ _ h),fun i ρ b hl hb=>?_⟩
 rcases h2.2.2 i ρ b hl hb with⟨j,ρ',hj,hb'⟩|hb'
 ·rcases h1.2.2 j ρ' b hj hb' with h|h
  ·exact .inl h
  ·exact .inr (List.mem_append_left _ h)
 ·exact .inr (List.mem_append_right _ hb')
theorem Loose.rest {σ σ1:St} {loc loc1 fps fps1} {fp1 fp2:List Nat} (hL:Loose E σ w Z fps (fp1++fp2)) (hnd:(fp1++fp2).Nodup) (h1:Took E a w Z σ loc fps fp1 σ1 loc1 fps1):Loose E σ1 w Z fps1 fp2:=by
 intro b hb
 obtain⟨g1,g2,g3,g4⟩:=hL b (List.mem_append_right _ hb)
 refine⟨g1,g2,g3,fun i ρ hl hbi=>?_⟩
 rcases h1.2.2 i ρ b hl hbi with⟨j,ρ',hj,hb'⟩|hb'
 ·exact g4 j ρ' hj hb'
 ·exact(List.nodup_append.1 hnd).2.2 b hb' b hb rfl
theorem qOV {σ:St} {k k1 k2:Nat} {l:List (Nat×Root)} (hn:qAu l k k1) (h:σ.freshIn k k2) (h1:k≤k1) (h2:k1≤k2):St.freshIn { σ with h:=l++σ.h } k1 k2:=by
 intro i hi hi2
 show get (l++σ.h) i=none
 rw[qKG hn (by omega)]
 exact h i (by omega) hi2
theorem qQT:∀{ds:List D} {σ loc fps} (R:Rel E σ a w Z loc fps) {k:Nat} (hk:σ.freshIn k (qDb k ds).2.2) {vs:List Value} {fp:List Nat} (h:ARL w Z loc fp ds vs) (hnd:fp.Nodup) (hL:Loose E σ w Z fps fp) (hok:ds.all D.cellOk=true),
  ∃loc' fps',Took E a w Z σ loc fps fp { σ with h:=(qDb k ds).2.1++σ.h } loc' fps'∧ARL w Z loc' [] (qDb k ds).1 vs:=by
 intro ds
 induction ds with
 |nil =>
  intro σ loc fps R k hk vs fp h hnd hL hok
  cases h
  exact⟨loc,fps,⟨R,fun _ _ h=>h,fun i ρ b hl hb=>.inl ⟨i,ρ,hl,hb⟩⟩,.nil⟩
 |cons d ds ih =>
  intro σ loc fps R k hk vs fp h hnd hL hok
  simp only[List.all_cons,Bool.and_eq_true]at hok
  have l1:=qQW k d;have l2:=qJG ds (qMP k d).2.2
  cases h with
  | @cons _ fp1 fp2 _ v _ vs h0 h1 h2 =>
   have hnd':=List.nodup_append.1 hnd
   obtain⟨loc1,fps1,ht1,ha1⟩:=qTM R (k:=k) (fun i h h'=>hk i h (Nat.lt_of_lt_of_le h' l2)) (qRD hok.1) h1 hnd'.1 (fun b hb=>hL b (List.mem_append_left _ hb))
   obtain⟨loc2,fps2,ht2,ha2⟩:=ih ht1.1 (qOV (qNH k d) hk l1 l2) (h2.mono (fun _ h=>h) ht1.2.1 (fun _ _=>rfl)) hnd'.2.1 (hL.rest hnd ht1) hok.2
   refine⟨loc2,fps2,?_,?_⟩
   ·have:=ht1.trans ht2
    simpa [qDb]using this
   ·exact .cons (fp:=[]) (fp':=[]) h0 ((ha1 (qQm hok.1 h1)).mono (fun _ h=>h) ht2.2.1 (fun _ _=>rfl)) ha2
theorem qUp {σ loc fps} (R:Rel E σ a w Z loc fps) {k:Nat} {d:D} (hk:σ.freshIn k (qNq k d).2.2) {v:Value} {fp:List Nat} (h:AR w Z loc fp d v) (hnd:fp.Nodup) (hL:Loose E σ w Z fps fp) (hok:d.gOk=true) :
  ∃loc' fps',Took E a w Z σ loc fps fp { σ with h:=(qNq k d).2.1++σ.h } loc' fps'∧AR w Z loc' [] (qNq k d).1 v:=by
 by_cases hg:∃ds,d=.g ds
 ·obtain⟨ds,rfl⟩:=hg
  cases h with
  |g h1 =>
   obtain⟨loc',fps',h2,h4⟩:=qQT R hk h1 hnd hL hok
   exact⟨loc',fps',h2,.g h4⟩
 ·by_cases hp:∃cs,d=.pn cs
  ·obtain⟨cs,rfl⟩:=hp
   cases h with
   | @pn _ fpN _ b arr el g1 g2 =>
    obtain⟨n1,n2⟩:=List.nodup_cons.1 hnd
    have hok':cs.all D.cellOk=true:=hok
    have hle:=qJG cs (k+1)
    have hk1:σ.freshIn (k+1) (qDb (k+1) cs).2.2:=fun i h h'=>hk i (by omega) h'
    obtain⟨loc1,fps1,ht1,ha1⟩:=qQT R hk1 (g2.mono (fun _ h=>h) (fun _ _ h=>by simp[qAa]at h) (fun _ _=>rfl)) n2 (fun c hc=>hL c (List.mem_cons_of_mem _ hc)) hok'
    have hid:get ({ σ with h:=(qDb (k+1) cs).2.1++σ.h }:St).h k=none:=by
     show get ((qDb (k+1) cs).2.1++σ.h) k=none
     rw[qKG (qHg cs (k+1)) (by omega)]
     exact hk k (Nat.le_refl _) (by show k<(qDb (k+1) cs).2.2;omega)
    have hLb:=hL b (by simp)
    have R':=ht1.1.adopt hid (ρ:=.box (qDb (k+1) cs).1) (L:=⟨b,0,0,0,0⟩) (fp0:=[b]) (by
     intro c hc
     obtain rfl:=List.mem_singleton.1 hc
     refine⟨hLb.1,hLb.2.1,hLb.2.2.1,fun i ρ hl hb=>?_⟩
     rcases ht1.2.2 i ρ c hl hb with⟨j,ρ',hj,hb'⟩|hb'
     ·exact hLb.2.2.2 j ρ' hj hb'
     ·exact n1 hb') (by simp) ⟨rfl,rfl,arr,el,g1,ha1.mono (fun _ h=>h) (qHP (ht1.1.fresh k hid)) (fun _ _=>rfl)⟩
    refine⟨_,_,⟨R',fun i M hM=>qHP (ht1.1.fresh k hid) i M (ht1.2.1 i M hM),?_⟩,AR.p (L:=⟨b,0,0,0,0⟩) (off:=0) (qCO _ _ _)⟩
    rintro i ρ c ⟨h1,h2⟩ hb
    simp only[qNq,List.cons_append,qAQ]at h1
    split at h1
    ·rename_i e;subst e;simp only[qGN,if_true]at hb;obtain rfl:=List.mem_singleton.1 hb;exact .inr (by simp)
    ·rename_i e
     simp only[qGN,if_neg e]at hb
     rcases ht1.2.2 i ρ c ⟨h1,h2⟩ hb with h|h
     ·exact .inl h
     ·exact .inr (List.mem_cons_of_mem _ h)
  have e:qNq k d=qMP k d:=by cases d<;>first|rfl|exact absurd ⟨_,rfl⟩ hg|exact absurd ⟨_,rfl⟩ hp
  have e2:d.cellOk=true:=by cases d<;>first|exact hok|exact absurd ⟨_,rfl⟩ hg|exact absurd ⟨_,rfl⟩ hp
  rw[e]at hk⊢
  obtain⟨loc1,fps1,ht1,ha1⟩:=qTM R hk (qRD e2) h hnd hL
  exact⟨loc1,fps1,ht1,ha1 (qQm e2 h)⟩
theorem ART.mono {w':World} {Z':Nat→Prop} {loc loc':Nat→Option Loc} (hZ:∀b,Z b→Z' b) (hl:∀id L,loc id=some L→loc' id=some L):∀{ds vs fp},ART w Z loc fp ds vs→(∀b,Z b∨b∈fp→w'.heap[b]?=w.heap[b]?)→ART w' Z' loc' fp ds vs:=by
 intro ds
 induction ds with
 |nil=>intro vs fp h _;cases h;exact .nil
 |cons d ds ih=>intro vs fp h hw;cases h with|cons h1 h2=>exact .cons (h1.mono hZ hl fun b hb=>hw b (hb.imp (fun h=>h) (List.mem_append_left _))) (ih h2 fun b hb=>hw b (hb.imp (fun h=>h) (List.mem_append_right _)))
theorem qSS:∀{ds:List D} {σ loc fps} (R:Rel E σ a w Z loc fps) {k:Nat} (hk:σ.freshIn k (qFX k ds).2.2) {vs:List Value} {fp:List Nat} (h:ART w Z loc fp ds vs) (hnd:fp.Nodup) (hL:Loose E σ w Z fps fp) (hok:ds.all D.gOk=true),
  ∃loc' fps',Took E a w Z σ loc fps fp { σ with h:=(qFX k ds).2.1++σ.h } loc' fps'∧ART w Z loc' [] (qFX k ds).1 vs:=by
 intro ds
 induction ds with
 |nil =>
  intro σ loc fps R k hk vs fp h hnd hL hok
  cases h
  exact⟨loc,fps,⟨R,fun _ _ h=>h,fun i ρ b hl hb=>.inl ⟨i,ρ,hl,hb⟩⟩,.nil⟩
 |cons d ds ih =>
  intro σ loc fps R k hk vs fp h hnd hL hok
  simp only[List.all_cons,Bool.and_eq_true]at hok
  have l1:=qQX k d;have l2:=qOL ds (qNq k d).2.2
  cases h with
  | @cons _ fp1 fp2 _ v _ vs h1 h2 =>
   have hnd':=List.nodup_append.1 hnd
   obtain⟨loc1,fps1,ht1,ha1⟩:=qUp R (k:=k) (fun i h h'=>hk i h (Nat.lt_of_lt_of_le h' l2)) h1 hnd'.1 (fun b hb=>hL b (List.mem_append_left _ hb)) hok.1
   obtain⟨loc2,fps2,ht2,ha2⟩:=ih ht1.1 (qOV (qNJ k d) hk l1 l2) (ART.mono (fun _ h=>h) ht1.2.1 h2 (fun _ _=>rfl)) hnd'.2.1 (hL.rest hnd ht1) hok.2
   refine⟨loc2,fps2,?_,?_⟩
   ·have:=ht1.trans ht2
    simpa [qFX]using this
   ·exact .cons (fp:=[]) (fp':=[]) (ha1.mono (fun _ h=>h) ht2.2.1 (fun _ _=>rfl)) ha2
theorem qRf {σ loc fps} (R:Rel E σ a w Z loc fps) {k:Nat} {d:D} (hk:σ.freshIn k (qIg k d).2.2) {v:Value} {fp:List Nat} (h:AR w Z loc fp d v) (hnd:fp.Nodup) (hL:Loose E σ w Z fps fp) (hok:d.tOk=true) :
  ∃loc' fps',Took E a w Z σ loc fps fp { σ with h:=(qIg k d).2.1++σ.h } loc' fps'∧AR w Z loc' [] (qIg k d).1 v:=by
 by_cases hg:∃ds,d=.t ds
 ·obtain⟨ds,rfl⟩:=hg
  cases h with
  |t h1 =>
   obtain⟨loc',fps',h2,h4⟩:=qSS R hk h1 hnd hL hok
   exact⟨loc',fps',h2,.t h4⟩
 ·have e:qIg k d=qNq k d:=by cases d<;>first|rfl|exact absurd ⟨_,rfl⟩ hg
  have e2:d.gOk=true:=by cases d<;>first|exact hok|exact absurd ⟨_,rfl⟩ hg
  rw[e]at hk⊢
  obtain⟨loc1,fps1,ht1,ha1⟩:=qUp R hk h hnd hL e2
  exact⟨loc1,fps1,ht1,ha1⟩
end
section
variable {P:Program} {σ:St} {o:Oper}
theorem qFU {a:Act} {w:World} {f:FuncId} {callee:Operand} {args:Array Operand} {ts:Array TypeId} {caps:Array Value} (ho:o.op=.call { callee:=.value callee,args:=args,argTypes:=ts }) (hf:a.eval callee=.func (.func f) #[] caps) (hc:qHo P f) :
  (execOp a.eval o).run P w=.ok (.enter f (args.map a.eval++caps)) w:=by
 obtain⟨fn,h1,h2,h3⟩:=hc
 have h3' : ¬fn.name = "runtime.NumGoroutine" := by simpa using h3
 have h2':¬fn.body=none:=fun e=>by rw[e]at h2;cases h2
 simp[execOp,ho,resolve,hf,Deferred.ofValue,invoke,callFunc,h1,h2',h3']
theorem qM5 {w Z loc}:∀{ds ds':List D} {vs vs':List Value},ART w Z loc [] ds vs→ART w Z loc [] ds' vs'→ART w Z loc [] (ds++ds') (vs++vs'):=by
 intro ds
 induction ds with
 |nil =>
  intro ds' vs vs' h h'
  generalize hfp:([]:List Nat)=fp at h
  cases h;exact h'
 |cons d ds ih =>
  intro ds' vs vs' h h'
  generalize hfp:([]:List Nat)=fp at h
  cases h with
  | @cons _ fp1 fp2 _ v _ vs h1 h2 =>
   obtain⟨rfl,rfl⟩:fp1=[]∧fp2=[]:=List.append_eq_nil_iff.1 hfp.symm
   exact .cons (fp:=[]) (fp':=[]) h1 (ih h2 h')
theorem qFs {w Z loc}:∀{ds:List D} {vs:List Value},All2 (fun d v=>AR w Z loc [] d v) ds vs→ART w Z loc [] ds vs
 |_,_,.nil=>.nil
 |_,_,.cons h1 h2=>.cons (fp:=[]) (fp':=[]) h1 (qFs h2)
theorem qJn {w Z loc}:∀{ds:List D} {vs:List Value},ARL w Z loc [] ds vs→ART w Z loc [] ds vs:=by
 intro ds
 induction ds with
 |nil=>intro vs h;generalize hfp:([]:List Nat)=fp at h;cases h;exact .nil
 |cons d ds ih =>
  intro vs h
  generalize hfp:([]:List Nat)=fp at h
  cases h with
  | @cons _ fp1 fp2 _ v _ vs h0 h1 h2 =>
   obtain⟨rfl,rfl⟩:fp1=[]∧fp2=[]:=List.append_eq_nil_iff.1 hfp.symm
   exact .cons (fp:=[]) (fp':=[]) h1 (ih h2)
def lends (σ:St):List D→List D→Prop
 | [],[]=>True
 |d::ds,e::es=>Lend σ d e∧lends σ ds es
 |_,_=>False
theorem RelV.lends {E a w Z loc fps} (R:RelV E σ a w Z loc fps):∀{ds es:List D} {vs:List Value},lends σ ds es→All2 (fun d v=>AR w Z loc [] d v) ds vs→ART w (fun b=>b<w.heap.size) qAa [] es vs
 | [],[],_,_,h=>by cases h;exact .nil
 |d::ds,e::es,_,hl,h=>by
  cases h with
  |cons h1 h2=>exact .cons (fp:=[]) (fp':=[]) (R.lend hl.1 h1) (R.lends hl.2 h2)
 | [],_::_,_,hl,_=>hl.elim
 |_::_,[],_,hl,_=>hl.elim
theorem Rel.after {E a w w' Z loc fps} (R:Rel E σ a w Z loc fps) {Zc Z':Nat→Prop} {res:D} {v:Value} {fpr:List Nat} {k:Nat} (X:Ext w w') (hr:AR w' Z' qAa fpr res v) (hnd:fpr.Nodup)
  (hfp:∀b∈fpr,¬Z' b∧w.heap.size≤b∧b<w'.heap.size) (hz:∀b,Z' b→b<w'.heap.size∧(Zc b∨w.heap.size≤b)) (hZc:(∀b,Zc b→Z b)∨res.zfree) (hk:σ.freshIn k (qIg k res).2.2) (hok:res.tOk=true) {dst:Option Tmp} (hd:∀n,dst=some n→n<σ.nt) :
  RelX E (St.put { σ with h:=(qIg k res).2.1++σ.h } dst (qIg k res).1) (a.put dst v) w':=by
 have R1:=R.ext X
 have R2:Rel E σ a w' (fun b=>Z b∨(w.heap.size≤b∧Z' b)) loc fps:=R1.zone (fun b h=>.inl h) (by
  rintro b (h|⟨h1,h2⟩)
  ·exact .inl h
  ·exact .inr ⟨(hz b h2).1,.inl (Nat.le_trans R.grow h1),fun i ρ hl hb=>absurd (R.owned i ρ b hl hb).2.1 (by omega)⟩)
 have hr2:AR w' (fun b=>Z b∨(w.heap.size≤b∧Z' b)) qAa fpr res v:=by
  rcases hZc with h|h
  ·refine hr.mono (fun b hb=>?_) (fun _ _ h=>h) (fun _ _=>rfl)
   rcases (hz b hb).2 with h'|h'
   ·exact .inl (h b h')
   ·exact .inr ⟨h',hb⟩
  ·exact h _ _ _ _ _ _ hr
 obtain⟨loc',fps',ht,ha⟩:=qRf R2 hk (hr2.mono (fun _ h=>h) (fun _ _ h=>by simp[qAa]at h) (fun _ _=>rfl)) hnd (fun b hb=>by
  obtain⟨g1,g2,g3⟩:=hfp b hb
  refine⟨?_,g3,.inl (Nat.le_trans R.grow g2),fun i ρ hl hbi=>absurd (R.owned i ρ b hl hbi).2.1 (by omega)⟩
  rintro (h|⟨_,h⟩)
  ·exact absurd (R.zlt b h) (by omega)
  ·exact g1 h) hok
 exact⟨_,loc',fps',ht.1.put (σ:={ σ with h:=(qIg k res).2.1++σ.h }) hd ha⟩
theorem qAU {f:FuncId} {callee:Operand} {args:Array Operand} {ts:Array TypeId} {caps ds:List D} {res:D} (ho:o.op=.call { callee:=.value callee,args:=args,argTypes:=ts }) (k:Nat)
  (hc:σ.ev callee=some (.f f caps)) (ha:evs σ args.toList=some ds) (hfree:(ds.all D.free&&caps.all D.free)=true) (S:qAC P f (ds++caps) res) (hok:res.tOk=true) (hk:σ.freshFrom k=true) (hd:qBI σ o=true) :
  qJX P σ o (St.put { σ with h:=(qIg k res).2.1++σ.h } o.dst (qIg k res).1):=by
 rintro E a w ⟨Z,loc,fps,R⟩
 have hcv:=R.ev hc
 generalize hav:a.eval callee=cv at hcv
 simp only[Bool.and_eq_true]at hfree
 cases hcv with
 | @f _ _ _ _ arr hcaps =>
  unfold Oper.wp
  rw[qFU ho hav S.1]
  have hargs:=qHT R.toRelV ha
  have free2:∀{ds:List D} {vs:List Value},ds.all D.free=true→All2 (fun d v=>AR w Z loc [] d v) ds vs→All2 (fun d v=>AR w Z qAa [] d v) ds vs:=by
   intro ds
   induction ds with
   |nil=>intro vs _ h;cases h;exact .nil
   |cons d ds ih=>intro vs hf h;cases h with|cons h1 h2=>simp only[List.all_cons,Bool.and_eq_true]at hf;exact .cons (h1.free hf.1 qAa) (ih hf.2 h2)
  have hart:ART w Z qAa [] (ds++caps) (args.map a.eval++arr).toList:=by
   have:=qM5 (qFs (free2 hfree.1 hargs)) (qJn (ARL.of_all (fun d v hd r=>r.free hd qAa) hfree.2 hcaps))
   simpa using this
  refine Calls.mono (S.2 w Z _ hart R.zlt R.globZ) ?_
  rintro e w' ⟨v,Z',fpr,rfl,X,hr,hnd,hfp,hz⟩
  exact R.after X hr hnd hfp hz (.inl fun _ h=>h) (qJH hk _) hok (qAm hd)
theorem qV2 {f:FuncId} {callee:Operand} {args:Array Operand} {ts:Array TypeId} {caps ds es:List D} {res:D} (ho:o.op=.call { callee:=.value callee,args:=args,argTypes:=ts }) (k:Nat)
  (hc:σ.ev callee=some (.f f caps)) (ha:evs σ args.toList=some ds) (hl:lends σ (ds++caps) es) (S:qAC P f es res) (hzf:res.zfree) (hok:res.tOk=true) (hk:σ.freshFrom k=true) (hd:qBI σ o=true) :
  qJX P σ o (St.put { σ with h:=(qIg k res).2.1++σ.h } o.dst (qIg k res).1):=by
 rintro E a w ⟨Z,loc,fps,R⟩
 have hcv:=R.ev hc
 generalize hav:a.eval callee=cv at hcv
 cases hcv with
 | @f _ _ _ _ arr hcaps =>
  unfold Oper.wp
  rw[qFU ho hav S.1]
  have hargs:=qHT R.toRelV ha
  have all2_append:∀{ds:List D} {vs:List Value} {ds':List D} {vs':List Value},All2 (fun d v=>AR w Z loc [] d v) ds vs→ARL w Z loc [] ds' vs'→All2 (fun d v=>AR w Z loc [] d v) (ds++ds') (vs++vs'):=by
   intro ds
   induction ds with
   |nil =>
    intro vs ds' vs' h h'
    cases h
    have:∀{ds':List D} {vs':List Value},ART w Z loc [] ds' vs'→All2 (fun d v=>AR w Z loc [] d v) ds' vs':=by
     intro ds'
     induction ds' with
     |nil=>intro vs' h;generalize hfp:([]:List Nat)=fp at h;cases h;exact .nil
     |cons d ds ih =>
      intro vs' h
      generalize hfp:([]:List Nat)=fp at h
      cases h with
      | @cons _ fp1 fp2 _ v _ vs h1 h2 =>
       obtain⟨rfl,rfl⟩:fp1=[]∧fp2=[]:=List.append_eq_nil_iff.1 hfp.symm
       exact .cons h1 (ih h2)
    exact this (qJn h')
   |cons d ds ih=>intro vs ds' vs' h h';cases h with|cons h1 h2=>exact .cons h1 (ih h2 h')
  have hart:ART w (fun b=>b<w.heap.size) qAa [] es (args.map a.eval++arr).toList:=by
   have:=R.lends hl (all2_append hargs hcaps)
   simpa using this
  refine Calls.mono (S.2 w _ _ hart (fun _ h=>h) R.glob.all) ?_
  rintro e w' ⟨v,Z',fpr,rfl,X,hr,hnd,hfp,hz⟩
  exact R.after X hr hnd hfp hz (.inr hzf) (qJH hk _) hok (qAm hd)
end
end Go.AM
end
section
namespace Go.AM
inductive ExpC (σ:St):D→D→List Nat→Prop
 |v {x}:ExpC σ (.v x) (.v x) []
 |s {xs}:ExpC σ (.s xs) (.s xs) []
 |nil {k k'}:ExpC σ (.w k []) (.w k' []) []
 |nilS {k}:ExpC σ (.w k []) (.s []) []
 |row {id n sz xs}:get σ.h id=some (.row sz xs)→n=xs.length→ExpC σ (.r id 0 n) (.w sz xs) [id]
 |u {d}:ExpC σ d .u []
 |q {cs}:ExpC σ (.q cs) (.q cs) []
 |f {fn caps}:caps.all D.cfree=true→ExpC σ (.f fn caps) (.f fn caps) []
 |box {id cs}:get σ.h id=some (.box cs)→cs.all D.isVS=true→ExpC σ (.p id 0) (.pw cs) [id]
 |rowR {id sz xs}:get σ.h id=some (.row sz xs)→ExpC σ (.R id) (.w sz xs) [id]
 |mapR {id es}:get σ.h id=some (.map es)→ExpC σ (.m id) (.mw es) [id]
 |part {id lo n sz xs}:get σ.h id=some (.row sz xs)→lo+n≤xs.length→ExpC σ (.r id lo n) (.w sz ((xs.drop lo).take n)) [id]
def qMQ (σ:St):List D→List D→List Nat→Prop
 | [],[],ids=>ids=[]
 |d::ds,e::es,ids=>∃i1 i2,ids=i1++i2∧ExpC σ d e i1∧qMQ σ ds es i2
 |_,_,_=>False
inductive ExpG (σ:St):D→D→List Nat→Prop
 |c {d e ids}:ExpC σ d e ids→ExpG σ d e ids
 |g {ds es ids}:qMQ σ ds es ids→ExpG σ (.g ds) (.g es) ids
 |pb {id ds es ids}:get σ.h id=some (.box ds)→qMQ σ ds es ids→ExpG σ (.p id 0) (.pn es) (id::ids)
def qKq (σ:St):List D→List D→List Nat→Prop
 | [],[],ids=>ids=[]
 |d::ds,e::es,ids=>∃i1 i2,ids=i1++i2∧ExpG σ d e i1∧qKq σ ds es i2
 |_,_,_=>False
inductive ExpT (σ:St):D→D→List Nat→Prop
 |c {d e ids}:ExpG σ d e ids→ExpT σ d e ids
 |t {ds es ids}:qKq σ ds es ids→ExpT σ (.t ds) (.t es) ids
theorem zCn {σ}:qMQ σ [] [] []:=rfl
theorem zC {σ d e i1 ds es i2} (h:ExpC σ d e i1) (h':qMQ σ ds es i2):qMQ σ (d::ds) (e::es) (i1++i2):=⟨_,_,rfl,h,h'⟩
theorem zGn {σ}:qKq σ [] [] []:=rfl
theorem zG {σ d e i1 ds es i2} (h:ExpG σ d e i1) (h':qKq σ ds es i2):qKq σ (d::ds) (e::es) (i1++i2):=⟨_,_,rfl,h,h'⟩
section
variable {E:Env} {σ:St} {a:Act} {w:World} {Z:Nat→Prop} {loc:Nat→Option Loc} {fps:Nat→List Nat} (R:Rel E σ a w Z loc fps)
include R
def Handed (σ:St) (fps:Nat→List Nat) (ids fp:List Nat):Prop:=fp.Nodup∧∀b∈fp,∃id ρ,id∈ids∧σ.live id ρ∧b∈fps id
theorem Handed.append {ids ids' fp fp':List Nat} (h:Handed σ fps ids fp) (h':Handed σ fps ids' fp') (hnd:(ids++ids').Nodup):Handed σ fps (ids++ids') (fp++fp'):=by
 refine⟨List.nodup_append.2 ⟨h.1,h'.1,fun x hx y hy e=>?_⟩,fun b hb=>?_⟩
 ·subst e
  obtain⟨i,ρ,h1,h2,h3⟩:=h.2 x hx
  obtain⟨j,ρ',h4,h5,h6⟩:=h'.2 x hy
  have:=R.disj i j ρ ρ' x h2 h5 h3 h6
  subst this
  exact(List.nodup_append.1 hnd).2.2 i h1 i h4 rfl
 ·rcases List.mem_append.1 hb with hb|hb
  ·obtain⟨i,ρ,h1,h2,h3⟩:=h.2 b hb;exact⟨i,ρ,List.mem_append_left _ h1,h2,h3⟩
  ·obtain⟨i,ρ,h1,h2,h3⟩:=h'.2 b hb;exact⟨i,ρ,List.mem_append_right _ h1,h2,h3⟩
theorem qRa {d e ids v} (hx:ExpC σ d e ids) (h:AR w Z loc [] d v):∃fp,AR w Z qAa fp e v∧Handed σ fps ids fp:=by
 cases hx with
 |v=>cases h;exact⟨[],.v,by simp[Handed]⟩
 |s=>exact⟨[],h.cfree rfl qAa,by simp[Handed]⟩
 |nil =>
  generalize hfp:([]:List Nat)=fp at h
  cases h with
  |w0=>exact⟨[],.w0,by simp[Handed]⟩
  |w=>cases hfp
 |nilS =>
  generalize hfp:([]:List Nat)=fp at h
  cases h with
  |w0=>exact⟨[],.s0,by simp[Handed]⟩
  |w=>cases hfp
 | @row id n sz xs hg hn =>
  subst hn
  obtain⟨A,cap,hv,h1,h2,h3,h4,h5⟩:=R.destR (ks:=[id]) (by simp) hg (by omega) h
  simp only[List.drop_zero,List.take_length]at h3 h4 h5
  subst hv
  rcases h5 with⟨hc,hn⟩|⟨bk,off,arr,el,fpX,hD,hm⟩
  ·have hxs:=List.eq_nil_of_length_eq_zero hn
   subst hxs
   subst hc
   exact⟨[],.w0,by simp[Handed]⟩
  ·rw[hD.addr]
   exact⟨_,.w hD.heap h3 h1 h2 hD.room hD.rel,hD.nodup,fun b hb=>⟨id,_,by simp,⟨hg,by simp⟩,hm b hb⟩⟩
 |u=>exact⟨[],.u,by simp[Handed]⟩
 |q=>exact⟨[],h.cfree rfl qAa,by simp[Handed]⟩
 | @f fn caps hc=>exact⟨[],h.ffree (show D.ffree (.f fn caps)=true from hc) qAa,by simp[Handed]⟩
 | @box id cs hg hv =>
  obtain⟨L,hL,e1,e2,arr,el,h3,h4⟩:=R.roots id _ ⟨hg,by simp⟩
  cases h with
  |p g1 =>
   rw[hL]at g1;cases g1
   rw[e1]
   refine⟨[L.b],.pw h3 (h4.plain (List.all_eq_true.2 fun d hd=>D.isVS_plain (List.all_eq_true.1 hv d hd)) qAa),?_,?_⟩
   ·simp
   ·intro b hb;exact⟨id,_,by simp,⟨hg,by simp⟩,by rw[e2];exact hb⟩
 | @mapR id es hg =>
  obtain⟨L,hL,e1,e2,en,cl,h3,h4⟩:=R.roots id _ ⟨hg,by simp⟩
  cases h with
  |m g1 =>
   rw[hL]at g1;cases g1
   refine⟨[L.b],.mw h3 h4,by simp,?_⟩
   intro b hb;exact⟨id,_,by simp,⟨hg,by simp⟩,by rw[e2];exact hb⟩
 | @rowR id sz xs hg =>
  have h':=R.res h
  simp only[St.res,hg]at h'
  obtain⟨A,cap,hv,h1,h2,h3,h4,h5⟩:=R.destR (ks:=[id]) (by simp) hg (by omega) h'
  simp only[List.drop_zero,List.take_length]at h3 h4 h5
  subst hv
  rcases h5 with⟨hc,hn⟩|⟨bk,off,arr,el,fpX,hD,hm⟩
  ·have hxs:=List.eq_nil_of_length_eq_zero hn
   subst hxs
   subst hc
   exact⟨[],.w0,by simp[Handed]⟩
  ·rw[hD.addr]
   exact⟨_,.w hD.heap h3 h1 h2 hD.room hD.rel,hD.nodup,fun b hb=>⟨id,_,by simp,⟨hg,by simp⟩,hm b hb⟩⟩
 | @part id lo n sz xs hg hle =>
  obtain⟨A,cap,hv,h1,h2,h3,h4,h5⟩:=R.destR (ks:=[id]) (by simp) hg hle h
  subst hv
  rcases h5 with⟨hc,hn⟩|⟨bk,off,arr,el,fpX,hD,hm⟩
  ·subst hn hc
   rw[List.take_zero]
   exact⟨[],.w0,by simp[Handed]⟩
  ·rw[hD.addr]
   have key:=AR.w (loc:=qAa) (xs:=(xs.drop lo).take n) hD.heap h3 (by rw[h4];exact h1) h2 hD.room (by rw[h4];exact hD.rel)
   rw[h4]at key
   exact⟨_,key,hD.nodup,fun b hb=>⟨id,_,by simp,⟨hg,by simp⟩,hm b hb⟩⟩
theorem qQO:∀{ds es ids vs},qMQ σ ds es ids→ids.Nodup→ARL w Z loc [] ds vs→∃fp,ARL w Z qAa fp es vs∧Handed σ fps ids fp:=by
 intro ds
 induction ds with
 |nil =>
  intro es ids vs hx _ h
  cases es with
  |nil=>simp only[qMQ]at hx;subst hx;generalize hfp:([]:List Nat)=fp at h;cases h;exact⟨[],.nil,by simp[Handed]⟩
  |cons=>exact hx.elim
 |cons d ds ih =>
  intro es ids vs hx hnd h
  cases es with
  |nil=>exact hx.elim
  |cons e es =>
   obtain⟨i1,i2,rfl,h1,h2⟩:=hx
   generalize hfp:([]:List Nat)=fp at h
   cases h with
   | @cons _ fp1 fp2 _ v _ vs g0 g1 g2 =>
    obtain⟨rfl,rfl⟩:fp1=[]∧fp2=[]:=List.append_eq_nil_iff.1 hfp.symm
    obtain⟨f1,k1,k2⟩:=qRa R h1 g1
    obtain⟨f2,k3,k4⟩:=ih h2 (List.nodup_append.1 hnd).2.1 g2
    exact⟨f1++f2,.cons g0 k1 k3,k2.append R k4 hnd⟩
theorem qTr {d e ids v} (hx:ExpG σ d e ids) (hnd:ids.Nodup) (h:AR w Z loc [] d v):∃fp,AR w Z qAa fp e v∧Handed σ fps ids fp:=by
 cases hx with
 |c h1=>exact qRa R h1 h
 |g h1=>cases h with|g h2=>obtain⟨fp,k1,k2⟩:=qQO R h1 hnd h2;exact⟨fp,.g k1,k2⟩
 | @pb id ds es ids hg h1 =>
  obtain⟨L,hL,e1,e2,arr,el,h3,h4⟩:=R.roots id _ ⟨hg,by simp⟩
  obtain⟨n1,n2⟩:=List.nodup_cons.1 hnd
  cases h with
  |p g1 =>
   rw[hL]at g1;cases g1
   rw[e1]
   obtain⟨fp,k1,k2⟩:=qQO R h1 n2 h4
   refine⟨L.b::fp,.pn h3 k1,List.nodup_cons.2 ⟨fun hb=>?_,k2.1⟩,fun b hb=>?_⟩
   ·obtain⟨j,ρ,q1,q2,q3⟩:=k2.2 _ hb
    have:=R.disj id j _ ρ L.b ⟨hg,by simp⟩ q2 (by rw[e2];simp) q3
    subst this;exact n1 q1
   ·rcases List.mem_cons.1 hb with rfl|hb
    ·exact⟨id,_,by simp,⟨hg,by simp⟩,by rw[e2];simp⟩
    ·obtain⟨j,ρ,q1,q2,q3⟩:=k2.2 b hb
     exact⟨j,ρ,List.mem_cons_of_mem _ q1,q2,q3⟩
theorem qON:∀{ds es ids vs},qKq σ ds es ids→ids.Nodup→ART w Z loc [] ds vs→∃fp,ART w Z qAa fp es vs∧Handed σ fps ids fp:=by
 intro ds
 induction ds with
 |nil =>
  intro es ids vs hx _ h
  cases es with
  |nil=>simp only[qKq]at hx;subst hx;generalize hfp:([]:List Nat)=fp at h;cases h;exact⟨[],.nil,by simp[Handed]⟩
  |cons=>exact hx.elim
 |cons d ds ih =>
  intro es ids vs hx hnd h
  cases es with
  |nil=>exact hx.elim
  |cons e es =>
   obtain⟨i1,i2,rfl,h1,h2⟩:=hx
   generalize hfp:([]:List Nat)=fp at h
   cases h with
   | @cons _ fp1 fp2 _ v _ vs g1 g2 =>
    obtain⟨rfl,rfl⟩:fp1=[]∧fp2=[]:=List.append_eq_nil_iff.1 hfp.symm
    obtain⟨f1,k1,k2⟩:=qTr R h1 (List.nodup_append.1 hnd).1 g1
    obtain⟨f2,k3,k4⟩:=ih h2 (List.nodup_append.1 hnd).2.1 g2
    exact⟨f1++f2,.cons k1 k3,k2.append R k4 hnd⟩
theorem qTa {d e ids v} (hx:ExpT σ d e ids) (hnd:ids.Nodup) (h:AR w Z loc [] d v):∃fp,AR w Z qAa fp e v∧Handed σ fps ids fp:=by
 cases hx with
 |c h1=>exact qTr R h1 hnd h
 |t h1=>cases h with|t h2=>obtain⟨fp,k1,k2⟩:=qON R h1 hnd h2;exact⟨fp,.t k1,k2⟩
end
def qVF (te:TE) (σ:St):List ResultVar→Option (List D)
 | []=>some []
 |.tmp t::l=>match get σ.t t,qVF te σ l with|some d,some r=>some (d::r)|_,_=>none
 |.cell x ty::l =>
  match get σ.t x,te ty,qVF te σ l with
  |some p,some ti,some r=>(match σ.at p with|some ds=>(match qLh ti ds with|some d=>some (d::r)|none=>none)|none=>none)
  |_,_,_=>none
def qW8:List D→D
 | [d]=>d
 |ds=>.t ds
@[reducible] def isRet:Exit→Prop|.normal=>True|.ret=>True|_=>False
def retQ (te:TE) (fn:Func) (res:D):Exit→St→Prop:=fun e σ=>isRet e∧∃ds ids,qVF te σ fn.results.toList=some ds∧ExpT σ (qW8 ds) res ids∧ids.Nodup
def qXV (tmps:Array Value):ResultVar→Sem Value
 |.tmp t=>pure (tmps.getD t undef)
 |.cell x t=>do loadVar t (←asAddr (tmps.getD x undef))
theorem qLP (fn:Func) (tmps:Array Value):results fn tmps=(do let vs ←fn.results.mapM (qXV tmps);pure (if h:vs.size=1 then vs[0] else .tuple vs)):=by
 unfold results
 congr 2
theorem qOH {P:Program} {te:TE} (T:qGk P te) {E σ a w Z loc fps} (R:Rel E σ a w Z loc fps):∀{l:List ResultVar} {ds:List D},qVF te σ l=some ds→
  ∃vs,(l.mapM (qXV a.tmps)).run P w=.ok vs w∧All2 (fun d v=>AR w Z loc [] d v) ds vs
 | [],ds,h=>by simp only[qVF]at h;cases h;exact⟨[],by simp,.nil⟩
 |.tmp t::l,ds,h=>by
  simp only[qVF]at h
  split at h
  ·rename_i d r h1 h2
   cases h
   obtain⟨vs,h3,h4⟩:=qOH T R h2
   have:=R.ev (x:=.tmp t) h1
   exact⟨a.tmps.getD t undef::vs,by simp only[List.mapM_cons,qXV,Sem.run_bind,Sem.run_pure,Result.andThen_ok,h3],.cons this h4⟩
  ·cases h
 |.cell x ty::l,ds,h=>by
  simp only[qVF]at h
  split at h
  ·rename_i p ti r h1 hti h2
   split at h
   ·rename_i cs hat
    split at h
    ·rename_i d hd
     cases h
     obtain⟨vs,h3,h4⟩:=qOH T R h2
     have hp:=R.ev (x:=.tmp x) h1
     obtain⟨u,h5,h6⟩:=R.loadAt T hti hp hat hd
     have h5':(do loadVar ty (←asAddr (a.tmps.getD x undef)):Sem Value).run P w=.ok u w:=by
      change (Instr.loadAt ty (a.tmps.getD x undef)).run P w=.ok u w at h5
      rw[←h5]
      have hp':AR w Z loc [] p (a.tmps.getD x undef):=hp
      generalize a.tmps.getD x undef=pv at hp'
      cases hp'<;>first|(simp[St.at]at hat;done)|simp[Instr.loadAt,Instr.sureAddr,asAddr]
     have h5'':(qXV a.tmps (.cell x ty)).run P w=.ok u w:=h5'
     exact⟨u::vs,by simp only[List.mapM_cons,Sem.run_bind,h5'',Result.andThen_ok,h3,Sem.run_pure],.cons h6 h4⟩
    ·cases h
   ·cases h
  ·cases h
def qOY:Nat→List D→List (Nat×D)
 |_,[]=>[]
 |k,d::ds=>(k,d)::qOY (k+1) ds
theorem qOr:∀{ds:List D} {k n:Nat} {d:D},get (qOY k ds) n=some d→k≤n∧ds[n-k]?=some d
 | [],k,n,d,h=>by simp[qOY,get]at h
 |e::ds,k,n,d,h=>by
  simp only[qOY,qAQ]at h
  split at h
  ·rename_i e';subst e';cases h;simp
  ·have:=qOr h
   refine⟨by omega,?_⟩
   rw[show n-k=(n-(k+1))+1 by omega];simpa using this.2
theorem zFn {P : Program} {te : TE} (T : qGk P te) {f : FuncId} {fn : Func} {body : Code} {az : List D} {res : D} (hf : P.funcs[f]? = some fn) (hb : fn.body=some body) (hname : (fn.name == "runtime.NumGoroutine")=false) (hn : Nat.ble az.length fn.ntmps=true)
  (h:AW P body (retQ te fn res) ⟨qOY 0 az,[],fn.ntmps,[]⟩):qAC P f az res:=by
 refine⟨⟨fn,hf,by rw[hb];rfl,hname⟩,fun w Z vs hart hZ hG=>?_⟩
 have hn:=Nat.le_of_ble_eq_true hn
 have artlen:∀{ds:List D} {vs:List Value} {fp},ART w Z qAa fp ds vs→ds.length=vs.length:=by
  intro ds
  induction ds with
  |nil=>intro vs fp h;cases h;rfl
  |cons d ds ih=>intro vs fp h;cases h with|cons h1 h2=>simp[ih h2]
 have artget:∀{ds:List D} {vs:List Value} {i:Nat} {d:D},ART w Z qAa [] ds vs→ds[i]?=some d→∃v,vs[i]?=some v∧AR w Z qAa [] d v:=by
  intro ds
  induction ds with
  |nil=>intro vs i d _ h;simp at h
  |cons d' ds ih =>
   intro vs i d h hi
   generalize hfp:([]:List Nat)=fp at h
   cases h with
   | @cons _ fp1 fp2 _ v _ vs h1 h2 =>
    obtain⟨rfl,rfl⟩:fp1=[]∧fp2=[]:=List.append_eq_nil_iff.1 hfp.symm
    cases i with
    |zero=>simp at hi;subst hi;exact⟨v,rfl,h1⟩
    |succ i=>simpa using ih h2 (by simpa using hi)
 have hlen:=artlen hart
 simp only[Array.length_toList]at hlen
 let E:Env:=⟨w,Z,[],hG.1,(fun _ h=>by cases h),hG.2⟩
 have R:Rel E ⟨qOY 0 az,[],fn.ntmps,[]⟩ { tmps:=vs++Array.replicate (fn.ntmps-vs.size) undef,defers:=[] } w Z qAa (fun _=>[]):=by
  refine { size:=by simp;omega,defers:=rfl,temps:=?_,roots:=?_,nodup:=?_,disj:=?_,owned:=?_,fresh:=fun _ _=>rfl,zlt:=hZ,zsub:=fun _ h=>h,znew:=fun _ h=>.inl h,frame:=fun _ _ _=>rfl,grow:=Nat.le_refl _,shape:=fun _ _=>rfl,os:=rfl,output:=rfl,tape:=⟨rfl,Nat.le_refl _⟩,pins:=fun _ _ h=>by cases h }
  ·intro t d ht
   obtain⟨_,h1⟩:=qOr ht
   obtain⟨v,h2,h3⟩:=artget hart h1
   refine⟨v,?_,h3⟩
   simp only[Nat.sub_zero,Array.getElem?_toList]at h2
   rw[Array.getElem?_append_left (Array.getElem?_eq_some_iff.1 h2).1];exact h2
  all_goals (intros;rename_i hl;simp[St.live,get]at *)
 refine calls_of_wp hf hb (wp_mono (h E _ w ⟨Z,qAa,_,R⟩) ?_)
 rintro e a' w' ⟨σ',⟨he,ds,ids,hres,hexp,hnd⟩,Z',loc',fps',R'⟩
 obtain⟨us,h1,h2⟩:=qOH T R' hres
 have hv:∃v,(results fn a'.tmps).run P w'=.ok v w'∧AR w' Z' loc' [] (qW8 ds) v:=by
  have hrun:(fn.results.mapM (qXV a'.tmps)).run P w'=.ok us.toArray w':=by
   rw[Array.mapM_eq_mapM_toList];simp only[Sem.run_map,h1,Result.andThen_ok]
  have hall:∀{ds:List D} {us:List Value},All2 (fun d v=>AR w' Z' loc' [] d v) ds us→ds.length=us.length:=by
   intro ds us h;induction h with|nil=>rfl|cons _ _ ih=>simp[ih]
  have hl:=hall h2
  by_cases hone:us.length=1
  ·cases h2 with
   |nil=>simp at hone
   | @cons d u l m g1 g2 =>
    cases g2 with
    |cons=>simp at hone
    |nil=>exact⟨u,by simp only[qLP,Sem.run_bind,hrun,Result.andThen_ok,Sem.run_pure];simp,g1⟩
  ·refine⟨.tuple us.toArray,?_,?_⟩
   ·simp only[qLP,Sem.run_bind,hrun,Result.andThen_ok,Sem.run_pure,List.size_toArray,hone,dif_neg,not_false_eq_true]
   ·have:qW8 ds=.t ds:=by
     cases ds with
     |nil=>rfl
     |cons d ds=>cases ds with|nil=>simp at hl;omega|cons=>rfl
    rw[this]
    exact .t (by simpa using qFs h2)
 obtain⟨v,hv1,hv2⟩:=hv
 obtain⟨fpr,hv3,hv4,hv5⟩:=qTa R' hexp hnd hv2
 have post:∃v_1 Z'_1 fpr,Ending.returned v=Ending.returned v_1∧Ext w w'∧AR w' Z'_1 qAa fpr res v_1∧fpr.Nodup∧(∀b∈fpr,¬Z'_1 b∧w.heap.size≤b∧b<w'.heap.size)∧(∀b,Z'_1 b→b<w'.heap.size∧(Z b∨w.heap.size≤b)):=by
  refine⟨v,Z',fpr,rfl,⟨R'.grow,fun b hb=>R'.frame b hb (by simp[E]),R'.os,R'.output,R'.tape⟩,hv3,hv4,fun b hb=>?_,fun b hb=>⟨R'.zlt b hb,?_⟩⟩
  ·obtain⟨id,ρ,_,h3,h4⟩:=hv5 b hb
   obtain⟨g1,g2,g3⟩:=R'.owned id ρ b h3 h4
   exact⟨g1,g3.elim (fun h=>h) (fun h=>by simp[E]at h),g2⟩
  ·rcases R'.znew b hb with h|h|h
   ·exact .inl h
   ·exact .inr h
   ·simp[E]at h
 cases e with
 |normal=>exact⟨R'.defers,v,hv1,post⟩
 |ret=>exact⟨R'.defers,v,hv1,post⟩
 |_=>exact he.elim
end Go.AM
end
section
namespace Go.AM
def Le (σ σ':St):Prop:=∀E a w,RelX E σ a w→RelX E σ' a w
theorem Le.refl (σ:St):Le σ σ:=fun _ _ _ h=>h
theorem Le.trans {a b c:St} (h:Le a b) (k:Le b c):Le a c:=fun E x w r=>k E x w (h E x w r)
theorem AW.le {P:Program} {c:Code} {Q:Exit→St→Prop} {σ σ':St} (h:Le σ σ') (k:AW P c Q σ'):AW P c Q σ:=fun E a w R=>k E a w (h E a w R)
theorem AO.le {P:Program} {ops:Array Oper} {l:List Oper} {Q:Exit→St→Prop} {σ σ':St} (h:Le σ σ') (k:AO P ops l Q σ'):AO P ops l Q σ:=fun h1 h2 E a w R=>k h1 h2 E a w (h E a w R)
@[reducible] def loopQS {α:Type} (S:α→St) (I:α→Prop) (μ:α→Nat) (s:α) (Q:Exit→St→Prop):Exit→St→Prop
 |.normal,σ=>∃s',I s'∧μ s'<μ s∧Le σ (S s')
 |.exit id,σ=>Q (.exit id) σ
 |.goto l,σ=>Q (.goto l) σ
 |.ret,σ=>Q .ret σ
 |.panic c,σ=>Q (.panic c) σ
 |.outgrown,σ=>Q .outgrown σ
theorem AW.loopS {P:Program} {c:Code} {Q:Exit→St→Prop} {σ:St} {α:Type} (S:α→St) (I:α→Prop) (μ:α→Nat) (s0:α) (hI:I s0) (h0:Le σ (S s0)) (round:∀s,I s→AW P c (loopQS S I μ s Q) (S s)):AW P (.loop c) Q σ:=by
 refine AW.loop (fun k σ=>∃s,I s∧μ s=k∧Le σ (S s)) (k:=μ s0) ⟨s0,hI,rfl,h0⟩ ?_
 rintro k σ ⟨s,hs,rfl,hle⟩
 refine AW.le hle (AW.mono (round s hs) ?_)
 intro e σ' h
 cases e with
 |normal=>obtain⟨s',h1,h2,h3⟩:=h;exact⟨μ s',h2,s',h1,rfl,h3⟩
 |_=>exact h
def sw (a b n:Nat):Nat:=bif Nat.beq n a then b else bif Nat.beq n b then a else n
theorem qWt (a b n:Nat):sw a b (sw a b n)=n:=by
 have e:∀x,sw a b x=if x=a then b else if x=b then a else x:=by
  intro x
  unfold sw
  by_cases h1:x=a
  ·subst h1;simp
  ·have:Nat.beq x a=false:=by cases hb:Nat.beq x a;rfl;exact absurd (Nat.eq_of_beq_eq_true hb) h1
   by_cases h2:x=b
   ·subst h2;simp[this,h1]
   ·have h2':Nat.beq x b=false:=by cases hb:Nat.beq x b;rfl;exact absurd (Nat.eq_of_beq_eq_true hb) h2
    simp[this,h2',h1,h2]
 rw[e (sw a b n),e n]
 split
 ·rename_i h;subst h
  split
  ·rename_i h;exact h
  ·simp
 ·split
  ·rename_i h1 h2;subst h2;simp
  ·rename_i h1 h2;simp[h1,h2]
def D.renC (a b:Nat):D→D
 |.r id lo n=>.r (sw a b id) lo n
 |.R id=>.R (sw a b id)
 |.p id o=>.p (sw a b id) o
 |.e id i k=>.e (sw a b id) i k
 |.m id=>.m (sw a b id)
 |d=>d
def D.renF (a b:Nat):D→D
 |.f fn caps=>.f fn (caps.map (D.renC a b))
 |d=>d.renC a b
def D.ren (a b:Nat):D→D
 |.g ds=>.g (ds.map (D.renF a b))
 |.t ds=>.t (ds.map (D.renF a b))
 |d=>d.renF a b
def Root.ren (a b:Nat):Root→Root
 |.box ds=>.box (ds.map (D.renF a b))
 |ρ=>ρ
def D.knownC (h:List (Nat×Root)):D→Bool
 |.r id _ _=>(get h id).isSome
 |.R id=>(get h id).isSome
 |.p id _=>(get h id).isSome
 |.e id _ _=>(get h id).isSome
 |.m id=>(get h id).isSome
 |.g _=>false
 |.t _=>false
 |.f _ _=>false
 |.c _ _=>false
 |_=>true
def D.knownF (h:List (Nat×Root)):D→Bool
 |.f _ caps=>caps.all (D.knownC h)
 |d=>d.knownC h
def D.known (h:List (Nat×Root)):D→Bool
 |.g ds=>ds.all (D.knownF h)
 |.t ds=>ds.all (D.knownF h)
 |d=>d.knownF h
def Root.known (h:List (Nat×Root)):Root→Bool
 |.box ds=>ds.all (D.knownF h)
 |.orow ..=>false
 |_=>true
def qTD (a b:Nat) (h:List (Nat×Root)) (loc:Nat→Option Loc):Nat→Option Loc:=fun id=>if (get h id).isSome=true then loc (sw a b id) else none
theorem qO3 {a b:Nat} {h:List (Nat×Root)} {loc:Nat→Option Loc} {id:Nat} {L:Loc} (hk:(get h (sw a b id)).isSome=true) (hl:loc id=some L):qTD a b h loc (sw a b id)=some L:=by
 unfold qTD;rw[if_pos hk,qWt];exact hl
section
variable {w:World} {Z:Nat→Prop} {loc:Nat→Option Loc} {a b:Nat} {h:List (Nat×Root)}
theorem qTS {d:D} {v:Value} (hk:(d.renC a b).knownC h=true) (r:AR w Z loc [] d v):AR w Z (qTD a b h loc) [] (d.renC a b) v:=by
 generalize hfp:([]:List Nat)=fp at r
 cases r with
 |u=>exact .u
 |v=>exact .v
 |s0=>exact .s0
 |s h1 h2 h3 h4 h5 h6=>exact .s h1 h2 h3 h4 h5 h6
 |w0=>exact .w0
 |w=>cases hfp
 |r h1 h2 h3 h4 h5=>exact .r (qO3 hk h1) h2 h3 h4 h5
 |R h1 h2 h3 h4=>exact .R (qO3 hk h1) h2 h3 h4
 |p h1=>exact .p (qO3 hk h1)
 |e h1=>exact .e (qO3 hk h1)
 |q h1 h2 h3=>exact .q h1 h2 h3
 |pw=>cases hfp
 |g=>simp[D.renC,D.knownC]at hk
 |t=>simp[D.renC,D.knownC]at hk
 |f=>simp[D.renC,D.knownC]at hk
 |c=>simp[D.renC,D.knownC]at hk
 |m h1=>exact .m (qO3 hk h1)
 |mw=>cases hfp
 |pn=>cases hfp
 |mi h1 h2 h3=>exact .mi h1 h2 h3
theorem qRQ {f:D→D} {p:D→Bool} (hf:∀d v,p (f d)=true→AR w Z loc [] d v→AR w Z (qTD a b h loc) [] (f d) v) {ds:List D} {vs:List Value} (hk:(ds.map f).all p=true) (r:ARL w Z loc [] ds vs):ARL w Z (qTD a b h loc) [] (ds.map f) vs:=by
 refine ARL.of_get (by simpa using r.length) fun i d v h1 h2=>?_
 rw[List.getElem?_map]at h1
 cases hd:ds[i]? with
 |none=>simp[hd]at h1
 |some d0 =>
  simp only[hd,Option.map_some,Option.some.injEq]at h1
  obtain⟨v',h3,h4,h5⟩:=r.get0 hd
  rw[h3]at h2;cases h2
  subst h1
  exact⟨h4,hf d0 v (List.all_eq_true.1 hk _ (List.mem_map.2 ⟨d0,List.mem_of_getElem? hd,rfl⟩)) h5⟩
theorem qQQ {d:D} {v:Value} (hk:(d.renF a b).knownF h=true) (r:AR w Z loc [] d v):AR w Z (qTD a b h loc) [] (d.renF a b) v:=by
 by_cases hf:∃fn caps,d=.f fn caps
 ·obtain⟨fn,caps,rfl⟩:=hf
  cases r with|f h1=>exact .f (qRQ (fun d v hk r=>qTS hk r) hk h1)
 ·have e:d.renF a b=d.renC a b:=by cases d<;>first|rfl|exact absurd ⟨_,_,rfl⟩ hf
  rw[e]at hk⊢
  refine qTS ?_ r
  cases d<;>first|exact hk|exact absurd ⟨_,_,rfl⟩ hf
theorem qVd {ds:List D} {vs:List Value} (hk:(ds.map (D.renF a b)).all (D.knownF h)=true) (r:ART w Z loc [] ds vs):ART w Z (qTD a b h loc) [] (ds.map (D.renF a b)) vs:=by
 induction ds generalizing vs with
 |nil=>generalize hfp:([]:List Nat)=fp at r;cases r;exact .nil
 |cons d ds ih =>
  generalize hfp:([]:List Nat)=fp at r
  simp only[List.map_cons,List.all_cons,Bool.and_eq_true]at hk
  cases r with
  | @cons _ fp1 fp2 _ v _ vs h1 h2 =>
   obtain⟨rfl,rfl⟩:fp1=[]∧fp2=[]:=List.append_eq_nil_iff.1 hfp.symm
   exact .cons (fp:=[]) (fp':=[]) (qQQ hk.1 h1) (ih hk.2 h2)
theorem qXy {d:D} {v:Value} (hk:(d.ren a b).known h=true) (r:AR w Z loc [] d v):AR w Z (qTD a b h loc) [] (d.ren a b) v:=by
 by_cases hg:∃ds,d=.g ds
 ·obtain⟨ds,rfl⟩:=hg
  cases r with|g h1=>exact .g (qRQ (fun d v hk r=>qQQ hk r) hk h1)
 ·by_cases ht:∃ds,d=.t ds
  ·obtain⟨ds,rfl⟩:=ht
   cases r with|t h1=>exact .t (qVd hk h1)
  ·have e:d.ren a b=d.renF a b:=by cases d<;>first|rfl|exact absurd ⟨_,rfl⟩ hg|exact absurd ⟨_,rfl⟩ ht
   rw[e]at hk⊢
   refine qQQ ?_ r
   cases d<;>first|exact hk|exact absurd ⟨_,rfl⟩ hg|exact absurd ⟨_,rfl⟩ ht
end
def qYa (σ:St) (a b:Nat):List (Nat×D)→Prop
 | []=>True
 | (t,d')::l=>(∃d,get σ.t t=some d∧d.ren a b=d')∧qYa σ a b l
def qYV (σ:St) (a b:Nat):List (Nat×Root)→Prop
 | []=>True
 | (id',ρ')::l=>(∃ρ,get σ.h (sw a b id')=some ρ∧ρ.ren a b=ρ')∧qYV σ a b l
theorem qRz {σ:St} {a b:Nat}:∀{l:List (Nat×D)} {t:Nat} {d':D},qYa σ a b l→get l t=some d'→∃d,get σ.t t=some d∧d.ren a b=d'
 | [],t,d',_,h=>by simp[get]at h
 | (t0,d0)::l,t,d',hs,h=>by
  rw[qAQ]at h
  split at h
  ·rename_i e;subst e;cases h;exact hs.1
  ·exact qRz hs.2 h
theorem qSN {σ:St} {a b:Nat}:∀{l:List (Nat×Root)} {t:Nat} {d':Root},qYV σ a b l→get l t=some d'→∃d,get σ.h (sw a b t)=some d∧d.ren a b=d'
 | [],t,d',_,h=>by simp[get]at h
 | (t0,d0)::l,t,d',hs,h=>by
  rw[qAQ]at h
  split at h
  ·rename_i e;subst e;cases h;exact hs.1
  ·exact qSN hs.2 h
def St.known (σ:St):Bool:=σ.t.all (fun x=>x.2.known σ.h)&&σ.h.all (fun x=>x.2.known σ.h)
theorem qJK {α:Type}:∀{l:List (Nat×α)} {t:Nat} {d:α},get l t=some d→(t,d)∈l
 | [],t,d,h=>by simp[get]at h
 | (t0,d0)::l,t,d,h=>by
  rw[qAQ]at h
  split at h
  ·rename_i e;subst e;cases h;simp
  ·exact List.mem_cons_of_mem _ (qJK h)
def qSd (σ σ':St) (a b:Nat):List (Nat×Loc)→Prop
 | []=>True
 | (id,L)::l=>((get σ'.h id).isSome=true∧get σ.g (sw a b id)=some L)∧qSd σ σ' a b l
theorem qPk {σ σ':St} {a b:Nat}:∀{l:List (Nat×Loc)} {id:Nat} {L:Loc},qSd σ σ' a b l→get l id=some L→(get σ'.h id).isSome=true∧get σ.g (sw a b id)=some L
 | [],id,L,_,h=>by simp[get]at h
 | (i,M)::l,id,L,hs,h=>by
  rw[qAQ]at h
  split at h
  ·rename_i e;subst e;cases h;exact hs.1
  ·exact qPk hs.2 h
theorem Le.cut (a b:Nat) {σ σ':St} (hnt:σ'.nt=σ.nt) (ht:qYa σ a b σ'.t) (hh:qYV σ a b σ'.h) (hk:σ'.known=true) (hpin:qSd σ σ' a b σ'.g:=by exact trivial):Le σ σ':=by
 rintro E act w ⟨Z,loc,fps,R⟩
 simp only[St.known,Bool.and_eq_true]at hk
 have ren_ne:∀{ρ ρ':Root},ρ.ren a b=ρ'→ρ'≠.dead→ρ≠.dead:=by
  intro ρ ρ' h hn e;subst e;exact hn h.symm
 have hlive:∀id' ρ',σ'.live id' ρ'→∃ρ,σ.live (sw a b id') ρ∧ρ.ren a b=ρ':=by
  rintro id' ρ' ⟨h1,h2⟩
  obtain⟨ρ,h3,h4⟩:=qSN hh h1
  exact⟨ρ,⟨h3,ren_ne h4 h2⟩,h4⟩
 refine⟨Z,qTD a b σ'.h loc,fun id=>fps (sw a b id),?_⟩
 refine { R with size:=by rw[hnt];exact R.size,temps:=?_,roots:=?_,nodup:=?_,disj:=?_,owned:=?_,fresh:=?_,pins:=?_ }
 ·intro t d' hd
  obtain⟨d,h1,h2⟩:=qRz ht hd
  obtain⟨v,h3,h4⟩:=R.temps t d h1
  subst h2
  exact⟨v,h3,qXy (List.all_eq_true.1 hk.1 (t,d.ren a b) (qJK hd)) h4⟩
 ·intro id' ρ' hl
  obtain⟨ρ,hl',hr⟩:=hlive id' ρ' hl
  obtain⟨L,h1,h2⟩:=R.roots _ _ hl'
  refine⟨L,?_,?_⟩
  ·unfold qTD;rw[if_pos (by rw[hl.1];rfl)];exact h1
  ·subst hr
   have hkn:=List.all_eq_true.1 hk.2 (id',ρ.ren a b) (qJK hl.1)
   cases ρ with
   |box ds =>
    obtain⟨e1,e2,arr,el,h3,h4⟩:=h2
    exact⟨e1,e2,arr,el,h3,qRQ (fun d v hk r=>qQQ hk r) hkn h4⟩
   |row sz xs=>exact h2
   |orow=>simp[Root.ren,Root.known]at hkn
   |map es=>exact h2
   |limb ds vs=>exact h2
   |bld _ T U l=>exact h2
   |dead=>trivial
 ·intro id' ρ' hl
  obtain⟨ρ,hl',hr⟩:=hlive id' ρ' hl
  exact R.nodup _ _ hl'
 ·intro i j ρ1 ρ2 c hi hj hbi hbj
  obtain⟨_,hl1,_⟩:=hlive i ρ1 hi
  obtain⟨_,hl2,_⟩:=hlive j ρ2 hj
  have:=R.disj _ _ _ _ c hl1 hl2 hbi hbj
  have h3:=congrArg (sw a b) this
  rwa [qWt,qWt]at h3
 ·intro i ρ' c hl hb
  obtain⟨_,hl1,_⟩:=hlive i ρ' hl
  exact R.owned _ _ c hl1 hb
 ·intro id' hid
  unfold qTD;rw[if_neg (by rw[hid];simp)]
 ·intro id' L hp
  obtain⟨h1,h2⟩:=qPk hpin hp
  unfold qTD;rw[if_pos h1];exact R.pins _ _ h2
theorem Le.ct (a b:Nat) {σ σ':St} (hnt:σ'.nt=σ.nt:=by exact rfl) (ht:qYa σ a b σ'.t:=by repeat' (first|exact trivial|refine⟨⟨_,rfl,rfl⟩,?_⟩)) (hh:qYV σ a b σ'.h:=by repeat' (first|exact trivial|refine⟨⟨_,rfl,rfl⟩,?_⟩))
 (hk:σ'.known=true:=by exact rfl) (hpin:qSd σ σ' a b σ'.g:=by exact trivial):Le σ σ':=Le.cut a b hnt ht hh hk hpin
theorem Le.void {σ:St} (t id sz:Nat) {k:Nat} (ht:get σ.t t=some (.w k [])) (hid:get σ.h id=none):Le σ { σ with t:=(t,.R id)::σ.t,h:=(id,.row sz [])::σ.h }:=by
 rintro E a w ⟨Z,loc,fps,R⟩
 have R':=R.adopt hid (ρ:=.row sz []) (L:=⟨0,0,sz,0,0⟩) (fp0:=[]) (by simp) (by simp) ⟨rfl,by simp,by simp,by simp,.inl ⟨rfl,rfl⟩⟩
 refine⟨_,_,_,{ R' with temps:=?_ }⟩
 intro t' d hd
 simp only[qAQ]at hd
 split at hd
 ·rename_i e;subst e;cases hd
  obtain⟨v,h1,h2⟩:=R.temps t' _ ht
  refine⟨v,h1,?_⟩
  generalize hfp:([]:List Nat)=fp at h2
  cases h2 with
  |w0=>exact AR.R (L:=⟨0,0,sz,0,0⟩) (qCO _ _ _) (Nat.le_refl _) (by simp) (.inl rfl)
  |w=>cases hfp
 ·exact R'.temps t' d hd
theorem Le.voidBox {σ:St} (ib off id sz:Nat) {k:Nat} {ds:List D} (hb:get σ.h ib=some (.box ds)) (hd:ds[off]?=some (.w k [])) (hid:get σ.h id=none) (hne:Nat.beq ib id=false):Le σ { σ with h:=(ib,.box (ds.set off (.R id)))::(id,.row sz [])::σ.h }:=by
 rintro E a w ⟨Z,loc,fps,R⟩
 have hne':ib≠id:=fun e=>by subst e;simp at hne
 have R':=R.adopt hid (ρ:=.row sz []) (L:=⟨0,0,sz,0,0⟩) (fp0:=[]) (by simp) (by simp) ⟨rfl,by simp,by simp,by simp,.inl ⟨rfl,rfl⟩⟩
 have hb':get ((id,Root.row sz [])::σ.h) ib=some (.box ds):=by rw[qAQ,if_neg hne'];exact hb
 obtain⟨L,hL,e1,e2,arr,el,h3,h4⟩:=R'.roots ib _ ⟨hb',by simp⟩
 have:=Rel.setRoot (ks:=[]) (L0:=L) (ρ0:=.box (ds.set off (.R id))) (fp0:=qGN fps id [] ib) R' (Nat.le_refl _) (fun _ _ _=>rfl) (fun _ _=>rfl) rfl rfl ⟨rfl,Nat.le_refl _⟩
  (fun b hb2=>⟨(R'.owned ib _ b ⟨hb',by simp⟩ hb2).2.1,.inr ⟨ib,_,.inl rfl,⟨hb',by simp⟩,hb2⟩⟩) (R'.nodup ib _ ⟨hb',by simp⟩) (.inr hL) (fun _ h=>h) (fun _ h=>.inl h) (by
   refine⟨e1,e2,arr,el,h3,?_⟩
   have hlm:∀i L',qLY loc id ⟨0,0,sz,0,0⟩ i=some L'→qLY (qLY loc id ⟨0,0,sz,0,0⟩) ib L i=some L':=by
    intro i L' hi
    by_cases e:i=ib
    ·subst e;simp only[qLY,if_true];exact hL.symm.trans hi
    ·unfold qLY at hi⊢;rw[if_neg e];exact hi
   refine ARL.of_get (by simpa using h4.length) fun i d v h5 h6=>?_
   rw[List.getElem?_set]at h5
   split at h5
   ·rename_i ei
    subst ei
    split at h5
    ·cases h5
     obtain⟨v',g1,g2,g3⟩:=h4.get0 hd
     rw[g1]at h6;cases h6
     refine⟨g2,?_⟩
     generalize hfp:([]:List Nat)=fp at g3
     cases g3 with
     |w0=>exact AR.R (L:=⟨0,0,sz,0,0⟩) (hlm _ _ (qCO _ _ _)) (Nat.le_refl _) (by simp) (.inl rfl)
     |w=>cases hfp
    ·cases h5
   ·obtain⟨v',g1,g2,g3⟩:=h4.get0 h5
    rw[g1]at h6;cases h6
    exact⟨g2,g3.mono (fun _ h=>h) hlm (fun _ _=>rfl)⟩)
 exact⟨_,_,_,this⟩
end Go.AM
end
section
namespace Go.AM
def qYl (l:List (Option TI)):TE:=fun t=>match l[t]? with|some x=>x|none=>none
def qUR (P:Program) (l:List (Option TI)):List (Option (Option TI)):=l.zipIdx.map fun x=>x.1.map fun _=>qYj P x.2
theorem qWd {P:Program} {l:List (Option TI)} (h:qUR P l=l.map (Option.map some)):qGk P (qYl l):=by
 intro t ti ht
 unfold qYl at ht
 split at ht
 ·rename_i x hx
  subst ht
  have h2:=congrArg (·[t]?) h
  simp only[qUR,List.getElem?_map,List.getElem?_zipIdx,hx,Option.map_some,Nat.zero_add]at h2
  simpa using h2
 ·cases ht
end Go.AM
end
section
namespace Go.AM
def D.noC:D→Bool|.v _=>true|.s _=>true|.q _=>true|.u=>true|_=>false
def D.noG:D→Bool|.g ds=>ds.all D.noC|d=>d.noC
def D.noT:D→Bool|.t ds=>ds.all D.noG|d=>d.noG
section
variable {w:World} {Z:Nat→Prop} {loc:Nat→Option Loc}
theorem qV8 {fp d v} (h:d.noC=true) (r:AR w Z loc fp d v):fp=[]:=by
 cases r<;>first|rfl|(simp[D.noC]at h;done)
theorem qW9:∀{ds fp vs},ds.all D.noC=true→ARL w Z loc fp ds vs→fp=[]:=by
 intro ds
 induction ds with
 |nil=>intro fp vs _ r;cases r;rfl
 |cons d ds ih=>intro fp vs h r;simp only[List.all_cons,Bool.and_eq_true]at h;cases r with|cons h0 h1 h2=>rw[qV8 h.1 h1,ih h.2 h2];rfl
theorem qWT {fp d v} (h:d.noG=true) (r:AR w Z loc fp d v):fp=[]:=by
 by_cases hg:∃ds,d=.g ds
 ·obtain⟨ds,rfl⟩:=hg;cases r with|g h1=>exact qW9 h h1
 ·exact qV8 (by cases d<;>first|exact h|exact absurd ⟨_,rfl⟩ hg) r
theorem qWr:∀{ds fp vs},ds.all D.noG=true→ART w Z loc fp ds vs→fp=[]:=by
 intro ds
 induction ds with
 |nil=>intro fp vs _ r;cases r;rfl
 |cons d ds ih=>intro fp vs h r;simp only[List.all_cons,Bool.and_eq_true]at h;cases r with|cons h1 h2=>rw[qWT h.1 h1,ih h.2 h2];rfl
theorem qWY {fp d v} (h:d.noT=true) (r:AR w Z loc fp d v):fp=[]:=by
 by_cases hg:∃ds,d=.t ds
 ·obtain⟨ds,rfl⟩:=hg;cases r with|t h1=>exact qWr h h1
 ·exact qWT (by cases d<;>first|exact h|exact absurd ⟨_,rfl⟩ hg) r
end
section
variable {P:Program} {σ:St} {o:Oper}
theorem zV {f:FuncId} {callee:Operand} {args:Array Operand} {ts:Array TypeId} {caps ds:List D} {res:D} (ho:o.op=.call { callee:=.value callee,args:=args,argTypes:=ts })
  (hc:σ.ev callee=some (.f f caps)) (ha:evs σ args.toList=some ds) (hfree:(ds.all D.free&&caps.all D.free)=true) (S:qAC P f (ds++caps) res) (hno:res.noT=true):OpV P σ o res:=by
 intro E a w Z loc fps R
 have hcv:=R.ev hc
 generalize hav:a.eval callee=cv at hcv
 simp only[Bool.and_eq_true]at hfree
 cases hcv with
 | @f _ _ _ _ arr hcaps =>
  unfold Oper.wp
  rw[qFU ho hav S.1]
  have hargs:=qHT R ha
  have free2:∀{ds:List D} {vs:List Value},ds.all D.free=true→All2 (fun d v=>AR w Z loc [] d v) ds vs→All2 (fun d v=>AR w Z qAa [] d v) ds vs:=by
   intro ds
   induction ds with
   |nil=>intro vs _ h;cases h;exact .nil
   |cons d ds ih=>intro vs hf h;cases h with|cons h1 h2=>simp only[List.all_cons,Bool.and_eq_true]at hf;exact .cons (h1.free hf.1 qAa) (ih hf.2 h2)
  have hart:ART w Z qAa [] (ds++caps) (args.map a.eval++arr).toList:=by
   have:=qM5 (qFs (free2 hfree.1 hargs)) (qJn (ARL.of_all (fun d v hd r=>r.free hd qAa) hfree.2 hcaps))
   simpa using this
  refine Calls.mono (S.2 w Z _ hart R.zlt R.globZ) ?_
  rintro e w' ⟨v,Z',fpr,rfl,X,hr,hnd,hfp,hz⟩
  obtain rfl:=qWY hno hr
  refine⟨v,fun b=>Z b∨(w.heap.size≤b∧Z' b),rfl,X,⟨fun b h=>.inl h,?_⟩,hr.mono ?_ (fun _ _ h=>by simp[qAa]at h) (fun _ _=>rfl)⟩
  ·rintro b (h|⟨h1,h2⟩)
   ·exact .inl h
   ·exact .inr ⟨h1,(hz b h2).1⟩
  ·intro b hb
   rcases (hz b hb).2 with h|h
   ·exact .inl h
   ·exact .inr ⟨h,hb⟩
theorem qOa {w Z loc}:∀{ds:List D} {vs:List Value},ARL w Z loc [] ds vs→All2 (fun d v=>AR w Z loc [] d v) ds vs:=by
 intro ds
 induction ds with
 |nil=>intro vs h;generalize hfp:([]:List Nat)=fp at h;cases h;exact .nil
 |cons d ds ih =>
  intro vs h
  generalize hfp:([]:List Nat)=fp at h
  cases h with
  | @cons _ fp1 fp2 _ v _ vs h0 h1 h2 =>
   obtain⟨rfl,rfl⟩:fp1=[]∧fp2=[]:=List.append_eq_nil_iff.1 hfp.symm
   exact .cons h1 (ih h2)
theorem All2.append {α β:Type} {R:α→β→Prop}:∀{l l':List α} {m m':List β},All2 R l m→All2 R l' m'→All2 R (l++l') (m++m')
 |_,_,_,_,.nil,h=>h
 |_,_,_,_,.cons h1 h2,h=>.cons h1 (All2.append h2 h)
theorem zLV {f:FuncId} {callee:Operand} {args:Array Operand} {ts:Array TypeId} {caps ds es:List D} {res:D} (ho:o.op=.call { callee:=.value callee,args:=args,argTypes:=ts })
  (hc:σ.ev callee=some (.f f caps)) (ha:evs σ args.toList=some ds) (hl:lends σ (ds++caps) es) (S:qAC P f es res) (hzf:res.zfree) (hno:res.noT=true):OpV P σ o res:=by
 intro E a w Z loc fps R
 have hcv:=R.ev hc
 generalize hav:a.eval callee=cv at hcv
 cases hcv with
 | @f _ _ _ _ arr hcaps =>
  unfold Oper.wp
  rw[qFU ho hav S.1]
  have hargs:=qHT R ha
  have hart:ART w (fun b=>b<w.heap.size) qAa [] es (args.map a.eval++arr).toList:=by
   have:=R.lends hl (All2.append hargs (qOa hcaps))
   simpa using this
  refine Calls.mono (S.2 w _ _ hart (fun _ h=>h) R.glob.all) ?_
  rintro e w' ⟨v,Z',fpr,rfl,X,hr,hnd,hfp,hz⟩
  obtain rfl:=qWY hno hr
  exact⟨v,Z,rfl,X,⟨fun _ h=>h,fun _ h=>.inl h⟩,(hzf _ _ _ _ _ _ hr).mono (fun _ h=>h) (fun _ _ h=>by simp[qAa]at h) (fun _ _=>rfl)⟩
def qQb (k:Nat):List Nat→Bool
 | []=>false
 |n::l=>Nat.beq k n||qQb k l
def qXT (ks:List Nat) (k:Nat):D→D
 |.c b d=>bif qQb k ks then d else .c b d
 |d=>d
def qYD (ks:List Nat):List (Nat×D)→List (Nat×D)
 | []=>[]
 | (k,d)::l=>(k,qXT ks k d)::qYD ks l
def St.unc (σ:St) (ks:List Nat):St:={ σ with t:=qYD ks σ.t }
def qIC (σ:St) (g:Bool):List Nat→Prop
 | []=>True
 |k::l=>(match get σ.t k with|some (.c b _)=>(g=true→b=true)|_=>True)∧qIC σ g l
theorem qQU {k:Nat}:∀{l:List Nat},qQb k l=true→k∈l
 | [],h=>by simp[qQb]at h
 |n::l,h=>by
  simp only[qQb,Bool.or_eq_true]at h
  rcases h with h|h
  ·exact List.mem_cons.2 (.inl (Nat.eq_of_beq_eq_true h))
  ·exact List.mem_cons_of_mem _ (qQU h)
theorem qML {g:Bool}:∀{l:List Nat} {k:Nat} {b:Bool} {d:D},qIC σ g l→k∈l→get σ.t k=some (.c b d)→g=true→b=true
 | [],_,_,_,_,h,_=>by simp at h
 |n::l,k,b,d,hc,hm,hg=>by
  rcases List.mem_cons.1 hm with rfl|hm
  ·have:=hc.1;rw[hg]at this;exact this
  ·exact qML hc.2 hm hg
theorem qQG {ks:List Nat}:∀{l:List (Nat×D)} {t:Nat} {d:D},get (qYD ks l) t=some d→∃d0,get l t=some d0∧d=qXT ks t d0
 | [],t,d,h=>by simp[qYD,get]at h
 | (k,d0)::l,t,d,h=>by
  simp only[qYD,qAQ]at h
  rw[qAQ]
  split at h
  ·rename_i e;subst e;cases h;exact⟨d0,by simp,rfl⟩
  ·rename_i e
   obtain⟨d1,h1,h2⟩:=qQG h
   exact⟨d1,by rw[if_neg e];exact h1,h2⟩
def St.gval (ops:Array Oper) (σ:St) (o:Oper):Option Bool :=
 match o.guard with
 |none=>none
 |some (j,want) =>
  match (ops[j]?).bind (·.dst) with
  |some k=>(match get σ.t k with|some (.v (.bool b))=>some (bif want then b else !b)|some (.c g (.v (.bool b)))=>some (g&&(bif want then b else !b))|_=>none)
  |none=>none
theorem RelV.gval {E a w Z loc fps} (R:RelV E σ a w Z loc fps) {ops:Array Oper} {g:Bool} (h:σ.gval ops o=some g):Region.wanted o (yielded ops a.tmps)=g:=by
 unfold St.gval at h
 unfold Region.wanted
 split at h
 ·cases h
 ·rename_i j want hg
  simp only[hg]
  split at h
  ·rename_i k hk
   split at h
   ·rename_i b hb
    cases h
    obtain⟨v,h1,h2⟩:=R.temps _ _ hb
    cases h2
    cases want<;>cases b<;>simp[yielded,hk,h1]
   ·rename_i g1 b hb
    cases h
    obtain⟨v,h1,h2⟩:=R.temps _ _ hb
    cases h2 with
    |c h3 h4 =>
     cases g1 with
     |true=>have:=h3 rfl;cases this;cases want<;>cases b<;>simp[yielded,hk,h1]
     |false=>have:=h4 rfl;subst this;cases want<;>simp[yielded,hk,h1,undef]
   ·cases h
  ·cases h
variable {Q:Exit→St→Prop} {ops:Array Oper} {rest:List Oper}
theorem AO.d {g:Bool} {d:D} (ks:List Nat) (hg:σ.gval ops o=some g) (hc:qIC σ g ks) (hop:g=true→OpV P (σ.unc ks) o d) (hd:qBI σ o=true) (hr:AO P ops rest Q (σ.put o.dst (.c g d))):AO P ops (o::rest) Q σ:=by
 rintro hd' hl E a w ⟨Z,loc,fps,R⟩
 obtain⟨h1,h2,h3⟩:=AO.idx hd' hl
 rw[h3]
 have hw:=R.gval hg
 simp only[wpOps,h1,hw]
 cases g with
 |false =>
  simp only[Bool.false_eq_true,if_false]
  exact hr h2 (by simp at hl;omega) E _ w ⟨Z,loc,fps,R.put (qAm hd) (.c (fun e=>by cases e) fun _=>rfl)⟩
 |true =>
  simp only[if_true]
  have R':Rel E (σ.unc ks) a w Z loc fps:=by
   refine { R with temps:=?_ }
   intro t d ht
   obtain⟨d0,h4,rfl⟩:=qQG ht
   obtain⟨v,h5,h6⟩:=R.temps t d0 h4
   refine⟨v,h5,?_⟩
   by_cases hcc:∃b d1,d0=.c b d1
   ·obtain⟨b,d1,rfl⟩:=hcc
    simp only[qXT]
    cases hm:qQb t ks
    ·exact h6
    ·have:=qML hc (qQU hm) h4 rfl
     cases h6 with|c h7=>exact h7 this
   ·have:qXT ks t d0=d0:=by cases d0<;>first|rfl|exact absurd ⟨_,_,rfl⟩ hcc
    rw[this];exact h6
  refine .inl (Oper.wp_mono ?_ (Oper.wp_false (hop rfl E a w Z loc fps R'.toRelV)))
  rintro a' w' ⟨v,Z',rfl,X,hz,hv⟩
  exact hr h2 (by simp at hl;omega) E _ w' ⟨Z',loc,fps,(R.grown X hz).put (qAm hd) (.c (fun _=>hv) fun e=>by cases e)⟩
theorem AO.v {d:D} (hw:σ.wants ops o=some true) (hd:qBI σ o=true) (h:OpV P σ o d) (hr:AO P ops rest Q (σ.put o.dst d)):AO P ops (o::rest) Q σ:=AO.s hw (h.ok hd) hr
theorem AO.g {te:TE} (T:qGk P te) {g:Bool} {d:D} (ks:List Nat) (hg:σ.gval ops o=some g) (hc:qIC σ g ks) (hd:qBI σ o=true) (h:qLd te (σ.unc ks) o.op=some d) (hr:AO P ops rest Q (σ.put o.dst (.c g d))):AO P ops (o::rest) Q σ :=
 AO.d ks hg hc (fun _=>qL0 T h) hd hr
theorem zN {c x:Operand} {b b' r:Bool} (ho:o.op=.pick c x (.const (.bool false))) (hc:σ.ev c=some (.v (.bool b))) (hx:σ.ev x=some (.c b' (.v (.bool r)))) (hb:b'=b):OpV P σ o (.v (.bool (b&&r))):=by
 refine OpV.of_val fun E a w Z loc fps R=>?_
 subst hb
 have h1:=R.ev hc;have h2:=R.ev hx
 generalize hac:a.eval c=vc at h1
 generalize hax:a.eval x=vx at h2
 cases h1
 cases h2 with
 |c h3 =>
  refine⟨.bool (b'&&r),?_,.v⟩
  cases b' with
  |false=>simp[execOp,ho,hac,asBool];rfl
  |true =>
   have:=h3 rfl
   cases this
   simp[execOp,ho,hac,hax,asBool]
theorem zO {c y:Operand} {b b' r:Bool} (ho:o.op=.pick c (.const (.bool true)) y) (hc:σ.ev c=some (.v (.bool b))) (hy:σ.ev y=some (.c b' (.v (.bool r)))) (hb:b'=!b):OpV P σ o (.v (.bool (b||r))):=by
 refine OpV.of_val fun E a w Z loc fps R=>?_
 subst hb
 have h1:=R.ev hc;have h2:=R.ev hy
 generalize hac:a.eval c=vc at h1
 generalize hay:a.eval y=vy at h2
 cases h1
 cases h2 with
 |c h3 =>
  refine⟨.bool (b||r),?_,.v⟩
  cases b with
  |true=>simp[execOp,ho,hac,asBool];rfl
  |false =>
   have:=h3 rfl
   cases this
   simp[execOp,ho,hac,hay,asBool]
end
end Go.AM
end
section
namespace Go.AM
def qMa (o:Oper) (j:Nat):Bool:=o.after.any fun e=>Nat.beq e.on j&&Region.binds .any e
def qTm (acc:List Nat) (o:Oper):Nat:=o.after.toList.foldl (fun m e=>bif Region.binds .any e then m ||| (1 <<< e.on) ||| acc.getD e.on 0 else m) 0
def qTg:List Oper→List Nat→List Nat
 | [],acc=>acc
 |o::l,acc=>qTg l (acc++[qTm acc o])
def qFY (ops:Array Oper) (i j:Nat):Bool:=((qTg ops.toList []).getD i 0).testBit j
def qWc (oj:Oper) (ks:List Nat):Bool:=match oj.dst with|some d=>qQb d ks|none=>false
def qXJ (oi oj:Oper):Bool:=match oi.dst,oj.dst with|some d,some d'=>!(Nat.beq d d')|_,_=>true
def qSQ (ops:Array Oper) (m:Nat):Bool :=
 Nat.ble m ops.size&&(List.range ops.size).all fun i=>match ops[i]? with
  |none=>false
  |some oi=>(oi.after.all fun e=>!Region.binds .any e||Nat.blt e.on i)&&(List.range ops.size).all fun j=>Nat.beq i j||(match ops[j]? with
   |none=>false
   |some oj =>
    (bif qWc oj (oi.looksAt ops) then (bif Nat.blt j i then qMa oi j else qMa oj i) else true) &&
    (bif (Nat.blt i m&&Nat.blt j m) then qXJ oi oj else true) &&
    (bif (Nat.ble m i&&Nat.blt j i) then qFY ops i j else true))
def St.only (σ:St) (ks:List Nat) (h:List (Nat×Root)):St:=⟨σ.t.filter (fun x=>qQb x.1 ks),h,σ.nt,[]⟩
theorem qIf {α:Type} (p:Nat→Bool):∀{l:List (Nat×α)} {t:Nat} {d:α},get (l.filter fun x=>p x.1) t=some d→get l t=some d∧p t=true
 | [],t,d,h=>by simp[get]at h
 | (k,a)::l,t,d,h=>by
  rw[List.filter_cons]at h
  rw[qAQ]
  split at h
  ·rename_i hp
   rw[qAQ]at h
   split at h
   ·rename_i e;subst e;cases h;exact⟨by simp,hp⟩
   ·rename_i e;rw[if_neg e];exact qIf p h
  ·rename_i hp
   by_cases e:t=k
   ·subst e
    have:=(qIf p h).2
    exact absurd this hp
   ·rw[if_neg e];exact qIf p h
def qJI (P:Program) (ops:Array Oper) (o:Oper) (a:Act) (w:World) (K:Act→World→Prop):Prop :=
 if Region.wanted o (yielded ops a.tmps)=true then o.wp P a w K (fun _ _ _=>False) else K (a.put o.dst undef) w
def FStep (P:Program) (ops:Array Oper) (τ:St) (o:Oper) (d:D) (rs:List (Nat×Root)) (k k':Nat):Prop :=
 ∀E σ a w,(∀t d,get τ.t t=some d→get σ.t t=some d)→(∀id ρ,get τ.h id=some ρ→get σ.h id=some ρ)→σ.nt=τ.nt→σ.freshIn k k'→RelX E σ a w→
  qJI P ops o a w (fun a' w'=>RelX E (St.put { σ with h:=rs++σ.h } o.dst d) a' w')
theorem Rel.toOnly {E σ a w Z loc fps} (R:Rel E σ a w Z loc fps) {τ:St} (h1:∀t d,get τ.t t=some d→get σ.t t=some d) (h2:∀id ρ,get τ.h id=some ρ→get σ.h id=some ρ) (h3:σ.nt=τ.nt):RelV E τ a w Z loc fps:=by
 have hl:∀id ρ,τ.live id ρ→σ.live id ρ:=fun id ρ h=>⟨h2 id ρ h.1,h.2⟩
 refine { R.toRelV with size:=?_,temps:=?_,roots:=?_,nodup:=?_,disj:=?_,owned:=?_ }
 ·rw[←h3];exact R.size
 ·exact fun t d h=>R.temps t d (h1 t d h)
 ·exact fun id ρ h=>R.roots id ρ (hl id ρ h)
 ·exact fun id ρ h=>R.nodup id ρ (hl id ρ h)
 ·exact fun i j ρ ρ' b hi hj=>R.disj i j ρ ρ' b (hl i ρ hi) (hl j ρ' hj)
 ·exact fun i ρ b hi=>R.owned i ρ b (hl i ρ hi)
section
variable {P:Program} {ops:Array Oper} {τ:St} {o:Oper}
theorem FStep.val {d:D} {k:Nat} (hw:τ.wants ops o=some true) (hd:qBI τ o=true) (h:OpV P τ o d):FStep P ops τ o d [] k k:=by
 rintro E σ a w h1 h2 h3 _ ⟨Z,loc,fps,R⟩
 have RV:=R.toOnly h1 h2 h3
 unfold qJI
 rw[if_pos (RV.wants hw)]
 refine Oper.wp_mono ?_ (h E a w Z loc fps RV)
 rintro a' w' ⟨v,Z',rfl,X,hz,hv⟩
 exact⟨Z',loc,fps,(R.grown X hz).put (fun k hk=>by rw[h3];exact qAm hd k hk) hv⟩
theorem FStep.skip {k:Nat} (hw:τ.wants ops o=some false) (hd:qBI τ o=true):FStep P ops τ o .u [] k k:=by
 rintro E σ a w h1 h2 h3 _ ⟨Z,loc,fps,R⟩
 have RV:=R.toOnly h1 h2 h3
 unfold qJI
 rw[if_neg (by rw[RV.wants hw];simp)]
 exact⟨Z,loc,fps,R.put (fun k hk=>by rw[h3];exact qAm hd k hk) .u⟩
theorem RelV.uncd {E a w Z loc fps} (R:RelV E τ a w Z loc fps) {ks:List Nat} (hc:qIC τ true ks):RelV E (τ.unc ks) a w Z loc fps:=by
 refine { R with temps:=?_ }
 intro t d ht
 obtain⟨d0,h4,rfl⟩:=qQG ht
 obtain⟨v,h5,h6⟩:=R.temps t d0 h4
 refine⟨v,h5,?_⟩
 by_cases hcc:∃b d1,d0=.c b d1
 ·obtain⟨b,d1,rfl⟩:=hcc
  simp only[qXT]
  cases hm:qQb t ks
  ·exact h6
  ·have:=qML hc (qQU hm) h4 rfl
   cases h6 with|c h7=>exact h7 this
 ·have:qXT ks t d0=d0:=by cases d0<;>first|rfl|exact absurd ⟨_,_,rfl⟩ hcc
  rw[this];exact h6
theorem FStep.guard {g:Bool} {d:D} {k:Nat} (ks:List Nat) (hg:τ.gval ops o=some g) (hc:qIC τ g ks) (hop:g=true→OpV P (τ.unc ks) o d) (hd:qBI τ o=true):FStep P ops τ o (.c g d) [] k k:=by
 rintro E σ a w h1 h2 h3 _ ⟨Z,loc,fps,R⟩
 have RV:=R.toOnly h1 h2 h3
 unfold qJI
 have hw:=RV.gval hg
 have hdst:∀k,o.dst=some k→k<σ.nt:=fun k hk=>by rw[h3];exact qAm hd k hk
 cases g with
 |false =>
  rw[if_neg (by rw[hw];simp)]
  exact⟨Z,loc,fps,R.put hdst (.c (fun e=>by cases e) fun _=>rfl)⟩
 |true =>
  rw[if_pos hw]
  refine Oper.wp_mono ?_ (hop rfl E a w Z loc fps (RV.uncd hc))
  rintro a' w' ⟨v,Z',rfl,X,hz,hv⟩
  exact⟨Z',loc,fps,(R.grown X hz).put hdst (.c (fun _=>hv) fun e=>by cases e)⟩
theorem FStep.call {f:FuncId} {callee:Operand} {args:Array Operand} {ts:Array TypeId} {caps ds:List D} {res:D} {k:Nat} (ho:o.op=.call { callee:=.value callee,args:=args,argTypes:=ts }) (hw:τ.wants ops o=some true)
  (hc:τ.ev callee=some (.f f caps)) (ha:evs τ args.toList=some ds) (hfree:(ds.all D.free&&caps.all D.free)=true) (S:qAC P f (ds++caps) res) (hok:res.tOk=true) (hd:qBI τ o=true) :
  FStep P ops τ o (qIg k res).1 (qIg k res).2.1 k (qIg k res).2.2:=by
 rintro E σ a w h1 h2 h3 hfr ⟨Z,loc,fps,R⟩
 have RV:=R.toOnly h1 h2 h3
 unfold qJI
 rw[if_pos (RV.wants hw)]
 have hcv:=RV.ev hc
 generalize hav:a.eval callee=cv at hcv
 simp only[Bool.and_eq_true]at hfree
 cases hcv with
 | @f _ _ _ _ arr hcaps =>
  unfold Oper.wp
  rw[qFU ho hav S.1]
  have hargs:=qHT RV ha
  have free2:∀{ds:List D} {vs:List Value},ds.all D.free=true→All2 (fun d v=>AR w Z loc [] d v) ds vs→All2 (fun d v=>AR w Z qAa [] d v) ds vs:=by
   intro ds
   induction ds with
   |nil=>intro vs _ h;cases h;exact .nil
   |cons d ds ih=>intro vs hf h;cases h with|cons h1 h2=>simp only[List.all_cons,Bool.and_eq_true]at hf;exact .cons (h1.free hf.1 qAa) (ih hf.2 h2)
  have hart:ART w Z qAa [] (ds++caps) (args.map a.eval++arr).toList:=by
   have:=qM5 (qFs (free2 hfree.1 hargs)) (qJn (ARL.of_all (fun d v hd r=>r.free hd qAa) hfree.2 hcaps))
   simpa using this
  refine Calls.mono (S.2 w Z _ hart R.zlt R.globZ) ?_
  rintro e w' ⟨v,Z',fpr,rfl,X,hr,hnd,hfp,hz⟩
  exact R.after X hr hnd hfp hz (.inl fun _ h=>h) hfr hok (fun k hk=>by rw[h3];exact qAm hd k hk)
theorem FStep.callL {f:FuncId} {callee:Operand} {args:Array Operand} {ts:Array TypeId} {caps ds es:List D} {res:D} {k:Nat} (ho:o.op=.call { callee:=.value callee,args:=args,argTypes:=ts }) (hw:τ.wants ops o=some true)
  (hc:τ.ev callee=some (.f f caps)) (ha:evs τ args.toList=some ds) (hl:lends τ (ds++caps) es) (S:qAC P f es res) (hzf:res.zfree) (hok:res.tOk=true) (hd:qBI τ o=true) :
  FStep P ops τ o (qIg k res).1 (qIg k res).2.1 k (qIg k res).2.2:=by
 rintro E σ a w h1 h2 h3 hfr ⟨Z,loc,fps,R⟩
 have RV:=R.toOnly h1 h2 h3
 unfold qJI
 rw[if_pos (RV.wants hw)]
 have hcv:=RV.ev hc
 generalize hav:a.eval callee=cv at hcv
 cases hcv with
 | @f _ _ _ _ arr hcaps =>
  unfold Oper.wp
  rw[qFU ho hav S.1]
  have hargs:=qHT RV ha
  have hart:ART w (fun b=>b<w.heap.size) qAa [] es (args.map a.eval++arr).toList:=by
   have:=RV.lends hl (All2.append hargs (qOa hcaps))
   simpa using this
  refine Calls.mono (S.2 w _ _ hart (fun _ h=>h) R.glob.all) ?_
  rintro e w' ⟨v,Z',fpr,rfl,X,hr,hnd,hfp,hz⟩
  exact R.after X hr hnd hfp hz (.inr hzf) hfr hok (fun k hk=>by rw[h3];exact qAm hd k hk)
theorem FStep.alloc {te:TE} (T:qGk P te) {elem k:Nat} {ti:TI} {z:Value} (ho:o.op=.alloc elem) (hw:τ.wants ops o=some true) (ht:te elem=some ti) (hz:ti.zero=some z) (hone:z.cells.toList.all (·.oneCell')=true) (hd:qBI τ o=true) :
  FStep P ops τ o (.p k 0) [(k,.box (z.cells.toList.map constCell))] k (k+1):=by
 rintro E σ a w h1 h2 h3 hfr ⟨Z,loc,fps,R⟩
 have RV:=R.toOnly h1 h2 h3
 unfold qJI
 rw[if_pos (RV.wants hw)]
 exact zA T ho k ht hz (hfr k (Nat.le_refl _) (Nat.lt_succ_self _)) hone (by unfold qBI at hd⊢;rw[h3];exact hd) E a w ⟨Z,loc,fps,R⟩
theorem FStep.box {te:TE} (T:qGk P te) {elem k:Nat} {x:Operand} {d:D} {ds:List D} (ho:o.op=.box elem x) (hw:τ.wants ops o=some true) (hx:τ.ev x=some d) (hds:d.cells?=some ds) (hd:qBI τ o=true) :
  FStep P ops τ o (.p k 0) [(k,.box ds)] k (k+1):=by
 rintro E σ a w h1 h2 h3 hfr ⟨Z,loc,fps,R⟩
 have RV:=R.toOnly h1 h2 h3
 unfold qJI
 rw[if_pos (RV.wants hw)]
 refine zBx T ho k (d:=d) ?_ hds (hfr k (Nat.le_refl _) (Nat.lt_succ_self _)) (by unfold qBI at hd⊢;rw[h3];exact hd) E a w ⟨Z,loc,fps,R⟩
 cases x with
 |tmp t=>exact h1 t d hx
 |const v=>exact hx
 |func f=>exact hx
 |global g=>exact hx
end
end Go.AM
end
section
namespace Go.AM
theorem qFh {α:Type} (l m:List (Nat×α)) (i:Nat):get (l++m) i=(get l i).or (get m i):=by
 induction l with
 |nil=>simp[get]
 |cons x l ih =>
  obtain⟨k,a⟩:=x
  rw[List.cons_append,qAQ,qAQ]
  split
  ·simp
  ·exact ih
def qKZ (l:List Oper) (i:Nat):Option Tmp:=(l[i]?).bind (·.dst)
structure Res where
 d:D
 rs:List (Nat×Root)
 k:Nat
 k':Nat
 dep:Bool
 pk:Bool
 s:Nat
def noK (Ks:List Nat) (h:List (Nat×Root)):List (Nat×Root):=h.filter fun x=>!qQb x.1 Ks
def vw (Ks:List Nat) (h0:List (Nat×Root)) (c0:Nat) (dep pk:Bool) (s:Nat) (h:List (Nat×Root)):List (Nat×Root):=bif dep then h else bif pk then h.filter (fun x=>Nat.blt x.1 c0||Nat.ble s x.1) else noK Ks h0
inductive Chain (P:Program) (ops:Array Oper) (Ks:List Nat) (h0:List (Nat×Root)) (c0:Nat):Nat→List Nat→List (Nat×Nat)→List Nat→Nat→List Oper→St→List Res→St→Prop
 |nil {i ps ts qs c σ}:Chain P ops Ks h0 c0 i ps ts qs c [] σ [] σ
 |cons {i ps ts qs c o l σ d rs k k' out σ'} (dep qEN pk:Bool) (s:Nat):(dep=true→ps.all (qFY ops i)=true)→(pk=true→ts.all (fun x=>Nat.ble x.2 s||qFY ops i x.1)=true)→(qEN=true→(dep||pk)=true∧qs.all (qFY ops i)=true)→(pk=true→qEN=true)→
   FStep P ops (σ.only (o.looksAt ops) (vw Ks h0 c0 dep pk s σ.h)) o d rs k k'→(∀x∈rs,(k≤x.1∧x.1<k')∨(qEN=true∧x.1<k∧(x.1<c0→qQb x.1 Ks=true)∧(dep=false→x.1<c0∨s≤x.1)))→c≤k→k≤k'→(rs.isEmpty=true→k'≤k)→
   Chain P ops Ks h0 c0 (i+1) (bif rs.isEmpty then ps else i::ps) (bif rs.isEmpty then ts else (i,k')::ts) (bif dep||pk then i::qs else qs) k' l (St.put { σ with h:=rs++σ.h } o.dst d) out σ'→Chain P ops Ks h0 c0 i ps ts qs c (o::l) σ (⟨d,rs,k,k',dep,pk,s⟩::out) σ'
structure Inv (σ0:St) (l:List Oper) (out:List Res) (L:Nat→Bool) (σ:St):Prop where
 t1:∀i t r,L i=true→qKZ l i=some t→out[i]?=some r→get σ.t t=some r.d
 t2:∀t,(∀i,L i=true→i<out.length→qKZ l i≠some t)→get σ.t t=get σ0.t t
 hh:∀id,(∃(i:Nat) (r:Res),L i=true∧out[i]?=some r∧(get r.rs id).isSome=true∧(∀(i':Nat) (r':Res),L i'=true→out[i']?=some r'→(get r'.rs id).isSome=true→i'≤i)∧get σ.h id=get r.rs id)∨
  ((∀(i:Nat) (r:Res),L i=true→out[i]?=some r→get r.rs id=none)∧get σ.h id=get σ0.h id)
 nt:σ.nt=σ0.nt
 gg:σ.g=σ0.g
theorem Inv.start (σ0:St) (l:List Oper) (out:List Res) (L:Nat→Bool) (h:∀i,L i=false):Inv σ0 l out L σ0 :=
 ⟨(fun i t r hi=>by rw[h i]at hi;exact absurd hi (by simp)),(fun _ _=>rfl),(fun id=>.inr ⟨fun i r hi=>by rw[h i]at hi;exact absurd hi (by simp),rfl⟩),rfl,rfl⟩
theorem Inv.same {σ0:St} {l:List Oper} {out:List Res} {L L':Nat→Bool} {σ σ':St} (hl:l.length=out.length) (h:Inv σ0 l out L σ) (h':Inv σ0 l out L' σ') (hL:∀i,i<out.length→L i=L' i) :
  (∀t,get σ.t t=get σ'.t t)∧(∀id,get σ.h id=get σ'.h id):=by
 constructor
 ·intro t
  by_cases hex:∃i,L i=true∧i<out.length∧qKZ l i=some t
  ·obtain⟨i,h1,h2,h3⟩:=hex
   have hr:=List.getElem?_eq_getElem h2
   rw[h.t1 i t _ h1 h3 hr,h'.t1 i t _ (by rw[←hL i h2];exact h1) h3 hr]
  ·rw[h.t2 t fun i h1 h2 h3=>hex ⟨i,h1,h2,h3⟩,h'.t2 t fun i h1 h2 h3=>hex ⟨i,by rw[hL i h2];exact h1,h2,h3⟩]
 ·intro id
  have lt:∀{i:Nat} {r:Res},out[i]?=some r→i<out.length:=fun h=>(List.getElem?_eq_some_iff.1 h).1
  rcases h.hh id with⟨i,r,a1,a2,a3,a4,a5⟩|⟨a1,a2⟩<;>rcases h'.hh id with⟨j,q,b1,b2,b3,b4,b5⟩|⟨b1,b2⟩
  ·have e1:=b4 i r (by rw[←hL i (lt a2)];exact a1) a2 a3
   have e2:=a4 j q (by rw[hL j (lt b2)];exact b1) b2 b3
   obtain rfl:i=j:=by omega
   rw[a2]at b2;cases b2
   rw[a5,b5]
  ·have:=b1 i r (by rw[←hL i (lt a2)];exact a1) a2
   rw[this]at a3;cases a3
  ·have:=a1 j q (by rw[hL j (lt b2)];exact b1) b2
   rw[this]at b3;cases b3
  ·rw[a2,b2]
theorem Inv.step {σ0:St} {l:List Oper} {out:List Res} {L:Nat→Bool} {σ:St} (hl:∀i,qKZ l i≠none→i<l.length) (h:Inv σ0 l out L σ) {j:Nat} {o:Oper} {r:Res} (ho:l[j]?=some o) (hr:out[j]?=some r)
  (hj:L j=false) (hdst:∀i t,i≠j→qKZ l i=some t→qKZ l j≠some t) (hord:∀(i:Nat) (r':Res) (id:Nat),L i=true→out[i]?=some r'→(get r'.rs id).isSome=true→(get r.rs id).isSome=true→i≤j) :
  Inv σ0 l out (fun i=>bif Nat.beq i j then true else L i) (St.put { σ with h:=r.rs++σ.h } o.dst r.d):=by
 have hLL:∀i,(bif Nat.beq i j then true else L i)=true→i=j∨(i≠j∧L i=true):=by
  intro i hi
  by_cases e:i=j
  ·exact .inl e
  ·have:Nat.beq i j=false:=by cases hb:Nat.beq i j;rfl;exact absurd (Nat.eq_of_beq_eq_true hb) e
   rw[this]at hi;exact .inr ⟨e,hi⟩
 have hLj:∀i,L i=true→(bif Nat.beq i j then true else L i)=true:=by
  intro i hi;cases Nat.beq i j<;>simp[hi]
 have hdj:qKZ l j=o.dst:=by simp[qKZ,ho]
 have hget:∀t,get (St.put { σ with h:=r.rs++σ.h } o.dst r.d).t t=if o.dst=some t then some r.d else get σ.t t:=by
  intro t
  cases hd:o.dst with
  |none=>simp[St.put]
  |some k0 =>
   simp only[St.put,qAQ]
   by_cases e:t=k0
   ·subst e;simp
   ·rw[if_neg e,if_neg (by intro e';cases e';exact e rfl)]
 have hgh:∀id,get (St.put { σ with h:=r.rs++σ.h } o.dst r.d).h id=(get r.rs id).or (get σ.h id):=by
  intro id
  have:(St.put { σ with h:=r.rs++σ.h } o.dst r.d).h=r.rs++σ.h:=by cases o.dst<;>rfl
  rw[this,qFh]
 refine⟨?_,?_,?_,?_,?_⟩
 ·intro i t q hi hd ho'
  rw[hget]
  rcases hLL i hi with rfl|⟨hne,hi⟩
  ·rw[hr]at ho';cases ho'
   rw[hdj]at hd;rw[if_pos hd]
  ·rw[if_neg (by rw[←hdj];exact hdst i t hne hd)]
   exact h.t1 i t q hi hd ho'
 ·intro t ht
  rw[hget,if_neg (by rw[←hdj];exact ht j (by simp) (List.getElem?_eq_some_iff.1 hr).1)]
  exact h.t2 t fun i hi hlt=>ht i (hLj i hi) hlt
 ·intro id
  rw[hgh]
  cases hs:get r.rs id with
  |some ρ =>
   left
   refine⟨j,r,by simp,hr,by rw[hs];rfl,fun i' r' hi' hr' hs'=>?_,by rw[hs];rfl⟩
   rcases hLL i' hi' with rfl|⟨_,hi'⟩
   ·exact Nat.le_refl _
   ·exact hord i' r' id hi' hr' hs' (by rw[hs];rfl)
  |none =>
   rcases h.hh id with⟨i,q,a1,a2,a3,a4,a5⟩|⟨a1,a2⟩
   ·left
    refine⟨i,q,hLj i a1,a2,a3,fun i' r' hi' hr' hs'=>?_,by simpa using a5⟩
    rcases hLL i' hi' with rfl|⟨_,hi'⟩
    ·rw[hr]at hr';cases hr';rw[hs]at hs';cases hs'
    ·exact a4 i' r' hi' hr' hs'
   ·right
    refine⟨fun i q hi hq=>?_,by simpa using a2⟩
    rcases hLL i hi with rfl|⟨_,hi⟩
    ·rw[hr]at hq;cases hq;exact hs
    ·exact a1 i q hi hq
 ·have:(St.put { σ with h:=r.rs++σ.h } o.dst r.d).nt=σ.nt:=by cases o.dst<;>rfl
  rw[this];exact h.nt
 ·have:(St.put { σ with h:=r.rs++σ.h } o.dst r.d).g=σ.g:=by cases o.dst<;>rfl
  rw[this];exact h.gg
theorem Rel.congr {E σ σ' a w Z loc fps} (R:Rel E σ a w Z loc fps) (h1:∀t,get σ.t t=get σ'.t t) (h2:∀id,get σ.h id=get σ'.h id) (h3:σ.nt=σ'.nt) (h4:σ.g=σ'.g):Rel E σ' a w Z loc fps:=by
 have hl:∀id ρ,σ'.live id ρ→σ.live id ρ:=fun id ρ h=>⟨(h2 id).trans h.1,h.2⟩
 refine { R with size:=h3▸R.size,temps:=fun t d h=>R.temps t d ((h1 t).trans h),roots:=fun id ρ h=>R.roots id ρ (hl id ρ h),nodup:=fun id ρ h=>R.nodup id ρ (hl id ρ h),disj:=?_,owned:=?_,fresh:=?_,pins:=h4▸R.pins }
 ·exact fun i j ρ ρ' b hi hj=>R.disj i j ρ ρ' b (hl i ρ hi) (hl j ρ' hj)
 ·exact fun i ρ b hi=>R.owned i ρ b (hl i ρ hi)
 ·exact fun id h=>R.fresh id ((h2 id).trans h)
theorem Le.congr {σ σ':St} (h1:∀t,get σ.t t=get σ'.t t) (h2:∀id,get σ.h id=get σ'.h id) (h3:σ.nt=σ'.nt) (h4:σ.g=σ'.g):Le σ σ':=fun E a w ⟨Z,loc,fps,R⟩=>⟨Z,loc,fps,R.congr h1 h2 h3 h4⟩
def qXl (P:Program) (ops:Array Oper) (Ks:List Nat) (σ0:St) (l:List Oper) (out:List Res) (c0 j:Nat) (o:Oper) (r:Res):Prop :=
 ∃σj qEN,FStep P ops (σj.only (o.looksAt ops) (vw Ks σ0.h c0 r.dep r.pk r.s σj.h)) o r.d r.rs r.k r.k'∧(∀x∈r.rs,(r.k≤x.1∧x.1<r.k')∨(qEN=true∧x.1<r.k∧(x.1<c0→qQb x.1 Ks=true)∧(r.dep=false→x.1<c0∨r.s≤x.1)))∧(r.k≤r.k'∧(r.rs.isEmpty=true→r.k'≤r.k))∧c0≤r.k∧Inv σ0 l out (fun i=>decide (i<j)) σj∧
  (r.dep=true→∀(i:Nat) (r':Res),i<j→out[i]?=some r'→r'.rs≠[]→qFY ops j i=true)∧(∀(i:Nat) (r':Res),i<j→out[i]?=some r'→r'.k'≤r.k)∧
  (qEN=true→(r.dep||r.pk)=true∧∀(i:Nat) (r':Res),i<j→out[i]?=some r'→(r'.dep||r'.pk)=true→qFY ops j i=true)∧(r.pk=true→qEN=true)∧(r.pk=true→∀(i:Nat) (r':Res),i<j→out[i]?=some r'→r'.rs≠[]→r'.k'≤r.s∨qFY ops j i=true)
theorem Chain.facts {P:Program} {ops:Array Oper} {Ks:List Nat} {σ0:St} {c0:Nat}:∀{i ps ts qs c l σ out σ'},Chain P ops Ks σ0.h c0 i ps ts qs c l σ out σ'→
  ∀(pre:List Oper) (preout:List Res),pre.length=i→preout.length=i→c0≤c→(∀(j:Nat) (r:Res),preout[j]?=some r→r.k'≤c∧r.k≤r.k'∧c0≤r.k)→(∀(j:Nat) (r:Res),preout[j]?=some r→r.rs≠[]→j∈ps∧(j,r.k')∈ts)→(∀(j:Nat) (r:Res),preout[j]?=some r→(r.dep||r.pk)=true→j∈qs)→
  (∀a b t,a≠b→qKZ (pre++l) a=some t→qKZ (pre++l) b≠some t)→(∀out',Inv σ0 (pre++l) (preout++out') (fun j=>decide (j<i)) σ)→
  l.length=out.length∧(∀(j:Nat) (o:Oper) (r:Res),i≤j→(pre++l)[j]?=some o→(preout++out)[j]?=some r→qXl P ops Ks σ0 (pre++l) (preout++out) c0 j o r)∧Inv σ0 (pre++l) (preout++out) (fun j=>decide (j<(preout++out).length)) σ':=by
 intro i ps ts qs c l σ out σ' hch
 induction hch with
 |nil =>
  intro pre preout hp hpo hc hb hps hqs hdst hinv
  refine⟨rfl,?_,?_⟩
  ·intro j o r hj ho
   rw[List.append_nil,List.getElem?_eq_none (by omega)]at ho;cases ho
  ·have:=hinv []
   simp only[List.append_nil,hpo]at this⊢;exact this
 | @cons i ps ts qs c o l σ d rs k k' out σ' dep qEN pk s hdep hsv hkill hpk hF hn hck hkk hemp hrest ih =>
  intro pre preout hp hpo hc hb hps hqs hdst hinv
  have hpre:pre++o::l=(pre++[o])++l:=by simp
  have hpreo:∀out',preout++(⟨d,rs,k,k',dep,pk,s⟩:Res)::out'=(preout++[⟨d,rs,k,k',dep,pk,s⟩])++out':=by simp
  have hoi:(pre++o::l)[i]?=some o:=by rw[List.getElem?_append_right (by omega)];simp[hp]
  have hri:∀out',(preout++(⟨d,rs,k,k',dep,pk,s⟩:Res)::out')[i]?=some ⟨d,rs,k,k',dep,pk,s⟩:=by intro out';rw[List.getElem?_append_right (by omega)];simp[hpo]
  have hint:∀out' (x:Nat) (r:Res),x<i→(preout++(⟨d,rs,k,k',dep,pk,s⟩:Res)::out')[x]?=some r→r.k'≤k:=by
   intro out' x r hx hxr
   rw[List.getElem?_append_left (by omega)]at hxr
   exact Nat.le_trans (hb x r hxr).1 hck
  have hinv':∀out',Inv σ0 (pre++o::l) (preout++(⟨d,rs,k,k',dep,pk,s⟩:Res)::out') (fun j=>decide (j<i+1)) (St.put { σ with h:=rs++σ.h } o.dst d):=by
   intro out'
   have h0:=hinv ((⟨d,rs,k,k',dep,pk,s⟩:Res)::out')
   have:=h0.step (fun x hx=>by
    unfold qKZ at hx
    by_cases e:x<(pre++o::l).length
    ·exact e
    ·rw[List.getElem?_eq_none (by omega)]at hx;simp at hx) hoi (hri out') (by simp) (fun x t hne hd=>hdst x i t hne hd) (fun x r' id hx _ _ _=>Nat.le_of_lt (of_decide_eq_true hx))
   have e:(fun x=>bif Nat.beq x i then true else decide (x<i))=(fun x=>decide (x<i+1)):=by
    funext x
    by_cases hx:x=i
    ·subst hx;simp
    ·have:Nat.beq x i=false:=by cases hb:Nat.beq x i;rfl;exact absurd (Nat.eq_of_beq_eq_true hb) hx
     rw[this];simp only[cF];congr 1;exact propext ⟨fun h=>by omega,fun h=>by omega⟩
   rw[e]at this
   exact this
  have hlast:∀(j:Nat) (r:Res),(preout++[(⟨d,rs,k,k',dep,pk,s⟩:Res)])[j]?=some r→(j<preout.length∧preout[j]?=some r)∨(j=i∧r=⟨d,rs,k,k',dep,pk,s⟩):=by
   intro j r hj
   by_cases e:j<preout.length
   ·rw[List.getElem?_append_left e]at hj;exact .inl ⟨e,hj⟩
   ·rw[List.getElem?_append_right (by omega)]at hj
    have hj0:j-preout.length=0:=by
     have:=(List.getElem?_eq_some_iff.1 hj).1;simp at this;omega
    rw[hj0]at hj;simp at hj;exact .inr ⟨by omega,hj.symm⟩
  obtain⟨h1,h2,h3⟩:=ih (pre++[o]) (preout++[⟨d,rs,k,k',dep,pk,s⟩]) (by simp[hp]) (by simp[hpo]) (by omega) (by
    intro j r hj
    rcases hlast j r hj with⟨_,hj⟩|⟨_,rfl⟩
    ·obtain⟨g1,g2,g3⟩:=hb j r hj
     exact⟨by omega,g2,g3⟩
    ·exact⟨Nat.le_refl _,hkk,by show c0≤k;omega⟩) (by
    intro j r hj hne
    rcases hlast j r hj with⟨_,hj⟩|⟨rfl,rfl⟩
    ·have:=hps j r hj hne
     cases rs.isEmpty<;>simp[this.1,this.2]
    ·have:rs.isEmpty=false:=by simpa using hne
     rw[this];simp) (by
    intro j r hj hd
    rcases hlast j r hj with⟨_,hj⟩|⟨rfl,rfl⟩
    ·have:=hqs j r hj hd
     cases (dep||pk)<;>simp[this]
    ·have hd:(dep||pk)=true:=hd
     rw[hd];simp) (by rw[←hpre];exact hdst) (by intro out';rw[←hpre,←hpreo];exact hinv' out')
  rw[←hpre,←hpreo]at h2 h3
  refine⟨by simp[h1],?_,h3⟩
  intro j oj rj hj hoj hrj
  by_cases e:j=i
  ·subst e
   rw[hoi]at hoj;cases hoj
   rw[hri out]at hrj;cases hrj
   refine⟨σ,qEN,hF,hn,⟨hkk,hemp⟩,by show c0≤k;omega,hinv _,?_,?_,?_,hpk,?_⟩
   ·intro hd x r' hx hxr hne
    rw[List.getElem?_append_left (by omega)]at hxr
    exact List.all_eq_true.1 (hdep hd) x (hps x r' hxr hne).1
   ·intro x r' hx hxr
    exact hint out x r' hx hxr
   ·intro hk
    refine⟨(hkill hk).1,fun x r' hx hxr hd=>?_⟩
    rw[List.getElem?_append_left (by omega)]at hxr
    exact List.all_eq_true.1 (hkill hk).2 x (hqs x r' hxr hd)
   ·intro hp x r' hx hxr hne
    rw[List.getElem?_append_left (by omega)]at hxr
    have:=List.all_eq_true.1 (hsv hp) (x,r'.k') (hps x r' hxr hne).2
    simp only[Bool.or_eq_true]at this
    exact this.imp Nat.le_of_ble_eq_true id
  ·exact h2 j oj rj (by omega) hoj hrj
end Go.AM
end
section
namespace Go.AM
theorem qOq {o:Oper} {j:Nat} (h:qMa o j=true):∃e∈o.after,e.on=j∧Region.binds .any e=true:=by
 unfold qMa at h
 obtain⟨i,hi,hb⟩:=Array.any_eq_true.1 h
 simp only[Bool.and_eq_true]at hb
 exact⟨_,Array.getElem_mem hi,Nat.eq_of_beq_eq_true hb.1,hb.2⟩
structure qWW (ops:Array Oper) (m:Nat):Prop where
 le:m≤ops.size
 low:∀i o,ops[i]?=some o→∀e∈o.after,Region.binds .any e=true→e.on<i
 look:∀i j oi oj d,i≠j→ops[i]?=some oi→ops[j]?=some oj→oj.dst=some d→qQb d (oi.looksAt ops)=true→if j<i then qMa oi j=true else qMa oj i=true
 dst:∀i j oi oj d,i≠j→i<m→j<m→ops[i]?=some oi→ops[j]?=some oj→oi.dst=some d→oj.dst≠some d
 last:∀i j oi,m≤i→j<i→ops[i]?=some oi→qFY ops i j=true
theorem qRZ {ops:Array Oper} {m:Nat} (h:qSQ ops m=true):qWW ops m:=by
 unfold qSQ at h
 simp only[Bool.and_eq_true]at h
 obtain⟨h0,h1⟩:=h
 have key:∀i oi,ops[i]?=some oi→(∀e∈oi.after,(!Region.binds .any e||Nat.blt e.on i)=true)∧∀j oj,ops[j]?=some oj→i≠j→
   ((bif qWc oj (oi.looksAt ops) then (bif Nat.blt j i then qMa oi j else qMa oj i) else true) &&
    (bif (Nat.blt i m&&Nat.blt j m) then qXJ oi oj else true) &&
    (bif (Nat.ble m i&&Nat.blt j i) then qFY ops i j else true))=true:=by
  intro i oi hi
  have hlt:=(Array.getElem?_eq_some_iff.1 hi).1
  have:=List.all_eq_true.1 h1 i (List.mem_range.2 hlt)
  simp only[hi,Bool.and_eq_true]at this
  refine⟨fun e he=>?_,fun j oj hj hne=>?_⟩
  ·obtain⟨k,hk,rfl⟩:=Array.mem_iff_getElem.1 he
   exact Array.all_eq_true.1 this.1 k hk
  ·have hltj:=(Array.getElem?_eq_some_iff.1 hj).1
   have h3:=List.all_eq_true.1 this.2 j (List.mem_range.2 hltj)
   have hbeq:Nat.beq i j=false:=by cases hb:Nat.beq i j;rfl;exact absurd (Nat.eq_of_beq_eq_true hb) hne
   rw[hbeq,hj]at h3
   simpa only[Bool.false_or,Bool.and_eq_true]using h3
 refine⟨Nat.le_of_ble_eq_true h0,?_,?_,?_,?_⟩
 ·intro i o hi e he hb
  have:=(key i o hi).1 e he
  simp only[hb,Bool.not_true,Bool.false_or,Nat.blt_eq]at this
  exact this
 ·intro i j oi oj d hne hi hj hd hm
  have:=(key i oi hi).2 j oj hj hne
  simp only[Bool.and_eq_true]at this
  have h3:=this.1.1
  simp only[qWc,hd,hm,cW]at h3
  split
  ·rename_i hlt
   have:Nat.blt j i=true:=by simpa [Nat.blt_eq]using hlt
   simpa [this]using h3
  ·rename_i hlt
   have:Nat.blt j i=false:=by cases hb:Nat.blt j i;rfl;exact absurd (by simpa [Nat.blt_eq]using hb) hlt
   simpa [this]using h3
 ·intro i j oi oj d hne him hjm hi hj hd hd'
  have:=(key i oi hi).2 j oj hj hne
  simp only[Bool.and_eq_true]at this
  have h3:=this.1.2
  have e1:Nat.blt i m=true:=by simpa [Nat.blt_eq]using him
  have e2:Nat.blt j m=true:=by simpa [Nat.blt_eq]using hjm
  simp only[e1,e2,Bool.and_self,cW,qXJ,hd,hd']at h3
  simp at h3
 ·intro i j oi him hji hi
  have hltj:j<ops.size:=Nat.lt_trans hji (Array.getElem?_eq_some_iff.1 hi).1
  have:=(key i oi hi).2 j ops[j] (by simp[hltj]) (by omega)
  simp only[Bool.and_eq_true]at this
  have h3:=this.2
  have e1:Nat.ble m i=true:=Nat.ble_eq_true_of_le him
  have e2:Nat.blt j i=true:=by simpa [Nat.blt_eq]using hji
  simpa [e1,e2]using h3
section
variable {P:Program} {ops:Array Oper} {m:Nat} (D0:qWW ops m)
def Lf (listed:Array Bool) (i:Nat):Bool:=listed.getD i false
def Closed (ops:Array Oper) (listed:Array Bool):Prop:=∀i o,Lf listed i=true→ops[i]?=some o→∀e∈o.after,Region.binds .any e=true→Lf listed e.on=true
theorem qPt {listed:Array Bool} {i:Nat} (hi:i<listed.size) (x:Nat):Lf (listed.setIfInBounds i true) x=if x=i then true else Lf listed x:=by
 unfold Lf
 simp only[Array.getD_eq_getD_getElem?]
 split
 ·rename_i e;subst e;simp[hi]
 ·rename_i e;rw[Array.getElem?_setIfInBounds_ne (fun e'=>e e'.symm)]
theorem qLG {listed:Array Bool} {i:Nat} (hi:i<listed.size) (b:Bool):listed.getD i b=Lf listed i:=by
 unfold Lf;simp[Array.getD_eq_getD_getElem?,hi]
theorem Closed.set {listed:Array Bool} {i:Nat} {o:Oper} (hc:Closed ops listed) (hi:i<listed.size) (ho:ops[i]?=some o) (hr:∀e∈o.after,Region.binds .any e=true→Lf listed e.on=true):Closed ops (listed.setIfInBounds i true):=by
 intro j oj hj hoj e he hb
 rw[qPt hi]at hj⊢
 split
 ·rfl
 ·split at hj
  ·rename_i e';subst e';rw[ho]at hoj;cases hoj;exact hr e he hb
  ·exact hc j oj hj hoj e he hb
theorem qLT {listed:Array Bool} (hc:Closed ops listed) {i j:Nat} {o:Oper} (ho:ops[i]?=some o) (hr:∀e∈o.after,Region.binds .any e=true→Lf listed e.on=true) (h:qFY ops i j=true):Lf listed j=true:=by
 have good:∀(acc:List Nat) (pre:List Oper),acc.length=pre.length→(∀(x:Nat) (q:Oper),pre[x]?=some q→∀j,(acc.getD x 0).testBit j=true→(∀e∈q.after,Region.binds .any e=true→Lf listed e.on=true)→Lf listed j=true)→
   ∀(l:List Oper),pre++l=ops.toList→∀(x:Nat) (q:Oper),(pre++l)[x]?=some q→∀j,((qTg l acc).getD x 0).testBit j=true→(∀e∈q.after,Region.binds .any e=true→Lf listed e.on=true)→Lf listed j=true:=by
  intro acc pre hlen hacc l
  induction l generalizing acc pre with
  |nil=>intro _ x q hx j hj hq;simp only[qTg]at hj;exact hacc x q (by simpa using hx) j hj hq
  |cons p l ih =>
   intro hops x q hx j hj hq
   simp only[qTg]at hj
   refine ih (acc++[qTm acc p]) (pre++[p]) (by simp[hlen]) ?_ (by simpa using hops) x q (by simpa using hx) j hj hq
   intro x q hx j hj hq
   by_cases hxl:x<pre.length
   ·rw[List.getElem?_append_left hxl]at hx
    rw[List.getD_eq_getElem?_getD,List.getElem?_append_left (by omega),←List.getD_eq_getElem?_getD]at hj
    exact hacc x q hx j hj hq
   ·have hxe:x=pre.length:=by
     have:=(List.getElem?_eq_some_iff.1 hx).1
     simp at this;omega
    subst hxe
    rw[List.getElem?_append_right (Nat.le_refl _),Nat.sub_self]at hx
    simp at hx;subst hx
    rw[List.getD_eq_getElem?_getD,List.getElem?_append_right (by omega),hlen,Nat.sub_self]at hj
    simp only[List.getElem?_cons_zero,Option.getD_some]at hj
    unfold qTm at hj
    have fold:∀(es:List Edge) (m0:Nat),(∀e∈es,e∈p.after)→(m0.testBit j=true→Lf listed j=true)→(es.foldl (fun m e=>bif Region.binds .any e then m ||| (1 <<< e.on) ||| acc.getD e.on 0 else m) m0).testBit j=true→Lf listed j=true:=by
     intro es
     induction es with
     |nil=>intro m0 _ h0 h;exact h0 h
     |cons e es ihe =>
      intro m0 hm h0 h
      simp only[List.foldl_cons]at h
      refine ihe _ (fun e' he'=>hm e' (List.mem_cons_of_mem _ he')) ?_ h
      intro hb
      cases hbe:Region.binds .any e with
      |false=>rw[hbe]at hb;exact h0 hb
      |true =>
       rw[hbe,cW,Nat.testBit_or,Nat.testBit_or]at hb
       simp only[Bool.or_eq_true]at hb
       have hL:=hq e (hm e (by simp)) hbe
       rcases hb with (hb|hb)|hb
       ·exact h0 hb
       ·rw[Nat.one_shiftLeft,Nat.testBit_two_pow]at hb
        have:e.on=j:=by simpa using hb
        rw[←this];exact hL
       ·by_cases hon:e.on<pre.length
        ·have hp:pre[e.on]?=some pre[e.on]:=List.getElem?_eq_getElem hon
         refine hacc e.on _ hp j hb fun e' he' hb'=>?_
         exact hc e.on pre[e.on] hL (by
          have:ops.toList[e.on]?=some pre[e.on]:=by rw[←hops,List.getElem?_append_left hon];exact hp
          simpa using this) e' he' hb'
        ·rw[List.getD_eq_getElem?_getD,List.getElem?_eq_none (by omega)]at hb
         simp at hb
    exact fold p.after.toList 0 (fun e he=>by simpa using he) (by simp) hj
 exact good [] [] rfl (by simp) ops.toList rfl i o (by simpa using ho) j h hr
include D0
theorem qUW {listed:Array Bool} (hs:listed.size=ops.size) {i:Nat} (hi:i<ops.size) (hun:Lf listed i=false) (hall:∀j,j<i→Lf listed j=true):i∈Region.ready .any ops listed:=by
 rw[mem_ready]
 refine⟨by rw[qLG (by omega)];exact hun,ops[i],by simp[hi],fun e he hb=>?_⟩
 exact hall _ (D0.low i ops[i] (by simp[hi]) e he hb)
theorem qWp {Q:Exit→Act→World→Prop}:∀(f i:Nat) (listed:Array Bool) (a:Act) (w:World),f=ops.size-i→m≤i→i≤ops.size→listed.size=ops.size→(∀x,x<ops.size→Lf listed x=decide (x<i))→
  wpOps P ops Q (List.range' i (ops.size-i)) a w→wpAny P .any ops Q f listed a w:=by
 intro f
 induction f with
 |zero =>
  intro i listed a w hf hm hi hs hL h
  have:ops.size-i=0:=by omega
  rw[this]at h
  refine⟨?_,by simpa [wpOps]using h⟩
  rw[List.eq_nil_iff_forall_not_mem]
  intro x hx
  rw[mem_ready]at hx
  obtain⟨h1,o,h2,_⟩:=hx
  have hx:x<ops.size:=(Array.getElem?_eq_some_iff.1 h2).1
  rw[qLG (by omega),hL x hx]at h1
  have:=of_decide_eq_false h1
  omega
 |succ f ih =>
  intro i listed a w hf hm hi hs hL h
  have hlt:i<ops.size:=by omega
  have hready:i∈Region.ready .any ops listed:=qUW D0 hs hlt (by rw[hL i hlt];simp) (fun j hj=>by rw[hL j (by omega)];simpa using hj)
  refine⟨fun he=>by rw[he]at hready;simp at hready,fun x hx=>?_⟩
  have hxi:x=i:=by
   rw[mem_ready]at hx
   obtain⟨h1,o,h2,h3⟩:=hx
   have hx:x<ops.size:=(Array.getElem?_eq_some_iff.1 h2).1
   rw[qLG (by omega),hL x hx]at h1
   have hge:=of_decide_eq_false h1
   by_cases e:x=i
   ·exact e
   ·have hcl:Closed ops listed:=by
     intro y oy hy hoy ed he hb
     have hyn:=(Array.getElem?_eq_some_iff.1 hoy).1
     have h5:=D0.low y oy hoy ed he hb
     rw[hL y hyn]at hy
     rw[hL ed.on (by omega)]
     exact dT (by have:=of_decide_eq_true hy;omega)
    have h4:Lf listed i=true:=qLT hcl h2 (fun ed he hb=>h3 ed he hb) (D0.last x i o (by omega) (by omega) h2)
    rw[hL i hlt]at h4
    have:=of_decide_eq_true h4
    omega
  subst hxi
  rw[show ops.size-x=(ops.size-(x+1))+1 by omega,List.range'_succ,wpOps_cons]at h
  refine wpOp_mono (fun a' w' hk=>?_) h
  refine ih (x+1) _ a' w' (by omega) (by omega) (by omega) (by simpa using hs) ?_ hk
  intro y hy
  rw[qPt (by omega)]
  split
  ·rename_i e;subst e;simp
  ·rename_i e;rw[hL y hy];congr 1;apply propext;omega
end
theorem qPB {p p':Nat→Bool} {i:Nat}:∀{l:List Nat},l.Nodup→i∈l→p i=true→p' i=false→(∀j,j≠i→p' j=p j)→l.countP p'+1=l.countP p
 | [],_,h,_,_,_=>by simp at h
 |x::l,hnd,hm,h1,h2,h3=>by
  have hnd':=List.nodup_cons.1 hnd
  by_cases e:x=i
  ·subst e
   have hrest:l.countP p'=l.countP p:=List.countP_congr fun j hj=>by
    rw[h3 j (fun e=>by subst e;exact hnd'.1 hj)]
   rw[List.countP_cons,List.countP_cons,hrest];simp[h1,h2]
  ·have hm':i∈l:=by rcases List.mem_cons.1 hm with h|h;exact absurd h.symm e;exact h
   have ih:=qPB hnd'.2 hm' h1 h2 h3
   rw[List.countP_cons,List.countP_cons,h3 x e];omega
theorem AW.draw {P:Program} {Q:Exit→St→Prop} {ops:Array Oper} {σ σm:St} {id:Nat} (m c:Nat) (Ks:List Nat) {out:List Res} (hmix:P.follows .mixedOrders=true) (hok:qSQ ops m=true) (hc:σ.freshFrom c=true)
  (hch:Chain P ops Ks σ.h c 0 [] [] [] c (ops.toList.take m) σ out σm) (hrest:AO P ops (ops.toList.drop m) Q σm):AW P (.region id ops true) Q σ:=by
 have D0:=qRZ hok
 have hn:=D0.le
 have hlen:(ops.toList.take m).length=m:=by simp;omega
 have hopl:∀i,i<m→(ops.toList.take m)[i]?=ops[i]?:=fun i hi=>by rw[List.getElem?_take,if_pos hi];simp
 have hdst:∀a b t,a≠b→qKZ (ops.toList.take m) a=some t→qKZ (ops.toList.take m) b≠some t:=by
  intro a b t hne ha hb
  unfold qKZ at ha hb
  cases hoa:(ops.toList.take m)[a]? with
  |none=>simp[hoa]at ha
  |some oa =>
   cases hob:(ops.toList.take m)[b]? with
   |none=>simp[hob]at hb
   |some ob =>
    have hla:a<m:=by have:=(List.getElem?_eq_some_iff.1 hoa).1;omega
    have hlb:b<m:=by have:=(List.getElem?_eq_some_iff.1 hob).1;omega
    rw[hopl a hla]at hoa;rw[hopl b hlb]at hob
    rw[hopl a hla,hoa]at ha;rw[hopl b hlb,hob]at hb
    exact D0.dst a b oa ob t hne hla hlb hoa hob (by simpa using ha) (by simpa using hb)
 obtain⟨hl,hfacts,hend⟩:=hch.facts [] [] rfl rfl (Nat.le_refl _) (by simp) (by simp) (by simp) (by simpa using hdst) (fun out'=>Inv.start _ _ _ _ (by simp))
 simp only[List.nil_append]at hfacts hend
 have hol:out.length=m:=by omega
 have hfact:∀(j:Nat) (r:Res),out[j]?=some r→∃hj:j<ops.size,qXl P ops Ks σ (ops.toList.take m) out c j ops[j] r:=by
  intro j r hj
  have hjm:j<m:=by have:=(List.getElem?_eq_some_iff.1 hj).1;omega
  exact⟨by omega,hfacts j ops[j] r (by omega) (by rw[hopl j hjm];simp) hj⟩
 have hint:∀(i j:Nat) (ri rj:Res),i<j→out[i]?=some ri→out[j]?=some rj→ri.k'≤rj.k:=by
  intro i j ri rj hij hi hj
  obtain⟨_,_,_,_,_,_,_,_,_,h,_⟩:=hfact j rj hj
  exact h i ri hij hi
 have hset:∀{r:Res} {idn:Nat},(get r.rs idn).isSome=true→∃ρ,(idn,ρ)∈r.rs:=by
  intro r idn h
  obtain⟨ρ,hρ⟩:=Option.isSome_iff_exists.1 h
  exact⟨ρ,qJK hρ⟩
 have hnam:∀(j:Nat) (r:Res) (idn:Nat),out[j]?=some r→(get r.rs idn).isSome=true→idn<r.k'∧(r.k≤idn∨(idn<r.k∧(r.dep=false→idn<c∨r.s≤idn)∧(idn<c→qQb idn Ks=true)∧(r.dep||r.pk)=true∧∀(i:Nat) (r':Res),i<j→out[i]?=some r'→(r'.dep||r'.pk)=true→qFY ops j i=true)):=by
  intro j r idn hj hs
  obtain⟨ρ,hρ⟩:=hset hs
  obtain⟨_,_,qEN,_,hn,hkk,_,_,_,_,hk,_⟩:=hfact j r hj
  rcases hn _ hρ with⟨g1,g2⟩|⟨g1,g2,g3,g4⟩
  ·exact⟨g2,.inl g1⟩
  ·have g2:idn<r.k:=g2
   exact⟨by have:=hkk.1;omega,.inr ⟨g2,g4,g3,(hk g1).1,(hk g1).2⟩⟩
 have htwo:∀(i j:Nat) (ri rj:Res) (idn:Nat),i<j→out[i]?=some ri→out[j]?=some rj→(get ri.rs idn).isSome=true→(get rj.rs idn).isSome=true→qFY ops j i=true:=by
  intro i j ri rj idn hij hi hj hsi hsj
  have hlt:=hint i j ri rj hij hi hj
  obtain⟨g1,g1'⟩:=hnam i ri idn hi hsi
  obtain⟨_,g2⟩:=hnam j rj idn hj hsj
  rcases g2 with g2|⟨_,g3,_,g7,g4⟩
  ·omega
  ·obtain⟨_,_,_,_,_,_,_,_,hd,_,_,_,hps⟩:=hfact j rj hj
   have hne:ri.rs≠[]:=by intro e;rw[e]at hsi;simp[get]at hsi
   cases e:rj.dep with
   |true=>exact hd e i ri hij hi hne
   |false =>
    rcases g3 e with hlc|hlc
    ·obtain⟨_,_,_,_,_,_,hci,_⟩:=hfact i ri hi
     rcases g1' with g5|⟨_,_,_,g6,_⟩
     ·omega
     ·exact g4 i ri hij hi g6
    ·rcases hps (by rw[e,Bool.false_or]at g7;exact g7) i ri hij hi hne with h|h
     ·omega
     ·exact h
 intro E a w R
 refine wp_region_any hmix ?_
 have RX:RelX E σ a { w with drawn:=w.drawn+1 }:=by
  obtain⟨Z,loc,fps,R⟩:=R
  exact⟨Z,loc,fps,R.ext ⟨Nat.le_refl _,fun _ _=>rfl,rfl,rfl,rfl,Nat.le_succ _⟩⟩
 have main:∀(u:Nat) (listed:Array Bool) (σ1:St) (a:Act) (w:World),(List.range m).countP (fun i=>!Lf listed i)=u→listed.size=ops.size→Closed ops listed→(∀i,m≤i→Lf listed i=false)→
   Inv σ (ops.toList.take m) out (fun i=>Lf listed i) σ1→RelX E σ1 a w→wpAny P .any ops (qTE E Q) (u+(ops.size-m)) listed a w:=by
  intro u
  induction u with
  |zero =>
   intro listed σ1 a w hu hs hcl hlast hinv hR
   have hall:∀i,i<m→Lf listed i=true:=by
    intro i hi
    have:=List.countP_eq_zero.1 hu i (List.mem_range.2 hi)
    simpa using this
   obtain⟨e1,e2⟩:=Inv.same (by omega) hinv hend (fun i hi=>by rw[hall i (by omega)];simp[hi])
   have hR':RelX E σm a w:=by
    obtain⟨Z,loc,fps,R⟩:=hR
    exact⟨Z,loc,fps,R.congr e1 e2 (hinv.nt.trans hend.nt.symm) (hinv.gg.trans hend.gg.symm)⟩
   have hdl:(ops.toList.drop m).length=ops.size-m:=by simp
   have hm':ops.size-(ops.size-m)=m:=by omega
   have hw:=hrest (by rw[hdl,hm']) (by rw[hdl];omega) E a w hR'
   rw[hdl,hm']at hw
   rw[Nat.zero_add]
   exact qWp D0 _ m listed a w rfl (Nat.le_refl _) hn hs (fun x hx=>by
    by_cases e:x<m
    ·rw[hall x e];simp[e]
    ·rw[hlast x (by omega)];simp[e]) hw
  |succ u ih =>
   intro listed σ1 a w hu hs hcl hlast hinv hR
   have hex:∃i,i<m∧Lf listed i=false:=by
    have:0<(List.range m).countP (fun i=>!Lf listed i):=by omega
    obtain⟨i,hi,hp⟩:=List.countP_pos_iff.1 this
    exact⟨i,List.mem_range.1 hi,by simpa using hp⟩
   have hmin:∃i,i<m∧Lf listed i=false∧∀j,j<i→Lf listed j=true:=by
    obtain⟨i,hi,hf⟩:=hex
    induction i using Nat.strongRecOn with
    |_ i ihi =>
     by_cases h:∃j,j<i∧Lf listed j=false
     ·obtain⟨j,hj,hfj⟩:=h;exact ihi j hj (by omega) hfj
     ·exact⟨i,hi,hf,fun j hj=>by cases hb:Lf listed j;exact absurd ⟨j,hj,hb⟩ h;rfl⟩
   obtain⟨i0,hi0,hf0,hlow0⟩:=hmin
   have hready:=qUW D0 hs (show i0<ops.size by omega) hf0 hlow0
   rw[show u+1+(ops.size-m)=(u+(ops.size-m))+1 by omega]
   refine⟨fun he=>by rw[he]at hready;simp at hready,fun j hj=>?_⟩
   rw[mem_ready]at hj
   obtain⟨hj1,o,hj2,hj3⟩:=hj
   have hjn:j<ops.size:=(Array.getElem?_eq_some_iff.1 hj2).1
   rw[qLG (by omega)]at hj1
   have hjm:j<m:=by
    by_cases e:j<m
    ·exact e
    ·have h4:Lf listed i0=true:=qLT hcl hj2 (fun ed he hb=>hj3 ed he hb) (D0.last j i0 o (by omega) (by omega) hj2)
     rw[hf0]at h4;cases h4
   have hoj:(ops.toList.take m)[j]?=some o:=by rw[hopl j hjm];exact hj2
   obtain⟨r,hrj⟩:∃r:Res,out[j]?=some r:=⟨_,List.getElem?_eq_getElem (by omega)⟩
   obtain⟨σj,qEN,hF,hnj,hkk,hck,hinvj,hdep,hmono,hkl,hpk,hps⟩:=hfacts j o r (by omega) hoj hrj
   have hreach:∀i,qFY ops j i=true→Lf listed i=true:=fun i h=>qLT hcl hj2 (fun ed he hb=>hj3 ed he hb) h
   have hback:∀i,Lf listed i=true→qFY ops i j=true→False:=by
    intro i hi h
    have hin:i<ops.size:=by
     by_cases e:i<ops.size
     ·exact e
     ·unfold Lf at hi;rw[Array.getD_eq_getD_getElem?,Array.getElem?_eq_none (by omega)]at hi;cases hi
    have:Lf listed j=true:=qLT hcl (o:=ops[i]) (by simp[hin]) (fun ed he hb=>hcl i ops[i] hi (by simp[hin]) ed he hb) h
    rw[hj1]at this;cases this
   have hjL:∀i,i<j→qMa o i=true→Lf listed i=true:=by
    intro i hi he
    obtain⟨ed,he,hon,hb⟩:=qOq he
    have:=hj3 ed he hb
    rw[hon]at this;exact this
   have hfr:σ1.freshIn r.k r.k':=by
    intro idn h1 h2
    rcases hinv.hh idn with⟨i,q,a1,a2,a3,_,_⟩|⟨_,a2⟩
    ·exfalso
     by_cases e:i=j
     ·subst e;have a1:Lf listed i=true:=a1;rw[hj1]at a1;cases a1
     ·obtain⟨g1,g2⟩:=hnam i q idn a2 a3
      by_cases hlt:i<j
      ·have:=hint i j q r hlt a2 hrj;omega
      ·have hji:=hint j i r q (by omega) hrj a2
       rcases g2 with g2|⟨_,g3,_,g7,_⟩
       ·omega
       ·obtain⟨_,_,_,_,_,_,_,_,hd,_,_,_,hq⟩:=hfact i q a2
        have hrs:r.rs≠[]:=fun hrs=>by have:=hkk.2 (by rw[hrs];rfl);omega
        cases e:q.dep with
        |false =>
         rcases g3 e with g3|g3
         ·omega
         ·rcases hq (by rw[e,Bool.false_or]at g7;exact g7) j r (by omega) hrj hrs with h|h
          ·omega
          ·exact hback i a1 h
        |true=>exact hback i a1 (hd e j r (by omega) hrj hrs)
    ·rw[a2];exact qIS hc idn (by omega)
   have hT:∀t d,get (σj.only (o.looksAt ops) (vw Ks σ.h c r.dep r.pk r.s σj.h)).t t=some d→get σ1.t t=some d:=by
    intro t d ht
    obtain⟨h1,h2⟩:=qIf (fun k=>qQb k (o.looksAt ops)) ht
    rw[←h1]
    by_cases hw:∃i,i<m∧qKZ (ops.toList.take m) i=some t
    ·obtain⟨i,him,hdi⟩:=hw
     have hoi:∃oi,ops[i]?=some oi∧oi.dst=some t:=by
      unfold qKZ at hdi
      rw[hopl i him]at hdi
      cases hx:ops[i]? with
      |none=>simp[hx]at hdi
      |some oi=>simp[hx]at hdi;exact⟨oi,rfl,hdi⟩
     obtain⟨oi,hoi1,hoi2⟩:=hoi
     have huniq:∀x,x≠i→qKZ (ops.toList.take m) x≠some t:=fun x hx hd=>hdst i x t (fun e=>hx e.symm) hdi hd
     by_cases e:i=j
     ·subst e
      rw[hinv.t2 t (fun x hx _=>by
       by_cases e':x=i
       ·subst e';have hx:Lf listed x=true:=hx;rw[hj1]at hx;cases hx
       ·exact huniq x e'),hinvj.t2 t (fun x hx _=>huniq x (by have:=of_decide_eq_true hx;omega))]
     ·have hlk:=D0.look j i o oi t (fun e'=>e e'.symm) hj2 hoi1 hoi2 h2
      have hri:out[i]?=some out[i]:=List.getElem?_eq_getElem (by omega)
      split at hlk
      ·rename_i hij
       rw[hinv.t1 i t _ (hjL i hij hlk) hdi hri,hinvj.t1 i t _ (dT hij) hdi hri]
      ·rename_i hij
       have hnl:Lf listed i=false:=by
        cases hb:Lf listed i
        ·rfl
        ·obtain⟨ed,he,hon,hbd⟩:=qOq hlk
         have:=hcl i oi hb hoi1 ed he hbd
         rw[hon,hj1]at this;cases this
       rw[hinv.t2 t (fun x hx _=>by
        by_cases e':x=i
        ·subst e';have hx:Lf listed x=true:=hx;rw[hnl]at hx;cases hx
        ·exact huniq x e'),hinvj.t2 t (fun x hx _=>huniq x (by have:=of_decide_eq_true hx;omega))]
    ·rw[hinv.t2 t (fun x _ hx hd=>hw ⟨x,by omega,hd⟩),hinvj.t2 t (fun x _ hx hd=>hw ⟨x,by omega,hd⟩)]
   have hH:∀idn ρ,get (σj.only (o.looksAt ops) (vw Ks σ.h c r.dep r.pk r.s σj.h)).h idn=some ρ→get σ1.h idn=some ρ:=by
    intro idn ρ hg
    have hg:get (vw Ks σ.h c r.dep r.pk r.s σj.h) idn=some ρ:=hg
    by_cases hv:(r.dep||r.pk)=true
    ·have hgs:get σj.h idn=some ρ∧(r.dep=false→idn<c∨r.s≤idn):=by
      cases hdp:r.dep with
      |true=>rw[hdp]at hg;exact⟨hg,fun e=>by cases e⟩
      |false =>
       rw[hdp,Bool.false_or]at hv
       rw[hdp,hv]at hg
       obtain⟨g1,g2⟩:=qIf (fun k=>Nat.blt k c||Nat.ble r.s k) (show get (σj.h.filter fun x=>Nat.blt x.1 c||Nat.ble r.s x.1) idn=some ρ from hg)
       exact⟨g1,fun _=>((Bool.or_eq_true _ _).mp g2).imp (fun h=>Nat.le_of_ble_eq_true h) Nat.le_of_ble_eq_true⟩
     obtain⟨hg,hgc⟩:=hgs
     have hset':∀(i:Nat) (q:Res),i<j→out[i]?=some q→(get q.rs idn).isSome=true→qFY ops j i=true:=by
      intro i q hij a2 a3
      have hqs:q.rs≠[]:=by intro e;rw[e]at a3;simp[get]at a3
      cases hdp:r.dep with
      |true=>exact hdep hdp i q hij a2 hqs
      |false =>
       obtain⟨_,_,_,_,_,_,hcq,_⟩:=hfact i q a2
       obtain⟨k1,k2⟩:=hnam i q idn a2 a3
       rw[hdp,Bool.false_or]at hv
       rcases hgc hdp with hlc|hlc
       ·rcases k2 with k2|⟨_,_,_,k3,_⟩
        ·omega
        ·exact(hkl (hpk hv)).2 i q hij a2 k3
       ·rcases hps hv i q hij a2 hqs with h|h
        ·omega
        ·exact h
     rcases hinvj.hh idn with⟨i,q,a1,a2,a3,a4,a5⟩|⟨a1,a2⟩
     ·have hij:i<j:=of_decide_eq_true a1
      have hli:=hreach i (hset' i q hij a2 a3)
      rcases hinv.hh idn with⟨i',q',b1,b2,b3,b4,b5⟩|⟨b1,_⟩
      ·have hge:=b4 i q hli a2 a3
       have:i'=i:=by
        by_cases e:i'=i
        ·exact e
        ·exfalso
         by_cases hj':i'<j
         ·have:=a4 i' q' (dT hj') b2 b3;omega
         ·by_cases ej:i'=j
          ·subst ej;have b1:Lf listed i'=true:=b1;rw[hj1]at b1;cases b1
          ·
           obtain⟨_,k2⟩:=hnam i' q' idn b2 b3
           obtain⟨m1,_⟩:=hnam i q idn a2 a3
           have hji':=hint i i' q q' (by omega) a2 b2
           rcases k2 with k2|⟨_,_,_,_,k3⟩
           ·omega
           ·exact hback i' b1 (k3 j r (by omega) hrj hv)
       subst this
       rw[a2]at b2;cases b2
       rw[b5,←a5];exact hg
      ·rw[b1 i q hli a2]at a3;cases a3
     ·rw[a2]at hg
      rcases hinv.hh idn with⟨i',q',b1,b2,b3,b4,b5⟩|⟨_,b2⟩
      ·exfalso
       have hlt:idn<c:=by
        by_cases e:idn<c
        ·exact e
        ·rw[qIS hc idn (by omega)]at hg;cases hg
       by_cases hj':i'<j
       ·rw[a1 i' q' (dT hj') b2]at b3;cases b3
       ·by_cases ej:i'=j
        ·subst ej;have b1:Lf listed i'=true:=b1;rw[hj1]at b1;cases b1
        ·obtain⟨_,_,_,_,_,_,hcq,_⟩:=hfact i' q' b2
         obtain⟨_,k2⟩:=hnam i' q' idn b2 b3
         rcases k2 with k2|⟨_,_,_,_,k3⟩
         ·omega
         ·exact hback i' b1 (k3 j r (by omega) hrj hv)
      ·rw[b2];exact hg
    ·have hdp:r.dep=false∧r.pk=false:=by cases h1:r.dep<;>cases h2:r.pk<;>simp[h1,h2]at hv⊢
     rw[hdp.1,hdp.2]at hg
     have hg:get (noK Ks σ.h) idn=some ρ:=hg
     obtain⟨g1,g2⟩:=qIf (fun k=>!qQb k Ks) hg
     have hlt:idn<c:=by
      by_cases e:idn<c
      ·exact e
      ·rw[qIS hc idn (by omega)]at g1;cases g1
     rcases hinv.hh idn with⟨i,q,a1,a2,a3,_,_⟩|⟨_,a2⟩
     ·exfalso
      obtain⟨_,_,_,_,_,_,hcq,_⟩:=hfact i q a2
      obtain⟨_,k2⟩:=hnam i q idn a2 a3
      rcases k2 with k2|⟨_,_,k3,_⟩
      ·omega
      ·rw[k3 hlt]at g2;cases g2
     ·rw[a2];exact g1
   have hb:=hF E σ1 a w hT hH (by show σ1.nt=σj.nt;rw[hinv.nt,hinvj.nt]) hfr hR
   have hinv':=hinv.step (fun x hx=>by
    unfold qKZ at hx
    by_cases e:x<(ops.toList.take m).length
    ·exact e
    ·rw[List.getElem?_eq_none (by omega)]at hx;simp at hx) hoj hrj hj1 (fun i t hne hd=>hdst i j t hne hd) (fun i r' idn hi hr' hs hs'=>by
    by_cases hlt:i≤j
    ·exact hlt
    ·exact(hback i hi (htwo j i r r' idn (by omega) hrj hr' hs' hs)).elim)
   have hnext:∀a' w',RelX E (St.put { σ1 with h:=r.rs++σ1.h } o.dst r.d) a' w'→wpAny P .any ops (qTE E Q) (u+(ops.size-m)) (listed.setIfInBounds j true) a' w':=by
    intro a' w' hR'
    refine ih (listed.setIfInBounds j true) _ a' w' ?_ (by simpa using hs) (hcl.set (by omega) hj2 (fun e he hb=>hj3 e he hb)) ?_ ?_ hR'
    ·have:=qPB (l:=List.range m) (i:=j) (p:=fun i=>!Lf listed i) (p':=fun i=>!Lf (listed.setIfInBounds j true) i) List.nodup_range (List.mem_range.2 hjm) (by simp[hj1]) (by simp[qPt (show j<listed.size by omega)]) (fun x hx=>by simp[qPt (show j<listed.size by omega),hx])
     omega
    ·intro x hx
     rw[qPt (by omega),if_neg (by omega)];exact hlast x hx
    ·have heq:(fun i=>Lf (listed.setIfInBounds j true) i)=(fun i=>bif Nat.beq i j then true else Lf listed i):=by
      funext x
      rw[qPt (by omega)]
      by_cases e:x=j
      ·subst e;simp
      ·have:Nat.beq x j=false:=by cases hb:Nat.beq x j;rfl;exact absurd (Nat.eq_of_beq_eq_true hb) e
       rw[if_neg e,this];rfl
     rw[heq];exact hinv'
   unfold wpOp
   rw[hj2]
   unfold qJI at hb
   simp only[]
   split
   ·rename_i hw
    rw[if_pos hw]at hb
    exact .inl (Oper.wp_mono hnext (Oper.wp_false hb))
   ·rename_i hw
    rw[if_neg hw]at hb
    exact hnext _ _ hb
 have hcnt:(List.range m).countP (fun i=>!Lf (Array.replicate ops.size false) i)=m:=by
  rw[List.countP_eq_length.2 fun i hi=>?_]
  ·simp
  ·have:=List.mem_range.1 hi
   have hx:i<ops.size:=by omega
   simp[Lf,Array.getD_eq_getD_getElem?,hx]
 have hL0:∀i,Lf (Array.replicate ops.size false) i=false:=fun i=>by
  unfold Lf
  simp only[Array.getD_eq_getD_getElem?,Array.getElem?_replicate]
  split<;>rfl
 have:=main m (Array.replicate ops.size false) σ a { w with drawn:=w.drawn+1 } hcnt (by simp) (fun i o hi=>by rw[hL0 i]at hi;cases hi) (fun i _=>hL0 i) (Inv.start _ _ _ _ hL0) RX
 rwa [show m+(ops.size-m)=ops.size by omega]at this
end Go.AM
end
section
namespace Go.AM
def AD (P:Program) (ops:Array Oper) (Ks:List Nat) (h0:List (Nat×Root)) (c0:Nat) (i:Nat) (ps:List Nat) (ts:List (Nat×Nat)) (qs:List Nat) (c:Nat) (l:List Oper) (σ:St) (K:St→Prop):Prop:=∃out σ',Chain P ops Ks h0 c0 i ps ts qs c l σ out σ'∧K σ'
section
variable {P:Program} {ops:Array Oper} {Ks:List Nat} {h0:List (Nat×Root)} {c0:Nat} {i:Nat} {ps:List Nat} {ts:List (Nat×Nat)} {qs:List Nat} {c:Nat} {l:List Oper} {o:Oper} {σ:St} {K:St→Prop}
theorem AD.nil (h:K σ):AD P ops Ks h0 c0 i ps ts qs c [] σ K:=⟨[],σ,.nil,h⟩
theorem AD.v {d:D} (h:FStep P ops (σ.only (o.looksAt ops) (noK Ks h0)) o d [] c c) (hr:AD P ops Ks h0 c0 (i+1) ps ts qs c l (σ.put o.dst d) K):AD P ops Ks h0 c0 i ps ts qs c (o::l) σ K:=by
 obtain⟨out,σ',h1,h2⟩:=hr
 exact⟨_,σ',Chain.cons false false false 0 (fun e=>by cases e) (fun e=>by cases e) (fun e=>by cases e) (fun e=>by cases e) h (fun x hx=>by simp at hx) (Nat.le_refl _) (Nat.le_refl _) (fun _=>Nat.le_refl _) h1,h2⟩
theorem AD.vd {d:D} (hdep:ps.all (qFY ops i)=true) (h:FStep P ops (σ.only (o.looksAt ops) σ.h) o d [] c c) (hr:AD P ops Ks h0 c0 (i+1) ps ts (i::qs) c l (σ.put o.dst d) K):AD P ops Ks h0 c0 i ps ts qs c (o::l) σ K:=by
 obtain⟨out,σ',h1,h2⟩:=hr
 exact⟨_,σ',Chain.cons true false false 0 (fun _=>hdep) (fun e=>by cases e) (fun e=>by cases e) (fun e=>by cases e) h (fun x hx=>by simp at hx) (Nat.le_refl _) (Nat.le_refl _) (fun _=>Nat.le_refl _) h1,h2⟩
theorem AD.q {d:D} {rs:List (Nat×Root)} {k':Nat} (h:FStep P ops (σ.only (o.looksAt ops) (noK Ks h0)) o d rs c k') (hn:qAu rs c k') (hk:c≤k') (he:rs.isEmpty=false) (hr:AD P ops Ks h0 c0 (i+1) (i::ps) ((i,k')::ts) qs k' l (St.put { σ with h:=rs++σ.h } o.dst d) K):AD P ops Ks h0 c0 i ps ts qs c (o::l) σ K:=by
 obtain⟨out,σ',h1,h2⟩:=hr
 exact⟨_,σ',Chain.cons false false false 0 (fun e=>by cases e) (fun e=>by cases e) (fun e=>by cases e) (fun e=>by cases e) h (fun x hx=>.inl (hn x hx)) (Nat.le_refl _) hk (fun e=>by rw[he]at e;cases e) (by rw[he];exact h1),h2⟩
theorem AD.qd {d:D} {rs:List (Nat×Root)} {k':Nat} (hdep:ps.all (qFY ops i)=true) (h:FStep P ops (σ.only (o.looksAt ops) σ.h) o d rs c k') (hn:qAu rs c k') (hk:c≤k') (he:rs.isEmpty=false) (hr:AD P ops Ks h0 c0 (i+1) (i::ps) ((i,k')::ts) (i::qs) k' l (St.put { σ with h:=rs++σ.h } o.dst d) K):AD P ops Ks h0 c0 i ps ts qs c (o::l) σ K:=by
 obtain⟨out,σ',h1,h2⟩:=hr
 exact⟨_,σ',Chain.cons true false false 0 (fun _=>hdep) (fun e=>by cases e) (fun e=>by cases e) (fun e=>by cases e) h (fun x hx=>.inl (hn x hx)) (Nat.le_refl _) hk (fun e=>by rw[he]at e;cases e) (by rw[he];exact h1),h2⟩
def qWI (Ks:List Nat) (c0 k k':Nat) (rs:List (Nat×Root)):Bool:=rs.all fun x=>(Nat.ble k x.1&&Nat.blt x.1 k')||(Nat.blt x.1 k&&(Nat.ble c0 x.1||qQb x.1 Ks))
theorem AD.k {d:D} {rs:List (Nat×Root)} {k':Nat} (hdep:ps.all (qFY ops i)=true) (hq:qs.all (qFY ops i)=true) (h:FStep P ops (σ.only (o.looksAt ops) σ.h) o d rs c k') (hn:qWI Ks c0 c k' rs=true) (hk:Nat.ble c k'=true) (he:rs.isEmpty=false)
  (hr:AD P ops Ks h0 c0 (i+1) (i::ps) ((i,k')::ts) (i::qs) k' l (St.put { σ with h:=rs++σ.h } o.dst d) K):AD P ops Ks h0 c0 i ps ts qs c (o::l) σ K:=by
 obtain⟨out,σ',h1,h2⟩:=hr
 refine⟨_,σ',Chain.cons true true false 0 (fun _=>hdep) (fun e=>by cases e) (fun _=>⟨rfl,hq⟩) (fun e=>by cases e) h (fun x hx=>?_) (Nat.le_refl _) (Nat.le_of_ble_eq_true hk) (fun e=>by rw[he]at e;cases e) (by rw[he];exact h1),h2⟩
 have:=List.all_eq_true.1 hn x hx
 simp only[Bool.or_eq_true,Bool.and_eq_true]at this
 rcases this with⟨g1,g2⟩|⟨g1,g2⟩
 ·exact .inl ⟨Nat.le_of_ble_eq_true g1,Nat.le_of_ble_eq_true g2⟩
 ·refine .inr ⟨rfl,Nat.le_of_ble_eq_true g1,fun hlt=>?_,fun e=>by cases e⟩
  rcases g2 with g2|g2
  ·have:=Nat.le_of_ble_eq_true g2;omega
  ·exact g2
def qXn (Ks:List Nat) (c0 s k k':Nat) (rs:List (Nat×Root)):Bool:=rs.all fun x=>(Nat.ble k x.1&&Nat.blt x.1 k')||(Nat.blt x.1 k&&((Nat.blt x.1 c0&&qQb x.1 Ks)||(Nat.ble c0 x.1&&Nat.ble s x.1)))
theorem AD.ks (s:Nat) {d:D} {rs:List (Nat×Root)} {k':Nat} (h:FStep P ops (σ.only (o.looksAt ops) (σ.h.filter fun x=>Nat.blt x.1 c0||Nat.ble s x.1)) o d rs c k') (hr:AD P ops Ks h0 c0 (i+1) (i::ps) ((i,k')::ts) (i::qs) k' l (St.put { σ with h:=rs++σ.h } o.dst d) K)
  (hs:ts.all (fun x=>Nat.ble x.2 s||qFY ops i x.1)=true:=by exact rfl) (hq:qs.all (qFY ops i)=true:=by exact rfl) (hn:qXn Ks c0 s c k' rs=true:=by exact rfl) (hk:Nat.ble c k'=true:=by exact rfl) (he:rs.isEmpty=false:=by exact rfl):AD P ops Ks h0 c0 i ps ts qs c (o::l) σ K:=by
 obtain⟨out,σ',h1,h2⟩:=hr
 refine⟨_,σ',Chain.cons false true true s (fun e=>by cases e) (fun _=>hs) (fun _=>⟨rfl,hq⟩) (fun _=>rfl) h (fun x hx=>?_) (Nat.le_refl _) (Nat.le_of_ble_eq_true hk) (fun e=>by rw[he]at e;cases e) (by rw[he];exact h1),h2⟩
 have:=List.all_eq_true.1 hn x hx
 simp only[Bool.or_eq_true,Bool.and_eq_true]at this
 rcases this with⟨g1,g2⟩|⟨g1,⟨g2,g3⟩|⟨g2,g3⟩⟩
 ·exact .inl ⟨Nat.le_of_ble_eq_true g1,Nat.le_of_ble_eq_true g2⟩
 ·exact .inr ⟨rfl,Nat.le_of_ble_eq_true g1,fun _=>g3,fun _=>.inl (Nat.le_of_ble_eq_true g2)⟩
 ·exact .inr ⟨rfl,Nat.le_of_ble_eq_true g1,fun h=>absurd (Nat.le_of_ble_eq_true g2) (Nat.not_le.2 h),fun _=>.inr (Nat.le_of_ble_eq_true g3)⟩
theorem AD.p {te:TE} (T:qGk P te) {d:D} (hw:(σ.only (o.looksAt ops) (noK Ks h0)).wants ops o=some true) (hd:qBI (σ.only (o.looksAt ops) (noK Ks h0)) o=true) (h:qLd te (σ.only (o.looksAt ops) (noK Ks h0)) o.op=some d) (hr:AD P ops Ks h0 c0 (i+1) ps ts qs c l (σ.put o.dst d) K):AD P ops Ks h0 c0 i ps ts qs c (o::l) σ K :=
 AD.v (FStep.val hw hd (qL0 T h)) hr
theorem AD.pured {te:TE} (T:qGk P te) {d:D} (hdep:ps.all (qFY ops i)=true) (hw:(σ.only (o.looksAt ops) σ.h).wants ops o=some true) (hd:qBI (σ.only (o.looksAt ops) σ.h) o=true) (h:qLd te (σ.only (o.looksAt ops) σ.h) o.op=some d) (hr:AD P ops Ks h0 c0 (i+1) ps ts (i::qs) c l (σ.put o.dst d) K):AD P ops Ks h0 c0 i ps ts qs c (o::l) σ K :=
 AD.vd hdep (FStep.val hw hd (qL0 T h)) hr
theorem AD.pureG {te:TE} (T:qGk P te) {d:D} {g:Bool} (ks:List Nat) (hg:(σ.only (o.looksAt ops) (noK Ks h0)).gval ops o=some g) (hc:qIC (σ.only (o.looksAt ops) (noK Ks h0)) g ks) (hd:qBI (σ.only (o.looksAt ops) (noK Ks h0)) o=true) (h:qLd te ((σ.only (o.looksAt ops) (noK Ks h0)).unc ks) o.op=some d)
  (hr:AD P ops Ks h0 c0 (i+1) ps ts qs c l (σ.put o.dst (.c g d)) K):AD P ops Ks h0 c0 i ps ts qs c (o::l) σ K :=
 AD.v (FStep.guard ks hg hc (fun _=>qL0 T h) hd) hr
theorem AD.w {d:D} (hw:(σ.only (o.looksAt ops) (noK Ks h0)).wants ops o=some true) (hd:qBI (σ.only (o.looksAt ops) (noK Ks h0)) o=true) (h:OpV P (σ.only (o.looksAt ops) (noK Ks h0)) o d) (hr:AD P ops Ks h0 c0 (i+1) ps ts qs c l (σ.put o.dst d) K):AD P ops Ks h0 c0 i ps ts qs c (o::l) σ K :=
 AD.v (FStep.val hw hd h) hr
theorem AD.vald {d:D} (hdep:ps.all (qFY ops i)=true) (hw:(σ.only (o.looksAt ops) σ.h).wants ops o=some true) (hd:qBI (σ.only (o.looksAt ops) σ.h) o=true) (h:OpV P (σ.only (o.looksAt ops) σ.h) o d) (hr:AD P ops Ks h0 c0 (i+1) ps ts (i::qs) c l (σ.put o.dst d) K):AD P ops Ks h0 c0 i ps ts qs c (o::l) σ K :=
 AD.vd hdep (FStep.val hw hd h) hr
theorem AD.guard {d:D} {g:Bool} (ks:List Nat) (hg:(σ.only (o.looksAt ops) (noK Ks h0)).gval ops o=some g) (hc:qIC (σ.only (o.looksAt ops) (noK Ks h0)) g ks) (hop:g=true→OpV P ((σ.only (o.looksAt ops) (noK Ks h0)).unc ks) o d) (hd:qBI (σ.only (o.looksAt ops) (noK Ks h0)) o=true)
  (hr:AD P ops Ks h0 c0 (i+1) ps ts qs c l (σ.put o.dst (.c g d)) K):AD P ops Ks h0 c0 i ps ts qs c (o::l) σ K :=
 AD.v (FStep.guard ks hg hc hop hd) hr
theorem AW.drawn {Q:Exit→St→Prop} {id:Nat} (m c:Nat) (Ks:List Nat) (hmix:P.follows .mixedOrders=true) (hok:qSQ ops m=true) (hc:σ.freshFrom c=true) (h:AD P ops Ks σ.h c 0 [] [] [] c (ops.toList.take m) σ (AO P ops (ops.toList.drop m) Q)):AW P (.region id ops true) Q σ:=by
 obtain⟨out,σ',h1,h2⟩:=h
 exact AW.draw m c Ks hmix hok hc h1 h2
end
end Go.AM
end
section
namespace Go.AM
def qAV {α:Type} (l:List α) (i:Int):Option α:=if 0≤i then l[i.toNat]? else none
def opt {α:Type} (g:Bool) (d:α) (m:Option α):Option α:=bif g then m else some d
def qFj {α:Type} (l:List α) (n:Int):Option (List α):=if 0≤n∧n≤l.length then some (l.take n.toNat) else none
def qC7 {α:Type} (l:List α) (n:Int):Option (List α):=if 0≤n∧n≤l.length then some (l.drop n.toNat) else none
def qAh (b n:Nat):Bool:=Nat.ble (2*n*b) 281474976710656
def qAz (b:Bool):Option Unit:=bif b then some () else none
def w64 (n:Int):Int:=IntKind.wrap .i64 n
theorem zB {α β:Type} {o:Option α} {f:α→Option β} {r:β} (h:o.bind f=some r):∃x,o=some x∧f x=some r:=Option.bind_eq_some_iff.1 h
theorem condT {α:Type} {c:Bool} {a b:α} {r:α} (hc:c=true) (h:cond c a b=r):a=r:=by subst hc;exact h
theorem condF {α:Type} {c:Bool} {a b:α} {r:α} (hc:c=false) (h:cond c a b=r):b=r:=by subst hc;exact h
theorem qEv {α:Type} {g:Bool} {d r:α} {m:Option α} (h:opt g d m=some r) (hg:g=true):m=some r:=by subst hg;exact h
theorem qAS {b:Bool} {u:Unit} (h:qAz b=some u):b=true:=by cases b;cases h;rfl
theorem zS {α:Type} {a b:α} (h:some a=some b):a=b:=Option.some.inj h
theorem qQH {α:Type} {l:List α} {i:Int} {x:α} (h:qAV l i=some x):0≤i:=by unfold qAV at h;split at h;assumption;cases h
theorem zgG {α:Type} {l:List α} {i:Int} {x:α} (h:qAV l i=some x):l[i.toNat]?=some x:=by unfold qAV at h;split at h;exact h;cases h
theorem qRc {α:Type} {l:List α} {i:Int} {x:α} (h:qAV l i=some x):i.toNat<l.length:=(List.getElem?_eq_some_iff.1 (zgG h)).1
theorem qQY {α:Type} (l:List α) (k:Nat):qAV l (k:Int)=l[k]?:=by simp[qAV]
theorem qVs {α:Type} {l:List α} {i:Int} {x:α} {f:α→List D} (h:qAV l i=some x):(l.map f)[i.toNat]?=some (f x):=by rw[List.getElem?_map,zgG h];rfl
theorem zgD {α:Type} {l:List α} {k:Nat} {x:α} {xs:List α} (h:l.drop k=x::xs):qAV l (k:Int)=some x:=by
 rw[qQY]
 have:(l.drop k)[0]?=some x:=by rw[h];rfl
 simpa using this
theorem zds {α:Type} {l:List α} {k:Nat} {x:α} {xs:List α} (h:l.drop k=x::xs):l.drop (k+1)=xs:=by
 rw[←List.drop_drop,h];rfl
theorem qAG {α:Type} {l:List α} {k:Nat} {x:α} {xs:List α} (h:l.drop k=x::xs):k<l.length:=by
 have:=congrArg List.length h
 simp at this;omega
theorem qAF {α:Type} {l:List α} {k:Nat} (h:l.drop k=[]):l.length≤k:=by
 have:=congrArg List.length h
 simp at this;omega
theorem AW.boundS {P:Program} {c:Code} {Q:Exit→St→Prop} {σ:St} {t:Nat} {xs:List (List D)} (ht:get σ.t t=some (.s xs)) (h:xs.length≤qEO→AW P c Q σ):AW P c Q σ:=by
 rintro E a w ⟨Z,loc,fps,R⟩
 obtain⟨v,_,h2⟩:=R.temps t _ ht
 refine h ?_ E a w ⟨Z,loc,fps,R⟩
 cases h2 with
 |s0=>simp
 |s _ _ _ h4 h5 _=>omega
theorem AW.boundM {P:Program} {c:Code} {Q:Exit→St→Prop} {σ:St} {t:Nat} {α:Type} {l:List α} {f:α→List D} (ht:get σ.t t=some (.s (l.map f))) (h:l.length≤qEO→AW P c Q σ):AW P c Q σ :=
 AW.boundS ht fun hb=>h (by simpa using hb)
theorem AW.boundR {P:Program} {c:Code} {Q:Exit→St→Prop} {σ:St} {id sz:Nat} {α:Type} {l:List α} {f:α→List D} (ht:get σ.h id=some (.row sz (l.map f))) (h:l.length≤qEO→AW P c Q σ):AW P c Q σ:=by
 rintro E a w ⟨Z,loc,fps,R⟩
 obtain⟨L,_,_,_,h3,h4,_⟩:=R.roots id _ ⟨ht,by simp⟩
 exact h (by simp at h3;omega) E a w ⟨Z,loc,fps,R⟩
@[reducible] def joinQ {α:Type} (S:α→St) (I:α→Prop) (Q:Exit→St→Prop):Exit→St→Prop
 |.normal,σ=>∃s,I s∧Le σ (S s)
 |.exit id,σ=>Q (.exit id) σ
 |.goto l,σ=>Q (.goto l) σ
 |.ret,σ=>Q .ret σ
 |.panic c,σ=>Q (.panic c) σ
 |.outgrown,σ=>Q .outgrown σ
theorem AW.seqJ {P:Program} {x y:Code} {Q:Exit→St→Prop} {σ:St} {α:Type} (S:α→St) (I:α→Prop) (h1:AW P x (joinQ S I Q) σ) (h2:∀s,I s→AW P y Q (S s)):AW P (.seq x y) Q σ:=by
 refine AW.q (AW.mono h1 ?_)
 intro e σ' h
 cases e with
 |normal=>obtain⟨s,hs,hle⟩:=h;exact AW.le hle (h2 s hs)
 |_=>exact h
theorem qL1 {B n:Nat} (h:qAh B n=true):2*n*B≤281474976710656:=Nat.le_of_ble_eq_true h
theorem qLR {B n:Nat} (h:qAh B n=true) (hB:0<B):n≤qEO:=by
 have h1:=qL1 h
 have h2:2*n*1≤2*n*B:=Nat.mul_le_mul_left _ hB
 unfold qEO;omega
theorem AW.condT' {P:Program} {Q:Exit→St→Prop} {σ:St} {c:Operand} {x y:Code} {b:Bool} (hc:σ.ev c=some (.v (.bool b))) (hb:b=true) (h1:AW P x Q σ):AW P (.cond c x y) Q σ:=by subst hb;exact AW.condT hc h1
theorem AW.condF' {P:Program} {Q:Exit→St→Prop} {σ:St} {c:Operand} {x y:Code} {b:Bool} (hc:σ.ev c=some (.v (.bool b))) (hb:b=false) (h1:AW P y Q σ):AW P (.cond c x y) Q σ:=by subst hb;exact AW.condF hc h1
theorem qY5 {k n:Nat} (h:k<n):decide ((k:Int)<(n:Int))=true:=dT (by omega)
theorem qY1 {k n:Nat} (h:n≤k):decide ((k:Int)<(n:Int))=false:=dF (by omega)
def qLN {R V:Type} (o:Except R V) (k:V→Option R):Option R:=match o with|.error r=>some r|.ok v=>k v
def qJm {R V W:Type} (o:Except R V) (k:V→Option (Except R W)):Option (Except R W):=match o with|.error r=>some (.error r)|.ok v=>k v
theorem zK {k n:Nat} (h:k<n) (hn:n≤qEO):inI .i64 ((k:Int)+1):=qUh (by unfold qEO at hn;omega)
section
variable {P:Program} {te:TE} (T:qGk P te) {σ:St} {o:Oper}
include T
theorem zL {t e:Nat} {s b z} {x:Operand} {α:Type} {l:List α} {f:α→List D} (ho:o.op=.call { callee:=.builtin .len,args:=#[x],argTypes:=#[t] }) (ht:te t=some ⟨.slice e,s,b,z⟩) (hx:σ.ev x=some (.s (l.map f))) :
  OpV P σ o (.v (.int .i64 l.length)):=by
 have:=qL0 T (σ:=σ) (o:=o) (d:=.v (.int .i64 ((l.map f).length))) (by rw[ho];simp only[qLd,St.evr,hx,Option.map_some,St.res,qYF,ht])
 rwa [List.length_map]at this
theorem zX {t e:Nat} {s b z} {ti:TI} {x i:Operand} {k:IntKind} {n:Int} {α:Type} {l:List α} {f:α→List D} {y:α} (ho:o.op=.indexAddr t x i) (ht:te t=some ⟨.slice e,s,b,z⟩) (hte:te e=some ti)
  (hx:σ.ev x=some (.s (l.map f))) (hi:σ.ev i=some (.v (.int k n))) (hg:qAV l n=some y) (hsz:(f y).length=ti.size):OpV P σ o (.q (f y)) :=
 qWx T ho ht hte hx hi (qQH hg) (qVs hg) hsz
theorem qEJ {t e:Nat} {s b z} {ti:TI} {x y:Operand} {k:IntKind} {n:Int} {α:Type} {l r:List α} {f:α→List D} (ho:o.op=.slice t x none (some y) none) (ht:te t=some ⟨.slice e,s,b,z⟩) (hte:te e=some ti)
  (hx:σ.ev x=some (.s (l.map f))) (hy:σ.ev y=some (.v (.int k n))) (hr:qFj l n=some r) (hsz:∀y,(f y).length=ti.size):OpV P σ o (.s (r.map f)):=by
 unfold qFj at hr
 split at hr
 ·rename_i h;cases hr
  have:=qRn T ho ht hte hx hy h.1 (by simp;omega) (by intro a ha;obtain⟨y,_,rfl⟩:=List.mem_map.1 ha;exact hsz y)
  rwa [←List.map_take]at this
 ·cases hr
theorem qDS {t e:Nat} {s b z} {ti:TI} {x y:Operand} {k:IntKind} {n:Int} {α:Type} {l r:List α} {f:α→List D} (ho:o.op=.slice t x (some y) none none) (ht:te t=some ⟨.slice e,s,b,z⟩) (hte:te e=some ti)
  (hx:σ.ev x=some (.s (l.map f))) (hy:σ.ev y=some (.v (.int k n))) (hr:qC7 l n=some r) (hsz:∀y,(f y).length=ti.size):OpV P σ o (.s (r.map f)):=by
 unfold qC7 at hr
 split at hr
 ·rename_i h;cases hr
  have:=qRR T ho ht hte hx hy h.1 (by simp;omega) (by intro a ha;obtain⟨y,_,rfl⟩:=List.mem_map.1 ha;exact hsz y)
  rwa [←List.map_drop]at this
 ·cases hr
omit T in
theorem qQw {x:Operand} {id sz:Nat} {α:Type} {l:List α} {f:α→List D} (hx:σ.ev x=some (.R id)) (hg:get σ.h id=some (.row sz (l.map f))):σ.evr x=some (.r id 0 l.length):=by
 simp only[St.evr,hx,Option.map_some,St.res,hg,List.length_map]
theorem qJk {t e:Nat} {s b z} {x:Operand} {id sz:Nat} {α:Type} {l:List α} {f:α→List D} (ho:o.op=.call { callee:=.builtin .len,args:=#[x],argTypes:=#[t] }) (ht:te t=some ⟨.slice e,s,b,z⟩) (hx:σ.ev x=some (.R id)) (hg:get σ.h id=some (.row sz (l.map f))) :
  OpV P σ o (.v (.int .i64 l.length)) :=
 qL0 T (σ:=σ) (o:=o) (d:=.v (.int .i64 l.length)) (by rw[ho];simp only[qLd,qQw hx hg,qYF,ht])
theorem zXr {t e:Nat} {s b z} {ti:TI} {x i:Operand} {k:IntKind} {n:Int} {id:Nat} {α:Type} {l:List α} {f:α→List D} {y:α} (ho:o.op=.indexAddr t x i) (ht:te t=some ⟨.slice e,s,b,z⟩) (hte:te e=some ti)
  (hx:σ.ev x=some (.R id)) (hi:σ.ev i=some (.v (.int k n))) (hg:get σ.h id=some (.row ti.size (l.map f))) (hn:qAV l n=some y):OpV P σ o (.e id n.toNat 0) :=
 qVr T ho ht hte (qQw hx hg) hi hg (qQH hn) (qRc hn)
theorem zLr {t:Nat} {ti:TI} {x:Operand} {id i k sz:Nat} {α:Type} {l:List α} {f:α→List D} {y:α} {d:D} (ho:o.op=.load t x) (ht:te t=some ti) (hx:σ.ev x=some (.e id i k))
  (hg:get σ.h id=some (.row sz (l.map f))) (hc:l[i]?=some y) (hk:Nat.ble (k+ti.size) sz=true) (hv:(((f y).drop k).take ti.size).all D.isVS=true) (hr:qLh ti (((f y).drop k).take ti.size)=some d):OpV P σ o d :=
 qUY T ho ht hx hg (by rw[List.getElem?_map,hc];rfl) hk hv hr
theorem zSr {t:Nat} {ti:TI} {x y:Operand} {id i k sz:Nat} {α:Type} {l:List α} {f:α→List D} {u u':α} {vs:List D} {d:D} (ho:o.op=.store t x y) (ht:te t=some ti) (hx:σ.ev x=some (.e id i k)) (hy:σ.ev y=some d)
  (hg:get σ.h id=some (.row sz (l.map f))) (hc:l[i]?=some u) (hv:d.cells?=some vs) (hpl:vs.all D.plain=true) (hsz:vs.length=ti.size) (hk':Nat.ble (k+vs.length) sz=true) (hu:qAR (f u) k vs=f u') (hdst:o.dst=none) :
  qJX P σ o { σ with h:=(id,.row sz ((l.set i u').map f))::σ.h }:=by
 have:=qSl T ho ht hx hy hg (by rw[List.getElem?_map,hc];rfl) hv hpl hsz hk' hdst
 rwa [hu,←List.map_set]at this
section
variable {x y:Operand} {t tx e e2:Nat} {s s2:Nat} {b b2:Nat} {z z2:Option Value} {ti:TI} {zv:Value}
theorem qP2 {id:Nat} {α:Type} {l m:List α} {f:α→List D} (ho:o.op=.call { callee:=.builtin .append,args:=#[x,y],argTypes:=#[t,tx] }) (id':Nat)
  (ht:te t=some ⟨.slice e,s,b,z⟩) (htx:te tx=some ⟨.slice e2,s2,b2,z2⟩) (hte:te e=some ti) (hz0:ti.zero=some zv) (hzs:zv.cells.size=ti.size) (hpos:0<ti.size) (hB:0<ti.bytes)
  (hx:σ.ev x=some (.R id)) (hg:get σ.h id=some (.row ti.size (l.map f))) (hy:σ.ev y=some (.s (m.map f))) (hys:∀y,(f y).length=ti.size)
  (hfit:qAh ti.bytes (l.length+m.length)=true) (hid:get σ.h id'=none) (hd:qBI σ o=true) :
  qJX P σ o (St.put { σ with h:=(id',.row ti.size ((l++m).map f))::qEN [id] σ.h } o.dst (.R id')):=by
 have:=qT6 T ho id' ht htx hte hz0 hzs hpos (qQw hx hg) hg (by simp) hy (ys:=m.map f) rfl (by intro a ha;obtain⟨y,_,rfl⟩:=List.mem_map.1 ha;exact hys y) (m:=m.length) (by simp) (qLR hfit hB) (qL1 hfit) hid hd
 rw[List.drop_zero,List.take_of_length_le (by simp),←List.map_append]at this
 exact this
theorem qE2 {id id2:Nat} {α:Type} {l m:List α} {f:α→List D} (ho:o.op=.call { callee:=.builtin .append,args:=#[x,y],argTypes:=#[t,tx] }) (id':Nat)
  (ht:te t=some ⟨.slice e,s,b,z⟩) (htx:te tx=some ⟨.slice e2,s2,b2,z2⟩) (hte:te e=some ti) (hz0:ti.zero=some zv) (hzs:zv.cells.size=ti.size) (hB:0<ti.bytes)
  (hx:σ.ev x=some (.R id)) (hg:get σ.h id=some (.row ti.size (l.map f))) (hy:σ.ev y=some (.R id2)) (hg2:get σ.h id2=some (.row ti.size (m.map f))) (hne:Nat.beq id id2=false)
  (hfit:qAh ti.bytes (l.length+m.length)=true) (hid:get σ.h id'=none) (hd:qBI σ o=true) :
  qJX P σ o (St.put { σ with h:=(id',.row ti.size ((l++m).map f))::qEN [id,id2] σ.h } o.dst (.R id')):=by
 have:=qTe T ho id' ht htx hte hz0 hzs (qQw hx hg) hg (by simp) (qQw hy hg2) hg2 (by simp) hne (qLR hfit hB) (qL1 hfit) hid hd
 rw[List.drop_zero,List.drop_zero,List.take_of_length_le (by simp),List.take_of_length_le (by simp),←List.map_append]at this
 exact this
theorem qLK {k:Nat} {α:Type} {m:List α} {f:α→List D} (ho:o.op=.call { callee:=.builtin .append,args:=#[x,y],argTypes:=#[t,tx] }) (id':Nat)
  (ht:te t=some ⟨.slice e,s,b,z⟩) (htx:te tx=some ⟨.slice e2,s2,b2,z2⟩) (hte:te e=some ti) (hz0:ti.zero=some zv) (hzs:zv.cells.size=ti.size) (hpos:0<ti.size) (hB:0<ti.bytes)
  (hx:σ.ev x=some (.w k [])) (hy:σ.ev y=some (.s (m.map f))) (hys:∀y,(f y).length=ti.size)
  (hfit:qAh ti.bytes m.length=true) (hid:get σ.h id'=none) (hd:qBI σ o=true) :
  qJX P σ o (St.put { σ with h:=(id',.row ti.size (m.map f))::σ.h } o.dst (.R id')) :=
 qTf T ho id' ht htx hte hz0 hzs hpos hx hy (ys:=m.map f) rfl (by intro a ha;obtain⟨y,_,rfl⟩:=List.mem_map.1 ha;exact hys y) (by simp) (qLR hfit hB) (qL1 hfit) hid hd
theorem qL4 {k k':IntKind} {n:Int} {α:Type} {f:α→List D} {zo:α} (ho:o.op=.makeSlice t x y) (id:Nat) (ht:te t=some ⟨.slice e,s,b,z⟩) (hte:te e=some ti) (hz:ti.zero=some zv)
  (hone:zv.cells.toList.all (·.oneCell')=true) (hzs:zv.cells.size=ti.size) (hzl:ZL zv.cells.toList (f zo)) (hB:0<ti.bytes) (hx:σ.ev x=some (.v (.int k n))) (hy:σ.ev y=some (.v (.int k' n)))
  (hn:decide (0≤n)=true) (hfit:qAh ti.bytes n.toNat=true)
  (hid:get σ.h id=none) (hd:qBI σ o=true):qJX P σ o (St.put { σ with h:=(id,.row ti.size ((List.replicate n.toNat zo).map f))::σ.h } o.dst (.R id)):=by
 have hn:=of_decide_eq_true hn
 have h1:=qL1 hfit
 have h2:=qLR hfit hB
 have h3:(n.toNat:Int)=n:=Int.toNat_of_nonneg hn
 have:=qTt T ho id ht hte hz hone hzs hzl hx hy hn (by
  have:ti.bytes*n.toNat≤281474976710656:=by
   rw[Nat.mul_assoc]at h1
   have:n.toNat*ti.bytes≤2*(n.toNat*ti.bytes):=by omega
   rw[Nat.mul_comm];omega
  have h4:((ti.bytes*n.toNat:Nat):Int)≤((281474976710656:Nat):Int):=Int.ofNat_le.2 this
  rw[←h3,←Int.natCast_mul];exact h4) (by unfold qEO at h2;omega) hid hd
 rw[←List.map_replicate]at this
 exact this
theorem qQq {len:Nat} {parts:Array (Nat×Operand)} {ps:List (Nat×D)} {α:Type} {f:α→List D} {l:List α} (ho:o.op=.buildSlice t len parts) (id:Nat) (ht:te t=some ⟨.slice e,s,b,z⟩) (hte:te e=some ti) (hz:ti.zero=some zv)
  (hev:qLz σ parts.toList=some ps) (hen:qIa 0 ps=true) (hcs:qEw ps=some (l.map f)) (hlen:l.length=len) (hsz:∀y,(f y).length=ti.size) (hpl:((l.map f).flatten).all D.plain=true) (hsmall:Nat.ble (len*ti.size) 16777216=true) (hsmall':Nat.ble len 16777216=true)
  (hid:get σ.h id=none) (hd:qBI σ o=true):qJX P σ o (St.put { σ with h:=(id,.row ti.size (l.map f))::σ.h } o.dst (.R id)):=by
 have:=qYs T ho id ht hte hz hev hen hcs (by rw[List.length_map,hlen];exact Nat.beq_refl _) (by intro x hx;obtain⟨y,_,rfl⟩:=List.mem_map.1 hx;exact hsz y) hpl hsmall hsmall' hid hd
 exact this
end
end
end Go.AM
end
section
namespace Go.AM
theorem qJR {a b:Bool} (h:a=true) (k:b=true):(a&&b)=true:=by rw[h,k];rfl
theorem qMw {α:Type} {p:α→Bool} {a:α} {l:List α} (h:p a=true) (k:l.all p=true):(a::l).all p=true:=by rw[List.all_cons,h,k];rfl
theorem qWN {α:Type} {p:α→Bool}:([]:List α).all p=true:=rfl
theorem qSh {a b:Nat} {d:D} (h:d.cfree=true):d.renC a b=d:=by cases d<;>first|rfl|(simp[D.cfree]at h;done)
theorem qQg {hp:List (Nat×Root)} {d:D} (h:d.cfree=true):d.knownC hp=true:=by cases d<;>first|rfl|(simp[D.cfree]at h;done)
theorem qP5 {a b fn:Nat} {caps:List D} (h:caps.all D.cfree=true):(D.f fn caps).ren a b=.f fn caps:=by
 show D.f fn (caps.map (D.renC a b))=.f fn caps
 congr 1
 refine(List.map_congr_left fun d hd=>?_).trans (List.map_id _)
 exact qSh (List.all_eq_true.1 h d hd)
theorem qLH {hp:List (Nat×Root)} {fn:Nat} {caps:List D} (h:caps.all D.cfree=true):(D.f fn caps).known hp=true:=by
 show caps.all (D.knownC hp)=true
 exact List.all_eq_true.2 fun d hd=>qQg (List.all_eq_true.1 h d hd)
theorem qNT {caps:List D} (h:caps.all D.cfree=true):caps.all D.free=true:=List.all_eq_true.2 fun d hd=>by
 have:=List.all_eq_true.1 h d hd
 cases d<;>first|rfl|exact this|(simp[D.cfree]at this;done)
theorem neZ {b:Int} (h:(b != 0)=true):b≠0:=by simpa using h
def qNk (s:ByteArray) (i:Int):Option UInt8:=if 0≤i then s[i.toNat]? else none
section
variable {P:Program} {σ:St} {o:Oper}
theorem qOm {t:Nat} {x:Operand} {k:IntKind} {a:Int} (ho:o.op=.unOp .neg t x) (hx:σ.ev x=some (.v (.int k a))):OpV P σ o (.v (.int k (k.wrap (-a)))):=by
 refine OpV.of_val fun E a' w Z loc fps R=>?_
 have h1:=R.ev hx
 generalize hax:a'.eval x=vx at h1
 cases h1
 exact⟨_,by simp[execOp,ho,hax,Op.unary,Op.intArith],.v⟩
theorem qHQ {t u:Nat} {x y:Operand} {k:IntKind} {a b:Int} (ho:o.op=.binOp .quo t x y u) (hx:σ.ev x=some (.v (.int k a))) (hy:σ.ev y=some (.v (.int k b)))
  (hb:b≠0):OpV P σ o (.v (.int k (k.wrap (a.tdiv b)))):=by
 refine OpV.of_val fun E a' w Z loc fps R=>?_
 have h1:=R.ev hx;have h2:=R.ev hy
 generalize hax:a'.eval x=vx at h1
 generalize hay:a'.eval y=vy at h2
 cases h1;cases h2
 exact⟨_,by simp[execOp,ho,hax,hay,eqGuard_at_int,binOp_quo,binOp_rem,Op.intDiv,hb],.v⟩
end
section
variable {P:Program} {te:TE} (T:qGk P te) {σ:St} {o:Oper}
include T
theorem qOQ {s t:Nat} {x:Operand} {k k':IntKind} {a:Int} {s1 b1 z1} {ti:TI} (ho:o.op=.convert s t x) (hs:te s=some ti) (ht:te t=some ⟨.int k',s1,b1,z1⟩) (hx:σ.ev x=some (.v (.int k a))):OpV P σ o (.v (.int k' (k'.wrap a))):=by
 refine OpV.of_val fun E a' w Z loc fps R=>?_
 have h1:=R.ev hx
 generalize hax:a'.eval x=vx at h1
 cases h1
 obtain⟨i,d,_,h2,_⟩:=qF1 T hs
 have hu:=qQI T ht
 refine⟨_,?_,.v⟩
 simp[execOp,ho,hax,convert,run_underlying hu,run_underlying h2,Conv.intToInt]
theorem qBL {t:Nat} {s b z} {x i:Operand} {k:IntKind} {n:Int} {str:ByteArray} {c:UInt8} (ho:o.op=.index t x i) (ht:te t=some ⟨.str,s,b,z⟩)
  (hx:σ.ev x=some (.v (.string str))) (hi:σ.ev i=some (.v (.int k n))) (hc:qNk str n=some c):OpV P σ o (.v (.int .u8 c.toNat)):=by
 unfold qNk at hc
 split at hc
 ·exact qT5 T ho ht hx hi ‹_› hc
 ·cases hc
end
theorem qXG {w Z loc fp v} {α:Type} {l:List α} {f:α→List D} (h:AR w Z loc fp (.s (l.map f)) v):l.length≤qEO:=by
 have key:∀d,AR w Z loc fp d v→d=.s (l.map f)→l.length≤qEO:=by
  intro d h hd
  cases h<;>simp only[D.s.injEq,reduceCtorEq]at hd
  ·have:=congrArg List.length hd
   simp at this;omega
  ·rename_i h5 h6 _
   have:=congrArg List.length hd
   simp at this;omega
 exact key _ h rfl
theorem AW.boundBox {P:Program} {c:Code} {Q:Exit→St→Prop} {σ:St} {id j:Nat} {ds:List D} {α:Type} {l:List α} {f:α→List D} (hb:get σ.h id=some (.box ds)) (hj:ds[j]?=some (.s (l.map f))) (h:l.length≤qEO→AW P c Q σ):AW P c Q σ:=by
 rintro E a w ⟨Z,loc,fps,R⟩
 obtain⟨L,_,_,_,arr,el,_,h4⟩:=R.roots id _ ⟨hb,by simp⟩
 obtain⟨v,_,_,hv⟩:=h4.get0 hj
 exact h (qXG hv) E a w ⟨Z,loc,fps,R⟩
inductive LendL (σ:St):List D→List D→Prop
 |nil:LendL σ [] []
 |cons {d e ds es}:Lend σ d e→LendL σ ds es→LendL σ (d::ds) (e::es)
theorem LendL.spec {σ:St} {ds es:List D} (h:LendL σ ds es):ds.length=es.length∧∀(i:Nat) (d d':D),ds[i]?=some d→es[i]?=some d'→Lend σ d d':=by
 induction h with
 |nil=>exact⟨rfl,by simp⟩
 |cons h1 h2 ih =>
  refine⟨by simp[ih.1],fun i d d' e1 e2=>?_⟩
  cases i with
  |zero=>simp at e1 e2;subst e1 e2;exact h1
  |succ i=>exact ih.2 i d d' (by simpa using e1) (by simpa using e2)
theorem qIK {σ:St} {ds es:List D} (h:LendL σ ds es):Lend σ (.g ds) (.g es):=.g h.spec.1 h.spec.2
theorem qYJ {σ:St} {fn:Nat} {ds es:List D} (h:LendL σ ds es):Lend σ (.f fn ds) (.f fn es):=.f h.spec.1 h.spec.2
inductive ZFL:List D→Prop
 |nil:ZFL []
 |cons {d ds}:d.zfree→ZFL ds→ZFL (d::ds)
theorem zfl {ds:List D} (h:ZFL ds):∀d∈ds,d.zfree:=by
 induction h with
 |nil=>simp
 |cons h1 _ ih=>intro d hd;rcases List.mem_cons.1 hd with rfl|hd;exact h1;exact ih d hd
theorem qHz {sz:Nat} {α:Type} {l:List α} {f:α→List D} (h:∀y,ZFL (f y)):D.zfree (.w sz (l.map f)):=qW0 fun x hx d hd=>by
 obtain⟨y,_,rfl⟩:=List.mem_map.1 hx;exact zfl (h y) d hd
theorem qHa {τ σ:St} (h1:∀t d,get τ.t t=some d→get σ.t t=some d) {x:Operand} {d:D} (hx:τ.ev x=some d):σ.ev x=some d:=by
 cases x with
 |tmp t=>exact h1 t d hx
 |const v=>exact hx
 |func f=>exact hx
 |global g=>exact hx
theorem qND {τ σ:St} (h1:∀t d,get τ.t t=some d→get σ.t t=some d):∀{l:List (Nat×Operand)} {r},qLz τ l=some r→qLz σ l=some r
 | [],r,h=>h
 | (i,x)::l,r,h=>by
  simp only[qLz]at h⊢
  cases hx:τ.ev x with
  |none=>simp[hx]at h
  |some d =>
   cases hl:qLz τ l with
   |none=>simp[hx,hl]at h
   |some r' =>
    rw[qHa h1 hx,qND h1 hl]
    simpa [hx,hl]using h
theorem FStep.mk {P:Program} {ops:Array Oper} {τ:St} {o:Oper} {te:TE} (T:qGk P te) {t e s b:Nat} {z:Option Value} {ti:TI} {zv:Value} {len k:Nat} {parts:Array (Nat×Operand)} {ps:List (Nat×D)} {α:Type} {f:α→List D} {l:List α} (ho:o.op=.buildSlice t len parts) (hw:τ.wants ops o=some true) (ht:te t=some ⟨.slice e,s,b,z⟩) (hte:te e=some ti) (hz:ti.zero=some zv)
  (hev:qLz τ parts.toList=some ps) (hen:qIa 0 ps=true) (hcs:qEw ps=some (l.map f)) (hlen:l.length=len) (hsz:∀y,(f y).length=ti.size) (hpl:((l.map f).flatten).all D.plain=true) (hsmall:Nat.ble (len*ti.size) 16777216=true) (hsmall':Nat.ble len 16777216=true)
  (hd:qBI τ o=true):FStep P ops τ o (.R k) [(k,.row ti.size (l.map f))] k (k+1):=by
 rintro E σ a w h1 h2 h3 hfr ⟨Z,loc,fps,R⟩
 have RV:=R.toOnly h1 h2 h3
 unfold qJI
 rw[if_pos (RV.wants hw)]
 exact qQq T ho k ht hte hz (qND h1 hev) hen hcs hlen hsz hpl hsmall hsmall' (hfr k (Nat.le_refl _) (Nat.lt_succ_self _)) (by unfold qBI at hd⊢;rw[h3];exact hd) E a w ⟨Z,loc,fps,R⟩
theorem FStep.mk0 {P:Program} {ops:Array Oper} {τ:St} {o:Oper} {te:TE} (T:qGk P te) {t e s b k:Nat} {z:Option Value} {ti:TI} (ho:o.op=.buildSlice t 0 #[]) (hw:τ.wants ops o=some true) (ht:te t=some ⟨.slice e,s,b,z⟩) (hte:te e=some ti) (hd:qBI τ o=true):FStep P ops τ o (.w ti.size []) [] k k:=by
 rintro E σ a w h1 h2 h3 hfr ⟨Z,loc,fps,R⟩
 have RV:=R.toOnly h1 h2 h3
 unfold qJI
 rw[if_pos (RV.wants hw)]
 exact qGG T ho ht hte (by unfold qBI at hd⊢;rw[h3];exact hd) E a w ⟨Z,loc,fps,R⟩
end Go.AM
end

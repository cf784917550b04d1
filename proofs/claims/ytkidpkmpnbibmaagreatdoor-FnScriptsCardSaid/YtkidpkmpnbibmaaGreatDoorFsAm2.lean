/- A part of my own walk library: how the model runs a function, told over abstract values. It states no law of the program; no condition. -/
import Derived.Test.YtkidpkmpnbibmaaGreatDoorFsAm1
import Derived.KernelRfl
set_option linter.unusedSimpArgs false
set_option linter.unusedVariables false
set_option linter.unusedSectionVars false
section
namespace Go.AM
theorem Rel.adopt {E σ a w Z loc fps} (R:Rel E σ a w Z loc fps) {id:Nat} (hid:get σ.h id=none) {ρ:Root} {L:Loc} {fp0:List Nat}
  (hfp:∀b∈fp0,¬Z b/\b<w.heap.size/\(E.w0.heap.size<=b\/b∈E.own)/\∀i ρ',σ.live i ρ'->b∉fps i) (hnd:fp0.Nodup) (hroot:RootRel w Z (qNE loc id L) fp0 L ρ) :
  Rel E { σ with h:=(id,ρ)::σ.h } a w Z (qNE loc id L) (qHN fps id fp0):=by
 have hlm:=qH3 (L:=L) (R.fresh id hid)
 have hlive:∀i ρ',St.live { σ with h:=(id,ρ)::σ.h } i ρ'->(i=id/\ρ'=ρ)\/(i≠id/\σ.live i ρ'):=by
  rintro i ρ' ⟨h1,h2⟩
  simp only[qAa]at h1
  split at h1
  ·cases h1;exact .inl ⟨‹_›,rfl⟩
  ·exact .inr ⟨‹_›,h1,h2⟩
 refine { R with temps:=?_,roots:=?_,nodup:=?_,disj:=?_,owned:=?_,fresh:=?_,pins:=fun i L' h=>hlm i L' (R.pins i L' h) }
 ·intro t d ht
  obtain⟨v,h1,h2⟩:=R.temps t d ht
  exact⟨v,h1,h2.mono (fun _ h=>h) hlm (fun _ _=>rfl)⟩
 ·intro i ρ' hl
  rcases hlive i ρ' hl with⟨rfl,rfl⟩|⟨h1,h2⟩
  ·exact⟨L,qCX _ _ _,by simpa [qHN]using hroot⟩
  ·obtain⟨L',h4,h5⟩:=R.roots i ρ' h2
   refine⟨L',hlm _ _ h4,?_⟩
   simp only[qHN,if_neg h1]
   exact h5.mono (fun _ h=>h) hlm (fun _ _=>rfl)
 ·intro i ρ' hl
  rcases hlive i ρ' hl with⟨rfl,rfl⟩|⟨h1,h2⟩
  ·simpa [qHN]using hnd
  ·simpa [qHN,h1]using R.nodup i ρ' h2
 ·intro i j ρ1 ρ2 b hi hj hbi hbj
  rcases hlive i ρ1 hi with⟨rfl,rfl⟩|⟨h1,h2⟩<;>rcases hlive j ρ2 hj with⟨rfl,rfl⟩|⟨h1',h2'⟩
  ·rfl
  ·simp only[qHN,if_neg h1',if_true]at hbi hbj
   exact absurd hbj ((hfp b hbi).2.2.2 j ρ2 h2')
  ·simp only[qHN,if_neg h1,if_true]at hbi hbj
   exact absurd hbi ((hfp b hbj).2.2.2 i ρ1 h2)
  ·simp only[qHN,if_neg h1,if_neg h1']at hbi hbj
   exact R.disj i j ρ1 ρ2 b h2 h2' hbi hbj
 ·intro i ρ' b hl hb
  rcases hlive i ρ' hl with⟨rfl,rfl⟩|⟨h1,h2⟩
  ·simp only[qHN,if_true]at hb
   obtain⟨g1,g2,g3,_⟩:=hfp b hb
   exact⟨g1,g2,g3⟩
  ·simp only[qHN,if_neg h1]at hb
   exact R.owned i ρ' b h2 hb
 ·intro i h
  simp only[qAa]at h
  split at h
  ·cases h
  ·simp only[qNE];rw[if_neg ‹_›];exact R.fresh i h
def Loose (E:Env) (σ:St) (w:World) (Z:Nat->Prop) (fps:Nat->List Nat) (fp:List Nat):Prop :=
 ∀b∈fp,¬Z b/\b<w.heap.size/\(E.w0.heap.size<=b\/b∈E.own)/\∀i ρ',σ.live i ρ'->b∉fps i
def Took (E:Env) (a:Act) (w:World) (Z:Nat->Prop) (σ:St) (loc:Nat->Option Loc) (fps:Nat->List Nat) (fp:List Nat) (σ':St) (loc':Nat->Option Loc) (fps':Nat->List Nat):Prop :=
 Rel E σ' a w Z loc' fps'/\(∀id L,loc id=some L->loc' id=some L)/\(∀i ρ b,σ'.live i ρ->b∈fps' i->(∃i ρ,σ.live i ρ/\b∈fps i)\/b∈fp)
def qNO (k:Nat):D->D×List (Nat×Root)×Nat
 |.w sz xs=>(.R k,[(k,.row sz xs)],k+1)
 |.pw cs=>(.p k 0,[(k,.box cs)],k+1)
 |.mw es=>(.m k,[(k,.map es)],k+1)
 |d=>(d,[],k)
def D.pwOk:D->Bool|.pw cs=>cs.all D.isVS|_=>true
def qDw (k:Nat):List D->List D×List (Nat×Root)×Nat
 | []=>([],[],k)
 |d::ds=>((qNO k d).1::(qDw (qNO k d).2.2 ds).1,(qDw (qNO k d).2.2 ds).2.1++(qNO k d).2.1,(qDw (qNO k d).2.2 ds).2.2)
def qPR (k:Nat):D->D×List (Nat×Root)×Nat
 |.g ds=>(.g (qDw k ds).1,(qDw k ds).2.1,(qDw k ds).2.2)
 |.pn cs=>(.p k 0,(k,.box (qDw (k+1) cs).1)::(qDw (k+1) cs).2.1,(qDw (k+1) cs).2.2)
 |d=>qNO k d
def qGA (k:Nat):List D->List D×List (Nat×Root)×Nat
 | []=>([],[],k)
 |d::ds=>((qPR k d).1::(qGA (qPR k d).2.2 ds).1,(qGA (qPR k d).2.2 ds).2.1++(qPR k d).2.1,(qGA (qPR k d).2.2 ds).2.2)
def qJn (k:Nat):D->D×List (Nat×Root)×Nat
 |.t ds=>(.t (qGA k ds).1,(qGA k ds).2.1,(qGA k ds).2.2)
 |d=>qPR k d
def St.freshFrom (σ:St) (k:Nat):Bool:=σ.h.all fun x=>Nat.blt x.1 k
theorem qJJ {h:List (Nat×Root)} {k:Nat} (hf:h.all (fun x=>Nat.blt x.1 k)=true):∀i,k<=i->get h i=none:=by
 induction h with
 |nil=>intro i _;rfl
 |cons x h ih =>
  intro i hi
  simp only[List.all_cons,Bool.and_eq_true,Nat.blt_eq]at hf
  obtain⟨n,ρ⟩:=x
  rw[qAa,if_neg (by simp at hf;omega)]
  exact ih hf.2 i hi
def St.freshIn (σ:St) (k k':Nat):Prop:=∀i,k<=i->i<k'->get σ.h i=none
theorem qMA {σ:St} {k:Nat} (h:σ.freshFrom k=true) (k':Nat):σ.freshIn k k':=fun i hi _=>qJJ h i hi
theorem qRk (k:Nat) (d:D):k<=(qNO k d).2.2:=by cases d<;>simp[qNO]
theorem qJx:∀(ds:List D) (k:Nat),k<=(qDw k ds).2.2
 | [],k=>Nat.le_refl _
 |d::ds,k=>Nat.le_trans (qRk k d) (qJx ds _)
theorem qRc (k:Nat) (d:D):k<=(qPR k d).2.2:=by
 by_cases h:∃ds,d=.g ds
 ·obtain⟨ds,rfl⟩:=h;exact qJx ds k
 ·by_cases h2:∃ds,d=.pn ds
  ·obtain⟨ds,rfl⟩:=h2;exact Nat.le_trans (Nat.le_succ k) (qJx ds (k+1))
  have e:qPR k d=qNO k d:=by cases d<;>first|rfl|exact absurd ⟨_,rfl⟩ h|exact absurd ⟨_,rfl⟩ h2
  rw[e];exact qRk k d
theorem qPU:∀(ds:List D) (k:Nat),k<=(qGA k ds).2.2
 | [],k=>Nat.le_refl _
 |d::ds,k=>Nat.le_trans (qRc k d) (qPU ds _)
theorem qDi (k:Nat) (d:D):k<=(qJn k d).2.2:=by
 by_cases h:∃ds,d=.t ds
 ·obtain⟨ds,rfl⟩:=h;exact qPU ds k
 ·have e:qJn k d=qPR k d:=by cases d<;>first|rfl|exact absurd ⟨_,rfl⟩ h
  rw[e];exact qRc k d
def qA1 (l:List (Nat×Root)) (k k':Nat):Prop:=∀x∈l,k<=x.1/\x.1<k'
theorem qKl {l:List (Nat×Root)} {k k':Nat} (h:qA1 l k k') {m:List (Nat×Root)} {i:Nat} (hi:¬(k<=i/\i<k')):get (l++m) i=get m i:=by
 induction l with
 |nil=>rfl
 |cons x l ih =>
  obtain⟨n,ρ⟩:=x
  have:=h (n,ρ) (by simp)
  rw[List.cons_append,qAa,if_neg (by simp at this;omega)]
  exact ih (fun y hy=>h y (by simp[hy]))
theorem qOS (k:Nat) (d:D):qA1 (qNO k d).2.1 k (qNO k d).2.2:=by cases d<;>simp[qNO,qA1]
theorem qIO:∀(ds:List D) (k:Nat),qA1 (qDw k ds).2.1 k (qDw k ds).2.2
 | [],k=>by simp[qDw,qA1]
 |d::ds,k=>by
  intro x hx
  have h1:=qRk k d;have h2:=qJx ds (qNO k d).2.2
  simp only[qDw]at hx⊢
  rcases List.mem_append.1 hx with hx|hx
  ·have:=qIO ds _ x hx;omega
  ·have:=qOS k d x hx;omega
theorem qNz (k:Nat) (d:D):qA1 (qPR k d).2.1 k (qPR k d).2.2:=by
 by_cases h:∃ds,d=.g ds
 ·obtain⟨ds,rfl⟩:=h;exact qIO ds k
 ·by_cases h2:∃ds,d=.pn ds
  ·obtain⟨ds,rfl⟩:=h2
   intro x hx
   have h1:=qJx ds (k+1)
   simp only[qPR]at hx⊢
   rcases List.mem_cons.1 hx with rfl|hx
   ·dsimp only;omega
   ·have:=qIO ds (k+1) x hx;omega
  have e:qPR k d=qNO k d:=by cases d<;>first|rfl|exact absurd ⟨_,rfl⟩ h|exact absurd ⟨_,rfl⟩ h2
  rw[e];exact qOS k d
theorem qPm:∀(ds:List D) (k:Nat),qA1 (qGA k ds).2.1 k (qGA k ds).2.2
 | [],k=>by simp[qGA,qA1]
 |d::ds,k=>by
  intro x hx
  have h1:=qRc k d;have h2:=qPU ds (qPR k d).2.2
  simp only[qGA]at hx⊢
  rcases List.mem_append.1 hx with hx|hx
  ·have:=qPm ds _ x hx;omega
  ·have:=qNz k d x hx;omega
theorem qBD (k:Nat) (d:D):qA1 (qJn k d).2.1 k (qJn k d).2.2:=by
 by_cases h:∃ds,d=.t ds
 ·obtain⟨ds,rfl⟩:=h;exact qPm ds k
 ·have e:qJn k d=qPR k d:=by cases d<;>first|rfl|exact absurd ⟨_,rfl⟩ h
  rw[e];exact qNz k d
section
variable {E:Env} {a:Act} {w:World} {Z:Nat->Prop}
theorem qVt {σ loc fps} (R:Rel E σ a w Z loc fps) {k:Nat} {d:D} (hk:σ.freshIn k (qNO k d).2.2) {v:Value} {fp:List Nat} (hpw:d.pwOk=true) (h:AR w Z loc fp d v) (hnd:fp.Nodup) (hL:Loose E σ w Z fps fp) :
  ∃loc' fps',Took E a w Z σ loc fps fp { σ with h:=(qNO k d).2.1++σ.h } loc' fps'/\((∃n xs,d=.w n xs)\/(∃cs,d=.pw cs)\/(∃es,d=.mw es)\/fp=[]->AR w Z loc' [] (qNO k d).1 v):=by
 by_cases hw:∃sz xs,d=.w sz xs
 ·obtain⟨sz,xs,rfl⟩:=hw
  have hid:get σ.h k=none:=hk k (Nat.le_refl _) (by simp[qNO])
  cases h with
  |w0 =>
   have R':=R.adopt hid (ρ:=.row sz []) (L:=⟨0,0,sz,0,0⟩) (fp0:=[]) (by simp) (by simp) ⟨rfl,by simp,by simp,by simp,.inl ⟨rfl,rfl⟩⟩
   refine⟨_,_,⟨R',qH3 (R.fresh k hid),?_⟩,fun _=>AR.R (L:=⟨0,0,sz,0,0⟩) (qCX _ _ _) (Nat.le_refl _) (by simp) (.inl rfl)⟩
   rintro i ρ b ⟨h1,h2⟩ hb
   simp only[qNO,List.cons_append,List.nil_append,qAa]at h1
   split at h1
   ·rename_i e;subst e;simp[qHN]at hb
   ·rename_i e;simp only[qHN,if_neg e]at hb;exact .inl ⟨i,ρ,⟨h1,h2⟩,hb⟩
  | @w _ fpN _ b off _ arr el cap g1 g2 g3 g4 g5 g6 =>
   have R':=R.adopt hid (ρ:=.row sz xs) (L:=⟨b,off,sz,cap,xs.length⟩) (fp0:=b::fpN) hL hnd ⟨rfl,g2,⟨g3,rfl⟩,g4,.inr ⟨fpN,arr,el,rfl,g1,g5,g6⟩⟩
   refine⟨_,_,⟨R',qH3 (R.fresh k hid),?_⟩,fun _=>AR.R (L:=⟨b,off,sz,cap,xs.length⟩) (qCX _ _ _) g3 g4 (.inr rfl)⟩
   rintro i ρ c ⟨h1,h2⟩ hb
   simp only[qNO,List.cons_append,List.nil_append,qAa]at h1
   split at h1
   ·rename_i e;subst e;simp only[qHN,if_true]at hb;exact .inr hb
   ·rename_i e;simp only[qHN,if_neg e]at hb;exact .inl ⟨i,ρ,⟨h1,h2⟩,hb⟩
 ·by_cases hp:∃cs,d=.pw cs
  ·obtain⟨cs,rfl⟩:=hp
   have hid:get σ.h k=none:=hk k (Nat.le_refl _) (by simp[qNO])
   cases h with
   | @pw _ fpN _ b arr el g1 g2 =>
    have hpw':cs.all D.isVS=true:=hpw
    have g3:=g2.allVS hpw'
    have hfN:fpN=[]:=by
     have:∀{ds:List D} {vs:List Value} {fp:List Nat},ARL w Z qAi fp ds vs->ds.all D.isVS=true->fp=[]:=by
      intro ds
      induction ds with
      |nil=>intro vs fp h _;cases h;rfl
      |cons d ds ih =>
       intro vs fp h hv
       simp only[List.all_cons,Bool.and_eq_true]at hv
       cases h with|cons _ h1 h2=>rw[(h1.vs_fp hv.1).2,ih h2 hv.2];rfl
     exact this g2 hpw'
    subst hfN
    have R':=R.adopt hid (ρ:=.box cs) (L:=⟨b,0,0,0,0⟩) (fp0:=[b]) hL hnd ⟨rfl,rfl,arr,el,g1,g3.mono (fun _ h=>h) (fun _ _ h=>by simp[qAi]at h) (fun _ _=>rfl)⟩
    refine⟨_,_,⟨R',qH3 (R.fresh k hid),?_⟩,fun _=>AR.p (L:=⟨b,0,0,0,0⟩) (off:=0) (qCX _ _ _)⟩
    rintro i ρ c ⟨h1,h2⟩ hb
    simp only[qNO,List.cons_append,List.nil_append,qAa]at h1
    split at h1
    ·rename_i e;subst e;simp only[qHN,if_true]at hb;exact .inr hb
    ·rename_i e;simp only[qHN,if_neg e]at hb;exact .inl ⟨i,ρ,⟨h1,h2⟩,hb⟩
  ·by_cases hm:∃es,d=.mw es
   ·obtain⟨es,rfl⟩:=hm
    have hid:get σ.h k=none:=hk k (Nat.le_refl _) (by simp[qNO])
    cases h with
    | @mw _ _ b en cl g1 g2 =>
     have R':=R.adopt hid (ρ:=.map es) (L:=⟨b,0,0,0,0⟩) (fp0:=[b]) hL hnd ⟨rfl,rfl,en,cl,g1,g2⟩
     refine⟨_,_,⟨R',qH3 (R.fresh k hid),?_⟩,fun _=>AR.m (L:=⟨b,0,0,0,0⟩) (qCX _ _ _)⟩
     rintro i ρ c ⟨h1,h2⟩ hb
     simp only[qNO,List.cons_append,List.nil_append,qAa]at h1
     split at h1
     ·rename_i e;subst e;simp only[qHN,if_true]at hb;exact .inr hb
     ·rename_i e;simp only[qHN,if_neg e]at hb;exact .inl ⟨i,ρ,⟨h1,h2⟩,hb⟩
   ·have e:qNO k d=(d,[],k):=by cases d<;>first|rfl|exact absurd ⟨_,_,rfl⟩ hw|exact absurd ⟨_,rfl⟩ hp|exact absurd ⟨_,rfl⟩ hm
    rw[e]
    exact⟨loc,fps,⟨R,fun _ _ h=>h,fun i ρ b hl hb=>.inl ⟨i,ρ,hl,hb⟩⟩,fun hc=>by
     rcases hc with hc|hc|hc|rfl
     ·exact absurd hc hw
     ·exact absurd hc hp
     ·exact absurd hc hm
     ·exact h⟩
def D.capOk:D->Bool|.v _=>true|.s _=>true|.q _=>true|_=>false
def D.cellOk:D->Bool|.v _=>true|.s _=>true|.q _=>true|.w _ _=>true|.pw cs=>cs.all D.isVS|.mw _=>true|.u=>true|.f _ caps=>caps.all D.capOk|_=>false
theorem qSK {d:D} (h:d.cellOk=true):d.pwOk=true:=by cases d<;>first|rfl|exact h
def D.gOk:D->Bool|.g ds=>ds.all D.cellOk|.pn ds=>ds.all D.cellOk|d=>d.cellOk
def D.tOk:D->Bool|.t ds=>ds.all D.gOk|d=>d.gOk
theorem qaD {loc fp ds vs} (r:ARL w Z loc fp ds vs) (h:ds.all D.capOk=true):fp=[]:=by
 induction ds generalizing fp vs with
 |nil=>cases r;rfl
 |cons d ds ih =>
  simp only[List.all_cons,Bool.and_eq_true]at h
  cases r with
  |cons h0 h1 h2 =>
   rw[ih h2 h.2]
   have:∀{fp v},AR w Z loc fp d v->fp=[]:=by
    intro fp v r
    have hd:=h.1
    cases r with
    |_=>first|rfl|(simp[D.capOk]at hd;done)
   rw[this h1];rfl
theorem qSd {loc fp d v} (h:d.cellOk=true) (r:AR w Z loc fp d v):(∃n xs,d=.w n xs)\/(∃cs,d=.pw cs)\/(∃es,d=.mw es)\/fp=[]:=by
 cases r with
 |f h1=>exact .inr (.inr (.inr (qaD h1 h)))
 |pw=>exact .inr (.inl ⟨_,rfl⟩)
 |mw=>exact .inr (.inr (.inl ⟨_,rfl⟩))
 |w=>exact .inl ⟨_,_,rfl⟩
 |_=>first|exact .inr (.inr (.inr rfl))|(simp[D.cellOk]at h;done)
theorem Took.trans {σ σ1 σ2:St} {loc loc1 loc2 fps fps1 fps2} {fp1 fp2:List Nat} (h1:Took E a w Z σ loc fps fp1 σ1 loc1 fps1) (h2:Took E a w Z σ1 loc1 fps1 fp2 σ2 loc2 fps2):Took E a w Z σ loc fps (fp1++fp2) σ2 loc2 fps2:=by
 refine⟨h2.1,fun id L h=>h2.2.1 _ _ (h1.2.1 _ _ h),fun i ρ b hl hb=>?_⟩
 rcases h2.2.2 i ρ b hl hb with⟨j,ρ',hj,hb'⟩|hb'
 ·rcases h1.2.2 j ρ' b hj hb' with h|h
  ·exact .inl h
  ·exact .inr (List.mem_append_left _ h)
 ·exact .inr (List.mem_append_right _ hb')
theorem Loose.rest {σ σ1:St} {loc loc1 fps fps1} {fp1 fp2:List Nat} (hL:Loose E σ w Z fps (fp1++fp2)) (hnd:(fp1++fp2).Nodup) (h1:Took E a w Z σ loc fps fp1 σ1 loc1 fps1):Loose E σ1 w Z fps1 fp2:=by
 intro b hb
 obtain⟨g1,g2,g3,g4⟩:=hL b (List.mem_append_right _ hb)
 refine⟨g1,g2,g3,fun i ρ hl hbi=>?_⟩
 rcases h1.2.2 i ρ b hl hbi with⟨j,ρ',hj,hb'⟩|hb'
 ·exact g4 j ρ' hj hb'
 ·exact(List.nodup_append.1 hnd).2.2 b hb' b hb rfl
theorem qQH {σ:St} {k k1 k2:Nat} {l:List (Nat×Root)} (hn:qA1 l k k1) (h:σ.freshIn k k2) (h1:k<=k1) (h2:k1<=k2):St.freshIn { σ with h:=l++σ.h } k1 k2:=by
 intro i hi hi2
 show get (l++σ.h) i=none
 rw[qKl hn (by omega)]
 exact h i (by omega) hi2
theorem qRX:∀{ds:List D} {σ loc fps} (R:Rel E σ a w Z loc fps) {k:Nat} (hk:σ.freshIn k (qDw k ds).2.2) {vs:List Value} {fp:List Nat} (h:ARL w Z loc fp ds vs) (hnd:fp.Nodup) (hL:Loose E σ w Z fps fp) (hok:ds.all D.cellOk=true),
  ∃loc' fps',Took E a w Z σ loc fps fp { σ with h:=(qDw k ds).2.1++σ.h } loc' fps'/\ARL w Z loc' [] (qDw k ds).1 vs:=by
 intro ds
 induction ds with
 |nil =>
  intro σ loc fps R k hk vs fp h hnd hL hok
  cases h
  exact⟨loc,fps,⟨R,fun _ _ h=>h,fun i ρ b hl hb=>.inl ⟨i,ρ,hl,hb⟩⟩,.nil⟩
 |cons d ds ih =>
  intro σ loc fps R k hk vs fp h hnd hL hok
  simp only[List.all_cons,Bool.and_eq_true]at hok
  have l1:=qRk k d;have l2:=qJx ds (qNO k d).2.2
  cases h with
  | @cons _ fp1 fp2 _ v _ vs h0 h1 h2 =>
   have hnd':=List.nodup_append.1 hnd
   obtain⟨loc1,fps1,ht1,ha1⟩:=qVt R (k:=k) (fun i h h'=>hk i h (Nat.lt_of_lt_of_le h' l2)) (qSK hok.1) h1 hnd'.1 (fun b hb=>hL b (List.mem_append_left _ hb))
   obtain⟨loc2,fps2,ht2,ha2⟩:=ih ht1.1 (qQH (qOS k d) hk l1 l2) (h2.mono (fun _ h=>h) ht1.2.1 (fun _ _=>rfl)) hnd'.2.1 (hL.rest hnd ht1) hok.2
   refine⟨loc2,fps2,?_,?_⟩
   ·have:=ht1.trans ht2
    simpa [qDw]using this
   ·exact .cons (fp:=[]) (fp':=[]) h0 ((ha1 (qSd hok.1 h1)).mono (fun _ h=>h) ht2.2.1 (fun _ _=>rfl)) ha2
theorem qVM {σ loc fps} (R:Rel E σ a w Z loc fps) {k:Nat} {d:D} (hk:σ.freshIn k (qPR k d).2.2) {v:Value} {fp:List Nat} (h:AR w Z loc fp d v) (hnd:fp.Nodup) (hL:Loose E σ w Z fps fp) (hok:d.gOk=true) :
  ∃loc' fps',Took E a w Z σ loc fps fp { σ with h:=(qPR k d).2.1++σ.h } loc' fps'/\AR w Z loc' [] (qPR k d).1 v:=by
 by_cases hg:∃ds,d=.g ds
 ·obtain⟨ds,rfl⟩:=hg
  cases h with
  |g h1 =>
   obtain⟨loc',fps',h2,h4⟩:=qRX R hk h1 hnd hL hok
   exact⟨loc',fps',h2,.g h4⟩
 ·by_cases hp:∃cs,d=.pn cs
  ·obtain⟨cs,rfl⟩:=hp
   cases h with
   | @pn _ fpN _ b arr el g1 g2 =>
    obtain⟨n1,n2⟩:=List.nodup_cons.1 hnd
    have hok':cs.all D.cellOk=true:=hok
    have hle:=qJx cs (k+1)
    have hk1:σ.freshIn (k+1) (qDw (k+1) cs).2.2:=fun i h h'=>hk i (by omega) h'
    obtain⟨loc1,fps1,ht1,ha1⟩:=qRX R hk1 (g2.mono (fun _ h=>h) (fun _ _ h=>by simp[qAi]at h) (fun _ _=>rfl)) n2 (fun c hc=>hL c (List.mem_cons_of_mem _ hc)) hok'
    have hid:get ({ σ with h:=(qDw (k+1) cs).2.1++σ.h }:St).h k=none:=by
     show get ((qDw (k+1) cs).2.1++σ.h) k=none
     rw[qKl (qIO cs (k+1)) (by omega)]
     exact hk k (Nat.le_refl _) (by show k<(qDw (k+1) cs).2.2;omega)
    have hLb:=hL b (by simp)
    have R':=ht1.1.adopt hid (ρ:=.box (qDw (k+1) cs).1) (L:=⟨b,0,0,0,0⟩) (fp0:=[b]) (by
     intro c hc
     obtain rfl:=List.mem_singleton.1 hc
     refine⟨hLb.1,hLb.2.1,hLb.2.2.1,fun i ρ hl hb=>?_⟩
     rcases ht1.2.2 i ρ c hl hb with⟨j,ρ',hj,hb'⟩|hb'
     ·exact hLb.2.2.2 j ρ' hj hb'
     ·exact n1 hb') (by simp) ⟨rfl,rfl,arr,el,g1,ha1.mono (fun _ h=>h) (qH3 (ht1.1.fresh k hid)) (fun _ _=>rfl)⟩
    refine⟨_,_,⟨R',fun i M hM=>qH3 (ht1.1.fresh k hid) i M (ht1.2.1 i M hM),?_⟩,AR.p (L:=⟨b,0,0,0,0⟩) (off:=0) (qCX _ _ _)⟩
    rintro i ρ c ⟨h1,h2⟩ hb
    simp only[qPR,List.cons_append,qAa]at h1
    split at h1
    ·rename_i e;subst e;simp only[qHN,if_true]at hb;obtain rfl:=List.mem_singleton.1 hb;exact .inr (by simp)
    ·rename_i e
     simp only[qHN,if_neg e]at hb
     rcases ht1.2.2 i ρ c ⟨h1,h2⟩ hb with h|h
     ·exact .inl h
     ·exact .inr (List.mem_cons_of_mem _ h)
  have e:qPR k d=qNO k d:=by cases d<;>first|rfl|exact absurd ⟨_,rfl⟩ hg|exact absurd ⟨_,rfl⟩ hp
  have e2:d.cellOk=true:=by cases d<;>first|exact hok|exact absurd ⟨_,rfl⟩ hg|exact absurd ⟨_,rfl⟩ hp
  rw[e]at hk⊢
  obtain⟨loc1,fps1,ht1,ha1⟩:=qVt R hk (qSK e2) h hnd hL
  exact⟨loc1,fps1,ht1,ha1 (qSd e2 h)⟩
theorem ART.mono {w':World} {Z':Nat->Prop} {loc loc':Nat->Option Loc} (hZ:∀b,Z b->Z' b) (hl:∀id L,loc id=some L->loc' id=some L):∀{ds vs fp},ART w Z loc fp ds vs->(∀b,Z b\/b∈fp->w'.heap[b]?=w.heap[b]?)->ART w' Z' loc' fp ds vs:=by
 intro ds
 induction ds with
 |nil=>intro vs fp h _;cases h;exact .nil
 |cons d ds ih=>intro vs fp h hw;cases h with|cons h1 h2=>exact .cons (h1.mono hZ hl fun b hb=>hw b (hb.imp (fun h=>h) (List.mem_append_left _))) (ih h2 fun b hb=>hw b (hb.imp (fun h=>h) (List.mem_append_right _)))
theorem qTO:∀{ds:List D} {σ loc fps} (R:Rel E σ a w Z loc fps) {k:Nat} (hk:σ.freshIn k (qGA k ds).2.2) {vs:List Value} {fp:List Nat} (h:ART w Z loc fp ds vs) (hnd:fp.Nodup) (hL:Loose E σ w Z fps fp) (hok:ds.all D.gOk=true),
  ∃loc' fps',Took E a w Z σ loc fps fp { σ with h:=(qGA k ds).2.1++σ.h } loc' fps'/\ART w Z loc' [] (qGA k ds).1 vs:=by
 intro ds
 induction ds with
 |nil =>
  intro σ loc fps R k hk vs fp h hnd hL hok
  cases h
  exact⟨loc,fps,⟨R,fun _ _ h=>h,fun i ρ b hl hb=>.inl ⟨i,ρ,hl,hb⟩⟩,.nil⟩
 |cons d ds ih =>
  intro σ loc fps R k hk vs fp h hnd hL hok
  simp only[List.all_cons,Bool.and_eq_true]at hok
  have l1:=qRc k d;have l2:=qPU ds (qPR k d).2.2
  cases h with
  | @cons _ fp1 fp2 _ v _ vs h1 h2 =>
   have hnd':=List.nodup_append.1 hnd
   obtain⟨loc1,fps1,ht1,ha1⟩:=qVM R (k:=k) (fun i h h'=>hk i h (Nat.lt_of_lt_of_le h' l2)) h1 hnd'.1 (fun b hb=>hL b (List.mem_append_left _ hb)) hok.1
   obtain⟨loc2,fps2,ht2,ha2⟩:=ih ht1.1 (qQH (qNz k d) hk l1 l2) (ART.mono (fun _ h=>h) ht1.2.1 h2 (fun _ _=>rfl)) hnd'.2.1 (hL.rest hnd ht1) hok.2
   refine⟨loc2,fps2,?_,?_⟩
   ·have:=ht1.trans ht2
    simpa [qGA]using this
   ·exact .cons (fp:=[]) (fp':=[]) (ha1.mono (fun _ h=>h) ht2.2.1 (fun _ _=>rfl)) ha2
theorem qSu {σ loc fps} (R:Rel E σ a w Z loc fps) {k:Nat} {d:D} (hk:σ.freshIn k (qJn k d).2.2) {v:Value} {fp:List Nat} (h:AR w Z loc fp d v) (hnd:fp.Nodup) (hL:Loose E σ w Z fps fp) (hok:d.tOk=true) :
  ∃loc' fps',Took E a w Z σ loc fps fp { σ with h:=(qJn k d).2.1++σ.h } loc' fps'/\AR w Z loc' [] (qJn k d).1 v:=by
 by_cases hg:∃ds,d=.t ds
 ·obtain⟨ds,rfl⟩:=hg
  cases h with
  |t h1 =>
   obtain⟨loc',fps',h2,h4⟩:=qTO R hk h1 hnd hL hok
   exact⟨loc',fps',h2,.t h4⟩
 ·have e:qJn k d=qPR k d:=by cases d<;>first|rfl|exact absurd ⟨_,rfl⟩ hg
  have e2:d.gOk=true:=by cases d<;>first|exact hok|exact absurd ⟨_,rfl⟩ hg
  rw[e]at hk⊢
  obtain⟨loc1,fps1,ht1,ha1⟩:=qVM R hk h hnd hL e2
  exact⟨loc1,fps1,ht1,ha1⟩
end
section
variable {P:Program} {σ:St} {o:Oper}
theorem qG5 {a:Act} {w:World} {f:FuncId} {callee:Operand} {args:Array Operand} {ts:Array TypeId} {caps:Array Value} (ho:o.op=.call { callee:=.value callee,args:=args,argTypes:=ts }) (hf:a.eval callee=.func (.func f) #[] caps) (hc:qIX P f) :
  (execOp a.eval o).run P w=.ok (.enter f (args.map a.eval++caps)) w:=by
 obtain⟨fn,h1,h2,h3⟩:=hc
 have h3' : ¬fn.name = "runtime.NumGoroutine" := by simpa using h3
 have h2':¬fn.body=none:=fun e=>by rw[e]at h2;cases h2
 simp[execOp,ho,resolve,hf,Deferred.ofValue,invoke,callFunc,h1,h2',h3']
theorem qOK {w Z loc}:∀{ds ds':List D} {vs vs':List Value},ART w Z loc [] ds vs->ART w Z loc [] ds' vs'->ART w Z loc [] (ds++ds') (vs++vs'):=by
 intro ds
 induction ds with
 |nil =>
  intro ds' vs vs' h h'
  generalize hfp:([]:List Nat)=fp at h
  cases h;exact h'
 |cons d ds ih =>
  intro ds' vs vs' h h'
  generalize hfp:([]:List Nat)=fp at h
  cases h with
  | @cons _ fp1 fp2 _ v _ vs h1 h2 =>
   obtain⟨rfl,rfl⟩:fp1=[]/\fp2=[]:=List.append_eq_nil_iff.1 hfp.symm
   exact .cons (fp:=[]) (fp':=[]) h1 (ih h2 h')
theorem qGa {w Z loc}:∀{ds:List D} {vs:List Value},All2 (fun d v=>AR w Z loc [] d v) ds vs->ART w Z loc [] ds vs
 |_,_,.nil=>.nil
 |_,_,.cons h1 h2=>.cons (fp:=[]) (fp':=[]) h1 (qGa h2)
theorem qMH {w Z loc}:∀{ds:List D} {vs:List Value},ARL w Z loc [] ds vs->ART w Z loc [] ds vs:=by
 intro ds
 induction ds with
 |nil=>intro vs h;generalize hfp:([]:List Nat)=fp at h;cases h;exact .nil
 |cons d ds ih =>
  intro vs h
  generalize hfp:([]:List Nat)=fp at h
  cases h with
  | @cons _ fp1 fp2 _ v _ vs h0 h1 h2 =>
   obtain⟨rfl,rfl⟩:fp1=[]/\fp2=[]:=List.append_eq_nil_iff.1 hfp.symm
   exact .cons (fp:=[]) (fp':=[]) h1 (ih h2)
def lends (σ:St):List D->List D->Prop
 | [],[]=>True
 |d::ds,e::es=>Lend σ d e/\lends σ ds es
 |_,_=>False
theorem RelV.lends {E a w Z loc fps} (R:RelV E σ a w Z loc fps):∀{ds es:List D} {vs:List Value},lends σ ds es->All2 (fun d v=>AR w Z loc [] d v) ds vs->ART w (fun b=>b<w.heap.size) qAi [] es vs
 | [],[],_,_,h=>by cases h;exact .nil
 |d::ds,e::es,_,hl,h=>by
  cases h with
  |cons h1 h2=>exact .cons (fp:=[]) (fp':=[]) (R.lend hl.1 h1) (R.lends hl.2 h2)
 | [],_::_,_,hl,_=>hl.elim
 |_::_,[],_,hl,_=>hl.elim
theorem Rel.after {E a w w' Z loc fps} (R:Rel E σ a w Z loc fps) {Zc Z':Nat->Prop} {res:D} {v:Value} {fpr:List Nat} {k:Nat} (X:Ext w w') (hr:AR w' Z' qAi fpr res v) (hnd:fpr.Nodup)
  (hfp:∀b∈fpr,¬Z' b/\w.heap.size<=b/\b<w'.heap.size) (hz:∀b,Z' b->b<w'.heap.size/\(Zc b\/w.heap.size<=b)) (hZc:(∀b,Zc b->Z b)\/res.zfree) (hk:σ.freshIn k (qJn k res).2.2) (hok:res.tOk=true) {dst:Option Tmp} (hd:∀n,dst=some n->n<σ.nt) :
  qSg E (St.put { σ with h:=(qJn k res).2.1++σ.h } dst (qJn k res).1) (a.put dst v) w':=by
 have R1:=R.ext X
 have R2:Rel E σ a w' (fun b=>Z b\/(w.heap.size<=b/\Z' b)) loc fps:=R1.zone (fun b h=>.inl h) (by
  rintro b (h|⟨h1,h2⟩)
  ·exact .inl h
  ·exact .inr ⟨(hz b h2).1,.inl (Nat.le_trans R.grow h1),fun i ρ hl hb=>absurd (R.owned i ρ b hl hb).2.1 (by omega)⟩)
 have hr2:AR w' (fun b=>Z b\/(w.heap.size<=b/\Z' b)) qAi fpr res v:=by
  rcases hZc with h|h
  ·refine hr.mono (fun b hb=>?_) (fun _ _ h=>h) (fun _ _=>rfl)
   rcases (hz b hb).2 with h'|h'
   ·exact .inl (h b h')
   ·exact .inr ⟨h',hb⟩
  ·exact h _ _ _ _ _ _ hr
 obtain⟨loc',fps',ht,ha⟩:=qSu R2 hk (hr2.mono (fun _ h=>h) (fun _ _ h=>by simp[qAi]at h) (fun _ _=>rfl)) hnd (fun b hb=>by
  obtain⟨g1,g2,g3⟩:=hfp b hb
  refine⟨?_,g3,.inl (Nat.le_trans R.grow g2),fun i ρ hl hbi=>absurd (R.owned i ρ b hl hbi).2.1 (by omega)⟩
  rintro (h|⟨_,h⟩)
  ·exact absurd (R.zlt b h) (by omega)
  ·exact g1 h) hok
 exact⟨_,loc',fps',ht.1.put (σ:={ σ with h:=(qJn k res).2.1++σ.h }) hd ha⟩
theorem qAO {f:FuncId} {callee:Operand} {args:Array Operand} {ts:Array TypeId} {caps ds:List D} {res:D} (ho:o.op=.call { callee:=.value callee,args:=args,argTypes:=ts }) (k:Nat)
  (hc:σ.ev callee=some (.f f caps)) (ha:evs σ args.toList=some ds) (hfree:(ds.all D.free&&caps.all D.free)=true) (S:qAC P f (ds++caps) res) (hok:res.tOk=true) (hk:σ.freshFrom k=true) (hd:qBb σ o=true) :
  qKh P σ o (St.put { σ with h:=(qJn k res).2.1++σ.h } o.dst (qJn k res).1):=by
 rintro E a w ⟨Z,loc,fps,R⟩
 have hcv:=R.ev hc
 generalize hav:a.eval callee=cv at hcv
 simp only[Bool.and_eq_true]at hfree
 cases hcv with
 | @f _ _ _ _ arr hcaps =>
  unfold Oper.wp
  rw[qG5 ho hav S.1]
  have hargs:=qIx R.toRelV ha
  have free2:∀{ds:List D} {vs:List Value},ds.all D.free=true->All2 (fun d v=>AR w Z loc [] d v) ds vs->All2 (fun d v=>AR w Z qAi [] d v) ds vs:=by
   intro ds
   induction ds with
   |nil=>intro vs _ h;cases h;exact .nil
   |cons d ds ih=>intro vs hf h;cases h with|cons h1 h2=>simp only[List.all_cons,Bool.and_eq_true]at hf;exact .cons (h1.free hf.1 qAi) (ih hf.2 h2)
  have hart:ART w Z qAi [] (ds++caps) (args.map a.eval++arr).toList:=by
   have:=qOK (qGa (free2 hfree.1 hargs)) (qMH (ARL.of_all (fun d v hd r=>r.free hd qAi) hfree.2 hcaps))
   simpa using this
  refine Calls.mono (S.2 w Z _ hart R.zlt R.globZ) ?_
  rintro e w' ⟨v,Z',fpr,rfl,X,hr,hnd,hfp,hz⟩
  exact R.after X hr hnd hfp hz (.inl fun _ h=>h) (qMA hk _) hok (qA7 hd)
end
end Go.AM
end
section
namespace Go.AM
inductive ExpC (σ:St):D->D->List Nat->Prop
 |v {x}:ExpC σ (.v x) (.v x) []
 |s {xs}:ExpC σ (.s xs) (.s xs) []
 |nil {k k'}:ExpC σ (.w k []) (.w k' []) []
 |nilS {k}:ExpC σ (.w k []) (.s []) []
 |row {id n sz xs}:get σ.h id=some (.row sz xs)->n=xs.length->ExpC σ (.r id 0 n) (.w sz xs) [id]
 |u {d}:ExpC σ d .u []
 |q {cs}:ExpC σ (.q cs) (.q cs) []
 |f {fn caps}:caps.all D.cfree=true->ExpC σ (.f fn caps) (.f fn caps) []
 |box {id cs}:get σ.h id=some (.box cs)->cs.all D.isVS=true->ExpC σ (.p id 0) (.pw cs) [id]
 |rowR {id sz xs}:get σ.h id=some (.row sz xs)->ExpC σ (.R id) (.w sz xs) [id]
 |mapR {id es}:get σ.h id=some (.map es)->ExpC σ (.m id) (.mw es) [id]
 |part {id lo n sz xs}:get σ.h id=some (.row sz xs)->lo+n<=xs.length->ExpC σ (.r id lo n) (.w sz ((xs.drop lo).take n)) [id]
def qN5 (σ:St):List D->List D->List Nat->Prop
 | [],[],ids=>ids=[]
 |d::ds,e::es,ids=>∃i1 i2,ids=i1++i2/\ExpC σ d e i1/\qN5 σ ds es i2
 |_,_,_=>False
inductive ExpG (σ:St):D->D->List Nat->Prop
 |c {d e ids}:ExpC σ d e ids->ExpG σ d e ids
 |g {ds es ids}:qN5 σ ds es ids->ExpG σ (.g ds) (.g es) ids
 |pb {id ds es ids}:get σ.h id=some (.box ds)->qN5 σ ds es ids->ExpG σ (.p id 0) (.pn es) (id::ids)
def qLz (σ:St):List D->List D->List Nat->Prop
 | [],[],ids=>ids=[]
 |d::ds,e::es,ids=>∃i1 i2,ids=i1++i2/\ExpG σ d e i1/\qLz σ ds es i2
 |_,_,_=>False
inductive ExpT (σ:St):D->D->List Nat->Prop
 |c {d e ids}:ExpG σ d e ids->ExpT σ d e ids
 |t {ds es ids}:qLz σ ds es ids->ExpT σ (.t ds) (.t es) ids
theorem zCn {σ}:qN5 σ [] [] []:=rfl
theorem zC {σ d e i1 ds es i2} (h:ExpC σ d e i1) (h':qN5 σ ds es i2):qN5 σ (d::ds) (e::es) (i1++i2):=⟨_,_,rfl,h,h'⟩
theorem zGn {σ}:qLz σ [] [] []:=rfl
theorem zG {σ d e i1 ds es i2} (h:ExpG σ d e i1) (h':qLz σ ds es i2):qLz σ (d::ds) (e::es) (i1++i2):=⟨_,_,rfl,h,h'⟩
section
variable {E:Env} {σ:St} {a:Act} {w:World} {Z:Nat->Prop} {loc:Nat->Option Loc} {fps:Nat->List Nat} (R:Rel E σ a w Z loc fps)
include R
def Handed (σ:St) (fps:Nat->List Nat) (ids fp:List Nat):Prop:=fp.Nodup/\∀b∈fp,∃id ρ,id∈ids/\σ.live id ρ/\b∈fps id
theorem Handed.append {ids ids' fp fp':List Nat} (h:Handed σ fps ids fp) (h':Handed σ fps ids' fp') (hnd:(ids++ids').Nodup):Handed σ fps (ids++ids') (fp++fp'):=by
 refine⟨List.nodup_append.2 ⟨h.1,h'.1,fun x hx y hy e=>?_⟩,fun b hb=>?_⟩
 ·subst e
  obtain⟨i,ρ,h1,h2,h3⟩:=h.2 x hx
  obtain⟨j,ρ',h4,h5,h6⟩:=h'.2 x hy
  have:=R.disj i j ρ ρ' x h2 h5 h3 h6
  subst this
  exact(List.nodup_append.1 hnd).2.2 i h1 i h4 rfl
 ·rcases List.mem_append.1 hb with hb|hb
  ·obtain⟨i,ρ,h1,h2,h3⟩:=h.2 b hb;exact⟨i,ρ,List.mem_append_left _ h1,h2,h3⟩
  ·obtain⟨i,ρ,h1,h2,h3⟩:=h'.2 b hb;exact⟨i,ρ,List.mem_append_right _ h1,h2,h3⟩
theorem qS4 {d e ids v} (hx:ExpC σ d e ids) (h:AR w Z loc [] d v):∃fp,AR w Z qAi fp e v/\Handed σ fps ids fp:=by
 cases hx with
 |v=>cases h;exact⟨[],.v,by simp[Handed]⟩
 |s=>exact⟨[],h.cfree rfl qAi,by simp[Handed]⟩
 |nil =>
  generalize hfp:([]:List Nat)=fp at h
  cases h with
  |w0=>exact⟨[],.w0,by simp[Handed]⟩
  |w=>cases hfp
 |nilS =>
  generalize hfp:([]:List Nat)=fp at h
  cases h with
  |w0=>exact⟨[],.s0,by simp[Handed]⟩
  |w=>cases hfp
 | @row id n sz xs hg hn =>
  subst hn
  obtain⟨A,cap,hv,h1,h2,h3,h4,h5⟩:=R.destR (ks:=[id]) (by simp) hg (by omega) h
  simp only[List.drop_zero,List.take_length]at h3 h4 h5
  subst hv
  rcases h5 with⟨hc,hn⟩|⟨bk,off,arr,el,fpX,hD,hm⟩
  ·have hxs:=List.eq_nil_of_length_eq_zero hn
   subst hxs
   subst hc
   exact⟨[],.w0,by simp[Handed]⟩
  ·rw[hD.addr]
   exact⟨_,.w hD.heap h3 h1 h2 hD.room hD.rel,hD.nodup,fun b hb=>⟨id,_,by simp,⟨hg,by simp⟩,hm b hb⟩⟩
 |u=>exact⟨[],.u,by simp[Handed]⟩
 |q=>exact⟨[],h.cfree rfl qAi,by simp[Handed]⟩
 | @f fn caps hc=>exact⟨[],h.ffree (show D.ffree (.f fn caps)=true from hc) qAi,by simp[Handed]⟩
 | @box id cs hg hv =>
  obtain⟨L,hL,e1,e2,arr,el,h3,h4⟩:=R.roots id _ ⟨hg,by simp⟩
  cases h with
  |p g1 =>
   rw[hL]at g1;cases g1
   rw[e1]
   refine⟨[L.b],.pw h3 (h4.plain (List.all_eq_true.2 fun d hd=>D.isVS_plain (List.all_eq_true.1 hv d hd)) qAi),?_,?_⟩
   ·simp
   ·intro b hb;exact⟨id,_,by simp,⟨hg,by simp⟩,by rw[e2];exact hb⟩
 | @mapR id es hg =>
  obtain⟨L,hL,e1,e2,en,cl,h3,h4⟩:=R.roots id _ ⟨hg,by simp⟩
  cases h with
  |m g1 =>
   rw[hL]at g1;cases g1
   refine⟨[L.b],.mw h3 h4,by simp,?_⟩
   intro b hb;exact⟨id,_,by simp,⟨hg,by simp⟩,by rw[e2];exact hb⟩
 | @rowR id sz xs hg =>
  have h':=R.res h
  simp only[St.res,hg]at h'
  obtain⟨A,cap,hv,h1,h2,h3,h4,h5⟩:=R.destR (ks:=[id]) (by simp) hg (by omega) h'
  simp only[List.drop_zero,List.take_length]at h3 h4 h5
  subst hv
  rcases h5 with⟨hc,hn⟩|⟨bk,off,arr,el,fpX,hD,hm⟩
  ·have hxs:=List.eq_nil_of_length_eq_zero hn
   subst hxs
   subst hc
   exact⟨[],.w0,by simp[Handed]⟩
  ·rw[hD.addr]
   exact⟨_,.w hD.heap h3 h1 h2 hD.room hD.rel,hD.nodup,fun b hb=>⟨id,_,by simp,⟨hg,by simp⟩,hm b hb⟩⟩
 | @part id lo n sz xs hg hle =>
  obtain⟨A,cap,hv,h1,h2,h3,h4,h5⟩:=R.destR (ks:=[id]) (by simp) hg hle h
  subst hv
  rcases h5 with⟨hc,hn⟩|⟨bk,off,arr,el,fpX,hD,hm⟩
  ·subst hn hc
   rw[List.take_zero]
   exact⟨[],.w0,by simp[Handed]⟩
  ·rw[hD.addr]
   have key:=AR.w (loc:=qAi) (xs:=(xs.drop lo).take n) hD.heap h3 (by rw[h4];exact h1) h2 hD.room (by rw[h4];exact hD.rel)
   rw[h4]at key
   exact⟨_,key,hD.nodup,fun b hb=>⟨id,_,by simp,⟨hg,by simp⟩,hm b hb⟩⟩
theorem qRa:∀{ds es ids vs},qN5 σ ds es ids->ids.Nodup->ARL w Z loc [] ds vs->∃fp,ARL w Z qAi fp es vs/\Handed σ fps ids fp:=by
 intro ds
 induction ds with
 |nil =>
  intro es ids vs hx _ h
  cases es with
  |nil=>simp only[qN5]at hx;subst hx;generalize hfp:([]:List Nat)=fp at h;cases h;exact⟨[],.nil,by simp[Handed]⟩
  |cons=>exact hx.elim
 |cons d ds ih =>
  intro es ids vs hx hnd h
  cases es with
  |nil=>exact hx.elim
  |cons e es =>
   obtain⟨i1,i2,rfl,h1,h2⟩:=hx
   generalize hfp:([]:List Nat)=fp at h
   cases h with
   | @cons _ fp1 fp2 _ v _ vs g0 g1 g2 =>
    obtain⟨rfl,rfl⟩:fp1=[]/\fp2=[]:=List.append_eq_nil_iff.1 hfp.symm
    obtain⟨f1,k1,k2⟩:=qS4 R h1 g1
    obtain⟨f2,k3,k4⟩:=ih h2 (List.nodup_append.1 hnd).2.1 g2
    exact⟨f1++f2,.cons g0 k1 k3,k2.append R k4 hnd⟩
theorem qV5 {d e ids v} (hx:ExpG σ d e ids) (hnd:ids.Nodup) (h:AR w Z loc [] d v):∃fp,AR w Z qAi fp e v/\Handed σ fps ids fp:=by
 cases hx with
 |c h1=>exact qS4 R h1 h
 |g h1=>cases h with|g h2=>obtain⟨fp,k1,k2⟩:=qRa R h1 hnd h2;exact⟨fp,.g k1,k2⟩
 | @pb id ds es ids hg h1 =>
  obtain⟨L,hL,e1,e2,arr,el,h3,h4⟩:=R.roots id _ ⟨hg,by simp⟩
  obtain⟨n1,n2⟩:=List.nodup_cons.1 hnd
  cases h with
  |p g1 =>
   rw[hL]at g1;cases g1
   rw[e1]
   obtain⟨fp,k1,k2⟩:=qRa R h1 n2 h4
   refine⟨L.b::fp,.pn h3 k1,List.nodup_cons.2 ⟨fun hb=>?_,k2.1⟩,fun b hb=>?_⟩
   ·obtain⟨j,ρ,q1,q2,q3⟩:=k2.2 _ hb
    have:=R.disj id j _ ρ L.b ⟨hg,by simp⟩ q2 (by rw[e2];simp) q3
    subst this;exact n1 q1
   ·rcases List.mem_cons.1 hb with rfl|hb
    ·exact⟨id,_,by simp,⟨hg,by simp⟩,by rw[e2];simp⟩
    ·obtain⟨j,ρ,q1,q2,q3⟩:=k2.2 b hb
     exact⟨j,ρ,List.mem_cons_of_mem _ q1,q2,q3⟩
theorem qPK:∀{ds es ids vs},qLz σ ds es ids->ids.Nodup->ART w Z loc [] ds vs->∃fp,ART w Z qAi fp es vs/\Handed σ fps ids fp:=by
 intro ds
 induction ds with
 |nil =>
  intro es ids vs hx _ h
  cases es with
  |nil=>simp only[qLz]at hx;subst hx;generalize hfp:([]:List Nat)=fp at h;cases h;exact⟨[],.nil,by simp[Handed]⟩
  |cons=>exact hx.elim
 |cons d ds ih =>
  intro es ids vs hx hnd h
  cases es with
  |nil=>exact hx.elim
  |cons e es =>
   obtain⟨i1,i2,rfl,h1,h2⟩:=hx
   generalize hfp:([]:List Nat)=fp at h
   cases h with
   | @cons _ fp1 fp2 _ v _ vs g1 g2 =>
    obtain⟨rfl,rfl⟩:fp1=[]/\fp2=[]:=List.append_eq_nil_iff.1 hfp.symm
    obtain⟨f1,k1,k2⟩:=qV5 R h1 (List.nodup_append.1 hnd).1 g1
    obtain⟨f2,k3,k4⟩:=ih h2 (List.nodup_append.1 hnd).2.1 g2
    exact⟨f1++f2,.cons k1 k3,k2.append R k4 hnd⟩
theorem qWA {d e ids v} (hx:ExpT σ d e ids) (hnd:ids.Nodup) (h:AR w Z loc [] d v):∃fp,AR w Z qAi fp e v/\Handed σ fps ids fp:=by
 cases hx with
 |c h1=>exact qV5 R h1 hnd h
 |t h1=>cases h with|t h2=>obtain⟨fp,k1,k2⟩:=qPK R h1 hnd h2;exact⟨fp,.t k1,k2⟩
end
def qXK (te:TE) (σ:St):List ResultVar->Option (List D)
 | []=>some []
 |.tmp t::l=>match get σ.t t,qXK te σ l with|some d,some r=>some (d::r)|_,_=>none
 |.cell x ty::l =>
  match get σ.t x,te ty,qXK te σ l with
  |some p,some ti,some r=>(match σ.at p with|some ds=>(match qMh ti ds with|some d=>some (d::r)|none=>none)|none=>none)
  |_,_,_=>none
def qY1:List D->D
 | [d]=>d
 |ds=>.t ds
@[reducible] def isRet:Exit->Prop|.normal=>True|.ret=>True|_=>False
def retQ (te:TE) (fn:Func) (res:D):Exit->St->Prop:=fun e σ=>isRet e/\∃ds ids,qXK te σ fn.results.toList=some ds/\ExpT σ (qY1 ds) res ids/\ids.Nodup
def qZI (tmps:Array Value):ResultVar->Sem Value
 |.tmp t=>pure (tmps.getD t undef)
 |.cell x t=>do loadVar t (<-asAddr (tmps.getD x undef))
theorem qMP (fn:Func) (tmps:Array Value):results fn tmps=(do let vs <-fn.results.mapM (qZI tmps);pure (if h:vs.size=1 then vs[0] else .tuple vs)):=by
 unfold results
 congr 2
theorem qPT {P:Program} {te:TE} (T:qGz P te) {E σ a w Z loc fps} (R:Rel E σ a w Z loc fps):∀{l:List ResultVar} {ds:List D},qXK te σ l=some ds->
  ∃vs,(l.mapM (qZI a.tmps)).run P w=.ok vs w/\All2 (fun d v=>AR w Z loc [] d v) ds vs
 | [],ds,h=>by simp only[qXK]at h;cases h;exact⟨[],by simp,.nil⟩
 |.tmp t::l,ds,h=>by
  simp only[qXK]at h
  split at h
  ·rename_i d r h1 h2
   cases h
   obtain⟨vs,h3,h4⟩:=qPT T R h2
   have:=R.ev (x:=.tmp t) h1
   exact⟨a.tmps.getD t undef::vs,by simp only[List.mapM_cons,qZI,Sem.run_bind,Sem.run_pure,Result.andThen_ok,h3],.cons this h4⟩
  ·cases h
 |.cell x ty::l,ds,h=>by
  simp only[qXK]at h
  split at h
  ·rename_i p ti r h1 hti h2
   split at h
   ·rename_i cs hat
    split at h
    ·rename_i d hd
     cases h
     obtain⟨vs,h3,h4⟩:=qPT T R h2
     have hp:=R.ev (x:=.tmp x) h1
     obtain⟨u,h5,h6⟩:=R.loadAt T hti hp hat hd
     have h5':(do loadVar ty (<-asAddr (a.tmps.getD x undef)):Sem Value).run P w=.ok u w:=by
      change (Instr.loadAt ty (a.tmps.getD x undef)).run P w=.ok u w at h5
      rw[<-h5]
      have hp':AR w Z loc [] p (a.tmps.getD x undef):=hp
      generalize a.tmps.getD x undef=pv at hp'
      cases hp'<;>first|(simp[St.at]at hat;done)|simp[Instr.loadAt,Instr.sureAddr,asAddr]
     have h5'':(qZI a.tmps (.cell x ty)).run P w=.ok u w:=h5'
     exact⟨u::vs,by simp only[List.mapM_cons,Sem.run_bind,h5'',Result.andThen_ok,h3,Sem.run_pure],.cons h6 h4⟩
    ·cases h
   ·cases h
  ·cases h
def qQE:Nat->List D->List (Nat×D)
 |_,[]=>[]
 |k,d::ds=>(k,d)::qQE (k+1) ds
theorem qP6:∀{ds:List D} {k n:Nat} {d:D},get (qQE k ds) n=some d->k<=n/\ds[n-k]?=some d
 | [],k,n,d,h=>by simp[qQE,get]at h
 |e::ds,k,n,d,h=>by
  simp only[qQE,qAa]at h
  split at h
  ·rename_i e';subst e';cases h;simp
  ·have:=qP6 h
   refine⟨by omega,?_⟩
   rw[show n-k=(n-(k+1))+1 by omega];simpa using this.2
theorem zFn {P : Program} {te : TE} (T : qGz P te) {f : FuncId} {fn : Func} {body : Code} {az : List D} {res : D} (hf : P.funcs[f]? = some fn) (hb : fn.body=some body) (hname : (fn.name == "runtime.NumGoroutine")=false) (hn : Nat.ble az.length fn.ntmps=true)
  (h:AW P body (retQ te fn res) ⟨qQE 0 az,[],fn.ntmps,[]⟩):qAC P f az res:=by
 refine⟨⟨fn,hf,by rw[hb];rfl,hname⟩,fun w Z vs hart hZ hG=>?_⟩
 have hn:=Nat.le_of_ble_eq_true hn
 have artlen:∀{ds:List D} {vs:List Value} {fp},ART w Z qAi fp ds vs->ds.length=vs.length:=by
  intro ds
  induction ds with
  |nil=>intro vs fp h;cases h;rfl
  |cons d ds ih=>intro vs fp h;cases h with|cons h1 h2=>simp[ih h2]
 have artget:∀{ds:List D} {vs:List Value} {i:Nat} {d:D},ART w Z qAi [] ds vs->ds[i]?=some d->∃v,vs[i]?=some v/\AR w Z qAi [] d v:=by
  intro ds
  induction ds with
  |nil=>intro vs i d _ h;simp at h
  |cons d' ds ih =>
   intro vs i d h hi
   generalize hfp:([]:List Nat)=fp at h
   cases h with
   | @cons _ fp1 fp2 _ v _ vs h1 h2 =>
    obtain⟨rfl,rfl⟩:fp1=[]/\fp2=[]:=List.append_eq_nil_iff.1 hfp.symm
    cases i with
    |zero=>simp at hi;subst hi;exact⟨v,rfl,h1⟩
    |succ i=>simpa using ih h2 (by simpa using hi)
 have hlen:=artlen hart
 simp only[Array.length_toList]at hlen
 let E:Env:=⟨w,Z,[],hG.1,(fun _ h=>by cases h),hG.2⟩
 have R:Rel E ⟨qQE 0 az,[],fn.ntmps,[]⟩ { tmps:=vs++Array.replicate (fn.ntmps-vs.size) undef,defers:=[] } w Z qAi (fun _=>[]):=by
  refine { size:=by simp;omega,defers:=rfl,temps:=?_,roots:=?_,nodup:=?_,disj:=?_,owned:=?_,fresh:=fun _ _=>rfl,zlt:=hZ,zsub:=fun _ h=>h,znew:=fun _ h=>.inl h,frame:=fun _ _ _=>rfl,grow:=Nat.le_refl _,shape:=fun _ _=>rfl,os:=rfl,output:=rfl,tape:=⟨rfl,Nat.le_refl _⟩,pins:=fun _ _ h=>by cases h }
  ·intro t d ht
   obtain⟨_,h1⟩:=qP6 ht
   obtain⟨v,h2,h3⟩:=artget hart h1
   refine⟨v,?_,h3⟩
   simp only[Nat.sub_zero,Array.getElem?_toList]at h2
   rw[Array.getElem?_append_left (Array.getElem?_eq_some_iff.1 h2).1];exact h2
  all_goals (intros;rename_i hl;simp[St.live,get]at *)
 refine calls_of_wp hf hb (wp_mono (h E _ w ⟨Z,qAi,_,R⟩) ?_)
 rintro e a' w' ⟨σ',⟨he,ds,ids,hres,hexp,hnd⟩,Z',loc',fps',R'⟩
 obtain⟨us,h1,h2⟩:=qPT T R' hres
 have hv:∃v,(results fn a'.tmps).run P w'=.ok v w'/\AR w' Z' loc' [] (qY1 ds) v:=by
  have hrun:(fn.results.mapM (qZI a'.tmps)).run P w'=.ok us.toArray w':=by
   rw[Array.mapM_eq_mapM_toList];simp only[Sem.run_map,h1,Result.andThen_ok]
  have hall:∀{ds:List D} {us:List Value},All2 (fun d v=>AR w' Z' loc' [] d v) ds us->ds.length=us.length:=by
   intro ds us h;induction h with|nil=>rfl|cons _ _ ih=>simp[ih]
  have hl:=hall h2
  by_cases hone:us.length=1
  ·cases h2 with
   |nil=>simp at hone
   | @cons d u l m g1 g2 =>
    cases g2 with
    |cons=>simp at hone
    |nil=>exact⟨u,by simp only[qMP,Sem.run_bind,hrun,Result.andThen_ok,Sem.run_pure];simp,g1⟩
  ·refine⟨.tuple us.toArray,?_,?_⟩
   ·simp only[qMP,Sem.run_bind,hrun,Result.andThen_ok,Sem.run_pure,List.size_toArray,hone,dif_neg,not_false_eq_true]
   ·have:qY1 ds=.t ds:=by
     cases ds with
     |nil=>rfl
     |cons d ds=>cases ds with|nil=>simp at hl;omega|cons=>rfl
    rw[this]
    exact .t (by simpa using qGa h2)
 obtain⟨v,hv1,hv2⟩:=hv
 obtain⟨fpr,hv3,hv4,hv5⟩:=qWA R' hexp hnd hv2
 have post:∃v_1 Z'_1 fpr,Ending.returned v=Ending.returned v_1/\Ext w w'/\AR w' Z'_1 qAi fpr res v_1/\fpr.Nodup/\(∀b∈fpr,¬Z'_1 b/\w.heap.size<=b/\b<w'.heap.size)/\(∀b,Z'_1 b->b<w'.heap.size/\(Z b\/w.heap.size<=b)):=by
  refine⟨v,Z',fpr,rfl,⟨R'.grow,fun b hb=>R'.frame b hb (by simp[E]),R'.os,R'.output,R'.tape⟩,hv3,hv4,fun b hb=>?_,fun b hb=>⟨R'.zlt b hb,?_⟩⟩
  ·obtain⟨id,ρ,_,h3,h4⟩:=hv5 b hb
   obtain⟨g1,g2,g3⟩:=R'.owned id ρ b h3 h4
   exact⟨g1,g3.elim (fun h=>h) (fun h=>by simp[E]at h),g2⟩
  ·rcases R'.znew b hb with h|h|h
   ·exact .inl h
   ·exact .inr h
   ·simp[E]at h
 cases e with
 |normal=>exact⟨R'.defers,v,hv1,post⟩
 |ret=>exact⟨R'.defers,v,hv1,post⟩
 |_=>exact he.elim
end Go.AM
end
section
namespace Go.AM
def Le (σ σ':St):Prop:=∀E a w,qSg E σ a w->qSg E σ' a w
theorem Le.refl (σ:St):Le σ σ:=fun _ _ _ h=>h
theorem Le.trans {a b c:St} (h:Le a b) (k:Le b c):Le a c:=fun E x w r=>k E x w (h E x w r)
theorem AW.le {P:Program} {c:Code} {Q:Exit->St->Prop} {σ σ':St} (h:Le σ σ') (k:AW P c Q σ'):AW P c Q σ:=fun E a w R=>k E a w (h E a w R)
theorem AO.le {P:Program} {ops:Array Oper} {l:List Oper} {Q:Exit->St->Prop} {σ σ':St} (h:Le σ σ') (k:AO P ops l Q σ'):AO P ops l Q σ:=fun h1 h2 E a w R=>k h1 h2 E a w (h E a w R)
@[reducible] def loopQS {α:Type} (S:α->St) (I:α->Prop) (μ:α->Nat) (s:α) (Q:Exit->St->Prop):Exit->St->Prop
 |.normal,σ=>∃s',I s'/\μ s'<μ s/\Le σ (S s')
 |.exit id,σ=>Q (.exit id) σ
 |.goto l,σ=>Q (.goto l) σ
 |.ret,σ=>Q .ret σ
 |.panic c,σ=>Q (.panic c) σ
 |.outgrown,σ=>Q .outgrown σ
theorem AW.loopS {P:Program} {c:Code} {Q:Exit->St->Prop} {σ:St} {α:Type} (S:α->St) (I:α->Prop) (μ:α->Nat) (s0:α) (hI:I s0) (h0:Le σ (S s0)) (round:∀s,I s->AW P c (loopQS S I μ s Q) (S s)):AW P (.loop c) Q σ:=by
 refine AW.loop (fun k σ=>∃s,I s/\μ s=k/\Le σ (S s)) (k:=μ s0) ⟨s0,hI,rfl,h0⟩ ?_
 rintro k σ ⟨s,hs,rfl,hle⟩
 refine AW.le hle (AW.mono (round s hs) ?_)
 intro e σ' h
 cases e with
 |normal=>obtain⟨s',h1,h2,h3⟩:=h;exact⟨μ s',h2,s',h1,rfl,h3⟩
 |_=>exact h
def sw (a b n:Nat):Nat:=bif Nat.beq n a then b else bif Nat.beq n b then a else n
theorem qYt (a b n:Nat):sw a b (sw a b n)=n:=by
 have e:∀x,sw a b x=if x=a then b else if x=b then a else x:=by
  intro x
  unfold sw
  by_cases h1:x=a
  ·subst h1;simp
  ·have:Nat.beq x a=false:=by cases hb:Nat.beq x a;rfl;exact absurd (Nat.eq_of_beq_eq_true hb) h1
   by_cases h2:x=b
   ·subst h2;simp[this,h1]
   ·have h2':Nat.beq x b=false:=by cases hb:Nat.beq x b;rfl;exact absurd (Nat.eq_of_beq_eq_true hb) h2
    simp[this,h2',h1,h2]
 rw[e (sw a b n),e n]
 split
 ·rename_i h;subst h
  split
  ·rename_i h;exact h
  ·simp
 ·split
  ·rename_i h1 h2;subst h2;simp
  ·rename_i h1 h2;simp[h1,h2]
def D.renC (a b:Nat):D->D
 |.r id lo n=>.r (sw a b id) lo n
 |.R id=>.R (sw a b id)
 |.p id o=>.p (sw a b id) o
 |.e id i k=>.e (sw a b id) i k
 |.m id=>.m (sw a b id)
 |d=>d
def D.renF (a b:Nat):D->D
 |.f fn caps=>.f fn (caps.map (D.renC a b))
 |d=>d.renC a b
def D.ren (a b:Nat):D->D
 |.g ds=>.g (ds.map (D.renF a b))
 |.t ds=>.t (ds.map (D.renF a b))
 |d=>d.renF a b
def Root.ren (a b:Nat):Root->Root
 |.box ds=>.box (ds.map (D.renF a b))
 |ρ=>ρ
def D.knownC (h:List (Nat×Root)):D->Bool
 |.r id _ _=>(get h id).isSome
 |.R id=>(get h id).isSome
 |.p id _=>(get h id).isSome
 |.e id _ _=>(get h id).isSome
 |.m id=>(get h id).isSome
 |.g _=>false
 |.t _=>false
 |.f _ _=>false
 |.c _ _=>false
 |_=>true
def D.knownF (h:List (Nat×Root)):D->Bool
 |.f _ caps=>caps.all (D.knownC h)
 |d=>d.knownC h
def D.known (h:List (Nat×Root)):D->Bool
 |.g ds=>ds.all (D.knownF h)
 |.t ds=>ds.all (D.knownF h)
 |d=>d.knownF h
def Root.known (h:List (Nat×Root)):Root->Bool
 |.box ds=>ds.all (D.knownF h)
 |.orow ..=>false
 |_=>true
def qUd (a b:Nat) (h:List (Nat×Root)) (loc:Nat->Option Loc):Nat->Option Loc:=fun id=>if (get h id).isSome=true then loc (sw a b id) else none
theorem qP8 {a b:Nat} {h:List (Nat×Root)} {loc:Nat->Option Loc} {id:Nat} {L:Loc} (hk:(get h (sw a b id)).isSome=true) (hl:loc id=some L):qUd a b h loc (sw a b id)=some L:=by
 unfold qUd;rw[if_pos hk,qYt];exact hl
section
variable {w:World} {Z:Nat->Prop} {loc:Nat->Option Loc} {a b:Nat} {h:List (Nat×Root)}
theorem qV0 {d:D} {v:Value} (hk:(d.renC a b).knownC h=true) (r:AR w Z loc [] d v):AR w Z (qUd a b h loc) [] (d.renC a b) v:=by
 generalize hfp:([]:List Nat)=fp at r
 cases r with
 |u=>exact .u
 |v=>exact .v
 |s0=>exact .s0
 |s h1 h2 h3 h4 h5 h6=>exact .s h1 h2 h3 h4 h5 h6
 |w0=>exact .w0
 |w=>cases hfp
 |r h1 h2 h3 h4 h5=>exact .r (qP8 hk h1) h2 h3 h4 h5
 |R h1 h2 h3 h4=>exact .R (qP8 hk h1) h2 h3 h4
 |p h1=>exact .p (qP8 hk h1)
 |e h1=>exact .e (qP8 hk h1)
 |q h1 h2 h3=>exact .q h1 h2 h3
 |pw=>cases hfp
 |g=>simp[D.renC,D.knownC]at hk
 |t=>simp[D.renC,D.knownC]at hk
 |f=>simp[D.renC,D.knownC]at hk
 |c=>simp[D.renC,D.knownC]at hk
 |m h1=>exact .m (qP8 hk h1)
 |mw=>cases hfp
 |pn=>cases hfp
 |mi h1 h2 h3=>exact .mi h1 h2 h3
theorem qTC {f:D->D} {p:D->Bool} (hf:∀d v,p (f d)=true->AR w Z loc [] d v->AR w Z (qUd a b h loc) [] (f d) v) {ds:List D} {vs:List Value} (hk:(ds.map f).all p=true) (r:ARL w Z loc [] ds vs):ARL w Z (qUd a b h loc) [] (ds.map f) vs:=by
 refine ARL.of_get (by simpa using r.length) fun i d v h1 h2=>?_
 rw[List.getElem?_map]at h1
 cases hd:ds[i]? with
 |none=>simp[hd]at h1
 |some d0 =>
  simp only[hd,Option.map_some,Option.some.injEq]at h1
  obtain⟨v',h3,h4,h5⟩:=r.get0 hd
  rw[h3]at h2;cases h2
  subst h1
  exact⟨h4,hf d0 v (List.all_eq_true.1 hk _ (List.mem_map.2 ⟨d0,List.mem_of_getElem? hd,rfl⟩)) h5⟩
theorem qRV {d:D} {v:Value} (hk:(d.renF a b).knownF h=true) (r:AR w Z loc [] d v):AR w Z (qUd a b h loc) [] (d.renF a b) v:=by
 by_cases hf:∃fn caps,d=.f fn caps
 ·obtain⟨fn,caps,rfl⟩:=hf
  cases r with|f h1=>exact .f (qTC (fun d v hk r=>qV0 hk r) hk h1)
 ·have e:d.renF a b=d.renC a b:=by cases d<;>first|rfl|exact absurd ⟨_,_,rfl⟩ hf
  rw[e]at hk⊢
  refine qV0 ?_ r
  cases d<;>first|exact hk|exact absurd ⟨_,_,rfl⟩ hf
theorem qXC {ds:List D} {vs:List Value} (hk:(ds.map (D.renF a b)).all (D.knownF h)=true) (r:ART w Z loc [] ds vs):ART w Z (qUd a b h loc) [] (ds.map (D.renF a b)) vs:=by
 induction ds generalizing vs with
 |nil=>generalize hfp:([]:List Nat)=fp at r;cases r;exact .nil
 |cons d ds ih =>
  generalize hfp:([]:List Nat)=fp at r
  simp only[List.map_cons,List.all_cons,Bool.and_eq_true]at hk
  cases r with
  | @cons _ fp1 fp2 _ v _ vs h1 h2 =>
   obtain⟨rfl,rfl⟩:fp1=[]/\fp2=[]:=List.append_eq_nil_iff.1 hfp.symm
   exact .cons (fp:=[]) (fp':=[]) (qRV hk.1 h1) (ih hk.2 h2)
theorem qaK {d:D} {v:Value} (hk:(d.ren a b).known h=true) (r:AR w Z loc [] d v):AR w Z (qUd a b h loc) [] (d.ren a b) v:=by
 by_cases hg:∃ds,d=.g ds
 ·obtain⟨ds,rfl⟩:=hg
  cases r with|g h1=>exact .g (qTC (fun d v hk r=>qRV hk r) hk h1)
 ·by_cases ht:∃ds,d=.t ds
  ·obtain⟨ds,rfl⟩:=ht
   cases r with|t h1=>exact .t (qXC hk h1)
  ·have e:d.ren a b=d.renF a b:=by cases d<;>first|rfl|exact absurd ⟨_,rfl⟩ hg|exact absurd ⟨_,rfl⟩ ht
   rw[e]at hk⊢
   refine qRV ?_ r
   cases d<;>first|exact hk|exact absurd ⟨_,rfl⟩ hg|exact absurd ⟨_,rfl⟩ ht
end
def qae (σ:St) (a b:Nat):List (Nat×D)->Prop
 | []=>True
 | (t,d')::l=>(∃d,get σ.t t=some d/\d.ren a b=d')/\qae σ a b l
def qaZ (σ:St) (a b:Nat):List (Nat×Root)->Prop
 | []=>True
 | (id',ρ')::l=>(∃ρ,get σ.h (sw a b id')=some ρ/\ρ.ren a b=ρ')/\qaZ σ a b l
theorem qTN {σ:St} {a b:Nat}:∀{l:List (Nat×D)} {t:Nat} {d':D},qae σ a b l->get l t=some d'->∃d,get σ.t t=some d/\d.ren a b=d'
 | [],t,d',_,h=>by simp[get]at h
 | (t0,d0)::l,t,d',hs,h=>by
  rw[qAa]at h
  split at h
  ·rename_i e;subst e;cases h;exact hs.1
  ·exact qTN hs.2 h
theorem qTX {σ:St} {a b:Nat}:∀{l:List (Nat×Root)} {t:Nat} {d':Root},qaZ σ a b l->get l t=some d'->∃d,get σ.h (sw a b t)=some d/\d.ren a b=d'
 | [],t,d',_,h=>by simp[get]at h
 | (t0,d0)::l,t,d',hs,h=>by
  rw[qAa]at h
  split at h
  ·rename_i e;subst e;cases h;exact hs.1
  ·exact qTX hs.2 h
def St.known (σ:St):Bool:=σ.t.all (fun x=>x.2.known σ.h)&&σ.h.all (fun x=>x.2.known σ.h)
theorem qKB {α:Type}:∀{l:List (Nat×α)} {t:Nat} {d:α},get l t=some d->(t,d)∈l
 | [],t,d,h=>by simp[get]at h
 | (t0,d0)::l,t,d,h=>by
  rw[qAa]at h
  split at h
  ·rename_i e;subst e;cases h;simp
  ·exact List.mem_cons_of_mem _ (qKB h)
def qT1 (σ σ':St) (a b:Nat):List (Nat×Loc)->Prop
 | []=>True
 | (id,L)::l=>((get σ'.h id).isSome=true/\get σ.g (sw a b id)=some L)/\qT1 σ σ' a b l
theorem qRF {σ σ':St} {a b:Nat}:∀{l:List (Nat×Loc)} {id:Nat} {L:Loc},qT1 σ σ' a b l->get l id=some L->(get σ'.h id).isSome=true/\get σ.g (sw a b id)=some L
 | [],id,L,_,h=>by simp[get]at h
 | (i,M)::l,id,L,hs,h=>by
  rw[qAa]at h
  split at h
  ·rename_i e;subst e;cases h;exact hs.1
  ·exact qRF hs.2 h
theorem Le.cut (a b:Nat) {σ σ':St} (hnt:σ'.nt=σ.nt) (ht:qae σ a b σ'.t) (hh:qaZ σ a b σ'.h) (hk:σ'.known=true) (hpin:qT1 σ σ' a b σ'.g:=by exact trivial):Le σ σ':=by
 rintro E act w ⟨Z,loc,fps,R⟩
 simp only[St.known,Bool.and_eq_true]at hk
 have ren_ne:∀{ρ ρ':Root},ρ.ren a b=ρ'->ρ'≠.dead->ρ≠.dead:=by
  intro ρ ρ' h hn e;subst e;exact hn h.symm
 have hlive:∀id' ρ',σ'.live id' ρ'->∃ρ,σ.live (sw a b id') ρ/\ρ.ren a b=ρ':=by
  rintro id' ρ' ⟨h1,h2⟩
  obtain⟨ρ,h3,h4⟩:=qTX hh h1
  exact⟨ρ,⟨h3,ren_ne h4 h2⟩,h4⟩
 refine⟨Z,qUd a b σ'.h loc,fun id=>fps (sw a b id),?_⟩
 refine { R with size:=by rw[hnt];exact R.size,temps:=?_,roots:=?_,nodup:=?_,disj:=?_,owned:=?_,fresh:=?_,pins:=?_ }
 ·intro t d' hd
  obtain⟨d,h1,h2⟩:=qTN ht hd
  obtain⟨v,h3,h4⟩:=R.temps t d h1
  subst h2
  exact⟨v,h3,qaK (List.all_eq_true.1 hk.1 (t,d.ren a b) (qKB hd)) h4⟩
 ·intro id' ρ' hl
  obtain⟨ρ,hl',hr⟩:=hlive id' ρ' hl
  obtain⟨L,h1,h2⟩:=R.roots _ _ hl'
  refine⟨L,?_,?_⟩
  ·unfold qUd;rw[if_pos (by rw[hl.1];rfl)];exact h1
  ·subst hr
   have hkn:=List.all_eq_true.1 hk.2 (id',ρ.ren a b) (qKB hl.1)
   cases ρ with
   |box ds =>
    obtain⟨e1,e2,arr,el,h3,h4⟩:=h2
    exact⟨e1,e2,arr,el,h3,qTC (fun d v hk r=>qRV hk r) hkn h4⟩
   |row sz xs=>exact h2
   |orow=>simp[Root.ren,Root.known]at hkn
   |map es=>exact h2
   |limb ds vs=>exact h2
   |bld _ T U l=>exact h2
   |dead=>trivial
 ·intro id' ρ' hl
  obtain⟨ρ,hl',hr⟩:=hlive id' ρ' hl
  exact R.nodup _ _ hl'
 ·intro i j ρ1 ρ2 c hi hj hbi hbj
  obtain⟨_,hl1,_⟩:=hlive i ρ1 hi
  obtain⟨_,hl2,_⟩:=hlive j ρ2 hj
  have:=R.disj _ _ _ _ c hl1 hl2 hbi hbj
  have h3:=congrArg (sw a b) this
  rwa [qYt,qYt]at h3
 ·intro i ρ' c hl hb
  obtain⟨_,hl1,_⟩:=hlive i ρ' hl
  exact R.owned _ _ c hl1 hb
 ·intro id' hid
  unfold qUd;rw[if_neg (by rw[hid];simp)]
 ·intro id' L hp
  obtain⟨h1,h2⟩:=qRF hpin hp
  unfold qUd;rw[if_pos h1];exact R.pins _ _ h2
theorem Le.ct (a b:Nat) {σ σ':St} (hnt:σ'.nt=σ.nt:=by exact rfl) (ht:qae σ a b σ'.t:=by repeat' (first|exact trivial|refine⟨⟨_,rfl,rfl⟩,?_⟩)) (hh:qaZ σ a b σ'.h:=by repeat' (first|exact trivial|refine⟨⟨_,rfl,rfl⟩,?_⟩))
 (hk:σ'.known=true:=by exact rfl) (hpin:qT1 σ σ' a b σ'.g:=by exact trivial):Le σ σ':=Le.cut a b hnt ht hh hk hpin
theorem Le.void {σ:St} (t id sz:Nat) {k:Nat} (ht:get σ.t t=some (.w k [])) (hid:get σ.h id=none):Le σ { σ with t:=(t,.R id)::σ.t,h:=(id,.row sz [])::σ.h }:=by
 rintro E a w ⟨Z,loc,fps,R⟩
 have R':=R.adopt hid (ρ:=.row sz []) (L:=⟨0,0,sz,0,0⟩) (fp0:=[]) (by simp) (by simp) ⟨rfl,by simp,by simp,by simp,.inl ⟨rfl,rfl⟩⟩
 refine⟨_,_,_,{ R' with temps:=?_ }⟩
 intro t' d hd
 simp only[qAa]at hd
 split at hd
 ·rename_i e;subst e;cases hd
  obtain⟨v,h1,h2⟩:=R.temps t' _ ht
  refine⟨v,h1,?_⟩
  generalize hfp:([]:List Nat)=fp at h2
  cases h2 with
  |w0=>exact AR.R (L:=⟨0,0,sz,0,0⟩) (qCX _ _ _) (Nat.le_refl _) (by simp) (.inl rfl)
  |w=>cases hfp
 ·exact R'.temps t' d hd
theorem Le.voidBox {σ:St} (ib off id sz:Nat) {k:Nat} {ds:List D} (hb:get σ.h ib=some (.box ds)) (hd:ds[off]?=some (.w k [])) (hid:get σ.h id=none) (hne:Nat.beq ib id=false):Le σ { σ with h:=(ib,.box (ds.set off (.R id)))::(id,.row sz [])::σ.h }:=by
 rintro E a w ⟨Z,loc,fps,R⟩
 have hne':ib≠id:=fun e=>by subst e;simp at hne
 have R':=R.adopt hid (ρ:=.row sz []) (L:=⟨0,0,sz,0,0⟩) (fp0:=[]) (by simp) (by simp) ⟨rfl,by simp,by simp,by simp,.inl ⟨rfl,rfl⟩⟩
 have hb':get ((id,Root.row sz [])::σ.h) ib=some (.box ds):=by rw[qAa,if_neg hne'];exact hb
 obtain⟨L,hL,e1,e2,arr,el,h3,h4⟩:=R'.roots ib _ ⟨hb',by simp⟩
 have:=Rel.setRoot (ks:=[]) (L0:=L) (ρ0:=.box (ds.set off (.R id))) (fp0:=qHN fps id [] ib) R' (Nat.le_refl _) (fun _ _ _=>rfl) (fun _ _=>rfl) rfl rfl ⟨rfl,Nat.le_refl _⟩
  (fun b hb2=>⟨(R'.owned ib _ b ⟨hb',by simp⟩ hb2).2.1,.inr ⟨ib,_,.inl rfl,⟨hb',by simp⟩,hb2⟩⟩) (R'.nodup ib _ ⟨hb',by simp⟩) (.inr hL) (fun _ h=>h) (fun _ h=>.inl h) (by
   refine⟨e1,e2,arr,el,h3,?_⟩
   have hlm:∀i L',qNE loc id ⟨0,0,sz,0,0⟩ i=some L'->qNE (qNE loc id ⟨0,0,sz,0,0⟩) ib L i=some L':=by
    intro i L' hi
    by_cases e:i=ib
    ·subst e;simp only[qNE,if_true];exact hL.symm.trans hi
    ·unfold qNE at hi⊢;rw[if_neg e];exact hi
   refine ARL.of_get (by simpa using h4.length) fun i d v h5 h6=>?_
   rw[List.getElem?_set]at h5
   split at h5
   ·rename_i ei
    subst ei
    split at h5
    ·cases h5
     obtain⟨v',g1,g2,g3⟩:=h4.get0 hd
     rw[g1]at h6;cases h6
     refine⟨g2,?_⟩
     generalize hfp:([]:List Nat)=fp at g3
     cases g3 with
     |w0=>exact AR.R (L:=⟨0,0,sz,0,0⟩) (hlm _ _ (qCX _ _ _)) (Nat.le_refl _) (by simp) (.inl rfl)
     |w=>cases hfp
    ·cases h5
   ·obtain⟨v',g1,g2,g3⟩:=h4.get0 h5
    rw[g1]at h6;cases h6
    exact⟨g2,g3.mono (fun _ h=>h) hlm (fun _ _=>rfl)⟩)
 exact⟨_,_,_,this⟩
end Go.AM
end
section
namespace Go.AM
def qap (l:List (Option TI)):TE:=fun t=>match l[t]? with|some x=>x|none=>none
def qVp (P:Program) (l:List (Option TI)):List (Option (Option TI)):=l.zipIdx.map fun x=>x.1.map fun _=>qau P x.2
theorem qY0 {P:Program} {l:List (Option TI)} (h:qVp P l=l.map (Option.map some)):qGz P (qap l):=by
 intro t ti ht
 unfold qap at ht
 split at ht
 ·rename_i x hx
  subst ht
  have h2:=congrArg (·[t]?) h
  simp only[qVp,List.getElem?_map,List.getElem?_zipIdx,hx,Option.map_some,Nat.zero_add]at h2
  simpa using h2
 ·cases ht
end Go.AM
end
section
namespace Go.AM
def D.noC:D->Bool|.v _=>true|.s _=>true|.q _=>true|.u=>true|_=>false
def D.noG:D->Bool|.g ds=>ds.all D.noC|d=>d.noC
def D.noT:D->Bool|.t ds=>ds.all D.noG|d=>d.noG
section
variable {w:World} {Z:Nat->Prop} {loc:Nat->Option Loc}
theorem qX0 {fp d v} (h:d.noC=true) (r:AR w Z loc fp d v):fp=[]:=by
 cases r<;>first|rfl|(simp[D.noC]at h;done)
theorem qYR:∀{ds fp vs},ds.all D.noC=true->ARL w Z loc fp ds vs->fp=[]:=by
 intro ds
 induction ds with
 |nil=>intro fp vs _ r;cases r;rfl
 |cons d ds ih=>intro fp vs h r;simp only[List.all_cons,Bool.and_eq_true]at h;cases r with|cons h0 h1 h2=>rw[qX0 h.1 h1,ih h.2 h2];rfl
theorem qX4 {fp d v} (h:d.noG=true) (r:AR w Z loc fp d v):fp=[]:=by
 by_cases hg:∃ds,d=.g ds
 ·obtain⟨ds,rfl⟩:=hg;cases r with|g h1=>exact qYR h h1
 ·exact qX0 (by cases d<;>first|exact h|exact absurd ⟨_,rfl⟩ hg) r
theorem qYX:∀{ds fp vs},ds.all D.noG=true->ART w Z loc fp ds vs->fp=[]:=by
 intro ds
 induction ds with
 |nil=>intro fp vs _ r;cases r;rfl
 |cons d ds ih=>intro fp vs h r;simp only[List.all_cons,Bool.and_eq_true]at h;cases r with|cons h1 h2=>rw[qX4 h.1 h1,ih h.2 h2];rfl
theorem qX1 {fp d v} (h:d.noT=true) (r:AR w Z loc fp d v):fp=[]:=by
 by_cases hg:∃ds,d=.t ds
 ·obtain⟨ds,rfl⟩:=hg;cases r with|t h1=>exact qYX h h1
 ·exact qX4 (by cases d<;>first|exact h|exact absurd ⟨_,rfl⟩ hg) r
end
section
variable {P:Program} {σ:St} {o:Oper}
theorem zV {f:FuncId} {callee:Operand} {args:Array Operand} {ts:Array TypeId} {caps ds:List D} {res:D} (ho:o.op=.call { callee:=.value callee,args:=args,argTypes:=ts })
  (hc:σ.ev callee=some (.f f caps)) (ha:evs σ args.toList=some ds) (hfree:(ds.all D.free&&caps.all D.free)=true) (S:qAC P f (ds++caps) res) (hno:res.noT=true):OpV P σ o res:=by
 intro E a w Z loc fps R
 have hcv:=R.ev hc
 generalize hav:a.eval callee=cv at hcv
 simp only[Bool.and_eq_true]at hfree
 cases hcv with
 | @f _ _ _ _ arr hcaps =>
  unfold Oper.wp
  rw[qG5 ho hav S.1]
  have hargs:=qIx R ha
  have free2:∀{ds:List D} {vs:List Value},ds.all D.free=true->All2 (fun d v=>AR w Z loc [] d v) ds vs->All2 (fun d v=>AR w Z qAi [] d v) ds vs:=by
   intro ds
   induction ds with
   |nil=>intro vs _ h;cases h;exact .nil
   |cons d ds ih=>intro vs hf h;cases h with|cons h1 h2=>simp only[List.all_cons,Bool.and_eq_true]at hf;exact .cons (h1.free hf.1 qAi) (ih hf.2 h2)
  have hart:ART w Z qAi [] (ds++caps) (args.map a.eval++arr).toList:=by
   have:=qOK (qGa (free2 hfree.1 hargs)) (qMH (ARL.of_all (fun d v hd r=>r.free hd qAi) hfree.2 hcaps))
   simpa using this
  refine Calls.mono (S.2 w Z _ hart R.zlt R.globZ) ?_
  rintro e w' ⟨v,Z',fpr,rfl,X,hr,hnd,hfp,hz⟩
  obtain rfl:=qX1 hno hr
  refine⟨v,fun b=>Z b\/(w.heap.size<=b/\Z' b),rfl,X,⟨fun b h=>.inl h,?_⟩,hr.mono ?_ (fun _ _ h=>by simp[qAi]at h) (fun _ _=>rfl)⟩
  ·rintro b (h|⟨h1,h2⟩)
   ·exact .inl h
   ·exact .inr ⟨h1,(hz b h2).1⟩
  ·intro b hb
   rcases (hz b hb).2 with h|h
   ·exact .inl h
   ·exact .inr ⟨h,hb⟩
theorem qPi {w Z loc}:∀{ds:List D} {vs:List Value},ARL w Z loc [] ds vs->All2 (fun d v=>AR w Z loc [] d v) ds vs:=by
 intro ds
 induction ds with
 |nil=>intro vs h;generalize hfp:([]:List Nat)=fp at h;cases h;exact .nil
 |cons d ds ih =>
  intro vs h
  generalize hfp:([]:List Nat)=fp at h
  cases h with
  | @cons _ fp1 fp2 _ v _ vs h0 h1 h2 =>
   obtain⟨rfl,rfl⟩:fp1=[]/\fp2=[]:=List.append_eq_nil_iff.1 hfp.symm
   exact .cons h1 (ih h2)
theorem All2.append {α β:Type} {R:α->β->Prop}:∀{l l':List α} {m m':List β},All2 R l m->All2 R l' m'->All2 R (l++l') (m++m')
 |_,_,_,_,.nil,h=>h
 |_,_,_,_,.cons h1 h2,h=>.cons h1 (All2.append h2 h)
theorem zLV {f:FuncId} {callee:Operand} {args:Array Operand} {ts:Array TypeId} {caps ds es:List D} {res:D} (ho:o.op=.call { callee:=.value callee,args:=args,argTypes:=ts })
  (hc:σ.ev callee=some (.f f caps)) (ha:evs σ args.toList=some ds) (hl:lends σ (ds++caps) es) (S:qAC P f es res) (hzf:res.zfree) (hno:res.noT=true):OpV P σ o res:=by
 intro E a w Z loc fps R
 have hcv:=R.ev hc
 generalize hav:a.eval callee=cv at hcv
 cases hcv with
 | @f _ _ _ _ arr hcaps =>
  unfold Oper.wp
  rw[qG5 ho hav S.1]
  have hargs:=qIx R ha
  have hart:ART w (fun b=>b<w.heap.size) qAi [] es (args.map a.eval++arr).toList:=by
   have:=R.lends hl (All2.append hargs (qPi hcaps))
   simpa using this
  refine Calls.mono (S.2 w _ _ hart (fun _ h=>h) R.glob.all) ?_
  rintro e w' ⟨v,Z',fpr,rfl,X,hr,hnd,hfp,hz⟩
  obtain rfl:=qX1 hno hr
  exact⟨v,Z,rfl,X,⟨fun _ h=>h,fun _ h=>.inl h⟩,(hzf _ _ _ _ _ _ hr).mono (fun _ h=>h) (fun _ _ h=>by simp[qAi]at h) (fun _ _=>rfl)⟩
def qRy (k:Nat):List Nat->Bool
 | []=>false
 |n::l=>Nat.beq k n||qRy k l
def qZG (ks:List Nat) (k:Nat):D->D
 |.c b d=>bif qRy k ks then d else .c b d
 |d=>d
def qaV (ks:List Nat):List (Nat×D)->List (Nat×D)
 | []=>[]
 | (k,d)::l=>(k,qZG ks k d)::qaV ks l
def St.unc (σ:St) (ks:List Nat):St:={ σ with t:=qaV ks σ.t }
def qIu (σ:St) (g:Bool):List Nat->Prop
 | []=>True
 |k::l=>(match get σ.t k with|some (.c b _)=>(g=true->b=true)|_=>True)/\qIu σ g l
theorem qRU {k:Nat}:∀{l:List Nat},qRy k l=true->k∈l
 | [],h=>by simp[qRy]at h
 |n::l,h=>by
  simp only[qRy,Bool.or_eq_true]at h
  rcases h with h|h
  ·exact List.mem_cons.2 (.inl (Nat.eq_of_beq_eq_true h))
  ·exact List.mem_cons_of_mem _ (qRU h)
theorem qM7 {g:Bool}:∀{l:List Nat} {k:Nat} {b:Bool} {d:D},qIu σ g l->k∈l->get σ.t k=some (.c b d)->g=true->b=true
 | [],_,_,_,_,h,_=>by simp at h
 |n::l,k,b,d,hc,hm,hg=>by
  rcases List.mem_cons.1 hm with rfl|hm
  ·have:=hc.1;rw[hg]at this;exact this
  ·exact qM7 hc.2 hm hg
theorem qRO {ks:List Nat}:∀{l:List (Nat×D)} {t:Nat} {d:D},get (qaV ks l) t=some d->∃d0,get l t=some d0/\d=qZG ks t d0
 | [],t,d,h=>by simp[qaV,get]at h
 | (k,d0)::l,t,d,h=>by
  simp only[qaV,qAa]at h
  rw[qAa]
  split at h
  ·rename_i e;subst e;cases h;exact⟨d0,by simp,rfl⟩
  ·rename_i e
   obtain⟨d1,h1,h2⟩:=qRO h
   exact⟨d1,by rw[if_neg e];exact h1,h2⟩
def St.gval (ops:Array Oper) (σ:St) (o:Oper):Option Bool :=
 match o.guard with
 |none=>none
 |some (j,want) =>
  match (ops[j]?).bind (·.dst) with
  |some k=>(match get σ.t k with|some (.v (.bool b))=>some (bif want then b else !b)|some (.c g (.v (.bool b)))=>some (g&&(bif want then b else !b))|_=>none)
  |none=>none
theorem RelV.gval {E a w Z loc fps} (R:RelV E σ a w Z loc fps) {ops:Array Oper} {g:Bool} (h:σ.gval ops o=some g):Region.wanted o (yielded ops a.tmps)=g:=by
 unfold St.gval at h
 unfold Region.wanted
 split at h
 ·cases h
 ·rename_i j want hg
  simp only[hg]
  split at h
  ·rename_i k hk
   split at h
   ·rename_i b hb
    cases h
    obtain⟨v,h1,h2⟩:=R.temps _ _ hb
    cases h2
    cases want<;>cases b<;>simp[yielded,hk,h1]
   ·rename_i g1 b hb
    cases h
    obtain⟨v,h1,h2⟩:=R.temps _ _ hb
    cases h2 with
    |c h3 h4 =>
     cases g1 with
     |true=>have:=h3 rfl;cases this;cases want<;>cases b<;>simp[yielded,hk,h1]
     |false=>have:=h4 rfl;subst this;cases want<;>simp[yielded,hk,h1,undef]
   ·cases h
  ·cases h
variable {Q:Exit->St->Prop} {ops:Array Oper} {rest:List Oper}
theorem AO.d {g:Bool} {d:D} (ks:List Nat) (hg:σ.gval ops o=some g) (hc:qIu σ g ks) (hop:g=true->OpV P (σ.unc ks) o d) (hd:qBb σ o=true) (hr:AO P ops rest Q (σ.put o.dst (.c g d))):AO P ops (o::rest) Q σ:=by
 rintro hd' hl E a w ⟨Z,loc,fps,R⟩
 obtain⟨h1,h2,h3⟩:=AO.idx hd' hl
 rw[h3]
 have hw:=R.gval hg
 simp only[wpOps,h1,hw]
 cases g with
 |false =>
  simp only[Bool.false_eq_true,if_false]
  exact hr h2 (by simp at hl;omega) E _ w ⟨Z,loc,fps,R.put (qA7 hd) (.c (fun e=>by cases e) fun _=>rfl)⟩
 |true =>
  simp only[if_true]
  have R':Rel E (σ.unc ks) a w Z loc fps:=by
   refine { R with temps:=?_ }
   intro t d ht
   obtain⟨d0,h4,rfl⟩:=qRO ht
   obtain⟨v,h5,h6⟩:=R.temps t d0 h4
   refine⟨v,h5,?_⟩
   by_cases hcc:∃b d1,d0=.c b d1
   ·obtain⟨b,d1,rfl⟩:=hcc
    simp only[qZG]
    cases hm:qRy t ks
    ·exact h6
    ·have:=qM7 hc (qRU hm) h4 rfl
     cases h6 with|c h7=>exact h7 this
   ·have:qZG ks t d0=d0:=by cases d0<;>first|rfl|exact absurd ⟨_,_,rfl⟩ hcc
    rw[this];exact h6
  refine .inl (Oper.wp_mono ?_ (Oper.wp_false (hop rfl E a w Z loc fps R'.toRelV)))
  rintro a' w' ⟨v,Z',rfl,X,hz,hv⟩
  exact hr h2 (by simp at hl;omega) E _ w' ⟨Z',loc,fps,(R.grown X hz).put (qA7 hd) (.c (fun _=>hv) fun e=>by cases e)⟩
theorem AO.v {d:D} (hw:σ.wants ops o=some true) (hd:qBb σ o=true) (h:OpV P σ o d) (hr:AO P ops rest Q (σ.put o.dst d)):AO P ops (o::rest) Q σ:=AO.s hw (h.ok hd) hr
theorem AO.g {te:TE} (T:qGz P te) {g:Bool} {d:D} (ks:List Nat) (hg:σ.gval ops o=some g) (hc:qIu σ g ks) (hd:qBb σ o=true) (h:qMX te (σ.unc ks) o.op=some d) (hr:AO P ops rest Q (σ.put o.dst (.c g d))):AO P ops (o::rest) Q σ :=
 AO.d ks hg hc (fun _=>qNA T h) hd hr
theorem zN {c x:Operand} {b b' r:Bool} (ho:o.op=.pick c x (.const (.bool false))) (hc:σ.ev c=some (.v (.bool b))) (hx:σ.ev x=some (.c b' (.v (.bool r)))) (hb:b'=b):OpV P σ o (.v (.bool (b&&r))):=by
 refine OpV.of_val fun E a w Z loc fps R=>?_
 subst hb
 have h1:=R.ev hc;have h2:=R.ev hx
 generalize hac:a.eval c=vc at h1
 generalize hax:a.eval x=vx at h2
 cases h1
 cases h2 with
 |c h3 =>
  refine⟨.bool (b'&&r),?_,.v⟩
  cases b' with
  |false=>simp[execOp,ho,hac,asBool];rfl
  |true =>
   have:=h3 rfl
   cases this
   simp[execOp,ho,hac,hax,asBool]
theorem zO {c y:Operand} {b b' r:Bool} (ho:o.op=.pick c (.const (.bool true)) y) (hc:σ.ev c=some (.v (.bool b))) (hy:σ.ev y=some (.c b' (.v (.bool r)))) (hb:b'=!b):OpV P σ o (.v (.bool (b||r))):=by
 refine OpV.of_val fun E a w Z loc fps R=>?_
 subst hb
 have h1:=R.ev hc;have h2:=R.ev hy
 generalize hac:a.eval c=vc at h1
 generalize hay:a.eval y=vy at h2
 cases h1
 cases h2 with
 |c h3 =>
  refine⟨.bool (b||r),?_,.v⟩
  cases b with
  |true=>simp[execOp,ho,hac,asBool];rfl
  |false =>
   have:=h3 rfl
   cases this
   simp[execOp,ho,hac,hay,asBool]
end
end Go.AM
end
section
namespace Go.AM
def qNp (o:Oper) (j:Nat):Bool:=o.after.any fun e=>Nat.beq e.on j&&Region.binds .any e
def qUi (acc:List Nat) (o:Oper):Nat:=o.after.toList.foldl (fun m e=>bif Region.binds .any e then m ||| (1 <<< e.on) ||| acc.getD e.on 0 else m) 0
def qUg:List Oper->List Nat->List Nat
 | [],acc=>acc
 |o::l,acc=>qUg l (acc++[qUi acc o])
def qHX (ops:Array Oper) (i j:Nat):Bool:=((qUg ops.toList []).getD i 0).testBit j
def qYu (oj:Oper) (ks:List Nat):Bool:=match oj.dst with|some d=>qRy d ks|none=>false
def qYP (oi oj:Oper):Bool:=match oi.dst,oj.dst with|some d,some d'=>!(Nat.beq d d')|_,_=>true
def qTa (ops:Array Oper) (m:Nat):Bool :=
 Nat.ble m ops.size&&(List.range ops.size).all fun i=>match ops[i]? with
  |none=>false
  |some oi=>(oi.after.all fun e=>!Region.binds .any e||Nat.blt e.on i)&&(List.range ops.size).all fun j=>Nat.beq i j||(match ops[j]? with
   |none=>false
   |some oj =>
    (bif qYu oj (oi.looksAt ops) then (bif Nat.blt j i then qNp oi j else qNp oj i) else true) &&
    (bif (Nat.blt i m&&Nat.blt j m) then qYP oi oj else true) &&
    (bif (Nat.ble m i&&Nat.blt j i) then qHX ops i j else true))
def St.only (σ:St) (ks:List Nat) (h:List (Nat×Root)):St:=⟨σ.t.filter (fun x=>qRy x.1 ks),h,σ.nt,[]⟩
theorem qKf {α:Type} (p:Nat->Bool):∀{l:List (Nat×α)} {t:Nat} {d:α},get (l.filter fun x=>p x.1) t=some d->get l t=some d/\p t=true
 | [],t,d,h=>by simp[get]at h
 | (k,a)::l,t,d,h=>by
  rw[List.filter_cons]at h
  rw[qAa]
  split at h
  ·rename_i hp
   rw[qAa]at h
   split at h
   ·rename_i e;subst e;cases h;exact⟨by simp,hp⟩
   ·rename_i e;rw[if_neg e];exact qKf p h
  ·rename_i hp
   by_cases e:t=k
   ·subst e
    have:=(qKf p h).2
    exact absurd this hp
   ·rw[if_neg e];exact qKf p h
def qJy (P:Program) (ops:Array Oper) (o:Oper) (a:Act) (w:World) (K:Act->World->Prop):Prop :=
 if Region.wanted o (yielded ops a.tmps)=true then o.wp P a w K (fun _ _ _=>False) else K (a.put o.dst undef) w
def FStep (P:Program) (ops:Array Oper) (τ:St) (o:Oper) (d:D) (rs:List (Nat×Root)) (k k':Nat):Prop :=
 ∀E σ a w,(∀t d,get τ.t t=some d->get σ.t t=some d)->(∀id ρ,get τ.h id=some ρ->get σ.h id=some ρ)->σ.nt=τ.nt->σ.freshIn k k'->qSg E σ a w->
  qJy P ops o a w (fun a' w'=>qSg E (St.put { σ with h:=rs++σ.h } o.dst d) a' w')
theorem Rel.toOnly {E σ a w Z loc fps} (R:Rel E σ a w Z loc fps) {τ:St} (h1:∀t d,get τ.t t=some d->get σ.t t=some d) (h2:∀id ρ,get τ.h id=some ρ->get σ.h id=some ρ) (h3:σ.nt=τ.nt):RelV E τ a w Z loc fps:=by
 have hl:∀id ρ,τ.live id ρ->σ.live id ρ:=fun id ρ h=>⟨h2 id ρ h.1,h.2⟩
 refine { R.toRelV with size:=?_,temps:=?_,roots:=?_,nodup:=?_,disj:=?_,owned:=?_ }
 ·rw[<-h3];exact R.size
 ·exact fun t d h=>R.temps t d (h1 t d h)
 ·exact fun id ρ h=>R.roots id ρ (hl id ρ h)
 ·exact fun id ρ h=>R.nodup id ρ (hl id ρ h)
 ·exact fun i j ρ ρ' b hi hj=>R.disj i j ρ ρ' b (hl i ρ hi) (hl j ρ' hj)
 ·exact fun i ρ b hi=>R.owned i ρ b (hl i ρ hi)
section
variable {P:Program} {ops:Array Oper} {τ:St} {o:Oper}
theorem FStep.val {d:D} {k:Nat} (hw:τ.wants ops o=some true) (hd:qBb τ o=true) (h:OpV P τ o d):FStep P ops τ o d [] k k:=by
 rintro E σ a w h1 h2 h3 _ ⟨Z,loc,fps,R⟩
 have RV:=R.toOnly h1 h2 h3
 unfold qJy
 rw[if_pos (RV.wants hw)]
 refine Oper.wp_mono ?_ (h E a w Z loc fps RV)
 rintro a' w' ⟨v,Z',rfl,X,hz,hv⟩
 exact⟨Z',loc,fps,(R.grown X hz).put (fun k hk=>by rw[h3];exact qA7 hd k hk) hv⟩
theorem FStep.skip {k:Nat} (hw:τ.wants ops o=some false) (hd:qBb τ o=true):FStep P ops τ o .u [] k k:=by
 rintro E σ a w h1 h2 h3 _ ⟨Z,loc,fps,R⟩
 have RV:=R.toOnly h1 h2 h3
 unfold qJy
 rw[if_neg (by rw[RV.wants hw];simp)]
 exact⟨Z,loc,fps,R.put (fun k hk=>by rw[h3];exact qA7 hd k hk) .u⟩
theorem RelV.uncd {E a w Z loc fps} (R:RelV E τ a w Z loc fps) {ks:List Nat} (hc:qIu τ true ks):RelV E (τ.unc ks) a w Z loc fps:=by
 refine { R with temps:=?_ }
 intro t d ht
 obtain⟨d0,h4,rfl⟩:=qRO ht
 obtain⟨v,h5,h6⟩:=R.temps t d0 h4
 refine⟨v,h5,?_⟩
 by_cases hcc:∃b d1,d0=.c b d1
 ·obtain⟨b,d1,rfl⟩:=hcc
  simp only[qZG]
  cases hm:qRy t ks
  ·exact h6
  ·have:=qM7 hc (qRU hm) h4 rfl
   cases h6 with|c h7=>exact h7 this
 ·have:qZG ks t d0=d0:=by cases d0<;>first|rfl|exact absurd ⟨_,_,rfl⟩ hcc
  rw[this];exact h6
theorem FStep.guard {g:Bool} {d:D} {k:Nat} (ks:List Nat) (hg:τ.gval ops o=some g) (hc:qIu τ g ks) (hop:g=true->OpV P (τ.unc ks) o d) (hd:qBb τ o=true):FStep P ops τ o (.c g d) [] k k:=by
 rintro E σ a w h1 h2 h3 _ ⟨Z,loc,fps,R⟩
 have RV:=R.toOnly h1 h2 h3
 unfold qJy
 have hw:=RV.gval hg
 have hdst:∀k,o.dst=some k->k<σ.nt:=fun k hk=>by rw[h3];exact qA7 hd k hk
 cases g with
 |false =>
  rw[if_neg (by rw[hw];simp)]
  exact⟨Z,loc,fps,R.put hdst (.c (fun e=>by cases e) fun _=>rfl)⟩
 |true =>
  rw[if_pos hw]
  refine Oper.wp_mono ?_ (hop rfl E a w Z loc fps (RV.uncd hc))
  rintro a' w' ⟨v,Z',rfl,X,hz,hv⟩
  exact⟨Z',loc,fps,(R.grown X hz).put hdst (.c (fun _=>hv) fun e=>by cases e)⟩
theorem FStep.call {f:FuncId} {callee:Operand} {args:Array Operand} {ts:Array TypeId} {caps ds:List D} {res:D} {k:Nat} (ho:o.op=.call { callee:=.value callee,args:=args,argTypes:=ts }) (hw:τ.wants ops o=some true)
  (hc:τ.ev callee=some (.f f caps)) (ha:evs τ args.toList=some ds) (hfree:(ds.all D.free&&caps.all D.free)=true) (S:qAC P f (ds++caps) res) (hok:res.tOk=true) (hd:qBb τ o=true) :
  FStep P ops τ o (qJn k res).1 (qJn k res).2.1 k (qJn k res).2.2:=by
 rintro E σ a w h1 h2 h3 hfr ⟨Z,loc,fps,R⟩
 have RV:=R.toOnly h1 h2 h3
 unfold qJy
 rw[if_pos (RV.wants hw)]
 have hcv:=RV.ev hc
 generalize hav:a.eval callee=cv at hcv
 simp only[Bool.and_eq_true]at hfree
 cases hcv with
 | @f _ _ _ _ arr hcaps =>
  unfold Oper.wp
  rw[qG5 ho hav S.1]
  have hargs:=qIx RV ha
  have free2:∀{ds:List D} {vs:List Value},ds.all D.free=true->All2 (fun d v=>AR w Z loc [] d v) ds vs->All2 (fun d v=>AR w Z qAi [] d v) ds vs:=by
   intro ds
   induction ds with
   |nil=>intro vs _ h;cases h;exact .nil
   |cons d ds ih=>intro vs hf h;cases h with|cons h1 h2=>simp only[List.all_cons,Bool.and_eq_true]at hf;exact .cons (h1.free hf.1 qAi) (ih hf.2 h2)
  have hart:ART w Z qAi [] (ds++caps) (args.map a.eval++arr).toList:=by
   have:=qOK (qGa (free2 hfree.1 hargs)) (qMH (ARL.of_all (fun d v hd r=>r.free hd qAi) hfree.2 hcaps))
   simpa using this
  refine Calls.mono (S.2 w Z _ hart R.zlt R.globZ) ?_
  rintro e w' ⟨v,Z',fpr,rfl,X,hr,hnd,hfp,hz⟩
  exact R.after X hr hnd hfp hz (.inl fun _ h=>h) hfr hok (fun k hk=>by rw[h3];exact qA7 hd k hk)
theorem FStep.callL {f:FuncId} {callee:Operand} {args:Array Operand} {ts:Array TypeId} {caps ds es:List D} {res:D} {k:Nat} (ho:o.op=.call { callee:=.value callee,args:=args,argTypes:=ts }) (hw:τ.wants ops o=some true)
  (hc:τ.ev callee=some (.f f caps)) (ha:evs τ args.toList=some ds) (hl:lends τ (ds++caps) es) (S:qAC P f es res) (hzf:res.zfree) (hok:res.tOk=true) (hd:qBb τ o=true) :
  FStep P ops τ o (qJn k res).1 (qJn k res).2.1 k (qJn k res).2.2:=by
 rintro E σ a w h1 h2 h3 hfr ⟨Z,loc,fps,R⟩
 have RV:=R.toOnly h1 h2 h3
 unfold qJy
 rw[if_pos (RV.wants hw)]
 have hcv:=RV.ev hc
 generalize hav:a.eval callee=cv at hcv
 cases hcv with
 | @f _ _ _ _ arr hcaps =>
  unfold Oper.wp
  rw[qG5 ho hav S.1]
  have hargs:=qIx RV ha
  have hart:ART w (fun b=>b<w.heap.size) qAi [] es (args.map a.eval++arr).toList:=by
   have:=RV.lends hl (All2.append hargs (qPi hcaps))
   simpa using this
  refine Calls.mono (S.2 w _ _ hart (fun _ h=>h) R.glob.all) ?_
  rintro e w' ⟨v,Z',fpr,rfl,X,hr,hnd,hfp,hz⟩
  exact R.after X hr hnd hfp hz (.inr hzf) hfr hok (fun k hk=>by rw[h3];exact qA7 hd k hk)
theorem FStep.alloc {te:TE} (T:qGz P te) {elem k:Nat} {ti:TI} {z:Value} (ho:o.op=.alloc elem) (hw:τ.wants ops o=some true) (ht:te elem=some ti) (hz:ti.zero=some z) (hone:z.cells.toList.all (·.oneCell')=true) (hd:qBb τ o=true) :
  FStep P ops τ o (.p k 0) [(k,.box (z.cells.toList.map constCell))] k (k+1):=by
 rintro E σ a w h1 h2 h3 hfr ⟨Z,loc,fps,R⟩
 have RV:=R.toOnly h1 h2 h3
 unfold qJy
 rw[if_pos (RV.wants hw)]
 exact zA T ho k ht hz (hfr k (Nat.le_refl _) (Nat.lt_succ_self _)) hone (by unfold qBb at hd⊢;rw[h3];exact hd) E a w ⟨Z,loc,fps,R⟩
theorem FStep.box {te:TE} (T:qGz P te) {elem k:Nat} {x:Operand} {d:D} {ds:List D} (ho:o.op=.box elem x) (hw:τ.wants ops o=some true) (hx:τ.ev x=some d) (hds:d.cells?=some ds) (hd:qBb τ o=true) :
  FStep P ops τ o (.p k 0) [(k,.box ds)] k (k+1):=by
 rintro E σ a w h1 h2 h3 hfr ⟨Z,loc,fps,R⟩
 have RV:=R.toOnly h1 h2 h3
 unfold qJy
 rw[if_pos (RV.wants hw)]
 refine zBx T ho k (d:=d) ?_ hds (hfr k (Nat.le_refl _) (Nat.lt_succ_self _)) (by unfold qBb at hd⊢;rw[h3];exact hd) E a w ⟨Z,loc,fps,R⟩
 cases x with
 |tmp t=>exact h1 t d hx
 |const v=>exact hx
 |func f=>exact hx
 |global g=>exact hx
end
end Go.AM
end
section
namespace Go.AM
theorem qGJ {α:Type} (l m:List (Nat×α)) (i:Nat):get (l++m) i=(get l i).or (get m i):=by
 induction l with
 |nil=>simp[get]
 |cons x l ih =>
  obtain⟨k,a⟩:=x
  rw[List.cons_append,qAa,qAa]
  split
  ·simp
  ·exact ih
def qLT (l:List Oper) (i:Nat):Option Tmp:=(l[i]?).bind (·.dst)
structure Res where
 d:D
 rs:List (Nat×Root)
 k:Nat
 k':Nat
 dep:Bool
def noK (Ks:List Nat) (h:List (Nat×Root)):List (Nat×Root):=h.filter fun x=>!qRy x.1 Ks
inductive Chain (P:Program) (ops:Array Oper) (Ks:List Nat) (h0:List (Nat×Root)) (c0:Nat):Nat->List Nat->List Nat->Nat->List Oper->St->List Res->St->Prop
 |nil {i ps qs c σ}:Chain P ops Ks h0 c0 i ps qs c [] σ [] σ
 |cons {i ps qs c o l σ d rs k k' out σ'} (dep qFj:Bool):(dep=true->ps.all (qHX ops i)=true)->(qFj=true->dep=true/\qs.all (qHX ops i)=true)->
   FStep P ops (σ.only (o.looksAt ops) (bif dep then σ.h else noK Ks h0)) o d rs k k'->(∀x∈rs,(k<=x.1/\x.1<k')\/(qFj=true/\x.1<k/\(x.1<c0->qRy x.1 Ks=true)))->c<=k->k<=k'->(rs.isEmpty=true->k'<=k)->
   Chain P ops Ks h0 c0 (i+1) (bif rs.isEmpty then ps else i::ps) (bif dep then i::qs else qs) k' l (St.put { σ with h:=rs++σ.h } o.dst d) out σ'->Chain P ops Ks h0 c0 i ps qs c (o::l) σ (⟨d,rs,k,k',dep⟩::out) σ'
structure Inv (σ0:St) (l:List Oper) (out:List Res) (L:Nat->Bool) (σ:St):Prop where
 t1:∀i t r,L i=true->qLT l i=some t->out[i]?=some r->get σ.t t=some r.d
 t2:∀t,(∀i,L i=true->i<out.length->qLT l i≠some t)->get σ.t t=get σ0.t t
 hh:∀id,(∃(i:Nat) (r:Res),L i=true/\out[i]?=some r/\(get r.rs id).isSome=true/\(∀(i':Nat) (r':Res),L i'=true->out[i']?=some r'->(get r'.rs id).isSome=true->i'<=i)/\get σ.h id=get r.rs id)\/
  ((∀(i:Nat) (r:Res),L i=true->out[i]?=some r->get r.rs id=none)/\get σ.h id=get σ0.h id)
 nt:σ.nt=σ0.nt
 gg:σ.g=σ0.g
theorem Inv.start (σ0:St) (l:List Oper) (out:List Res) (L:Nat->Bool) (h:∀i,L i=false):Inv σ0 l out L σ0 :=
 ⟨(fun i t r hi=>by rw[h i]at hi;exact absurd hi (by simp)),(fun _ _=>rfl),(fun id=>.inr ⟨fun i r hi=>by rw[h i]at hi;exact absurd hi (by simp),rfl⟩),rfl,rfl⟩
theorem Inv.same {σ0:St} {l:List Oper} {out:List Res} {L L':Nat->Bool} {σ σ':St} (hl:l.length=out.length) (h:Inv σ0 l out L σ) (h':Inv σ0 l out L' σ') (hL:∀i,i<out.length->L i=L' i) :
  (∀t,get σ.t t=get σ'.t t)/\(∀id,get σ.h id=get σ'.h id):=by
 constructor
 ·intro t
  by_cases hex:∃i,L i=true/\i<out.length/\qLT l i=some t
  ·obtain⟨i,h1,h2,h3⟩:=hex
   have hr:=List.getElem?_eq_getElem h2
   rw[h.t1 i t _ h1 h3 hr,h'.t1 i t _ (by rw[<-hL i h2];exact h1) h3 hr]
  ·rw[h.t2 t fun i h1 h2 h3=>hex ⟨i,h1,h2,h3⟩,h'.t2 t fun i h1 h2 h3=>hex ⟨i,by rw[hL i h2];exact h1,h2,h3⟩]
 ·intro id
  have lt:∀{i:Nat} {r:Res},out[i]?=some r->i<out.length:=fun h=>(List.getElem?_eq_some_iff.1 h).1
  rcases h.hh id with⟨i,r,a1,a2,a3,a4,a5⟩|⟨a1,a2⟩<;>rcases h'.hh id with⟨j,q,b1,b2,b3,b4,b5⟩|⟨b1,b2⟩
  ·have e1:=b4 i r (by rw[<-hL i (lt a2)];exact a1) a2 a3
   have e2:=a4 j q (by rw[hL j (lt b2)];exact b1) b2 b3
   obtain rfl:i=j:=by omega
   rw[a2]at b2;cases b2
   rw[a5,b5]
  ·have:=b1 i r (by rw[<-hL i (lt a2)];exact a1) a2
   rw[this]at a3;cases a3
  ·have:=a1 j q (by rw[hL j (lt b2)];exact b1) b2
   rw[this]at b3;cases b3
  ·rw[a2,b2]
theorem Inv.step {σ0:St} {l:List Oper} {out:List Res} {L:Nat->Bool} {σ:St} (hl:∀i,qLT l i≠none->i<l.length) (h:Inv σ0 l out L σ) {j:Nat} {o:Oper} {r:Res} (ho:l[j]?=some o) (hr:out[j]?=some r)
  (hj:L j=false) (hdst:∀i t,i≠j->qLT l i=some t->qLT l j≠some t) (hord:∀(i:Nat) (r':Res) (id:Nat),L i=true->out[i]?=some r'->(get r'.rs id).isSome=true->(get r.rs id).isSome=true->i<=j) :
  Inv σ0 l out (fun i=>bif Nat.beq i j then true else L i) (St.put { σ with h:=r.rs++σ.h } o.dst r.d):=by
 have hLL:∀i,(bif Nat.beq i j then true else L i)=true->i=j\/(i≠j/\L i=true):=by
  intro i hi
  by_cases e:i=j
  ·exact .inl e
  ·have:Nat.beq i j=false:=by cases hb:Nat.beq i j;rfl;exact absurd (Nat.eq_of_beq_eq_true hb) e
   rw[this]at hi;exact .inr ⟨e,hi⟩
 have hLj:∀i,L i=true->(bif Nat.beq i j then true else L i)=true:=by
  intro i hi;cases Nat.beq i j<;>simp[hi]
 have hdj:qLT l j=o.dst:=by simp[qLT,ho]
 have hget:∀t,get (St.put { σ with h:=r.rs++σ.h } o.dst r.d).t t=if o.dst=some t then some r.d else get σ.t t:=by
  intro t
  cases hd:o.dst with
  |none=>simp[St.put]
  |some k0 =>
   simp only[St.put,qAa]
   by_cases e:t=k0
   ·subst e;simp
   ·rw[if_neg e,if_neg (by intro e';cases e';exact e rfl)]
 have hgh:∀id,get (St.put { σ with h:=r.rs++σ.h } o.dst r.d).h id=(get r.rs id).or (get σ.h id):=by
  intro id
  have:(St.put { σ with h:=r.rs++σ.h } o.dst r.d).h=r.rs++σ.h:=by cases o.dst<;>rfl
  rw[this,qGJ]
 refine⟨?_,?_,?_,?_,?_⟩
 ·intro i t q hi hd ho'
  rw[hget]
  rcases hLL i hi with rfl|⟨hne,hi⟩
  ·rw[hr]at ho';cases ho'
   rw[hdj]at hd;rw[if_pos hd]
  ·rw[if_neg (by rw[<-hdj];exact hdst i t hne hd)]
   exact h.t1 i t q hi hd ho'
 ·intro t ht
  rw[hget,if_neg (by rw[<-hdj];exact ht j (by simp) (List.getElem?_eq_some_iff.1 hr).1)]
  exact h.t2 t fun i hi hlt=>ht i (hLj i hi) hlt
 ·intro id
  rw[hgh]
  cases hs:get r.rs id with
  |some ρ =>
   left
   refine⟨j,r,by simp,hr,by rw[hs];rfl,fun i' r' hi' hr' hs'=>?_,by rw[hs];rfl⟩
   rcases hLL i' hi' with rfl|⟨_,hi'⟩
   ·exact Nat.le_refl _
   ·exact hord i' r' id hi' hr' hs' (by rw[hs];rfl)
  |none =>
   rcases h.hh id with⟨i,q,a1,a2,a3,a4,a5⟩|⟨a1,a2⟩
   ·left
    refine⟨i,q,hLj i a1,a2,a3,fun i' r' hi' hr' hs'=>?_,by simpa using a5⟩
    rcases hLL i' hi' with rfl|⟨_,hi'⟩
    ·rw[hr]at hr';cases hr';rw[hs]at hs';cases hs'
    ·exact a4 i' r' hi' hr' hs'
   ·right
    refine⟨fun i q hi hq=>?_,by simpa using a2⟩
    rcases hLL i hi with rfl|⟨_,hi⟩
    ·rw[hr]at hq;cases hq;exact hs
    ·exact a1 i q hi hq
 ·have:(St.put { σ with h:=r.rs++σ.h } o.dst r.d).nt=σ.nt:=by cases o.dst<;>rfl
  rw[this];exact h.nt
 ·have:(St.put { σ with h:=r.rs++σ.h } o.dst r.d).g=σ.g:=by cases o.dst<;>rfl
  rw[this];exact h.gg
theorem Rel.congr {E σ σ' a w Z loc fps} (R:Rel E σ a w Z loc fps) (h1:∀t,get σ.t t=get σ'.t t) (h2:∀id,get σ.h id=get σ'.h id) (h3:σ.nt=σ'.nt) (h4:σ.g=σ'.g):Rel E σ' a w Z loc fps:=by
 have hl:∀id ρ,σ'.live id ρ->σ.live id ρ:=fun id ρ h=>⟨(h2 id).trans h.1,h.2⟩
 refine { R with size:=h3▸R.size,temps:=fun t d h=>R.temps t d ((h1 t).trans h),roots:=fun id ρ h=>R.roots id ρ (hl id ρ h),nodup:=fun id ρ h=>R.nodup id ρ (hl id ρ h),disj:=?_,owned:=?_,fresh:=?_,pins:=h4▸R.pins }
 ·exact fun i j ρ ρ' b hi hj=>R.disj i j ρ ρ' b (hl i ρ hi) (hl j ρ' hj)
 ·exact fun i ρ b hi=>R.owned i ρ b (hl i ρ hi)
 ·exact fun id h=>R.fresh id ((h2 id).trans h)
theorem Le.congr {σ σ':St} (h1:∀t,get σ.t t=get σ'.t t) (h2:∀id,get σ.h id=get σ'.h id) (h3:σ.nt=σ'.nt) (h4:σ.g=σ'.g):Le σ σ':=fun E a w ⟨Z,loc,fps,R⟩=>⟨Z,loc,fps,R.congr h1 h2 h3 h4⟩
def qZ0 (P:Program) (ops:Array Oper) (Ks:List Nat) (σ0:St) (l:List Oper) (out:List Res) (c0 j:Nat) (o:Oper) (r:Res):Prop :=
 ∃σj qFj,FStep P ops (σj.only (o.looksAt ops) (bif r.dep then σj.h else noK Ks σ0.h)) o r.d r.rs r.k r.k'/\(∀x∈r.rs,(r.k<=x.1/\x.1<r.k')\/(qFj=true/\x.1<r.k/\(x.1<c0->qRy x.1 Ks=true)))/\(r.k<=r.k'/\(r.rs.isEmpty=true->r.k'<=r.k))/\c0<=r.k/\Inv σ0 l out (fun i=>decide (i<j)) σj/\
  (r.dep=true->∀(i:Nat) (r':Res),i<j->out[i]?=some r'->r'.rs≠[]->qHX ops j i=true)/\(∀(i:Nat) (r':Res),i<j->out[i]?=some r'->r'.k'<=r.k)/\
  (qFj=true->r.dep=true/\∀(i:Nat) (r':Res),i<j->out[i]?=some r'->r'.dep=true->qHX ops j i=true)
theorem Chain.facts {P:Program} {ops:Array Oper} {Ks:List Nat} {σ0:St} {c0:Nat}:∀{i ps qs c l σ out σ'},Chain P ops Ks σ0.h c0 i ps qs c l σ out σ'->
  ∀(pre:List Oper) (preout:List Res),pre.length=i->preout.length=i->c0<=c->(∀(j:Nat) (r:Res),preout[j]?=some r->r.k'<=c/\r.k<=r.k'/\c0<=r.k)->(∀(j:Nat) (r:Res),preout[j]?=some r->r.rs≠[]->j∈ps)->(∀(j:Nat) (r:Res),preout[j]?=some r->r.dep=true->j∈qs)->
  (∀a b t,a≠b->qLT (pre++l) a=some t->qLT (pre++l) b≠some t)->(∀out',Inv σ0 (pre++l) (preout++out') (fun j=>decide (j<i)) σ)->
  l.length=out.length/\(∀(j:Nat) (o:Oper) (r:Res),i<=j->(pre++l)[j]?=some o->(preout++out)[j]?=some r->qZ0 P ops Ks σ0 (pre++l) (preout++out) c0 j o r)/\Inv σ0 (pre++l) (preout++out) (fun j=>decide (j<(preout++out).length)) σ':=by
 intro i ps qs c l σ out σ' hch
 induction hch with
 |nil =>
  intro pre preout hp hpo hc hb hps hqs hdst hinv
  refine⟨rfl,?_,?_⟩
  ·intro j o r hj ho
   rw[List.append_nil,List.getElem?_eq_none (by omega)]at ho;cases ho
  ·have:=hinv []
   simp only[List.append_nil,hpo]at this⊢;exact this
 | @cons i ps qs c o l σ d rs k k' out σ' dep qFj hdep hkill hF hn hck hkk hemp hrest ih =>
  intro pre preout hp hpo hc hb hps hqs hdst hinv
  have hpre:pre++o::l=(pre++[o])++l:=by simp
  have hpreo:∀out',preout++(⟨d,rs,k,k',dep⟩:Res)::out'=(preout++[⟨d,rs,k,k',dep⟩])++out':=by simp
  have hoi:(pre++o::l)[i]?=some o:=by rw[List.getElem?_append_right (by omega)];simp[hp]
  have hri:∀out',(preout++(⟨d,rs,k,k',dep⟩:Res)::out')[i]?=some ⟨d,rs,k,k',dep⟩:=by intro out';rw[List.getElem?_append_right (by omega)];simp[hpo]
  have hint:∀out' (x:Nat) (r:Res),x<i->(preout++(⟨d,rs,k,k',dep⟩:Res)::out')[x]?=some r->r.k'<=k:=by
   intro out' x r hx hxr
   rw[List.getElem?_append_left (by omega)]at hxr
   exact Nat.le_trans (hb x r hxr).1 hck
  have hinv':∀out',Inv σ0 (pre++o::l) (preout++(⟨d,rs,k,k',dep⟩:Res)::out') (fun j=>decide (j<i+1)) (St.put { σ with h:=rs++σ.h } o.dst d):=by
   intro out'
   have h0:=hinv ((⟨d,rs,k,k',dep⟩:Res)::out')
   have:=h0.step (fun x hx=>by
    unfold qLT at hx
    by_cases e:x<(pre++o::l).length
    ·exact e
    ·rw[List.getElem?_eq_none (by omega)]at hx;simp at hx) hoi (hri out') (by simp) (fun x t hne hd=>hdst x i t hne hd) (fun x r' id hx _ _ _=>Nat.le_of_lt (of_decide_eq_true hx))
   have e:(fun x=>bif Nat.beq x i then true else decide (x<i))=(fun x=>decide (x<i+1)):=by
    funext x
    by_cases hx:x=i
    ·subst hx;simp
    ·have:Nat.beq x i=false:=by cases hb:Nat.beq x i;rfl;exact absurd (Nat.eq_of_beq_eq_true hb) hx
     rw[this];simp only[cF];congr 1;exact propext ⟨fun h=>by omega,fun h=>by omega⟩
   rw[e]at this
   exact this
  have hlast:∀(j:Nat) (r:Res),(preout++[(⟨d,rs,k,k',dep⟩:Res)])[j]?=some r->(j<preout.length/\preout[j]?=some r)\/(j=i/\r=⟨d,rs,k,k',dep⟩):=by
   intro j r hj
   by_cases e:j<preout.length
   ·rw[List.getElem?_append_left e]at hj;exact .inl ⟨e,hj⟩
   ·rw[List.getElem?_append_right (by omega)]at hj
    have hj0:j-preout.length=0:=by
     have:=(List.getElem?_eq_some_iff.1 hj).1;simp at this;omega
    rw[hj0]at hj;simp at hj;exact .inr ⟨by omega,hj.symm⟩
  obtain⟨h1,h2,h3⟩:=ih (pre++[o]) (preout++[⟨d,rs,k,k',dep⟩]) (by simp[hp]) (by simp[hpo]) (by omega) (by
    intro j r hj
    rcases hlast j r hj with⟨_,hj⟩|⟨_,rfl⟩
    ·obtain⟨g1,g2,g3⟩:=hb j r hj
     exact⟨by omega,g2,g3⟩
    ·exact⟨Nat.le_refl _,hkk,by show c0<=k;omega⟩) (by
    intro j r hj hne
    rcases hlast j r hj with⟨_,hj⟩|⟨rfl,rfl⟩
    ·have:=hps j r hj hne
     cases rs.isEmpty<;>simp[this]
    ·have:rs.isEmpty=false:=by simpa using hne
     rw[this];simp) (by
    intro j r hj hd
    rcases hlast j r hj with⟨_,hj⟩|⟨rfl,rfl⟩
    ·have:=hqs j r hj hd
     cases dep<;>simp[this]
    ·have hd:dep=true:=hd
     rw[hd];simp) (by rw[<-hpre];exact hdst) (by intro out';rw[<-hpre,<-hpreo];exact hinv' out')
  rw[<-hpre,<-hpreo]at h2 h3
  refine⟨by simp[h1],?_,h3⟩
  intro j oj rj hj hoj hrj
  by_cases e:j=i
  ·subst e
   rw[hoi]at hoj;cases hoj
   rw[hri out]at hrj;cases hrj
   refine⟨σ,qFj,hF,hn,⟨hkk,hemp⟩,by show c0<=k;omega,hinv _,?_,?_,?_⟩
   ·intro hd x r' hx hxr hne
    rw[List.getElem?_append_left (by omega)]at hxr
    exact List.all_eq_true.1 (hdep hd) x (hps x r' hxr hne)
   ·intro x r' hx hxr
    exact hint out x r' hx hxr
   ·intro hk
    refine⟨(hkill hk).1,fun x r' hx hxr hd=>?_⟩
    rw[List.getElem?_append_left (by omega)]at hxr
    exact List.all_eq_true.1 (hkill hk).2 x (hqs x r' hxr hd)
  ·exact h2 j oj rj (by omega) hoj hrj
end Go.AM
end
section
namespace Go.AM
theorem qPa {o:Oper} {j:Nat} (h:qNp o j=true):∃e∈o.after,e.on=j/\Region.binds .any e=true:=by
 unfold qNp at h
 obtain⟨i,hi,hb⟩:=Array.any_eq_true.1 h
 simp only[Bool.and_eq_true]at hb
 exact⟨_,Array.getElem_mem hi,Nat.eq_of_beq_eq_true hb.1,hb.2⟩
structure qXp (ops:Array Oper) (m:Nat):Prop where
 le:m<=ops.size
 low:∀i o,ops[i]?=some o->∀e∈o.after,Region.binds .any e=true->e.on<i
 look:∀i j oi oj d,i≠j->ops[i]?=some oi->ops[j]?=some oj->oj.dst=some d->qRy d (oi.looksAt ops)=true->if j<i then qNp oi j=true else qNp oj i=true
 dst:∀i j oi oj d,i≠j->i<m->j<m->ops[i]?=some oi->ops[j]?=some oj->oi.dst=some d->oj.dst≠some d
 last:∀i j oi,m<=i->j<i->ops[i]?=some oi->qHX ops i j=true
theorem qS5 {ops:Array Oper} {m:Nat} (h:qTa ops m=true):qXp ops m:=by
 unfold qTa at h
 simp only[Bool.and_eq_true]at h
 obtain⟨h0,h1⟩:=h
 have key:∀i oi,ops[i]?=some oi->(∀e∈oi.after,(!Region.binds .any e||Nat.blt e.on i)=true)/\∀j oj,ops[j]?=some oj->i≠j->
   ((bif qYu oj (oi.looksAt ops) then (bif Nat.blt j i then qNp oi j else qNp oj i) else true) &&
    (bif (Nat.blt i m&&Nat.blt j m) then qYP oi oj else true) &&
    (bif (Nat.ble m i&&Nat.blt j i) then qHX ops i j else true))=true:=by
  intro i oi hi
  have hlt:=(Array.getElem?_eq_some_iff.1 hi).1
  have:=List.all_eq_true.1 h1 i (List.mem_range.2 hlt)
  simp only[hi,Bool.and_eq_true]at this
  refine⟨fun e he=>?_,fun j oj hj hne=>?_⟩
  ·obtain⟨k,hk,rfl⟩:=Array.mem_iff_getElem.1 he
   exact Array.all_eq_true.1 this.1 k hk
  ·have hltj:=(Array.getElem?_eq_some_iff.1 hj).1
   have h3:=List.all_eq_true.1 this.2 j (List.mem_range.2 hltj)
   have hbeq:Nat.beq i j=false:=by cases hb:Nat.beq i j;rfl;exact absurd (Nat.eq_of_beq_eq_true hb) hne
   rw[hbeq,hj]at h3
   simpa only[Bool.false_or,Bool.and_eq_true]using h3
 refine⟨Nat.le_of_ble_eq_true h0,?_,?_,?_,?_⟩
 ·intro i o hi e he hb
  have:=(key i o hi).1 e he
  simp only[hb,Bool.not_true,Bool.false_or,Nat.blt_eq]at this
  exact this
 ·intro i j oi oj d hne hi hj hd hm
  have:=(key i oi hi).2 j oj hj hne
  simp only[Bool.and_eq_true]at this
  have h3:=this.1.1
  simp only[qYu,hd,hm,cW]at h3
  split
  ·rename_i hlt
   have:Nat.blt j i=true:=by simpa [Nat.blt_eq]using hlt
   simpa [this]using h3
  ·rename_i hlt
   have:Nat.blt j i=false:=by cases hb:Nat.blt j i;rfl;exact absurd (by simpa [Nat.blt_eq]using hb) hlt
   simpa [this]using h3
 ·intro i j oi oj d hne him hjm hi hj hd hd'
  have:=(key i oi hi).2 j oj hj hne
  simp only[Bool.and_eq_true]at this
  have h3:=this.1.2
  have e1:Nat.blt i m=true:=by simpa [Nat.blt_eq]using him
  have e2:Nat.blt j m=true:=by simpa [Nat.blt_eq]using hjm
  simp only[e1,e2,Bool.and_self,cW,qYP,hd,hd']at h3
  simp at h3
 ·intro i j oi him hji hi
  have hltj:j<ops.size:=Nat.lt_trans hji (Array.getElem?_eq_some_iff.1 hi).1
  have:=(key i oi hi).2 j ops[j] (by simp[hltj]) (by omega)
  simp only[Bool.and_eq_true]at this
  have h3:=this.2
  have e1:Nat.ble m i=true:=Nat.ble_eq_true_of_le him
  have e2:Nat.blt j i=true:=by simpa [Nat.blt_eq]using hji
  simpa [e1,e2]using h3
section
variable {P:Program} {ops:Array Oper} {m:Nat} (D0:qXp ops m)
def Lf (listed:Array Bool) (i:Nat):Bool:=listed.getD i false
def Closed (ops:Array Oper) (listed:Array Bool):Prop:=∀i o,Lf listed i=true->ops[i]?=some o->∀e∈o.after,Region.binds .any e=true->Lf listed e.on=true
theorem qRB {listed:Array Bool} {i:Nat} (hi:i<listed.size) (x:Nat):Lf (listed.setIfInBounds i true) x=if x=i then true else Lf listed x:=by
 unfold Lf
 simp only[Array.getD_eq_getD_getElem?]
 split
 ·rename_i e;subst e;simp[hi]
 ·rename_i e;rw[Array.getElem?_setIfInBounds_ne (fun e'=>e e'.symm)]
theorem qMO {listed:Array Bool} {i:Nat} (hi:i<listed.size) (b:Bool):listed.getD i b=Lf listed i:=by
 unfold Lf;simp[Array.getD_eq_getD_getElem?,hi]
theorem Closed.set {listed:Array Bool} {i:Nat} {o:Oper} (hc:Closed ops listed) (hi:i<listed.size) (ho:ops[i]?=some o) (hr:∀e∈o.after,Region.binds .any e=true->Lf listed e.on=true):Closed ops (listed.setIfInBounds i true):=by
 intro j oj hj hoj e he hb
 rw[qRB hi]at hj⊢
 split
 ·rfl
 ·split at hj
  ·rename_i e';subst e';rw[ho]at hoj;cases hoj;exact hr e he hb
  ·exact hc j oj hj hoj e he hb
theorem qMJ {listed:Array Bool} (hc:Closed ops listed) {i j:Nat} {o:Oper} (ho:ops[i]?=some o) (hr:∀e∈o.after,Region.binds .any e=true->Lf listed e.on=true) (h:qHX ops i j=true):Lf listed j=true:=by
 have good:∀(acc:List Nat) (pre:List Oper),acc.length=pre.length->(∀(x:Nat) (q:Oper),pre[x]?=some q->∀j,(acc.getD x 0).testBit j=true->(∀e∈q.after,Region.binds .any e=true->Lf listed e.on=true)->Lf listed j=true)->
   ∀(l:List Oper),pre++l=ops.toList->∀(x:Nat) (q:Oper),(pre++l)[x]?=some q->∀j,((qUg l acc).getD x 0).testBit j=true->(∀e∈q.after,Region.binds .any e=true->Lf listed e.on=true)->Lf listed j=true:=by
  intro acc pre hlen hacc l
  induction l generalizing acc pre with
  |nil=>intro _ x q hx j hj hq;simp only[qUg]at hj;exact hacc x q (by simpa using hx) j hj hq
  |cons p l ih =>
   intro hops x q hx j hj hq
   simp only[qUg]at hj
   refine ih (acc++[qUi acc p]) (pre++[p]) (by simp[hlen]) ?_ (by simpa using hops) x q (by simpa using hx) j hj hq
   intro x q hx j hj hq
   by_cases hxl:x<pre.length
   ·rw[List.getElem?_append_left hxl]at hx
    rw[List.getD_eq_getElem?_getD,List.getElem?_append_left (by omega),<-List.getD_eq_getElem?_getD]at hj
    exact hacc x q hx j hj hq
   ·have hxe:x=pre.length:=by
     have:=(List.getElem?_eq_some_iff.1 hx).1
     simp at this;omega
    subst hxe
    rw[List.getElem?_append_right (Nat.le_refl _),Nat.sub_self]at hx
    simp at hx;subst hx
    rw[List.getD_eq_getElem?_getD,List.getElem?_append_right (by omega),hlen,Nat.sub_self]at hj
    simp only[List.getElem?_cons_zero,Option.getD_some]at hj
    unfold qUi at hj
    have fold:∀(es:List Edge) (m0:Nat),(∀e∈es,e∈p.after)->(m0.testBit j=true->Lf listed j=true)->(es.foldl (fun m e=>bif Region.binds .any e then m ||| (1 <<< e.on) ||| acc.getD e.on 0 else m) m0).testBit j=true->Lf listed j=true:=by
     intro es
     induction es with
     |nil=>intro m0 _ h0 h;exact h0 h
     |cons e es ihe =>
      intro m0 hm h0 h
      simp only[List.foldl_cons]at h
      refine ihe _ (fun e' he'=>hm e' (List.mem_cons_of_mem _ he')) ?_ h
      intro hb
      cases hbe:Region.binds .any e with
      |false=>rw[hbe]at hb;exact h0 hb
      |true =>
       rw[hbe,cW,Nat.testBit_or,Nat.testBit_or]at hb
       simp only[Bool.or_eq_true]at hb
       have hL:=hq e (hm e (by simp)) hbe
       rcases hb with (hb|hb)|hb
       ·exact h0 hb
       ·rw[Nat.one_shiftLeft,Nat.testBit_two_pow]at hb
        have:e.on=j:=by simpa using hb
        rw[<-this];exact hL
       ·by_cases hon:e.on<pre.length
        ·have hp:pre[e.on]?=some pre[e.on]:=List.getElem?_eq_getElem hon
         refine hacc e.on _ hp j hb fun e' he' hb'=>?_
         exact hc e.on pre[e.on] hL (by
          have:ops.toList[e.on]?=some pre[e.on]:=by rw[<-hops,List.getElem?_append_left hon];exact hp
          simpa using this) e' he' hb'
        ·rw[List.getD_eq_getElem?_getD,List.getElem?_eq_none (by omega)]at hb
         simp at hb
    exact fold p.after.toList 0 (fun e he=>by simpa using he) (by simp) hj
 exact good [] [] rfl (by simp) ops.toList rfl i o (by simpa using ho) j h hr
include D0
theorem qVF {listed:Array Bool} (hs:listed.size=ops.size) {i:Nat} (hi:i<ops.size) (hun:Lf listed i=false) (hall:∀j,j<i->Lf listed j=true):i∈Region.ready .any ops listed:=by
 rw[mem_ready]
 refine⟨by rw[qMO (by omega)];exact hun,ops[i],by simp[hi],fun e he hb=>?_⟩
 exact hall _ (D0.low i ops[i] (by simp[hi]) e he hb)
theorem qYg {Q:Exit->Act->World->Prop}:∀(f i:Nat) (listed:Array Bool) (a:Act) (w:World),f=ops.size-i->m<=i->i<=ops.size->listed.size=ops.size->(∀x,x<ops.size->Lf listed x=decide (x<i))->
  wpOps P ops Q (List.range' i (ops.size-i)) a w->wpAny P .any ops Q f listed a w:=by
 intro f
 induction f with
 |zero =>
  intro i listed a w hf hm hi hs hL h
  have:ops.size-i=0:=by omega
  rw[this]at h
  refine⟨?_,by simpa [wpOps]using h⟩
  rw[List.eq_nil_iff_forall_not_mem]
  intro x hx
  rw[mem_ready]at hx
  obtain⟨h1,o,h2,_⟩:=hx
  have hx:x<ops.size:=(Array.getElem?_eq_some_iff.1 h2).1
  rw[qMO (by omega),hL x hx]at h1
  have:=of_decide_eq_false h1
  omega
 |succ f ih =>
  intro i listed a w hf hm hi hs hL h
  have hlt:i<ops.size:=by omega
  have hready:i∈Region.ready .any ops listed:=qVF D0 hs hlt (by rw[hL i hlt];simp) (fun j hj=>by rw[hL j (by omega)];simpa using hj)
  refine⟨fun he=>by rw[he]at hready;simp at hready,fun x hx=>?_⟩
  have hxi:x=i:=by
   rw[mem_ready]at hx
   obtain⟨h1,o,h2,h3⟩:=hx
   have hx:x<ops.size:=(Array.getElem?_eq_some_iff.1 h2).1
   rw[qMO (by omega),hL x hx]at h1
   have hge:=of_decide_eq_false h1
   by_cases e:x=i
   ·exact e
   ·have hcl:Closed ops listed:=by
     intro y oy hy hoy ed he hb
     have hyn:=(Array.getElem?_eq_some_iff.1 hoy).1
     have h5:=D0.low y oy hoy ed he hb
     rw[hL y hyn]at hy
     rw[hL ed.on (by omega)]
     exact dT (by have:=of_decide_eq_true hy;omega)
    have h4:Lf listed i=true:=qMJ hcl h2 (fun ed he hb=>h3 ed he hb) (D0.last x i o (by omega) (by omega) h2)
    rw[hL i hlt]at h4
    have:=of_decide_eq_true h4
    omega
  subst hxi
  rw[show ops.size-x=(ops.size-(x+1))+1 by omega,List.range'_succ,wpOps_cons]at h
  refine wpOp_mono (fun a' w' hk=>?_) h
  refine ih (x+1) _ a' w' (by omega) (by omega) (by omega) (by simpa using hs) ?_ hk
  intro y hy
  rw[qRB (by omega)]
  split
  ·rename_i e;subst e;simp
  ·rename_i e;rw[hL y hy];congr 1;apply propext;omega
end
theorem qP9 {p p':Nat->Bool} {i:Nat}:∀{l:List Nat},l.Nodup->i∈l->p i=true->p' i=false->(∀j,j≠i->p' j=p j)->l.countP p'+1=l.countP p
 | [],_,h,_,_,_=>by simp at h
 |x::l,hnd,hm,h1,h2,h3=>by
  have hnd':=List.nodup_cons.1 hnd
  by_cases e:x=i
  ·subst e
   have hrest:l.countP p'=l.countP p:=List.countP_congr fun j hj=>by
    rw[h3 j (fun e=>by subst e;exact hnd'.1 hj)]
   rw[List.countP_cons,List.countP_cons,hrest];simp[h1,h2]
  ·have hm':i∈l:=by rcases List.mem_cons.1 hm with h|h;exact absurd h.symm e;exact h
   have ih:=qP9 hnd'.2 hm' h1 h2 h3
   rw[List.countP_cons,List.countP_cons,h3 x e];omega
theorem AW.draw {P:Program} {Q:Exit->St->Prop} {ops:Array Oper} {σ σm:St} {id:Nat} (m c:Nat) (Ks:List Nat) {out:List Res} (hmix:P.follows .mixedOrders=true) (hok:qTa ops m=true) (hc:σ.freshFrom c=true)
  (hch:Chain P ops Ks σ.h c 0 [] [] c (ops.toList.take m) σ out σm) (hrest:AO P ops (ops.toList.drop m) Q σm):AW P (.region id ops true) Q σ:=by
 have D0:=qS5 hok
 have hn:=D0.le
 have hlen:(ops.toList.take m).length=m:=by simp;omega
 have hopl:∀i,i<m->(ops.toList.take m)[i]?=ops[i]?:=fun i hi=>by rw[List.getElem?_take,if_pos hi];simp
 have hdst:∀a b t,a≠b->qLT (ops.toList.take m) a=some t->qLT (ops.toList.take m) b≠some t:=by
  intro a b t hne ha hb
  unfold qLT at ha hb
  cases hoa:(ops.toList.take m)[a]? with
  |none=>simp[hoa]at ha
  |some oa =>
   cases hob:(ops.toList.take m)[b]? with
   |none=>simp[hob]at hb
   |some ob =>
    have hla:a<m:=by have:=(List.getElem?_eq_some_iff.1 hoa).1;omega
    have hlb:b<m:=by have:=(List.getElem?_eq_some_iff.1 hob).1;omega
    rw[hopl a hla]at hoa;rw[hopl b hlb]at hob
    rw[hopl a hla,hoa]at ha;rw[hopl b hlb,hob]at hb
    exact D0.dst a b oa ob t hne hla hlb hoa hob (by simpa using ha) (by simpa using hb)
 obtain⟨hl,hfacts,hend⟩:=hch.facts [] [] rfl rfl (Nat.le_refl _) (by simp) (by simp) (by simp) (by simpa using hdst) (fun out'=>Inv.start _ _ _ _ (by simp))
 simp only[List.nil_append]at hfacts hend
 have hol:out.length=m:=by omega
 have hfact:∀(j:Nat) (r:Res),out[j]?=some r->∃hj:j<ops.size,qZ0 P ops Ks σ (ops.toList.take m) out c j ops[j] r:=by
  intro j r hj
  have hjm:j<m:=by have:=(List.getElem?_eq_some_iff.1 hj).1;omega
  exact⟨by omega,hfacts j ops[j] r (by omega) (by rw[hopl j hjm];simp) hj⟩
 have hint:∀(i j:Nat) (ri rj:Res),i<j->out[i]?=some ri->out[j]?=some rj->ri.k'<=rj.k:=by
  intro i j ri rj hij hi hj
  obtain⟨_,_,_,_,_,_,_,_,_,h,_⟩:=hfact j rj hj
  exact h i ri hij hi
 have hset:∀{r:Res} {idn:Nat},(get r.rs idn).isSome=true->∃ρ,(idn,ρ)∈r.rs:=by
  intro r idn h
  obtain⟨ρ,hρ⟩:=Option.isSome_iff_exists.1 h
  exact⟨ρ,qKB hρ⟩
 have hnam:∀(j:Nat) (r:Res) (idn:Nat),out[j]?=some r->(get r.rs idn).isSome=true->idn<r.k'/\(r.k<=idn\/(idn<r.k/\r.dep=true/\(idn<c->qRy idn Ks=true)/\∀(i:Nat) (r':Res),i<j->out[i]?=some r'->r'.dep=true->qHX ops j i=true)):=by
  intro j r idn hj hs
  obtain⟨ρ,hρ⟩:=hset hs
  obtain⟨_,_,qFj,_,hn,hkk,_,_,_,_,hk⟩:=hfact j r hj
  rcases hn _ hρ with⟨g1,g2⟩|⟨g1,g2,g3⟩
  ·exact⟨g2,.inl g1⟩
  ·have g2:idn<r.k:=g2
   exact⟨by have:=hkk.1;omega,.inr ⟨g2,(hk g1).1,g3,(hk g1).2⟩⟩
 have htwo:∀(i j:Nat) (ri rj:Res) (idn:Nat),i<j->out[i]?=some ri->out[j]?=some rj->(get ri.rs idn).isSome=true->(get rj.rs idn).isSome=true->qHX ops j i=true:=by
  intro i j ri rj idn hij hi hj hsi hsj
  have hlt:=hint i j ri rj hij hi hj
  obtain⟨g1,_⟩:=hnam i ri idn hi hsi
  obtain⟨_,g2⟩:=hnam j rj idn hj hsj
  rcases g2 with g2|⟨_,g3,_,_⟩
  ·omega
  ·obtain⟨_,_,_,_,_,_,_,_,hd,_⟩:=hfact j rj hj
   exact hd g3 i ri hij hi (by intro e;rw[e]at hsi;simp[get]at hsi)
 intro E a w R
 refine wp_region_any hmix ?_
 have RX:qSg E σ a { w with drawn:=w.drawn+1 }:=by
  obtain⟨Z,loc,fps,R⟩:=R
  exact⟨Z,loc,fps,R.ext ⟨Nat.le_refl _,fun _ _=>rfl,rfl,rfl,rfl,Nat.le_succ _⟩⟩
 have main:∀(u:Nat) (listed:Array Bool) (σ1:St) (a:Act) (w:World),(List.range m).countP (fun i=>!Lf listed i)=u->listed.size=ops.size->Closed ops listed->(∀i,m<=i->Lf listed i=false)->
   Inv σ (ops.toList.take m) out (fun i=>Lf listed i) σ1->qSg E σ1 a w->wpAny P .any ops (qUf E Q) (u+(ops.size-m)) listed a w:=by
  intro u
  induction u with
  |zero =>
   intro listed σ1 a w hu hs hcl hlast hinv hR
   have hall:∀i,i<m->Lf listed i=true:=by
    intro i hi
    have:=List.countP_eq_zero.1 hu i (List.mem_range.2 hi)
    simpa using this
   obtain⟨e1,e2⟩:=Inv.same (by omega) hinv hend (fun i hi=>by rw[hall i (by omega)];simp[hi])
   have hR':qSg E σm a w:=by
    obtain⟨Z,loc,fps,R⟩:=hR
    exact⟨Z,loc,fps,R.congr e1 e2 (hinv.nt.trans hend.nt.symm) (hinv.gg.trans hend.gg.symm)⟩
   have hdl:(ops.toList.drop m).length=ops.size-m:=by simp
   have hm':ops.size-(ops.size-m)=m:=by omega
   have hw:=hrest (by rw[hdl,hm']) (by rw[hdl];omega) E a w hR'
   rw[hdl,hm']at hw
   rw[Nat.zero_add]
   exact qYg D0 _ m listed a w rfl (Nat.le_refl _) hn hs (fun x hx=>by
    by_cases e:x<m
    ·rw[hall x e];simp[e]
    ·rw[hlast x (by omega)];simp[e]) hw
  |succ u ih =>
   intro listed σ1 a w hu hs hcl hlast hinv hR
   have hex:∃i,i<m/\Lf listed i=false:=by
    have:0<(List.range m).countP (fun i=>!Lf listed i):=by omega
    obtain⟨i,hi,hp⟩:=List.countP_pos_iff.1 this
    exact⟨i,List.mem_range.1 hi,by simpa using hp⟩
   have hmin:∃i,i<m/\Lf listed i=false/\∀j,j<i->Lf listed j=true:=by
    obtain⟨i,hi,hf⟩:=hex
    induction i using Nat.strongRecOn with
    |_ i ihi =>
     by_cases h:∃j,j<i/\Lf listed j=false
     ·obtain⟨j,hj,hfj⟩:=h;exact ihi j hj (by omega) hfj
     ·exact⟨i,hi,hf,fun j hj=>by cases hb:Lf listed j;exact absurd ⟨j,hj,hb⟩ h;rfl⟩
   obtain⟨i0,hi0,hf0,hlow0⟩:=hmin
   have hready:=qVF D0 hs (show i0<ops.size by omega) hf0 hlow0
   rw[show u+1+(ops.size-m)=(u+(ops.size-m))+1 by omega]
   refine⟨fun he=>by rw[he]at hready;simp at hready,fun j hj=>?_⟩
   rw[mem_ready]at hj
   obtain⟨hj1,o,hj2,hj3⟩:=hj
   have hjn:j<ops.size:=(Array.getElem?_eq_some_iff.1 hj2).1
   rw[qMO (by omega)]at hj1
   have hjm:j<m:=by
    by_cases e:j<m
    ·exact e
    ·have h4:Lf listed i0=true:=qMJ hcl hj2 (fun ed he hb=>hj3 ed he hb) (D0.last j i0 o (by omega) (by omega) hj2)
     rw[hf0]at h4;cases h4
   have hoj:(ops.toList.take m)[j]?=some o:=by rw[hopl j hjm];exact hj2
   obtain⟨r,hrj⟩:∃r:Res,out[j]?=some r:=⟨_,List.getElem?_eq_getElem (by omega)⟩
   obtain⟨σj,qFj,hF,hnj,hkk,hck,hinvj,hdep,hmono,hkl⟩:=hfacts j o r (by omega) hoj hrj
   have hreach:∀i,qHX ops j i=true->Lf listed i=true:=fun i h=>qMJ hcl hj2 (fun ed he hb=>hj3 ed he hb) h
   have hback:∀i,Lf listed i=true->qHX ops i j=true->False:=by
    intro i hi h
    have hin:i<ops.size:=by
     by_cases e:i<ops.size
     ·exact e
     ·unfold Lf at hi;rw[Array.getD_eq_getD_getElem?,Array.getElem?_eq_none (by omega)]at hi;cases hi
    have:Lf listed j=true:=qMJ hcl (o:=ops[i]) (by simp[hin]) (fun ed he hb=>hcl i ops[i] hi (by simp[hin]) ed he hb) h
    rw[hj1]at this;cases this
   have hjL:∀i,i<j->qNp o i=true->Lf listed i=true:=by
    intro i hi he
    obtain⟨ed,he,hon,hb⟩:=qPa he
    have:=hj3 ed he hb
    rw[hon]at this;exact this
   have hfr:σ1.freshIn r.k r.k':=by
    intro idn h1 h2
    rcases hinv.hh idn with⟨i,q,a1,a2,a3,_,_⟩|⟨_,a2⟩
    ·exfalso
     by_cases e:i=j
     ·subst e;have a1:Lf listed i=true:=a1;rw[hj1]at a1;cases a1
     ·obtain⟨g1,g2⟩:=hnam i q idn a2 a3
      by_cases hlt:i<j
      ·have:=hint i j q r hlt a2 hrj;omega
      ·have hji:=hint j i r q (by omega) hrj a2
       rcases g2 with g2|⟨_,g3,_,_⟩
       ·omega
       ·obtain⟨_,_,_,_,_,_,_,_,hd,_⟩:=hfact i q a2
        by_cases hrs:r.rs=[]
        ·have:=hkk.2 (by rw[hrs];rfl);omega
        ·exact hback i a1 (hd g3 j r (by omega) hrj hrs)
    ·rw[a2];exact qJJ hc idn (by omega)
   have hT:∀t d,get (σj.only (o.looksAt ops) (bif r.dep then σj.h else noK Ks σ.h)).t t=some d->get σ1.t t=some d:=by
    intro t d ht
    obtain⟨h1,h2⟩:=qKf (fun k=>qRy k (o.looksAt ops)) ht
    rw[<-h1]
    by_cases hw:∃i,i<m/\qLT (ops.toList.take m) i=some t
    ·obtain⟨i,him,hdi⟩:=hw
     have hoi:∃oi,ops[i]?=some oi/\oi.dst=some t:=by
      unfold qLT at hdi
      rw[hopl i him]at hdi
      cases hx:ops[i]? with
      |none=>simp[hx]at hdi
      |some oi=>simp[hx]at hdi;exact⟨oi,rfl,hdi⟩
     obtain⟨oi,hoi1,hoi2⟩:=hoi
     have huniq:∀x,x≠i->qLT (ops.toList.take m) x≠some t:=fun x hx hd=>hdst i x t (fun e=>hx e.symm) hdi hd
     by_cases e:i=j
     ·subst e
      rw[hinv.t2 t (fun x hx _=>by
       by_cases e':x=i
       ·subst e';have hx:Lf listed x=true:=hx;rw[hj1]at hx;cases hx
       ·exact huniq x e'),hinvj.t2 t (fun x hx _=>huniq x (by have:=of_decide_eq_true hx;omega))]
     ·have hlk:=D0.look j i o oi t (fun e'=>e e'.symm) hj2 hoi1 hoi2 h2
      have hri:out[i]?=some out[i]:=List.getElem?_eq_getElem (by omega)
      split at hlk
      ·rename_i hij
       rw[hinv.t1 i t _ (hjL i hij hlk) hdi hri,hinvj.t1 i t _ (dT hij) hdi hri]
      ·rename_i hij
       have hnl:Lf listed i=false:=by
        cases hb:Lf listed i
        ·rfl
        ·obtain⟨ed,he,hon,hbd⟩:=qPa hlk
         have:=hcl i oi hb hoi1 ed he hbd
         rw[hon,hj1]at this;cases this
       rw[hinv.t2 t (fun x hx _=>by
        by_cases e':x=i
        ·subst e';have hx:Lf listed x=true:=hx;rw[hnl]at hx;cases hx
        ·exact huniq x e'),hinvj.t2 t (fun x hx _=>huniq x (by have:=of_decide_eq_true hx;omega))]
    ·rw[hinv.t2 t (fun x _ hx hd=>hw ⟨x,by omega,hd⟩),hinvj.t2 t (fun x _ hx hd=>hw ⟨x,by omega,hd⟩)]
   have J:∀idn ρ,get (σj.only (o.looksAt ops) (bif r.dep then σj.h else noK Ks σ.h)).h idn=some ρ->get σ1.h idn=some ρ:=by
    intro idn ρ hg
    cases hdp:r.dep with
    |false =>
     rw[hdp]at hg
     have hg:get (noK Ks σ.h) idn=some ρ:=hg
     obtain⟨g1,g2⟩:=qKf (fun k=>!qRy k Ks) hg
     have hlt:idn<c:=by
      by_cases e:idn<c
      ·exact e
      ·rw[qJJ hc idn (by omega)]at g1;cases g1
     rcases hinv.hh idn with⟨i,q,a1,a2,a3,_,_⟩|⟨_,a2⟩
     ·exfalso
      obtain⟨_,_,_,_,_,_,hcq,_⟩:=hfact i q a2
      obtain⟨_,k2⟩:=hnam i q idn a2 a3
      rcases k2 with k2|⟨_,_,k3,_⟩
      ·omega
      ·rw[k3 hlt]at g2;cases g2
     ·rw[a2];exact g1
    |true =>
     rw[hdp]at hg
     have hg:get σj.h idn=some ρ:=hg
     rcases hinvj.hh idn with⟨i,q,a1,a2,a3,a4,a5⟩|⟨a1,a2⟩
     ·have hij:i<j:=of_decide_eq_true a1
      have hqs:q.rs≠[]:=by intro e;rw[e]at a3;simp[get]at a3
      have hli:=hreach i (hdep hdp i q hij a2 hqs)
      rcases hinv.hh idn with⟨i',q',b1,b2,b3,b4,b5⟩|⟨b1,_⟩
      ·have hge:=b4 i q hli a2 a3
       have:i'=i:=by
        by_cases e:i'=i
        ·exact e
        ·exfalso
         by_cases hj':i'<j
         ·have:=a4 i' q' (dT hj') b2 b3;omega
         ·by_cases ej:i'=j
          ·subst ej;have b1:Lf listed i'=true:=b1;rw[hj1]at b1;cases b1
          ·
           obtain⟨_,k2⟩:=hnam i' q' idn b2 b3
           obtain⟨m1,_⟩:=hnam i q idn a2 a3
           have hji':=hint i i' q q' (by omega) a2 b2
           rcases k2 with k2|⟨_,_,_,k3⟩
           ·omega
           ·exact hback i' b1 (k3 j r (by omega) hrj hdp)
       subst this
       rw[a2]at b2;cases b2
       rw[b5,<-a5];exact hg
      ·rw[b1 i q hli a2]at a3;cases a3
     ·rw[a2]at hg
      rcases hinv.hh idn with⟨i',q',b1,b2,b3,b4,b5⟩|⟨_,b2⟩
      ·exfalso
       have hlt:idn<c:=by
        by_cases e:idn<c
        ·exact e
        ·rw[qJJ hc idn (by omega)]at hg;cases hg
       by_cases hj':i'<j
       ·rw[a1 i' q' (dT hj') b2]at b3;cases b3
       ·by_cases ej:i'=j
        ·subst ej;have b1:Lf listed i'=true:=b1;rw[hj1]at b1;cases b1
        ·obtain⟨_,_,_,_,_,_,hcq,_⟩:=hfact i' q' b2
         obtain⟨_,k2⟩:=hnam i' q' idn b2 b3
         rcases k2 with k2|⟨_,_,_,k3⟩
         ·omega
         ·exact hback i' b1 (k3 j r (by omega) hrj hdp)
      ·rw[b2];exact hg
   have hb:=hF E σ1 a w hT J (by show σ1.nt=σj.nt;rw[hinv.nt,hinvj.nt]) hfr hR
   have hinv':=hinv.step (fun x hx=>by
    unfold qLT at hx
    by_cases e:x<(ops.toList.take m).length
    ·exact e
    ·rw[List.getElem?_eq_none (by omega)]at hx;simp at hx) hoj hrj hj1 (fun i t hne hd=>hdst i j t hne hd) (fun i r' idn hi hr' hs hs'=>by
    by_cases hlt:i<=j
    ·exact hlt
    ·exact(hback i hi (htwo j i r r' idn (by omega) hrj hr' hs' hs)).elim)
   have hnext:∀a' w',qSg E (St.put { σ1 with h:=r.rs++σ1.h } o.dst r.d) a' w'->wpAny P .any ops (qUf E Q) (u+(ops.size-m)) (listed.setIfInBounds j true) a' w':=by
    intro a' w' hR'
    refine ih (listed.setIfInBounds j true) _ a' w' ?_ (by simpa using hs) (hcl.set (by omega) hj2 (fun e he hb=>hj3 e he hb)) ?_ ?_ hR'
    ·have:=qP9 (l:=List.range m) (i:=j) (p:=fun i=>!Lf listed i) (p':=fun i=>!Lf (listed.setIfInBounds j true) i) List.nodup_range (List.mem_range.2 hjm) (by simp[hj1]) (by simp[qRB (show j<listed.size by omega)]) (fun x hx=>by simp[qRB (show j<listed.size by omega),hx])
     omega
    ·intro x hx
     rw[qRB (by omega),if_neg (by omega)];exact hlast x hx
    ·have heq:(fun i=>Lf (listed.setIfInBounds j true) i)=(fun i=>bif Nat.beq i j then true else Lf listed i):=by
      funext x
      rw[qRB (by omega)]
      by_cases e:x=j
      ·subst e;simp
      ·have:Nat.beq x j=false:=by cases hb:Nat.beq x j;rfl;exact absurd (Nat.eq_of_beq_eq_true hb) e
       rw[if_neg e,this];rfl
     rw[heq];exact hinv'
   unfold wpOp
   rw[hj2]
   unfold qJy at hb
   simp only[]
   split
   ·rename_i hw
    rw[if_pos hw]at hb
    exact .inl (Oper.wp_mono hnext (Oper.wp_false hb))
   ·rename_i hw
    rw[if_neg hw]at hb
    exact hnext _ _ hb
 have hcnt:(List.range m).countP (fun i=>!Lf (Array.replicate ops.size false) i)=m:=by
  rw[List.countP_eq_length.2 fun i hi=>?_]
  ·simp
  ·have:=List.mem_range.1 hi
   have hx:i<ops.size:=by omega
   simp[Lf,Array.getD_eq_getD_getElem?,hx]
 have hL0:∀i,Lf (Array.replicate ops.size false) i=false:=fun i=>by
  unfold Lf
  simp only[Array.getD_eq_getD_getElem?,Array.getElem?_replicate]
  split<;>rfl
 have:=main m (Array.replicate ops.size false) σ a { w with drawn:=w.drawn+1 } hcnt (by simp) (fun i o hi=>by rw[hL0 i]at hi;cases hi) (fun i _=>hL0 i) (Inv.start _ _ _ _ hL0) RX
 rwa [show m+(ops.size-m)=ops.size by omega]at this
end Go.AM
end
section
namespace Go.AM
def AD (P:Program) (ops:Array Oper) (Ks:List Nat) (h0:List (Nat×Root)) (c0:Nat) (i:Nat) (ps qs:List Nat) (c:Nat) (l:List Oper) (σ:St) (K:St->Prop):Prop:=∃out σ',Chain P ops Ks h0 c0 i ps qs c l σ out σ'/\K σ'
section
variable {P:Program} {ops:Array Oper} {Ks:List Nat} {h0:List (Nat×Root)} {c0:Nat} {i:Nat} {ps qs:List Nat} {c:Nat} {l:List Oper} {o:Oper} {σ:St} {K:St->Prop}
theorem AD.nil (h:K σ):AD P ops Ks h0 c0 i ps qs c [] σ K:=⟨[],σ,.nil,h⟩
theorem AD.v {d:D} (h:FStep P ops (σ.only (o.looksAt ops) (noK Ks h0)) o d [] c c) (hr:AD P ops Ks h0 c0 (i+1) ps qs c l (σ.put o.dst d) K):AD P ops Ks h0 c0 i ps qs c (o::l) σ K:=by
 obtain⟨out,σ',h1,h2⟩:=hr
 exact⟨_,σ',Chain.cons false false (fun e=>by cases e) (fun e=>by cases e) h (fun x hx=>by simp at hx) (Nat.le_refl _) (Nat.le_refl _) (fun _=>Nat.le_refl _) h1,h2⟩
theorem AD.vd {d:D} (hdep:ps.all (qHX ops i)=true) (h:FStep P ops (σ.only (o.looksAt ops) σ.h) o d [] c c) (hr:AD P ops Ks h0 c0 (i+1) ps (i::qs) c l (σ.put o.dst d) K):AD P ops Ks h0 c0 i ps qs c (o::l) σ K:=by
 obtain⟨out,σ',h1,h2⟩:=hr
 exact⟨_,σ',Chain.cons true false (fun _=>hdep) (fun e=>by cases e) h (fun x hx=>by simp at hx) (Nat.le_refl _) (Nat.le_refl _) (fun _=>Nat.le_refl _) h1,h2⟩
theorem AD.q {d:D} {rs:List (Nat×Root)} {k':Nat} (h:FStep P ops (σ.only (o.looksAt ops) (noK Ks h0)) o d rs c k') (hn:qA1 rs c k') (hk:c<=k') (he:rs.isEmpty=false) (hr:AD P ops Ks h0 c0 (i+1) (i::ps) qs k' l (St.put { σ with h:=rs++σ.h } o.dst d) K):AD P ops Ks h0 c0 i ps qs c (o::l) σ K:=by
 obtain⟨out,σ',h1,h2⟩:=hr
 exact⟨_,σ',Chain.cons false false (fun e=>by cases e) (fun e=>by cases e) h (fun x hx=>.inl (hn x hx)) (Nat.le_refl _) hk (fun e=>by rw[he]at e;cases e) (by rw[he];exact h1),h2⟩
theorem AD.qd {d:D} {rs:List (Nat×Root)} {k':Nat} (hdep:ps.all (qHX ops i)=true) (h:FStep P ops (σ.only (o.looksAt ops) σ.h) o d rs c k') (hn:qA1 rs c k') (hk:c<=k') (he:rs.isEmpty=false) (hr:AD P ops Ks h0 c0 (i+1) (i::ps) (i::qs) k' l (St.put { σ with h:=rs++σ.h } o.dst d) K):AD P ops Ks h0 c0 i ps qs c (o::l) σ K:=by
 obtain⟨out,σ',h1,h2⟩:=hr
 exact⟨_,σ',Chain.cons true false (fun _=>hdep) (fun e=>by cases e) h (fun x hx=>.inl (hn x hx)) (Nat.le_refl _) hk (fun e=>by rw[he]at e;cases e) (by rw[he];exact h1),h2⟩
def qXw (Ks:List Nat) (c0 k k':Nat) (rs:List (Nat×Root)):Bool:=rs.all fun x=>(Nat.ble k x.1&&Nat.blt x.1 k')||(Nat.blt x.1 k&&(Nat.ble c0 x.1||qRy x.1 Ks))
theorem AD.k {d:D} {rs:List (Nat×Root)} {k':Nat} (hdep:ps.all (qHX ops i)=true) (hq:qs.all (qHX ops i)=true) (h:FStep P ops (σ.only (o.looksAt ops) σ.h) o d rs c k') (hn:qXw Ks c0 c k' rs=true) (hk:Nat.ble c k'=true) (he:rs.isEmpty=false)
  (hr:AD P ops Ks h0 c0 (i+1) (i::ps) (i::qs) k' l (St.put { σ with h:=rs++σ.h } o.dst d) K):AD P ops Ks h0 c0 i ps qs c (o::l) σ K:=by
 obtain⟨out,σ',h1,h2⟩:=hr
 refine⟨_,σ',Chain.cons true true (fun _=>hdep) (fun _=>⟨rfl,hq⟩) h (fun x hx=>?_) (Nat.le_refl _) (Nat.le_of_ble_eq_true hk) (fun e=>by rw[he]at e;cases e) (by rw[he];exact h1),h2⟩
 have:=List.all_eq_true.1 hn x hx
 simp only[Bool.or_eq_true,Bool.and_eq_true]at this
 rcases this with⟨g1,g2⟩|⟨g1,g2⟩
 ·exact .inl ⟨Nat.le_of_ble_eq_true g1,Nat.le_of_ble_eq_true g2⟩
 ·refine .inr ⟨rfl,Nat.le_of_ble_eq_true g1,fun hlt=>?_⟩
  rcases g2 with g2|g2
  ·have:=Nat.le_of_ble_eq_true g2;omega
  ·exact g2
theorem AD.p {te:TE} (T:qGz P te) {d:D} (hw:(σ.only (o.looksAt ops) (noK Ks h0)).wants ops o=some true) (hd:qBb (σ.only (o.looksAt ops) (noK Ks h0)) o=true) (h:qMX te (σ.only (o.looksAt ops) (noK Ks h0)) o.op=some d) (hr:AD P ops Ks h0 c0 (i+1) ps qs c l (σ.put o.dst d) K):AD P ops Ks h0 c0 i ps qs c (o::l) σ K :=
 AD.v (FStep.val hw hd (qNA T h)) hr
theorem AD.pured {te:TE} (T:qGz P te) {d:D} (hdep:ps.all (qHX ops i)=true) (hw:(σ.only (o.looksAt ops) σ.h).wants ops o=some true) (hd:qBb (σ.only (o.looksAt ops) σ.h) o=true) (h:qMX te (σ.only (o.looksAt ops) σ.h) o.op=some d) (hr:AD P ops Ks h0 c0 (i+1) ps (i::qs) c l (σ.put o.dst d) K):AD P ops Ks h0 c0 i ps qs c (o::l) σ K :=
 AD.vd hdep (FStep.val hw hd (qNA T h)) hr
theorem AD.pureG {te:TE} (T:qGz P te) {d:D} {g:Bool} (ks:List Nat) (hg:(σ.only (o.looksAt ops) (noK Ks h0)).gval ops o=some g) (hc:qIu (σ.only (o.looksAt ops) (noK Ks h0)) g ks) (hd:qBb (σ.only (o.looksAt ops) (noK Ks h0)) o=true) (h:qMX te ((σ.only (o.looksAt ops) (noK Ks h0)).unc ks) o.op=some d)
  (hr:AD P ops Ks h0 c0 (i+1) ps qs c l (σ.put o.dst (.c g d)) K):AD P ops Ks h0 c0 i ps qs c (o::l) σ K :=
 AD.v (FStep.guard ks hg hc (fun _=>qNA T h) hd) hr
theorem AD.w {d:D} (hw:(σ.only (o.looksAt ops) (noK Ks h0)).wants ops o=some true) (hd:qBb (σ.only (o.looksAt ops) (noK Ks h0)) o=true) (h:OpV P (σ.only (o.looksAt ops) (noK Ks h0)) o d) (hr:AD P ops Ks h0 c0 (i+1) ps qs c l (σ.put o.dst d) K):AD P ops Ks h0 c0 i ps qs c (o::l) σ K :=
 AD.v (FStep.val hw hd h) hr
theorem AD.vald {d:D} (hdep:ps.all (qHX ops i)=true) (hw:(σ.only (o.looksAt ops) σ.h).wants ops o=some true) (hd:qBb (σ.only (o.looksAt ops) σ.h) o=true) (h:OpV P (σ.only (o.looksAt ops) σ.h) o d) (hr:AD P ops Ks h0 c0 (i+1) ps (i::qs) c l (σ.put o.dst d) K):AD P ops Ks h0 c0 i ps qs c (o::l) σ K :=
 AD.vd hdep (FStep.val hw hd h) hr
theorem AD.guard {d:D} {g:Bool} (ks:List Nat) (hg:(σ.only (o.looksAt ops) (noK Ks h0)).gval ops o=some g) (hc:qIu (σ.only (o.looksAt ops) (noK Ks h0)) g ks) (hop:g=true->OpV P ((σ.only (o.looksAt ops) (noK Ks h0)).unc ks) o d) (hd:qBb (σ.only (o.looksAt ops) (noK Ks h0)) o=true)
  (hr:AD P ops Ks h0 c0 (i+1) ps qs c l (σ.put o.dst (.c g d)) K):AD P ops Ks h0 c0 i ps qs c (o::l) σ K :=
 AD.v (FStep.guard ks hg hc hop hd) hr
theorem AW.drawn {Q:Exit->St->Prop} {id:Nat} (m c:Nat) (Ks:List Nat) (hmix:P.follows .mixedOrders=true) (hok:qTa ops m=true) (hc:σ.freshFrom c=true) (h:AD P ops Ks σ.h c 0 [] [] c (ops.toList.take m) σ (AO P ops (ops.toList.drop m) Q)):AW P (.region id ops true) Q σ:=by
 obtain⟨out,σ',h1,h2⟩:=h
 exact AW.draw m c Ks hmix hok hc h1 h2
end
end Go.AM
end
section
namespace Go.AM
def qAV {α:Type} (l:List α) (i:Int):Option α:=if 0<=i then l[i.toNat]? else none
def opt {α:Type} (g:Bool) (d:α) (m:Option α):Option α:=bif g then m else some d
def qFT {α:Type} (l:List α) (n:Int):Option (List α):=if 0<=n/\n<=l.length then some (l.take n.toNat) else none
def qCq {α:Type} (l:List α) (n:Int):Option (List α):=if 0<=n/\n<=l.length then some (l.drop n.toNat) else none
def qAg (b n:Nat):Bool:=Nat.ble (2*n*b) 281474976710656
def qAl (b:Bool):Option Unit:=bif b then some () else none
def w64 (n:Int):Int:=IntKind.wrap .i64 n
theorem zB {α β:Type} {o:Option α} {f:α->Option β} {r:β} (h:o.bind f=some r):∃x,o=some x/\f x=some r:=Option.bind_eq_some_iff.1 h
theorem condT {α:Type} {c:Bool} {a b:α} {r:α} (hc:c=true) (h:cond c a b=r):a=r:=by subst hc;exact h
theorem condF {α:Type} {c:Bool} {a b:α} {r:α} (hc:c=false) (h:cond c a b=r):b=r:=by subst hc;exact h
theorem qD7 {α:Type} {g:Bool} {d r:α} {m:Option α} (h:opt g d m=some r) (hg:g=true):m=some r:=by subst hg;exact h
theorem qAJ {b:Bool} {u:Unit} (h:qAl b=some u):b=true:=by cases b;cases h;rfl
theorem zS {α:Type} {a b:α} (h:some a=some b):a=b:=Option.some.inj h
theorem qRn {α:Type} {l:List α} {i:Int} {x:α} (h:qAV l i=some x):0<=i:=by unfold qAV at h;split at h;assumption;cases h
theorem zgG {α:Type} {l:List α} {i:Int} {x:α} (h:qAV l i=some x):l[i.toNat]?=some x:=by unfold qAV at h;split at h;exact h;cases h
theorem qSy {α:Type} {l:List α} {i:Int} {x:α} (h:qAV l i=some x):i.toNat<l.length:=(List.getElem?_eq_some_iff.1 (zgG h)).1
theorem qRN {α:Type} (l:List α) (k:Nat):qAV l (k:Int)=l[k]?:=by simp[qAV]
theorem qXc {α:Type} {l:List α} {i:Int} {x:α} {f:α->List D} (h:qAV l i=some x):(l.map f)[i.toNat]?=some (f x):=by rw[List.getElem?_map,zgG h];rfl
theorem zgD {α:Type} {l:List α} {k:Nat} {x:α} {xs:List α} (h:l.drop k=x::xs):qAV l (k:Int)=some x:=by
 rw[qRN]
 have:(l.drop k)[0]?=some x:=by rw[h];rfl
 simpa using this
theorem zds {α:Type} {l:List α} {k:Nat} {x:α} {xs:List α} (h:l.drop k=x::xs):l.drop (k+1)=xs:=by
 rw[<-List.drop_drop,h];rfl
theorem qAF {α:Type} {l:List α} {k:Nat} {x:α} {xs:List α} (h:l.drop k=x::xs):k<l.length:=by
 have:=congrArg List.length h
 simp at this;omega
theorem qAG {α:Type} {l:List α} {k:Nat} (h:l.drop k=[]):l.length<=k:=by
 have:=congrArg List.length h
 simp at this;omega
theorem AW.boundS {P:Program} {c:Code} {Q:Exit->St->Prop} {σ:St} {t:Nat} {xs:List (List D)} (ht:get σ.t t=some (.s xs)) (h:xs.length<=qDF->AW P c Q σ):AW P c Q σ:=by
 rintro E a w ⟨Z,loc,fps,R⟩
 obtain⟨v,_,h2⟩:=R.temps t _ ht
 refine h ?_ E a w ⟨Z,loc,fps,R⟩
 cases h2 with
 |s0=>simp
 |s _ _ _ h4 h5 _=>omega
theorem AW.boundM {P:Program} {c:Code} {Q:Exit->St->Prop} {σ:St} {t:Nat} {α:Type} {l:List α} {f:α->List D} (ht:get σ.t t=some (.s (l.map f))) (h:l.length<=qDF->AW P c Q σ):AW P c Q σ :=
 AW.boundS ht fun hb=>h (by simpa using hb)
theorem AW.boundR {P:Program} {c:Code} {Q:Exit->St->Prop} {σ:St} {id sz:Nat} {α:Type} {l:List α} {f:α->List D} (ht:get σ.h id=some (.row sz (l.map f))) (h:l.length<=qDF->AW P c Q σ):AW P c Q σ:=by
 rintro E a w ⟨Z,loc,fps,R⟩
 obtain⟨L,_,_,_,h3,h4,_⟩:=R.roots id _ ⟨ht,by simp⟩
 exact h (by simp at h3;omega) E a w ⟨Z,loc,fps,R⟩
@[reducible] def joinQ {α:Type} (S:α->St) (I:α->Prop) (Q:Exit->St->Prop):Exit->St->Prop
 |.normal,σ=>∃s,I s/\Le σ (S s)
 |.exit id,σ=>Q (.exit id) σ
 |.goto l,σ=>Q (.goto l) σ
 |.ret,σ=>Q .ret σ
 |.panic c,σ=>Q (.panic c) σ
 |.outgrown,σ=>Q .outgrown σ
theorem AW.seqJ {P:Program} {x y:Code} {Q:Exit->St->Prop} {σ:St} {α:Type} (S:α->St) (I:α->Prop) (h1:AW P x (joinQ S I Q) σ) (h2:∀s,I s->AW P y Q (S s)):AW P (.seq x y) Q σ:=by
 refine AW.q (AW.mono h1 ?_)
 intro e σ' h
 cases e with
 |normal=>obtain⟨s,hs,hle⟩:=h;exact AW.le hle (h2 s hs)
 |_=>exact h
theorem qOP {B n:Nat} (h:qAg B n=true):2*n*B<=281474976710656:=Nat.le_of_ble_eq_true h
theorem qNn {B n:Nat} (h:qAg B n=true) (hB:0<B):n<=qDF:=by
 have h1:=qOP h
 have h2:2*n*1<=2*n*B:=Nat.mul_le_mul_left _ hB
 unfold qDF;omega
theorem AW.condT' {P:Program} {Q:Exit->St->Prop} {σ:St} {c:Operand} {x y:Code} {b:Bool} (hc:σ.ev c=some (.v (.bool b))) (hb:b=true) (h1:AW P x Q σ):AW P (.cond c x y) Q σ:=by subst hb;exact AW.condT hc h1
theorem AW.condF' {P:Program} {Q:Exit->St->Prop} {σ:St} {c:Operand} {x y:Code} {b:Bool} (hc:σ.ev c=some (.v (.bool b))) (hb:b=false) (h1:AW P y Q σ):AW P (.cond c x y) Q σ:=by subst hb;exact AW.condF hc h1
theorem qa6 {k n:Nat} (h:k<n):decide ((k:Int)<(n:Int))=true:=dT (by omega)
theorem qa8 {k n:Nat} (h:n<=k):decide ((k:Int)<(n:Int))=false:=dF (by omega)
def qKL {R V:Type} (o:Except R V) (k:V->Option R):Option R:=match o with|.error r=>some r|.ok v=>k v
def qIN {R V W:Type} (o:Except R V) (k:V->Option (Except R W)):Option (Except R W):=match o with|.error r=>some (.error r)|.ok v=>k v
theorem zK {k n:Nat} (h:k<n) (hn:n<=qDF):inI .i64 ((k:Int)+1):=qV7 (by unfold qDF at hn;omega)
section
variable {P:Program} {te:TE} (T:qGz P te) {σ:St} {o:Oper}
include T
theorem zL {t e:Nat} {s b z} {x:Operand} {α:Type} {l:List α} {f:α->List D} (ho:o.op=.call { callee:=.builtin .len,args:=#[x],argTypes:=#[t] }) (ht:te t=some ⟨.slice e,s,b,z⟩) (hx:σ.ev x=some (.s (l.map f))) :
  OpV P σ o (.v (.int .i64 l.length)):=by
 have:=qNA T (σ:=σ) (o:=o) (d:=.v (.int .i64 ((l.map f).length))) (by rw[ho];simp only[qMX,St.evr,hx,Option.map_some,St.res,qaQ,ht])
 rwa [List.length_map]at this
theorem zX {t e:Nat} {s b z} {ti:TI} {x i:Operand} {k:IntKind} {n:Int} {α:Type} {l:List α} {f:α->List D} {y:α} (ho:o.op=.indexAddr t x i) (ht:te t=some ⟨.slice e,s,b,z⟩) (hte:te e=some ti)
  (hx:σ.ev x=some (.s (l.map f))) (hi:σ.ev i=some (.v (.int k n))) (hg:qAV l n=some y) (hsz:(f y).length=ti.size):OpV P σ o (.q (f y)) :=
 qZE T ho ht hte hx hi (qRn hg) (qXc hg) hsz
theorem qDv {t e:Nat} {s b z} {ti:TI} {x y:Operand} {k:IntKind} {n:Int} {α:Type} {l r:List α} {f:α->List D} (ho:o.op=.slice t x none (some y) none) (ht:te t=some ⟨.slice e,s,b,z⟩) (hte:te e=some ti)
  (hx:σ.ev x=some (.s (l.map f))) (hy:σ.ev y=some (.v (.int k n))) (hr:qFT l n=some r) (hsz:∀y,(f y).length=ti.size):OpV P σ o (.s (r.map f)):=by
 unfold qFT at hr
 split at hr
 ·rename_i h;cases hr
  have:=qSw T ho ht hte hx hy h.1 (by simp;omega) (by intro a ha;obtain⟨y,_,rfl⟩:=List.mem_map.1 ha;exact hsz y)
  rwa [<-List.map_take]at this
 ·cases hr
theorem qCg {t e:Nat} {s b z} {ti:TI} {x y:Operand} {k:IntKind} {n:Int} {α:Type} {l r:List α} {f:α->List D} (ho:o.op=.slice t x (some y) none none) (ht:te t=some ⟨.slice e,s,b,z⟩) (hte:te e=some ti)
  (hx:σ.ev x=some (.s (l.map f))) (hy:σ.ev y=some (.v (.int k n))) (hr:qCq l n=some r) (hsz:∀y,(f y).length=ti.size):OpV P σ o (.s (r.map f)):=by
 unfold qCq at hr
 split at hr
 ·rename_i h;cases hr
  have:=qS6 T ho ht hte hx hy h.1 (by simp;omega) (by intro a ha;obtain⟨y,_,rfl⟩:=List.mem_map.1 ha;exact hsz y)
  rwa [<-List.map_drop]at this
 ·cases hr
omit T in
theorem qS2 {x:Operand} {id sz:Nat} {α:Type} {l:List α} {f:α->List D} (hx:σ.ev x=some (.R id)) (hg:get σ.h id=some (.row sz (l.map f))):σ.evr x=some (.r id 0 l.length):=by
 simp only[St.evr,hx,Option.map_some,St.res,hg,List.length_map]
theorem qJP {t e:Nat} {s b z} {x:Operand} {id sz:Nat} {α:Type} {l:List α} {f:α->List D} (ho:o.op=.call { callee:=.builtin .len,args:=#[x],argTypes:=#[t] }) (ht:te t=some ⟨.slice e,s,b,z⟩) (hx:σ.ev x=some (.R id)) (hg:get σ.h id=some (.row sz (l.map f))) :
  OpV P σ o (.v (.int .i64 l.length)) :=
 qNA T (σ:=σ) (o:=o) (d:=.v (.int .i64 l.length)) (by rw[ho];simp only[qMX,qS2 hx hg,qaQ,ht])
theorem zXr {t e:Nat} {s b z} {ti:TI} {x i:Operand} {k:IntKind} {n:Int} {id:Nat} {α:Type} {l:List α} {f:α->List D} {y:α} (ho:o.op=.indexAddr t x i) (ht:te t=some ⟨.slice e,s,b,z⟩) (hte:te e=some ti)
  (hx:σ.ev x=some (.R id)) (hi:σ.ev i=some (.v (.int k n))) (hg:get σ.h id=some (.row ti.size (l.map f))) (hn:qAV l n=some y):OpV P σ o (.e id n.toNat 0) :=
 qXl T ho ht hte (qS2 hx hg) hi hg (qRn hn) (qSy hn)
theorem zLr {t:Nat} {ti:TI} {x:Operand} {id i k sz:Nat} {α:Type} {l:List α} {f:α->List D} {y:α} {d:D} (ho:o.op=.load t x) (ht:te t=some ti) (hx:σ.ev x=some (.e id i k))
  (hg:get σ.h id=some (.row sz (l.map f))) (hc:l[i]?=some y) (hk:Nat.ble (k+ti.size) sz=true) (hv:(((f y).drop k).take ti.size).all D.isVS=true) (hr:qMh ti (((f y).drop k).take ti.size)=some d):OpV P σ o d :=
 qVU T ho ht hx hg (by rw[List.getElem?_map,hc];rfl) hk hv hr
theorem zSr {t:Nat} {ti:TI} {x y:Operand} {id i k sz:Nat} {α:Type} {l:List α} {f:α->List D} {u u':α} {vs:List D} {d:D} (ho:o.op=.store t x y) (ht:te t=some ti) (hx:σ.ev x=some (.e id i k)) (hy:σ.ev y=some d)
  (hg:get σ.h id=some (.row sz (l.map f))) (hc:l[i]?=some u) (hv:d.cells?=some vs) (hpl:vs.all D.plain=true) (hsz:vs.length=ti.size) (hk':Nat.ble (k+vs.length) sz=true) (hu:qAU (f u) k vs=f u') (hdst:o.dst=none) :
  qKh P σ o { σ with h:=(id,.row sz ((l.set i u').map f))::σ.h }:=by
 have:=qUL T ho ht hx hy hg (by rw[List.getElem?_map,hc];rfl) hv hpl hsz hk' hdst
 rwa [hu,<-List.map_set]at this
section
variable {x y:Operand} {t tx e e2:Nat} {s s2:Nat} {b b2:Nat} {z z2:Option Value} {ti:TI} {zv:Value}
theorem qOb {id:Nat} {α:Type} {l m:List α} {f:α->List D} (ho:o.op=.call { callee:=.builtin .append,args:=#[x,y],argTypes:=#[t,tx] }) (id':Nat)
  (ht:te t=some ⟨.slice e,s,b,z⟩) (htx:te tx=some ⟨.slice e2,s2,b2,z2⟩) (hte:te e=some ti) (hz0:ti.zero=some zv) (hzs:zv.cells.size=ti.size) (hpos:0<ti.size) (hB:0<ti.bytes)
  (hx:σ.ev x=some (.R id)) (hg:get σ.h id=some (.row ti.size (l.map f))) (hy:σ.ev y=some (.s (m.map f))) (hys:∀y,(f y).length=ti.size)
  (hfit:qAg ti.bytes (l.length+m.length)=true) (hid:get σ.h id'=none) (hd:qBb σ o=true) :
  qKh P σ o (St.put { σ with h:=(id',.row ti.size ((l++m).map f))::qFj [id] σ.h } o.dst (.R id')):=by
 have:=qVv T ho id' ht htx hte hz0 hzs hpos (qS2 hx hg) hg (by simp) hy (ys:=m.map f) rfl (by intro a ha;obtain⟨y,_,rfl⟩:=List.mem_map.1 ha;exact hys y) (m:=m.length) (by simp) (qNn hfit hB) (qOP hfit) hid hd
 rw[List.drop_zero,List.take_of_length_le (by simp),<-List.map_append]at this
 exact this
theorem qFc {id id2:Nat} {α:Type} {l m:List α} {f:α->List D} (ho:o.op=.call { callee:=.builtin .append,args:=#[x,y],argTypes:=#[t,tx] }) (id':Nat)
  (ht:te t=some ⟨.slice e,s,b,z⟩) (htx:te tx=some ⟨.slice e2,s2,b2,z2⟩) (hte:te e=some ti) (hz0:ti.zero=some zv) (hzs:zv.cells.size=ti.size) (hB:0<ti.bytes)
  (hx:σ.ev x=some (.R id)) (hg:get σ.h id=some (.row ti.size (l.map f))) (hy:σ.ev y=some (.R id2)) (hg2:get σ.h id2=some (.row ti.size (m.map f))) (hne:Nat.beq id id2=false)
  (hfit:qAg ti.bytes (l.length+m.length)=true) (hid:get σ.h id'=none) (hd:qBb σ o=true) :
  qKh P σ o (St.put { σ with h:=(id',.row ti.size ((l++m).map f))::qFj [id,id2] σ.h } o.dst (.R id')):=by
 have:=qWM T ho id' ht htx hte hz0 hzs (qS2 hx hg) hg (by simp) (qS2 hy hg2) hg2 (by simp) hne (qNn hfit hB) (qOP hfit) hid hd
 rw[List.drop_zero,List.drop_zero,List.take_of_length_le (by simp),List.take_of_length_le (by simp),<-List.map_append]at this
 exact this
theorem qKd {k:Nat} {α:Type} {m:List α} {f:α->List D} (ho:o.op=.call { callee:=.builtin .append,args:=#[x,y],argTypes:=#[t,tx] }) (id':Nat)
  (ht:te t=some ⟨.slice e,s,b,z⟩) (htx:te tx=some ⟨.slice e2,s2,b2,z2⟩) (hte:te e=some ti) (hz0:ti.zero=some zv) (hzs:zv.cells.size=ti.size) (hpos:0<ti.size) (hB:0<ti.bytes)
  (hx:σ.ev x=some (.w k [])) (hy:σ.ev y=some (.s (m.map f))) (hys:∀y,(f y).length=ti.size)
  (hfit:qAg ti.bytes m.length=true) (hid:get σ.h id'=none) (hd:qBb σ o=true) :
  qKh P σ o (St.put { σ with h:=(id',.row ti.size (m.map f))::σ.h } o.dst (.R id')) :=
 qVu T ho id' ht htx hte hz0 hzs hpos hx hy (ys:=m.map f) rfl (by intro a ha;obtain⟨y,_,rfl⟩:=List.mem_map.1 ha;exact hys y) (by simp) (qNn hfit hB) (qOP hfit) hid hd
theorem qM6 {k k':IntKind} {n:Int} {α:Type} {f:α->List D} {zo:α} (ho:o.op=.makeSlice t x y) (id:Nat) (ht:te t=some ⟨.slice e,s,b,z⟩) (hte:te e=some ti) (hz:ti.zero=some zv)
  (hone:zv.cells.toList.all (·.oneCell')=true) (hzs:zv.cells.size=ti.size) (hzl:ZL zv.cells.toList (f zo)) (hB:0<ti.bytes) (hx:σ.ev x=some (.v (.int k n))) (hy:σ.ev y=some (.v (.int k' n)))
  (hn:decide (0<=n)=true) (hfit:qAg ti.bytes n.toNat=true)
  (hid:get σ.h id=none) (hd:qBb σ o=true):qKh P σ o (St.put { σ with h:=(id,.row ti.size ((List.replicate n.toNat zo).map f))::σ.h } o.dst (.R id)):=by
 have hn:=of_decide_eq_true hn
 have h1:=qOP hfit
 have h2:=qNn hfit hB
 have h3:(n.toNat:Int)=n:=Int.toNat_of_nonneg hn
 have:=qVB T ho id ht hte hz hone hzs hzl hx hy hn (by
  have:ti.bytes*n.toNat<=281474976710656:=by
   rw[Nat.mul_assoc]at h1
   have:n.toNat*ti.bytes<=2*(n.toNat*ti.bytes):=by omega
   rw[Nat.mul_comm];omega
  have h4:((ti.bytes*n.toNat:Nat):Int)<=((281474976710656:Nat):Int):=Int.ofNat_le.2 this
  rw[<-h3,<-Int.natCast_mul];exact h4) (by unfold qDF at h2;omega) hid hd
 rw[<-List.map_replicate]at this
 exact this
theorem qR4 {len:Nat} {parts:Array (Nat×Operand)} {ps:List (Nat×D)} {α:Type} {f:α->List D} {l:List α} (ho:o.op=.buildSlice t len parts) (id:Nat) (ht:te t=some ⟨.slice e,s,b,z⟩) (hte:te e=some ti) (hz:ti.zero=some zv)
  (hev:qMU σ parts.toList=some ps) (hen:qIW 0 ps=true) (hcs:qDx ps=some (l.map f)) (hlen:l.length=len) (hsz:∀y,(f y).length=ti.size) (hpl:((l.map f).flatten).all D.plain=true) (hsmall:Nat.ble (len*ti.size) 16777216=true) (hsmall':Nat.ble len 16777216=true)
  (hid:get σ.h id=none) (hd:qBb σ o=true):qKh P σ o (St.put { σ with h:=(id,.row ti.size (l.map f))::σ.h } o.dst (.R id)):=by
 have:=qai T ho id ht hte hz hev hen hcs (by rw[List.length_map,hlen];exact Nat.beq_refl _) (by intro x hx;obtain⟨y,_,rfl⟩:=List.mem_map.1 hx;exact hsz y) hpl hsmall hsmall' hid hd
 exact this
end
end
end Go.AM
end
section
namespace Go.AM
theorem qJ9 {a b:Bool} (h:a=true) (k:b=true):(a&&b)=true:=by rw[h,k];rfl
theorem qNw {α:Type} {p:α->Bool} {a:α} {l:List α} (h:p a=true) (k:l.all p=true):(a::l).all p=true:=by rw[List.all_cons,h,k];rfl
theorem qYE {α:Type} {p:α->Bool}:([]:List α).all p=true:=rfl
theorem qUZ {a b:Nat} {d:D} (h:d.cfree=true):d.renC a b=d:=by cases d<;>first|rfl|(simp[D.cfree]at h;done)
theorem qSH {hp:List (Nat×Root)} {d:D} (h:d.cfree=true):d.knownC hp=true:=by cases d<;>first|rfl|(simp[D.cfree]at h;done)
theorem qQ8 {a b fn:Nat} {caps:List D} (h:caps.all D.cfree=true):(D.f fn caps).ren a b=.f fn caps:=by
 show D.f fn (caps.map (D.renC a b))=.f fn caps
 congr 1
 refine(List.map_congr_left fun d hd=>?_).trans (List.map_id _)
 exact qUZ (List.all_eq_true.1 h d hd)
theorem qMG {hp:List (Nat×Root)} {fn:Nat} {caps:List D} (h:caps.all D.cfree=true):(D.f fn caps).known hp=true:=by
 show caps.all (D.knownC hp)=true
 exact List.all_eq_true.2 fun d hd=>qSH (List.all_eq_true.1 h d hd)
theorem qOA {caps:List D} (h:caps.all D.cfree=true):caps.all D.free=true:=List.all_eq_true.2 fun d hd=>by
 have:=List.all_eq_true.1 h d hd
 cases d<;>first|rfl|exact this|(simp[D.cfree]at this;done)
theorem neZ {b:Int} (h:(b != 0)=true):b≠0:=by simpa using h
def qNC (s:ByteArray) (i:Int):Option UInt8:=if 0<=i then s[i.toNat]? else none
section
variable {P:Program} {σ:St} {o:Oper}
theorem qPr {t:Nat} {x:Operand} {k:IntKind} {a:Int} (ho:o.op=.unOp .neg t x) (hx:σ.ev x=some (.v (.int k a))):OpV P σ o (.v (.int k (k.wrap (-a)))):=by
 refine OpV.of_val fun E a' w Z loc fps R=>?_
 have h1:=R.ev hx
 generalize hax:a'.eval x=vx at h1
 cases h1
 exact⟨_,by simp[execOp,ho,hax,Op.unary,Op.intArith],.v⟩
theorem qHt {t u:Nat} {x y:Operand} {k:IntKind} {a b:Int} (ho:o.op=.binOp .quo t x y u) (hx:σ.ev x=some (.v (.int k a))) (hy:σ.ev y=some (.v (.int k b)))
  (hb:b≠0):OpV P σ o (.v (.int k (k.wrap (a.tdiv b)))):=by
 refine OpV.of_val fun E a' w Z loc fps R=>?_
 have h1:=R.ev hx;have h2:=R.ev hy
 generalize hax:a'.eval x=vx at h1
 generalize hay:a'.eval y=vy at h2
 cases h1;cases h2
 exact⟨_,by simp[execOp,ho,hax,hay,eqGuard_at_int,binOp_quo,binOp_rem,Op.intDiv,hb],.v⟩
end
section
variable {P:Program} {te:TE} (T:qGz P te) {σ:St} {o:Oper}
include T
theorem qJL {s t:Nat} {x:Operand} {k k':IntKind} {a:Int} {s1 b1 z1} {ti:TI} (ho:o.op=.convert s t x) (hs:te s=some ti) (ht:te t=some ⟨.int k',s1,b1,z1⟩) (hx:σ.ev x=some (.v (.int k a))):OpV P σ o (.v (.int k' (k'.wrap a))):=by
 refine OpV.of_val fun E a' w Z loc fps R=>?_
 have h1:=R.ev hx
 generalize hax:a'.eval x=vx at h1
 cases h1
 obtain⟨i,d,_,h2,_⟩:=qGm T hs
 have hu:=qRj T ht
 refine⟨_,?_,.v⟩
 simp[execOp,ho,hax,convert,run_underlying hu,run_underlying h2,Conv.intToInt]
theorem qBO {t:Nat} {s b z} {x i:Operand} {k:IntKind} {n:Int} {str:ByteArray} {c:UInt8} (ho:o.op=.index t x i) (ht:te t=some ⟨.str,s,b,z⟩)
  (hx:σ.ev x=some (.v (.string str))) (hi:σ.ev i=some (.v (.int k n))) (hc:qNC str n=some c):OpV P σ o (.v (.int .u8 c.toNat)):=by
 unfold qNC at hc
 split at hc
 ·exact qVI T ho ht hx hi ‹_› hc
 ·cases hc
end
theorem qY3 {w Z loc fp v} {α:Type} {l:List α} {f:α->List D} (h:AR w Z loc fp (.s (l.map f)) v):l.length<=qDF:=by
 have key:∀d,AR w Z loc fp d v->d=.s (l.map f)->l.length<=qDF:=by
  intro d h hd
  cases h<;>simp only[D.s.injEq,reduceCtorEq]at hd
  ·have:=congrArg List.length hd
   simp at this;omega
  ·rename_i h5 h6 _
   have:=congrArg List.length hd
   simp at this;omega
 exact key _ h rfl
theorem AW.boundBox {P:Program} {c:Code} {Q:Exit->St->Prop} {σ:St} {id j:Nat} {ds:List D} {α:Type} {l:List α} {f:α->List D} (hb:get σ.h id=some (.box ds)) (hj:ds[j]?=some (.s (l.map f))) (h:l.length<=qDF->AW P c Q σ):AW P c Q σ:=by
 rintro E a w ⟨Z,loc,fps,R⟩
 obtain⟨L,_,_,_,arr,el,_,h4⟩:=R.roots id _ ⟨hb,by simp⟩
 obtain⟨v,_,_,hv⟩:=h4.get0 hj
 exact h (qY3 hv) E a w ⟨Z,loc,fps,R⟩
inductive LendL (σ:St):List D->List D->Prop
 |nil:LendL σ [] []
 |cons {d e ds es}:Lend σ d e->LendL σ ds es->LendL σ (d::ds) (e::es)
theorem LendL.spec {σ:St} {ds es:List D} (h:LendL σ ds es):ds.length=es.length/\∀(i:Nat) (d d':D),ds[i]?=some d->es[i]?=some d'->Lend σ d d':=by
 induction h with
 |nil=>exact⟨rfl,by simp⟩
 |cons h1 h2 ih =>
  refine⟨by simp[ih.1],fun i d d' e1 e2=>?_⟩
  cases i with
  |zero=>simp at e1 e2;subst e1 e2;exact h1
  |succ i=>exact ih.2 i d d' (by simpa using e1) (by simpa using e2)
theorem qIK {σ:St} {ds es:List D} (h:LendL σ ds es):Lend σ (.g ds) (.g es):=.g h.spec.1 h.spec.2
theorem qaW {σ:St} {fn:Nat} {ds es:List D} (h:LendL σ ds es):Lend σ (.f fn ds) (.f fn es):=.f h.spec.1 h.spec.2
inductive ZFL:List D->Prop
 |nil:ZFL []
 |cons {d ds}:d.zfree->ZFL ds->ZFL (d::ds)
theorem zfl {ds:List D} (h:ZFL ds):∀d∈ds,d.zfree:=by
 induction h with
 |nil=>simp
 |cons h1 _ ih=>intro d hd;rcases List.mem_cons.1 hd with rfl|hd;exact h1;exact ih d hd
theorem qIk {sz:Nat} {α:Type} {l:List α} {f:α->List D} (h:∀y,ZFL (f y)):D.zfree (.w sz (l.map f)):=qYw fun x hx d hd=>by
 obtain⟨y,_,rfl⟩:=List.mem_map.1 hx;exact zfl (h y) d hd
theorem qJg {τ σ:St} (h1:∀t d,get τ.t t=some d->get σ.t t=some d) {x:Operand} {d:D} (hx:τ.ev x=some d):σ.ev x=some d:=by
 cases x with
 |tmp t=>exact h1 t d hx
 |const v=>exact hx
 |func f=>exact hx
 |global g=>exact hx
theorem qN9 {τ σ:St} (h1:∀t d,get τ.t t=some d->get σ.t t=some d):∀{l:List (Nat×Operand)} {r},qMU τ l=some r->qMU σ l=some r
 | [],r,h=>h
 | (i,x)::l,r,h=>by
  simp only[qMU]at h⊢
  cases hx:τ.ev x with
  |none=>simp[hx]at h
  |some d =>
   cases hl:qMU τ l with
   |none=>simp[hx,hl]at h
   |some r' =>
    rw[qJg h1 hx,qN9 h1 hl]
    simpa [hx,hl]using h
theorem FStep.mk {P:Program} {ops:Array Oper} {τ:St} {o:Oper} {te:TE} (T:qGz P te) {t e s b:Nat} {z:Option Value} {ti:TI} {zv:Value} {len k:Nat} {parts:Array (Nat×Operand)} {ps:List (Nat×D)} {α:Type} {f:α->List D} {l:List α} (ho:o.op=.buildSlice t len parts) (hw:τ.wants ops o=some true) (ht:te t=some ⟨.slice e,s,b,z⟩) (hte:te e=some ti) (hz:ti.zero=some zv)
  (hev:qMU τ parts.toList=some ps) (hen:qIW 0 ps=true) (hcs:qDx ps=some (l.map f)) (hlen:l.length=len) (hsz:∀y,(f y).length=ti.size) (hpl:((l.map f).flatten).all D.plain=true) (hsmall:Nat.ble (len*ti.size) 16777216=true) (hsmall':Nat.ble len 16777216=true)
  (hd:qBb τ o=true):FStep P ops τ o (.R k) [(k,.row ti.size (l.map f))] k (k+1):=by
 rintro E σ a w h1 h2 h3 hfr ⟨Z,loc,fps,R⟩
 have RV:=R.toOnly h1 h2 h3
 unfold qJy
 rw[if_pos (RV.wants hw)]
 exact qR4 T ho k ht hte hz (qN9 h1 hev) hen hcs hlen hsz hpl hsmall hsmall' (hfr k (Nat.le_refl _) (Nat.lt_succ_self _)) (by unfold qBb at hd⊢;rw[h3];exact hd) E a w ⟨Z,loc,fps,R⟩
theorem FStep.mk0 {P:Program} {ops:Array Oper} {τ:St} {o:Oper} {te:TE} (T:qGz P te) {t e s b k:Nat} {z:Option Value} {ti:TI} (ho:o.op=.buildSlice t 0 #[]) (hw:τ.wants ops o=some true) (ht:te t=some ⟨.slice e,s,b,z⟩) (hte:te e=some ti) (hd:qBb τ o=true):FStep P ops τ o (.w ti.size []) [] k k:=by
 rintro E σ a w h1 h2 h3 hfr ⟨Z,loc,fps,R⟩
 have RV:=R.toOnly h1 h2 h3
 unfold qJy
 rw[if_pos (RV.wants hw)]
 exact qF6 T ho ht hte (by unfold qBb at hd⊢;rw[h3];exact hd) E a w ⟨Z,loc,fps,R⟩
end Go.AM
end
section
namespace Go.AM
structure Chg (own:List Nat) (w w':World):Prop where
 size:w.heap.size<=w'.heap.size
 same:∀b,b<w.heap.size->b∉own->w'.heap[b]?=w.heap[b]?
 shape:∀b,b<w.heap.size->w'.shape? b=w.shape? b
 os:w'.os=w.os
 output:w'.output=w.output
 tape:w'.tape=w.tape/\w.drawn<=w'.drawn
def qGM (P:Program) (f:FuncId) (az outs:List D) (res:D):Prop :=
 qIX P f/\∀(w:World) (Z:Nat->Prop) (vs:Array Value) (fp:List Nat),ART w Z qAi fp az vs.toList->fp.Nodup->(∀b∈fp,¬Z b/\b<w.heap.size)->(∀b,Z b->b<w.heap.size)->qW9 w Z->(∀b∈fp,GN<=b)->
  Calls P f vs w fun e w'=>∃v Z' fpo fpr,e=.returned v/\Chg fp w w'/\ART w' Z' qAi fpo outs vs.toList/\AR w' Z' qAi fpr res v/\(fpo++fpr).Nodup/\
   (∀b∈fpo++fpr,¬Z' b/\b<w'.heap.size/\(b∈fp\/w.heap.size<=b))/\(∀b,Z' b->b<w'.heap.size/\(Z b\/b∈fp\/w.heap.size<=b))
def qKa (ids:List Nat) (L:Nat->Loc):List (Nat×Loc):=ids.map fun i=>(i,L i)
theorem qQ4 {L:Nat->Loc}:∀{ids:List Nat} {i:Nat} {M:Loc},get (qKa ids L) i=some M->i∈ids/\M=L i
 | [],i,M,h=>by simp[qKa,get]at h
 |j::ids,i,M,h=>by
  simp only[qKa,List.map_cons,qAa]at h
  split at h
  ·rename_i e;subst e;cases h;simp
  ·have:=qQ4 (ids:=ids) (L:=L) h;exact⟨List.mem_cons_of_mem _ this.1,this.2⟩
theorem qQ6 {L:Nat->Loc}:∀{ids:List Nat} {i:Nat},i∈ids->get (qKa ids L) i=some (L i)
 | [],i,h=>by simp at h
 |j::ids,i,h=>by
  simp only[qKa,List.map_cons,qAa]
  split
  ·rename_i e;subst e;rfl
  ·rename_i e;exact qQ6 ((List.mem_cons.1 h).resolve_left e)
def qY6 (te:TE) (fn:Func) (ds0 outs:List D) (res:D) (pins:List (Nat×Loc)):Exit->St->Prop:=fun e σ=>isRet e/\σ.g=pins/\∃rs ids ids',qXK te σ fn.results.toList=some rs/\qLz σ ds0 outs ids'/\ExpT σ (qY1 rs) res ids/\(ids'++ids).Nodup
def qXH (K:List Nat) (loc:Nat->Option Loc):Nat->Option Loc:=fun id=>if id∈K then loc id else none
theorem qWl {P : Program} {te : TE} (T : qGz P te) {f : FuncId} {fn : Func} {body : Code} {az outs : List D} {res : D} (hf : P.funcs[f]? = some fn) (hb : fn.body=some body) (hname : (fn.name == "runtime.NumGoroutine")=false) (hn : Nat.ble az.length fn.ntmps=true) (hok : az.all D.gOk=true)
  (keep:List Nat) (hsub:∀i∈keep,i∈(qGA 1 az).2.1.map (·.1)) (hkeep:∀{w:World} {Z:Nat->Prop} {loc:Nat->Option Loc} {vs:List Value},(∀id,get (qGA 1 az).2.1 id=none->loc id=none)->ART w Z loc [] (qGA 1 az).1 vs->ART w Z (qXH keep loc) [] (qGA 1 az).1 vs)
  (h:∀L:Nat->Loc,AW P body (qY6 te fn (qGA 1 az).1 outs res (qKa keep L)) ⟨qQE 0 (qGA 1 az).1,(qGA 1 az).2.1,fn.ntmps,qKa keep L⟩):qGM P f az outs res:=by
 refine⟨⟨fn,hf,by rw[hb];rfl,hname⟩,fun w Z vs fp hart hnd hfp hZ hG hF=>?_⟩
 have hn:=Nat.le_of_ble_eq_true hn
 have artlen:∀{loc:Nat->Option Loc} {ds:List D} {vs:List Value} {fp},ART w Z loc fp ds vs->ds.length=vs.length:=by
  intro loc ds
  induction ds with
  |nil=>intro vs fp h;cases h;rfl
  |cons d ds ih=>intro vs fp h;cases h with|cons h1 h2=>simp[ih h2]
 have artget:∀{loc:Nat->Option Loc} {ds:List D} {vs:List Value} {i:Nat} {d:D},ART w Z loc [] ds vs->ds[i]?=some d->∃v,vs[i]?=some v/\AR w Z loc [] d v:=by
  intro loc ds
  induction ds with
  |nil=>intro vs i d _ h;simp at h
  |cons d' ds ih =>
   intro vs i d h hi
   generalize hfp:([]:List Nat)=fp at h
   cases h with
   | @cons _ fp1 fp2 _ v _ vs h1 h2 =>
    obtain⟨rfl,rfl⟩:fp1=[]/\fp2=[]:=List.append_eq_nil_iff.1 hfp.symm
    cases i with
    |zero=>simp at hi;subst hi;exact⟨v,rfl,h1⟩
    |succ i=>simpa using ih h2 (by simpa using hi)
 let E:Env:=⟨w,Z,fp,hG.1,hF,hG.2⟩
 let act:Act:={ tmps:=vs++Array.replicate (fn.ntmps-vs.size) undef,defers:=[] }
 have hlen:=artlen hart
 simp only[Array.length_toList]at hlen
 have R0:Rel E ⟨[],[],fn.ntmps,[]⟩ act w Z qAi (fun _=>[]):=by
  refine { size:=by simp[act];omega,defers:=rfl,temps:=?_,roots:=?_,nodup:=?_,disj:=?_,owned:=?_,fresh:=fun _ _=>rfl,zlt:=hZ,zsub:=fun _ h=>h,znew:=fun _ h=>.inl h,frame:=fun _ _ _=>rfl,grow:=Nat.le_refl _,shape:=fun _ _=>rfl,os:=rfl,output:=rfl,tape:=⟨rfl,Nat.le_refl _⟩,pins:=fun _ _ h=>by cases h }
  ·intro t d ht;simp[get]at ht
  all_goals (intros;rename_i hl;simp[St.live,get]at *)
 obtain⟨loc1,fps1,⟨R1,hl1,_⟩,hart1⟩:=qTO R0 (k:=1) (fun _ _ _=>rfl) hart hnd (fun b hb=>⟨(hfp b hb).1,(hfp b hb).2,.inr hb,fun i ρ hl=>by simp[St.live,get]at hl⟩) hok
 simp only[List.append_nil]at R1
 have hlen1:=artlen hart1
 let L:Nat->Loc:=fun i=>(loc1 i).getD ⟨0,0,0,0,0⟩
 have hdead:∀x∈(qGA 1 az).2.1,x.2≠.dead:=by
  have c:∀(k:Nat) (d:D),∀x∈(qNO k d).2.1,x.2≠.dead:=by intro k d x hx;cases d<;>simp[qNO]at hx<;>(subst hx;simp)
  have lc:∀(ds:List D) (k:Nat),∀x∈(qDw k ds).2.1,x.2≠.dead:=by
   intro ds;induction ds with
   |nil=>intro k x hx;simp[qDw]at hx
   |cons d ds ih=>intro k x hx;simp only[qDw]at hx;rcases List.mem_append.1 hx with hx|hx;exact ih _ x hx;exact c k d x hx
  have g:∀(k:Nat) (d:D),∀x∈(qPR k d).2.1,x.2≠.dead:=by
   intro k d x hx;cases d<;>first|exact lc _ _ x hx|exact c _ _ x hx|(simp only[qPR]at hx;rcases List.mem_cons.1 hx with rfl|hx;exact(by simp);exact lc _ _ x hx)
  have lg:∀(ds:List D) (k:Nat),∀x∈(qGA k ds).2.1,x.2≠.dead:=by
   intro ds;induction ds with
   |nil=>intro k x hx;simp[qGA]at hx
   |cons d ds ih=>intro k x hx;simp only[qGA]at hx;rcases List.mem_append.1 hx with hx|hx;exact ih _ x hx;exact g k d x hx
  exact lg az 1
 have hpin:∀i M,get (qKa keep L) i=some M->loc1 i=some M:=by
  intro i M hg
  obtain⟨h1,rfl⟩:=qQ4 hg
  replace h1:=hsub i h1
  obtain⟨x,hx,rfl⟩:=List.mem_map.1 h1
  have hget:∃ρ,get (qGA 1 az).2.1 x.1=some ρ:=by
   have:∀{l:List (Nat×Root)},x∈l->∃ρ,get l x.1=some ρ:=by
    intro l;induction l with
    |nil=>intro h;simp at h
    |cons y l ih =>
     intro h
     rw[qAa]
     split
     ·exact⟨_,rfl⟩
     ·rename_i e;rcases List.mem_cons.1 h with rfl|h;exact absurd rfl e;exact ih h
   exact this hx
  obtain⟨ρ,hρ⟩:=hget
  obtain⟨M,hM,_⟩:=R1.roots x.1 ρ ⟨hρ,hdead _ (qKB hρ)⟩
  simp[L,hM]
 have R:Rel E ⟨qQE 0 (qGA 1 az).1,(qGA 1 az).2.1,fn.ntmps,qKa keep L⟩ act w Z loc1 fps1:=by
  refine { R1 with temps:=?_,pins:=hpin }
  intro t d ht
  obtain⟨_,h1⟩:=qP6 ht
  obtain⟨v,h2,h3⟩:=artget hart1 h1
  refine⟨v,?_,h3⟩
  simp only[Nat.sub_zero,Array.getElem?_toList]at h2
  show (vs++Array.replicate (fn.ntmps-vs.size) undef)[t]?=some v
  rw[Array.getElem?_append_left (Array.getElem?_eq_some_iff.1 h2).1];exact h2
 refine calls_of_wp hf hb (wp_mono (h L E _ w ⟨Z,loc1,_,R⟩) ?_)
 rintro e a' w' ⟨σ',⟨he,hg,ds,ids,ids',hres,hexo,hexp,hnd'⟩,Z',loc',fps',R'⟩
 obtain⟨us,h1,h2⟩:=qPT T R' hres
 have hv:∃v,(results fn a'.tmps).run P w'=.ok v w'/\AR w' Z' loc' [] (qY1 ds) v:=by
  have hrun:(fn.results.mapM (qZI a'.tmps)).run P w'=.ok us.toArray w':=by
   rw[Array.mapM_eq_mapM_toList];simp only[Sem.run_map,h1,Result.andThen_ok]
  have hall:∀{ds:List D} {us:List Value},All2 (fun d v=>AR w' Z' loc' [] d v) ds us->ds.length=us.length:=by
   intro ds us h;induction h with|nil=>rfl|cons _ _ ih=>simp[ih]
  have hl:=hall h2
  by_cases hone:us.length=1
  ·cases h2 with
   |nil=>simp at hone
   | @cons d u l m g1 g2 =>
    cases g2 with
    |cons=>simp at hone
    |nil=>exact⟨u,by simp only[qMP,Sem.run_bind,hrun,Result.andThen_ok,Sem.run_pure];simp,g1⟩
  ·refine⟨.tuple us.toArray,?_,?_⟩
   ·simp only[qMP,Sem.run_bind,hrun,Result.andThen_ok,Sem.run_pure,List.size_toArray,hone,dif_neg,not_false_eq_true]
   ·have:qY1 ds=.t ds:=by
     cases ds with
     |nil=>rfl
     |cons d ds=>cases ds with|nil=>simp at hl;omega|cons=>rfl
    rw[this]
    exact .t (by simpa using qGa h2)
 obtain⟨v,hv1,hv2⟩:=hv
 obtain⟨fpr,hv3,hv4⟩:=qWA R' hexp (List.nodup_append.1 hnd').2.1 hv2
 have hargs:ART w' Z' loc' [] (qGA 1 az).1 vs.toList:=by
  refine ART.mono (fun b hb=>R'.zsub b hb) ?_ (hkeep (fun id hn=>R1.fresh id hn) hart1) ?_
  ·intro id M hM
   unfold qXH at hM
   split at hM
   ·rename_i hin
    have h3:get σ'.g id=some (L id):=by rw[hg];exact qQ6 hin
    rw[R'.pins _ _ h3]
    simp[L,hM]
   ·cases hM
  ·intro b hb
   rcases hb with hb|hb
   ·exact R'.frame b (hZ b hb) (fun hin=>(hfp b hin).1 hb)
   ·simp at hb
 obtain⟨fpo,ho1,ho2⟩:=qPK R' hexo (List.nodup_append.1 hnd').1 hargs
 have J:=ho2.append R' hv4 hnd'
 have post:∃v_1 Z'_1 fpo fpr,Ending.returned v=Ending.returned v_1/\Chg fp w w'/\ART w' Z'_1 qAi fpo outs vs.toList/\AR w' Z'_1 qAi fpr res v_1/\(fpo++fpr).Nodup/\
   (∀b∈fpo++fpr,¬Z'_1 b/\b<w'.heap.size/\(b∈fp\/w.heap.size<=b))/\(∀b,Z'_1 b->b<w'.heap.size/\(Z b\/b∈fp\/w.heap.size<=b)):=by
  refine⟨v,Z',fpo,fpr,rfl,⟨R'.grow,R'.frame,R'.shape,R'.os,R'.output,R'.tape⟩,ho1,hv3,J.1,fun b hb=>?_,fun b hb=>⟨R'.zlt b hb,?_⟩⟩
  ·obtain⟨id,ρ,_,h3,h4⟩:=J.2 b hb
   obtain⟨g1,g2,g3⟩:=R'.owned id ρ b h3 h4
   exact⟨g1,g2,g3.symm⟩
  ·rcases R'.znew b hb with h|h|h
   ·exact .inl h
   ·exact .inr (.inr h)
   ·exact .inr (.inl h)
 cases e with
 |normal=>exact⟨R'.defers,v,hv1,post⟩
 |ret=>exact⟨R'.defers,v,hv1,post⟩
 |_=>exact he.elim
def qPd:D->D->List (Nat×Root)
 |.R id,.w sz xs=>[(id,.row sz xs)]
 |.p id _,.pw cs=>[(id,.box cs)]
 |_,_=>[]
def qKb:List D->List D->List (Nat×Root)
 |d::ds,o::os=>qPd d o++qKb ds os
 |_,_=>[]
def qR9:D->D->List (Nat×Root)
 |.g ds,.g os=>qKb ds os
 |d,o=>qPd d o
def qCS:List D->List D->List (Nat×Root)
 |d::ds,o::os=>qR9 d o++qCS ds os
 |_,_=>[]
def qYK (σ:St) (d o:D):Bool :=
 match d,o with
 |.R id,.w sz _=>(match get σ.h id with|some (.row sz' _)=>Nat.beq sz sz'|_=>false)
 |.p id off,.pw cs=>Nat.beq off 0&&cs.all D.isVS&&(match get σ.h id with|some (.box _)=>true|_=>false)
 |_,.u=>true
 |_,_=>false
def qTD (σ:St):List D->List D->Bool
 |d::ds,o::os=>qYK σ d o&&qTD σ ds os
 | [],[]=>true
 |_,_=>false
def qY7 (σ:St) (d o:D):Bool :=
 match d,o with
 |.g ds,.g os=>qTD σ ds os
 |d,o=>qYK σ d o
def qQc (σ:St):List D->List D->Bool
 |d::ds,o::os=>qY7 σ d o&&qQc σ ds os
 | [],[]=>true
 |_,_=>false
section
variable {E:Env} {a:Act} {w:World} {Z:Nat->Prop} {loc:Nat->Option Loc}
theorem qJs {P : Program} {te : TE} (T : qGz P te) {f : FuncId} {fn : Func} {body : Code} {az outs : List D} {res : D} (hf : P.funcs[f]? = some fn) (hb : fn.body=some body) (hname : (fn.name == "runtime.NumGoroutine")=false) (hn : Nat.ble az.length fn.ntmps=true) (hok : az.all D.gOk=true)
  (h:∀L:Nat->Loc,AW P body (qY6 te fn (qGA 1 az).1 outs res (qKa ((qGA 1 az).2.1.map (·.1)) L)) ⟨qQE 0 (qGA 1 az).1,(qGA 1 az).2.1,fn.ntmps,qKa ((qGA 1 az).2.1.map (·.1)) L⟩):qGM P f az outs res :=
 qWl T hf hb hname hn hok _ (fun _ hi=>hi) (fun {w Z loc vs} hfr hart=>by
  refine ART.mono (fun b hb=>hb) ?_ hart (fun _ _=>rfl)
  intro id M hM
  unfold qXH
  rw[if_pos]
  ·exact hM
  ·by_cases hin:id∈(qGA 1 az).2.1.map (·.1)
   ·exact hin
   ·exfalso
    have:get (qGA 1 az).2.1 id=none:=by
     have:∀{l:List (Nat×Root)},(¬id∈l.map (·.1))->get l id=none:=by
      intro l;induction l with
      |nil=>intro _;rfl
      |cons y l ih =>
       intro h
       rw[qAa,if_neg (fun e=>h (by rw[List.map_cons,List.mem_cons];exact .inl e))]
       exact ih fun hm=>h (by rw[List.map_cons];exact List.mem_cons_of_mem _ hm)
     exact this hin
    rw[hfr id this]at hM;cases hM) h
def D.leafIn (K:List Nat):D->Bool
 |.p id _|.R id|.r id _ _|.e id _ _=>K.contains id
 |.v _|.s _|.w _ []=>true
 |_=>false
def D.refsIn (K:List Nat):D->Bool
 |.g ds=>ds.all (D.leafIn K)
 |d=>d.leafIn K
theorem AR.leafK {w:World} {Z:Nat->Prop} {loc:Nat->Option Loc} {K:List Nat} {d:D} {v:Value} {fp:List Nat} (hd:d.leafIn K=true) (h:AR w Z loc fp d v):AR w Z (qXH K loc) fp d v:=by
 have hl:∀{id L},K.contains id=true->loc id=some L->qXH K loc id=some L:=fun h1 h2=>by unfold qXH;rw[if_pos (by simpa using h1)];exact h2
 cases h with
 |v=>exact .v
 |s0=>exact .s0
 |s h1 h2 h3 h4 h5 h6=>exact .s h1 h2 h3 h4 h5 h6
 |w0=>exact .w0
 |r h1 h2 h3 h4 h5=>exact .r (hl hd h1) h2 h3 h4 h5
 |R h1 h2 h3 h4=>exact .R (hl hd h1) h2 h3 h4
 |p h1=>exact .p (hl hd h1)
 |e h1=>exact .e (hl hd h1)
 | @w _ _ xs _ _ _ _ _ _ h1 h2 h3 h4 h5 h6 =>
  cases xs with
  |nil=>exact .w h1 h2 h3 h4 h5 h6
  |cons x xs=>cases hd
 |_=>cases hd
theorem AR.refsK {w:World} {Z:Nat->Prop} {loc:Nat->Option Loc} {K:List Nat} {d:D} {v:Value} {fp:List Nat} (hd:d.refsIn K=true) (h:AR w Z loc fp d v):AR w Z (qXH K loc) fp d v:=by
 cases d with
 |g ds =>
  cases h with
  | @g _ _ _ arr h1 =>
   refine .g ?_
   have:∀{ds:List D} {fp:List Nat} {vs:List Value},ds.all (D.leafIn K)=true->ARL w Z loc fp ds vs->ARL w Z (qXH K loc) fp ds vs:=by
    intro ds
    induction ds with
    |nil=>intro fp vs _ h;cases h;exact .nil
    |cons d ds ih =>
     intro fp vs hd h
     rw[List.all_cons,Bool.and_eq_true]at hd
     cases h with
     |cons g1 g2 g3=>exact .cons g1 (g2.leafK hd.1) (ih hd.2 g3)
   exact this hd h1
 |_=>exact h.leafK hd
theorem ART.refsK {w:World} {Z:Nat->Prop} {loc:Nat->Option Loc} {K:List Nat}:∀{ds:List D} {fp:List Nat} {vs:List Value},ds.all (D.refsIn K)=true->ART w Z loc fp ds vs->ART w Z (qXH K loc) fp ds vs
 | [],_,_,_,h=>by cases h;exact .nil
 |d::ds,_,_,hd,h=>by
  rw[List.all_cons,Bool.and_eq_true]at hd
  cases h with
  |cons g1 g2=>exact .cons (g1.refsK hd.1) (ART.refsK hd.2 g2)
theorem Rel.regain {σ:St} {fps} (R:Rel E σ a w Z loc fps) {id:Nat} {ρ:Root} {L:Loc} {fp0:List Nat} (hdead:∀ρ,¬σ.live id ρ) (hloc:loc id=some L)
  (hfp:∀b∈fp0,¬Z b/\b<w.heap.size/\(E.w0.heap.size<=b\/b∈E.own)/\∀i ρ',σ.live i ρ'->b∉fps i) (hnd:fp0.Nodup) (hroot:RootRel w Z loc fp0 L ρ) :
  Rel E { σ with h:=(id,ρ)::σ.h } a w Z loc (qHN fps id fp0):=by
 have hlive:∀i ρ',St.live { σ with h:=(id,ρ)::σ.h } i ρ'->(i=id/\ρ'=ρ)\/(i≠id/\σ.live i ρ'):=by
  rintro i ρ' ⟨h1,h2⟩
  simp only[qAa]at h1
  split at h1
  ·cases h1;exact .inl ⟨‹_›,rfl⟩
  ·exact .inr ⟨‹_›,h1,h2⟩
 refine { R with roots:=?_,nodup:=?_,disj:=?_,owned:=?_,fresh:=?_ }
 ·intro i ρ' hl
  rcases hlive i ρ' hl with⟨rfl,rfl⟩|⟨h1,h2⟩
  ·exact⟨L,hloc,by simpa [qHN]using hroot⟩
  ·obtain⟨L',h4,h5⟩:=R.roots i ρ' h2
   exact⟨L',h4,by simpa [qHN,h1]using h5⟩
 ·intro i ρ' hl
  rcases hlive i ρ' hl with⟨rfl,rfl⟩|⟨h1,h2⟩
  ·simpa [qHN]using hnd
  ·simpa [qHN,h1]using R.nodup i ρ' h2
 ·intro i j ρ1 ρ2 b hi hj hbi hbj
  rcases hlive i ρ1 hi with⟨rfl,rfl⟩|⟨h1,h2⟩<;>rcases hlive j ρ2 hj with⟨rfl,rfl⟩|⟨h1',h2'⟩
  ·rfl
  ·simp only[qHN,if_neg h1',if_true]at hbi hbj
   exact absurd hbj ((hfp b hbi).2.2.2 j ρ2 h2')
  ·simp only[qHN,if_neg h1,if_true]at hbi hbj
   exact absurd hbi ((hfp b hbj).2.2.2 i ρ1 h2)
  ·simp only[qHN,if_neg h1,if_neg h1']at hbi hbj
   exact R.disj i j ρ1 ρ2 b h2 h2' hbi hbj
 ·intro i ρ' b hl hb
  rcases hlive i ρ' hl with⟨rfl,rfl⟩|⟨h1,h2⟩
  ·simp only[qHN,if_true]at hb
   obtain⟨g1,g2,g3,_⟩:=hfp b hb
   exact⟨g1,g2,g3⟩
  ·simp only[qHN,if_neg h1]at hb
   exact R.owned i ρ' b h2 hb
 ·intro i h
  simp only[qAa]at h
  split at h
  ·cases h
  ·exact R.fresh i h
def TookB (E:Env) (a:Act) (w:World) (Z:Nat->Prop) (loc:Nat->Option Loc) (σ:St) (fps:Nat->List Nat) (fp:List Nat) (l:List (Nat×Root)) (fps':Nat->List Nat):Prop :=
 Rel E { σ with h:=l++σ.h } a w Z loc fps'/\(∀i ρ b,St.live { σ with h:=l++σ.h } i ρ->b∈fps' i->(∃i ρ,σ.live i ρ/\b∈fps i)\/b∈fp)
theorem TookB.trans {σ:St} {fps fps1 fps2} {fp1 fp2:List Nat} {l m:List (Nat×Root)} (h1:TookB E a w Z loc σ fps fp1 l fps1) (h2:TookB E a w Z loc { σ with h:=l++σ.h } fps1 fp2 m fps2):TookB E a w Z loc σ fps (fp1++fp2) (m++l) fps2:=by
 have e:({ σ with h:=m++(l++σ.h) }:St)={ σ with h:=(m++l)++σ.h }:=by simp
 refine⟨e▸h2.1,fun i ρ b hl hb=>?_⟩
 rw[<-e]at hl
 rcases h2.2 i ρ b hl hb with⟨j,ρ',hj,hb'⟩|hb'
 ·rcases h1.2 j ρ' b hj hb' with h|h
  ·exact .inl h
  ·exact .inr (List.mem_append_left _ h)
 ·exact .inr (List.mem_append_right _ hb')
theorem qXy {σ:St} {fps fps1} {fp1 fp2:List Nat} {l:List (Nat×Root)} (hL:Loose E σ w Z fps (fp1++fp2)) (hnd:(fp1++fp2).Nodup) (h1:TookB E a w Z loc σ fps fp1 l fps1):Loose E { σ with h:=l++σ.h } w Z fps1 fp2:=by
 intro b hb
 obtain⟨g1,g2,g3,g4⟩:=hL b (List.mem_append_right _ hb)
 refine⟨g1,g2,g3,fun i ρ hl hbi=>?_⟩
 rcases h1.2 i ρ b hl hbi with⟨j,ρ',hj,hb'⟩|hb'
 ·exact g4 j ρ' hj hb'
 ·exact(List.nodup_append.1 hnd).2.2 b hb' b hb rfl
def qZ6 (σ0:St) (loc:Nat->Option Loc):Prop:=(∀id sz xs,get σ0.h id=some (.row sz xs)->∃L,loc id=some L/\L.sz=sz/\L.tot<=qDF)/\(∀id ds,get σ0.h id=some (.box ds)->∃L,loc id=some L/\L.base=0)
theorem qTd {σ0 σ:St} {fps} (R:Rel E σ a w Z loc fps) (hw:qZ6 σ0 loc) {d o:D} {v:Value} {fp:List Nat} {w0:World} {Z0:Nat->Prop} (hf:qYK σ0 d o=true) (hdead:∀x∈qPd d o,∀ρ,¬σ.live x.1 ρ) (hv:AR w0 Z0 loc [] d v)
  (h:AR w Z qAi fp o v) (hnd:fp.Nodup) (hL:Loose E σ w Z fps fp):∃fps',TookB E a w Z loc σ fps fp (qPd d o) fps':=by
 have triv:qPd d o=[]->∃fps',TookB E a w Z loc σ fps fp (qPd d o) fps':=fun e=>by
  rw[e];exact⟨fps,R,fun i ρ b hl hb=>.inl ⟨i,ρ,hl,hb⟩⟩
 have took:∀{id:Nat} {ρ:Root} {fp0:List Nat} {l:List (Nat×Root)},l=[(id,ρ)]->(∀b∈fp0,b∈fp)->Rel E { σ with h:=(id,ρ)::σ.h } a w Z loc (qHN fps id fp0)->∃fps',TookB E a w Z loc σ fps fp l fps':=by
  rintro id ρ fp0 l rfl hsub R'
  refine⟨_,R',?_⟩
  rintro i ρ' b ⟨h1,h2⟩ hb
  simp only[List.cons_append,List.nil_append,qAa]at h1
  split at h1
  ·rename_i e;subst e;simp only[qHN,if_true]at hb;exact .inr (hsub b hb)
  ·rename_i e;simp only[qHN,if_neg e]at hb;exact .inl ⟨i,ρ',⟨h1,h2⟩,hb⟩
 unfold qYK at hf
 split at hf
 ·rename_i id sz xs
  split at hf
  ·rename_i sz' xs' hg
   have hsz:=Nat.eq_of_beq_eq_true hf
   subst hsz
   obtain⟨L,hL1,hL2,hL3⟩:=hw.1 _ _ _ hg
   have hd:=hdead (id,.row sz xs) (by simp[qPd])
   have hv':∃A,v=Value.slice A L.n L.tot/\(L.tot=0\/A=some ⟨L.b,L.base,none⟩)/\L.n<=L.tot:=by
    generalize hdd:D.R id=dd at hv
    cases hv with
    |R g1 g2 g3 g4=>cases hdd;rw[hL1]at g1;cases g1;exact⟨_,rfl,g4,g2⟩
    |_=>cases hdd
   obtain⟨A,rfl,hA,hnt⟩:=hv'
   have h':(xs=[]/\L.n=0/\L.tot=0)\/∃fpN b off arr el,fp=b::fpN/\A=some ⟨b,off,none⟩/\w.heap[b]?=some (.cells arr el (0,0))/\(∀x∈xs,x.length=sz)/\xs.length=L.n/\off+L.tot*sz<=arr.size/\ARL w Z qAi fpN xs.flatten ((arr.toList.drop off).take (xs.length*sz)):=by
    generalize hn:L.n=n at h
    generalize ht:L.tot=t at h
    cases h with
    |w0=>exact .inl ⟨rfl,rfl,rfl⟩
    | @w _ fpN _ b off _ arr el cap k1 k2 k3 k4 k5 k6=>exact .inr ⟨fpN,b,off,arr,el,rfl,rfl,k1,k2,rfl,k5,k6⟩
   rcases h' with⟨rfl,hn0,ht0⟩|⟨fpN,b,off,arr,el,rfl,hAe,k1,k2,k3,k5,k6⟩
   ·exact took (fp0:=[]) rfl (by simp) (R.regain hd hL1 (by simp) (by simp) ⟨hL2,by simp,⟨by simp,by simpa using hn0⟩,hL3,.inl ⟨ht0,rfl⟩⟩)
   ·rcases hA with hA|hA
    ·refine took (fp0:=[]) rfl (by simp) (R.regain hd hL1 (by simp) (by simp) ⟨hL2,k2,⟨by omega,k3.symm⟩,hL3,.inl ⟨hA,rfl⟩⟩)
    ·rw[hA]at hAe;cases hAe
     exact took (fp0:=L.b::fpN) rfl (fun _ h=>h) (R.regain hd hL1 hL hnd ⟨hL2,k2,⟨by omega,k3.symm⟩,hL3,.inr ⟨fpN,arr,el,rfl,k1,k5,k6⟩⟩)
  ·cases hf
 ·rename_i id off cs
  simp only[Bool.and_eq_true]at hf
  obtain⟨⟨h1,h2⟩,h3⟩:=hf
  split at h3
  ·rename_i cs0 hg
   have hoff:=Nat.eq_of_beq_eq_true h1
   subst hoff
   obtain⟨L,hL1,hL2⟩:=hw.2 _ _ hg
   have hd:=hdead (id,.box cs) (by simp[qPd])
   have hv':v=Value.pointer (some ⟨L.b,L.base+0,none⟩):=by
    generalize hdd:D.p id 0=dd at hv
    cases hv with
    |p g1=>cases hdd;rw[hL1]at g1;cases g1;rfl
    |_=>cases hdd
   rw[hL2]at hv'
   subst hv'
   have h':∃fpN arr el,fp=L.b::fpN/\w.heap[L.b]?=some (.cells arr el (0,0))/\ARL w Z qAi fpN cs arr.toList:=by
    generalize hb:L.b=b at h
    cases h with
    |pw k1 k2=>exact⟨_,_,_,rfl,k1,k2⟩
   obtain⟨fpN,arr,el,rfl,k1,k2⟩:=h'
   have hfN:fpN=[]:=by
    have:∀{ds:List D} {vs:List Value} {fp:List Nat},ARL w Z qAi fp ds vs->ds.all D.isVS=true->fp=[]:=by
     intro ds
     induction ds with
     |nil=>intro vs fp h _;cases h;rfl
     |cons d ds ih =>
      intro vs fp h hv
      simp only[List.all_cons,Bool.and_eq_true]at hv
      cases h with|cons _ h1 h2=>rw[(h1.vs_fp hv.1).2,ih h2 hv.2];rfl
    exact this k2 h2
   subst hfN
   exact took (fp0:=[L.b]) rfl (fun _ h=>h) (R.regain hd hL1 hL hnd ⟨hL2,rfl,arr,el,k1,k2.mono (fun _ h=>h) (fun _ _ h=>by simp[qAi]at h) (fun _ _=>rfl)⟩)
  ·cases h3
 ·rename_i hn1 hn2
  refine triv ?_
  cases d<;>rfl
 ·cases hf
theorem qSE {σ:St} {l:List (Nat×Root)} {i:Nat} {ρ:Root} (h:St.live { σ with h:=l++σ.h } i ρ):(∃x∈l,x.1=i)\/σ.live i ρ:=by
 obtain⟨h1,h2⟩:=h
 induction l with
 |nil=>exact .inr ⟨h1,h2⟩
 |cons y l ih =>
  obtain⟨y1,y2⟩:=y
  simp only[List.cons_append,qAa]at h1
  split at h1
  ·rename_i e;exact .inl ⟨(y1,y2),by simp,e.symm⟩
  ·rcases ih h1 with⟨x,hx,e⟩|h
   ·exact .inl ⟨x,List.mem_cons_of_mem _ hx,e⟩
   ·exact .inr h
theorem qV3 {σ0:St} (hw:qZ6 σ0 loc) {w0:World} {Z0:Nat->Prop}:∀{ds os:List D} {σ:St} {fps} (R:Rel E σ a w Z loc fps) {vs:List Value} {fp:List Nat},qTD σ0 ds os=true->((qKb ds os).map (·.1)).Nodup->(∀x∈qKb ds os,∀ρ,¬σ.live x.1 ρ)->
  ARL w0 Z0 loc [] ds vs->ARL w Z qAi fp os vs->fp.Nodup->Loose E σ w Z fps fp->∃l fps',TookB E a w Z loc σ fps fp l fps'/\(∀i,get l i=get (qKb ds os) i)/\(∀x∈l,∃y∈qKb ds os,y.1=x.1):=by
 intro ds
 induction ds with
 |nil =>
  intro os σ fps R vs fp hf _ _ hv h hnd hL
  cases os with
  |nil=>cases h;exact⟨[],fps,⟨R,fun i ρ b hl hb=>.inl ⟨i,ρ,hl,hb⟩⟩,fun _=>rfl,by simp⟩
  |cons=>cases hf
 |cons d ds ih =>
  intro os σ fps R vs fp hf hids hdead hv h hnd hL
  cases os with
  |nil=>cases hf
  |cons o os =>
   simp only[qTD,Bool.and_eq_true]at hf
   simp only[qKb,List.map_append,List.nodup_append]at hids
   generalize hfp0:([]:List Nat)=fp0 at hv
   cases hv with
   | @cons _ fpa fpb _ v _ vs k0 k1 k2 =>
    obtain⟨rfl,rfl⟩:fpa=[]/\fpb=[]:=List.append_eq_nil_iff.1 hfp0.symm
    cases h with
    | @cons _ fp1 fp2 _ _ _ _ m0 m1 m2 =>
     have hnd':=List.nodup_append.1 hnd
     obtain⟨fps1,t1⟩:=qTd R hw hf.1 (fun x hx=>hdead x (by simp[qKb,hx])) k1 m1 hnd'.1 (fun b hb=>hL b (List.mem_append_left _ hb))
     obtain⟨l,fps2,t2,hget,hmem⟩:=ih t1.1 hf.2 hids.2.1 (by
      intro x hx ρ hl
      rcases qSE hl with⟨y,hy,e⟩|hl
      ·exact hids.2.2 y.1 (List.mem_map.2 ⟨y,hy,rfl⟩) x.1 (List.mem_map.2 ⟨x,hx,rfl⟩) e
      ·exact hdead x (by simp[qKb,hx]) ρ hl) k2 m2 hnd'.2.1 (qXy hL hnd t1)
     refine⟨l++qPd d o,fps2,t1.trans t2,?_,?_⟩
     ·intro i
      simp only[qKb]
      rw[qGJ,qGJ,hget]
      cases h1:get (qPd d o) i with
      |none=>cases get (qKb ds os) i<;>rfl
      |some r1 =>
       cases h2:get (qKb ds os) i with
       |none=>rfl
       |some r2=>exact absurd rfl (hids.2.2 i (List.mem_map.2 ⟨(i,r1),qKB h1,rfl⟩) i (List.mem_map.2 ⟨(i,r2),qKB h2,rfl⟩))
     ·intro x hx
      simp only[qKb]
      rcases List.mem_append.1 hx with hx|hx
      ·obtain⟨y,hy,e⟩:=hmem x hx;exact⟨y,List.mem_append_right _ hy,e⟩
      ·exact⟨x,List.mem_append_left _ hx,rfl⟩
theorem qXh {σ0:St} (hw:qZ6 σ0 loc) {w0:World} {Z0:Nat->Prop} {d o:D} {σ:St} {fps} (R:Rel E σ a w Z loc fps) {v:Value} {fp:List Nat} (hf:qY7 σ0 d o=true) (hids:((qR9 d o).map (·.1)).Nodup) (hdead:∀x∈qR9 d o,∀ρ,¬σ.live x.1 ρ)
  (hv:AR w0 Z0 loc [] d v) (h:AR w Z qAi fp o v) (hnd:fp.Nodup) (hL:Loose E σ w Z fps fp):∃l fps',TookB E a w Z loc σ fps fp l fps'/\(∀i,get l i=get (qR9 d o) i)/\(∀x∈l,∃y∈qR9 d o,y.1=x.1):=by
 by_cases hg:∃ds os,d=.g ds/\o=.g os
 ·obtain⟨ds,os,rfl,rfl⟩:=hg
  cases hv with
  |g h1=>cases h with|g h2=>exact qV3 hw R hf hids hdead h1 h2 hnd hL
 ·have e1:qR9 d o=qPd d o:=by
   unfold qR9;split
   ·exact absurd ⟨_,_,rfl,rfl⟩ hg
   ·rfl
  have e2:qY7 σ0 d o=qYK σ0 d o:=by
   unfold qY7;split
   ·exact absurd ⟨_,_,rfl,rfl⟩ hg
   ·rfl
  rw[e1]at hids hdead⊢
  rw[e2]at hf
  obtain⟨fps',t⟩:=qTd R hw hf hdead hv h hnd hL
  exact⟨_,fps',t,fun _=>rfl,fun x hx=>⟨x,hx,rfl⟩⟩
theorem qVJ {σ0:St} (hw:qZ6 σ0 loc) {w0:World} {Z0:Nat->Prop}:∀{ds os:List D} {σ:St} {fps} (R:Rel E σ a w Z loc fps) {vs:List Value} {fp:List Nat},qQc σ0 ds os=true->((qCS ds os).map (·.1)).Nodup->(∀x∈qCS ds os,∀ρ,¬σ.live x.1 ρ)->
  All2 (fun d v=>AR w0 Z0 loc [] d v) ds vs->ART w Z qAi fp os vs->fp.Nodup->Loose E σ w Z fps fp->∃l fps',TookB E a w Z loc σ fps fp l fps'/\(∀i,get l i=get (qCS ds os) i)/\(∀x∈l,∃y∈qCS ds os,y.1=x.1):=by
 intro ds
 induction ds with
 |nil =>
  intro os σ fps R vs fp hf _ _ hv h hnd hL
  cases os with
  |nil=>cases h;exact⟨[],fps,⟨R,fun i ρ b hl hb=>.inl ⟨i,ρ,hl,hb⟩⟩,fun _=>rfl,by simp⟩
  |cons=>cases hf
 |cons d ds ih =>
  intro os σ fps R vs fp hf hids hdead hv h hnd hL
  cases os with
  |nil=>cases hf
  |cons o os =>
   simp only[qQc,Bool.and_eq_true]at hf
   simp only[qCS,List.map_append,List.nodup_append]at hids
   cases hv with
   | @cons _ v _ vs k1 k2 =>
    cases h with
    | @cons _ fp1 fp2 _ _ _ _ m1 m2 =>
     have hnd':=List.nodup_append.1 hnd
     obtain⟨l1,fps1,t1,hget1,hmem1⟩:=qXh hw R hf.1 hids.1 (fun x hx=>hdead x (by simp[qCS,hx])) k1 m1 hnd'.1 (fun b hb=>hL b (List.mem_append_left _ hb))
     obtain⟨l,fps2,t2,hget,hmem⟩:=ih t1.1 hf.2 hids.2.1 (by
      intro x hx ρ hl
      rcases qSE hl with⟨y,hy,e⟩|hl
      ·obtain⟨y',hy',e'⟩:=hmem1 y hy
       exact hids.2.2 y'.1 (List.mem_map.2 ⟨y',hy',rfl⟩) x.1 (List.mem_map.2 ⟨x,hx,rfl⟩) (e'.trans e)
      ·exact hdead x (by simp[qCS,hx]) ρ hl) k2 m2 hnd'.2.1 (qXy hL hnd t1)
     refine⟨l++l1,fps2,t1.trans t2,?_,?_⟩
     ·intro i
      simp only[qCS]
      rw[qGJ,qGJ,hget,hget1]
      cases h1:get (qR9 d o) i with
      |none=>cases get (qCS ds os) i<;>rfl
      |some r1 =>
       cases h2:get (qCS ds os) i with
       |none=>rfl
       |some r2=>exact absurd rfl (hids.2.2 i (List.mem_map.2 ⟨(i,r1),qKB h1,rfl⟩) i (List.mem_map.2 ⟨(i,r2),qKB h2,rfl⟩))
     ·intro x hx
      simp only[qCS]
      rcases List.mem_append.1 hx with hx|hx
      ·obtain⟨y,hy,e⟩:=hmem x hx;exact⟨y,List.mem_append_right _ hy,e⟩
      ·obtain⟨y,hy,e⟩:=hmem1 x hx;exact⟨y,List.mem_append_left _ hy,e⟩
end
end Go.AM
end

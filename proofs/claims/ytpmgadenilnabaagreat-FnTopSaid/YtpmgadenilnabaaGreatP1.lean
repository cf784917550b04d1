/- Plain lemmas: what the functions compute is what the reference says, in plain Lean. No condition. -/
import Derived.Test.YtpmgadenilnabaaGreatLaw
set_option maxRecDepth 4000
set_option maxHeartbeats 1000000
set_option linter.unusedVariables false
set_option linter.unusedSimpArgs false
set_option linter.unusedSectionVars false

namespace Go.Proofs.YtpmgadenilnabaaGreat
open Go.AM
section
theorem nZ9 {n:Nat} (h:n ≠ 0):∃ k,n=Nat.succ k:=Nat.exists_eq_succ_of_ne_zero h
theorem oB9 {α β:Type} (a:α) (f:α→Option β):(some a).bind f=f a:=rfl
end
section
def qSl (l:List Int):Nat:=l.length
def qQU (x:Line):Nat:=qSl x.events+qSl x.points
def qNe (l:List Line):Nat:=l.length+(l.map fun x=>qQU x).sum
def qHz (x:Season):Nat:=qNe x.lines
end
section
def qM1 (e:Entry):Prop:=(1 ≤ e.event∧e.event ≤ 99)∧(1 ≤ e.skater∧e.skater ≤ 999)∧(0 ≤ e.points∧e.points ≤ 100000)
def qNu (a b:Entry):Prop:=a.event=b.event∧a.skater=b.skater
def leE (a b:Entry):Prop:=a.skater < b.skater ∨ (a.skater=b.skater∧(a.points > b.points ∨ (a.points=b.points∧a.event ≤ b.event)))
theorem qUs (a b c:Entry) (h:leE a b) (k:leE b c):leE a c:=by unfold leE at *;omega
def qE0 (x:Line):List Entry:=List.zipWith (fun e p=>⟨e,x.skater,p⟩) x.events x.points
def qDs (s:Season):List Entry:=s.lines.flatMap qE0
def Ents (l:List Entry):Prop:=(∀ e ∈ l,qM1 e)∧l.Pairwise (fun a b=>¬ qNu a b)∧l.length ≤ 80
theorem qDp (n a b:Int):Ret (qAp n a b) (a ≤ n∧n ≤ b):=Ret.some (by simp)
theorem qBW (n a b:Int):Ret (qAM n a b) (a ≤ n∧n ≤ b):=Ret.some (by simp)
theorem qNR (n:Int):Ret (qGv n) (1 ≤ n∧n ≤ 9):=(qBW n 1 9).bind (Q:=fun o=>Ret o _) (fun h=>.t h) (fun h=>.f h)
theorem qPF (n:Int):Ret (qHv n) (1 ≤ n∧n ≤ 99):=(qBW n 1 99).bind (Q:=fun o=>Ret o _) (fun h=>.t h) (fun h=>.f h)
theorem qLN (n:Int):Ret (qFp n) (1 ≤ n∧n ≤ 999):=(qBW n 1 999).bind (Q:=fun o=>Ret o _) (fun h=>.t h) (fun h=>.f h)
theorem qSF (l:List Int) (n:Int):Ret (qI3 l n) (n ∈ l):=by
 have key:∀ (l:List Int) (k:Nat),Ret (qDG n l k) (n ∈ l):=by
  intro l
  induction l with
  | nil=>intro k;rw [qDG];exact .f (by simp)
  | cons y l ih =>
   intro k
   rw [qDG]
   refine .condR (fun h=>.t ?_) (fun h=>(ih (k+1)).iff ?_)
   ·have:=eq_of_beq h;simp [this]
   ·have:¬ y=n:=by simpa using h
    simp [List.mem_cons,show ¬ n=y from fun e=>this e.symm]
 exact key l 0
def ltE (a b:Entry):Prop:=a.skater < b.skater ∨ (a.skater=b.skater∧(a.points > b.points ∨ (a.points=b.points∧a.event < b.event)))
theorem qUR (a b c:Entry) (h:ltE a b) (k:ltE b c):ltE a c:=by unfold ltE at *;omega
def qUU (l:List Entry):Prop:=(∀ e ∈ l,qM1 e)∧l.Pairwise ltE∧l.Pairwise (fun a b=>¬ qNu a b)
def mkE (k:Int) (e p:Int):Entry:=⟨e,k,p⟩
def qJq (x:Line):Prop:=x.points.length=x.events.length∧x.events ≠ []
def qGE (s:Season):Prop:=(1 ≤ s.best∧s.best ≤ 9)∧(∀ x ∈ s.lines,qJq x)∧s.lines.Pairwise (fun a b=>a.skater < b.skater)∧qUU (qDs s)∧(qDs s).length ≤ 80
theorem qNX {x:Line} (h:qJq x):(qE0 x).length=x.events.length:=by unfold qE0;rw [List.length_zipWith,h.1,Nat.min_self]
theorem qI5 {x:Line} {e:Entry} (h:e ∈ qE0 x):e.skater=x.skater:=by
 unfold qE0 at h
 obtain ⟨j,hj,e⟩:=List.getElem_of_mem h
 simp only [List.getElem_zipWith] at e
 subst e;rfl
theorem qES {l:List Line} (h:∀ x ∈ l,qJq x):(l.flatMap qE0).length=(l.map fun x=>x.events.length).sum:=by
 induction l with
 | nil=>rfl
 | cons x l ih=>simp only [List.flatMap_cons,List.length_append,List.map_cons,List.sum_cons,qNX (h x (by simp)),ih (fun y hy=>h y (by simp [hy]))]
end
section
theorem qVq (f:Entry→Option Bool) (p:Entry→Prop):∀ (l:List Entry) (k:Nat),(∀ x ∈ l,Ret (f x) (p x))→∃ i,qAY f l k=some i∧(i ≥ 0↔∃ x ∈ l,p x):=by
 intro l
 induction l with
 | nil=>intro k _;exact ⟨-1,by rw [qAY],by simp⟩
 | cons y l ih =>
  intro k h
  rw [qAY]
  refine (h y (by simp)).bind (Q:=fun o=>∃ i,o=some i∧(i ≥ 0↔∃ x ∈ y::l,p x)) (fun hp=>?_) (fun hp=>?_)
  ·exact ⟨(k:Int),rfl,by simp [hp]⟩
  ·obtain ⟨i,h1,h2⟩:=ih (k+1) (fun x hx=>h x (by simp [hx]))
   refine ⟨i,h1,h2.trans ?_⟩
   simp [hp]
theorem qLV (l:List Entry) (f:Entry→Option Bool) (p:Entry→Prop) (h:∀ x ∈ l,Ret (f x) (p x)):Ret (qCE l f) (∃ x ∈ l,p x):=by
 obtain ⟨i,h1,h2⟩:=qVq f p l 0 h
 unfold qCE qD5
 rw [h1]
 exact .some (by simpa using h2)
theorem qLX (l:List Entry) (hb:l.length ≤ 1048576):∀ (ys pre:List Entry),l=pre++ys→(∀ e ∈ pre,qM1 e)→pre.Pairwise (fun a b=>¬ qNu a b)→Ret (qBU l ys pre.length) (Ents l):=by
 intro ys
 induction ys with
 | nil =>
  intro pre h1 h2 h3
  rw [qBU]
  rw [List.append_nil] at h1
  subst h1
  refine .some ?_
  simp only [decide_eq_true_eq]
  exact ⟨fun h=>⟨h2,h3,by omega⟩,fun h=>by have:=h.2.2;omega⟩
 | cons y ys ih =>
  intro pre h1 h2 h3
  have hy:y ∈ l:=by rw [h1];simp
  rw [qBU]
  refine (qPF y.event).bindR (fun g1=>?_) (fun g1=>.f fun h=>g1 (h.1 y hy).1)
  refine (qLN y.skater).bindR (fun g2=>?_) (fun g2=>.f fun h=>g2 (h.1 y hy).2.1)
  refine (qBW y.points 0 100000).bindR (fun g3=>?_) (fun g3=>.f fun h=>g3 (h.1 y hy).2.2)
  simp only [Bool.not_true,Bool.or_self,cond_false]
  rw [bnd (show qCD l (pre.length:Int)=some pre from by rw [h1];exact qKE pre (y::ys) rfl)]
  refine (qLV pre (fun a0=>qD0 a0 y) (fun x=>qNu x y) (fun x _=>.some (by simp [qNu]))).bindR (fun g4=>.f fun h=>?_) (fun g4=>?_)
  ·obtain ⟨x,hx,hs⟩:=g4
   have:=h.2.1
   rw [h1,List.pairwise_append] at this
   exact this.2.2 x hx y (by simp) hs
  ·have:=ih (pre++[y]) (by rw [h1];simp) (by
    intro e he;rcases List.mem_append.1 he with he | he
    ·exact h2 e he
    ·obtain rfl:=List.mem_singleton.1 he;exact ⟨g1,g2,g3⟩) (by
    rw [List.pairwise_append]
    refine ⟨h3,List.pairwise_singleton _ _,fun a ha b hb'=>?_⟩
    obtain rfl:=List.mem_singleton.1 hb'
    exact fun hs=>g4 ⟨a,ha,hs⟩)
   simpa using this
theorem qHu (l:List Entry) (hb:l.length ≤ 1048576):Ret (qD7 l) (Ents l):=qLX l hb l [] rfl (by simp) (by simp)
theorem qVN {a b:Entry} (ha:qM1 a) (hb:qM1 b):∃ c,qAN a b=some c∧(c < 0↔¬ leE b a)∧(c=0↔a=b)∧(c < 0↔ltE a b):=by
 unfold qM1 at ha hb
 unfold qAN
 by_cases h1:a.skater=b.skater
 ·rw [show (a.skater != b.skater)=false from by simp [h1],cond_false]
  by_cases h2:a.points=b.points
  ·rw [show (a.points != b.points)=false from by simp [h2],cond_false,qAG (by omega)]
   refine ⟨_,rfl,by unfold leE;omega,⟨fun h=>?_,fun h=>by rw [h];omega⟩,by unfold ltE;omega⟩
   cases a;cases b;simp only [Entry.mk.injEq] at *;omega
  ·rw [show (a.points != b.points)=true from by simpa using h2,cond_true,qAG (by omega)]
   exact ⟨_,rfl,by unfold leE;omega,⟨fun h=>absurd (by omega) h2,fun h=>absurd (by rw [h]) h2⟩,by unfold ltE;omega⟩
 ·rw [show (a.skater != b.skater)=true from by simpa using h1,cond_true,qAG (by omega)]
  exact ⟨_,rfl,by unfold leE;omega,⟨fun h=>absurd (by omega) h1,fun h=>absurd (by rw [h]) h1⟩,by unfold ltE;omega⟩
theorem qTk {α:Type} {R:α→α→Prop} (tr:∀ a b c,R a b→R b c→R a c) {x y:α} {l:List α} (h:R x y) (hl:(y::l).Pairwise R):(x::y::l).Pairwise R:=by
 rw [List.pairwise_cons]
 refine ⟨fun a ha=>?_,hl⟩
 rcases List.mem_cons.1 ha with rfl | ha
 ·exact h
 ·exact tr _ _ _ h ((List.pairwise_cons.1 hl).1 a ha)
theorem qO2 (l:List Entry) (hb:l.length ≤ 1048576) (hok:∀ e ∈ l,qM1 e) (fuel:Nat) (hf:l.length < fuel):Ret (qCF fuel l (fun a0 a1=>qAN a0 a1)) (l.Pairwise leE):=by
 have key:∀ (n fuel:Nat),n < fuel→n < l.length→(l.drop n).Pairwise leE→Ret (qAT l (fun a0 a1=>qAN a0 a1) fuel (n:Int)) (l.Pairwise leE):=by
  intro n
  induction n with
  | zero =>
   intro fuel h1 h2 h3
   obtain ⟨f,rfl⟩:=nZ9 (by omega:fuel ≠ 0)
   rw [qAT]
   exact .t (by simpa using h3)
  | succ n ih =>
   intro fuel h1 h2 h3
   obtain ⟨f,rfl⟩:=nZ9 (by omega:fuel ≠ 0)
   rw [qAT,qTd,cond_true,qLz (by omega),bnd (qDS h2),bnd (qDS (k:=n) (by omega))]
   obtain ⟨c,hc,h4,_⟩:=qVN (hok _ (List.getElem_mem h2)) (hok _ (List.getElem_mem (n:=n) (by omega)))
   rw [bnd hc]
   refine .dcond (fun h=>.f fun hp=>?_) (fun h=>ih f (by omega) (by omega) ?_)
   ·exact h4.1 h (List.pairwise_iff_getElem.1 hp n (n+1) (by omega) h2 (by omega))
   ·rw [List.drop_eq_getElem_cons (by omega)]
    rw [List.drop_eq_getElem_cons h2] at h3 ⊢
    exact qTk qUs (Classical.not_not.1 (fun hn=>h (h4.2 hn))) h3
 unfold qCF
 cases l with
 | nil =>
  obtain ⟨f,rfl⟩:=nZ9 (by omega:fuel ≠ 0)
  rw [qAT];exact .t (by simp)
 | cons y l =>
  rw [List.length_cons,qLz (by simp at hb;omega)]
  refine key l.length fuel (by simp at hf;omega) (by simp) ?_
  rw [List.drop_eq_getElem_cons (by simp)]
  simp
theorem qOj (y:Line):∀ (ys ps pre ppre:List Int) (acc:List Entry),y.events=pre++ys→y.points=ppre++ps→pre.length=ppre.length→ys.length=ps.length→acc.length+ys.length ≤ 1048576 →
  qBP y ys pre.length acc=some (acc++List.zipWith (mkE y.skater) ys ps):=by
 intro ys
 induction ys with
 | nil=>intro ps pre ppre acc h1 h2 h3 h4 h5;rw [qBP];simp
 | cons e ys ih =>
  intro ps pre ppre acc h1 h2 h3 h4 h5
  cases ps with
  | nil=>simp at h4
  | cons p ps =>
  rw [qBP,bnd (qDD h2 (by rw [h3])),bnd (x:=()) (by rw [qAQ (by simp at h5 ⊢;omega)];rfl)]
  have:=ih ps (pre++[e]) (ppre++[p]) (acc++[⟨e,y.skater,p⟩]) (by rw [h1];simp) (by rw [h2];simp) (by simp [h3]) (by simpa using h4) (by simp at h5 ⊢;omega)
  simpa [mkE] using this
theorem qOL:∀ (ys:List Line) (k:Nat) (acc:List Entry),(∀ x ∈ ys,x.points.length=x.events.length)→acc.length+(ys.map fun x=>x.events.length).sum ≤ 1048576 →
  qBo ys k acc=some (acc++ys.flatMap qE0):=by
 intro ys
 induction ys with
 | nil=>intro k acc _ _;rw [qBo];simp
 | cons y ys ih =>
  intro k acc h1 h2
  simp only [List.map_cons,List.sum_cons] at h2
  have hy:=h1 y (by simp)
  have hl:(List.zipWith (mkE y.skater) y.events y.points).length=y.events.length:=by rw [List.length_zipWith,hy,Nat.min_self]
  rw [qBo,bnd (show qBP y y.events 0 acc=_ from qOj y y.events y.points [] [] acc rfl rfl rfl hy.symm (by omega)),ih (k+1) _ (fun x hx=>h1 x (by simp [hx])) (by rw [List.length_append,hl];omega)]
  simp [qE0]
  rfl
theorem qTU (l:List Line):(l.map fun x=>x.events.length).sum ≤ (l.map fun x=>qQU x).sum:=by
 induction l with
 | nil=>simp
 | cons y l ih=>simp only [List.map_cons,List.sum_cons];have:y.events.length ≤ qQU y:=(by unfold qQU qSl;omega);omega
theorem qLE (s:Season) (hb:qHz s ≤ 1048576) (h:∀ x ∈ s.lines,x.points.length=x.events.length):qEL s=some (qDs s):=by
 unfold qEL qDs
 rw [qOL s.lines 0 [] h (by have:=qTU s.lines;unfold qHz qNe at hb;simp;omega)]
 simp
theorem qMy (s:Season) (hb:qHz s ≤ 1048576) (hbest:1 ≤ s.best∧s.best ≤ 9) (fuel:Nat) (hf:1048576 < fuel):∀ (ys pre:List Line),s.lines=pre++ys→(∀ x ∈ pre,qJq x)→pre.Pairwise (fun a b=>a.skater < b.skater) →
  Ret (qBe s fuel ys pre.length) (qGE s):=by
 intro ys
 induction ys with
 | nil =>
  intro pre h1 h2 h3
  rw [List.append_nil] at h1
  rw [← h1] at h2 h3
  have hlen:(qDs s).length ≤ 1048576:=by
   unfold qDs;rw [qES h2];have:=qTU s.lines;unfold qHz qNe at hb;omega
  rw [qBe,bnd (qLE s hb (fun x hx=>(h2 x hx).1))]
  refine (qHu (qDs s) hlen).bindR (fun g1=>?_) (fun g1=>.f fun h=>g1 ⟨h.2.2.2.1.1,h.2.2.2.1.2.2,h.2.2.2.2⟩)
  refine (qO2 (qDs s) hlen g1.1 fuel (by omega)).bindR (fun g2=>.t ?_) (fun g2=>.f fun h=>g2 ?_)
  ·refine ⟨hbest,h2,h3,⟨g1.1,?_,g1.2.1⟩,g1.2.2⟩
   refine (List.pairwise_and_iff.2 ⟨g2,g1.2.1⟩).imp fun {a b} h=>?_
   obtain ⟨h,h'⟩:=h
   unfold leE at h;unfold qNu at h';unfold ltE;omega
  ·refine h.2.2.2.1.2.1.imp fun {a b} h=>?_
   unfold ltE at h;unfold leE;omega
 | cons y ys ih =>
  intro pre h1 h2 h3
  have hy:y ∈ s.lines:=by rw [h1];simp
  rw [qBe]
  refine .condR (fun h=>.f fun hs=>?_) (fun h=>?_)
  ·have g1:=hs.2.1 y hy
   have g2:y.events.length ≤ 80:=by
    have:=hs.2.2.2.2
    unfold qDs at this
    rw [qES hs.2.1] at this
    have:=qTa hy (fun x=>x.events.length)
    omega
   have g3:=List.length_pos_iff.2 g1.2
   have g4:=g1.1
   simp only [Bool.or_eq_true,beq_iff_eq,decide_eq_true_eq,bne_iff_ne,ne_eq] at h
   omega
  ·simp only [Bool.or_eq_false_iff,beq_eq_false_iff_ne,decide_eq_false_iff_not,ne_eq,bne_eq_false_iff_eq] at h
   have hl:qJq y:=⟨by omega,fun e=>by rw [e] at h;simp at h⟩
   have fin:(∀ l,pre.getLast?=some l→l.skater < y.skater)→Ret (qBe s fuel ys (pre.length+1)) (qGE s):=by
    intro hlast
    have:=ih (pre++[y]) (by rw [h1];simp) (by
     intro x hx;rcases List.mem_append.1 hx with hx | hx
     ·exact h2 x hx
     ·obtain rfl:=List.mem_singleton.1 hx;exact hl) (qPY (fun a b c h k=>by omega) h3 hlast)
    simpa using this
   rcases List.eq_nil_or_concat pre with rfl | ⟨q,l,rfl⟩
   ·simp only [List.length_nil,qTS,qDU,oB9,Bool.false_and,cond_false]
    exact fin (by simp)
   ·simp only [List.concat_eq_append] at *
    have hkl:(q++[l]).length=q.length+1:=by simp
    rw [hkl] at fin ⊢
    have hlq:s.lines.length ≤ 1048576:=by unfold qHz qNe at hb;omega
    simp only [qTd,qCX,Bool.true_and]
    rw [qLz (by rw [h1] at hlq;simp at hlq;omega),bnd (qDD (pre:=q) (y:=l) (ys:=y::ys) (by rw [h1];simp) rfl)]
    refine .dcond (fun h=>.f fun hs=>?_) (fun h=>fin ?_)
    ·have:=hs.2.2.1
     rw [h1,List.pairwise_append] at this
     have:=this.2.2 l (by simp) y (by simp)
     omega
    ·intro l' hl'
     simp at hl';subst hl';omega
theorem qRc {s:Season} (h:qGE s):s.lines.length ≤ 80:=by
 have h1:=h.2.2.2.2
 unfold qDs at h1
 rw [qES h.2.1] at h1
 have:∀ l:List Line,(∀ x ∈ l,qJq x)→l.length ≤ (l.map fun x=>x.events.length).sum:=by
  intro l hl
  induction l with
  | nil=>simp
  | cons y l ih =>
   have:=List.length_pos_iff.2 (hl y (by simp)).2
   have:=ih (fun x hx=>hl x (by simp [hx]))
   simp only [List.map_cons,List.sum_cons,List.length_cons];omega
 have:=this s.lines h.2.1
 omega
theorem qH8 (s:Season) (hb:qHz s ≤ 1048576) (fuel:Nat) (hf:1048576 < fuel):Ret (qEb fuel s) (qGE s):=by
 unfold qEb
 refine (qNR s.best).bindR (fun h1=>?_) (fun h1=>.f fun h=>h1 h.1)
 refine .condR (fun h=>.f fun hs=>?_) (fun h=>qMy s hb h1 fuel hf s.lines [] rfl (by simp) (by simp))
 have:=qRc hs
 simp at h;omega
end
section
theorem qQy (l:List Int):∀ (k:Nat) (v:Int),qAW l k v=some (l.foldl (fun v y=>w64 (v+y)) v):=by
 induction l with
 | nil=>intro k v;rw [qAW];rfl
 | cons y l ih=>intro k v;rw [qAW,ih];rfl
def qSP (l:List Int):Int:=l.foldl (fun v y=>w64 (v+y)) 0
theorem qNM (l:List Int):qA5 l=some (qSP l):=qQy l 0 0
def qD1 (x:Line) (best:Int):List Int:=x.points.take best.toNat
theorem qME (x:Line) (best:Int) (hbest:1 ≤ best∧best ≤ 9):qEa x best=some (qD1 x best):=by
 unfold qEa
 by_cases h:best ≤ (x.points.length:Int)
 ·rw [Int.min_eq_left h,bnd (qF9 (k:=best.toNat) (by omega) (by omega))];rfl
 ·rw [Int.min_eq_right (by omega),bnd (qF9 rfl (Nat.le_refl _)),List.take_length]
  unfold qD1;rw [List.take_of_length_le (by omega)]
end
section
def qIq:List Int→List Int→Bool
 | [],_=>false
 | _::_,[]=>true
 | x::xs,y::ys=>bif x != y then decide (x > y) else qIq xs ys
theorem qUc (x y:Int):qEv x y=some (if x < y then -1 else if x > y then 1 else 0):=by
 unfold qEv qFa
 simp only [bne_self_eq_false,oB9,cond_false]
 by_cases h1:x < y
 ·simp [h1]
 ·by_cases h2:x > y
  ·simp [h1,h2]
  ·simp [h1,h2]
theorem qQ9 (a b:List Int):∀ (xs pre zs:List Int),b=pre++zs→a.length=pre.length+xs.length→∃ c,qAn a b xs pre.length=some c∧(c > 0↔qIq xs zs=true):=by
 intro xs
 induction xs with
 | nil =>
  intro pre zs _ _
  rw [qAn]
  by_cases h:(a.length:Int) < (b.length:Int)
  ·rw [decide_eq_true h];exact ⟨-1,rfl,by simp [qIq]⟩
  ·rw [decide_eq_false h];exact ⟨0,rfl,by simp [qIq]⟩
 | cons x xs ih =>
  intro pre zs hb ha
  rw [qAn]
  cases zs with
  | nil =>
   rw [decide_eq_true (by rw [hb];simp)]
   exact ⟨1,rfl,by simp [qIq]⟩
  | cons z zs =>
   rw [decide_eq_false (by rw [hb];simp;omega),cond_false,bnd (qDD hb rfl),bnd (qUc x z)]
   by_cases h1:x < z
   ·rw [if_pos h1]
    exact ⟨-1,rfl,by unfold qIq;rw [show (x != z)=true from by simp;omega];simp;omega⟩
   ·rw [if_neg h1]
    by_cases h2:x > z
    ·rw [if_pos h2]
     exact ⟨1,rfl,by unfold qIq;rw [show (x != z)=true from by simp;omega];simp;omega⟩
    ·rw [if_neg h2]
     obtain rfl:x=z:=by omega
     obtain ⟨c,h3,h4⟩:=ih (pre++[x]) zs (by rw [hb];simp) (by simp at ha ⊢;omega)
     refine ⟨c,by simpa using h3,h4.trans ?_⟩
     have:qIq (x::xs) (x::zs)=qIq xs zs:=by rw [qIq];simp
     rw [this]
def qQo (a b:Line) (best:Int):Bool:=bif qSP (qD1 a best) != qSP (qD1 b best) then decide (qSP (qD1 a best) > qSP (qD1 b best)) else qIq (qD1 a best) (qD1 b best)
theorem qQZ (a b:Line) (best:Int) (hbest:1 ≤ best∧best ≤ 9):qFA a b best=some (qQo a b best):=by
 unfold qFA qQo
 rw [bnd (qME a best hbest),bnd (qME b best hbest),bnd (qNM _),bnd (qNM _)]
 cases h:(qSP (qD1 a best) != qSP (qD1 b best))
 ·simp only [cond_false]
  obtain ⟨c,h1,h2⟩:=qQ9 (qD1 a best) (qD1 b best) (qD1 a best) [] (qD1 b best) rfl (by simp)
  unfold qE5
  rw [bnd (show qAn _ _ _ 0=some c from h1)]
  congr 1
  rw [Bool.eq_iff_iff]
  simpa using h2
 ·rfl
end
section
def qKC (ls:List Line):Prop:=(∀ x ∈ ls,qJq x)∧ls.Pairwise (fun a b=>a.skater < b.skater)
instance (a b:Entry):Decidable (ltE a b):=by unfold ltE;exact inferInstance
def flat (ls:List Line):List Entry:=ls.flatMap qE0
def GoodL (l:List Entry):Prop:=(∀ e ∈ l,qM1 e)∧l.Pairwise (fun a b=>¬ qNu a b)
theorem Ents.goodL {l:List Entry} (h:Ents l):GoodL l:=⟨h.1,h.2.1⟩
theorem qUH (a:Entry):¬ ltE a a:=by unfold ltE;omega
theorem qSw {a b:Entry} (h:ltE a b):¬ ltE b a:=by unfold ltE at *;omega
theorem qR4 {a b:Entry} (h:¬ qNu a b):ltE a b ∨ ltE b a:=by unfold qNu at h;unfold ltE;omega
theorem qO7 {l m:List Entry} (h:l.Pairwise ltE) (k:m.Pairwise ltE) (p:l.Perm m):l=m :=
 List.Perm.eq_of_pairwise (le:=ltE) (fun a b _ _ h1 h2=>absurd h2 (qSw h1)) h k p
theorem GoodL.perm {l m:List Entry} (h:GoodL l) (p:m.Perm l):GoodL m :=
 ⟨fun e he=>h.1 e (p.mem_iff.1 he),(p.pairwise_iff (fun {a b} hab hba=>hab ⟨hba.1.symm,hba.2.symm⟩)).2 h.2⟩
theorem qTD (k:Int):∀ (a b:List Int),b.length=a.length→(List.zipWith (fun e p=>(⟨e,k,p⟩:Entry)) a b).map (·.event)=a
 | [],[],_=>rfl
 | [],_::_,h=>by simp at h
 | _::_,[],h=>by simp at h
 | x::a,y::b,h=>by simp only [List.zipWith_cons_cons,List.map_cons];rw [qTD k a b (by simpa using h)]
theorem qS0 (k:Int):∀ (a b:List Int),b.length=a.length→(List.zipWith (fun e p=>(⟨e,k,p⟩:Entry)) a b).map (·.points)=b
 | [],[],_=>rfl
 | [],_::_,h=>by simp at h
 | _::_,[],h=>by simp at h
 | x::a,y::b,h=>by simp only [List.zipWith_cons_cons,List.map_cons];rw [qS0 k a b (by simpa using h)]
theorem qOQ {x:Line} (h:qJq x):(qE0 x).map (·.event)=x.events:=qTD x.skater x.events x.points h.1
theorem qOq {x:Line} (h:qJq x):(qE0 x).map (·.points)=x.points:=qS0 x.skater x.events x.points h.1
theorem qJI {x:Line} (h:qJq x):qE0 x ≠ []:=fun e=>by
 have:=qNX h
 rw [e] at this
 exact h.2 (List.eq_nil_of_length_eq_zero this.symm)
theorem qSv {x y:Line} (hx:qJq x) (hy:qJq y) (hs:x.skater=y.skater) (h:qE0 x=qE0 y):x=y:=by
 have h1:=qOQ hx;have h2:=qOq hx
 rw [h,qOQ hy] at h1
 rw [h,qOq hy] at h2
 cases x;cases y
 simp only at hs h1 h2
 subst hs h1 h2
 rfl
theorem qUB {ls:List Line} {e:Entry} (h:e ∈ flat ls):∃ x ∈ ls,e ∈ qE0 x∧e.skater=x.skater:=by
 obtain ⟨x,hx,he⟩:=List.mem_flatMap.1 h
 exact ⟨x,hx,he,qI5 he⟩
theorem qOX {x:Line} {ls:List Line} (h:(x::ls).Pairwise (fun a b=>a.skater < b.skater)):(qE0 x++flat ls).filter (fun e=>decide (e.skater=x.skater))=qE0 x:=by
 rw [List.filter_append,List.filter_eq_self.2 (fun e he=>by simpa using qI5 he),List.filter_eq_nil_iff.2,List.append_nil]
 intro e he
 obtain ⟨y,hy,_,hs⟩:=qUB he
 have:=(List.pairwise_cons.1 h).1 y hy
 simp only [decide_eq_true_eq];omega
theorem qOP:∀ {l m:List Line},qKC l→qKC m→flat l=flat m→l=m
 | [],[],_,_,_=>rfl
 | [],y::m,_,hm,h=>by
  have:=qJI (hm.1 y (by simp))
  simp only [flat,List.flatMap_nil,List.flatMap_cons] at h
  exact absurd (List.append_eq_nil_iff.1 h.symm).1 this
 | x::l,[],hl,_,h=>by
  have:=qJI (hl.1 x (by simp))
  simp only [flat,List.flatMap_nil,List.flatMap_cons] at h
  exact absurd (List.append_eq_nil_iff.1 h).1 this
 | x::l,y::m,hl,hm,h=>by
  have hx:=hl.1 x (by simp);have hy:=hm.1 y (by simp)
  simp only [flat,List.flatMap_cons] at h
  have hs:x.skater=y.skater:=by
   cases h1:qE0 x with
   | nil=>exact absurd h1 (qJI hx)
   | cons e r =>
    cases h2:qE0 y with
    | nil=>exact absurd h2 (qJI hy)
    | cons e' r' =>
     rw [h1,h2] at h
     simp only [List.cons_append,List.cons.injEq] at h
     have g1:e.skater=x.skater:=qI5 (by rw [h1];simp)
     have g2:e'.skater=y.skater:=qI5 (by rw [h2];simp)
     rw [← g1,← g2,h.1]
  have e1:=qOX hl.2
  have e2:=qOX hm.2
  have h':qE0 x++flat l=qE0 y++flat m:=h
  rw [h',hs,e2] at e1
  have hxy:=qSv hx hy hs e1.symm
  subst hxy
  rw [qOP (l:=l) (m:=m) ⟨fun z hz=>hl.1 z (by simp [hz]),(List.pairwise_cons.1 hl.2).2⟩ ⟨fun z hz=>hm.1 z (by simp [hz]),(List.pairwise_cons.1 hm.2).2⟩ (List.append_cancel_left h')]
theorem qKa {ls:List Line} (h:∀ x ∈ ls,qJq x):ls.length ≤ (flat ls).length:=by
 unfold flat
 rw [qES h]
 induction ls with
 | nil=>simp
 | cons y l ih =>
  have:=List.length_pos_iff.2 (h y (by simp)).2
  have:=ih (fun x hx=>h x (by simp [hx]))
  simp only [List.map_cons,List.sum_cons,List.length_cons];omega
theorem qOh {ls:List Line} (h:∀ x ∈ ls,qJq x) {x:Line} (hx:x ∈ ls):x.events.length ≤ (flat ls).length:=by
 unfold flat
 rw [qES h]
 exact qTa hx (fun x=>x.events.length)
theorem qNp {α:Type} (q:List α) (x y:α) {n:Nat} (h:n=q.length):(q++[x]).set n y=q++[y]:=by
 subst h;simp [List.set_append]
theorem qT5 (best:Int):∀ (ys:List Entry) (k:Nat) (ls:List Line),qKC ls→(flat ls++ys).Pairwise ltE→(flat ls++ys).length ≤ 1048576 →
  ∃ ls',qAq best ys k ls=some ⟨best,ls'⟩∧qKC ls'∧flat ls'=flat ls++ys:=by
 intro ys
 induction ys with
 | nil=>intro k ls h1 h2 h3;exact ⟨ls,by rw [qAq],h1,by simp⟩
 | cons y ys ih =>
  intro k ls h1 h2 h3
  have hll:=qKa h1.1
  have hcut:(flat ls++[y]).Pairwise ltE:=h2.sublist ((List.Sublist.refl (flat ls)).append ((List.nil_sublist ys).cons_cons y))
  rw [List.length_append,List.length_cons] at h3
  rw [qAq]
  have hle:∀ x ∈ ls,x.skater ≤ y.skater:=by
   intro x hx
   obtain ⟨e,he⟩:=List.exists_mem_of_ne_nil _ (qJI (h1.1 x hx))
   have h4:=(List.pairwise_append.1 hcut).2.2 e (List.mem_flatMap.2 ⟨x,hx,he⟩) y (by simp)
   have h5:=qI5 he
   unfold ltE at h4;omega
  have new:(∀ x ∈ ls,x.skater < y.skater)→∃ ls',((qCw (qBE 56 (ls.length+([(Line.mk y.skater [] [])]).length))).bind fun u46 =>
    (qAb (ls++[(Line.mk y.skater [] [])]) (w64 ((w64 ((ls.length:Int) - 1))+1))).bind fun x48 =>
    (qCw (qBE 8 (x48.events.length+([y.event]).length))).bind fun u50 =>
    (qAb ((ls++[(Line.mk y.skater [] [])]).set ((w64 ((w64 ((ls.length:Int) - 1))+1)).toNat) (Line.mk x48.skater (x48.events++[y.event]) x48.points)) (w64 ((w64 ((ls.length:Int) - 1))+1))).bind fun x52 =>
    (qCw (qBE 8 (x52.points.length+([y.points]).length))).bind fun u54 =>
    qAq best ys (k+1) (((ls++[(Line.mk y.skater [] [])]).set ((w64 ((w64 ((ls.length:Int) - 1))+1)).toNat) (Line.mk x48.skater (x48.events++[y.event]) x48.points)).set ((w64 ((w64 ((ls.length:Int) - 1))+1)).toNat) (Line.mk x52.skater x52.events (x52.points++[y.points]))))=some ⟨best,ls'⟩∧qKC ls'∧flat ls'=flat ls++y::ys:=by
   intro hlt
   have hw:w64 (w64 ((ls.length:Int) - 1)+1)=(ls.length:Int):=by rw [qAG (n:=(ls.length:Int) - 1) (by omega),qAG (by omega)];omega
   rw [hw,bnd (x:=()) (by rw [qAQ (by simp;omega)];rfl),bnd (qJd ls _ [] rfl),Int.toNat_natCast]
   dsimp only
   rw [bnd (x:=()) (by rw [qAQ (by simp)];rfl),qNp _ _ _ rfl,bnd (qJd ls _ [] rfl),qNp _ _ _ rfl]
   dsimp only
   rw [bnd (x:=()) (by rw [qAQ (by simp)];rfl)]
   have hf:flat (ls++[⟨y.skater,[]++[y.event],[]++[y.points]⟩])=flat ls++[y]:=by
    unfold flat;rw [List.flatMap_append];cases y;rfl
   obtain ⟨ls',g1,g2,g3⟩:=ih (k+1) (ls++[⟨y.skater,[]++[y.event],[]++[y.points]⟩]) ⟨by
     intro x hx
     rcases List.mem_append.1 hx with hx | hx
     ·exact h1.1 x hx
     ·obtain rfl:=List.mem_singleton.1 hx;exact ⟨rfl,by simp⟩,by
     rw [List.pairwise_append]
     exact ⟨h1.2,List.pairwise_singleton _ _,fun a ha b hb=>by obtain rfl:=List.mem_singleton.1 hb;exact hlt a ha⟩⟩ (by rw [hf];simpa using h2) (by rw [hf];simp;omega)
   exact ⟨ls',g1,g2,by rw [g3,hf];simp⟩
  rcases List.eq_nil_or_concat ls with rfl | ⟨q,x,rfl⟩
  ·have:decide (w64 ((([]:List Line).length:Int) - 1) < 0)=true:=rfl
   rw [this]
   simp only [Bool.not_true,qDU,oB9,Bool.true_or,cond_true]
   exact new (by simp)
  ·simp only [List.concat_eq_append] at *
   have hw:w64 (((q++[x]).length:Int) - 1)=(q.length:Int):=by simp at hll ⊢;rw [qAG (by omega)]
   have hd:decide (w64 (((q++[x]).length:Int) - 1) < 0)=false:=by rw [hw];exact decide_eq_false (by omega)
   have hgx:qAb (q++[x]) (q.length:Int)=some x:=qJd q x [] rfl
   rw [hd]
   simp only [Bool.not_false,qCX,Bool.false_or]
   rw [show qAb (q++[x]) (w64 (((q++[x]).length:Int) - 1))=some x from by rw [hw];exact hgx]
   simp only [oB9]
   have hxN:=h1.1 x (by simp)
   by_cases hs:x.skater=y.skater
   ·rw [show (x.skater != y.skater)=false from by simp [hs],cond_false]
    have hxl:=qOh h1.1 (x:=x) (by simp)
    have hpe:=hxN.1
    rw [bnd (x:=()) (by rw [qAQ (by simp;omega)];rfl),hw,Int.toNat_natCast,qNp _ _ _ rfl,bnd (qJd q _ [] rfl),qNp _ _ _ rfl]
    dsimp only
    rw [bnd (x:=()) (by rw [qAQ (by simp;omega)];rfl)]
    have hf:flat (q++[⟨x.skater,x.events++[y.event],x.points++[y.points]⟩])=flat (q++[x])++[y]:=by
     unfold flat
     rw [List.flatMap_append,List.flatMap_append,List.append_assoc]
     congr 1
     simp only [List.flatMap_cons,List.flatMap_nil,List.append_nil]
     unfold qE0
     rw [List.zipWith_append (by exact hpe.symm)]
     cases y;simp at hs ⊢;exact hs
    obtain ⟨ls',g1,g2,g3⟩:=ih (k+1) (q++[⟨x.skater,x.events++[y.event],x.points++[y.points]⟩]) ⟨by
      intro z hz
      rcases List.mem_append.1 hz with hz | hz
      ·exact h1.1 z (by simp [hz])
      ·obtain rfl:=List.mem_singleton.1 hz;exact ⟨by simp [hpe],by simp⟩,by
      have:=List.pairwise_append.1 h1.2
      rw [List.pairwise_append]
      exact ⟨this.1,List.pairwise_singleton _ _,fun a ha b hb=>by obtain rfl:=List.mem_singleton.1 hb;exact this.2.2 a ha x (by simp)⟩⟩ (by rw [hf];simpa using h2) (by rw [hf];simp at h3 ⊢;omega)
    exact ⟨ls',g1,g2,by rw [g3,hf];simp⟩
   ·rw [show (x.skater != y.skater)=true from by simpa using hs,cond_true]
    refine new fun z hz=>?_
    have hxle:=hle x (by simp)
    rcases List.mem_append.1 hz with hz | hz
    ·have:=(List.pairwise_append.1 h1.2).2.2 z hz x (by simp);omega
    ·obtain rfl:=List.mem_singleton.1 hz;omega
theorem qHt {a b:Entry} (ha:qM1 a) (hb:qM1 b):lt0 (fun a0 a1=>qAN a0 a1) a b=decide (ltE a b):=by
 obtain ⟨c,h1,_,_,h2⟩:=qVN ha hb
 unfold lt0
 simp only [h1,Option.getD_some,h2]
theorem qQt {l:List Entry} (h:GoodL l) (hl:l.length ≤ 1048576):GoodF (fun a0 a1=>qAN a0 a1) l where
 some x hx y hy:=by obtain ⟨c,h1,_⟩:=qVN (h.1 x hx) (h.1 y hy);simp [h1]
 irrefl x hx:=by rw [qHt (h.1 x hx) (h.1 x hx)];exact decide_eq_false (qUH x)
 trans x hx y hy z hz h1 h2:=by
  rw [qHt (h.1 x hx) (h.1 y hy)] at h1;rw [qHt (h.1 y hy) (h.1 z hz)] at h2;rw [qHt (h.1 x hx) (h.1 z hz)]
  exact decide_eq_true (qUR _ _ _ (of_decide_eq_true h1) (of_decide_eq_true h2))
 ntrans x hx y hy z hz h1 h2:=by
  rw [qHt (h.1 x hx) (h.1 y hy)] at h1;rw [qHt (h.1 y hy) (h.1 z hz)] at h2;rw [qHt (h.1 x hx) (h.1 z hz)]
  have h1:=of_decide_eq_false h1;have h2:=of_decide_eq_false h2
  refine decide_eq_false ?_
  unfold ltE at *;omega
 parts:=List.Pairwise.imp_of_mem (fun {a b} ha hb hab=>by
  rw [qHt (h.1 a ha) (h.1 b hb),qHt (h.1 b hb) (h.1 a ha)]
  exact (qR4 hab).imp decide_eq_true decide_eq_true) h.2
 len:=by omega
theorem qSW (best:Int) (l:List Entry) (h:GoodL l) (hl:l.length ≤ 1048576):∃ ls,qC9 best l=some ⟨best,ls⟩∧qKC ls∧(flat ls).Perm l∧(flat ls).Pairwise ltE:=by
 unfold qC9 qEH
 have hG:=qQt h hl
 rw [bnd (x:=()) (by rw [qAQ (by omega)];rfl)]
 rw [show qNx (fun a0 a1=>qAN a0 a1) l=some (qHO (fun a0 a1=>qAN a0 a1) l) from by unfold qNx;rw [if_pos hG]]
 simp only [oB9]
 have hp:=qGB (fun a0 a1=>qAN a0 a1) l
 have hs:=hG.sorted
 generalize qHO (fun a0 a1=>qAN a0 a1) l=m at hp hs
 have hgm:=h.perm hp
 have hsm:m.Pairwise ltE:=by
  refine List.Pairwise.imp_of_mem (fun {a b} ha hb hab=>?_) (hs.and hgm.2)
  have h1:=hab.1
  rw [qHt (hgm.1 b hb) (hgm.1 a ha)] at h1
  exact (qR4 hab.2).resolve_right (of_decide_eq_false h1)
 obtain ⟨ls,g1,g2,g3⟩:=qT5 best m 0 [] ⟨by simp,List.Pairwise.nil⟩ (by simpa [flat] using hsm) (by simp [flat,hp.length_eq];omega)
 have g3:flat ls=m:=by rw [g3];rfl
 exact ⟨ls,g1,g2,by rw [g3];exact hp,by rw [g3];exact hsm⟩
end
section
def FreshOf (best:Int) (l:List Entry) (s:Season):Prop:=s.best=best∧qKC s.lines∧(flat s.lines).Pairwise ltE∧(flat s.lines).Perm l
theorem FreshOf.uniq {best:Int} {l:List Entry} {s t:Season} (h:FreshOf best l s) (k:FreshOf best l t):s=t:=by
 have h1:=qOP h.2.1 k.2.1 (qO7 h.2.2.1 k.2.2.1 (h.2.2.2.trans k.2.2.2.symm))
 cases s;cases t
 have a:=h.1;have b:=k.1
 simp only at a b h1
 subst a b h1;rfl
theorem qKW (best:Int) (l:List Entry) (h:GoodL l) (hl:l.length ≤ 1048576):∃ s,qC9 best l=some s∧FreshOf best l s:=by
 obtain ⟨ls,h1,h2,h3,h4⟩:=qSW best l h hl
 exact ⟨_,h1,rfl,h2,h4,h3⟩
theorem qNU {best:Int} {l:List Entry} {s:Season} (h:FreshOf best l s):qHz s ≤ 3 * l.length:=by
 have h1:=qKa h.2.1.1
 have h2:=h.2.2.2.length_eq
 have h3:(flat s.lines).length=(s.lines.map fun x=>x.events.length).sum:=by unfold flat;exact qES h.2.1.1
 have key:∀ ls:List Line,(∀ x ∈ ls,qJq x)→(ls.map fun x=>qQU x).sum=2 * (ls.map fun x=>x.events.length).sum:=by
  intro ls hl
  induction ls with
  | nil=>rfl
  | cons y l ih =>
   have:=(hl y (by simp)).1
   have:=ih (fun x hx=>hl x (by simp [hx]))
   simp only [List.map_cons,List.sum_cons]
   unfold qQU qSl at *;omega
 have:=key s.lines h.2.1.1
 unfold qHz qNe
 omega
theorem qQH {best:Int} {l:List Entry} {s:Season} (h:FreshOf best l s) (hg:GoodL l):qGE s↔((1 ≤ best∧best ≤ 9)∧l.length ≤ 80):=by
 have hgf:=hg.perm h.2.2.2
 have hl:=h.2.2.2.length_eq
 have hb:=h.1
 unfold qGE
 change _∧_∧_∧qUU (flat s.lines)∧(flat s.lines).length ≤ 80↔_
 rw [hb,hl]
 exact ⟨fun k=>⟨k.1,k.2.2.2.2⟩,fun k=>⟨k.1,h.2.1.1,h.2.1.2,⟨hgf.1,h.2.2.1,hgf.2⟩,k.2⟩⟩
end
section
theorem qIb (lo hi:Int):∀ (l:List Int) (k:Nat),Ret (qBj lo hi l k) (∀ n ∈ l,lo ≤ n∧n ≤ hi):=by
 intro l
 induction l with
 | nil=>intro k;rw [qBj];exact .t (by simp)
 | cons y l ih =>
  intro k
  rw [qBj]
  refine (qBW y lo hi).bindR (fun h=>?_) (fun h=>.f fun q=>h (q y (by simp)))
  simp only [Bool.not_true,cond_false]
  refine (ih (k+1)).iff ⟨fun q n hn=>?_,fun q n hn=>q n (by simp [hn])⟩
  rcases List.mem_cons.1 hn with rfl | hn
  ·exact h
  ·exact q n hn
end
section
def CO (a:List Int) (b m:Int):Prop:=(∀ x ∈ a,qKP x)∧a.length ≤ 9223372036854775807∧0 ≤ b∧b ≤ m
theorem qTX (z:BitVec 64):((z &&& BitVec.ofInt 64 255).toNat:Int) ≤ 255:=by
 have h:(BitVec.ofInt 64 255).toNat=255:=by decide
 rw [BitVec.toNat_and,h]
 have:=Nat.and_le_right (n:=z.toNat) (m:=255)
 omega
theorem qSV {n:Int} (h:0 ≤ n∧n ≤ 255):IntKind.wrap .i64 (IntKind.wrap .u64 n)=n:=by
 have e:IntKind.wrap .u64 n=n:=by
  unfold IntKind.wrap
  simp [IntKind.signed,IntKind.bits]
  omega
 rw [e]
 exact qAG (by omega)
theorem qRr {a:List Int} {b m s:Int} (h:CO a b m) (hm:m ≤ 1000000000):∃ b' s' v,qD4 (L1Cur.mk a b s)=some (L1Cur.mk a b' s',v)∧CO a b' (m+1)∧0 ≤ v∧v ≤ 255:=by
 obtain ⟨h1,h2,h3,h4⟩:=h
 unfold qD4
 dsimp only
 have hw:w64 (b+1)=b+1:=qAG (by omega)
 by_cases hl:b < (a.length:Int)
 ·have hlt:b.toNat < a.length:=by omega
  have hg:qAb a b=some a[b.toNat]:=by rw [qDa (k:=b.toNat) (by omega)];exact List.getElem?_eq_getElem hlt
  have hb:=h1 _ (List.getElem_mem hlt)
  unfold qKP at hb
  rw [decide_eq_true hl,cond_true,bnd hg,hw,decide_eq_true (by omega),cond_true]
  refine ⟨_,_,_,rfl,⟨h1,h2,by omega,by omega⟩,?_⟩
  rw [show IntKind.wrap .i64 a[b.toNat]=a[b.toNat] from qAG (by omega)]
  exact hb
 ·rw [decide_eq_false hl,cond_false,hw,decide_eq_false (by omega),cond_false]
  refine ⟨_,_,_,rfl,⟨h1,h2,by omega,by omega⟩,?_⟩
  rw [qSV ⟨by omega,qTX _⟩]
  exact ⟨by omega,qTX _⟩
theorem qJY {x n:Int} (h:0 ≤ x) (hn:0 < n):0 ≤ x.tmod n∧x.tmod n < n:=by
 rw [Int.tmod_eq_emod_of_nonneg h]
 exact ⟨Int.emod_nonneg _ (by omega),Int.emod_lt_of_pos _ hn⟩
theorem qAy {a:List Int} {b m s:Int} (h:CO a b m) (hm:m ≤ 900000000) (n:Int) (hn:n ≤ 65536):∃ b' s' v,qAA (L1Cur.mk a b s) n=some (L1Cur.mk a b' s',v)∧CO a b' (m+2)∧0 ≤ v∧(v < n ∨ v=0):=by
 unfold qAA
 by_cases h1:n ≤ 1
 ·rw [decide_eq_true h1,cond_true]
  exact ⟨_,_,_,rfl,⟨h.1,h.2.1,h.2.2.1,by have:=h.2.2.2;omega⟩,by omega,.inr rfl⟩
 ·rw [decide_eq_false h1,cond_false]
  obtain ⟨b1,s1,v1,e1,g1,l1,u1⟩:=qRr (s:=s) h (by omega)
  have hnz:(n != 0)=true:=by rw [bne_iff_ne];omega
  rw [bnd e1]
  dsimp only
  by_cases h2:n > 200
  ·rw [decide_eq_true h2,cond_true]
   obtain ⟨b2,s2,v2,e2,g2,l2,u2⟩:=qRr (s:=s1) g1 (by omega)
   rw [bnd e2,hnz,qAw,oB9]
   dsimp only
   rw [qAG (n:=v1 * 256) (by omega),qAG (by omega)]
   have:=qJY (x:=v1 * 256+v2) (n:=n) (by omega) (by omega)
   exact ⟨_,_,_,rfl,⟨g2.1,g2.2.1,g2.2.2.1,by have:=g2.2.2.2;omega⟩,this.1,.inl this.2⟩
  ·rw [decide_eq_false h2,cond_false,hnz,qAw,oB9]
   have:=qJY (x:=v1) (n:=n) l1 (by omega)
   exact ⟨_,_,_,rfl,⟨g1.1,g1.2.1,g1.2.2.1,by have:=g1.2.2.2;omega⟩,this.1,.inl this.2⟩
theorem qBX {a:List Int} {b m s:Int} (h:CO a b m) (hm:m ≤ 900000000) (l:List Int) (h0:0 < l.length) (hl:l.length ≤ 60000):∃ b' s' v,qAC (L1Cur.mk a b s) l=some (L1Cur.mk a b' s',v)∧CO a b' (m+2)∧v ∈ l:=by
 unfold qAC
 obtain ⟨b1,s1,v1,e1,g1,l1,u1⟩:=qAy (s:=s) h hm (l.length:Int) (by omega)
 have hlt:v1.toNat < l.length:=by omega
 have hg:qAb l v1=some l[v1.toNat]:=by rw [qDa (k:=v1.toNat) (by omega)];exact List.getElem?_eq_getElem hlt
 rw [bnd e1]
 dsimp only
 rw [bnd hg]
 exact ⟨_,_,_,rfl,g1,List.getElem_mem hlt⟩
theorem CO.mono {a:List Int} {b m m':Int} (h:CO a b m) (hm:m ≤ m'):CO a b m':=⟨h.1,h.2.1,h.2.2.1,by have:=h.2.2.2;omega⟩
theorem co0 {code:List Int} (hc:∀ x ∈ code,qKP x) (hl:code.length ≤ 9223372036854775807):CO code 0 0:=⟨hc,hl,by omega,by omega⟩
end
section
def qHk (l:List Int):Prop:=(1 ≤ l.length∧l.length ≤ 9)∧∀ x ∈ l,-1000 ≤ x∧x ≤ 1000
theorem qL2 (lo hi:Int):∀ (l:List Int) (k:Nat),Ret (qB7 lo hi l k) (∀ n ∈ l,lo ≤ n∧n ≤ hi):=by
 intro l
 induction l with
 | nil=>intro k;rw [qB7];exact .t (by simp)
 | cons y l ih =>
  intro k
  rw [qB7]
  refine (qDp y lo hi).bindR (fun h=>?_) (fun h=>.f fun k=>h (k y (by simp)))
  simp only [Bool.not_true,cond_false]
  refine (ih (k+1)).iff ⟨fun q n hn=>?_,fun q n hn=>q n (by simp [hn])⟩
  rcases List.mem_cons.1 hn with rfl | hn
  ·exact h
  ·exact q n hn
def qNg (l:List Int) (k:Int):Prop:=qHk l∧0 ≤ k∧k < (l.length:Int)
def bd (l:List Int):Prop:=∀ x ∈ l,-1000 ≤ x∧x ≤ 1000
theorem qTI:∀ {l:List Int},bd l→-1000 * (l.length:Int) ≤ l.sum∧l.sum ≤ 1000 * (l.length:Int):=by
 intro l
 induction l with
 | nil=>intro _;simp
 | cons y l ih =>
  intro h
  have h1:=ih fun x hx=>h x (by simp [hx])
  have h2:=h y (by simp)
  simp only [List.sum_cons,List.length_cons]
  omega
theorem qUt:∀ (l:List Int) (k:Nat) (v:Int),bd l→(-1000000 ≤ v - 1000 * (l.length:Int)∧v+1000 * (l.length:Int) ≤ 1000000)→qAW l k v=some (v+l.sum)∧qB4 l k v=some (v+l.sum):=by
 intro l
 induction l with
 | nil=>intro k v _ _;rw [qAW,qB4];simp
 | cons y l ih =>
  intro k v h hv
  simp only [List.length_cons] at hv
  have h2:=h y (by simp)
  rw [qAW,qB4,qAG (by omega),List.sum_cons,← Int.add_assoc]
  exact ih (k+1) (v+y) (fun x hx=>h x (by simp [hx])) (by omega)
theorem qUG {l:List Int} (h:bd l) (hl:l.length ≤ 100):qA5 l=some l.sum∧qC0 l=some l.sum:=by
 have:=qUt l 0 0 h (by omega)
 rw [Int.zero_add] at this
 exact this
def mxL (l:List Int):Int:=l.foldr max (-5000)
def mnL (l:List Int):Int:=l.foldr min 5000
theorem qO1:∀ (l:List Int) (M:Int),mxL l ≤ M↔-5000 ≤ M∧∀ y ∈ l,y ≤ M:=by
 intro l M
 induction l with
 | nil=>simp [mxL]
 | cons y l ih =>
  have e:mxL (y::l)=max y (mxL l):=rfl
  rw [e,Int.max_le,ih]
  simp only [List.mem_cons,forall_eq_or_imp]
  constructor
  ·rintro ⟨a,b,c⟩;exact ⟨b,a,c⟩
  ·rintro ⟨a,b,c⟩;exact ⟨b,a,c⟩
theorem qOO:∀ (l:List Int) (M:Int),M ≤ mnL l↔M ≤ 5000∧∀ y ∈ l,M ≤ y:=by
 intro l M
 induction l with
 | nil=>simp [mnL]
 | cons y l ih =>
  have e:mnL (y::l)=min y (mnL l):=rfl
  rw [e,Int.le_min,ih]
  simp only [List.mem_cons,forall_eq_or_imp]
  constructor
  ·rintro ⟨a,b,c⟩;exact ⟨b,a,c⟩
  ·rintro ⟨a,b,c⟩;exact ⟨b,a,c⟩
theorem qRk:∀ (a b:List Int),mxL (a++b)=max (mxL a) (mxL b):=by
 intro a b
 induction a with
 | nil =>
  have:-5000 ≤ mxL b:=((qO1 b (mxL b)).1 (Int.le_refl _)).1
  have e:mxL []=-5000:=rfl
  rw [List.nil_append,e];omega
 | cons y a ih =>
  have e1:mxL (y::a)=max y (mxL a):=rfl
  have e2:mxL (y::a++b)=max y (mxL (a++b)):=rfl
  rw [e1,e2,ih];omega
theorem qSG:∀ (a b:List Int),mnL (a++b)=min (mnL a) (mnL b):=by
 intro a b
 induction a with
 | nil =>
  have:mnL b ≤ 5000:=((qOO b (mnL b)).1 (Int.le_refl _)).1
  have e:mnL []=5000:=rfl
  rw [List.nil_append,e];omega
 | cons y a ih =>
  have e1:mnL (y::a)=min y (mnL a):=rfl
  have e2:mnL (y::a++b)=min y (mnL (a++b)):=rfl
  rw [e1,e2,ih];omega
theorem qTf {l:List Int} {y:Int} (h:y ∈ l):y ≤ mxL l:=((qO1 l (mxL l)).1 (Int.le_refl _)).2 y h
theorem qTj {l:List Int} {y:Int} (h:y ∈ l):mnL l ≤ y:=((qOO l (mnL l)).1 (Int.le_refl _)).2 y h
theorem qSp (x:List Int) (hx:x.length ≤ 1000):∀ (ys pre:List Int) (fuel:Nat) (m:Int),x=pre++ys→ys.length < fuel→-5000 ≤ m→qAx x fuel m (pre.length:Int)=some (max m (mxL ys)):=by
 intro ys
 induction ys with
 | nil =>
  intro pre fuel m h hf hm
  obtain ⟨f,rfl⟩:=nZ9 (by omega:fuel ≠ 0)
  have e:mxL []=-5000:=rfl
  rw [qAx,decide_eq_false (by rw [h];simp),cond_false,e,show max m (-5000)=m from by omega]
 | cons y ys ih =>
  intro pre fuel m h hf hm
  obtain ⟨f,rfl⟩:=nZ9 (by omega:fuel ≠ 0)
  simp only [List.length_cons] at hf
  have hlen:x.length=pre.length+(ys.length+1):=by rw [h];simp
  rw [qAx,decide_eq_true (by omega),cond_true,bnd (qDD h rfl),qAG (by omega)]
  have:=ih (pre++[y]) f (max m y) (by rw [h];simp) (by omega) (by omega)
  rw [show (pre++[y]).length=pre.length+1 from by simp,Int.natCast_add,Int.natCast_one] at this
  have e:mxL (y::ys)=max y (mxL ys):=rfl
  rw [this,e,show max (max m y) (mxL ys)=max m (max y (mxL ys)) from by omega]
theorem qSR (x:List Int) (hx:x.length ≤ 1000):∀ (ys pre:List Int) (fuel:Nat) (m:Int),x=pre++ys→ys.length < fuel→m ≤ 5000→qCA x fuel m (pre.length:Int)=some (min m (mnL ys)):=by
 intro ys
 induction ys with
 | nil =>
  intro pre fuel m h hf hm
  obtain ⟨f,rfl⟩:=nZ9 (by omega:fuel ≠ 0)
  have e:mnL []=5000:=rfl
  rw [qCA,decide_eq_false (by rw [h];simp),cond_false,e,show min m 5000=m from by omega]
 | cons y ys ih =>
  intro pre fuel m h hf hm
  obtain ⟨f,rfl⟩:=nZ9 (by omega:fuel ≠ 0)
  simp only [List.length_cons] at hf
  have hlen:x.length=pre.length+(ys.length+1):=by rw [h];simp
  rw [qCA,decide_eq_true (by omega),cond_true,bnd (qDD h rfl),qAG (by omega)]
  have:=ih (pre++[y]) f (min m y) (by rw [h];simp) (by omega) (by omega)
  rw [show (pre++[y]).length=pre.length+1 from by simp,Int.natCast_add,Int.natCast_one] at this
  have e:mnL (y::ys)=min y (mnL ys):=rfl
  rw [this,e,show min (min m y) (mnL ys)=min m (min y (mnL ys)) from by omega]
theorem qTh {l:List Int} (h:qHk l) (fuel:Nat) (hf:1000 < fuel):qDk fuel l=some (mxL l)∧qFI fuel l=some (mnL l):=by
 unfold qDk qFI
 have h1:=h.1
 have h2:=h.2
 cases l with
 | nil=>simp at h1
 | cons y ys =>
  have hy:=h2 y (by simp)
  simp only [List.length_cons] at h1
  rw [decide_eq_false (by simp;omega),cond_false,bnd (show qAb (y::ys) 0=some y from rfl),cond_false,bnd (show qAb (y::ys) 0=some y from rfl)]
  exact ⟨qSp (y::ys) (by simp;omega) ys [y] fuel y rfl (by omega) (by omega),qSR (y::ys) (by simp;omega) ys [y] fuel y rfl (by omega) (by omega)⟩
theorem qSE (y:Int) (v:List Int) (hv:v.length ≤ 1000) (hs:v.Pairwise (· ≥ ·)):∀ (n:Nat) (A B:List Int) (f:Nat),A.length=n→v=A++B→n < f→(∀ b ∈ B,b < y) →
  ∃ A' B',v=A'++B'∧qCZ y v f (A.length:Int)=some (A'.length:Int)∧(∀ b ∈ B',b < y)∧(∀ a ∈ A',y ≤ a):=by
 intro n
 induction n with
 | zero =>
  intro A B f hA h hf hB
  obtain ⟨f,rfl⟩:=nZ9 (by omega:f ≠ 0)
  obtain rfl:A=[]:=List.eq_nil_of_length_eq_zero hA
  refine ⟨[],B,h,?_,hB,by simp⟩
  rw [qCZ]
  rfl
 | succ n ih =>
  intro A B f hA h hf hB
  obtain ⟨f,rfl⟩:=nZ9 (by omega:f ≠ 0)
  rcases List.eq_nil_or_concat A with h0 | ⟨A0,a,h0⟩
  ·rw [h0] at hA;simp at hA
  ·rw [List.concat_eq_append] at h0
   subst h0
   have hA0:A0.length=n:=by simp at hA;omega
   have hvl:v.length=n+1+B.length:=by rw [h];simp;omega
   have hg:qAb v (n:Int)=some a:=qDD (pre:=A0) (y:=a) (ys:=B) (by rw [h];simp) (by omega)
   rw [qCZ,hA,decide_eq_true (by omega),qCX,qAG (by omega),show ((n+1:Nat):Int) - 1=(n:Int) from by omega,bnd hg,Bool.true_and]
   by_cases hc:a < y
   ·rw [decide_eq_true hc,cond_true]
    have:=ih A0 (a::B) f hA0 (by rw [h];simp) (by omega) (fun b hb=>by
     rcases List.mem_cons.1 hb with rfl | hb
     ·exact hc
     ·exact hB b hb)
    rw [hA0] at this
    exact this
   ·rw [decide_eq_false hc,cond_false]
    refine ⟨A0++[a],B,h,by rw [hA],hB,fun x hx=>?_⟩
    rw [h] at hs
    have hp:=(List.pairwise_append.1 (List.pairwise_append.1 hs).1).2.2
    rcases List.mem_append.1 hx with hx | hx
    ·have:=hp x hx a (by simp);omega
    ·rw [List.mem_singleton.1 hx];omega
theorem qRD (fuel:Nat) (hf:2000 < fuel):∀ (ys:List Int) (k:Nat) (acc:List Int),acc.Pairwise (· ≥ ·)→acc.length+ys.length ≤ 900→∃ S,qB0 fuel ys k acc=some S∧S.Perm (acc++ys)∧S.Pairwise (· ≥ ·):=by
 intro ys
 induction ys with
 | nil=>intro k acc h _;exact ⟨acc,by rw [qB0],by simp,h⟩
 | cons y ys ih =>
  intro k acc h hl
  simp only [List.length_cons] at hl
  obtain ⟨A,B,e1,e2,e3,e4⟩:=qSE y acc (by omega) h acc.length acc [] fuel rfl (by simp) (by omega) (by simp)
  have hlen:acc.length=A.length+B.length:=by rw [e1];simp
  have hp:=List.pairwise_append.1 (e1 ▸ h)
  rw [qB0,bnd e2,bnd (show qCD acc (A.length:Int)=some A from by rw [e1];exact qKE A B rfl),qAQ (by omega),qAw,oB9,qAQ (by simp;omega),qAw,oB9,
   bnd (show qJ9 acc (A.length:Int)=some B from by rw [qNS rfl (by omega),e1];simp),qAQ (by simp;omega),qAw,oB9]
  obtain ⟨S,s1,s2,s3⟩:=ih (k+1) (A++[y]++B) (by
   rw [List.append_assoc]
   refine List.pairwise_append.2 ⟨hp.1,List.pairwise_cons.2 ⟨fun b hb=>by have:=e3 b hb;omega,hp.2.1⟩,fun a ha b hb=>?_⟩
   rcases List.mem_cons.1 hb with rfl | hb
   ·exact e4 a ha
   ·exact hp.2.2 a ha b hb) (by simp;omega)
  refine ⟨S,s1,s2.trans ?_,s3⟩
  rw [e1]
  simp only [List.append_assoc]
  refine List.Perm.append_left A ?_
  show ([y]++(B++ys)).Perm (B++([y]++ys))
  rw [← List.append_assoc,← List.append_assoc]
  exact List.Perm.append_right ys List.perm_append_comm
theorem qQ6 {l:List Int} (h:qHk l) (fuel:Nat) (hf:2000 < fuel):∃ S,qG4 fuel l=some S∧S.length=l.length∧qAb S 0=some (mxL l)∧qAb S ((S.length:Int) - 1)=some (mnL l)∧∀ x ∈ S,x ∈ l:=by
 have h1:=h.1
 have h2:=h.2
 obtain ⟨S,s1,s2,s3⟩:=qRD fuel hf l 0 [] List.Pairwise.nil (by simp;omega)
 rw [List.nil_append] at s2
 refine ⟨S,s1,s2.length_eq,?_,?_,fun x hx=>s2.mem_iff.1 hx⟩
 ·cases S with
  | nil=>have:=s2.length_eq;simp at this;omega
  | cons s S =>
   have hs:s ∈ l:=s2.mem_iff.1 (by simp)
   have hb:=h2 s hs
   have e:mxL l=s:=by
    have a:mxL l ≤ s:=(qO1 l s).2 ⟨by omega,fun y hy=>by
     rcases List.mem_cons.1 (s2.mem_iff.2 hy) with rfl | q
     ·omega
     ·exact (List.pairwise_cons.1 s3).1 y q⟩
    have b:=qTf hs
    omega
   rw [e];rfl
 ·rcases List.eq_nil_or_concat S with h0 | ⟨S0,t,h0⟩
  ·have:=s2.length_eq;rw [h0] at this;simp at this;omega
  ·rw [List.concat_eq_append] at h0
   have ht:t ∈ l:=s2.mem_iff.1 (by rw [h0];simp)
   have hb:=h2 t ht
   have e:mnL l=t:=by
    have a:t ≤ mnL l:=(qOO l t).2 ⟨by omega,fun y hy=>by
     have hy':=s2.mem_iff.2 hy
     rw [h0] at hy' s3
     rcases List.mem_append.1 hy' with q | q
     ·exact (List.pairwise_append.1 s3).2.2 y q t (by simp)
     ·rw [List.mem_singleton.1 q];omega⟩
    have b:=qTj ht
    omega
   rw [e]
   exact qDD (pre:=S0) (y:=t) (ys:=[]) h0 (by rw [h0];simp)
def tS (l:List Int):Int:=if l.length < 5 then l.sum else l.sum - mxL l - mnL l
def nS (l:List Int):Int:=if l.length < 5 then (l.length:Int) else (l.length:Int) - 2
theorem qUa {l:List Int} (h:qHk l):(-1000 ≤ mxL l∧mxL l ≤ 1000)∧(-1000 ≤ mnL l∧mnL l ≤ 1000):=by
 have h1:=h.1
 have h2:=h.2
 cases l with
 | nil=>simp at h1
 | cons y l =>
  have hy:=h2 y (by simp)
  have a:=qTf (l:=y::l) (y:=y) (by simp)
  have b:=qTj (l:=y::l) (y:=y) (by simp)
  have c:mxL (y::l) ≤ 1000:=(qO1 _ _).2 ⟨by omega,fun z hz=>(h2 z hz).2⟩
  have d:-1000 ≤ mnL (y::l):=(qOO _ _).2 ⟨by omega,fun z hz=>(h2 z hz).1⟩
  omega
theorem qQn {l:List Int} (h:qHk l):-20000 ≤ tS l∧tS l ≤ 20000:=by
 have h1:=h.1
 have h2:=qTI h.2
 have h3:=qUa h
 unfold tS
 split <;> omega
theorem qRd {l:List Int} (h:qHk l):1 ≤ nS l∧nS l ≤ 9:=by
 have h1:=h.1
 unfold nS
 split <;> omega
theorem qKr {l:List Int} (h:qHk l) (fuel:Nat) (hf:2000 < fuel):qD6 fuel l=some (tS l,nS l)∧qFn fuel l=some (tS l,nS l):=by
 have h1:=h.1
 have h2:=qTI h.2
 have h3:=qUa h
 obtain ⟨a1,a2⟩:=qUG h.2 (by omega)
 obtain ⟨m1,m2⟩:=qTh h fuel (by omega)
 obtain ⟨S,s1,s2,s3,s4,_⟩:=qQ6 h fuel hf
 unfold qD6 qFn tS nS
 by_cases h5:l.length < 5
 ·rw [decide_eq_true (by omega),cond_true,bnd a1,bnd a2,cond_true,if_pos h5,if_pos h5]
  exact ⟨rfl,rfl⟩
 ·rw [decide_eq_false (by omega),cond_false,bnd a1,bnd m1,bnd m2,bnd a2,cond_false,bnd s1,bnd s3,qAG (n:=(S.length:Int) - 1) (by omega),bnd s4,if_neg h5,if_neg h5,qAG (n:=l.sum - mxL l) (by omega),qAG (n:=l.sum - mxL l - mnL l) (by omega),qAG (n:=(l.length:Int) - 2) (by omega)]
  exact ⟨rfl,rfl⟩
end
section
theorem qLr (pre post:List Int) (x:Int):tS (pre++x::post)=if pre.length+post.length < 4 then pre.sum+post.sum+x else pre.sum+post.sum+x - max x (max (mxL pre) (mxL post)) - min x (min (mnL pre) (mnL post)):=by
 have e1:mxL (x::post)=max x (mxL post):=rfl
 have e2:mnL (x::post)=min x (mnL post):=rfl
 have e3:(pre++x::post).length=pre.length+post.length+1:=by simp;omega
 unfold tS
 rw [e3,qRk,qSG,e1,e2,List.sum_append,List.sum_cons]
 by_cases h:pre.length+post.length < 4
 ·rw [if_pos h,if_pos (by omega)];omega
 ·rw [if_neg h,if_neg (by omega)];omega
theorem qTe {pre post:List Int} (h:bd (pre++post)) (h0:0 < pre.length+post.length):min (mnL pre) (mnL post) ≤ max (mxL pre) (mxL post)∧-1000 ≤ min (mnL pre) (mnL post)∧max (mxL pre) (mxL post) ≤ 1000:=by
 rw [← qRk,← qSG]
 have hl:(pre++post).length=pre.length+post.length:=by simp
 generalize pre++post=z at *
 cases z with
 | nil=>simp at hl;omega
 | cons y z =>
  have hy:=h y (by simp)
  have a:=qTf (l:=y::z) (y:=y) (by simp)
  have b:=qTj (l:=y::z) (y:=y) (by simp)
  have c:mxL (y::z) ≤ 1000:=(qO1 _ _).2 ⟨by omega,fun w hw=>(h w hw).2⟩
  have d:-1000 ≤ mnL (y::z):=(qOO _ _).2 ⟨by omega,fun w hw=>(h w hw).1⟩
  omega
theorem qJf {l:List Int} {k:Int} (h:qNg l k):∃ pre x post,l=pre++x::post∧(pre.length:Int)=k∧qAb l k=some x∧∀ v,l.set k.toNat v=pre++v::post:=by
 have hk:k.toNat < l.length:=by have:=h.2;omega
 have hs:l=l.take k.toNat++l[k.toNat]::l.drop (k.toNat+1):=by rw [List.getElem_cons_drop hk,List.take_append_drop]
 have hp:(l.take k.toNat).length=k.toNat:=by rw [List.length_take];omega
 refine ⟨l.take k.toNat,l[k.toNat],l.drop (k.toNat+1),hs,by have:=h.2;omega,?_,fun v=>?_⟩
 ·rw [qDa (k:=k.toNat) (by have:=h.2;omega)];exact List.getElem?_eq_getElem hk
 ·rw [List.set_eq_take_append_cons_drop,if_pos hk]
theorem qJT {l:List Int} {k v:Int} (h:qNg l k) (hv:-1000 ≤ v∧v ≤ 1000):qHk (l.set k.toNat v)∧nS (l.set k.toNat v)=nS l:=by
 refine ⟨⟨by simpa using h.1.1,fun x hx=>?_⟩,by unfold nS;rw [List.length_set]⟩
 rcases List.mem_or_eq_of_mem_set hx with hx | rfl
 ·exact h.1.2 x hx
 ·exact hv
theorem qRz {l:List Int} {k u v:Int} (h:qNg l k) (huv:u ≤ v):tS (l.set k.toNat u) ≤ tS (l.set k.toNat v):=by
 obtain ⟨pre,x,post,h1,h2,h3,h4⟩:=qJf h
 rw [h4,h4,qLr,qLr]
 by_cases hc:pre.length+post.length < 4
 ·rw [if_pos hc,if_pos hc];omega
 ·rw [if_neg hc,if_neg hc]
  have hb:bd (pre++post):=fun y hy=>h.1.2 y (by
   rw [h1]
   rcases List.mem_append.1 hy with hy | hy
   ·simp [hy]
   ·simp [hy])
  have:=qTe hb (by omega)
  omega
end
section
theorem qQT (lo hi:Int):∀ (l:List Int) (k:Nat),Ret (qB7 lo hi l k) (∀ n ∈ l,lo ≤ n∧n ≤ hi):=by
 intro l
 induction l with
 | nil=>intro k;rw [qB7];exact .t (by simp)
 | cons y l ih =>
  intro k
  rw [qB7]
  refine (qDp y lo hi).bindR (fun h=>?_) (fun h=>.f fun k=>h (k y (by simp)))
  simp only [Bool.not_true,cond_false]
  refine (ih (k+1)).iff ⟨fun q n hn=>?_,fun q n hn=>q n (by simp [hn])⟩
  rcases List.mem_cons.1 hn with rfl | hn
  ·exact h
  ·exact q n hn
theorem qUp (s:ByteArray) (hs:s.size ≤ 1048576):∀ (m v fuel:Nat),v+m=s.size→m < fuel→∃ b,qAZ s fuel (v:Int)=some b∧qDQ s fuel (v:Int)=some b:=by
 intro m
 induction m with
 | zero =>
  intro v fuel h hf
  obtain ⟨f,rfl⟩:=nZ9 (by omega:fuel ≠ 0)
  rw [qAZ,qDQ,decide_eq_false (by omega),cond_false,cond_false]
  obtain ⟨b,e1,e2⟩:=qDp (s.size:Int) 1 5
  obtain ⟨b',e3,e4⟩:=qBW (s.size:Int) 1 5
  obtain rfl:b=b':=Bool.eq_iff_iff.2 (e2.trans e4.symm)
  rw [bnd e1,bnd e3]
  exact ⟨b,rfl,rfl⟩
 | succ m ih =>
  intro v fuel h hf
  obtain ⟨f,rfl⟩:=nZ9 (by omega:fuel ≠ 0)
  have hv:v < s.size:=by omega
  have hi:qSi s (v:Int)=some s[v]:=by unfold qSi;rw [if_pos (by omega)];simp [hv]
  obtain ⟨b,b1,b2⟩:=ih (v+1) f (by omega) (by omega)
  rw [show (((v+1:Nat):Int))=(v:Int)+1 from by omega] at b1 b2
  rw [qAZ,qDQ,decide_eq_true (by omega),cond_true,cond_true,bnd hi,bnd hi]
  unfold qII
  rw [oB9,qAG (by omega)]
  have hc:((decide ((s[v].toNat:Int) < 65) || decide ((s[v].toNat:Int) > 90)) && (decide ((s[v].toNat:Int) < 48) || decide ((s[v].toNat:Int) > 57)))=!((decide ((s[v].toNat:Int) ≥ 65) && decide ((s[v].toNat:Int) ≤ 90)) || (decide ((s[v].toNat:Int) ≥ 48) && decide ((s[v].toNat:Int) ≤ 57))):=by
   rw [Bool.eq_iff_iff]
   simp only [Bool.and_eq_true,Bool.or_eq_true,decide_eq_true_eq,Bool.not_eq_true',Bool.or_eq_false_iff,Bool.and_eq_false_iff,decide_eq_false_iff_not]
   omega
  rw [hc]
  cases ((decide ((s[v].toNat:Int) ≥ 65) && decide ((s[v].toNat:Int) ≤ 90)) || (decide ((s[v].toNat:Int) ≥ 48) && decide ((s[v].toNat:Int) ≤ 57)))
  ·exact ⟨false,rfl,rfl⟩
  ·exact ⟨b,b1,b2⟩
theorem qQ8 (s:ByteArray) (hs:s.size ≤ 1048576) (fuel:Nat) (hf:1048576 < fuel):∃ b,qGo fuel s=some b∧qIj fuel s=some b:=by
 obtain ⟨b,b1,b2⟩:=qUp s hs s.size 0 fuel (by omega) (by omega)
 exact ⟨b,by unfold qGo;rw [show qDB fuel s=some b from b1];rfl,b2⟩
def qHa (it:Item):Prop:=(1 ≤ it.names.length∧it.names.length ≤ 3)∧it.marks.length=it.names.length
theorem qTV (it:Item) (fuel:Nat) (hf:1048576 < fuel):∀ (ys:List ByteArray) (k:Nat),(∀ s ∈ ys,s.size ≤ 1048576)→∃ b,qCp it fuel ys k=some b∧qCs it fuel ys k=some b∧(b=true→qHa it):=by
 intro ys
 induction ys with
 | nil =>
  intro k _
  rw [qCp,qCs]
  obtain ⟨b,e1,e2⟩:=qDp (it.names.length:Int) 1 3
  obtain ⟨b',e3,e4⟩:=qBW (it.names.length:Int) 1 3
  obtain rfl:b=b':=Bool.eq_iff_iff.2 (e2.trans e4.symm)
  rw [bnd e1,bnd e3]
  cases b
  ·exact ⟨false,rfl,rfl,by simp⟩
  ·by_cases hl:it.marks.length=it.names.length
   ·rw [show ((it.marks.length:Int) == (it.names.length:Int))=true from by rw [hl];simp]
    simp only [Bool.true_and,qCX]
    obtain ⟨c,c1,c2⟩:=qQT 0 3 it.marks 0
    obtain ⟨c',c3,c4⟩:=qIb 0 3 it.marks 0
    obtain rfl:c=c':=Bool.eq_iff_iff.2 (c2.trans c4.symm)
    rw [show qDA it.marks 0 3=some c from c3,show qCy it.marks 0 3=some c from c1]
    exact ⟨c,rfl,rfl,fun _=>⟨by have:=e2.1 rfl;omega,hl⟩⟩
   ·rw [show ((it.marks.length:Int) == (it.names.length:Int))=false from by simp only [beq_eq_false_iff_ne,ne_eq];omega]
    exact ⟨false,rfl,rfl,by simp⟩
 | cons y ys ih =>
  intro k h
  obtain ⟨b,b1,b2⟩:=qQ8 y (h y (by simp)) fuel hf
  rw [qCp,qCs,bnd b1,bnd b2]
  cases b
  ·exact ⟨false,rfl,rfl,by simp⟩
  ·exact ih (k+1) fun s hs=>h s (by simp [hs])
theorem qT0 (l:List Item) (fuel:Nat) (hf:1048576 < fuel):∀ (ys:List Item) (k:Nat),(∀ it ∈ ys,∀ s ∈ it.names,s.size ≤ 1048576)→∃ b,qB8 l fuel ys k=some b∧qCo l fuel ys k=some b∧(b=true→l.length ≤ 14∧∀ it ∈ ys,qHa it):=by
 intro ys
 induction ys with
 | nil =>
  intro k _
  rw [qB8,qCo]
  exact ⟨_,rfl,rfl,fun h=>⟨by have:=of_decide_eq_true h;omega,by simp⟩⟩
 | cons y ys ih =>
  intro k h
  obtain ⟨b,b1,b2,b3⟩:=qTV y fuel hf y.names 0 (h y (by simp))
  rw [qB8,qCo,bnd (show qIg fuel y=some b from b1),bnd (show qFu fuel y=some b from b2)]
  cases b
  ·exact ⟨false,rfl,rfl,by simp⟩
  ·obtain ⟨c,c1,c2,c3⟩:=ih (k+1) fun it hi=>h it (by simp [hi])
   refine ⟨c,c1,c2,fun hc=>⟨(c3 hc).1,fun it hi=>?_⟩⟩
   rcases List.mem_cons.1 hi with rfl | hi
   ·exact b3 rfl
   ·exact (c3 hc).2 it hi
def qF6 (l:List Item):Prop:=l.length ≤ 14∧∀ it ∈ l,qHa it
theorem qNa (l:List Item) (hl:∀ it ∈ l,∀ s ∈ it.names,s.size ≤ 1048576) (fuel:Nat) (hf:1048576 < fuel):∃ b,qHF fuel l=some b∧qGq fuel l=some b∧(b=true→qF6 l):=qT0 l fuel hf l 0 hl
def qQa (l:List Item):Prop:=∀ it ∈ l,∀ s ∈ it.names,s.size ≤ 1048576
end
section
def rnd (a b:Int):Int:=(2 * a+b) / (2 * b)
def cl (a b:Int):Int:=-((-a) / b)
theorem qL3 {a a' b:Int} (hb:0 < b) (h:a ≤ a'):rnd a b ≤ rnd a' b:=Int.ediv_le_ediv (by omega) (by omega)
theorem qMB {a a' b d:Int} (hb:0 < b) (h:a' ≤ a+d * b):rnd a' b ≤ rnd a b+d:=by
 have h1:=qL3 hb h
 have e:rnd (a+d * b) b=rnd a b+d:=by
  unfold rnd
  have e1:2 * (a+d * b)+b=2 * a+b+d * (2 * b):=by
   rw [Int.mul_add,Int.mul_left_comm];omega
  rw [e1]
  exact Int.add_mul_ediv_right _ _ (by omega)
 omega
theorem qTc {a b:Int} (hb:0 < b):a ≤ cl a b * b:=by
 unfold cl
 have:=Int.ediv_mul_le (-a) (by omega:b ≠ 0)
 rw [Int.neg_mul];omega
theorem qTJ {l:List Int} {k u v:Int} (h:qNg l k) (huv:u ≤ v):tS (l.set k.toNat v) ≤ tS (l.set k.toNat u)+(v - u):=by
 obtain ⟨pre,x,post,e,_,_,hs⟩:=qJf h
 rw [hs u,hs v,qLr,qLr]
 split
 ·omega
 ·omega
theorem qMQ {l:List Int} {k u v w:Int} (h:qNg l k) (huv:u ≤ v) (hd:v - u ≤ 10) (hw:0 ≤ w) (hn:0 < nS l) :
  rnd (tS (l.set k.toNat u) * w) (10 * nS l) ≤ rnd (tS (l.set k.toNat v) * w) (10 * nS l)∧rnd (tS (l.set k.toNat v) * w) (10 * nS l) ≤ rnd (tS (l.set k.toNat u) * w) (10 * nS l)+cl w (nS l):=by
 have h1:=qRz h huv
 have h2:=qTJ h huv
 refine ⟨qL3 (by omega) (Int.mul_le_mul_of_nonneg_right h1 hw),qMB (by omega) ?_⟩
 have h3:=qTc (a:=w) hn
 have h4:tS (l.set k.toNat v) * w ≤ (tS (l.set k.toNat u)+10) * w:=Int.mul_le_mul_of_nonneg_right (by omega) hw
 have h5:cl w (nS l) * (10 * nS l)=10 * (cl w (nS l) * nS l):=Int.mul_left_comm _ _ _
 rw [Int.add_mul] at h4
 omega
theorem qMJ {l:List Int} {k u v:Int} (h:qNg l k) (huv:u ≤ v) (hd:v - u ≤ 1000) (hn:0 < nS l) :
  rnd (tS (l.set k.toNat u)) (nS l) ≤ rnd (tS (l.set k.toNat v)) (nS l)∧rnd (tS (l.set k.toNat v)) (nS l) ≤ rnd (tS (l.set k.toNat u)) (nS l)+cl 1000 (nS l):=by
 have h1:=qRz h huv
 have h2:=qTJ h huv
 have h3:=qTc (a:=1000) hn
 exact ⟨qL3 hn h1,qMB hn (by omega)⟩
theorem qMU {a a' d f:Int} (h:a ≤ a') (h':a' ≤ a+d) (hf:0 ≤ f):rnd (a * f) 100 ≤ rnd (a' * f) 100∧rnd (a' * f) 100 ≤ rnd (a * f) 100+cl (f * d) 100:=by
 refine ⟨qL3 (by omega) (Int.mul_le_mul_of_nonneg_right h hf),qMB (by omega) ?_⟩
 have h1:a' * f ≤ (a+d) * f:=Int.mul_le_mul_of_nonneg_right h' hf
 have h2:=qTc (a:=f * d) (b:=100) (by omega)
 rw [Int.add_mul,Int.mul_comm d f] at h1
 omega
theorem qQG {l:List Int} {k:Int} (h:qNg l k) {x:Int} (hx:qAb l k=some x):l.set k.toNat x=l:=by
 obtain ⟨pre,y,post,e,_,hy,hs⟩:=qJf h
 rw [hx] at hy;cases hy
 rw [hs x,e]
end
section
theorem qQK {a b:Int} (hb:0 < b) (ha:-1000000000000000000 ≤ a∧a ≤ 1000000000000000000):qD8 a b=some (a / b)∧qGx a b=some (a / b):=by
 have h1:=Int.mul_tdiv_add_tmod a b
 have h2:=Int.tmod_lt_of_pos a hb
 have h3:-b < a.tmod b:=by have:=Int.lt_tmod_of_pos a hb;omega
 have hq:-1000000000000000000 ≤ a.tdiv b∧a.tdiv b ≤ 1000000000000000000:=by
  have:=Int.natAbs_tdiv_le_natAbs a b;omega
 have key:(if a.tmod b < 0 then a.tdiv b - 1 else a.tdiv b)=a / b:=by
  split
  ·rename_i h
   exact (((Int.ediv_emod_unique hb).2 ⟨by rw [Int.mul_sub];omega,by omega,by omega⟩:a / b=a.tdiv b - 1∧a % b=a.tmod b+b).1).symm
  ·rename_i h
   exact (((Int.ediv_emod_unique hb).2 ⟨by omega,by omega,by omega⟩:a / b=a.tdiv b∧a % b=a.tmod b).1).symm
 unfold qD8 qGx
 rw [show qCw (b != 0)=some () from by rw [show (b != 0)=true from by rw [bne_iff_ne];omega];rfl,oB9,qAG (n:=a.tdiv b) (by omega),qAG (by omega),← key]
 by_cases h:a.tmod b < 0
 ·rw [decide_eq_true h,if_pos h];exact ⟨rfl,rfl⟩
 ·rw [decide_eq_false h,if_neg h];exact ⟨rfl,rfl⟩
theorem qJa {a b:Int} (hb:0 < b) (hb2:b ≤ 1000000000) (ha:-100000000000000000 ≤ a∧a ≤ 100000000000000000):qCx a b=some (rnd a b)∧qDO a b=some (rnd a b):=by
 unfold qCx qDO
 rw [qAG (n:=2 * a) (by omega),qAG (n:=2 * b) (by omega),qAG (n:=2 * a+b) (by omega)]
 obtain ⟨h1,h2⟩:=qQK (a:=2 * a+b) (b:=2 * b) (by omega) (by omega)
 rw [bnd h1,bnd h2]
 exact ⟨rfl,rfl⟩
end
section
def qQY (x:Element):Prop:=(0 ≤ x.family∧x.family ≤ 4)∧(0 ≤ x.level∧x.level ≤ 4)∧(1 ≤ x.base∧x.base ≤ 2000)
def qFV (c:Code):Prop:=(1 ≤ c.elements.length∧c.elements.length ≤ 24)∧c.limits.length=5∧(1 ≤ c.repeats∧c.repeats ≤ 3)∧(0 ≤ c.bonus∧c.bonus ≤ 20)∧(50 ≤ c.keeps∧c.keeps ≤ 100)∧(0 ≤ c.fall∧c.fall ≤ 500)∧∀ x ∈ c.elements,qQY x
def qPJ (c:Code):Prop:=c.elements.length ≤ 1048576∧∀ x ∈ c.elements,x.name.size ≤ 1048576
theorem qUD (s:ByteArray) (hs:s.size ≤ 1048576):∀ (m v fuel:Nat),v+m=s.size→m < fuel→∃ b,qAZ s fuel (v:Int)=some b∧qDR s fuel (v:Int)=some b:=by
 intro m
 induction m with
 | zero =>
  intro v fuel h hf
  obtain ⟨f,rfl⟩:=nZ9 (by omega:fuel ≠ 0)
  rw [qAZ,qDR,decide_eq_false (by omega),cond_false,cond_false]
  obtain ⟨b,e1,e2⟩:=qDp (s.size:Int) 1 5
  obtain ⟨b',e3,e4⟩:=qBW (s.size:Int) 1 5
  obtain rfl:b=b':=Bool.eq_iff_iff.2 (e2.trans e4.symm)
  rw [bnd e1,bnd e3]
  exact ⟨b,rfl,rfl⟩
 | succ m ih =>
  intro v fuel h hf
  obtain ⟨f,rfl⟩:=nZ9 (by omega:fuel ≠ 0)
  have hv:v < s.size:=by omega
  have hi:qSi s (v:Int)=some s[v]:=by unfold qSi;rw [if_pos (by omega)];simp [hv]
  obtain ⟨b,b1,b2⟩:=ih (v+1) f (by omega) (by omega)
  rw [show (((v+1:Nat):Int))=(v:Int)+1 from by omega] at b1 b2
  rw [qAZ,qDR,decide_eq_true (by omega),cond_true,cond_true,bnd hi,bnd hi,qAG (by omega),b1,b2]
  cases (decide ((s[v].toNat:Int) < 65) || decide ((s[v].toNat:Int) > 90)) && (decide ((s[v].toNat:Int) < 48) || decide ((s[v].toNat:Int) > 57))
  ·exact ⟨b,rfl,rfl⟩
  ·exact ⟨false,rfl,rfl⟩
theorem qUP (c:Code) (hc:qPJ c) (fuel:Nat) (hf:1048576 < fuel) (N:Option Bool) (hN:qBf c fuel [] 0=N):∀ (ys pre:List Element),c.elements=pre++ys→∃ e:Bool,qCr c fuel ys pre.length=some e ∧
  qBf c fuel ys pre.length=(if e=true then N else some false)∧(e=true→∀ x ∈ ys,qQY x):=by
 rw [qBf] at hN
 intro ys
 induction ys with
 | nil=>intro pre h;exact ⟨true,by rw [qCr],by rw [if_pos rfl,qBf];exact hN,fun _=>by simp⟩
 | cons y ys ih =>
  intro pre h
  have hy:y ∈ c.elements:=by rw [h];simp
  have hlen:pre.length+(ys.length+1) ≤ 1048576:=by have:=hc.1;rw [h] at this;simpa using this
  rw [qCr,qBf]
  unfold qGg qHK
  obtain ⟨b,n1,n2⟩:=qUD y.name (hc.2 y hy) y.name.size 0 fuel (by omega) (by have:=hc.2 y hy;omega)
  rw [bnd (show qDB fuel y.name=some b from n1),show qIP fuel y.name=some b from n2]
  simp only [oB9]
  cases b
  ·exact ⟨false,by simp [qDU],by simp [qDU],fun h=>by cases h⟩
  simp only [Bool.not_true,Bool.not_false,qCX,Bool.true_and,Bool.false_or]
  obtain ⟨b,f1,f2⟩:=qBW y.family 0 4
  obtain ⟨b',f3,f4⟩:=qDp y.family 0 4
  obtain rfl:b=b':=Bool.eq_iff_iff.2 (f2.trans f4.symm)
  rw [f1,f3]
  simp only [oB9]
  cases b
  ·exact ⟨false,by simp [qDU],by simp [qDU],fun h=>by cases h⟩
  simp only [Bool.not_true,Bool.not_false,qCX,Bool.true_and,Bool.false_or]
  obtain ⟨b,g1,g2⟩:=qBW y.level 0 4
  obtain ⟨b',g3,g4⟩:=qDp y.level 0 4
  obtain rfl:b=b':=Bool.eq_iff_iff.2 (g2.trans g4.symm)
  rw [g1,g3]
  simp only [oB9]
  cases b
  ·exact ⟨false,by simp [qDU],by simp [qDU],fun h=>by cases h⟩
  simp only [Bool.not_true,Bool.not_false,qCX,Bool.true_and,Bool.false_or]
  obtain ⟨b,k1,k2⟩:=qBW y.base 1 2000
  obtain ⟨b',k3,k4⟩:=qDp y.base 1 2000
  obtain rfl:b=b':=Bool.eq_iff_iff.2 (k2.trans k4.symm)
  rw [k1,k3]
  simp only [oB9]
  cases b
  ·exact ⟨false,by simp [qDU],by simp [qDU],fun h=>by cases h⟩
  simp only [Bool.not_true,Bool.not_false,qCX,Bool.true_and,Bool.false_or,cond_false]
  obtain ⟨e,e1,e2,e3⟩:=ih (pre++[y]) (by rw [h];simp)
  rw [show (pre++[y]).length=pre.length+1 from by simp] at e1 e2
  have he:qQY y:=⟨by have:=f2.1 rfl;omega,by have:=g2.1 rfl;omega,by have:=k2.1 rfl;omega⟩
  have hall:e=true→∀ x ∈ y::ys,qQY x:=fun h x hx=>by
   rcases List.mem_cons.1 hx with rfl | hx
   ·exact he
   ·exact e3 h x hx
  by_cases h0:(pre.length:Int) > 0
  ·rw [decide_eq_true h0]
   simp only [qCX,Bool.true_and]
   obtain ⟨p,z,rfl⟩:∃ p z,pre=p++[z]:=by
    have hne:pre ≠ []:=by intro e;rw [e] at h0;simp at h0
    exact ⟨pre.dropLast,pre.getLast hne,(List.dropLast_concat_getLast hne).symm⟩
   have hg:qAb c.elements (w64 (((p++[z]).length:Int) - 1))=some z:=by
    rw [qAG (by omega)]
    exact qDD (pre:=p) (y:=z) (ys:=y::ys) (by rw [h];simp) (by simp)
   rw [bnd hg,bnd hg]
   cases hs:!qL8 z.name y.name
   ·exact ⟨e,e1,e2,hall⟩
   ·exact ⟨false,rfl,rfl,fun h=>by cases h⟩
  ·rw [decide_eq_false h0]
   simp only [qDU,oB9,Bool.false_and,cond_false]
   exact ⟨e,e1,e2,hall⟩
theorem qMH (c:Code) (hc:qPJ c) (fuel:Nat) (hf:1048576 < fuel):∃ b,qFc fuel c=some b∧qEs fuel c=some b∧(b=true→qFV c):=by
 unfold qFc qEs
 obtain ⟨e,e1,e2,e3⟩:=qUP c hc fuel hf _ rfl c.elements [] rfl
 rw [show ([]:List Element).length=0 from rfl] at e1 e2
 rw [e2,qBf]
 obtain ⟨a,a1,a2⟩:=qBW (c.elements.length:Int) 1 24
 obtain ⟨a',a3,a4⟩:=qDp (c.elements.length:Int) 1 24
 obtain rfl:a=a':=Bool.eq_iff_iff.2 (a2.trans a4.symm)
 rw [bnd a1,bnd a3]
 cases a
 ·exact ⟨false,by simp [qDU],by cases e <;> simp [qDU],fun h=>by cases h⟩
 by_cases h5:c.limits.length=5
 rotate_left
 ·rw [show ((c.limits.length:Int) == 5)=false from by rw [beq_eq_false_iff_ne];omega,show ((c.limits.length:Int) != 5)=true from by rw [bne_iff_ne];omega]
  exact ⟨false,by simp [qDU],by cases e <;> simp [qDU],fun h=>by cases h⟩
 rw [show ((c.limits.length:Int) == 5)=true from by rw [h5];rfl,show ((c.limits.length:Int) != 5)=false from by rw [h5];rfl]
 obtain ⟨b,b1,b2⟩:=qIb 0 9 c.limits 0
 obtain ⟨b',b3,b4⟩:=qL2 0 9 c.limits 0
 obtain rfl:b=b':=Bool.eq_iff_iff.2 (b2.trans b4.symm)
 simp only [Bool.not_true,Bool.not_false,qCX,Bool.true_and,Bool.false_or,Bool.or_false]
 rw [bnd (show qDA c.limits 0 9=some b from b1),bnd (show qCy c.limits 0 9=some b from b3)]
 cases b
 ·exact ⟨false,by simp [qDU],by cases e <;> simp [qDU],fun h=>by cases h⟩
 simp only [Bool.not_true,Bool.not_false,qCX,Bool.true_and,Bool.false_or,Bool.or_false,cond_false]
 obtain ⟨r,r1,r2⟩:=qBW c.repeats 1 3
 obtain ⟨r',r3,r4⟩:=qDp c.repeats 1 3
 obtain rfl:r=r':=Bool.eq_iff_iff.2 (r2.trans r4.symm)
 rw [bnd r1,bnd r3]
 cases r
 ·exact ⟨false,by simp [qDU],by cases e <;> simp [qDU],fun h=>by cases h⟩
 simp only [Bool.not_true,Bool.not_false,qCX,Bool.true_and,Bool.false_or,Bool.or_false]
 obtain ⟨o,o1,o2⟩:=qBW c.bonus 0 20
 obtain ⟨o',o3,o4⟩:=qDp c.bonus 0 20
 obtain rfl:o=o':=Bool.eq_iff_iff.2 (o2.trans o4.symm)
 rw [bnd o1,bnd o3]
 cases o
 ·exact ⟨false,by simp [qDU],by cases e <;> simp [qDU],fun h=>by cases h⟩
 simp only [Bool.not_true,Bool.not_false,qCX,Bool.true_and,Bool.false_or,Bool.or_false]
 obtain ⟨k,k1,k2⟩:=qBW c.keeps 50 100
 obtain ⟨k',k3,k4⟩:=qDp c.keeps 50 100
 obtain rfl:k=k':=Bool.eq_iff_iff.2 (k2.trans k4.symm)
 rw [bnd k1,bnd k3]
 cases k
 ·exact ⟨false,by simp [qDU],by cases e <;> simp [qDU],fun h=>by cases h⟩
 simp only [Bool.not_true,Bool.not_false,qCX,Bool.true_and,Bool.false_or,Bool.or_false]
 obtain ⟨f,f1,f2⟩:=qBW c.fall 0 500
 obtain ⟨f',f3,f4⟩:=qDp c.fall 0 500
 obtain rfl:f=f':=Bool.eq_iff_iff.2 (f2.trans f4.symm)
 rw [bnd f1,bnd f3]
 cases f
 ·exact ⟨false,by simp [qDU],by cases e <;> simp [qDU],fun h=>by cases h⟩
 simp only [Bool.not_true,cond_false]
 refine ⟨e,e1,by cases e <;> simp,fun h=>?_⟩
 have:=a2.1 rfl
 exact ⟨by omega,h5,r2.1 rfl,o2.1 rfl,k2.1 rfl,f2.1 rfl,e3 h⟩
end
section
def qOr (s:Slips):Prop:=(0 ≤ s.falls∧s.falls ≤ 9)∧(0 ≤ s.seconds∧s.seconds ≤ 60)∧(0 ≤ s.other∧s.other ≤ 500)
theorem qQd (s:Slips):∃ b,qFx s=some b∧qGm s=some b∧(b=true↔qOr s):=by
 unfold qFx qGm qAM qAp qOr
 simp only [oB9]
 by_cases h1:0 ≤ s.falls∧s.falls ≤ 9
 ·rw [show (decide (s.falls ≥ 0) && decide (s.falls ≤ 9))=true from by simp;omega]
  simp only [qCX,oB9,Bool.true_and]
  by_cases h2:0 ≤ s.seconds∧s.seconds ≤ 60
  ·rw [show (decide (s.seconds ≥ 0) && decide (s.seconds ≤ 60))=true from by simp;omega]
   simp only [qCX,oB9,Bool.true_and]
   exact ⟨_,rfl,rfl,by rw [Bool.and_eq_true,decide_eq_true_eq,decide_eq_true_eq];exact ⟨fun h=>⟨h1,h2,by omega⟩,fun h=>by omega⟩⟩
  ·rw [show (decide (s.seconds ≥ 0) && decide (s.seconds ≤ 60))=false from by rw [Bool.and_eq_false_iff,decide_eq_false_iff_not,decide_eq_false_iff_not];omega]
   exact ⟨false,rfl,rfl,by simp;omega⟩
 ·rw [show (decide (s.falls ≥ 0) && decide (s.falls ≤ 9))=false from by rw [Bool.and_eq_false_iff,decide_eq_false_iff_not,decide_eq_false_iff_not];omega]
  exact ⟨false,rfl,rfl,by simp;omega⟩
def fnd (name:ByteArray):List Element→Nat→Int
 | [],_=>-1
 | y::ys,k=>if y.name=name then (k:Int) else fnd name ys (k+1)
theorem qUV (name:ByteArray):∀ (ys:List Element) (k:Nat),qCn name ys k=some (fnd name ys k)
 | [],k=>by rw [qCn,fnd]
 | y::ys,k=>by
  rw [qCn,fnd]
  by_cases h:y.name=name
  ·rw [decide_eq_true h,if_pos h];rfl
  ·rw [decide_eq_false h,if_neg h,cond_false,qUV name ys (k+1)]
theorem qUj (name:ByteArray):∀ (ys:List Element) (k:Nat),qAU (fun a0=>qCz a0 name) ys k=some (fnd name ys k)
 | [],k=>by rw [qAU,fnd]
 | y::ys,k=>by
  rw [qAU,fnd,show qCz y name=some (decide (y.name=name)) from rfl,oB9]
  by_cases h:y.name=name
  ·rw [decide_eq_true h,if_pos h];rfl
  ·rw [decide_eq_false h,if_neg h,cond_false,qUj name ys (k+1)]
theorem qIE (c:Code) (name:ByteArray):qDw c name=some (fnd name c.elements 0)∧qEn c name=some (fnd name c.elements 0):=by
 constructor
 ·unfold qDw qDf
  rw [qUj];rfl
 ·exact qUV name c.elements 0
theorem qRL (name:ByteArray):∀ (ys:List Element) (k:Nat),fnd name ys k=-1 ∨ ∃ (i:Nat) (x:Element),fnd name ys k=((k+i:Nat):Int)∧ys[i]?=some x
 | [],k=>.inl rfl
 | y::ys,k=>by
  rw [fnd]
  by_cases h:y.name=name
  ·rw [if_pos h];exact .inr ⟨0,y,by simp,rfl⟩
  ·rw [if_neg h]
   rcases qRL name ys (k+1) with e | ⟨i,x,e1,e2⟩
   ·exact .inl e
   ·exact .inr ⟨i+1,x,by rw [e1];omega,by simpa using e2⟩
theorem qUZ {c:Code} {name:ByteArray} (h:¬ fnd name c.elements 0 < 0):∃ x,qAb c.elements (fnd name c.elements 0)=some x∧x ∈ c.elements:=by
 rcases qRL name c.elements 0 with e | ⟨i,x,e1,e2⟩
 ·omega
 ·exact ⟨x,by rw [qDa (k:=i) (by omega)];exact e2,List.mem_of_getElem? e2⟩
def qH6 (c:Code) (l:List Item):Prop:=∀ it ∈ l,∀ s ∈ it.names,¬ fnd s c.elements 0 < 0
theorem qP2 (c:Code):∀ (ys:List ByteArray) (k:Nat),∃ o,qCK c ys k=some o∧qCS c ys k=some o∧((o=.ok ()∧∀ s ∈ ys,¬ fnd s c.elements 0 < 0) ∨ (o=.error false∧∃ s ∈ ys,fnd s c.elements 0 < 0))
 | [],k=>⟨.ok (),by rw [qCK],by rw [qCS],.inl ⟨rfl,by simp⟩⟩
 | y::ys,k=>by
  rw [qCK,qCS,bnd (qIE c y).1,bnd (qIE c y).2]
  by_cases h:fnd y c.elements 0 < 0
  ·rw [decide_eq_true h];exact ⟨.error false,rfl,rfl,.inr ⟨rfl,y,by simp,h⟩⟩
  ·rw [decide_eq_false h,cond_false,cond_false]
   obtain ⟨o,o1,o2,o3⟩:=qP2 c ys (k+1)
   refine ⟨o,o1,o2,o3.imp (fun q=>⟨q.1,fun s hs=>?_⟩) (fun q=>⟨q.1,?_⟩)⟩
   ·rcases List.mem_cons.1 hs with rfl | hs
    ·exact h
    ·exact q.2 s hs
   ·obtain ⟨s,hs,e⟩:=q.2
    exact ⟨s,by simp [hs],e⟩
theorem qQF (c:Code):∀ (ys:List Item) (k:Nat),∃ b,qCQ c ys k=some b∧qCN c ys k=some b∧(b=true↔qH6 c ys)
 | [],k=>⟨true,by rw [qCQ],by rw [qCN],by simp [qH6]⟩
 | y::ys,k=>by
  rw [qCQ,qCN]
  obtain ⟨o,o1,o2,o3⟩:=qP2 c y.names 0
  rw [bnd o1,bnd o2]
  rcases o3 with ⟨rfl,h⟩ | ⟨rfl,s,hs,h⟩
  ·simp only [qKp]
   obtain ⟨b,b1,b2,b3⟩:=qQF c ys (k+1)
   refine ⟨b,b1,b2,b3.trans ⟨fun q it hi=>?_,fun q it hi=>q it (by simp [hi])⟩⟩
   rcases List.mem_cons.1 hi with rfl | hi
   ·exact h
   ·exact q it hi
  ·simp only [qKp]
   exact ⟨false,rfl,rfl,by simp only [Bool.false_eq_true,false_iff];exact fun q=>q y (by simp) s hs h⟩
theorem qQN (c:Code) (l:List Item):∃ b,qH0 c l=some b∧qHj c l=some b∧(b=true↔qH6 c l):=qQF c l 0
end
section
def qUv (J:Nat) (l:List Int):Prop:=l.length=J∧∀ x ∈ l,-5 ≤ x∧x ≤ 5
def qUK (J:Nat) (l:List Int):Prop:=l.length=J∧∀ x ∈ l,(0 ≤ x∧x ≤ 1000)∧x.tmod 25=0
def qNZ (m:Marks):Prop:=m.grades.length ≤ 14∧m.components.length=3∧∃ r,qAb m.components 0=some r∧(3 ≤ r.length∧r.length ≤ 9)∧(∀ l ∈ m.grades,qUv r.length l)∧∀ l ∈ m.components,qUK r.length l
theorem n25:qCw (25 != 0)=some ():=rfl
theorem qR6 (x:Int):Ret (qCh x) (¬ ((0 ≤ x∧x ≤ 1000)∧x.tmod 25=0)):=by
 unfold qCh qEV
 obtain ⟨b,b1,b2⟩:=qBW x 0 1000
 rw [bnd b1]
 cases b
 ·simp only [qDU,oB9,Bool.false_and,Bool.not_false]
  exact .t fun h=>absurd (b2.2 h.1) (by simp)
 ·rw [n25]
  simp only [qCX,oB9,Bool.true_and]
  have h:=b2.1 rfl
  refine .some ?_
  rw [Bool.not_eq_true',beq_eq_false_iff_ne]
  exact ⟨fun q r=>q r.2,fun q r=>q ⟨h,r⟩⟩
theorem qUx:∀ (l:List Int) (k:Nat),∃ i,qAk (fun a0=>qCh a0) l k=some i∧(i ≥ 0↔∃ x ∈ l,¬ ((0 ≤ x∧x ≤ 1000)∧x.tmod 25=0))
 | [],k=>⟨-1,by rw [qAk],by simp⟩
 | y::l,k=>by
  obtain ⟨b,b1,b2⟩:=qR6 y
  rw [qAk,bnd b1]
  cases b
  ·obtain ⟨i,i1,i2⟩:=qUx l (k+1)
   refine ⟨i,i1,i2.trans ⟨fun ⟨x,hx,q⟩=>⟨x,by simp [hx],q⟩,fun ⟨x,hx,q⟩=>?_⟩⟩
   rcases List.mem_cons.1 hx with rfl | hx
   ·exact absurd (b2.2 q) (by simp)
   ·exact ⟨x,hx,q⟩
  ·exact ⟨(k:Int),rfl,⟨fun _=>⟨y,by simp,b2.1 rfl⟩,fun _=>by omega⟩⟩
theorem qNQ (m:Marks) {r:List Int} (hr:qAb m.components 0=some r):∀ (ys:List (List Int)) (k:Nat),Ret (qCT m ys k) (∀ l ∈ ys,qUK r.length l)
 | [],k=>by rw [qCT];exact .t (by simp)
 | y::ys,k=>by
  rw [qCT,bnd (show qBL m=some (r.length:Int) from by unfold qBL;rw [bnd hr])]
  by_cases h:y.length=r.length
  ·rw [show ((y.length:Int) != (r.length:Int))=false from by rw [h];simp]
   simp only [Bool.not_false,qCX,Bool.false_or]
   obtain ⟨i,i1,i2⟩:=qUx y 0
   rw [bnd (show qCv y (fun a0=>qCh a0)=some (decide (i ≥ 0)) from by unfold qCv qET;rw [bnd i1])]
   by_cases hi:i ≥ 0
   ·rw [decide_eq_true hi]
    obtain ⟨x,hx,q⟩:=i2.1 hi
    exact .f fun k=>q ((k y (by simp)).2 x hx)
   ·rw [decide_eq_false hi,cond_false]
    refine (qNQ m hr ys (k+1)).iff ⟨fun q l hl=>?_,fun q l hl=>q l (by simp [hl])⟩
    rcases List.mem_cons.1 hl with rfl | hl
    ·exact ⟨h,fun x hx=>Classical.byContradiction fun c=>hi (i2.2 ⟨x,hx,c⟩)⟩
    ·exact q l hl
  ·rw [show ((y.length:Int) != (r.length:Int))=true from by rw [bne_iff_ne];omega]
   simp only [Bool.not_true,qDU,oB9,Bool.true_or,cond_true]
   exact .f fun k=>h (k y (by simp)).1
theorem qNY (m:Marks) {r:List Int} (hr:qAb m.components 0=some r):∀ (ys:List (List Int)) (k:Nat),Ret (qCJ m ys k) ((∀ l ∈ ys,qUv r.length l)∧∀ l ∈ m.components,qUK r.length l)
 | [],k=>by rw [qCJ];exact (qNQ m hr m.components 0).iff (by simp)
 | y::ys,k=>by
  rw [qCJ,bnd (show qBL m=some (r.length:Int) from by unfold qBL;rw [bnd hr])]
  by_cases h:y.length=r.length
  ·rw [show ((y.length:Int) != (r.length:Int))=false from by rw [h];simp]
   simp only [Bool.not_false,qCX,Bool.false_or]
   obtain ⟨b,b1,b2⟩:=qIb (-5) 5 y 0
   rw [bnd (show qDA y (-5) 5=some b from b1)]
   cases b
   ·exact .f fun k=>absurd (b2.2 (k.1 y (by simp)).2) (by simp)
   ·simp only [Bool.not_true,cond_false]
    refine (qNY m hr ys (k+1)).iff ⟨fun q=>⟨fun l hl=>?_,q.2⟩,fun q=>⟨fun l hl=>q.1 l (by simp [hl]),q.2⟩⟩
    rcases List.mem_cons.1 hl with rfl | hl
    ·exact ⟨h,b2.1 rfl⟩
    ·exact q.1 l hl
  ·rw [show ((y.length:Int) != (r.length:Int))=true from by rw [bne_iff_ne];omega]
   simp only [Bool.not_true,qDU,oB9,Bool.true_or,cond_true]
   exact .f fun k=>h (k.1 y (by simp)).1
theorem qPL (m:Marks):Ret (qFF m) (qNZ m):=by
 unfold qFF
 by_cases h1:m.grades.length ≤ 14∧m.components.length=3
 ·rw [decide_eq_false (by omega),show ((m.components.length:Int) != 3)=false from by rw [h1.2];rfl]
  obtain ⟨r,hr⟩:∃ r,qAb m.components 0=some r:=⟨_,qDS (k:=0) (by omega)⟩
  simp only [Bool.or_false,Bool.not_false,qCX]
  rw [bnd hr]
  obtain ⟨b,b1,b2⟩:=qBW (r.length:Int) 3 9
  rw [bnd b1]
  cases b
  ·exact .f fun ⟨_,_,r',e,k,_⟩=>by rw [hr] at e;cases e;exact absurd (b2.2 (by omega)) (by simp)
  ·simp only [Bool.not_true,Bool.or_false,cond_false]
   have:=b2.1 rfl
   exact (qNY m hr m.grades 0).iff ⟨fun q=>⟨h1.1,h1.2,r,hr,by omega,q.1,q.2⟩,fun ⟨_,_,r',e,_,k⟩=>by rw [hr] at e;cases e;exact k⟩
 ·have hg:(decide ((m.grades.length:Int) > 14) || ((m.components.length:Int) != 3))=true:=by
   rw [Bool.or_eq_true,decide_eq_true_eq,bne_iff_ne];omega
  rw [hg]
  simp only [Bool.not_true,qDU,oB9,Bool.true_or,cond_true]
  exact .f fun k=>h1 ⟨k.1,k.2.1⟩
theorem qLG (l:List Int) (J:Nat):∀ (ys:List Int) (k:Nat),Ret (qBg l (J:Int) false ys k) (qUv J l)
 | [],k=>by
  rw [qBg,cond_false]
  by_cases h:l.length=J
  ·rw [show ((l.length:Int) == (J:Int))=true from by rw [h];simp]
   simp only [qCX,Bool.true_and]
   obtain ⟨b,b1,b2⟩:=qL2 (-5) 5 l 0
   rw [bnd (show qCy l (-5) 5=some b from b1)]
   exact .some (b2.trans ⟨fun q=>⟨h,q⟩,fun q=>q.2⟩)
  ·rw [show ((l.length:Int) == (J:Int))=false from by rw [beq_eq_false_iff_ne];omega]
   exact .f fun k=>h k.1
 | y::ys,k=>by
  rw [qBg]
  simp only [qDU,oB9,Bool.false_and,cond_false]
  exact qLG l J ys (k+1)
theorem qLF (l:List Int) (J:Nat):∀ (ys pre:List Int) (k:Nat),l=pre++ys→(∀ x ∈ pre,x.tmod 25=0)→Ret (qBg l (J:Int) true ys k) (qUK J l)
 | [],pre,k,h1,h2=>by
  rw [qBg,cond_true]
  rw [List.append_nil] at h1
  subst h1
  by_cases h:l.length=J
  ·rw [show ((l.length:Int) == (J:Int))=true from by rw [h];simp]
   simp only [qCX,Bool.true_and]
   obtain ⟨b,b1,b2⟩:=qL2 0 1000 l 0
   rw [bnd (show qCy l 0 1000=some b from b1)]
   exact .some (b2.trans ⟨fun q=>⟨h,fun x hx=>⟨q x hx,h2 x hx⟩⟩,fun q x hx=>(q.2 x hx).1⟩)
  ·rw [show ((l.length:Int) == (J:Int))=false from by rw [beq_eq_false_iff_ne];omega]
   exact .f fun k=>h k.1
 | y::ys,pre,k,h1,h2=>by
  rw [qBg,n25]
  simp only [qCX,oB9,Bool.true_and]
  by_cases h:y.tmod 25=0
  ·rw [h,bne_self_eq_false,cond_false]
   exact qLF l J ys (pre++[y]) (k+1) (by rw [h1];simp) fun x hx=>by
    rcases List.mem_append.1 hx with hx | hx
    ·exact h2 x hx
    ·rw [List.mem_singleton.1 hx];exact h
  ·rw [show (y.tmod 25 != 0)=true from by rw [bne_iff_ne];exact h,cond_true]
   exact .f fun k=>h (k.2 y (by rw [h1];simp)).2
theorem qLJ (r:List Int):∀ (ys:List (List Int)) (k:Nat),Ret (qDE r ys k) ((∀ l ∈ ys,qUK r.length l)∧(3 ≤ r.length∧r.length ≤ 9))
 | [],k=>by
  rw [qDE]
  obtain ⟨b,b1,b2⟩:=qDp (r.length:Int) 3 9
  rw [bnd b1]
  exact .some (b2.trans ⟨fun q=>⟨by simp,by omega⟩,fun q=>by have:=q.2;omega⟩)
 | y::ys,k=>by
  obtain ⟨b,b1,b2⟩:=qLF y r.length y [] 0 rfl (by simp)
  rw [qDE,bnd (show qFW y (r.length:Int) true=some b from b1)]
  cases b
  ·exact .f fun k=>absurd (b2.2 (k.1 y (by simp))) (by simp)
  ·simp only [Bool.not_true,cond_false]
   refine (qLJ r ys (k+1)).iff ⟨fun q=>⟨fun l hl=>?_,q.2⟩,fun q=>⟨fun l hl=>q.1 l (by simp [hl]),q.2⟩⟩
   rcases List.mem_cons.1 hl with rfl | hl
   ·exact b2.1 rfl
   ·exact q.1 l hl
theorem qLK (m:Marks) (r:List Int):∀ (ys:List (List Int)) (k:Nat),Ret (qDF m r ys k) ((∀ l ∈ ys,qUv r.length l)∧(∀ l ∈ m.components,qUK r.length l)∧(3 ≤ r.length∧r.length ≤ 9))
 | [],k=>by rw [qDF];exact (qLJ r m.components 0).iff (by simp)
 | y::ys,k=>by
  obtain ⟨b,b1,b2⟩:=qLG y r.length y 0
  rw [qDF,bnd (show qFW y (r.length:Int) false=some b from b1)]
  cases b
  ·exact .f fun k=>absurd (b2.2 (k.1 y (by simp))) (by simp)
  ·simp only [Bool.not_true,cond_false]
   refine (qLK m r ys (k+1)).iff ⟨fun q=>⟨fun l hl=>?_,q.2⟩,fun q=>⟨fun l hl=>q.1 l (by simp [hl]),q.2⟩⟩
   rcases List.mem_cons.1 hl with rfl | hl
   ·exact b2.1 rfl
   ·exact q.1 l hl
theorem qRJ (m:Marks):Ret (qEB m) (qNZ m):=by
 unfold qEB
 by_cases h1:m.grades.length ≤ 14∧m.components.length=3
 ·rw [decide_eq_false (by omega),show ((m.components.length:Int) != 3)=false from by rw [h1.2];rfl]
  obtain ⟨r,hr⟩:∃ r,qAb m.components 0=some r:=⟨_,qDS (k:=0) (by omega)⟩
  simp only [Bool.or_false,cond_false]
  rw [bnd hr]
  exact (qLK m r m.grades 0).iff ⟨fun q=>⟨h1.1,h1.2,r,hr,q.2.2,q.1,q.2.1⟩,fun ⟨_,_,r',e,a,b,c⟩=>by rw [hr] at e;cases e;exact ⟨b,c,a⟩⟩
 ·have hg:(((m.components.length:Int) != 3) || decide ((m.grades.length:Int) > 14))=true:=by
   rw [Bool.or_eq_true,decide_eq_true_eq,bne_iff_ne];omega
  rw [hg,cond_true]
  exact .f fun k=>h1 ⟨k.1,k.2.1⟩
end
section
def qPT (c:Code) (p:Performance):Prop:=qFV c∧qF6 p.items∧qH6 c p.items∧qNZ p.marks∧p.marks.grades.length=p.items.length∧qOr p.slips
theorem qK8 (m:Marks):∃ b,qFF m=some b∧qEB m=some b∧(b=true↔qNZ m):=by
 obtain ⟨b,b1,b2⟩:=qPL m
 obtain ⟨d,d1,d2⟩:=qRJ m
 obtain rfl:b=d:=Bool.eq_iff_iff.2 (b2.trans d2.symm)
 exact ⟨b,b1,d1,b2⟩
theorem qR9 (c:Code) (p:Performance) (hc:qPJ c) (hp:qQa p.items) (fuel:Nat) (hf:1048576 < fuel):∃ b,qAi fuel c p=some b∧qDM fuel c p=some b∧(b=true→qPT c p):=by
 unfold qAi qDM qEK qIO qIJ qIa qIT qG9
 obtain ⟨a,a1,a2,a3⟩:=qMH c hc fuel hf
 rw [a1,a2]
 simp only [oB9]
 cases a
 ·exact ⟨false,by simp [qDU],by simp [qDU],fun h=>by cases h⟩
 obtain ⟨i,i1,i2,i3⟩:=qNa p.items hp fuel hf
 simp only [qCX,Bool.true_and]
 rw [i1,i2]
 simp only [oB9]
 cases i
 ·exact ⟨false,by simp [qDU],by simp [qDU],fun h=>by cases h⟩
 obtain ⟨k,k1,k2,k3⟩:=qQN c p.items
 simp only [qCX,Bool.true_and]
 rw [k1,k2]
 simp only [oB9]
 cases k
 ·exact ⟨false,by simp [qDU],by simp [qDU],fun h=>by cases h⟩
 obtain ⟨m,m1,m2,m3⟩:=qK8 p.marks
 simp only [qCX,Bool.true_and]
 rw [m1,m2]
 simp only [oB9]
 cases hm:m && ((p.marks.grades.length:Int) == (p.items.length:Int))
 ·exact ⟨false,by simp [qDU],by simp [qDU],fun h=>by cases h⟩
 rw [Bool.and_eq_true] at hm
 have hl:p.marks.grades.length=p.items.length:=by have:=eq_of_beq hm.2;omega
 obtain ⟨s,s1,s2,s3⟩:=qQd p.slips
 simp only [qCX,Bool.true_and]
 rw [s1,s2]
 exact ⟨s,rfl,rfl,fun h=>⟨a3 rfl,i3 rfl,k3.1 rfl,m3.1 hm.1,hl,s3.1 h⟩⟩
end
section
def elN (c:Code) (s:ByteArray):Element:=(qAb c.elements (fnd s c.elements 0)).getD default
def wth (c:Code) (x:Element) (mark:Int):Int:=if mark=1 then (x.base * c.keeps).tdiv 100 else if mark=2 then (x.base * 9).tdiv 10 else if mark=3 then 0 else x.base
theorem qVr:qCw (100 != 0)=some ():=rfl
theorem n10:qCw (10 != 0)=some ():=rfl
theorem qML {c:Code} {s:ByteArray} (h:¬ fnd s c.elements 0 < 0):qAb c.elements (fnd s c.elements 0)=some (elN c s)∧elN c s ∈ c.elements:=by
 obtain ⟨x,h1,h2⟩:=qUZ h
 unfold elN
 rw [h1]
 exact ⟨rfl,h2⟩
theorem qKN {a b A B:Int} (ha:0 ≤ a∧a ≤ A) (hb:0 ≤ b∧b ≤ B):0 ≤ a * b∧a * b ≤ A * B :=
 ⟨Int.mul_nonneg ha.1 hb.1,Int.mul_le_mul ha.2 hb.2 hb.1 (by omega)⟩
theorem qR0 {c:Code} (hc:qFV c) {x:Element} (hx:qQY x) (mark:Int):0 ≤ wth c x mark∧wth c x mark ≤ 2000:=by
 have hb:=hx.2.2
 have hk:=hc.2.2.2.2.1
 have hm:=qKN (a:=x.base) (b:=c.keeps) (A:=2000) (B:=100) (by omega) (by omega)
 unfold wth
 split
 ·rw [Int.tdiv_eq_ediv_of_nonneg hm.1];omega
 ·split
  ·rw [Int.tdiv_eq_ediv_of_nonneg (by omega)];omega
  ·split <;> omega
theorem qQJ {c:Code} (hc:qFV c) {x:Element} (hx:qQY x) (mark:Int):qE9 c x mark=some (wth c x mark):=by
 have hb:=hx.2.2
 have hk:=hc.2.2.2.2.1
 have hm:=qKN (a:=x.base) (b:=c.keeps) (A:=2000) (B:=100) (by omega) (by omega)
 have hd:0 ≤ (x.base * c.keeps).tdiv 100∧(x.base * c.keeps).tdiv 100 ≤ 2000:=by rw [Int.tdiv_eq_ediv_of_nonneg hm.1];omega
 have hd2:0 ≤ (x.base * 9).tdiv 10∧(x.base * 9).tdiv 10 ≤ 2000:=by rw [Int.tdiv_eq_ediv_of_nonneg (by omega)];omega
 unfold qE9 wth
 rw [qVr,n10,qAG (n:=x.base * c.keeps) (by omega),qAG (n:=x.base * 9) (by omega),qAG (n:=(x.base * c.keeps).tdiv 100) (by omega),qAG (n:=(x.base * 9).tdiv 10) (by omega)]
 simp only [oB9]
 by_cases h1:mark=1
 ·rw [if_pos h1,show (mark == 1)=true from by rw [h1];rfl];rfl
 ·rw [if_neg h1,show (mark == 1)=false from by rw [beq_eq_false_iff_ne];exact h1,cond_false]
  by_cases h2:mark=2
  ·rw [if_pos h2,show (mark == 2)=true from by rw [h2];rfl];rfl
  ·rw [if_neg h2,show (mark == 2)=false from by rw [beq_eq_false_iff_ne];exact h2,cond_false]
   by_cases h3:mark=3
   ·rw [if_pos h3,show (mark == 3)=true from by rw [h3];rfl];rfl
   ·rw [if_neg h3,show (mark == 3)=false from by rw [beq_eq_false_iff_ne];exact h3];rfl
theorem qRp {c:Code} (hc:qFV c) {s:ByteArray} (hs:¬ fnd s c.elements 0 < 0) (mark:Int):qFE c s mark=some (wth c (elN c s) mark):=by
 obtain ⟨e1,e2⟩:=qML hs
 have:=qQJ hc (hc.2.2.2.2.2.2 _ e2) mark
 unfold qE9 at this
 unfold qFE
 rw [bnd (qIE c s).2,decide_eq_false hs,cond_false,bnd e1]
 exact this
def wl (c:Code) (it:Item):List Int:=List.zipWith (fun s m=>wth c (elN c s) m) it.names it.marks
theorem qPy {c:Code} (hc:qFV c) (it:Item):∀ (ys:List ByteArray) (ms mp:List Int) (v:List Int),it.marks=mp++ms→ys.length=ms.length→(∀ s ∈ ys,¬ fnd s c.elements 0 < 0)→v.length+ys.length ≤ 1000 →
  qCt c it ys mp.length v=some (v++List.zipWith (fun s m=>wth c (elN c s) m) ys ms)
 | [],[],mp,v,_,_,_,_=>by rw [qCt];simp
 | y::ys,m::ms,mp,v,h1,h2,h3,h4=>by
  obtain ⟨e1,e2⟩:=qML (h3 y (by simp))
  simp only [List.length_cons] at h4
  rw [qCt,bnd (qIE c y).1,bnd e1,bnd (qDD (pre:=mp) (y:=m) (ys:=ms) h1 rfl),bnd (qQJ hc (hc.2.2.2.2.2.2 _ e2) m),qAQ (by simp;omega),qAw,oB9]
  have:=qPy hc it ys ms (mp++[m]) (v++[wth c (elN c y) m]) (by rw [h1];simp) (by simpa using h2) (fun s hs=>h3 s (by simp [hs])) (by simp;omega)
  rw [show (mp++[m]).length=mp.length+1 from by simp] at this
  rw [this];simp
theorem qUS {c:Code} (hc:qFV c):∀ (ys:List ByteArray) (ms:List Int),(∀ s ∈ ys,¬ fnd s c.elements 0 < 0)→∀ x ∈ List.zipWith (fun s m=>wth c (elN c s) m) ys ms,0 ≤ x∧x ≤ 2000
 | [],_,_,x,hx=>by simp at hx
 | _::_,[],_,x,hx=>by simp at hx
 | y::ys,m::ms,h,x,hx=>by
  rw [List.zipWith_cons_cons] at hx
  rcases List.mem_cons.1 hx with rfl | hx
  ·exact qR0 hc (hc.2.2.2.2.2.2 _ (qML (h y (by simp))).2) m
  ·exact qUS hc ys ms (fun s hs=>h s (by simp [hs])) x hx
theorem qOv {c:Code} (hc:qFV c) {it:Item} (hi:qHa it) (hk:∀ s ∈ it.names,¬ fnd s c.elements 0 < 0):qGw c it=some (wl c it):=by
 have:=qPy hc it it.names it.marks [] [] rfl hi.2.symm hk (by simp;have:=hi.1;omega)
 rw [List.nil_append] at this
 exact this
theorem qTT:∀ {l:List Int} {B:Int},(∀ x ∈ l,0 ≤ x∧x ≤ B)→0 ≤ l.sum∧l.sum ≤ B * (l.length:Int)
 | [],B,_=>by simp
 | x::l,B,h=>by
  have h1:=h x (by simp)
  have h2:=qTT (l:=l) (B:=B) fun y hy=>h y (by simp [hy])
  rw [List.sum_cons,List.length_cons,show ((l.length+1:Nat):Int)=(l.length:Int)+1 from rfl,Int.mul_add,Int.mul_one];omega
theorem qTR:∀ (l:List Int) (k:Nat) (v:Int),(∀ x ∈ l,0 ≤ x∧x ≤ 100000)→0 ≤ v→v+100000 * (l.length:Int) ≤ 1000000000000→qAW l k v=some (v+l.sum)
 | [],k,v,_,_,_=>by rw [qAW];simp
 | x::l,k,v,h,hv,hb=>by
  have h1:=h x (by simp)
  simp only [List.length_cons] at hb
  rw [qAW,qAG (by omega),qTR l (k+1) (v+x) (fun y hy=>h y (by simp [hy])) (by omega) (by omega),List.sum_cons]
  congr 1;omega
def qMf (c:Code) (it:Item):Int:=if it.late=true then rnd ((wl c it).sum * (100+c.bonus)) 100 else (wl c it).sum
theorem qUw {a B:Int} (h:0 ≤ a∧a ≤ 100 * B):0 ≤ rnd a 100∧rnd a 100 ≤ B:=by unfold rnd;omega
theorem qP3 {c:Code} (hc:qFV c) {it:Item} (hi:qHa it) (hk:∀ s ∈ it.names,¬ fnd s c.elements 0 < 0):(∀ x ∈ wl c it,0 ≤ x∧x ≤ 2000)∧(1 ≤ (wl c it).length∧(wl c it).length ≤ 3)∧0 ≤ (wl c it).sum∧(wl c it).sum ≤ 6000:=by
 have h1:∀ x ∈ wl c it,0 ≤ x∧x ≤ 2000:=qUS hc it.names it.marks hk
 have h2:(wl c it).length=it.names.length:=by unfold wl;rw [List.length_zipWith,hi.2];simp
 have h3:=qTT h1
 have h4:=hi.1
 exact ⟨h1,by omega,h3.1,by omega⟩
theorem qTn {c:Code} (hc:qFV c) {it:Item} (hi:qHa it) (hk:∀ s ∈ it.names,¬ fnd s c.elements 0 < 0):0 ≤ qMf c it∧qMf c it ≤ 7200:=by
 obtain ⟨_,_,h3,h4⟩:=qP3 hc hi hk
 have hb:=hc.2.2.2.1
 unfold qMf
 split
 ·have:=qKN (a:=(wl c it).sum) (b:=100+c.bonus) (A:=6000) (B:=120) ⟨h3,h4⟩ (by omega)
  exact qUw (by omega)
 ·omega
theorem qUz {c:Code} (hc:qFV c) {it:Item} (hi:qHa it) (hk:∀ s ∈ it.names,¬ fnd s c.elements 0 < 0):qFd c it=some (qMf c it):=by
 obtain ⟨h1,h2,h3,h4⟩:=qP3 hc hi hk
 have hb:=hc.2.2.2.1
 have hm:=qKN (a:=(wl c it).sum) (b:=100+c.bonus) (A:=6000) (B:=120) ⟨h3,h4⟩ (by omega)
 unfold qFd qMf
 have hs:qA5 (wl c it)=some (wl c it).sum:=by
  have:=qTR (wl c it) 0 0 (fun x hx=>by have:=h1 x hx;omega) (by omega) (by omega)
  rw [Int.zero_add] at this
  exact this
 rw [bnd (qOv hc hi hk),bnd hs,qAG (n:=100+c.bonus) (by omega),qAG (by omega)]
 cases it.late
 ·rfl
 ·rw [cond_true,bnd (qJa (b:=100) (by omega) (by omega) (by omega)).1,if_pos rfl]
theorem qR1 {c:Code} (hc:qFV c) (it:Item) (fu:Int→Option Int) (hfu:∀ v:Int,qBi c it [] 0 v=fu v):∀ (ys:List ByteArray) (ms mp:List Int) (v:Int),it.marks=mp++ms→ys.length=ms.length→(∀ s ∈ ys,¬ fnd s c.elements 0 < 0)→0 ≤ v→v+2000 * (ys.length:Int) ≤ 1000000 →
  qBi c it ys mp.length v=fu (v+(List.zipWith (fun s m=>wth c (elN c s) m) ys ms).sum)
 | [],[],mp,v,_,_,_,_,_=>by
  have:=hfu v
  rw [qBi] at this
  rw [qBi,this];simp
 | y::ys,m::ms,mp,v,h1,h2,h3,h4,h5=>by
  have hw:=qR0 hc (hc.2.2.2.2.2.2 _ (qML (h3 y (by simp))).2) m
  simp only [List.length_cons] at h5
  rw [qBi,bnd (qDD (pre:=mp) (y:=m) (ys:=ms) h1 rfl),bnd (qRp hc (h3 y (by simp)) m),qAG (by omega)]
  have:=qR1 hc it fu hfu ys ms (mp++[m]) (v+wth c (elN c y) m) (by rw [h1];simp) (by simpa using h2) (fun s hs=>h3 s (by simp [hs])) (by omega) (by omega)
  rw [show (mp++[m]).length=mp.length+1 from by simp] at this
  rw [this,List.zipWith_cons_cons,List.sum_cons]
  congr 1;omega
theorem qUb {c:Code} (hc:qFV c) {it:Item} (hi:qHa it) (hk:∀ s ∈ it.names,¬ fnd s c.elements 0 < 0):qGr c it=some (qMf c it):=by
 obtain ⟨h1,h2,h3,h4⟩:=qP3 hc hi hk
 have hb:=hc.2.2.2.1
 have hm:=qKN (a:=(wl c it).sum) (b:=100+c.bonus) (A:=6000) (B:=120) ⟨h3,h4⟩ (by omega)
 have hl:=hi.1
 have:=qR1 hc it _ (fun _=>rfl) it.names it.marks [] 0 rfl hi.2.symm hk (by omega) (by omega)
 rw [Int.zero_add] at this
 unfold qGr qMf
 rw [show ([]:List Int).length=0 from rfl] at this
 rw [this,qBi]
 show cond it.late ((qDO (w64 ((wl c it).sum * (w64 (100+c.bonus)))) 100).bind fun x18=>some x18) (some (wl c it).sum)=_
 rw [qAG (n:=100+c.bonus) (by omega),qAG (by omega)]
 cases it.late
 ·rfl
 ·rw [cond_true,bnd (qJa (b:=100) (by omega) (by omega) (by omega)).2,if_pos rfl]
end
section
theorem qKt {it:Item} (h:qHa it):∃ s m,qAb it.names 0=some s∧qAb it.marks 0=some m:=by
 have h1:=h.1
 have h2:=h.2
 exact ⟨_,_,qDS (k:=0) (by omega),qDS (k:=0) (by omega)⟩
theorem qRh {l:List Item} {k:Nat} {x:Item} (hx:qAb l (k:Int)=some x) (hi:qHa x):∀ (ys:List Item) (j:Nat) (v:Int),(∀ it ∈ ys,qHa it)→0 ≤ v→v+(ys.length:Int) ≤ 1000 →
  ∃ r,qAd l (k:Int) ys j v=some r∧qAf l (k:Int) ys j v=some r∧0 ≤ r
 | [],j,v,_,hv,_=>⟨v,by rw [qAd],by rw [qAf],hv⟩
 | y::ys,j,v,h,hv,hb=>by
  obtain ⟨s,_,s1,_⟩:=qKt hi
  obtain ⟨t,m,t1,m1⟩:=qKt (h y (by simp))
  simp only [List.length_cons] at hb
  rw [qAd,qAf,bnd t1,bnd t1,bnd hx,bnd hx,bnd s1,bnd s1,m1,qAG (by omega)]
  have hr:∃ b:Bool,((opt (decide (t=s)) default (some m)).bind fun x34=>cond (decide (t=s) && (x34 != 3)) (qAd l (k:Int) ys (j+1) (v+1)) (qAd l (k:Int) ys (j+1) v))=cond b (qAd l (k:Int) ys (j+1) (v+1)) (qAd l (k:Int) ys (j+1) v) ∧
    ((opt (decide (t=s)) default (some m)).bind fun x34=>cond (decide (t=s) && (x34 != 3)) (qAf l (k:Int) ys (j+1) (v+1)) (qAf l (k:Int) ys (j+1) v))=cond b (qAf l (k:Int) ys (j+1) (v+1)) (qAf l (k:Int) ys (j+1) v):=by
   cases decide (t=s)
   ·exact ⟨false,by simp only [qDU,oB9,Bool.false_and],by simp only [qDU,oB9,Bool.false_and]⟩
   ·exact ⟨m != 3,by simp only [qCX,oB9,Bool.true_and],by simp only [qCX,oB9,Bool.true_and]⟩
  obtain ⟨b,b1,b2⟩:=hr
  rw [b1,b2]
  cases b
  ·exact qRh hx hi ys (j+1) v (fun it hit=>h it (by simp [hit])) hv (by omega)
  ·exact qRh hx hi ys (j+1) (v+1) (fun it hit=>h it (by simp [hit])) (by omega) (by omega)
theorem qRT {c:Code} (hc:qFV c) {l:List Item} (hl:qF6 l) (hk:qH6 c l) {k:Nat} {x:Item} (hx:qAb l (k:Int)=some x):∃ b,qC2 c l (k:Int)=some b∧qEu c l (k:Int)=some b∧0 ≤ b∧b ≤ 7200:=by
 have hx2:l[k]?=some x:=by rw [qDa rfl] at hx;exact hx
 have hmem:x ∈ l:=List.mem_of_getElem? hx2
 have hlt:=(List.getElem?_eq_some_iff.1 hx2).1
 have hi:=hl.2 x hmem
 obtain ⟨r,r1,r2,r3⟩:=qRh hx hi (l.take k) 0 0 (fun it h=>hl.2 it (List.mem_of_mem_take h)) (by omega) (by rw [List.length_take];have:=hl.1;omega)
 have hb:=qTn hc hi (hk x hmem)
 unfold qC2 qEu qGd qGf
 rw [qF9 (l:=l) (k:=k) rfl (by omega),oB9,oB9,bnd r1,bnd hx,bnd hx,bnd (qUz hc hi (hk x hmem)),bnd (qUb hc hi (hk x hmem)),bnd r2,n10,qAG (n:=qMf c x * 7) (by omega)]
 have hd:0 ≤ (qMf c x * 7).tdiv 10∧(qMf c x * 7).tdiv 10 ≤ 7200:=by rw [Int.tdiv_eq_ediv_of_nonneg (by omega)];omega
 rw [qAG (n:=(qMf c x * 7).tdiv 10) (by omega)]
 cases decide (r < c.repeats)
 ·rw [cond_false]
  cases r == c.repeats
  ·exact ⟨0,rfl,rfl,by omega,by omega⟩
  ·exact ⟨_,rfl,rfl,hd⟩
 ·exact ⟨_,rfl,rfl,hb⟩
theorem qRA {c:Code} (hc:qFV c) (it:Item):∀ (ys:List ByteArray) (ms mp:List Int) (v:Int),it.marks=mp++ms→ys.length=ms.length→(∀ s ∈ ys,¬ fnd s c.elements 0 < 0)→0 ≤ v →
  qCk c it ys mp.length v=some ((List.zipWith (fun s m=>wth c (elN c s) m) ys ms).foldl max v)
 | [],[],mp,v,_,_,_,_=>by rw [qCk];rfl
 | y::ys,m::ms,mp,v,h1,h2,h3,h4=>by
  have hw:=qR0 hc (hc.2.2.2.2.2.2 _ (qML (h3 y (by simp))).2) m
  rw [qCk,bnd (qDD (pre:=mp) (y:=m) (ys:=ms) h1 rfl),bnd (qRp hc (h3 y (by simp)) m),List.zipWith_cons_cons,List.foldl_cons]
  have hm:qDI v (wth c (elN c y) m)=some (max v (wth c (elN c y) m)):=by
   unfold qDI
   by_cases h:v > wth c (elN c y) m
   ·rw [decide_eq_true h,cond_true,Int.max_eq_left (by omega)]
   ·rw [decide_eq_false h,cond_false,Int.max_eq_right (by omega)]
  rw [bnd hm]
  have:=qRA hc it ys ms (mp++[m]) (max v (wth c (elN c y) m)) (by rw [h1];simp) (by simpa using h2) (fun s hs=>h3 s (by simp [hs])) (by omega)
  rw [show (mp++[m]).length=mp.length+1 from by simp] at this
  exact this
end
section
def qH9 (c:Code) (l:List Item) (k:Nat):Int:=(qC2 c l (k:Int)).getD 0
theorem qN2 {c:Code} (hc:qFV c) {l:List Item} (hl:qF6 l) (hk:qH6 c l) {k:Nat} (h:k < l.length):qC2 c l (k:Int)=some (qH9 c l k)∧qEu c l (k:Int)=some (qH9 c l k)∧0 ≤ qH9 c l k∧qH9 c l k ≤ 7200:=by
 obtain ⟨b,b1,b2,b3⟩:=qRT hc hl hk (qDS h)
 have e:qH9 c l k=b:=by unfold qH9;rw [b1];rfl
 rw [e]
 exact ⟨b1,b2,b3⟩
def qFz (c:Code) (it:Item):Int:=(wl c it).foldl max 0
theorem qUh (x:List Int) (hx:x.length ≤ 1000):∀ (ys pre:List Int) (fuel:Nat) (m:Int),x=pre++ys→ys.length < fuel→qAx x fuel m (pre.length:Int)=some (ys.foldl max m):=by
 intro ys
 induction ys with
 | nil =>
  intro pre fuel m h hf
  obtain ⟨f,rfl⟩:=nZ9 (by omega:fuel ≠ 0)
  rw [qAx,decide_eq_false (by rw [h];simp)];rfl
 | cons y ys ih =>
  intro pre fuel m h hf
  obtain ⟨f,rfl⟩:=nZ9 (by omega:fuel ≠ 0)
  simp only [List.length_cons] at hf
  have hlen:x.length=pre.length+(ys.length+1):=by rw [h];simp
  rw [qAx,decide_eq_true (by omega),cond_true,bnd (qDD h rfl),qAG (by omega)]
  have:=ih (pre++[y]) f (max m y) (by rw [h];simp) (by omega)
  rw [show (pre++[y]).length=pre.length+1 from by simp,Int.natCast_add,Int.natCast_one] at this
  exact this
theorem qLO:∀ (l:List Int) (v B:Int),(∀ x ∈ l,0 ≤ x∧x ≤ B)→0 ≤ v∧v ≤ B→0 ≤ l.foldl max v∧l.foldl max v ≤ B
 | [],v,B,_,h=>h
 | x::l,v,B,h,hv=>by
  have:=h x (by simp)
  exact qLO l (max v x) B (fun y hy=>h y (by simp [hy])) (by omega)
theorem qKj {c:Code} (hc:qFV c) {it:Item} (hi:qHa it) (hk:∀ s ∈ it.names,¬ fnd s c.elements 0 < 0) (fuel:Nat) (hf:1048576 < fuel):qFq fuel c it=some (qFz c it)∧qIK c it=some (qFz c it)∧0 ≤ qFz c it∧qFz c it ≤ 2000:=by
 obtain ⟨h1,h2,_,_⟩:=qP3 hc hi hk
 have hb:=qLO (wl c it) 0 2000 h1 (by omega)
 refine ⟨?_,?_,hb⟩
 ·unfold qFq qDk qFz
  rw [bnd (qOv hc hi hk)]
  cases hw:wl c it with
  | nil=>rw [hw] at h2;simp at h2
  | cons x xs =>
   rw [decide_eq_false (by simp;omega),cond_false,bnd (show qAb (x::xs) 0=some x from rfl)]
   have:=qUh (x::xs) (by rw [hw] at h2;omega) xs [x] fuel x rfl (by rw [hw] at h2;simp at h2;omega)
   rw [bnd (show qAx (x::xs) fuel x 1=_ from this),List.foldl_cons,Int.max_eq_right (h1 x (by rw [hw];simp)).1]
 ·have:=qRA hc it it.names it.marks [] 0 rfl hi.2.symm hk (by omega)
  exact this
theorem qSY {J:Nat} {g:List Int} (h:qUv J g) (hJ:3 ≤ J∧J ≤ 9):qHk g:=by
 have:=h.1
 exact ⟨by omega,fun x hx=>by have:=h.2 x hx;omega⟩
def qSM (c:Code) (l:List Item) (k:Nat) (it:Item) (g:List Int):Int:=if qH9 c l k=0 then 0 else rnd (tS g * qFz c it) (10 * nS g)
theorem qPd {c:Code} (hc:qFV c) {l:List Item} (hl:qF6 l) (hk:qH6 c l) {k:Nat} {x:Item} (hx:qAb l (k:Int)=some x) {g:List Int} (hg:qHk g) (fuel:Nat) (hf:1048576 < fuel) :
  qFL fuel c l (k:Int) g=some (qSM c l k x g)∧qFY fuel c l (k:Int) g=some (qSM c l k x g):=by
 have hx2:l[k]?=some x:=by rw [qDa rfl] at hx;exact hx
 have hmem:x ∈ l:=List.mem_of_getElem? hx2
 have hlt:=(List.getElem?_eq_some_iff.1 hx2).1
 obtain ⟨b1,b2,b3⟩:=qN2 hc hl hk hlt
 obtain ⟨u1,u2,u3⟩:=qKj hc (hl.2 x hmem) (hk x hmem) fuel hf
 obtain ⟨t1,t2⟩:=qKr hg fuel (by omega)
 have hT:=qQn hg
 have hN:=qRd hg
 have hm:-40000000 ≤ tS g * qFz c x∧tS g * qFz c x ≤ 40000000:=by
  have h1:tS g * qFz c x ≤ 20000 * qFz c x:=Int.mul_le_mul_of_nonneg_right hT.2 u3.1
  have h2:-20000 * qFz c x ≤ tS g * qFz c x:=Int.mul_le_mul_of_nonneg_right hT.1 u3.1
  omega
 unfold qFL qFY qSM
 rw [bnd b1,bnd b2]
 by_cases h0:qH9 c l k=0
 ·rw [if_pos h0,show (qH9 c l k == 0)=true from by rw [h0];rfl];exact ⟨rfl,rfl⟩
 ·rw [if_neg h0,show (qH9 c l k == 0)=false from by rw [beq_eq_false_iff_ne];exact h0,cond_false,cond_false,bnd t1,bnd t2,bnd hx,bnd hx,bnd u1,bnd u2]
  dsimp only
  obtain ⟨r1,r2⟩:=qJa (a:=tS g * qFz c x) (b:=10 * nS g) (by omega) (by omega) (by omega)
  rw [qAG (n:=tS g * qFz c x) (by omega),qAG (n:=10 * nS g) (by omega),bnd r1,bnd r2]
  exact ⟨rfl,rfl⟩
end
section
def scl (c:Code) (l:List Item):Nat→List Item→List (List Int)→List Int
 | k,x::ys,g::gs=>(qH9 c l k+qSM c l k x g)::scl c l (k+1) ys gs
 | _,_,_=>[]
theorem qRY {a b A:Int} (hb:0 < b) (hA:0 ≤ A) (h:-A ≤ a∧a ≤ A):-A - 1 ≤ rnd a b∧rnd a b ≤ A+1:=by
 have h1:=qMB (a:=0) (a':=a) (b:=b) (d:=A) hb (by
  have:=Int.mul_le_mul_of_nonneg_left (show (1:Int) ≤ b by omega) hA
  omega)
 have h2:=qMB (a:=a) (a':=0) (b:=b) (d:=A) hb (by
  have:=Int.mul_le_mul_of_nonneg_left (show (1:Int) ≤ b by omega) hA
  omega)
 have h3:rnd 0 b=0:=by
  unfold rnd
  rw [Int.mul_zero,Int.zero_add]
  exact Int.ediv_eq_zero_of_lt (by omega) (by omega)
 omega
theorem qTN {c:Code} (hc:qFV c) {l:List Item} (hl:qF6 l) (hk:qH6 c l) (k:Nat) {x:Item} (hx:x ∈ l) {g:List Int} (hg:qHk g):-50000000 ≤ qSM c l k x g∧qSM c l k x g ≤ 50000000:=by
 obtain ⟨_,_,u3⟩:=qKj hc (hl.2 x hx) (hk x hx) 99999999 (by omega)
 have hT:=qQn hg
 have hN:=qRd hg
 unfold qSM
 split
 ·omega
 ·have h1:tS g * qFz c x ≤ 20000 * qFz c x:=Int.mul_le_mul_of_nonneg_right hT.2 u3.1
  have h2:-20000 * qFz c x ≤ tS g * qFz c x:=Int.mul_le_mul_of_nonneg_right hT.1 u3.1
  have:=qRY (a:=tS g * qFz c x) (b:=10 * nS g) (A:=40000000) (by omega) (by omega) (by omega)
  omega
theorem qPt {c:Code} (hc:qFV c) {l:List Item} (hl:qF6 l) (hk:qH6 c l) (m:Marks) (fuel:Nat) (hf:1048576 < fuel):∀ (ys:List Item) (gs:List (List Int)) (pre:List Item) (gp:List (List Int)) (v:List Int),l=pre++ys→m.grades=gp++gs→gp.length=pre.length→ys.length=gs.length→(∀ g ∈ gs,qHk g)→v.length+ys.length ≤ 1000 →
  qBT c l m fuel ys pre.length v=some (v++scl c l pre.length ys gs)∧qB3 c l m fuel ys pre.length v=some (v++scl c l pre.length ys gs)
 | [],[],pre,gp,v,_,_,_,_,_,_=>⟨by rw [qBT];simp [scl],by rw [qB3];simp [scl]⟩
 | y::ys,g::gs,pre,gp,v,h1,h2,h3,h4,h5,h6=>by
  have hgy:=qDD (pre:=pre) (y:=y) (ys:=ys) h1 rfl
  have hgg:qAb m.grades (pre.length:Int)=some g:=qDD (pre:=gp) (y:=g) (ys:=gs) h2 (by rw [h3])
  have hlt:pre.length < l.length:=by rw [h1];simp
  have hy:y ∈ l:=by rw [h1];simp
  obtain ⟨b1,b2,b3⟩:=qN2 hc hl hk hlt
  obtain ⟨q1,q2⟩:=qPd hc hl hk hgy (h5 g (by simp)) fuel hf
  have hb:=qTN hc hl hk pre.length hy (h5 g (by simp))
  simp only [List.length_cons] at h6
  obtain ⟨i1,i2⟩:=qPt hc hl hk m fuel hf ys gs (pre++[y]) (gp++[g]) (v++[qH9 c l pre.length+qSM c l pre.length y g]) (by rw [h1];simp) (by rw [h2];simp) (by simp [h3]) (by simpa using h4) (fun z hz=>h5 z (by simp [hz])) (by simp;omega)
  rw [show (pre++[y]).length=pre.length+1 from by simp] at i1 i2
  rw [qBT,qB3,scl]
  unfold qGb qH1 qJ8
  rw [b1,b2,hgg]
  simp only [oB9]
  rw [q1,q2]
  simp only [oB9]
  rw [qAG (n:=qH9 c l pre.length+qSM c l pre.length y g) (by omega),qAQ (by simp;omega),qAw,oB9,oB9,i1,i2]
  simp
end
section
theorem qTZ:∀ (l:List Int) (k:Nat) (v:Int),(∀ x ∈ l,-100000000 ≤ x∧x ≤ 100000000)→(-1000000000000 ≤ v - 100000000 * (l.length:Int)∧v+100000000 * (l.length:Int) ≤ 1000000000000)→qAW l k v=some (v+l.sum)∧qB4 l k v=some (v+l.sum)∧qDl l k v=some (v+l.sum)
 | [],k,v,_,_=>by rw [qAW,qB4,qDl];simp
 | x::l,k,v,h,hv=>by
  have hx:=h x (by simp)
  simp only [List.length_cons] at hv
  obtain ⟨i1,i2,i3⟩:=qTZ l (k+1) (v+x) (fun y hy=>h y (by simp [hy])) (by omega)
  rw [qAW,qB4,qDl,qAG (by omega),i1,i2,i3,List.sum_cons,Int.add_assoc]
  exact ⟨rfl,rfl,rfl⟩
theorem qVP {l:List Int} (h:∀ x ∈ l,-100000000 ≤ x∧x ≤ 100000000) (hl:l.length ≤ 1000):qA5 l=some l.sum∧qC0 l=some l.sum∧qF4 l=some l.sum:=by
 obtain ⟨i1,i2,i3⟩:=qTZ l 0 0 h (by omega)
 unfold qA5 qC0 qF4
 rw [i1,i2,i3,Int.zero_add]
 exact ⟨rfl,rfl,rfl⟩
theorem qPM:∀ {l:List Int} {B:Int},(∀ x ∈ l,-B ≤ x∧x ≤ B)→-(B * (l.length:Int)) ≤ l.sum∧l.sum ≤ B * (l.length:Int)
 | [],B,_=>by simp
 | x::l,B,h=>by
  have hx:=h x (by simp)
  have:=qPM (l:=l) (B:=B) fun y hy=>h y (by simp [hy])
  rw [List.sum_cons,List.length_cons,show ((l.length+1:Nat):Int)=(l.length:Int)+1 from by omega,Int.mul_add,Int.mul_one]
  omega
def MS (m:Marks):Prop:=(∀ g ∈ m.grades,qHk g)∧m.components.length=3∧∀ g ∈ m.components,qHk g
theorem qUr {m:Marks} (h:qNZ m):MS m:=by
 obtain ⟨h1,h2,r,h3,h4,h5,h6⟩:=h
 refine ⟨fun g hg=>qSY (h5 g hg) h4,h2,fun g hg=>?_⟩
 have:=h6 g hg
 have hl:=this.1
 exact ⟨by omega,fun x hx=>by have:=(this.2 x hx).1;omega⟩
theorem qTA {c:Code} (hc:qFV c) {l:List Item} (hl:qF6 l) (hk:qH6 c l):∀ (ys:List Item) (gs:List (List Int)) (pre:List Item),l=pre++ys→ys.length=gs.length→(∀ g ∈ gs,qHk g)→(scl c l pre.length ys gs).length=ys.length∧∀ x ∈ scl c l pre.length ys gs,-60000000 ≤ x∧x ≤ 60000000
 | [],[],pre,_,_,_=>by simp [scl]
 | y::ys,g::gs,pre,h1,h2,h3=>by
  have hlt:pre.length < l.length:=by rw [h1];simp
  have hy:y ∈ l:=by rw [h1];simp
  obtain ⟨_,_,b3⟩:=qN2 hc hl hk hlt
  have hb:=qTN hc hl hk pre.length hy (h3 g (by simp))
  obtain ⟨i1,i2⟩:=qTA hc hl hk ys gs (pre++[y]) (by rw [h1];simp) (by simpa using h2) (fun z hz=>h3 z (by simp [hz]))
  rw [show (pre++[y]).length=pre.length+1 from by simp] at i1 i2
  rw [scl]
  refine ⟨by simp [i1],fun x hx=>?_⟩
  rcases List.mem_cons.1 hx with rfl | hx
  ·omega
  ·exact i2 x hx
def qKV (c:Code) (l:List Item) (m:Marks):Int:=(scl c l 0 l m.grades).sum
theorem qRs {c:Code} (hc:qFV c) {l:List Item} (hl:qF6 l) (hk:qH6 c l) {m:Marks} (hm:MS m) (hlen:m.grades.length=l.length) (fuel:Nat) (hf:1048576 < fuel) :
  qEx fuel c l m=some (scl c l 0 l m.grades)∧qG8 fuel c l m=some (scl c l 0 l m.grades)∧qA5 (scl c l 0 l m.grades)=some (qKV c l m)∧qC0 (scl c l 0 l m.grades)=some (qKV c l m)∧qF4 (scl c l 0 l m.grades)=some (qKV c l m)∧(-1000000000 ≤ qKV c l m∧qKV c l m ≤ 1000000000):=by
 have h14:=hl.1
 obtain ⟨s1,s2⟩:=qPt hc hl hk m fuel hf l m.grades [] [] [] rfl rfl rfl hlen.symm hm.1 (by simp;omega)
 obtain ⟨o1,o2⟩:=qTA hc hl hk l m.grades [] rfl hlen.symm hm.1
 rw [List.length_nil] at s1 s2 o1 o2
 rw [List.nil_append] at s1 s2
 obtain ⟨q1,q2,q3⟩:=qVP (l:=scl c l 0 l m.grades) (fun x hx=>by have:=o2 x hx;omega) (by omega)
 have:=qPM (l:=scl c l 0 l m.grades) (B:=60000000) o2
 exact ⟨s1,s2,q1,q2,q3,by unfold qKV;omega⟩
def qEk (g:List Int):Int:=rnd (tS g) (nS g)
theorem qPR {g:List Int} (hg:qHk g):-30000 ≤ qEk g∧qEk g ≤ 30000:=by
 have hT:=qQn hg
 have hN:=qRd hg
 have:=qRY (a:=tS g) (b:=nS g) (A:=20000) (by omega) (by omega) (by omega)
 unfold qEk;omega
theorem qUo {g:List Int} (hg:qHk g) (fuel:Nat) (hf:1048576 < fuel):qDq fuel g=some (qEk g):=by
 obtain ⟨t1,t2⟩:=qKr hg fuel (by omega)
 have hT:=qQn hg
 have hN:=qRd hg
 unfold qDq
 rw [bnd t1,bnd (qJa (a:=tS g) (b:=nS g) (by omega) (by omega) (by omega)).1]
 rfl
theorem qU2 {g:List Int} (hg:qHk g) {m:Marks} {k:Int} (hk:qAb m.components k=some g) (fuel:Nat) (hf:1048576 < fuel):qGT fuel m k=some (qEk g):=by
 obtain ⟨t1,t2⟩:=qKr hg fuel (by omega)
 have hT:=qQn hg
 have hN:=qRd hg
 unfold qGT
 rw [bnd hk,bnd t2,bnd (qJa (a:=tS g) (b:=nS g) (by omega) (by omega) (by omega)).2]
 rfl
theorem qRu (fuel:Nat) (hf:1048576 < fuel):∀ (ys:List (List Int)) (k:Nat) (v:List Int),(∀ g ∈ ys,qHk g)→v.length+ys.length ≤ 1000→qAl fuel ys k v=some (v++ys.map qEk)
 | [],k,v,_,_=>by rw [qAl];simp
 | y::ys,k,v,h,hl=>by
  simp only [List.length_cons] at hl
  rw [qAl,bnd (qUo (h y (by simp)) fuel hf),qAQ (by simp;omega),qAw,oB9,qRu fuel hf ys (k+1) (v++[qEk y]) (fun g hg=>h g (by simp [hg])) (by simp;omega)]
  simp
theorem qEj (a b:Int):qBB a b=some (min a b):=by
 unfold qBB
 by_cases h:a < b
 ·rw [decide_eq_true h,cond_true,Int.min_eq_left (by omega)]
 ·rw [decide_eq_false h,cond_false,Int.min_eq_right (by omega)]
theorem qOD (a b:Int):qDI a b=some (max a b):=by
 unfold qDI
 by_cases h:a > b
 ·rw [decide_eq_true h,cond_true,Int.max_eq_left (by omega)]
 ·rw [decide_eq_false h,cond_false,Int.max_eq_right (by omega)]
theorem qPr (m:Marks) (most:Int) (fuel:Nat) (hf:1048576 < fuel):∀ (ys pre:List (List Int)) (v:List Int),m.components=pre++ys→(∀ g ∈ ys,qHk g)→v.length+ys.length ≤ 1000→qB1 m most fuel ys pre.length v=some (v++ys.map fun g=>min (qEk g) most)
 | [],pre,v,_,_,_=>by rw [qB1];simp
 | y::ys,pre,v,h1,h,hl=>by
  simp only [List.length_cons] at hl
  have ih:=qPr m most fuel hf ys (pre++[y]) (v++[min (qEk y) most]) (by rw [h1];simp) (fun g hg=>h g (by simp [hg])) (by simp;omega)
  rw [show (pre++[y]).length=pre.length+1 from by simp] at ih
  rw [qB1,bnd (qU2 (h y (by simp)) (qDD (pre:=pre) (y:=y) (ys:=ys) h1 rfl) fuel hf),bnd (qEj _ _),qAQ (by simp;omega),qAw,oB9,ih]
  simp
theorem qPh (A:Int) (hA:900 ≤ A∧A ≤ 1000) (f:List Int→Nat→Int→Option Int) (f0:∀ k v,f [] k v=some v) (f1:∀ y ys k v,f (y::ys) k v=f ys (k+1) (w64 (v+min y A))):∀ (ys:List Int) (k:Nat) (v:Int),(∀ x ∈ ys,-30000 ≤ x∧x ≤ 30000)→(-1000000000 ≤ v - 30000 * (ys.length:Int)∧v+30000 * (ys.length:Int) ≤ 1000000000)→f ys k v=some (v+(ys.map fun y=>min y A).sum)
 | [],k,v,_,_=>by rw [f0];simp
 | y::ys,k,v,h,hv=>by
  have hy:=h y (by simp)
  simp only [List.length_cons] at hv
  rw [f1,qAG (by omega),qPh A hA f f0 f1 ys (k+1) (v+min y A) (fun x hx=>h x (by simp [hx])) (by omega),List.map_cons,List.sum_cons,Int.add_assoc]
def qTb (falls:Int):Int:=if falls=0 then 1000 else if falls=1 then 950 else 900
def cpV (m:Marks) (falls:Int):Int:=(m.components.map fun g=>min (qEk g) (qTb falls)).sum
theorem qU9 {m:Marks} (hm:MS m) (falls:Int):-90000 ≤ cpV m falls∧cpV m falls ≤ 90000:=by
 have hA:900 ≤ qTb falls∧qTb falls ≤ 1000:=by unfold qTb;split;omega;split <;> omega
 have:=qPM (l:=m.components.map fun g=>min (qEk g) (qTb falls)) (B:=30000) (fun x hx=>by
  obtain ⟨g,hg,rfl⟩:=List.mem_map.1 hx
  have:=qPR (hm.2.2 g hg)
  omega)
 rw [List.length_map,hm.2.1] at this
 unfold cpV;omega
theorem qRf {m:Marks} (hm:MS m) {falls:Int} (h0:0 ≤ falls) (fuel:Nat) (hf:1048576 < fuel):qFO fuel m falls=some (cpV m falls)∧qHc fuel m falls=some (cpV m falls):=by
 have hi:qCc fuel m=some (m.components.map qEk):=by
  have:=qRu fuel hf m.components 0 [] hm.2.2 (by rw [hm.2.1];simp)
  exact this
 have hs:∀ most,qEX fuel m most=some (m.components.map fun g=>min (qEk g) most):=fun most=>by
  have:=qPr m most fuel hf m.components [] [] rfl hm.2.2 (by rw [hm.2.1];simp)
  exact this
 have hb:∀ x ∈ m.components.map qEk,-30000 ≤ x∧x ≤ 30000:=fun x hx=>by
  obtain ⟨g,hg,rfl⟩:=List.mem_map.1 hx
  exact qPR (hm.2.2 g hg)
 have hl:(m.components.map qEk).length=3:=by rw [List.length_map,hm.2.1]
 have hmm:∀ A:Int,((m.components.map qEk).map fun y=>min y A).sum=(m.components.map fun g=>min (qEk g) A).sum:=fun A=>by rw [List.map_map];rfl
 have hp:∀ A:Int,900 ≤ A∧A ≤ 1000→qC0 (m.components.map fun g=>min (qEk g) A)=some (m.components.map fun g=>min (qEk g) A).sum:=fun A hA=>by
  refine (qVP (fun x hx=>?_) (by rw [List.length_map,hm.2.1];omega)).2.1
  obtain ⟨g,hg,rfl⟩:=List.mem_map.1 hx
  have:=qPR (hm.2.2 g hg)
  omega
 unfold qFO qHc cpV qTb
 by_cases e0:falls=0
 ·subst e0
  rw [if_pos rfl,show ((0:Int) == 1)=false from rfl,show decide ((0:Int) > 1)=false from rfl,cond_false,cond_false,show ((0:Int) == 0)=true from rfl,cond_true,bnd hi,bnd (hs 1000),bnd (hp 1000 (by omega))]
  refine ⟨?_,rfl⟩
  rw [qPh 1000 (by omega) qBp (fun k v=>by rw [qBp]) (fun y ys k v=>by rw [qBp]) _ 0 0 hb (by rw [hl];omega),hmm,Int.zero_add]
 ·rw [if_neg e0,show (falls == 0)=false from by simp [e0],cond_false]
  by_cases e1:falls=1
  ·subst e1
   rw [if_pos rfl,show ((1:Int) == 1)=true from rfl,cond_true,cond_true,bnd hi,bnd (hs 950),bnd (hp 950 (by omega))]
   refine ⟨?_,rfl⟩
   rw [qPh 950 (by omega) qBl (fun k v=>by rw [qBl]) (fun y ys k v=>by rw [qBl]) _ 0 0 hb (by rw [hl];omega),hmm,Int.zero_add]
  ·rw [if_neg e1,show (falls == 1)=false from by simp [e1],cond_false,cond_false,decide_eq_true (by omega:falls > 1),cond_true,bnd hi,bnd (hs 900),bnd (hp 900 (by omega))]
   refine ⟨?_,rfl⟩
   rw [qPh 900 (by omega) qBm (fun k v=>by rw [qBm]) (fun y ys k v=>by rw [qBm]) _ 0 0 hb (by rw [hl];omega),hmm,Int.zero_add]
def qKL (m:Marks) (f falls:Int):Int:=rnd (cpV m falls * f) 100
theorem qUQ {a f A F:Int} (h:-A ≤ a∧a ≤ A) (hA:0 ≤ A) (hf:0 ≤ f∧f ≤ F):-(A * F) ≤ a * f∧a * f ≤ A * F:=by
 have h1:a * f ≤ A * f:=Int.mul_le_mul_of_nonneg_right h.2 hf.1
 have h2:-A * f ≤ a * f:=Int.mul_le_mul_of_nonneg_right h.1 hf.1
 have h3:A * f ≤ A * F:=Int.mul_le_mul_of_nonneg_left hf.2 hA
 rw [Int.neg_mul] at h2
 omega
theorem qSD {m:Marks} (hm:MS m) {f:Int} (h:0 ≤ f∧f ≤ 400) (falls:Int):(-36000000 ≤ cpV m falls * f∧cpV m falls * f ≤ 36000000)∧(-40000000 ≤ qKL m f falls∧qKL m f falls ≤ 40000000):=by
 have h1:=qUQ (qU9 hm falls) (by omega) h
 have h2:=qRY (a:=cpV m falls * f) (b:=100) (A:=36000000) (by omega) (by omega) (by omega)
 exact ⟨by omega,by unfold qKL;omega⟩
theorem qPD {m:Marks} (hm:MS m) {f:Int} (h:0 ≤ f∧f ≤ 400) {falls:Int} (h0:0 ≤ falls) (fuel:Nat) (hf:1048576 < fuel):qEW fuel m f falls=some (qKL m f falls)∧qEr fuel m f falls=some (qKL m f falls):=by
 obtain ⟨c1,c2⟩:=qRf hm h0 fuel hf
 have hb:=qSD hm h falls
 obtain ⟨r1,r2⟩:=qJa (a:=cpV m falls * f) (b:=100) (by omega) (by omega) (by omega)
 unfold qEW qEr
 rw [bnd c1,bnd c2,qAG (by omega),bnd r1,bnd r2]
 exact ⟨rfl,rfl⟩
def fG (k:Int):Int:=k+max (k - 2) 0+max (k - 4) 0
def qNB (c:Code) (s:Slips):Int:=c.fall * fG s.falls+(s.seconds+4) / 5 * 100+s.other
theorem qTy {fall falls:Int} (h1:0 ≤ fall∧fall ≤ 500) (h2:falls ≤ 9):∀ (n fuel:Nat) (k:Int),(falls - k).toNat=n→n < fuel→0 ≤ k→k ≤ falls→qC1 fall falls fuel (fall * fG k) k=some (fall * fG falls):=by
 intro n
 induction n with
 | zero =>
  intro fuel k hn hf h0 hk
  obtain ⟨f,rfl⟩:=nZ9 (by omega:fuel ≠ 0)
  obtain rfl:k=falls:=by omega
  rw [qC1,decide_eq_false (by omega),cond_false]
 | succ n ih =>
  intro fuel k hn hf h0 hk
  obtain ⟨f,rfl⟩:=nZ9 (by omega:fuel ≠ 0)
  rw [qC1,decide_eq_true (by omega:k < falls),cond_true,show qCw (2 != 0)=some () from rfl,oB9,qAG (n:=k+1) (by omega)]
  have e:k.tdiv 2=k / 2:=Int.tdiv_eq_ediv_of_nonneg h0
  have eG:fG (k+1)=fG k+min 3 (k / 2+1):=by unfold fG;omega
  rw [e,qAG (n:=k / 2) (by omega),qAG (n:=k / 2+1) (by omega),bnd (qEj _ _)]
  have hb1:=qKN (a:=fall) (b:=min 3 (k / 2+1)) (A:=500) (B:=3) h1 (by omega)
  have hb2:=qKN (a:=fall) (b:=fG k) (A:=500) (B:=30) h1 (by unfold fG;omega)
  rw [qAG (n:=fall * min 3 (k / 2+1)) (by omega),qAG (n:=fall * fG k+fall * min 3 (k / 2+1)) (by omega),← Int.mul_add,← eG]
  exact ih f (k+1) (by omega) (by omega) (by omega) (by omega)
theorem qSu {c:Code} (hc:qFV c) {s:Slips} (hs:qOr s) (fuel:Nat) (hf:1048576 < fuel):(∃ a b d,qEt c s=some [a,b,d]∧qA5 [a,b,d]=some (qNB c s))∧qHe fuel c s=some (qNB c s)∧(0 ≤ qNB c s∧qNB c s ≤ 100000):=by
 obtain ⟨h1,h2,h3⟩:=hs
 have hfall:=hc.2.2.2.2.2.1
 have hG:0 ≤ fG s.falls∧fG s.falls ≤ 30:=by unfold fG;omega
 have hm:=qKN (a:=c.fall) (b:=fG s.falls) (A:=500) (B:=30) hfall hG
 have e:(s.seconds+4).tdiv 5=(s.seconds+4) / 5:=Int.tdiv_eq_ediv_of_nonneg (by omega)
 have hl:=qTy hfall h1.2 (s.falls - 0).toNat fuel 0 rfl (by omega) (by omega) h1.1
 rw [show fG 0=0 from rfl,Int.mul_zero] at hl
 refine ⟨⟨c.fall * fG s.falls,(s.seconds+4) / 5 * 100,s.other,?_,?_⟩,?_,?_⟩
 ·unfold qEt qE3 qE6
  rw [qAG (n:=s.falls - 2) (by omega),qAG (n:=s.falls - 4) (by omega),qAG (n:=s.falls+max (s.falls - 2) 0) (by omega),qAG (n:=s.falls+max (s.falls - 2) 0+max (s.falls - 4) 0) (by omega)]
  rw [show c.fall * (s.falls+max (s.falls - 2) 0+max (s.falls - 4) 0)=c.fall * fG s.falls from rfl,qAG (n:=c.fall * fG s.falls) (by omega),oB9,show qCw (5 != 0)=some () from rfl,oB9,qAG (n:=s.seconds+4) (by omega),e,qAG (n:=(s.seconds+4) / 5) (by omega),qAG (n:=(s.seconds+4) / 5 * 100) (by omega),oB9]
 ·have:=(qVP (l:=[c.fall * fG s.falls,(s.seconds+4) / 5 * 100,s.other]) (by
   intro x hx
   simp only [List.mem_cons,List.not_mem_nil,or_false] at hx
   rcases hx with rfl | rfl | rfl <;> omega) (by simp)).1
  rw [this]
  simp only [List.sum_cons,List.sum_nil,Int.add_zero]
  unfold qNB
  rw [Int.add_assoc]
 ·unfold qHe qHp qIN
  rw [bnd hl,show qCw (5 != 0)=some () from rfl,oB9,qAG (n:=s.seconds+4) (by omega),e,qAG (n:=(s.seconds+4) / 5) (by omega),qAG (n:=(s.seconds+4) / 5 * 100) (by omega),oB9,qAG (n:=c.fall * fG s.falls+(s.seconds+4) / 5 * 100) (by omega),qAG (by omega)]
  rfl
 ·unfold qNB;omega
end
section
def qFB (c:Code) (p:Performance) (f:Int):Int:=max (qKV c p.items p.marks+qKL p.marks f p.slips.falls - qNB c p.slips) 0
def qPe (c:Code) (p:Performance):Prop:=qFV c∧qF6 p.items∧qH6 c p.items∧MS p.marks∧p.marks.grades.length=p.items.length∧qOr p.slips
theorem qN8 {c:Code} {p:Performance} (h:qPT c p):qPe c p:=⟨h.1,h.2.1,h.2.2.1,qUr h.2.2.2.1,h.2.2.2.2.1,h.2.2.2.2.2⟩
theorem qLu {c:Code} {p:Performance} (h:qPe c p) {f:Int} (hf0:0 ≤ f∧f ≤ 400) (fuel:Nat) (hf:1048576 < fuel) :
  qFC fuel c p f=some [qKV c p.items p.marks,qKL p.marks f p.slips.falls,qNB c p.slips,qFB c p f]∧qGD fuel c p f=some [qKV c p.items p.marks,qKL p.marks f p.slips.falls,qNB c p.slips,qFB c p f]∧(0 ≤ qFB c p f∧qFB c p f ≤ 2000000000):=by
 obtain ⟨hc,hl,hk,hm,hn,hs⟩:=h
 obtain ⟨t1,t2,t3,t4,_,tb⟩:=qRs hc hl hk hm hn fuel hf
 obtain ⟨k1,k2⟩:=qPD hm hf0 hs.1.1 fuel hf
 have kb:=(qSD hm hf0 p.slips.falls).2
 obtain ⟨⟨a,b,d,d1,d2⟩,d3,db⟩:=qSu hc hs fuel hf
 refine ⟨?_,?_,by unfold qFB;omega⟩
 ·unfold qFC qEc
  rw [bnd t1,t3,oB9,oB9,bnd k1,bnd d1,bnd d2,qAG (n:=qKV c p.items p.marks+qKL p.marks f p.slips.falls) (by omega),qAG (by omega)]
  rfl
 ·unfold qGD qFb
  rw [bnd t2,t4,oB9,oB9,bnd k2,bnd d3,qAG (n:=qKV c p.items p.marks+qKL p.marks f p.slips.falls) (by omega),qAG (by omega),bnd (qOD _ _),Int.max_comm]
  rfl
theorem qOH {c:Code} {p:Performance} (h:qPe c p) {f:Int} (hf0:0 ≤ f∧f ≤ 400) (fuel:Nat) (hf:1048576 < fuel):qCi fuel c p f=some (qFB c p f)∧qGQ fuel c p f=some (qFB c p f):=by
 obtain ⟨p1,p2,_⟩:=qLu h hf0 fuel hf
 unfold qCi qGQ
 rw [bnd p1,bnd p2]
 exact ⟨rfl,rfl⟩
def jud (m:Marks) (j:Int) (g k:Int):Marks:=Marks.mk (m.grades.map fun r=>r.set j.toNat g) (m.components.map fun r=>r.set j.toNat k)
theorem qRS:∀ (ys:List (List Int)) (k:Nat) (v:List (List Int)),(∀ g ∈ ys,qHk g)→v.length+ys.length ≤ 1000→qBn ys k v=some (v++ys)
 | [],k,v,_,_=>by rw [qBn];simp
 | y::ys,k,v,h,hl=>by
  have hy:=(h y (by simp)).1
  simp only [List.length_cons] at hl
  rw [qBn]
  unfold qHH
  rw [qAQ (n:=y.length) (by omega),qAw,oB9,oB9,qAQ (by simp;omega),qAw,oB9,qRS ys (k+1) (v++[y]) (fun g hg=>h g (by simp [hg])) (by simp;omega)]
  simp
theorem qT8 {m:Marks} (hm:MS m) (h:m.grades.length ≤ 14):qFH m=some m:=by
 unfold qFH qFM
 rw [qRS m.grades 0 [] hm.1 (by simp;omega),oB9,qRS m.components 0 [] hm.2.2 (by rw [hm.2.1];simp),oB9]
 rfl
theorem qLs {g:List Int} {j:Int} (h:qNg g j):∃ x,qAb g j=some x:=by
 obtain ⟨pre,x,post,_,_,hx,_⟩:=qJf h
 exact ⟨x,hx⟩
theorem ja2 (j mark:Int) (x1:Marks) (v16:List (List Int)):∀ (n fuel:Nat) (done rest:List (List Int)),rest.length=n→n < fuel→x1.components.length=done.length+n→done.length+n ≤ 1000→(∀ g ∈ rest,qNg g j)→qBy j mark x1 v16 fuel (done++rest) (done++rest) (done.length:Int)=some (Marks.mk v16 (done++rest.map fun r=>r.set j.toNat mark)):=by
 intro n
 induction n with
 | zero =>
  intro fuel done rest hn hf hl _ _
  obtain ⟨f,rfl⟩:=nZ9 (by omega:fuel ≠ 0)
  obtain rfl:rest=[]:=List.eq_nil_of_length_eq_zero hn
  rw [qBy,decide_eq_false (by omega),cond_false]
  rfl
 | succ n ih =>
  intro fuel done rest hn hf hl hb hr
  obtain ⟨f,rfl⟩:=nZ9 (by omega:fuel ≠ 0)
  cases rest with
  | nil=>simp at hn
  | cons y rest =>
   obtain ⟨x,hx⟩:=qLs (hr y (by simp))
   rw [qBy,decide_eq_true (by omega),cond_true,qOe,oB9,bnd hx,qQA,qAG (by omega)]
   have:=ih f (done++[y.set j.toNat mark]) rest (by simpa using hn) (by omega) (by simp;omega) (by simp;omega) (fun g hg=>hr g (by simp [hg]))
   rw [show ((done++[y.set j.toNat mark]).length:Int)=(done.length:Int)+1 from by simp,List.append_assoc] at this
   rw [show done++y.set j.toNat mark::rest=done++([y.set j.toNat mark]++rest) from rfl,this]
   simp
theorem ja1 (j grade mark:Int) (fuel0:Nat) (x1:Marks):∀ (n fuel:Nat) (done rest:List (List Int)),rest.length=n→n < fuel→x1.grades.length=done.length+n→done.length+n ≤ 1000→(∀ g ∈ rest,qNg g j)→qCY j grade mark fuel0 x1 fuel (done++rest) (done++rest) (done.length:Int)=qBy j mark x1 (done++rest.map fun r=>r.set j.toNat grade) fuel0 x1.components x1.components 0:=by
 intro n
 induction n with
 | zero =>
  intro fuel done rest hn hf hl _ _
  obtain ⟨f,rfl⟩:=nZ9 (by omega:fuel ≠ 0)
  obtain rfl:rest=[]:=List.eq_nil_of_length_eq_zero hn
  rw [qCY,decide_eq_false (by omega),cond_false]
  rfl
 | succ n ih =>
  intro fuel done rest hn hf hl hb hr
  obtain ⟨f,rfl⟩:=nZ9 (by omega:fuel ≠ 0)
  cases rest with
  | nil=>simp at hn
  | cons y rest =>
   obtain ⟨x,hx⟩:=qLs (hr y (by simp))
   rw [qCY,decide_eq_true (by omega),cond_true,qOe,oB9,bnd hx,qQA,qAG (by omega)]
   have:=ih f (done++[y.set j.toNat grade]) rest (by simpa using hn) (by omega) (by simp;omega) (by simp;omega) (fun g hg=>hr g (by simp [hg]))
   rw [show ((done++[y.set j.toNat grade]).length:Int)=(done.length:Int)+1 from by simp,List.append_assoc] at this
   rw [show done++y.set j.toNat grade::rest=done++([y.set j.toNat grade]++rest) from rfl,this]
   simp
theorem qTK {m:Marks} (hm:MS m) (h:m.grades.length ≤ 14) {j:Int} (h1:∀ g ∈ m.grades,qNg g j) (h2:∀ g ∈ m.components,qNg g j) (g k:Int) (fuel:Nat) (hf:1048576 < fuel):qEZ fuel m j g k=some (jud m j g k):=by
 unfold qEZ
 rw [bnd (qT8 hm h)]
 have e1:=ja1 j g k fuel m m.grades.length fuel [] m.grades rfl (by omega) (by simp) (by simp;omega) h1
 have h3:=hm.2.1
 have e2:=ja2 j k m (m.grades.map fun r=>r.set j.toNat g) m.components.length fuel [] m.components rfl (by omega) (by simp) (by simp;omega) h2
 rw [List.nil_append,List.nil_append] at e1 e2
 exact e1.trans e2
theorem qS5 {m:Marks} (hm:MS m) {j:Int} (h1:∀ g ∈ m.grades,qNg g j) (h2:∀ g ∈ m.components,qNg g j) {g k:Int} (hg:-1000 ≤ g∧g ≤ 1000) (hk:-1000 ≤ k∧k ≤ 1000):MS (jud m j g k):=by
 refine ⟨fun r hr=>?_,by unfold jud;rw [List.length_map];exact hm.2.1,fun r hr=>?_⟩
 ·obtain ⟨q,hq,rfl⟩:=List.mem_map.1 hr
  exact (qJT (h1 q hq) hg).1
 ·obtain ⟨q,hq,rfl⟩:=List.mem_map.1 hr
  exact (qJT (h2 q hq) hk).1
def ibs (c:Code) (l:List Item) (N:Int):Nat→List Item→Int
 | _,[]=>0
 | k,y::ys=>(if qH9 c l k=0 then 0 else cl (qFz c y) N)+ibs c l N (k+1) ys
theorem qPu {c:Code} (hc:qFV c) {l:List Item} (hl:qF6 l) (hk:qH6 c l) {j N:Int} (hN:0 < N):∀ (ys:List Item) (gs:List (List Int)) (k:Nat),ys.length=gs.length→(∀ y ∈ ys,y ∈ l)→(∀ g ∈ gs,qNg g j∧nS g=N∧∀ x ∈ g,-5 ≤ x∧x ≤ 5) →
  (scl c l k ys (gs.map fun r=>r.set j.toNat (-5))).sum ≤ (scl c l k ys gs).sum∧(scl c l k ys gs).sum ≤ (scl c l k ys (gs.map fun r=>r.set j.toNat 5)).sum∧(scl c l k ys (gs.map fun r=>r.set j.toNat 5)).sum ≤ (scl c l k ys (gs.map fun r=>r.set j.toNat (-5))).sum+(ibs c l N k ys)
 | [],[],k,_,_,_=>by simp [scl,ibs]
 | y::ys,g::gs,k,h1,h2,h3=>by
  obtain ⟨hh,hn,hx5⟩:=h3 g (by simp)
  obtain ⟨x,hx⟩:=qLs hh
  have hxm:x ∈ g:=by
   obtain ⟨pre,x',post,e,_,hx',_⟩:=qJf hh
   rw [hx] at hx';cases hx'
   rw [e];simp
  have h5:=hx5 x hxm
  have hself:=qQG hh hx
  obtain ⟨_,_,u3⟩:=qKj hc (hl.2 y (h2 y (by simp))) (hk y (h2 y (by simp))) 99999999 (by omega)
  obtain ⟨i1,i2,i3⟩:=qPu hc hl hk hN ys gs (k+1) (by simpa using h1) (fun z hz=>h2 z (by simp [hz])) (fun z hz=>h3 z (by simp [hz]))
  have m1:=(qMQ (w:=qFz c y) hh (u:=-5) (v:=x) (by omega) (by omega) u3.1 (by omega)).1
  have m2:=(qMQ (w:=qFz c y) hh (u:=x) (v:=5) (by omega) (by omega) u3.1 (by omega)).1
  have m3:=(qMQ (w:=qFz c y) hh (u:=-5) (v:=5) (by omega) (by omega) u3.1 (by omega)).2
  rw [hself] at m1 m2
  have n1:=(qJT hh (v:=-5) (by omega)).2
  have n2:=(qJT hh (v:=5) (by omega)).2
  simp only [List.map_cons,scl,List.sum_cons,ibs]
  unfold qSM
  rw [n1,n2]
  rw [hn] at m1 m2 m3 ⊢
  split <;> omega
theorem qKk {j N:Int} (hN:0 < N) (A:Int):∀ (gs:List (List Int)),(∀ g ∈ gs,qNg g j∧nS g=N∧∀ x ∈ g,0 ≤ x∧x ≤ 1000) →
  ((gs.map fun r=>r.set j.toNat 0).map fun g=>min (qEk g) A).sum ≤ (gs.map fun g=>min (qEk g) A).sum∧(gs.map fun g=>min (qEk g) A).sum ≤ ((gs.map fun r=>r.set j.toNat 1000).map fun g=>min (qEk g) A).sum∧((gs.map fun r=>r.set j.toNat 1000).map fun g=>min (qEk g) A).sum ≤ ((gs.map fun r=>r.set j.toNat 0).map fun g=>min (qEk g) A).sum+(gs.length:Int) * cl 1000 N
 | [],_=>by simp
 | g::gs,h=>by
  obtain ⟨hh,hn,hx5⟩:=h g (by simp)
  obtain ⟨x,hx⟩:=qLs hh
  have hxm:x ∈ g:=by
   obtain ⟨pre,x',post,e,_,hx',_⟩:=qJf hh
   rw [hx] at hx';cases hx'
   rw [e];simp
  have h5:=hx5 x hxm
  have hself:=qQG hh hx
  obtain ⟨i1,i2,i3⟩:=qKk hN A gs (fun z hz=>h z (by simp [hz]))
  have m1:=(qMJ hh (u:=0) (v:=x) (by omega) (by omega) (by omega)).1
  have m2:=(qMJ hh (u:=x) (v:=1000) (by omega) (by omega) (by omega)).1
  have m3:=(qMJ hh (u:=0) (v:=1000) (by omega) (by omega) (by omega)).2
  rw [hself] at m1 m2
  have n1:=(qJT hh (v:=0) (by omega)).2
  have n2:=(qJT hh (v:=1000) (by omega)).2
  simp only [List.map_cons,List.sum_cons,List.length_cons]
  rw [show ((gs.length+1:Nat):Int)=(gs.length:Int)+1 from by omega,Int.add_mul,Int.one_mul]
  have e1:qEk (g.set j.toNat 0) ≤ qEk g:=by unfold qEk;rw [n1];exact m1
  have e2:qEk g ≤ qEk (g.set j.toNat 1000):=by unfold qEk;rw [n2];exact m2
  have e3:qEk (g.set j.toNat 1000) ≤ qEk (g.set j.toNat 0)+cl 1000 N:=by unfold qEk;rw [n1,n2,← hn];exact m3
  omega
end
section
theorem qT4 {a b:Int} (hb:0 < b) (hb2:b ≤ 1000000000) (ha:0 ≤ a∧a ≤ 100000000000):qDi a b 1=some (cl a b)∧(0 ≤ cl a b∧cl a b ≤ a):=by
 have hbd:0 ≤ cl a b∧cl a b ≤ a:=by
  unfold cl
  have h1:-a ≤ (-a) / b:=by
   have:=Int.le_ediv_of_mul_le (a:=-a) (b:=-a) hb (by
    have:=Int.mul_le_mul_of_nonneg_left (show (1:Int) ≤ b by omega) ha.1
    rw [Int.neg_mul];omega)
   exact this
  have h2:(-a) / b ≤ 0:=by
   have:=Int.ediv_le_ediv hb (show -a ≤ 0 by omega)
   rw [Int.zero_ediv] at this;exact this
  omega
 refine ⟨?_,hbd⟩
 unfold qDi
 rw [show ((1:Int) == -1)=false from rfl,cond_false,show ((1:Int) == 1)=true from rfl,cond_true,qAG (by omega),bnd (qQK (a:=-a) (b:=b) hb (by omega)).1,qAG (by unfold cl at hbd;omega)]
 rfl
theorem qP6 {p:Performance} {r:List Int} (h:qAb p.marks.components 0=some r) (hr:3 ≤ r.length∧r.length ≤ 9):qFG p=some (nS r):=by
 unfold qFG qBL nS
 rw [bnd h,oB9]
 by_cases h5:r.length < 5
 ·rw [decide_eq_false (by omega),cond_false,if_pos h5]
 ·rw [decide_eq_true (by omega),cond_true,if_neg h5,qAG (by omega)]
theorem qVQ {c:Code} {p:Performance} (h:qPe c p) {r:List Int} (hr:qAb p.marks.components 0=some r) (hrl:3 ≤ r.length∧r.length ≤ 9) (fuel:Nat) (hf:1048576 < fuel) {k:Nat} {y:Item} (hy:qAb p.items (k:Int)=some y) :
  qFJ fuel c p (k:Int)=some (if qH9 c p.items k=0 then 0 else cl (qFz c y) (nS r))∧0 ≤ (if qH9 c p.items k=0 then 0 else cl (qFz c y) (nS r))∧(if qH9 c p.items k=0 then 0 else cl (qFz c y) (nS r)) ≤ 2000:=by
 obtain ⟨hc,hl,hk,hm,hn,hs⟩:=h
 have hy2:p.items[k]?=some y:=by rw [qDa rfl] at hy;exact hy
 have hmem:y ∈ p.items:=List.mem_of_getElem? hy2
 have hlt:=(List.getElem?_eq_some_iff.1 hy2).1
 obtain ⟨b1,_,_⟩:=qN2 hc hl hk hlt
 obtain ⟨u1,_,u3⟩:=qKj hc (hl.2 y hmem) (hk y hmem) fuel hf
 have hN:1 ≤ nS r∧nS r ≤ 9:=by unfold nS;split <;> omega
 obtain ⟨c1,c2⟩:=qT4 (a:=qFz c y) (b:=nS r) (by omega) (by omega) (by omega)
 unfold qFJ
 rw [bnd b1]
 by_cases h0:qH9 c p.items k=0
 ·rw [if_pos h0,h0]
  exact ⟨rfl,by omega,by omega⟩
 ·rw [if_neg h0,show (qH9 c p.items k == 0)=false from by simp [h0],cond_false,bnd hy,bnd u1,bnd (qP6 hr hrl),bnd c1]
  exact ⟨rfl,by omega,by omega⟩
def qSB (c:Code) (p:Performance) (f N:Int):Int:=ibs c p.items N 0 p.items+cl (f * 3 * cl 1000 N) 100
theorem qRy {c:Code} {p:Performance} (h:qPe c p) {r:List Int} (hr:qAb p.marks.components 0=some r) (hrl:3 ≤ r.length∧r.length ≤ 9) {f:Int} (hf0:0 ≤ f∧f ≤ 400) (fuel:Nat) (hf:1048576 < fuel):∀ (ys pre:List Item) (v:Int),p.items=pre++ys→0 ≤ v→v+2000 * (ys.length:Int) ≤ 1000000 →
  qA8 c p f fuel ys pre.length v=some (v+ibs c p.items (nS r) pre.length ys+cl (f * 3 * cl 1000 (nS r)) 100,true)∧0 ≤ ibs c p.items (nS r) pre.length ys∧ibs c p.items (nS r) pre.length ys ≤ 2000 * (ys.length:Int)
 | [],pre,v,_,hv,hb=>by
  have hN:1 ≤ nS r∧nS r ≤ 9:=by unfold nS;split <;> omega
  obtain ⟨c1,c2⟩:=qT4 (a:=1000) (b:=nS r) (by omega) (by omega) (by omega)
  have hm:=qKN (a:=f * 3) (b:=cl 1000 (nS r)) (A:=1200) (B:=1000) (by omega) (by omega)
  obtain ⟨d1,d2⟩:=qT4 (a:=f * 3 * cl 1000 (nS r)) (b:=100) (by omega) (by omega) (by omega)
  simp only [List.length_nil] at hb
  rw [qA8,bnd (qP6 hr hrl),bnd c1,qAG (n:=f * 3) (by omega),qAG (n:=f * 3 * cl 1000 (nS r)) (by omega),bnd d1,qAG (by omega)]
  simp [ibs]
 | y::ys,pre,v,h1,hv,hb=>by
  obtain ⟨i1,i2,i3⟩:=qVQ h hr hrl fuel hf (k:=pre.length) (y:=y) (qDD (pre:=pre) (y:=y) (ys:=ys) h1 rfl)
  simp only [List.length_cons] at hb ⊢
  obtain ⟨j1,j2,j3⟩:=qRy h hr hrl hf0 fuel hf ys (pre++[y]) (v+(if qH9 c p.items pre.length=0 then 0 else cl (qFz c y) (nS r))) (by rw [h1];simp) (by omega) (by omega)
  rw [show (pre++[y]).length=pre.length+1 from by simp] at j1 j2 j3
  rw [qA8,bnd i1,qAG (by omega),j1,ibs]
  exact ⟨by rw [Int.add_assoc v],by omega,by omega⟩
theorem qNf {m:Marks} (h:qNZ m):∃ r,qAb m.components 0=some r∧(3 ≤ r.length∧r.length ≤ 9)∧∀ j:Int,0 ≤ j→j < (r.length:Int)→(∀ g ∈ m.grades,qNg g j∧nS g=nS r∧∀ x ∈ g,-5 ≤ x∧x ≤ 5)∧∀ g ∈ m.components,qNg g j∧nS g=nS r∧∀ x ∈ g,0 ≤ x∧x ≤ 1000:=by
 have hms:=qUr h
 obtain ⟨h1,h2,r,h3,h4,h5,h6⟩:=h
 refine ⟨r,h3,h4,fun j j0 j1=>⟨fun g hg=>?_,fun g hg=>?_⟩⟩
 ·have:=h5 g hg
  have e:=this.1
  exact ⟨⟨hms.1 g hg,j0,by omega⟩,by unfold nS;rw [e],this.2⟩
 ·have:=h6 g hg
  have e:=this.1
  exact ⟨⟨hms.2.2 g hg,j0,by omega⟩,by unfold nS;rw [e],fun x hx=>(this.2 x hx).1⟩
theorem qSj {c:Code} {p:Performance} (h:qPT c p) {r:List Int} (hr:qAb p.marks.components 0=some r) {f:Int} (hf0:0 ≤ f∧f ≤ 400) {j:Int} (j0:0 ≤ j) (j1:j < (r.length:Int)) (fuel:Nat) (hf:1048576 < fuel) :
  ∃ lo hi,qED fuel c p f j=some (lo,hi)∧0 ≤ lo∧lo ≤ qFB c p f∧qFB c p f ≤ hi∧hi ≤ 2000000000∧hi - lo ≤ qSB c p f (nS r):=by
 have hM:=qN8 h
 obtain ⟨r',hr',hrl,hj⟩:=qNf h.2.2.2.1
 obtain rfl:r'=r:=by rw [hr] at hr';exact (Option.some.inj hr').symm
 obtain ⟨hg,hcm⟩:=hj j j0 j1
 obtain ⟨hc,hl,hk,hm,hn,hs⟩:=hM
 have h14:=h.2.2.2.1.1
 have g1:∀ g ∈ p.marks.grades,qNg g j:=fun g x=>(hg g x).1
 have c1:∀ g ∈ p.marks.components,qNg g j:=fun g x=>(hcm g x).1
 have e1:=qTK hm h14 g1 c1 (-5) 0 fuel hf
 have e2:=qTK hm h14 g1 c1 5 1000 fuel hf
 have pl:qPe c (Performance.mk p.items (jud p.marks j (-5) 0) p.slips):=⟨hc,hl,hk,qS5 hm g1 c1 (by omega) (by omega),by show ((p.marks.grades.map fun r=>r.set j.toNat (-5)).length)=_;rw [List.length_map];exact hn,hs⟩
 have ph:qPe c (Performance.mk p.items (jud p.marks j 5 1000) p.slips):=⟨hc,hl,hk,qS5 hm g1 c1 (by omega) (by omega),by show ((p.marks.grades.map fun r=>r.set j.toNat 5).length)=_;rw [List.length_map];exact hn,hs⟩
 have hN:0 < nS r':=by unfold nS;split <;> omega
 obtain ⟨t1,t2,t3⟩:=qPu hc hl hk hN p.items p.marks.grades 0 hn.symm (fun y hy=>hy) hg
 obtain ⟨k1,k2,k3⟩:=qKk hN (qTb p.slips.falls) p.marks.components hcm
 rw [hm.2.1] at k3
 have f1:=(qMU (a:=cpV (jud p.marks j (-5) 0) p.slips.falls) (a':=cpV p.marks p.slips.falls) (d:=((3:Nat):Int) * cl 1000 (nS r')) (f:=f) k1 (by unfold cpV jud;dsimp only;omega) hf0.1).1
 have f2:=(qMU (a:=cpV p.marks p.slips.falls) (a':=cpV (jud p.marks j 5 1000) p.slips.falls) (d:=((3:Nat):Int) * cl 1000 (nS r')) (f:=f) k2 (by unfold cpV jud;dsimp only;omega) hf0.1).1
 have f3:=(qMU (a:=cpV (jud p.marks j (-5) 0) p.slips.falls) (a':=cpV (jud p.marks j 5 1000) p.slips.falls) (d:=((3:Nat):Int) * cl 1000 (nS r')) (f:=f) (Int.le_trans k1 k2) k3 hf0.1).2
 rw [show f * (((3:Nat):Int) * cl 1000 (nS r'))=f * 3 * cl 1000 (nS r') from (Int.mul_assoc f 3 _).symm] at f3
 have bh:=(qLu ph hf0 fuel hf).2.2
 have bl:=(qLu pl hf0 fuel hf).2.2
 refine ⟨_,_,?_,bl.1,?_,?_,bh.2,?_⟩
 ·unfold qED
  rw [bnd e1,bnd e2,bnd (qOH pl hf0 fuel hf).1,bnd (qOH ph hf0 fuel hf).1]
 ·unfold qFB qKV qKL
  dsimp only [jud] at f1 ⊢
  omega
 ·unfold qFB qKV qKL
  dsimp only [jud] at f2 ⊢
  omega
 ·unfold qFB qKV qKL qSB
  dsimp only [jud] at f1 f2 f3 ⊢
  omega
theorem factor_ok:qG2 100=some true∧qHD 100=some true:=⟨rfl,rfl⟩
theorem qMP (c:Code) (p:Performance) (hc:qPJ c) (hp:qQa p.items) (fuel:Nat) (hf:1048576 < fuel) :
  (qPT c p∧qAi fuel c p=some true∧qDM fuel c p=some true∧qCU fuel c p=some (true,true)∧qCW fuel c p=some (true,true)) ∨ (∃ b,qCU fuel c p=some (false,b)∧qCW fuel c p=some (false,b)):=by
 unfold qCU qCW
 obtain ⟨a,a1,a2,a3⟩:=qMH c hc fuel hf
 obtain ⟨b,b1,b2,b3⟩:=qR9 c p hc hp fuel hf
 rw [bnd a1,bnd a2]
 cases a
 ·exact .inr ⟨false,rfl,rfl⟩
 ·simp only [Bool.not_true,cond_false]
  rw [bnd b1,bnd b2]
  cases b
  ·exact .inr ⟨true,rfl,rfl⟩
  ·exact .inl ⟨b3 rfl,b1,b2,rfl,rfl⟩
theorem qOp {fuel:Nat} {c:Code} {p:Performance} (h:qAi fuel c p=some true):qEK fuel c p.items p.marks=some true:=by
 unfold qAi at h
 obtain ⟨x1,h1,h⟩:=zB h
 obtain ⟨x3,_,h⟩:=zB h
 rw [h1]
 cases x1
 ·exact absurd (Option.some.inj h) (by simp)
 ·rfl
theorem qOz {c:Code} {p:Performance} (h:qPT c p) (fuel:Nat) (hf:1048576 < fuel) (h1:qAi fuel c p=some true) (h2:qDM fuel c p=some true) :
  ∃ (L:List Int) (t k d B:Int) (J:Nat),qEI fuel c p 100=some (qFB c p 100,true)∧qEC fuel c p 100=some (qFB c p 100,true)∧qEo fuel c p.items p.marks=some (L,true)∧qF4 L=some t∧qGP fuel c p 100=some ([t,k,d,qFB c p 100],true) ∧
   qEJ fuel c p 100=some (B,true)∧qFm p.marks=some ((J:Int),true)∧J ≤ 9∧(0 ≤ qFB c p 100∧qFB c p 100 ≤ 2000000000) ∧
   ∀ j:Int,0 ≤ j→j < (J:Int)→∃ lo hi,qDY fuel c p 100 j=some (lo,hi,true)∧0 ≤ lo∧lo ≤ qFB c p 100∧qFB c p 100 ≤ hi∧hi ≤ 2000000000∧hi - lo ≤ B:=by
 have hM:=qN8 h
 obtain ⟨r,hr,hrl,hj⟩:=qNf h.2.2.2.1
 obtain ⟨hc,hl,hk,hm,hn,hs⟩:=hM
 have hM:=qN8 h
 obtain ⟨p1,p2,p3⟩:=qLu hM (f:=100) (by omega) fuel hf
 obtain ⟨s1,s2⟩:=qOH hM (f:=100) (by omega) fuel hf
 obtain ⟨t1,_,_,_,t5,_⟩:=qRs hc hl hk hm hn fuel hf
 have hcan:qDZ fuel c p 100=some true:=by
  unfold qDZ
  rw [bnd h1,qCX,bnd factor_ok.1];rfl
 have hask:qGI fuel c p 100=some true:=by
  unfold qGI
  rw [bnd h2,qCX,bnd factor_ok.2];rfl
 have h14:=hl.1
 have hb:=(qRy hM hr hrl (f:=100) (by omega) fuel hf p.items [] 0 rfl (by omega) (by omega)).1
 rw [Int.zero_add] at hb
 have hjud:qBL p.marks=some (r.length:Int):=by
  unfold qBL;rw [bnd hr]
 refine ⟨_,_,qKL p.marks 100 p.slips.falls,qNB c p.slips,qSB c p 100 (nS r),r.length,?_,?_,?_,t5,?_,?_,?_,hrl.2,p3,?_⟩
 ·unfold qEI
  rw [bnd hcan,Bool.not_true,cond_false,bnd s1]
 ·unfold qEC
  rw [bnd hask,Bool.not_true,cond_false,bnd s2]
 ·unfold qEo
  rw [bnd (qOp h1),Bool.not_true,cond_false,bnd t1]
 ·unfold qGP
  rw [bnd hcan,Bool.not_true,cond_false,bnd p1]
 ·unfold qEJ
  rw [bnd hcan,Bool.not_true,cond_false]
  exact hb
 ·unfold qFm qEg
  obtain ⟨b,_,b2,b3⟩:=qK8 p.marks
  obtain rfl:b=true:=b3.2 h.2.2.2.1
  rw [bnd b2,Bool.not_true,cond_false,bnd hr,oB9]
 ·intro j j0 j1
  obtain ⟨lo,hi,q1,q2,q3,q4,q5,q6⟩:=qSj h hr (f:=100) (by omega) j0 j1 fuel hf
  refine ⟨lo,hi,?_,q2,q3,q4,q5,q6⟩
  unfold qDY qHG qAM
  rw [bnd hcan,qCX,bnd hjud,qCX,qAG (by omega),decide_eq_true (by omega:j ≥ 0),decide_eq_true (by omega:j ≤ (r.length:Int) - 1),oB9]
  simp only [Bool.and_self,oB9,Bool.not_true,cond_false]
  rw [bnd q1]
end
section
theorem qQv {l:List Int} {y:Int} (h:l.Pairwise (· ≠ ·)) (hy:y ∉ l):(l++[y]).Pairwise (· ≠ ·):=by
 rw [List.pairwise_append]
 exact ⟨h,List.pairwise_singleton _ _,fun a ha b hb e=>by obtain rfl:=List.mem_singleton.1 hb;exact hy (e ▸ ha)⟩
end
section
def qJp (a:Int × Int) (y:Int):Int × Int:=if y ≥ 0 then (w64 (a.1+y),w64 (a.2+1)) else a
def qLc (r:Result):Int × Int:=r.scores.foldl qJp (0,0)
theorem qRb:∀ (l:List Int) (k:Nat) (a b:Int),qBx l k a b=some (l.foldl qJp (a,b)):=by
 intro l
 induction l with
 | nil=>intro k a b;rw [qBx];rfl
 | cons y l ih =>
  intro k a b
  rw [qBx,List.foldl_cons]
  by_cases h:y ≥ 0
  ·rw [decide_eq_true h,cond_true,ih,show qJp (a,b) y=(w64 (a+y),w64 (b+1)) from if_pos h]
  ·rw [decide_eq_false h,cond_false,ih,show qJp (a,b) y=(a,b) from if_neg h]
theorem qNP (r:Result):qGK r=some (qLc r):=qRb r.scores 0 0 0
theorem qRw:∀ (l:List Int) (k:Nat) (a b:Int),qBv l k a b=some (l.foldl qJp (a,b)):=by
 intro l
 induction l with
 | nil=>intro k a b;rw [qBv];rfl
 | cons y l ih =>
  intro k a b
  rw [qBv,List.foldl_cons]
  by_cases h:y ≥ 0
  ·rw [decide_eq_true h,cond_true,ih,show qJp (a,b) y=(w64 (a+y),w64 (b+1)) from if_pos h]
  ·rw [decide_eq_false h,cond_false,ih,show qJp (a,b) y=(a,b) from if_neg h]
theorem qNh (r:Result):qGR r=some (qLc r):=qRw r.scores 0 0 0
def qQV (a b:Int):Prop:=a < 0→b < 0
def qOR (r:Result):Prop:=(1 ≤ r.skater∧r.skater ≤ 999)∧(1 ≤ r.scores.length∧r.scores.length ≤ 3)∧(∀ n ∈ r.scores,-1 ≤ n∧n ≤ 100000)∧r.scores.Pairwise qQV
theorem qM0 (r:Result):∀ (ys pre:List Int) (v:Bool),r.scores=pre++ys→(∀ n ∈ pre,-1 ≤ n∧n ≤ 100000)→pre.Pairwise qQV→(v=true↔∃ l,pre.getLast?=some l∧l < 0)→Ret (qB5 r ys pre.length v) (qOR r):=by
 intro ys
 induction ys with
 | nil =>
  intro pre v h1 h2 h3 h4
  rw [List.append_nil] at h1
  rw [qB5]
  refine (qDp r.skater 1 999).bindR (fun h=>?_) (fun h=>.f fun k=>h k.1)
  simp only [qCX,Bool.true_and]
  refine (qDp (r.scores.length:Int) 1 3).bindR (fun g=>.t ⟨h,by omega,by rw [h1];exact h2,by rw [h1];exact h3⟩) (fun g=>.f fun k=>g ?_)
  have:=k.2.1;omega
 | cons y ys ih =>
  intro pre v h1 h2 h3 h4
  have hy:y ∈ r.scores:=by rw [h1];simp
  rw [qB5]
  refine (qDp y (-1) 100000).bindR (fun h=>?_) (fun h=>.f fun k=>h (k.2.2.1 y hy))
  simp only [Bool.not_true,Bool.false_or]
  refine .condR (fun g=>.f fun k=>?_) (fun g=>?_)
  ·simp only [Bool.and_eq_true,decide_eq_true_eq] at g
   obtain ⟨l,l1,l2⟩:=h4.1 g.1
   have:=k.2.2.2
   rw [h1,List.pairwise_append] at this
   have:=this.2.2 l (List.mem_of_getLast? l1) y (by simp) l2
   omega
  ·simp only [Bool.and_eq_false_iff,decide_eq_false_iff_not] at g
   have:=ih (pre++[y]) (decide (y < 0)) (by rw [h1];simp) (by
    intro n hn;rcases List.mem_append.1 hn with hn | hn
    ·exact h2 n hn
    ·obtain rfl:=List.mem_singleton.1 hn;exact h) (qPY (R:=qQV) (fun a b c p q k=>q (p k)) h3 fun l hl hn=>by
     rcases g with g | g
     ·exact absurd (h4.2 ⟨l,hl,hn⟩) (by simp [g])
     ·omega) (by simp)
   simpa using this
theorem qOd (r:Result):Ret (qG5 r) (qOR r):=qM0 r r.scores [] false rfl (by simp) List.Pairwise.nil (by simp)
theorem qM6 (r:Result) (hl:r.scores.length ≤ 1048576):∀ (ys pre:List Int),r.scores=pre++ys→(∀ n ∈ pre,-1 ≤ n∧n ≤ 100000)→pre.Pairwise qQV→Ret (qBh r ys pre.length) (qOR r):=by
 intro ys
 induction ys with
 | nil =>
  intro pre h1 h2 h3
  rw [List.append_nil] at h1
  rw [qBh]
  refine (qLN r.skater).bindR (fun h=>?_) (fun h=>.f fun k=>h k.1)
  simp only [qCX,Bool.true_and]
  refine (qBW (r.scores.length:Int) 1 3).bindR (fun g=>.t ⟨h,by omega,by rw [h1];exact h2,by rw [h1];exact h3⟩) (fun g=>.f fun k=>g ?_)
  have:=k.2.1;omega
 | cons y ys ih =>
  intro pre h1 h2 h3
  have hy:y ∈ r.scores:=by rw [h1];simp
  rw [qBh]
  refine (qBW y (-1) 100000).bindR (fun h=>?_) (fun h=>.f fun k=>h (k.2.2.1 y hy))
  simp only [Bool.not_true,Bool.not_false,Bool.true_and,Bool.false_or]
  have fin:(∀ l,pre.getLast?=some l→qQV l y)→Ret (qBh r ys (pre.length+1)) (qOR r):=by
   intro hlast
   have:=ih (pre++[y]) (by rw [h1];simp) (by
    intro n hn;rcases List.mem_append.1 hn with hn | hn
    ·exact h2 n hn
    ·obtain rfl:=List.mem_singleton.1 hn;exact h) (qPY (R:=qQV) (fun a b c p q k=>q (p k)) h3 hlast)
   simpa using this
  rcases List.eq_nil_or_concat pre with rfl | ⟨q,z,rfl⟩
  ·simp only [List.length_nil,qTS,qDU,oB9,Bool.false_and,cond_false]
   exact fin (by simp)
  ·simp only [List.concat_eq_append] at *
   have hkl:(q++[z]).length=q.length+1:=by simp
   have hq:q.length ≤ 1048576:=by rw [h1] at hl;simp at hl;omega
   rw [hkl] at fin ⊢
   simp only [qTd,qCX,Bool.true_and]
   rw [qLz (by omega),bnd (qDD (pre:=q) (y:=z) (ys:=y::ys) (by rw [h1];simp) rfl)]
   refine .condR (fun g=>.f fun k=>?_) (fun g=>fin ?_)
   ·simp only [Bool.and_eq_true,decide_eq_true_eq] at g
    have:=k.2.2.2
    rw [h1] at this
    have:=(List.pairwise_append.1 this).2.2 z (by simp) y (by simp) g.1
    omega
   ·simp only [Bool.and_eq_false_iff,decide_eq_false_iff_not] at g
    intro l hl' hn
    simp at hl';subst hl'
    omega
theorem qOV (r:Result) (hl:r.scores.length ≤ 1048576):Ret (qHC r) (qOR r):=qM6 r hl r.scores [] rfl (by simp) List.Pairwise.nil
def qPW (l:List Result):Prop:=(∀ r ∈ l,qOR r)∧(l.map fun r=>r.skater).Pairwise (· ≠ ·)∧(∀ r ∈ l,r.scores.length=(l.headD default).scores.length)∧l.length ≤ 40
theorem qOm (l:List Result) (hl:l.length ≤ 1048576):∀ (ys pre:List Result),l=pre++ys→(∀ r ∈ pre,qOR r)→(pre.map fun r=>r.skater).Pairwise (· ≠ ·)→(∀ r ∈ pre,r.scores.length=(l.headD default).scores.length) →
  Ret (qCj l ys pre.length (pre.map fun r=>r.skater)) (qPW l):=by
 intro ys
 induction ys with
 | nil =>
  intro pre h1 h2 h3 h4
  rw [List.append_nil] at h1
  subst h1
  rw [qCj]
  refine .some ?_
  unfold qPW
  rw [decide_eq_true_eq]
  exact ⟨fun h=>⟨h2,h3,h4,by omega⟩,fun h=>by have:=h.2.2.2;omega⟩
 | cons y ys ih =>
  intro pre h1 h2 h3 h4
  have hy:y ∈ l:=by rw [h1];simp
  have hpre:pre.length ≤ 1048575:=by rw [h1] at hl;simp at hl;omega
  rw [qCj]
  refine (qOd y).bindR (fun h=>?_) (fun h=>.f fun k=>h (k.1 y hy))
  simp only [Bool.not_true,Bool.not_false,qCX,Bool.false_or]
  have hh:=qSF (pre.map fun r:Result=>r.skater) y.skater
  refine hh.bindR (fun hin=>.f fun k=>?_) (fun hin=>?_)
  ·have:=k.2.1
   rw [h1,List.map_append,List.pairwise_append] at this
   exact this.2.2 y.skater hin y.skater (by simp) rfl
  ·simp only [Bool.not_false,qCX,Bool.false_or]
   obtain ⟨z,zs,hz⟩:∃ z zs,l=z::zs:=by cases l with | nil=>simp at hy | cons z zs=>exact ⟨z,zs,rfl⟩
   rw [bnd (show qAb l 0=some (l.headD default) from by rw [hz];rfl)]
   refine .condR (fun g=>.f fun k=>?_) (fun g=>?_)
   ·have:=k.2.2.1 y hy
    rw [this] at g
    simp at g
   ·have g':y.scores.length=(l.headD default).scores.length:=by
     simp only [bne_eq_false_iff_eq] at g;omega
    rw [qAQ (by simp;omega)]
    simp only [qAw,oB9]
    have:=ih (pre++[y]) (by rw [h1];simp) (by
     intro n hn;rcases List.mem_append.1 hn with hn | hn
     ·exact h2 n hn
     ·obtain rfl:=List.mem_singleton.1 hn;exact h) (by rw [List.map_append];exact qQv h3 hin) (by
     intro n hn;rcases List.mem_append.1 hn with hn | hn
     ·exact h4 n hn
     ·obtain rfl:=List.mem_singleton.1 hn;exact g')
    simpa using this
theorem qQf (l:List Result) (hl:l.length ≤ 1048576):Ret (qIM l) (qPW l):=qOm l hl l [] rfl (by simp) List.Pairwise.nil (by simp)
theorem qN4 (y:Result):∀ (l:List Result) (k:Nat),qBC y l k=some (.ok ())∧(y.skater ∉ l.map fun r=>r.skater) ∨ qBC y l k=some (.error false)∧(y.skater ∈ l.map fun r=>r.skater):=by
 intro l
 induction l with
 | nil=>intro k;left;rw [qBC];simp
 | cons z l ih =>
  intro k
  rw [qBC]
  by_cases h:z.skater=y.skater
  ·right
   rw [show (z.skater == y.skater)=true from by simpa using h,cond_true]
   exact ⟨rfl,by simp [h]⟩
  ·rw [show (z.skater == y.skater)=false from by simpa using h,cond_false]
   have h':¬ y.skater=z.skater:=fun e=>h e.symm
   rcases ih (k+1) with ⟨h1,h2⟩ | ⟨h1,h2⟩
   ·left;exact ⟨h1,by rw [List.map_cons,List.mem_cons];exact fun k=>k.elim h' h2⟩
   ·right;exact ⟨h1,by rw [List.map_cons,List.mem_cons];exact .inr h2⟩
theorem qLl (l:List Result) (hl:l.length ≤ 1048576) (hs:∀ r ∈ l,r.scores.length ≤ 1048576):∀ (ys pre:List Result),l=pre++ys→(∀ r ∈ pre,qOR r)→(pre.map fun r=>r.skater).Pairwise (· ≠ ·)→(∀ r ∈ pre,r.scores.length=(l.headD default).scores.length) →
  Ret (qBS l ys pre.length) (qPW l):=by
 intro ys
 induction ys with
 | nil =>
  intro pre h1 h2 h3 h4
  rw [List.append_nil] at h1
  subst h1
  rw [qBS]
  refine .some ?_
  unfold qPW
  rw [decide_eq_true_eq]
  exact ⟨fun h=>⟨h2,h3,h4,by omega⟩,fun h=>by have:=h.2.2.2;omega⟩
 | cons y ys ih =>
  intro pre h1 h2 h3 h4
  have hy:y ∈ l:=by rw [h1];simp
  rw [qBS]
  obtain ⟨b,e1,e2⟩:=qOV y (hs y hy)
  rw [bnd e1]
  cases b
  ·exact .f fun k=>by have:=e2.2 (k.1 y hy);simp at this
  simp only [Bool.not_true,Bool.not_false,qCX,Bool.false_or]
  obtain ⟨z,zs,hz⟩:∃ z zs,l=z::zs:=by cases l with | nil=>simp at hy | cons z zs=>exact ⟨z,zs,rfl⟩
  rw [bnd (show qAb l 0=some (l.headD default) from by rw [hz];rfl)]
  by_cases g':y.scores.length=(l.headD default).scores.length
  ·rw [show ((y.scores.length:Int) != ((l.headD default).scores.length:Int))=false from by rw [g'];simp,cond_false]
   rw [bnd (show qCD l (pre.length:Int)=some pre from by rw [h1];exact qKE pre (y::ys) rfl)]
   rcases qN4 y pre 0 with ⟨g1,g2⟩ | ⟨g1,g2⟩
   ·rw [bnd g1]
    simp only [qKp]
    have:=ih (pre++[y]) (by rw [h1];simp) (by
     intro n hn;rcases List.mem_append.1 hn with hn | hn
     ·exact h2 n hn
     ·obtain rfl:=List.mem_singleton.1 hn;exact e2.1 rfl) (by rw [List.map_append];exact qQv h3 g2) (by
     intro n hn;rcases List.mem_append.1 hn with hn | hn
     ·exact h4 n hn
     ·obtain rfl:=List.mem_singleton.1 hn;exact g')
    simpa using this
   ·rw [bnd g1]
    refine .f fun k=>?_
    have:=k.2.1
    rw [h1,List.map_append,List.pairwise_append] at this
    exact this.2.2 y.skater g2 y.skater (by simp) rfl
  ·rw [show ((y.scores.length:Int) != ((l.headD default).scores.length:Int))=true from by simp only [bne_iff_ne,ne_eq];omega,cond_true]
   exact .f fun k=>g' (k.2.2.1 y hy)
theorem qM5 (l:List Result) (hl:l.length ≤ 1048576) (hs:∀ r ∈ l,r.scores.length ≤ 1048576):Ret (qEl l) (qPW l):=qLl l hl hs l [] rfl (by simp) List.Pairwise.nil (by simp)
end
section
def sg (d:Int):Int:=if d > 0 then 1 else if d < 0 then -1 else 0
theorem qOn (d:Int):qDt d=some (sg d):=by
 unfold qDt sg
 by_cases h:d > 0
 ·rw [decide_eq_true h,if_pos h];rfl
 ·rw [decide_eq_false h,if_neg h]
  by_cases k:d < 0
  ·rw [decide_eq_true k,if_pos k];rfl
  ·rw [decide_eq_false k,if_neg k];rfl
theorem qOT (d:Int):qDm d=some (sg d):=by
 unfold qDm sg
 by_cases h:d > 0
 ·rw [decide_eq_true h,if_pos h];rfl
 ·rw [decide_eq_false h,if_neg h]
  by_cases k:d < 0
  ·rw [decide_eq_true k,if_pos k];rfl
  ·rw [decide_eq_false k,if_neg k];rfl
theorem qGt {a b:Int} (h1:a > 0↔b > 0) (h2:a < 0↔b < 0):sg a=sg b:=by
 unfold sg
 by_cases h:a > 0
 ·rw [if_pos h,if_pos (h1.1 h)]
 ·rw [if_neg h,if_neg fun k=>h (h1.2 k)]
  by_cases k:a < 0
  ·rw [if_pos k,if_pos (h2.1 k)]
  ·rw [if_neg k,if_neg fun q=>k (h2.2 q)]
def pk:List Int→Int
 | []=>0
 | x::l=>(x+1)+1000000 * pk l
def qUI (l:List Int):Prop:=∀ n ∈ l,-1 ≤ n∧n ≤ 100000
theorem qVn (F:Nat→Int→Option Int) (S:Int→Option Int) (sa sb:List Int) (hF:∀ k v,F (k+1) v=cond (decide (v ≥ 0)) ((qAb sa v).bind fun x=>(qAb sb v).bind fun y=>cond (x != y) ((S (w64 (x - y))).bind fun z=>some z) (F k (w64 (v - 1)))) (some 0))
  (hS:∀ d,S d=some (sg d)) (hl:sa.length=sb.length) (h3:sa.length ≤ 3) (ha:qUI sa) (hb:qUI sb) (fuel:Nat) (hf:5 < fuel):F fuel (w64 ((sa.length:Int) - 1))=some (sg (pk sa - pk sb)):=by
 have step:∀ (k:Nat) (i:Nat) (x y:Int),qAb sa (i:Int)=some x→qAb sb (i:Int)=some y→(-1 ≤ x∧x ≤ 100000)→(-1 ≤ y∧y ≤ 100000)→i ≤ 3 →
   F (k+1) (i:Int)=if x=y then F k ((i:Int) - 1) else some (sg (x - y)):=by
  intro k i x y h1 h2 h3 h4 h5
  rw [hF,decide_eq_true (by omega),cond_true,bnd h1,bnd h2,qAG (by omega),qAG (by omega)]
  by_cases h:x=y
  ·rw [if_pos h,show (x != y)=false from by simp [h],cond_false]
  ·rw [if_neg h,show (x != y)=true from by simp [h],cond_true,hS];rfl
 have last:∀ k,F (k+1) (-1)=some 0:=fun k=>by rw [hF];rfl
 obtain ⟨f,rfl⟩:∃ f,fuel=f+5:=⟨fuel - 5,by omega⟩
 match sa,sb,hl,h3,ha,hb,step with
 | [],[],_,_,_,_,_ =>
  rw [show w64 ((([]:List Int).length:Int) - 1)=-1 from by rw [qAG (by simp)];simp,last];rfl
 | [a],[b],_,_,ha,hb,step =>
  have a1:=ha a (by simp)
  have b1:=hb b (by simp)
  rw [show w64 ((([a]:List Int).length:Int) - 1)=((0:Nat):Int) from by rw [qAG (by simp)];simp,step (f+4) 0 a b rfl rfl a1 b1 (by omega)]
  by_cases h:a=b
  ·rw [if_pos h,show ((0:Nat):Int) - 1=-1 from rfl,last (f+3),h];simp [sg]
  ·rw [if_neg h];congr 1;refine qGt ?_ ?_ <;> simp only [pk] <;> omega
 | [a,a'],[b,b'],_,_,ha,hb,step =>
  have a1:=ha a (by simp)
  have b1:=hb b (by simp)
  have a2:=ha a' (by simp)
  have b2:=hb b' (by simp)
  rw [show w64 ((([a,a']:List Int).length:Int) - 1)=((1:Nat):Int) from by rw [qAG (by simp)];simp,step (f+4) 1 a' b' rfl rfl a2 b2 (by omega)]
  by_cases h':a'=b'
  ·rw [if_pos h',show ((1:Nat):Int) - 1=((0:Nat):Int) from rfl,step (f+3) 0 a b rfl rfl a1 b1 (by omega)]
   by_cases h:a=b
   ·rw [if_pos h,show ((0:Nat):Int) - 1=-1 from rfl,last (f+2),h,h'];simp [sg]
   ·rw [if_neg h];congr 1;refine qGt ?_ ?_ <;> simp only [pk] <;> omega
  ·rw [if_neg h'];congr 1;refine qGt ?_ ?_ <;> simp only [pk] <;> omega
 | [a,a',a''],[b,b',b''],_,_,ha,hb,step =>
  have a1:=ha a (by simp)
  have b1:=hb b (by simp)
  have a2:=ha a' (by simp)
  have b2:=hb b' (by simp)
  have a3:=ha a'' (by simp)
  have b3:=hb b'' (by simp)
  rw [show w64 ((([a,a',a'']:List Int).length:Int) - 1)=((2:Nat):Int) from by rw [qAG (by simp)];simp,step (f+4) 2 a'' b'' rfl rfl a3 b3 (by omega)]
  by_cases h'':a''=b''
  ·rw [if_pos h'',show ((2:Nat):Int) - 1=((1:Nat):Int) from rfl,step (f+3) 1 a' b' rfl rfl a2 b2 (by omega)]
   by_cases h':a'=b'
   ·rw [if_pos h',show ((1:Nat):Int) - 1=((0:Nat):Int) from rfl,step (f+2) 0 a b rfl rfl a1 b1 (by omega)]
    by_cases h:a=b
    ·rw [if_pos h,show ((0:Nat):Int) - 1=-1 from rfl,last (f+1),h,h',h''];simp [sg]
    ·rw [if_neg h];congr 1;refine qGt ?_ ?_ <;> simp only [pk] <;> omega
   ·rw [if_neg h'];congr 1;refine qGt ?_ ?_ <;> simp only [pk] <;> omega
  ·rw [if_neg h''];congr 1;refine qGt ?_ ?_ <;> simp only [pk] <;> omega
 | [],_::_,hl,_,_,_,_=>simp at hl
 | _::_,[],hl,_,_,_,_=>simp at hl
 | [_],_::_::_,hl,_,_,_,_=>simp at hl
 | _::_::_,[_],hl,_,_,_,_=>simp at hl
 | [_,_],_::_::_::_,hl,_,_,_,_=>simp at hl
 | _::_::_::_,[_,_],hl,_,_,_,_=>simp at hl
 | [_,_,_],_::_::_::_::_,hl,_,_,_,_=>simp at hl
 | _::_::_::_::_,_,_,h3,_,_,_=>simp at h3
theorem qUk:∀ (l:List Int),l.length ≤ 3→qUI l→0 ≤ pk l∧pk l < 1000000000000000000
 | [],_,_=>by simp [pk]
 | [a],_,h=>by have:=h a (by simp);simp only [pk];omega
 | [a,b],_,h=>by have:=h a (by simp);have:=h b (by simp);simp only [pk];omega
 | [a,b,c],_,h=>by have:=h a (by simp);have:=h b (by simp);have:=h c (by simp);simp only [pk];omega
 | _::_::_::_::_,h,_=>by simp at h
theorem qTL:∀ (l:List Int) (a b:Int) (A B:Int),qUI l→0 ≤ a→a ≤ A→0 ≤ b→b ≤ B→A+100000 * (l.length:Int) ≤ 1000000→B+(l.length:Int) ≤ 1000 →
  0 ≤ (l.foldl qJp (a,b)).1∧(l.foldl qJp (a,b)).1 ≤ A+100000 * (l.length:Int)∧0 ≤ (l.foldl qJp (a,b)).2∧(l.foldl qJp (a,b)).2 ≤ B+(l.length:Int):=by
 intro l
 induction l with
 | nil=>intro a b A B _ h1 h2 h3 h4 _ _;simp;omega
 | cons y l ih =>
  intro a b A B hs h1 h2 h3 h4 h5 h6
  have hy:=hs y (by simp)
  have hs':qUI l:=fun n hn=>hs n (by simp [hn])
  simp only [List.length_cons] at h5 h6 ⊢
  rw [List.foldl_cons]
  by_cases h:y ≥ 0
  ·rw [show qJp (a,b) y=(w64 (a+y),w64 (b+1)) from if_pos h,qAG (by omega),qAG (by omega)]
   have:=ih (a+y) (b+1) (A+100000) (B+1) hs' (by omega) (by omega) (by omega) (by omega) (by omega) (by omega)
   omega
  ·rw [show qJp (a,b) y=(a,b) from if_neg h]
   have:=ih a b A B hs' h1 h2 h3 h4 (by omega) (by omega)
   omega
def qOl (r:Result):Int:=(qLc r).2 * 1000000000000000000000000000000+(qLc r).1 * 100000000000000000000+pk r.scores
def okR (r:Result):Prop:=r.scores.length ≤ 3∧qUI r.scores
theorem qRH {a b:Result} (ha:okR a) (hb:okR b) (hl:a.scores.length=b.scores.length) (o:Option Int) (ho:o=some (sg (pk a.scores - pk b.scores))) (S:Int→Option Int) (hS:∀ d,S d=some (sg d)) :
  (cond ((qLc a).2 != (qLc b).2) ((S (w64 ((qLc a).2 - (qLc b).2))).bind fun x5=>some x5) (cond ((qLc a).1 != (qLc b).1) ((S (w64 ((qLc a).1 - (qLc b).1))).bind fun x7=>some x7) o))=some (sg (qOl a - qOl b)):=by
 have t1:=qTL a.scores 0 0 0 0 ha.2 (by omega) (by omega) (by omega) (by omega) (by have:=ha.1;omega) (by have:=ha.1;omega)
 have t2:=qTL b.scores 0 0 0 0 hb.2 (by omega) (by omega) (by omega) (by omega) (by have:=hb.1;omega) (by have:=hb.1;omega)
 have p1:=qUk a.scores ha.1 ha.2
 have p2:=qUk b.scores hb.1 hb.2
 have l1:=ha.1
 have l2:=hb.1
 change 0 ≤ (qLc a).1∧(qLc a).1 ≤ _∧0 ≤ (qLc a).2∧(qLc a).2 ≤ _ at t1
 change 0 ≤ (qLc b).1∧(qLc b).1 ≤ _∧0 ≤ (qLc b).2∧(qLc b).2 ≤ _ at t2
 unfold qOl
 generalize (qLc a).1=x1 at *
 generalize (qLc a).2=x2 at *
 generalize (qLc b).1=y1 at *
 generalize (qLc b).2=y2 at *
 generalize pk a.scores=z1 at *
 generalize pk b.scores=z2 at *
 by_cases h:x2=y2
 ·rw [show (x2 != y2)=false from by simp [h],cond_false]
  by_cases k:x1=y1
  ·rw [show (x1 != y1)=false from by simp [k],cond_false,ho]
   congr 1
   refine qGt ?_ ?_ <;> omega
  ·rw [show (x1 != y1)=true from by simp [k],cond_true,hS,oB9,qAG (by omega)]
   congr 1
   refine qGt ?_ ?_ <;> omega
 ·rw [show (x2 != y2)=true from by simp [h],cond_true,hS,oB9,qAG (by omega)]
  congr 1
  refine qGt ?_ ?_ <;> omega
theorem qJg {a b:Result} (ha:okR a) (hb:okR b) (hl:a.scores.length=b.scores.length) (fuel:Nat) (hf:5 < fuel):qC4 fuel a b=some (sg (qOl a - qOl b)):=by
 unfold qC4
 rw [bnd (qNh a),bnd (qNh b)]
 exact qRH ha hb hl _ (qVn (qBR a b) qDt a.scores b.scores (fun k v=>by rw [qBR]) qOn hl ha.1 ha.2 hb.2 fuel hf) qDt qOn
theorem qKn {a b:Result} (ha:okR a) (hb:okR b) (hl:a.scores.length=b.scores.length) (fuel:Nat) (hf:5 < fuel):qFK fuel a b=some (sg (qOl a - qOl b)):=by
 unfold qFK
 rw [bnd (qNP a),bnd (qNP b)]
 exact qRH ha hb hl _ (qVn (qCg a b) qDm a.scores b.scores (fun k v=>by rw [qCg]) qOT hl ha.1 ha.2 hb.2 fuel hf) qDm qOT
structure qTF (l:List Result):Prop where
 ok:∀ r ∈ l,okR r
 eqs:∀ r ∈ l,∀ q ∈ l,r.scores.length=q.scores.length
 skr:∀ r ∈ l,1 ≤ r.skater∧r.skater ≤ 999
 ne:(l.map fun r=>r.skater).Pairwise (· ≠ ·)
 len:l.length ≤ 40
def kx (l:List Result) (i:Int):Int:=qOl (l[i.toNat]?.getD default)
def sx (l:List Result) (i:Int):Int:=(l[i.toNat]?.getD default).skater
def AH (l:List Result) (i j:Int):Prop:=kx l i > kx l j ∨ (kx l i=kx l j∧sx l i < sx l j)
theorem qVY {l:List Result} (a b c:Int) (h:AH l a b) (k:AH l b c):AH l a c:=by unfold AH at *;omega
def qO5 (n:Nat):List Int:=(List.range n).map fun i:Nat=>(i:Int)
theorem qSd (n:Nat) (i:Int):i ∈ qO5 n↔0 ≤ i∧i < (n:Int):=by
 unfold qO5
 rw [List.mem_map]
 constructor
 ·rintro ⟨k,hk,rfl⟩;rw [List.mem_range] at hk;omega
 ·intro h;exact ⟨i.toNat,by rw [List.mem_range];omega,by omega⟩
theorem qSz {l:List Result} {i:Int} (h:0 ≤ i∧i < (l.length:Int)):∃ r,r ∈ l∧qAb l i=some r∧kx l i=qOl r∧sx l i=r.skater:=by
 have hi:i.toNat < l.length:=by omega
 refine ⟨l[i.toNat],List.getElem_mem _,?_,?_,?_⟩
 ·rw [qDa (k:=i.toNat) (by omega)];exact List.getElem?_eq_getElem hi
 ·unfold kx;rw [List.getElem?_eq_getElem hi];rfl
 ·unfold sx;rw [List.getElem?_eq_getElem hi];rfl
theorem qVc {l:List Result} (h:qTF l) {i j:Int} (hi:0 ≤ i∧i < (l.length:Int)) (hj:0 ≤ j∧j < (l.length:Int)) (hij:i ≠ j):sx l i ≠ sx l j:=by
 have hn:=h.ne
 rw [List.pairwise_map,List.pairwise_iff_getElem] at hn
 have hi':i.toNat < l.length:=by omega
 have hj':j.toNat < l.length:=by omega
 unfold sx
 rw [List.getElem?_eq_getElem hi',List.getElem?_eq_getElem hj']
 rcases Nat.lt_trichotomy i.toNat j.toNat with k | k | k
 ·exact hn _ _ hi' hj' k
 ·omega
 ·exact fun e=>hn _ _ hj' hi' k e.symm
theorem qSZ {l:List Result} (h:qTF l) {i j:Int} (hi:0 ≤ i∧i < (l.length:Int)) (hj:0 ≤ j∧j < (l.length:Int)) (hij:i ≠ j):¬ AH l i j↔AH l j i:=by
 have:=qVc h hi hj hij
 unfold AH
 omega
def cfO (fuel:Nat) (l:List Result):Int→Int→Option Int:=fun a0 a1=>qDV fuel a0 a1 l
theorem qTM {l:List Result} (h:qTF l) (fuel:Nat) (hf:5 < fuel) {i j:Int} (hi:0 ≤ i∧i < (l.length:Int)) (hj:0 ≤ j∧j < (l.length:Int)):∃ c,cfO fuel l i j=some c∧(c < 0↔AH l i j):=by
 obtain ⟨a,a1,a2,a3,a4⟩:=qSz hi
 obtain ⟨b,b1,b2,b3,b4⟩:=qSz hj
 have sa:=h.skr a a1
 have sb:=h.skr b b1
 unfold cfO qDV AH
 rw [bnd a2,bnd b2,bnd (qJg (h.ok a a1) (h.ok b b1) (h.eqs a a1 b b1) fuel hf),a3,a4,b3,b4]
 unfold sg
 by_cases c1:qOl a - qOl b > 0
 ·rw [if_pos c1]
  exact ⟨-1,rfl,⟨by intro _;omega,by intro _;omega⟩⟩
 ·rw [if_neg c1]
  by_cases c2:qOl a - qOl b < 0
  ·rw [if_pos c2]
   exact ⟨1,rfl,⟨by intro k;omega,by intro k;omega⟩⟩
  ·rw [if_neg c2]
   refine ⟨a.skater - b.skater,?_,?_⟩
   ·rw [show ((0:Int) != 0)=false from rfl,cond_false,qAG (by omega)]
   ·constructor
    ·intro k;omega
    ·intro k;omega
theorem qNk {l:List Result} (h:qTF l) (fuel:Nat) (hf:5 < fuel) {i j:Int} (hi:0 ≤ i∧i < (l.length:Int)) (hj:0 ≤ j∧j < (l.length:Int)):lt0 (cfO fuel l) i j=true↔AH l i j:=by
 obtain ⟨c,c1,c2⟩:=qTM h fuel hf hi hj
 unfold lt0
 rw [c1]
 simpa using c2
theorem qSS {l:List Result} (h:qTF l) (fuel:Nat) (hf:5 < fuel) {i j:Int} (hi:0 ≤ i∧i < (l.length:Int)) (hj:0 ≤ j∧j < (l.length:Int)):lt0 (cfO fuel l) i j=false↔¬ AH l i j:=by
 rw [← qNk h fuel hf hi hj];simp
theorem qTw (n:Nat):(qO5 n).Nodup:=by
 unfold qO5 List.Nodup
 rw [List.pairwise_map]
 exact (List.nodup_range (n:=n)).imp fun h e=>h (by omega)
theorem qVe {l:List Result} (h:qTF l) (fuel:Nat) (hf:5 < fuel):GoodF (cfO fuel l) (qO5 l.length):=by
 have m:=qSd l.length
 refine ⟨fun x hx y hy=>?_,fun x hx=>?_,fun x hx y hy z hz=>?_,fun x hx y hy z hz=>?_,?_,?_⟩
 ·obtain ⟨c,c1,_⟩:=qTM h fuel hf ((m x).1 hx) ((m y).1 hy)
  rw [c1];rfl
 ·rw [qSS h fuel hf ((m x).1 hx) ((m x).1 hx)];unfold AH;omega
 ·rw [qNk h fuel hf ((m x).1 hx) ((m y).1 hy),qNk h fuel hf ((m y).1 hy) ((m z).1 hz),qNk h fuel hf ((m x).1 hx) ((m z).1 hz)]
  exact qVY x y z
 ·rw [qSS h fuel hf ((m x).1 hx) ((m y).1 hy),qSS h fuel hf ((m y).1 hy) ((m z).1 hz),qSS h fuel hf ((m x).1 hx) ((m z).1 hz)]
  unfold AH;omega
 ·refine (qTw l.length).imp_of_mem fun {x y} hx hy hne=>?_
  have hx':=(m x).1 hx
  have hy':=(m y).1 hy
  rw [qNk h fuel hf hx' hy',qNk h fuel hf hy' hx',← qSZ h hx' hy' hne]
  exact Classical.em _
 ·unfold qO5;have:=h.len;simp;omega
theorem qPC (n:Nat) (hn:n ≤ 1000):∀ (m j:Nat) (fuel:Nat),j+m=n→m < fuel→qBO (n:Int) (fun a0=>qDW a0) fuel (qO5 j) (j:Int)=some (qO5 n):=by
 intro m
 induction m with
 | zero =>
  intro j fuel h hf
  obtain ⟨f,rfl⟩:=nZ9 (by omega:fuel ≠ 0)
  obtain rfl:j=n:=by omega
  rw [qBO,decide_eq_false (by omega),cond_false]
 | succ m ih =>
  intro j fuel h hf
  obtain ⟨f,rfl⟩:=nZ9 (by omega:fuel ≠ 0)
  have hl:(qO5 j).length=j:=by unfold qO5;simp
  rw [qBO,decide_eq_true (by omega),cond_true]
  rw [bnd (show qDW (j:Int)=some true from rfl),cond_true,qAQ (by rw [hl];simp;omega),qAw,oB9,qAG (by omega)]
  have e:qO5 j++[(j:Int)]=qO5 (j+1):=by unfold qO5;rw [List.range_succ,List.map_append];rfl
  rw [e]
  exact ih (j+1) f (by omega) (by omega)
theorem qQS {l:List Result} (h:qTF l) (fuel:Nat) (hf:1000 < fuel):qGS fuel l=some (qHO (cfO fuel l) (qO5 l.length)):=by
 unfold qGS qGa
 have hl:=h.len
 rw [bnd (show qBO (l.length:Int) (fun a0=>qDW a0) fuel [] 0=some (qO5 l.length) from qPC l.length (by omega) l.length 0 fuel (by omega) (by omega))]
 unfold qEe qNx
 rw [show (fun a0 a1=>qDV fuel a0 a1 l)=cfO fuel l from rfl,if_pos (qVe h fuel (by omega))]
 rfl
end
section
theorem qVl {s:Season} (hok:qGE s) (hb:qHz s ≤ 1048576) {e:Entry} (hE:Ents (qDs s++[e])) (fuel:Nat) (hf:1048576 < fuel):∃ t,qDb fuel s e=some (t,true)∧FreshOf s.best (qDs s++[e]) t:=by
 have hlen:=hok.2.2.2.2
 obtain ⟨b,e1,e2⟩:=qH8 s hb fuel hf
 obtain rfl:b=true:=e2.2 hok
 obtain ⟨d,g1,g2⟩:=qHu (qDs s++[e]) (by simp;omega)
 obtain rfl:d=true:=g2.2 hE
 obtain ⟨t,m1,m2⟩:=qKW s.best _ hE.goodL (by simp;omega)
 refine ⟨t,?_,m2⟩
 unfold qDb
 rw [bnd e1,Bool.not_true,cond_false,bnd (qLE s hb (fun x hx=>(hok.2.1 x hx).1)),bnd (x:=()) (by rw [qAQ (by simp;omega)];rfl),bnd g1,Bool.not_true,cond_false,bnd m1]
theorem qUT {best:Int} (hb:1 ≤ best∧best ≤ 9) {l:List Entry} (hE:Ents l):∃ t,qDv best l=some (t,true)∧FreshOf best l t:=by
 have hlen:=hE.2.2
 obtain ⟨b,e1,e2⟩:=qNR best
 obtain rfl:b=true:=e2.2 hb
 obtain ⟨d,g1,g2⟩:=qHu l (by omega)
 obtain rfl:d=true:=g2.2 hE
 obtain ⟨t,m1,m2⟩:=qKW best _ hE.goodL (by omega)
 refine ⟨t,?_,m2⟩
 unfold qDv
 rw [bnd e1]
 simp only [Bool.not_true,Bool.not_false,qCX]
 rw [bnd g1]
 simp only [Bool.not_true,Bool.or_self,cond_false]
 rw [bnd m1]
theorem qQI {ev p q:Int} (he:1 ≤ ev∧ev ≤ 9) (hp:0 ≤ p∧p ≤ 100000) (hq:0 ≤ q∧q ≤ 100000):Ents [⟨ev,7,p⟩,⟨ev,4,q⟩]:=by
 refine ⟨?_,?_,by simp⟩
 ·intro e h
  simp only [List.mem_cons,List.not_mem_nil,or_false] at h
  rcases h with rfl | rfl
  ·exact ⟨⟨by show 1 ≤ ev;omega,by show ev ≤ 99;omega⟩,⟨by show (1:Int) ≤ 7;omega,by show (7:Int) ≤ 999;omega⟩,hp⟩
  ·exact ⟨⟨by show 1 ≤ ev;omega,by show ev ≤ 99;omega⟩,⟨by show (1:Int) ≤ 4;omega,by show (4:Int) ≤ 999;omega⟩,hq⟩
 ·refine List.pairwise_pair.2 fun h=>?_
  have:(7:Int)=4:=h.2
  omega
theorem qSO {ev p:Int} (he:1 ≤ ev∧ev ≤ 9) (hp:0 ≤ p∧p ≤ 100000):Ents [⟨ev,7,p⟩]:=by
 have:=qQI he hp hp
 exact ⟨fun e h=>this.1 e (by simp only [List.mem_cons,List.not_mem_nil,or_false] at h ⊢;exact .inl h),List.pairwise_singleton _ _,by simp⟩
theorem qVH:qGE ⟨1,[]⟩:=⟨by show (1:Int) ≤ 1∧(1:Int) ≤ 9;omega,by simp,List.Pairwise.nil,⟨by simp [qDs],by simp [qDs],by simp [qDs]⟩,by simp [qDs]⟩
theorem qTP (k ev p:Int):qJq ⟨k,[ev],[p]⟩:=⟨rfl,by simp⟩
theorem qVA (ev p:Int):FreshOf 1 [⟨ev,7,p⟩] ⟨1,[⟨7,[ev],[p]⟩]⟩:=by
 refine ⟨rfl,⟨fun x hx=>?_,List.pairwise_singleton _ _⟩,List.pairwise_singleton _ _,List.Perm.refl _⟩
 rw [List.mem_singleton.1 hx];exact qTP _ _ _
theorem qVO (ev p q:Int):FreshOf 1 [⟨ev,7,p⟩,⟨ev,4,q⟩] ⟨1,[⟨4,[ev],[q]⟩,⟨7,[ev],[p]⟩]⟩:=by
 refine ⟨rfl,⟨fun x hx=>?_,List.pairwise_pair.2 (by show (4:Int) < 7;omega)⟩,List.pairwise_pair.2 (.inl (by show (4:Int) < 7;omega)),List.Perm.swap _ _ _⟩
 simp only [List.mem_cons,List.not_mem_nil,or_false] at hx
 rcases hx with rfl | rfl <;> exact qTP _ _ _
theorem qJB (k j ev p q:Int) (hp:0 ≤ p∧p ≤ 100000) (hq:0 ≤ q∧q ≤ 100000):qFA ⟨k,[ev],[p]⟩ ⟨j,[ev],[q]⟩ 1=some (decide (p > q)):=by
 rw [qQZ _ _ 1 (by omega)]
 congr 1
 unfold qQo
 have e1:qSP (qD1 ⟨k,[ev],[p]⟩ 1)=p:=by
  show w64 (0+p)=p
  rw [qAG (by omega),Int.zero_add]
 have e2:qSP (qD1 ⟨j,[ev],[q]⟩ 1)=q:=by
  show w64 (0+q)=q
  rw [qAG (by omega),Int.zero_add]
 rw [e1,e2]
 by_cases h:p=q
 ·subst h
  rw [bne_self_eq_false,cond_false,decide_eq_false (by omega)]
  show (bif p != p then decide (p > p) else qIq [] [])=false
  rw [bne_self_eq_false,cond_false]
  rfl
 ·rw [show (p != q)=true from by simp [h],cond_true]
def pl2 (p q:Int):Int:=if q > p then 2 else 1
theorem qKw {ev p q:Int} (he:1 ≤ ev∧ev ≤ 9) (hp:0 ≤ p∧p ≤ 100000) (hq:0 ≤ q∧q ≤ 100000) (fuel:Nat) (hf:1048576 < fuel) :
  qDb fuel ⟨1,[]⟩ ⟨ev,7,p⟩=some (⟨1,[⟨7,[ev],[p]⟩]⟩,true)∧qDb fuel ⟨1,[⟨7,[ev],[p]⟩]⟩ ⟨ev,4,q⟩=some (⟨1,[⟨4,[ev],[q]⟩,⟨7,[ev],[p]⟩]⟩,true) ∧
  qDv 1 [⟨ev,7,p⟩,⟨ev,4,q⟩]=some (⟨1,[⟨4,[ev],[q]⟩,⟨7,[ev],[p]⟩]⟩,true)∧qFX fuel ⟨1,[⟨4,[ev],[q]⟩,⟨7,[ev],[p]⟩]⟩=some ([pl2 q p,pl2 p q],true):=by
 have E1:=qSO he hp
 have E2:=qQI he hp hq
 have F1:=qVA ev p
 have F2:=qVO ev p q
 have O1:qGE ⟨1,[⟨7,[ev],[p]⟩]⟩:=(qQH F1 E1.goodL).2 ⟨by omega,by simp⟩
 have O2:qGE ⟨1,[⟨4,[ev],[q]⟩,⟨7,[ev],[p]⟩]⟩:=(qQH F2 E2.goodL).2 ⟨by omega,by simp⟩
 have n1:=qNU F1
 have n2:=qNU F2
 simp only [List.length_cons,List.length_nil] at n1 n2
 refine ⟨?_,?_,?_,?_⟩
 ·obtain ⟨t,t1,t2⟩:=qVl (s:=⟨1,[]⟩) (e:=⟨ev,7,p⟩) qVH (by unfold qHz qNe;simp) E1 fuel hf
  rw [t1,FreshOf.uniq (t2:FreshOf 1 [⟨ev,7,p⟩] t) F1]
 ·obtain ⟨t,t1,t2⟩:=qVl (s:=⟨1,[⟨7,[ev],[p]⟩]⟩) (e:=⟨ev,4,q⟩) O1 (by omega) E2 fuel hf
  rw [t1,FreshOf.uniq (t2:FreshOf 1 [⟨ev,7,p⟩,⟨ev,4,q⟩] t) F2]
 ·obtain ⟨t,t1,t2⟩:=qUT (best:=1) (by omega) E2
  rw [t1,FreshOf.uniq t2 F2]
 ·unfold qFX
  obtain ⟨b,e1,e2⟩:=qH8 ⟨1,[⟨4,[ev],[q]⟩,⟨7,[ev],[p]⟩]⟩ (by omega) fuel hf
  obtain rfl:b=true:=e2.2 O2
  rw [bnd e1,Bool.not_true,cond_false,qBz,qAX,bnd (qJB 4 4 ev q q hq hq),decide_eq_false (by omega),cond_false,qAX,bnd (qJB 7 4 ev p q hp hq)]
  have c1:cond (decide (p > q)) (qAX ⟨1,[⟨4,[ev],[q]⟩,⟨7,[ev],[p]⟩]⟩ ⟨4,[ev],[q]⟩ [] [] (0+1+1) (w64 (1+1))) (qAX ⟨1,[⟨4,[ev],[q]⟩,⟨7,[ev],[p]⟩]⟩ ⟨4,[ev],[q]⟩ [] [] (0+1+1) 1)=some [pl2 q p]:=by
   unfold pl2
   by_cases h:p > q
   ·rw [decide_eq_true h,cond_true,if_pos h];rfl
   ·rw [decide_eq_false h,cond_false,if_neg h];rfl
  rw [c1,oB9,qBz,qAX,bnd (qJB 4 7 ev q p hq hp)]
  have c2:cond (decide (q > p)) (qAX ⟨1,[⟨4,[ev],[q]⟩,⟨7,[ev],[p]⟩]⟩ ⟨7,[ev],[p]⟩ [pl2 q p] [⟨7,[ev],[p]⟩] (0+1) (w64 (1+1))) (qAX ⟨1,[⟨4,[ev],[q]⟩,⟨7,[ev],[p]⟩]⟩ ⟨7,[ev],[p]⟩ [pl2 q p] [⟨7,[ev],[p]⟩] (0+1) 1)=some [pl2 q p,pl2 p q]:=by
   have:pl2 p q=if q > p then 2 else 1:=rfl
   by_cases h:q > p
   ·rw [decide_eq_true h,cond_true,this,if_pos h,qAX,bnd (qJB 7 7 ev p p hp hp),decide_eq_false (by omega:¬ p > p),cond_false];rfl
   ·rw [decide_eq_false h,cond_false,this,if_neg h,qAX,bnd (qJB 7 7 ev p p hp hp),decide_eq_false (by omega:¬ p > p),cond_false];rfl
  rw [c2,oB9,qBz]
theorem qS2 {x y:Int} (hx:0 ≤ x∧x ≤ 100000) (hy:0 ≤ y∧y ≤ 100000):qTF [⟨7,[x]⟩,⟨4,[y]⟩]:=by
 have hm:∀ r ∈ ([⟨7,[x]⟩,⟨4,[y]⟩]:List Result),r=⟨7,[x]⟩ ∨ r=⟨4,[y]⟩:=fun r h=>by simpa using h
 refine ⟨fun r h=>?_,fun r h q k=>?_,fun r h=>?_,List.pairwise_pair.2 (by show (7:Int) ≠ 4;omega),by simp⟩
 ·rcases hm r h with rfl | rfl
  ·exact ⟨by simp,fun n hn=>by rw [List.mem_singleton.1 hn];omega⟩
  ·exact ⟨by simp,fun n hn=>by rw [List.mem_singleton.1 hn];omega⟩
 ·rcases hm r h with rfl | rfl <;> rcases hm q k with rfl | rfl <;> rfl
 ·rcases hm r h with rfl | rfl
  ·show (1:Int) ≤ 7∧(7:Int) ≤ 999;omega
  ·show (1:Int) ≤ 4∧(4:Int) ≤ 999;omega
theorem qTr {x y:Int} (hx:0 ≤ x∧x ≤ 100000) (hy:0 ≤ y∧y ≤ 100000):qPW [⟨7,[x]⟩,⟨4,[y]⟩]:=by
 have hm:∀ r ∈ ([⟨7,[x]⟩,⟨4,[y]⟩]:List Result),r=⟨7,[x]⟩ ∨ r=⟨4,[y]⟩:=fun r h=>by simpa using h
 refine ⟨fun r h=>?_,List.pairwise_pair.2 (by show (7:Int) ≠ 4;omega),fun r h=>?_,by simp⟩
 ·rcases hm r h with rfl | rfl
  ·exact ⟨by show (1:Int) ≤ 7∧(7:Int) ≤ 999;omega,by simp,fun n hn=>by rw [List.mem_singleton.1 hn];omega,List.pairwise_singleton _ _⟩
  ·exact ⟨by show (1:Int) ≤ 4∧(4:Int) ≤ 999;omega,by simp,fun n hn=>by rw [List.mem_singleton.1 hn];omega,List.pairwise_singleton _ _⟩
 ·rcases hm r h with rfl | rfl <;> rfl
theorem qRN (k x:Int) (hx:0 ≤ x∧x ≤ 100000):qOl ⟨k,[x]⟩=1000000000000000000000000000000+x * 100000000000000000000+(x+1):=by
 unfold qOl qLc
 have:([x]:List Int).foldl qJp (0,0)=(x,1):=by
  show qJp (0,0) x=(x,1)
  unfold qJp
  rw [if_pos (by omega)]
  dsimp only
  rw [qAG (by omega),Int.zero_add]
  rfl
 dsimp only
 rw [this]
 simp only [pk]
 omega
theorem qU3 (d:Int):decide (sg d > 0)=decide (d > 0):=by
 unfold sg
 by_cases h1:d > 0
 ·rw [if_pos h1,decide_eq_true h1];rfl
 ·rw [if_neg h1,decide_eq_false h1]
  by_cases h2:d < 0
  ·rw [if_pos h2];rfl
  ·rw [if_neg h2];rfl
theorem qJt (k j x y:Int) (hx:0 ≤ x∧x ≤ 100000) (hy:0 ≤ y∧y ≤ 100000):decide (sg (qOl ⟨k,[x]⟩ - qOl ⟨j,[y]⟩) > 0)=decide (x > y):=by
 rw [qU3,qRN k x hx,qRN j y hy]
 by_cases h:x > y
 ·rw [decide_eq_true h,decide_eq_true (by omega)]
 ·rw [decide_eq_false h,decide_eq_false (by omega)]
theorem qQ0 {x y:Int} (hx:0 ≤ x∧x ≤ 100000) (hy:0 ≤ y∧y ≤ 100000) (fuel:Nat) (hf:5 < fuel) :
  (qDz fuel [⟨7,[x]⟩,⟨4,[y]⟩] 0=some (pl2 x y)∧qDz fuel [⟨7,[x]⟩,⟨4,[y]⟩] 1=some (pl2 y x))∧(qDy fuel [⟨7,[x]⟩,⟨4,[y]⟩] 0=some (pl2 x y)∧qDy fuel [⟨7,[x]⟩,⟨4,[y]⟩] 1=some (pl2 y x)):=by
 have R:=qS2 hx hy
 have a1:=R.ok ⟨7,[x]⟩ (by simp)
 have a2:=R.ok ⟨4,[y]⟩ (by simp)
 have e12:=R.eqs ⟨7,[x]⟩ (by simp) ⟨4,[y]⟩ (by simp)
 have g0:qAb ([⟨7,[x]⟩,⟨4,[y]⟩]:List Result) 0=some ⟨7,[x]⟩:=rfl
 have g1:qAb ([⟨7,[x]⟩,⟨4,[y]⟩]:List Result) 1=some ⟨4,[y]⟩:=rfl
 unfold qDz qDy
 refine ⟨⟨?_,?_⟩,?_,?_⟩
 ·rw [qBJ,bnd g0,bnd (qJg a1 a1 rfl fuel hf),qJt _ _ _ _ hx hx,decide_eq_false (by omega),cond_false,qBJ,bnd g0,bnd (qJg a2 a1 e12.symm fuel hf),qJt _ _ _ _ hy hx]
  unfold pl2
  by_cases h:y > x
  ·rw [decide_eq_true h,cond_true,if_pos h];rfl
  ·rw [decide_eq_false h,cond_false,if_neg h];rfl
 ·rw [qBJ,bnd g1,bnd (qJg a1 a2 e12 fuel hf),qJt _ _ _ _ hx hy]
  unfold pl2
  by_cases h:x > y
  ·rw [decide_eq_true h,cond_true,if_pos h,qBJ,bnd g1,bnd (qJg a2 a2 rfl fuel hf),qJt _ _ _ _ hy hy,decide_eq_false (by omega),cond_false];rfl
  ·rw [decide_eq_false h,cond_false,if_neg h,qBJ,bnd g1,bnd (qJg a2 a2 rfl fuel hf),qJt _ _ _ _ hy hy,decide_eq_false (by omega),cond_false];rfl
 ·rw [qBK,bnd g0,bnd (qKn a1 a1 rfl fuel hf),qJt _ _ _ _ hx hx,decide_eq_false (by omega),cond_false,qBK,bnd g0,bnd (qKn a2 a1 e12.symm fuel hf),qJt _ _ _ _ hy hx]
  unfold pl2
  by_cases h:y > x
  ·rw [decide_eq_true h,cond_true,if_pos h];rfl
  ·rw [decide_eq_false h,cond_false,if_neg h];rfl
 ·rw [qBK,bnd g1,bnd (qKn a1 a2 e12 fuel hf),qJt _ _ _ _ hx hy]
  unfold pl2
  by_cases h:x > y
  ·rw [decide_eq_true h,cond_true,if_pos h,qBK,bnd g1,bnd (qKn a2 a2 rfl fuel hf),qJt _ _ _ _ hy hy,decide_eq_false (by omega),cond_false];rfl
  ·rw [decide_eq_false h,cond_false,if_neg h,qBK,bnd g1,bnd (qKn a2 a2 rfl fuel hf),qJt _ _ _ _ hy hy,decide_eq_false (by omega),cond_false];rfl
theorem qPc {x y:Int} (hx:0 ≤ x∧x ≤ 100000) (hy:0 ≤ y∧y ≤ 100000) (fuel:Nat) (hf:1048576 < fuel) :
  qDc fuel [⟨7,[x]⟩,⟨4,[y]⟩]=some ([pl2 x y,pl2 y x],true)∧qDd fuel [⟨7,[x]⟩,⟨4,[y]⟩]=some ([pl2 x y,pl2 y x],true)∧∃ r,qDr fuel [⟨7,[x]⟩,⟨4,[y]⟩]=some (r,true)∧r.length=2:=by
 have R:=qS2 hx hy
 have O:=qTr hx hy
 obtain ⟨b,b1,b2⟩:=qM5 [⟨7,[x]⟩,⟨4,[y]⟩] (by simp) (fun r h=>by
  have:r=⟨7,[x]⟩ ∨ r=⟨4,[y]⟩:=by simpa using h
  rcases this with rfl | rfl <;> simp)
 obtain rfl:b=true:=b2.2 O
 obtain ⟨d,d1,d2⟩:=qQf [⟨7,[x]⟩,⟨4,[y]⟩] (by simp)
 obtain rfl:d=true:=d2.2 O
 obtain ⟨⟨p1,p2⟩,q1,q2⟩:=qQ0 hx hy fuel (by omega)
 refine ⟨?_,?_,qHO (cfO fuel [⟨7,[x]⟩,⟨4,[y]⟩]) (qO5 2),?_,?_⟩
 ·unfold qDc
  rw [bnd b1,Bool.not_true,cond_false,qAj,bnd (show qDz fuel [⟨7,[x]⟩,⟨4,[y]⟩] ((0:Nat):Int)=_ from p1),qAQ (by simp),qAw,oB9,qAj,bnd (show qDz fuel [⟨7,[x]⟩,⟨4,[y]⟩] ((0+1:Nat):Int)=_ from p2),qAQ (by simp),qAw,oB9,qAj]
  rfl
 ·unfold qDd qHP
  rw [bnd d1,Bool.not_true,cond_false,qB2,bnd (show qDy fuel [⟨7,[x]⟩,⟨4,[y]⟩] ((0:Nat):Int)=_ from q1),qAQ (by simp),qAw,oB9,qB2,bnd (show qDy fuel [⟨7,[x]⟩,⟨4,[y]⟩] ((0+1:Nat):Int)=_ from q2),qAQ (by simp),qAw,oB9,qB2]
  rfl
 ·unfold qDr
  rw [bnd b1,Bool.not_true,cond_false,bnd (qQS R fuel (by omega))]
  rfl
 ·unfold qHO
  rw [List.length_mergeSort]
  rfl
end
section
theorem qT1 (b:List Int):∀ (ys pre:List Int),b=pre++ys→qDH b ys pre.length=some true:=by
 intro ys
 induction ys with
 | nil=>intro pre _;rw [qDH]
 | cons y ys ih =>
  intro pre h
  have:=ih (pre++[y]) (by rw [h];simp)
  rw [show (pre++[y]).length=pre.length+1 from by simp] at this
  rw [qDH,bnd (qDD (pre:=pre) (y:=y) (ys:=ys) h rfl),bne_self_eq_false,cond_false,this]
theorem qNq (a:List Int):qFT a a=some true:=by
 unfold qFT
 rw [bne_self_eq_false,cond_false]
 exact qT1 a a [] rfl
end
section
theorem qRE (b:Season):∀ (ys pre:List Line),b.lines=pre++ys→qCG b ys pre.length=some true:=by
 intro ys
 induction ys with
 | nil=>intro pre _;rw [qCG]
 | cons y ys ih =>
  intro pre h
  have:=ih (pre++[y]) (by rw [h];simp)
  rw [show (pre++[y]).length=pre.length+1 from by simp] at this
  rw [qCG,bnd (qDD (pre:=pre) (y:=y) (ys:=ys) h rfl),bne_self_eq_false]
  simp only [Bool.not_false,qCX,Bool.false_or]
  rw [bnd (qNq _)]
  simp only [Bool.not_true,Bool.not_false,qCX]
  rw [bnd (qNq _)]
  simp only [Bool.not_true,Bool.or_false,cond_false]
  exact this
theorem qQX (a:Season):qGF a a=some true:=by
 unfold qGF
 rw [bne_self_eq_false,bne_self_eq_false,Bool.or_false,cond_false]
 exact qRE a a.lines [] rfl
theorem Ents.perm {l m:List Entry} (h:Ents l) (p:m.Perm l):Ents m:=by
 have:=h.goodL.perm p
 exact ⟨this.1,this.2,by rw [p.length_eq];exact h.2.2⟩
theorem FreshOf.perm {best:Int} {l m:List Entry} {s:Season} (h:FreshOf best l s) (p:l.Perm m):FreshOf best m s:=⟨h.1,h.2.1,h.2.2.1,h.2.2.2.trans p⟩
end
section
theorem qTB (more:List Int) (fuel:Nat) (x1:(Code × Performance × Performance × Int)) (v177:List Result) (v178:Int) (v179:List Line) (v180:List Entry) (v181:Int) (p:Performance) (x230:(Int × Bool)) (S B:Int) (t1 t2 t3:Bool) (J:Nat) (hJ:J ≤ 9) (hS:0 ≤ S∧S ≤ 2000000000)
  (hR:∀ j:Int,0 ≤ j→j < (J:Int)→∃ lo hi,qDY fuel (Code.mk x1.1.elements x1.1.limits x1.1.repeats x1.1.bonus x1.1.keeps x1.1.fall) p 100 j=some (lo,hi,true)∧0 ≤ lo∧lo ≤ S∧S ≤ hi∧hi ≤ 2000000000∧hi - lo ≤ B):∀ (n f:Nat) (v:Int),((J:Int) - v).toNat=n→n < f→0 ≤ v→v ≤ (J:Int) →
  qB6 more fuel x1 v177 v178 v179 v180 v181 p (S,t1) x230 (B,t2) ((J:Int),t3) f v=qB6 more fuel x1 v177 v178 v179 v180 v181 p (S,t1) x230 (B,t2) ((J:Int),t3) 1 (J:Int):=by
 intro n
 induction n with
 | zero =>
  intro f v hn hf h0 hv
  obtain ⟨f,rfl⟩:=nZ9 (by omega:f ≠ 0)
  obtain rfl:v=(J:Int):=by omega
  rw [qB6,qB6]
  dsimp only
  rw [decide_eq_false (by omega),cond_false,cond_false]
 | succ n ih =>
  intro f v hn hf h0 hv
  obtain ⟨f,rfl⟩:=nZ9 (by omega:f ≠ 0)
  obtain ⟨lo,hi,r1,r2,r3,r4,r5,r6⟩:=hR v h0 (by omega)
  rw [qB6]
  dsimp only
  rw [decide_eq_true (by omega),cond_true,bnd r1]
  dsimp only
  rw [qAG (by omega:-9223372036854775808 ≤ hi - lo∧hi - lo ≤ 9223372036854775807),decide_eq_false (by omega:¬ S < lo),decide_eq_false (by omega:¬ S > hi),decide_eq_false (by omega:¬ hi - lo > B)]
  simp only [Bool.not_true,Bool.or_self,cond_false]
  rw [qAG (by omega)]
  exact ih f (v+1) (by omega) (by omega) (by omega) (by omega)
theorem qRi (more:List Int) (fuel:Nat) (x1:(Code × Performance × Performance × Int)) (v177:List Result) (v178:Int) (v179:List Line) (v180:List Entry) (p:Performance) (S B:Int) (J:Nat) (k:Int) (hk:k=0 ∨ k=1) (hv:v177.length ≤ 10) (hv2:v180.length ≤ 10) {T:Season} (hm:more.length ≤ 9223372036854775807) (hS:0 ≤ S)
  (hA:S ≤ 100000→qDb fuel (Season.mk v178 v179) ⟨1+((more.length:Int).tmod 9),7 - 3 * k,S⟩=some (T,true)) :
  qB6 more fuel x1 v177 v178 v179 v180 k p (S,true) (S,true) (B,true) ((J:Int),true) 1 (J:Int)=if S > 100000 then some (.error true) else some (.ok (v177++[⟨7 - 3 * k,[S]⟩],T.best,T.lines,v180++[⟨1+((more.length:Int).tmod 9),7 - 3 * k,S⟩])):=by
 have hmod:0 ≤ (more.length:Int).tmod 9∧(more.length:Int).tmod 9 < 9:=qJY (by omega) (by omega)
 rw [qB6]
 dsimp only
 rw [decide_eq_false (by omega),cond_false]
 by_cases h:S > 100000
 ·rw [decide_eq_true h,cond_true,if_pos h]
 ·rw [decide_eq_false h,cond_false,if_neg h,qAG (n:=3 * k) (by omega),qAG (n:=7 - 3 * k) (by omega),qAG (n:=1+((more.length:Int).tmod 9)) (by omega),qAQ (by simp;omega),qAw,oB9,show qCw (9 != 0)=some () from rfl,oB9,bnd (hA (by omega)),Bool.not_true,cond_false,qAQ (by simp;omega),qAw,oB9]
theorem qUE (x y:Int):(decide (x > y) == decide (pl2 x y < pl2 y x))=true∧((x == y) == (pl2 x y == pl2 y x))=true:=by
 unfold pl2
 by_cases h1:y > x
 ·rw [if_pos h1,if_neg (by omega:¬ x > y),decide_eq_false (by omega:¬ x > y),show (x == y)=false from by simp;omega]
  exact ⟨rfl,rfl⟩
 ·rw [if_neg h1]
  by_cases h2:x > y
  ·rw [if_pos h2,decide_eq_true h2,show (x == y)=false from by simp;omega]
   exact ⟨rfl,rfl⟩
  ·obtain rfl:x=y:=by omega
   rw [if_neg h2,decide_eq_false h2,beq_self_eq_true]
   exact ⟨rfl,rfl⟩
theorem qSm (more:List Int) (fuel:Nat) (hf:1048576 < fuel) (x1:(Code × Performance × Performance × Int)) (f:Nat) {ev x y:Int} (he:1 ≤ ev∧ev ≤ 9) (hx:0 ≤ x∧x ≤ 100000) (hy:0 ≤ y∧y ≤ 100000) :
  qBq more fuel x1 (f+1) [⟨7,[x]⟩,⟨4,[y]⟩] 1 [⟨4,[ev],[y]⟩,⟨7,[ev],[x]⟩] [⟨ev,7,x⟩,⟨ev,4,y⟩] 2=some true:=by
 obtain ⟨s1,s2,s3,s4⟩:=qKw he hx hy fuel hf
 obtain ⟨r1,r2,r,r3,r4⟩:=qPc hx hy fuel hf
 rw [qBq,decide_eq_false (by simp),cond_false,bnd r1,bnd r2,bnd r3,bnd s3,bnd s4]
 dsimp only
 simp only [Bool.not_true,Bool.not_false,Bool.or_self,qCX]
 rw [bnd (qNq _)]
 have hl2:((r.length:Int) != 2)=false:=by rw [r4];rfl
 simp only [Bool.not_true,Bool.or_self,hl2,Bool.not_false,qCX]
 rw [bnd (qQX _)]
 simp only [Bool.not_true,Bool.or_self]
 rw [show ((([pl2 y x,pl2 x y]:List Int).length:Int) != 2)=false from rfl,Bool.or_self,cond_false]
 rw [bnd (show qAb ([⟨7,[x]⟩,⟨4,[y]⟩]:List Result) 0=some ⟨7,[x]⟩ from rfl),bnd (show qAb ([x]:List Int) 0=some x from rfl),bnd (show qAb ([⟨7,[x]⟩,⟨4,[y]⟩]:List Result) 1=some ⟨4,[y]⟩ from rfl),bnd (show qAb ([y]:List Int) 0=some y from rfl),bnd (show qAb ([pl2 x y,pl2 y x]:List Int) 0=some (pl2 x y) from rfl),bnd (show qAb ([pl2 x y,pl2 y x]:List Int) 1=some (pl2 y x) from rfl)]
 obtain ⟨c1,c2⟩:=qUE x y
 rw [c1,c2]
 simp only [Bool.and_self,qCX]
 rw [bnd (show qAb ([pl2 y x,pl2 x y]:List Int) 0=some (pl2 y x) from rfl),beq_self_eq_true]
 simp only [Bool.and_self,qCX]
 rw [bnd (show qAb ([pl2 y x,pl2 x y]:List Int) 1=some (pl2 x y) from rfl),beq_self_eq_true]
 rfl
theorem qUC (more:List Int) (hm:more.length ≤ 9223372036854775807) (fuel:Nat) (hf:1048576 < fuel) (x1:(Code × Performance × Performance × Int)) (ha:qPT x1.1 x1.2.1) (hb:qPT x1.1 x1.2.2.1) (a1:qAi fuel x1.1 x1.2.1=some true) (a2:qDM fuel x1.1 x1.2.1=some true) (b1:qAi fuel x1.1 x1.2.2.1=some true) (b2:qDM fuel x1.1 x1.2.2.1=some true) :
  qBq more fuel x1 fuel [] 1 [] [] 0=some true:=by
 have hmod:0 ≤ (more.length:Int).tmod 9∧(more.length:Int).tmod 9 < 9:=qJY (by omega) (by omega)
 have he:1 ≤ 1+(more.length:Int).tmod 9∧1+(more.length:Int).tmod 9 ≤ 9:=by omega
 obtain ⟨f,rfl⟩:∃ f,fuel=f+3:=⟨fuel - 3,by omega⟩
 generalize hF:f+3=F at hf a1 a2 b1 b2 ⊢
 have hF3:F=f+3:=hF.symm
 obtain ⟨⟨ce,cl',cr,cb,ck,cf⟩,⟨ai,⟨ag,ac⟩,⟨as1,as2,as3⟩⟩,⟨bi,⟨bg,bc⟩,⟨bs1,bs2,bs3⟩⟩,n⟩:=x1
 obtain ⟨L,t,k,d,B,J,p1,p2,p3,p4,p5,p6,p7,p8,p9,p10⟩:=qOz ha F hf a1 a2
 obtain ⟨L',t',k',d',B',J',q1,q2,q3,q4,q5,q6,q7,q8,q9,q10⟩:=qOz hb F hf b1 b2
 dsimp only at p1 p2 p3 p5 p6 p7 p9 p10 q1 q2 q3 q5 q6 q7 q9 q10
 generalize qFB _ _ 100=S at p1 p2 p5 p9 p10
 generalize qFB _ _ 100=S' at q1 q2 q5 q9 q10
 conv=>lhs;arg 4;rw [hF3]
 rw [qBq]
 dsimp only
 rw [decide_eq_true (by simp),cond_true,bnd (show qAb [Performance.mk ai (Marks.mk ag ac) (Slips.mk as1 as2 as3),Performance.mk bi (Marks.mk bg bc) (Slips.mk bs1 bs2 bs3)] 0=some (Performance.mk ai (Marks.mk ag ac) (Slips.mk as1 as2 as3)) from rfl)]
 dsimp only
 rw [bnd p1,bnd p2,bnd p3,bnd p5,bnd p6,bnd p7]
 dsimp only
 rw [bne_self_eq_false,show ((([t,k,d,S]:List Int).length:Int) != 4)=false from rfl]
 simp only [Bool.not_true,Bool.not_false,Bool.or_self,qCX]
 rw [bnd (show qAb ([t,k,d,S]:List Int) 0=some t from rfl),bnd p4,bne_self_eq_false]
 simp only [Bool.not_true,Bool.not_false,Bool.or_self,qCX]
 rw [bnd (show qAb ([t,k,d,S]:List Int) 3=some S from rfl),bne_self_eq_false]
 simp only [Bool.not_true,Bool.not_false,Bool.or_self,cond_false]
 have e1:=qTB more F (⟨ce,cl',cr,cb,ck,cf⟩,⟨ai,⟨ag,ac⟩,⟨as1,as2,as3⟩⟩,⟨bi,⟨bg,bc⟩,⟨bs1,bs2,bs3⟩⟩,n) [] 1 [] [] 0 ⟨ai,⟨ag,ac⟩,⟨as1,as2,as3⟩⟩ (S,true) S B true true true J p8 p9 p10 ((J:Int) - 0).toNat F 0 rfl (by omega) (by omega) (by omega)
 rw [e1]
 rw [qRi more F (⟨ce,cl',cr,cb,ck,cf⟩,⟨ai,⟨ag,ac⟩,⟨as1,as2,as3⟩⟩,⟨bi,⟨bg,bc⟩,⟨bs1,bs2,bs3⟩⟩,n) [] 1 [] [] ⟨ai,⟨ag,ac⟩,⟨as1,as2,as3⟩⟩ S B J 0 (.inl rfl) (by simp) (by simp) (T:=⟨1,[⟨7,[1+(more.length:Int).tmod 9],[S]⟩]⟩) hm p9.1 (fun hS=>(qKw he (p:=S) (q:=0) ⟨p9.1,hS⟩ (by omega) F hf).1)]
 by_cases hS:S > 100000
 ·rw [if_pos hS]
  rfl
 ·rw [if_neg hS]
  show qBq more F (⟨ce,cl',cr,cb,ck,cf⟩,⟨ai,⟨ag,ac⟩,⟨as1,as2,as3⟩⟩,⟨bi,⟨bg,bc⟩,⟨bs1,bs2,bs3⟩⟩,n) (f+2) [⟨7,[S]⟩] 1 [⟨7,[1+(more.length:Int).tmod 9],[S]⟩] [⟨1+(more.length:Int).tmod 9,7,S⟩] (w64 (0+1))=some true
  rw [qBq,qAG (by omega)]
  dsimp only
  rw [decide_eq_true (by simp),cond_true,bnd (show qAb [Performance.mk ai (Marks.mk ag ac) (Slips.mk as1 as2 as3),Performance.mk bi (Marks.mk bg bc) (Slips.mk bs1 bs2 bs3)] (0+1)=some (Performance.mk bi (Marks.mk bg bc) (Slips.mk bs1 bs2 bs3)) from rfl)]
  dsimp only
  rw [bnd q1,bnd q2,bnd q3,bnd q5,bnd q6,bnd q7]
  dsimp only
  rw [bne_self_eq_false,show ((([t',k',d',S']:List Int).length:Int) != 4)=false from rfl]
  simp only [Bool.not_true,Bool.not_false,Bool.or_self,qCX]
  rw [bnd (show qAb ([t',k',d',S']:List Int) 0=some t' from rfl),bnd q4,bne_self_eq_false]
  simp only [Bool.not_true,Bool.not_false,Bool.or_self,qCX]
  rw [bnd (show qAb ([t',k',d',S']:List Int) 3=some S' from rfl),bne_self_eq_false]
  simp only [Bool.not_true,Bool.not_false,Bool.or_self,cond_false]
  have e2:=qTB more F (⟨ce,cl',cr,cb,ck,cf⟩,⟨ai,⟨ag,ac⟩,⟨as1,as2,as3⟩⟩,⟨bi,⟨bg,bc⟩,⟨bs1,bs2,bs3⟩⟩,n) [⟨7,[S]⟩] 1 [⟨7,[1+(more.length:Int).tmod 9],[S]⟩] [⟨1+(more.length:Int).tmod 9,7,S⟩] (0+1) ⟨bi,⟨bg,bc⟩,⟨bs1,bs2,bs3⟩⟩ (S',true) S' B' true true true J' q8 q9 q10 ((J':Int) - 0).toNat F 0 rfl (by omega) (by omega) (by omega)
  rw [e2]
  rw [qRi more F (⟨ce,cl',cr,cb,ck,cf⟩,⟨ai,⟨ag,ac⟩,⟨as1,as2,as3⟩⟩,⟨bi,⟨bg,bc⟩,⟨bs1,bs2,bs3⟩⟩,n) [⟨7,[S]⟩] 1 [⟨7,[1+(more.length:Int).tmod 9],[S]⟩] [⟨1+(more.length:Int).tmod 9,7,S⟩] ⟨bi,⟨bg,bc⟩,⟨bs1,bs2,bs3⟩⟩ S' B' J' (0+1) (.inr rfl) (by simp) (by simp) (T:=⟨1,[⟨4,[1+(more.length:Int).tmod 9],[S']⟩,⟨7,[1+(more.length:Int).tmod 9],[S]⟩]⟩) hm q9.1 (fun hS'=>(qKw he (p:=S) (q:=S') ⟨p9.1,by omega⟩ ⟨q9.1,hS'⟩ F hf).2.1)]
  by_cases hS':S' > 100000
  ·rw [if_pos hS']
   rfl
  ·rw [if_neg hS']
   show qBq more F (⟨ce,cl',cr,cb,ck,cf⟩,⟨ai,⟨ag,ac⟩,⟨as1,as2,as3⟩⟩,⟨bi,⟨bg,bc⟩,⟨bs1,bs2,bs3⟩⟩,n) (f+1) [⟨7,[S]⟩,⟨4,[S']⟩] 1 [⟨4,[1+(more.length:Int).tmod 9],[S']⟩,⟨7,[1+(more.length:Int).tmod 9],[S]⟩] [⟨1+(more.length:Int).tmod 9,7,S⟩,⟨1+(more.length:Int).tmod 9,4,S'⟩] (w64 (0+1+1))=some true
   rw [qAG (by omega)]
   exact qSm more F hf (⟨ce,cl',cr,cb,ck,cf⟩,⟨ai,⟨ag,ac⟩,⟨as1,as2,as3⟩⟩,⟨bi,⟨bg,bc⟩,⟨bs1,bs2,bs3⟩⟩,n) f he ⟨p9.1,by omega⟩ ⟨q9.1,by omega⟩
end

end Go.Proofs.YtpmgadenilnabaaGreat

/- Plain lemmas: what the functions compute is what the reference says, in plain Lean. No condition. -/
import Derived.Test.YtegdphhfimaieaaGreatPSeason8
set_option maxRecDepth 4000
set_option maxHeartbeats 1000000
set_option linter.unusedVariables false
set_option linter.unusedSimpArgs false
set_option linter.unusedSectionVars false

namespace Go.Proofs.YtegdphhfimaieaaGreat
open Go.AM

def WorldOk (w:World):Prop:=(∀ s ∈ w.seasons,SeasonOk s)∧(∀ n ∈ w.weights,0 ≤ n∧n ≤ 100)∧w.weights.Pairwise (· ≥ ·)∧(1 ≤ w.seasons.length∧w.seasons.length ≤ 3)∧w.weights.length=w.seasons.length
theorem ret_wlGood_l2 (w:World) (hs:∀ s ∈ w.seasons,SeasonOk s) (hl:w.weights.length ≤ 1048576):∀ (ys pre:List Int),w.weights=pre++ys→(∀ n ∈ pre,0 ≤ n∧n ≤ 100)→pre.Pairwise (· ≥ ·)→Ret (spec_wlGood_l2 w ys pre.length) (WorldOk w):=by
 intro ys
 induction ys with
 | nil =>
  intro pre h1 h2 h3
  rw [List.append_nil] at h1
  rw [spec_wlGood_l2]
  refine (ret_l1In (w.seasons.length:Int) 1 3).bindR (fun h=>.some ?_) (fun h=>.f fun k=>h ?_)
  ·simp only [Bool.true_and,beq_iff_eq]
   unfold WorldOk
   rw [h1]
   exact ⟨fun k=>⟨hs,h2,h3,by omega,by omega⟩,fun k=>by have:=k.2.2.2.2;omega⟩
  ·have:=k.2.2.2.1;omega
 | cons y ys ih =>
  intro pre h1 h2 h3
  have hy:y ∈ w.weights:=by rw [h1];simp
  rw [spec_wlGood_l2]
  refine (ret_l1In y 0 100).bindR (fun h=>?_) (fun h=>.f fun k=>h (k.2.1 y hy))
  simp only [Bool.not_true,Bool.not_false,Bool.true_and,Bool.false_or]
  have fin:(∀ l,pre.getLast?=some l→l ≥ y)→Ret (spec_wlGood_l2 w ys (pre.length+1)) (WorldOk w):=by
   intro hlast
   have:=ih (pre++[y]) (by rw [h1];simp) (by
    intro n hn;rcases List.mem_append.1 hn with hn | hn
    ·exact h2 n hn
    ·obtain rfl:=List.mem_singleton.1 hn;exact h) (pw_snoc (R:=fun a b:Int=>a ≥ b) (fun a b c p q=>by omega) h3 hlast)
   simpa using this
  rcases List.eq_nil_or_concat pre with rfl | ⟨q,z,rfl⟩
  ·simp only [List.length_nil,zero_d,opt_f,Option.bind_some,Bool.false_and,cond_false]
   exact fin (by simp)
  ·simp only [List.concat_eq_append] at *
   have hkl:(q++[z]).length=q.length+1:=by simp
   have hq:q.length ≤ 1048576:=by rw [h1] at hl;simp at hl;omega
   rw [hkl] at fin ⊢
   simp only [pos_d,opt_t,Bool.true_and]
   rw [w64_pred (by omega),bnd (getI_app (pre:=q) (y:=z) (ys:=y::ys) (by rw [h1];simp) rfl)]
   refine .dcond (fun hlt=>.f fun k=>?_) (fun hlt=>fin ?_)
   ·have:=k.2.2.1
    rw [h1] at this
    have:=(List.pairwise_append.1 this).2.2 z (by simp) y (by simp)
    omega
   ·intro l hl';simp at hl';subst hl';omega
theorem ret_wlGood_l1 (w:World) (hb:nWorld w ≤ 1048576):∀ (ys pre:List Season),w.seasons=pre++ys→(∀ s ∈ pre,SeasonOk s)→Ret (spec_wlGood_l1 w ys pre.length) (WorldOk w):=by
 have hlw:w.weights.length ≤ 1048576:=by unfold nWorld nIntS at hb;omega
 have hns:∀ s ∈ w.seasons,nSeason s ≤ 1048576:=fun s hs=>by have:=le_sum hs (fun x=>nSeason x);unfold nWorld nSeasonS at hb;omega
 intro ys
 induction ys with
 | nil =>
  intro pre h1 h2
  rw [List.append_nil] at h1
  rw [spec_wlGood_l1]
  exact ret_wlGood_l2 w (by rw [h1];exact h2) hlw w.weights [] rfl (by simp) List.Pairwise.nil
 | cons y ys ih =>
  intro pre h1 h2
  have hy:y ∈ w.seasons:=by rw [h1];simp
  rw [spec_wlGood_l1]
  refine (ret_seGood y (hns y hy)).bindR (fun h=>?_) (fun h=>.f fun k=>h (k.1 y hy))
  simp only [Bool.not_true,cond_false]
  have:=ih (pre++[y]) (by rw [h1];simp) (by
   intro n hn;rcases List.mem_append.1 hn with hn | hn
   ·exact h2 n hn
   ·obtain rfl:=List.mem_singleton.1 hn;exact h)
  simpa using this
theorem ret_wlGood (w:World) (hb:nWorld w ≤ 1048576):Ret (spec_wlGood_p w) (WorldOk w):=ret_wlGood_l1 w hb w.seasons [] rfl (by simp)
theorem ret_allWithin (lo hi:Int):∀ (l:List Int) (k:Nat),Ret (impl_allWithin_l1 lo hi l k) (∀ n ∈ l,lo ≤ n∧n ≤ hi):=by
 intro l
 induction l with
 | nil=>intro k;rw [impl_allWithin_l1];exact .t (by simp)
 | cons y l ih =>
  intro k
  rw [impl_allWithin_l1]
  refine (ret_within y lo hi).bindR (fun h=>?_) (fun h=>.f fun q=>h (q y (by simp)))
  simp only [Bool.not_true,cond_false]
  refine (ih (k+1)).iff ⟨fun q n hn=>?_,fun q n hn=>q n (by simp [hn])⟩
  rcases List.mem_cons.1 hn with rfl | hn
  ·exact h
  ·exact q n hn
theorem ret_IsWorld_l (w:World) (hb:nWorld w ≤ 1048576) (fuel:Nat) (hf:1048576 < fuel) (h3:1 ≤ w.seasons.length∧w.seasons.length ≤ 3) (h4:∀ n ∈ w.weights,0 ≤ n∧n ≤ 100) (h5:w.weights.length=w.seasons.length) :
  ∀ (ys pre:List Season) (ns pn:List Int),w.seasons=pre++ys→w.weights=pn++ns→pn.length=pre.length→ns.length=ys.length→(∀ s ∈ pre,SeasonOk s)→pn.Pairwise (· ≥ ·)→Ret (impl_IsWorld_l1 w fuel ys pre.length) (WorldOk w):=by
 have hns:∀ s ∈ w.seasons,nSeason s ≤ 1048576:=fun s hs=>by have:=le_sum hs (fun x=>nSeason x);unfold nWorld nSeasonS at hb;omega
 intro ys
 induction ys with
 | nil =>
  intro pre ns pn h1 h2 g1 g2 g3 g4
  obtain rfl:ns=[]:=List.eq_nil_of_length_eq_zero g2
  rw [List.append_nil] at h1 h2
  rw [impl_IsWorld_l1]
  exact .t ⟨by rw [h1];exact g3,h4,by rw [h2];exact g4,h3,h5⟩
 | cons y ys ih =>
  intro pre ns pn h1 h2 g1 g2 g3 g4
  cases ns with
  | nil=>simp at g2
  | cons n ns =>
  have hy:y ∈ w.seasons:=by rw [h1];simp
  rw [impl_IsWorld_l1]
  refine (ret_impl_IsSeason y (hns y hy) fuel hf).bindR (fun h=>?_) (fun h=>.f fun k=>h (k.1 y hy))
  simp only [Bool.not_true,Bool.not_false,Bool.true_and,Bool.false_or]
  have fin:(∀ l,pn.getLast?=some l→l ≥ n)→Ret (impl_IsWorld_l1 w fuel ys (pre.length+1)) (WorldOk w):=by
   intro hlast
   have:=ih (pre++[y]) ns (pn++[n]) (by rw [h1];simp) (by rw [h2];simp) (by simp [g1]) (by simpa using g2) (by
    intro n hn;rcases List.mem_append.1 hn with hn | hn
    ·exact g3 n hn
    ·obtain rfl:=List.mem_singleton.1 hn;exact h) (pw_snoc (R:=fun a b:Int=>a ≥ b) (fun a b c p q=>by omega) g4 hlast)
   simpa using this
  rcases List.eq_nil_or_concat pn with rfl | ⟨q,z,rfl⟩
  ·obtain rfl:pre=[]:=List.eq_nil_of_length_eq_zero g1.symm
   simp only [List.length_nil,zero_d,opt_f,Option.bind_some,Bool.false_and,cond_false]
   exact fin (by simp)
  ·simp only [List.concat_eq_append] at *
   have hkl:pre.length=q.length+1:=by rw [← g1];simp
   have hq:q.length ≤ 3:=by rw [h2] at h5;simp at h5;omega
   rw [hkl] at fin ⊢
   simp only [pos_d,opt_t,Bool.true_and]
   rw [bnd (getI_app h2 (by simp)),w64_pred (by omega),bnd (getI_app (pre:=q) (y:=z) (ys:=n::ns) (by rw [h2];simp) rfl)]
   refine .dcond (fun hlt=>.f fun k=>?_) (fun hlt=>fin ?_)
   ·have:=k.2.2.1
    rw [h2] at this
    have:=(List.pairwise_append.1 this).2.2 z (by simp) n (by simp)
    omega
   ·intro l hl';simp at hl';subst hl';omega
theorem ret_impl_IsWorld (w:World) (hb:nWorld w ≤ 1048576) (fuel:Nat) (hf:1048576 < fuel):Ret (impl_IsWorld_p fuel w) (WorldOk w):=by
 unfold impl_IsWorld_p
 refine (ret_within (w.seasons.length:Int) 1 3).bindR (fun h=>?_) (fun h=>.f fun k=>h ?_)
 ·simp only [Bool.not_true,Bool.false_or]
  by_cases h5:w.weights.length=w.seasons.length
  ·rw [show ((w.weights.length:Int) != (w.seasons.length:Int))=false from by simp [h5]]
   simp only [Bool.not_false,opt_t,Bool.false_or]
   refine (ret_allWithin 0 100 w.weights 0).bindR (fun h4=>?_) (fun h4=>.f fun k=>h4 k.2.1)
   simp only [Bool.not_true,cond_false]
   exact ret_IsWorld_l w hb fuel hf (by omega) h4 h5 w.seasons [] w.weights [] rfl rfl rfl h5 (by simp) List.Pairwise.nil
  ·rw [show ((w.weights.length:Int) != (w.seasons.length:Int))=true from by simpa using (by omega)]
   exact .f fun k=>h5 k.2.2.2.2
 ·have:=k.2.2.2.1;omega
theorem both_world (w:World) (hb:nWorld w ≤ 1048576) (fuel:Nat) (hf:1048576 < fuel):(spec_wlGood_p w=some true∧impl_IsWorld_p fuel w=some true∧WorldOk w) ∨ (spec_wlGood_p w=some false∧impl_IsWorld_p fuel w=some false∧¬ WorldOk w):=by
 obtain ⟨b,h1,h2⟩:=ret_wlGood w hb
 obtain ⟨b',h3,h4⟩:=ret_impl_IsWorld w hb fuel hf
 obtain rfl:b=b':=Bool.eq_iff_iff.2 (h2.trans h4.symm)
 cases b
 ·right;exact ⟨h1,h3,fun h=>by have:=h2.2 h;simp at this⟩
 ·left;exact ⟨h1,h3,h2.1 rfl⟩
theorem season_n {s:Season} (h:SeasonOk s):nSeason s ≤ 240:=by have:=fresh_size (season_fresh h);have:=h.2.2.2.2;omega
def rd (a:Int):Int:=cond (decide (((w64 (w64 (2 * a)+100)).tmod 200) < 0)) (w64 (w64 ((w64 (w64 (2 * a)+100)).tdiv 200) - 1)) (w64 ((w64 (w64 (2 * a)+100)).tdiv 200))
theorem roundDiv_eq (a:Int):impl_roundDiv_p a 100=some (rd a):=by
 unfold impl_roundDiv_p impl_floorDiv_p rd
 rw [show w64 (2 * 100)=(200:Int) from by rw [w64_in (by omega)];rfl]
 rw [show need ((200:Int) != 0)=some () from rfl]
 cases decide (((w64 (w64 (2 * a)+100)).tmod 200) < 0) <;> rfl
theorem poRound_eq (a:Int):spec_poRound_p a 100=some (rd a):=by
 unfold spec_poRound_p spec_poDown_p rd
 rw [show w64 (2 * 100)=(200:Int) from by rw [w64_in (by omega)];rfl]
 rw [show need ((200:Int) != 0)=some () from rfl]
 cases decide (((w64 (w64 (2 * a)+100)).tmod 200) < 0) <;> rfl
def partS (sk:Int) (s:Season) (n:Int):Int:=rd (w64 (sumW (countedL ((findL s sk).getD ⟨sk,[],[]⟩) s.best) * n))
def partsW (w:World) (sk:Int):List Int:=List.zipWith (partS sk) w.seasons w.weights
theorem part_none {s:Season} {sk:Int} (h:findL s sk=none) (n:Int):partS sk s n=0:=by
 unfold partS countedL
 rw [h]
 simp only [Option.getD_none,List.take_nil]
 unfold sumW
 rw [List.foldl_nil,Int.zero_mul]
 rfl
def hasW (w:World) (sk:Int):Bool:=w.seasons.any fun s=>(findL s sk).isSome
theorem seasonParts_l (w:World) (sk:Int) (hl:w.seasons.length ≤ 3) (hok:∀ s ∈ w.seasons,SeasonOk s):∀ (ys pre:List Season) (ns pn acc:List Int),w.seasons=pre++ys→w.weights=pn++ns→pn.length=pre.length→ns.length=ys.length→acc.length=pre.length →
  impl_seasonParts_l1 w sk ys pre.length acc=some (acc++List.zipWith (partS sk) ys ns):=by
 intro ys
 induction ys with
 | nil=>intro pre ns pn acc h1 h2 g1 g2 g3;obtain rfl:ns=[]:=List.eq_nil_of_length_eq_zero g2;rw [impl_seasonParts_l1];simp
 | cons y ys ih =>
  intro pre ns pn acc h1 h2 g1 g2 g3
  cases ns with
  | nil=>simp at g2
  | cons n ns =>
  have hy:=hok y (by rw [h1];simp)
  have hp:pre.length ≤ 3:=by rw [h1] at hl;simp at hl;omega
  rw [impl_seasonParts_l1,bnd (lineOf_eq y sk),bnd (counting_eq _ _ hy.1),bnd (sumInts_eq _),bnd (getI_app h2 (by rw [g1])),bnd (roundDiv_eq _),bnd (x:=()) (by rw [fits_of (by simp;omega)];rfl)]
  have:=ih (pre++[y]) ns (pn++[n]) (acc++[partS sk y n]) (by rw [h1];simp) (by rw [h2];simp) (by simp [g1]) (by simpa using g2) (by simp [g3])
  rw [List.length_append,List.length_singleton] at this
  refine this.trans ?_
  simp
theorem wlParts_l (w:World) (sk:Int) (hb:nWorld w ≤ 1048576) (hl:w.seasons.length ≤ 3) (hok:∀ s ∈ w.seasons,SeasonOk s) (fuel:Nat) (hf:1048576 < fuel):∀ (ys pre:List Season) (ns pn acc:List Int) (b:Bool),w.seasons=pre++ys→w.weights=pn++ns→pn.length=pre.length→ns.length=ys.length→acc.length=pre.length →
  spec_wlParts_l1 w sk fuel ys pre.length acc b=some (acc++List.zipWith (partS sk) ys ns,b || ys.any fun s=>(findL s sk).isSome):=by
 intro ys
 induction ys with
 | nil=>intro pre ns pn acc b h1 h2 g1 g2 g3;obtain rfl:ns=[]:=List.eq_nil_of_length_eq_zero g2;rw [spec_wlParts_l1];simp
 | cons y ys ih =>
  intro pre ns pn acc b h1 h2 g1 g2 g3
  cases ns with
  | nil=>simp at g2
  | cons n ns =>
  have hy:=hok y (by rw [h1];simp)
  have hp:pre.length ≤ 3:=by rw [h1] at hl;simp at hl;omega
  rw [spec_wlParts_l1]
  rcases seHas_eq y sk (by have:=lines_len hy;omega) hy.2.2.1 fuel hf with ⟨k,x,q1,q2,q3,q4,_⟩ | ⟨q1,q2,q3⟩
  ·rw [bnd q1,show decide ((k:Int) ≥ 0)=true from decide_eq_true (by omega),cond_true,bnd (seTotal_eq y k x q2 hy.1),bnd (getI_app h2 (by rw [g1])),bnd (poRound_eq _),bnd (x:=()) (by rw [fits_of (by simp;omega)];rfl)]
   have hpart:rd (w64 (sumW (countedL x y.best) * n))=partS sk y n:=by unfold partS;rw [q4];rfl
   rw [hpart]
   have:=ih (pre++[y]) ns (pn++[n]) (acc++[partS sk y n]) true (by rw [h1];simp) (by rw [h2];simp) (by simp [g1]) (by simpa using g2) (by simp [g3])
   rw [List.length_append,List.length_singleton] at this
   refine this.trans ?_
   simp [q4]
  ·rw [bnd q1,show decide ((-1:Int) ≥ 0)=false from rfl,cond_false,bnd (x:=()) (by rw [fits_of (by simp;omega)];rfl)]
   have:=ih (pre++[y]) ns (pn++[n]) (acc++[0]) b (by rw [h1];simp) (by rw [h2];simp) (by simp [g1]) (by simpa using g2) (by simp [g3])
   rw [List.length_append,List.length_singleton] at this
   refine this.trans ?_
   simp [q2,part_none q2]
theorem impl_parts (w:World) (sk:Int) (h:WorldOk w):impl_seasonParts_p w sk=some (partsW w sk):=by
 unfold impl_seasonParts_p partsW
 have:=seasonParts_l w sk h.2.2.2.1.2 h.1 w.seasons [] w.weights [] [] rfl rfl rfl h.2.2.2.2 rfl
 simpa using this
theorem spec_parts (w:World) (sk:Int) (hb:nWorld w ≤ 1048576) (h:WorldOk w) (fuel:Nat) (hf:1048576 < fuel):spec_wlParts_p fuel w sk=some (partsW w sk,hasW w sk):=by
 unfold spec_wlParts_p partsW hasW
 have:=wlParts_l w sk hb h.2.2.2.1.2 h.1 fuel hf w.seasons [] w.weights [] [] false rfl rfl rfl h.2.2.2.2 rfl
 simpa using this
theorem copySeason_eq (s:Season) (h:SeasonOk s):impl_copySeason_p s=some s:=by
 unfold impl_copySeason_p
 have hl:=h.2.2.2.2
 rw [bnd (entriesOf_eq s (by have:=season_n h;omega) (fun x hx=>(h.2.1 x hx).1))]
 obtain ⟨t,t1,t2⟩:=impl_fresh_of s.best _ (season_good h) (by omega)
 obtain rfl:=t2.uniq (season_fresh h)
 rw [bnd t1]
theorem seOwn_n (s:Season) (hb:nSeason s ≤ 1048576):spec_seOwn_p s=some s:=by
 have hev:∀ x ∈ s.lines,nLine x ≤ 1048576:=fun x hx=>by have:=le_sum hx (fun x=>nLine x);unfold nSeason nLineS at hb;omega
 refine seOwn_eq s (fun x hx=>?_) (by unfold nSeason nLineS at hb;omega)
 have:=hev x hx
 unfold nLine nIntS at this;omega
theorem wlWith_l (x1:List Int):∀ (ys:List Season) (k:Nat) (acc:List Season),(∀ s ∈ ys,nSeason s ≤ 1048576)→acc.length+ys.length ≤ 1048577→spec_wlWith_l1 x1 ys k acc=some ⟨acc++ys,x1⟩:=by
 intro ys
 induction ys with
 | nil=>intro k acc _ _;rw [spec_wlWith_l1];simp
 | cons y ys ih =>
  intro k acc h1 h2
  simp only [List.length_cons] at h2
  rw [spec_wlWith_l1,bnd (seOwn_n y (h1 y (by simp))),bnd (x:=()) (by rw [fits_of (by simp;omega)];rfl),ih (k+1) _ (fun s hs=>h1 s (by simp [hs])) (by simp;omega)]
  simp
theorem wlWith_eq (l:List Season) (ns:List Int) (h1:∀ s ∈ l,nSeason s ≤ 1048576) (h2:l.length ≤ 1048577) (h3:ns.length ≤ 1048577):spec_wlWith_p l ns=some ⟨l,ns⟩:=by
 unfold spec_wlWith_p
 rw [bnd (own_eq ns h3),wlWith_l ns l 0 [] h1 (by simpa using h2)]
 simp
def nsEnd (w:World) (ns:List Int) (l:List Season):Option (World × Bool) :=
 cond (decide ((w.seasons.length:Int) < 3)) ((getI w.weights (w64 ((w.weights.length:Int) - 1))).bind fun x26=>(need (fitsB 8 (ns.length+([x26]).length))).bind fun _=>some ((World.mk l (ns++[x26])),true)) (some ((World.mk l ns),true))
theorem newSeason_l (w:World) (ns:List Int) (hn:ns.length ≤ 3):∀ (ys:List Season) (k:Nat) (acc:List Season),(∀ s ∈ ys,SeasonOk s)→acc.length+ys.length ≤ 10→impl_NewSeason_l1 w ns ys k acc=nsEnd w ns (acc++ys):=by
 intro ys
 induction ys with
 | nil=>intro k acc _ _;rw [impl_NewSeason_l1,List.append_nil];rfl
 | cons y ys ih =>
  intro k acc h1 h2
  simp only [List.length_cons] at h2
  rw [impl_NewSeason_l1,bnd (copySeason_eq y (h1 y (by simp))),bnd (x:=()) (by rw [fits_of (by simp;omega)];rfl),ih (k+1) _ (fun s hs=>h1 s (by simp [hs])) (by simp;omega)]
  simp only [List.append_assoc,List.singleton_append]
theorem nSeasonS_le {l:List Season} (h:∀ s ∈ l,nSeason s ≤ 240):nSeasonS l ≤ 241 * l.length:=by
 unfold nSeasonS
 induction l with
 | nil=>simp
 | cons y l ih =>
  have:=h y (by simp)
  have:=ih (fun s hs=>h s (by simp [hs]))
  simp only [List.map_cons,List.sum_cons,List.length_cons];omega
theorem same_NewSeason (w:World) (hb:nWorld w ≤ 1048576) (best:Int) (fuel:Nat) (hf:1048576 < fuel):∃ r:World × Bool,spec_NewSeason_p w best=some r∧impl_NewSeason_p fuel w best=some r∧nWorld r.1 ≤ 1000:=by
 unfold spec_NewSeason_p impl_NewSeason_p
 rcases both_world w hb fuel hf with ⟨h1,h2,h3⟩ | ⟨h1,h2,h3⟩
 ·rw [bnd h1,bnd h2]
  simp only [Bool.not_true,Bool.not_false,opt_t,Bool.false_or]
  obtain ⟨b,e1,e2⟩:=ret_l1In best 1 9
  obtain ⟨b',f1,f2⟩:=ret_isBest best
  obtain rfl:b=b':=Bool.eq_iff_iff.2 (e2.trans f2.symm)
  rw [bnd e1,bnd f1]
  cases b
  ·exact ⟨_,rfl,rfl,by decide⟩
  ·simp only [Bool.not_true,cond_false]
   have hl:=h3.2.2.2.1;have hwl:=h3.2.2.2.2
   rw [bnd (x:=()) (by rw [fits_of (by simp;omega)];rfl),bnd (own_eq w.weights (by omega)),bnd (copyInts_eq w.weights (by omega))]
   have hn:∀ s ∈ [Season.mk best []]++w.seasons,nSeason s ≤ 240:=by
    intro s hs;rcases List.mem_append.1 hs with hs | hs
    ·obtain rfl:=List.mem_singleton.1 hs;exact Nat.zero_le 240
    ·exact season_n (h3.1 s hs)
   by_cases h:w.seasons.length=3
   ·rw [decide_eq_true (by simp [h]),cond_true,show min (w.seasons.length:Int) 2=((2:Nat):Int) from by rw [h];rfl,bnd (sliceHi_of (i:=3) (k:=3) rfl (by rw [List.length_append,h];exact Nat.le_add_left 3 1)),bnd (sliceHi_of (k:=2) rfl (by omega)),
     newSeason_l w w.weights (by omega) _ 0 _ (fun s hs=>h3.1 s (List.mem_of_mem_take hs)) (by simp;omega)]
    unfold nsEnd
    rw [decide_eq_false (by omega),cond_false]
    have e:List.take 3 ([Season.mk best []]++w.seasons)=[Season.mk best []]++w.seasons.take 2:=rfl
    rw [e,bnd (wlWith_eq _ _ (fun s hs=>by have:=hn s (by rcases List.mem_append.1 hs with hs | hs;exact List.mem_append_left _ hs;exact List.mem_append_right _ (List.mem_of_mem_take hs));omega) (by simp;omega) (by omega))]
    refine ⟨_,rfl,rfl,?_⟩
    have:=nSeasonS_le (l:=[Season.mk best []]++w.seasons.take 2) (fun s hs=>hn s (by rcases List.mem_append.1 hs with hs | hs;exact List.mem_append_left _ hs;exact List.mem_append_right _ (List.mem_of_mem_take hs)))
    simp only [List.length_append,List.length_take,List.length_cons,List.length_nil] at this
    unfold nWorld nIntS;dsimp only;omega
   ·rw [decide_eq_false (by simp;omega),cond_false,w64_in (by omega)]
    have hlast:getI w.weights ((w.weights.length:Int) - 1)=some (w.weights[w.weights.length - 1]'(by omega)):=by
     rw [getI_of (k:=w.weights.length - 1) (by omega)];exact List.getElem?_eq_getElem _
    rw [bnd hlast,bnd (x:=()) (by rw [fits_of (by simp;omega)];rfl),show min (w.seasons.length:Int) 2=(w.seasons.length:Int) from by omega,bnd (sliceHi_of (k:=w.seasons.length) rfl (Nat.le_refl _)),List.take_length,
     newSeason_l w w.weights (by omega) _ 0 _ h3.1 (by simp;omega)]
    unfold nsEnd
    rw [decide_eq_true (by omega),cond_true,w64_in (by omega),bnd hlast,bnd (x:=()) (by rw [fits_of (by simp;omega)];rfl),
     bnd (wlWith_eq _ _ (fun s hs=>by have:=hn s hs;omega) (by simp;omega) (by simp;omega))]
    refine ⟨_,rfl,rfl,?_⟩
    have:=nSeasonS_le hn
    simp only [List.length_append,List.length_cons,List.length_nil] at this
    unfold nWorld nIntS;dsimp only;simp only [List.length_append,List.length_cons,List.length_nil];omega
 ·rw [bnd h1,bnd h2]
  exact ⟨_,rfl,rfl,by decide⟩
theorem addToWorld_l (ns:List Int):∀ (ys:List Season) (k:Nat) (acc:List Season),(∀ s ∈ ys,SeasonOk s)→acc.length+ys.length ≤ 10→impl_AddToWorld_l1 ns ys k acc=some (⟨acc++ys,ns⟩,true):=by
 intro ys
 induction ys with
 | nil=>intro k acc _ _;rw [impl_AddToWorld_l1];simp
 | cons y ys ih =>
  intro k acc h1 h2
  simp only [List.length_cons] at h2
  rw [impl_AddToWorld_l1,bnd (copySeason_eq y (h1 y (by simp))),bnd (x:=()) (by rw [fits_of (by simp;omega)];rfl),ih (k+1) _ (fun s hs=>h1 s (by simp [hs])) (by simp;omega)]
  simp
theorem same_AddToWorld (w:World) (hb:nWorld w ≤ 1048576) (e:Entry) (fuel:Nat) (hf:1048576 < fuel):∃ r:World × Bool,spec_AddToWorld_p fuel w e=some r∧impl_AddToWorld_p fuel w e=some r∧nWorld r.1 ≤ 1000:=by
 unfold spec_AddToWorld_p impl_AddToWorld_p
 rcases both_world w hb fuel hf with ⟨h1,h2,h3⟩ | ⟨h1,h2,h3⟩
 ·rw [bnd h1,bnd h2]
  simp only [Bool.not_true,cond_false]
  have hl:=h3.2.2.2.1;have hwl:=h3.2.2.2.2
  obtain ⟨s,r,hs⟩:=List.exists_cons_of_length_pos (l:=w.seasons) (by omega)
  have hg:getI w.seasons 0=some s:=by rw [hs];rfl
  have hok:=h3.1 s (by rw [hs];simp)
  have hrok:∀ t ∈ r,SeasonOk t:=fun t ht=>h3.1 t (by rw [hs];simp [ht])
  have hrl:r.length ≤ 2:=by rw [hs] at hl;simp at hl;omega
  rw [bnd hg,bnd hg]
  obtain ⟨x,g1,g2,g3⟩:=same_AddEntry s (by have:=season_n hok;omega) e fuel hf
  rw [bnd g1,bnd g2]
  cases hx:x.2
  ·exact ⟨_,rfl,rfl,by decide⟩
  ·simp only [Bool.not_true,cond_false]
   rw [bnd (wlWith_eq w.seasons w.weights (fun t ht=>by have:=season_n (h3.1 t ht);omega) (by omega) (by omega)),bnd (copyInts_eq w.weights (by omega)),bnd (show getI (World.mk w.seasons w.weights).seasons 0=some s from hg),bnd (sliceLo_of (i:=1) (k:=1) rfl (by rw [hs];simp))]
   dsimp only
   rw [hs,List.drop_one,List.tail_cons,addToWorld_l w.weights r 0 _ hrok (by simp;omega)]
   refine ⟨_,rfl,rfl,?_⟩
   have:=nSeasonS_le (l:=x.1::r) (fun t ht=>by
    rcases List.mem_cons.1 ht with rfl | ht
    ·exact g3
    ·exact season_n (hrok t ht))
   simp only [List.length_cons] at this
   change nWorld ⟨x.1::r,w.weights⟩ ≤ 1000
   unfold nWorld nIntS;dsimp only;omega
 ·rw [bnd h1,bnd h2]
  exact ⟨_,rfl,rfl,by decide⟩

end Go.Proofs.YtegdphhfimaieaaGreat

/- Plain lemmas: what the functions compute is what the reference says, in plain Lean. No condition. -/
import Derived.Test.YtegdphhfimaieaaGreatPSeason6
set_option maxRecDepth 4000
set_option maxHeartbeats 1000000
set_option linter.unusedVariables false
set_option linter.unusedSimpArgs false
set_option linter.unusedSectionVars false

namespace Go.Proofs.YtegdphhfimaieaaGreat
open Go.AM

def LinesOk (ls:List Line):Prop:=(∀ x ∈ ls,lineN x)∧ls.Pairwise (fun a b=>a.skater < b.skater)
instance (a b:Entry):Decidable (ltE a b):=by unfold ltE;exact inferInstance
def flat (ls:List Line):List Entry:=ls.flatMap lineEs
def GoodL (l:List Entry):Prop:=(∀ e ∈ l,entOk e)∧l.Pairwise (fun a b=>¬ sameE a b)
theorem Ents.goodL {l:List Entry} (h:Ents l):GoodL l:=⟨h.1,h.2.1⟩
theorem ltE_irr (a:Entry):¬ ltE a a:=by unfold ltE;omega
theorem ltE_asym {a b:Entry} (h:ltE a b):¬ ltE b a:=by unfold ltE at *;omega
theorem ltE_tot {a b:Entry} (h:¬ sameE a b):ltE a b ∨ ltE b a:=by unfold sameE at h;unfold ltE;omega
theorem sorted_uniq {l m:List Entry} (h:l.Pairwise ltE) (k:m.Pairwise ltE) (p:l.Perm m):l=m :=
 List.Perm.eq_of_pairwise (le:=ltE) (fun a b _ _ h1 h2=>absurd h2 (ltE_asym h1)) h k p
theorem GoodL.perm {l m:List Entry} (h:GoodL l) (p:m.Perm l):GoodL m :=
 ⟨fun e he=>h.1 e (p.mem_iff.1 he),(p.pairwise_iff (fun {a b} hab hba=>hab ⟨hba.1.symm,hba.2.symm⟩)).2 h.2⟩
theorem zip_ev (k:Int):∀ (a b:List Int),b.length=a.length→(List.zipWith (fun e p=>(⟨e,k,p⟩:Entry)) a b).map (·.event)=a
 | [],[],_=>rfl
 | [],_::_,h=>by simp at h
 | _::_,[],h=>by simp at h
 | x::a,y::b,h=>by simp only [List.zipWith_cons_cons,List.map_cons];rw [zip_ev k a b (by simpa using h)]
theorem zip_pt (k:Int):∀ (a b:List Int),b.length=a.length→(List.zipWith (fun e p=>(⟨e,k,p⟩:Entry)) a b).map (·.points)=b
 | [],[],_=>rfl
 | [],_::_,h=>by simp at h
 | _::_,[],h=>by simp at h
 | x::a,y::b,h=>by simp only [List.zipWith_cons_cons,List.map_cons];rw [zip_pt k a b (by simpa using h)]
theorem lineEs_ev {x:Line} (h:lineN x):(lineEs x).map (·.event)=x.events:=zip_ev x.skater x.events x.points h.1
theorem lineEs_pt {x:Line} (h:lineN x):(lineEs x).map (·.points)=x.points:=zip_pt x.skater x.events x.points h.1
theorem lineEs_ne {x:Line} (h:lineN x):lineEs x ≠ []:=fun e=>by
 have:=lineEs_len h
 rw [e] at this
 exact h.2 (List.eq_nil_of_length_eq_zero this.symm)
theorem line_ext {x y:Line} (hx:lineN x) (hy:lineN y) (hs:x.skater=y.skater) (h:lineEs x=lineEs y):x=y:=by
 have h1:=lineEs_ev hx;have h2:=lineEs_pt hx
 rw [h,lineEs_ev hy] at h1
 rw [h,lineEs_pt hy] at h2
 cases x;cases y
 simp only at hs h1 h2
 subst hs h1 h2
 rfl
theorem flat_sk {ls:List Line} {e:Entry} (h:e ∈ flat ls):∃ x ∈ ls,e ∈ lineEs x∧e.skater=x.skater:=by
 obtain ⟨x,hx,he⟩:=List.mem_flatMap.1 h
 exact ⟨x,hx,he,lineEs_sk he⟩
theorem filt_head {x:Line} {ls:List Line} (h:(x::ls).Pairwise (fun a b=>a.skater < b.skater)):(lineEs x++flat ls).filter (fun e=>decide (e.skater=x.skater))=lineEs x:=by
 rw [List.filter_append,List.filter_eq_self.2 (fun e he=>by simpa using lineEs_sk he),List.filter_eq_nil_iff.2,List.append_nil]
 intro e he
 obtain ⟨y,hy,_,hs⟩:=flat_sk he
 have:=(List.pairwise_cons.1 h).1 y hy
 simp only [decide_eq_true_eq];omega
theorem lines_inj:∀ {l m:List Line},LinesOk l→LinesOk m→flat l=flat m→l=m
 | [],[],_,_,_=>rfl
 | [],y::m,_,hm,h=>by
  have:=lineEs_ne (hm.1 y (by simp))
  simp only [flat,List.flatMap_nil,List.flatMap_cons] at h
  exact absurd (List.append_eq_nil_iff.1 h.symm).1 this
 | x::l,[],hl,_,h=>by
  have:=lineEs_ne (hl.1 x (by simp))
  simp only [flat,List.flatMap_nil,List.flatMap_cons] at h
  exact absurd (List.append_eq_nil_iff.1 h).1 this
 | x::l,y::m,hl,hm,h=>by
  have hx:=hl.1 x (by simp);have hy:=hm.1 y (by simp)
  simp only [flat,List.flatMap_cons] at h
  have hs:x.skater=y.skater:=by
   cases h1:lineEs x with
   | nil=>exact absurd h1 (lineEs_ne hx)
   | cons e r =>
    cases h2:lineEs y with
    | nil=>exact absurd h2 (lineEs_ne hy)
    | cons e' r' =>
     rw [h1,h2] at h
     simp only [List.cons_append,List.cons.injEq] at h
     have g1:e.skater=x.skater:=lineEs_sk (by rw [h1];simp)
     have g2:e'.skater=y.skater:=lineEs_sk (by rw [h2];simp)
     rw [← g1,← g2,h.1]
  have e1:=filt_head hl.2
  have e2:=filt_head hm.2
  have h':lineEs x++flat l=lineEs y++flat m:=h
  rw [h',hs,e2] at e1
  have hxy:=line_ext hx hy hs e1.symm
  subst hxy
  rw [lines_inj (l:=l) (m:=m) ⟨fun z hz=>hl.1 z (by simp [hz]),(List.pairwise_cons.1 hl.2).2⟩ ⟨fun z hz=>hm.1 z (by simp [hz]),(List.pairwise_cons.1 hm.2).2⟩ (List.append_cancel_left h')]
theorem flat_lines_le {ls:List Line} (h:∀ x ∈ ls,lineN x):ls.length ≤ (flat ls).length:=by
 unfold flat
 rw [flat_len_lines h]
 induction ls with
 | nil=>simp
 | cons y l ih =>
  have:=List.length_pos_iff.2 (h y (by simp)).2
  have:=ih (fun x hx=>h x (by simp [hx]))
  simp only [List.map_cons,List.sum_cons,List.length_cons];omega
theorem line_le_flat {ls:List Line} (h:∀ x ∈ ls,lineN x) {x:Line} (hx:x ∈ ls):x.events.length ≤ (flat ls).length:=by
 unfold flat
 rw [flat_len_lines h]
 exact le_sum hx (fun x=>x.events.length)
theorem set_end {α:Type} (q:List α) (x y:α) {n:Nat} (h:n=q.length):(q++[x]).set n y=q++[y]:=by
 subst h;simp [List.set_append]
theorem fresh_l (best:Int):∀ (ys:List Entry) (k:Nat) (ls:List Line),LinesOk ls→(flat ls++ys).Pairwise ltE→(flat ls++ys).length ≤ 1048576 →
  ∃ ls',impl_freshSeason_l1 best ys k ls=some ⟨best,ls'⟩∧LinesOk ls'∧flat ls'=flat ls++ys:=by
 intro ys
 induction ys with
 | nil=>intro k ls h1 h2 h3;exact ⟨ls,by rw [impl_freshSeason_l1],h1,by simp⟩
 | cons y ys ih =>
  intro k ls h1 h2 h3
  have hll:=flat_lines_le h1.1
  have hcut:(flat ls++[y]).Pairwise ltE:=h2.sublist ((List.Sublist.refl (flat ls)).append ((List.nil_sublist ys).cons_cons y))
  rw [List.length_append,List.length_cons] at h3
  rw [impl_freshSeason_l1]
  have hle:∀ x ∈ ls,x.skater ≤ y.skater:=by
   intro x hx
   obtain ⟨e,he⟩:=List.exists_mem_of_ne_nil _ (lineEs_ne (h1.1 x hx))
   have h4:=(List.pairwise_append.1 hcut).2.2 e (List.mem_flatMap.2 ⟨x,hx,he⟩) y (by simp)
   have h5:=lineEs_sk he
   unfold ltE at h4;omega
  have new:(∀ x ∈ ls,x.skater < y.skater)→∃ ls',((need (fitsB 56 (ls.length+([(Line.mk y.skater [] [])]).length))).bind fun u46 =>
    (getI (ls++[(Line.mk y.skater [] [])]) (w64 ((w64 ((ls.length:Int) - 1))+1))).bind fun x48 =>
    (need (fitsB 8 (x48.events.length+([y.event]).length))).bind fun u50 =>
    (getI ((ls++[(Line.mk y.skater [] [])]).set ((w64 ((w64 ((ls.length:Int) - 1))+1)).toNat) (Line.mk x48.skater (x48.events++[y.event]) x48.points)) (w64 ((w64 ((ls.length:Int) - 1))+1))).bind fun x52 =>
    (need (fitsB 8 (x52.points.length+([y.points]).length))).bind fun u54 =>
    impl_freshSeason_l1 best ys (k+1) (((ls++[(Line.mk y.skater [] [])]).set ((w64 ((w64 ((ls.length:Int) - 1))+1)).toNat) (Line.mk x48.skater (x48.events++[y.event]) x48.points)).set ((w64 ((w64 ((ls.length:Int) - 1))+1)).toNat) (Line.mk x52.skater x52.events (x52.points++[y.points]))))=some ⟨best,ls'⟩∧LinesOk ls'∧flat ls'=flat ls++y::ys:=by
   intro hlt
   have hw:w64 (w64 ((ls.length:Int) - 1)+1)=(ls.length:Int):=by rw [w64_in (n:=(ls.length:Int) - 1) (by omega),w64_in (by omega)];omega
   rw [hw,bnd (x:=()) (by rw [fits_of (by simp;omega)];rfl),bnd (getI_pre ls _ [] rfl),Int.toNat_natCast]
   dsimp only
   rw [bnd (x:=()) (by rw [fits_of (by simp)];rfl),set_end _ _ _ rfl,bnd (getI_pre ls _ [] rfl),set_end _ _ _ rfl]
   dsimp only
   rw [bnd (x:=()) (by rw [fits_of (by simp)];rfl)]
   have hf:flat (ls++[⟨y.skater,[]++[y.event],[]++[y.points]⟩])=flat ls++[y]:=by
    unfold flat;rw [List.flatMap_append];cases y;rfl
   obtain ⟨ls',g1,g2,g3⟩:=ih (k+1) (ls++[⟨y.skater,[]++[y.event],[]++[y.points]⟩]) ⟨by
     intro x hx
     rcases List.mem_append.1 hx with hx | hx
     ·exact h1.1 x hx
     ·obtain rfl:=List.mem_singleton.1 hx;exact ⟨rfl,by simp⟩,by
     rw [List.pairwise_append]
     exact ⟨h1.2,List.pairwise_singleton _ _,fun a ha b hb=>by obtain rfl:=List.mem_singleton.1 hb;exact hlt a ha⟩⟩ (by rw [hf];simpa using h2) (by rw [hf];simp;omega)
   exact ⟨ls',g1,g2,by rw [g3,hf];simp⟩
  rcases List.eq_nil_or_concat ls with rfl | ⟨q,x,rfl⟩
  ·have:decide (w64 ((([]:List Line).length:Int) - 1) < 0)=true:=rfl
   rw [this]
   simp only [Bool.not_true,opt_f,Option.bind_some,Bool.true_or,cond_true]
   exact new (by simp)
  ·simp only [List.concat_eq_append] at *
   have hw:w64 (((q++[x]).length:Int) - 1)=(q.length:Int):=by simp at hll ⊢;rw [w64_in (by omega)]
   have hd:decide (w64 (((q++[x]).length:Int) - 1) < 0)=false:=by rw [hw];exact decide_eq_false (by omega)
   have hgx:getI (q++[x]) (q.length:Int)=some x:=getI_pre q x [] rfl
   rw [hd]
   simp only [Bool.not_false,opt_t,Bool.false_or]
   rw [show getI (q++[x]) (w64 (((q++[x]).length:Int) - 1))=some x from by rw [hw];exact hgx]
   simp only [Option.bind_some]
   have hxN:=h1.1 x (by simp)
   by_cases hs:x.skater=y.skater
   ·rw [show (x.skater != y.skater)=false from by simp [hs],cond_false]
    have hxl:=line_le_flat h1.1 (x:=x) (by simp)
    have hpe:=hxN.1
    rw [bnd (x:=()) (by rw [fits_of (by simp;omega)];rfl),hw,Int.toNat_natCast,set_end _ _ _ rfl,bnd (getI_pre q _ [] rfl),set_end _ _ _ rfl]
    dsimp only
    rw [bnd (x:=()) (by rw [fits_of (by simp;omega)];rfl)]
    have hf:flat (q++[⟨x.skater,x.events++[y.event],x.points++[y.points]⟩])=flat (q++[x])++[y]:=by
     unfold flat
     rw [List.flatMap_append,List.flatMap_append,List.append_assoc]
     congr 1
     simp only [List.flatMap_cons,List.flatMap_nil,List.append_nil]
     unfold lineEs
     rw [List.zipWith_append (by exact hpe.symm)]
     cases y;simp at hs ⊢;exact hs
    obtain ⟨ls',g1,g2,g3⟩:=ih (k+1) (q++[⟨x.skater,x.events++[y.event],x.points++[y.points]⟩]) ⟨by
      intro z hz
      rcases List.mem_append.1 hz with hz | hz
      ·exact h1.1 z (by simp [hz])
      ·obtain rfl:=List.mem_singleton.1 hz;exact ⟨by simp [hpe],by simp⟩,by
      have:=List.pairwise_append.1 h1.2
      rw [List.pairwise_append]
      exact ⟨this.1,List.pairwise_singleton _ _,fun a ha b hb=>by obtain rfl:=List.mem_singleton.1 hb;exact this.2.2 a ha x (by simp)⟩⟩ (by rw [hf];simpa using h2) (by rw [hf];simp at h3 ⊢;omega)
    exact ⟨ls',g1,g2,by rw [g3,hf];simp⟩
   ·rw [show (x.skater != y.skater)=true from by simpa using hs,cond_true]
    refine new fun z hz=>?_
    have hxle:=hle x (by simp)
    rcases List.mem_append.1 hz with hz | hz
    ·have:=(List.pairwise_append.1 h1.2).2.2 z hz x (by simp);omega
    ·obtain rfl:=List.mem_singleton.1 hz;omega
theorem lt0_cmp {a b:Entry} (ha:entOk a) (hb:entOk b):lt0 (fun a0 a1=>impl_compareEntries_p a0 a1) a b=decide (ltE a b):=by
 obtain ⟨c,h1,_,_,h2⟩:=cmpE ha hb
 unfold lt0
 simp only [h1,Option.getD_some,h2]
theorem goodF_cmp {l:List Entry} (h:GoodL l) (hl:l.length ≤ 1048576):GoodF (fun a0 a1=>impl_compareEntries_p a0 a1) l where
 some x hx y hy:=by obtain ⟨c,h1,_⟩:=cmpE (h.1 x hx) (h.1 y hy);simp [h1]
 irrefl x hx:=by rw [lt0_cmp (h.1 x hx) (h.1 x hx)];exact decide_eq_false (ltE_irr x)
 trans x hx y hy z hz h1 h2:=by
  rw [lt0_cmp (h.1 x hx) (h.1 y hy)] at h1;rw [lt0_cmp (h.1 y hy) (h.1 z hz)] at h2;rw [lt0_cmp (h.1 x hx) (h.1 z hz)]
  exact decide_eq_true (ltE_tr _ _ _ (of_decide_eq_true h1) (of_decide_eq_true h2))
 ntrans x hx y hy z hz h1 h2:=by
  rw [lt0_cmp (h.1 x hx) (h.1 y hy)] at h1;rw [lt0_cmp (h.1 y hy) (h.1 z hz)] at h2;rw [lt0_cmp (h.1 x hx) (h.1 z hz)]
  have h1:=of_decide_eq_false h1;have h2:=of_decide_eq_false h2
  refine decide_eq_false ?_
  unfold ltE at *;omega
 parts:=List.Pairwise.imp_of_mem (fun {a b} ha hb hab=>by
  rw [lt0_cmp (h.1 a ha) (h.1 b hb),lt0_cmp (h.1 b hb) (h.1 a ha)]
  exact (ltE_tot hab).imp decide_eq_true decide_eq_true) h.2
 len:=by omega
theorem fresh_eq (best:Int) (l:List Entry) (h:GoodL l) (hl:l.length ≤ 1048576):∃ ls,impl_freshSeason_p best l=some ⟨best,ls⟩∧LinesOk ls∧(flat ls).Perm l∧(flat ls).Pairwise ltE:=by
 unfold impl_freshSeason_p slices_SortFunc_Entry_p
 have hG:=goodF_cmp h hl
 rw [bnd (x:=()) (by rw [fits_of (by omega)];rfl)]
 rw [show sortF (fun a0 a1=>impl_compareEntries_p a0 a1) l=some (mergeF (fun a0 a1=>impl_compareEntries_p a0 a1) l) from by unfold sortF;rw [if_pos hG]]
 simp only [Option.bind_some]
 have hp:=mergeF_perm (fun a0 a1=>impl_compareEntries_p a0 a1) l
 have hs:=hG.sorted
 generalize mergeF (fun a0 a1=>impl_compareEntries_p a0 a1) l=m at hp hs
 have hgm:=h.perm hp
 have hsm:m.Pairwise ltE:=by
  refine List.Pairwise.imp_of_mem (fun {a b} ha hb hab=>?_) (hs.and hgm.2)
  have h1:=hab.1
  rw [lt0_cmp (hgm.1 b hb) (hgm.1 a ha)] at h1
  exact (ltE_tot hab.2).resolve_right (of_decide_eq_false h1)
 obtain ⟨ls,g1,g2,g3⟩:=fresh_l best m 0 [] ⟨by simp,List.Pairwise.nil⟩ (by simpa [flat] using hsm) (by simp [flat,hp.length_eq];omega)
 have g3:flat ls=m:=by rw [g3];rfl
 exact ⟨ls,g1,g2,by rw [g3];exact hp,by rw [g3];exact hsm⟩
theorem seOwn_l (s:Season):∀ (ys:List Line) (k:Nat) (acc:List Line),(∀ x ∈ ys,x.events.length ≤ 1048576∧x.points.length ≤ 1048576)→acc.length+ys.length ≤ 1048577→spec_seOwn_l1 s ys k acc=some ⟨s.best,acc++ys⟩:=by
 intro ys
 induction ys with
 | nil=>intro k acc _ _;rw [spec_seOwn_l1];simp
 | cons y ys ih =>
  intro k acc h1 h2
  simp only [List.length_cons] at h2
  have hy:=h1 y (by simp)
  rw [spec_seOwn_l1,bnd (own_eq _ (by omega)),bnd (own_eq _ (by omega)),bnd (x:=()) (by rw [fits_of (by simp;omega)];rfl),ih (k+1) _ (fun x hx=>h1 x (by simp [hx])) (by simp;omega)]
  simp
theorem seOwn_eq (s:Season) (h1:∀ x ∈ s.lines,x.events.length ≤ 1048576∧x.points.length ≤ 1048576) (h2:s.lines.length ≤ 1048577):spec_seOwn_p s=some s:=by
 unfold spec_seOwn_p
 rw [seOwn_l s s.lines 0 [] h1 (by simpa using h2)]
 simp
theorem seAdd_l (e:Entry) (x:Line) (hN:lineN x) (hb:x.events.length ≤ 1048576):∀ (es ps pe pp:List Int) (fuel:Nat),es.length < fuel→x.events=pe++es→x.points=pp++ps→pe.length=pp.length→es.length=ps.length →
  (∀ z ∈ List.zipWith (mkE e.skater) pe pp,ltE z e) →
  ∃ k:Nat,spec_seAdd_l1 e x fuel (pe.length:Int)=some (k:Int)∧k ≤ x.events.length∧(∀ z ∈ (List.zipWith (mkE e.skater) x.events x.points).take k,ltE z e)∧(∀ z,(List.zipWith (mkE e.skater) x.events x.points)[k]?=some z→¬ ltE z e):=by
 intro es
 induction es with
 | nil =>
  intro ps pe pp fuel hf h1 h2 h3 h4 h5
  obtain rfl:ps=[]:=List.eq_nil_of_length_eq_zero h4.symm
  rw [List.append_nil] at h1 h2
  obtain ⟨f,rfl⟩:=Nat.exists_eq_succ_of_ne_zero (by omega:fuel ≠ 0)
  rw [spec_seAdd_l1]
  have:decide ((pe.length:Int) < (x.points.length:Int))=false:=decide_eq_false (by rw [h2];omega)
  rw [this]
  simp only [opt_f,Option.bind_some,Bool.false_and,cond_false]
  refine ⟨pe.length,rfl,by rw [h1];exact Nat.le_refl _,?_,?_⟩
  ·rw [h1,h2];intro z hz;exact h5 z (List.mem_of_mem_take hz)
  ·intro z hz
   have:=(List.getElem?_eq_some_iff.1 hz).1
   rw [List.length_zipWith,h1,h2] at this;omega
 | cons y es ih =>
  intro ps pe pp fuel hf h1 h2 h3 h4 h5
  cases ps with
  | nil=>simp at h4
  | cons p ps =>
  obtain ⟨f,rfl⟩:=Nat.exists_eq_succ_of_ne_zero (by omega:fuel ≠ 0)
  rw [spec_seAdd_l1]
  have hd:decide ((pe.length:Int) < (x.points.length:Int))=true:=decide_eq_true (by rw [h2];simp;omega)
  have hge:getI x.events (pe.length:Int)=some y:=getI_app h1 rfl
  have hgp:getI x.points (pe.length:Int)=some p:=getI_app h2 (by rw [h3])
  have hlen:pe.length < x.events.length:=by rw [h1];simp
  have hz:(List.zipWith (mkE e.skater) x.events x.points)[pe.length]?=some (mkE e.skater y p):=by
   rw [h1,h2,List.zipWith_append h3,List.getElem?_append_right (by simp;omega)]
   simp [h3]
  rw [hd,hge,hgp]
  simp only [opt_t,Option.bind_some,Bool.true_and]
  have go:ltE (mkE e.skater y p) e→∃ k:Nat,spec_seAdd_l1 e x f (w64 ((pe.length:Int)+1))=some (k:Int)∧k ≤ x.events.length∧(∀ z ∈ (List.zipWith (mkE e.skater) x.events x.points).take k,ltE z e)∧(∀ z,(List.zipWith (mkE e.skater) x.events x.points)[k]?=some z→¬ ltE z e):=by
   intro hlt
   have:=ih ps (pe++[y]) (pp++[p]) f (by simp at hf;omega) (by rw [h1];simp) (by rw [h2];simp) (by simp [h3]) (by simpa using h4) (by
    rw [List.zipWith_append h3]
    intro z hz
    rcases List.mem_append.1 hz with hz | hz
    ·exact h5 z hz
    ·simp at hz;subst hz;exact hlt)
   rw [w64_in (by omega)]
   simpa using this
  have stop:¬ ltE (mkE e.skater y p) e→∃ k:Nat,some (pe.length:Int)=some (k:Int)∧k ≤ x.events.length∧(∀ z ∈ (List.zipWith (mkE e.skater) x.events x.points).take k,ltE z e)∧(∀ z,(List.zipWith (mkE e.skater) x.events x.points)[k]?=some z→¬ ltE z e):=by
   intro hn
   refine ⟨pe.length,rfl,by omega,?_,?_⟩
   ·rw [h1,h2,List.zipWith_append h3,List.take_append_of_le_length (by simp;omega),List.take_of_length_le (by simp;omega)]
    exact h5
   ·intro z hz';rw [hz] at hz';cases hz';exact hn
  by_cases c1:p > e.points
  ·have:ltE (mkE e.skater y p) e:=by unfold ltE mkE;dsimp only;omega
   rw [decide_eq_true c1]
   simp only [Bool.not_true,Bool.false_and,opt_f,Option.bind_some,Bool.true_or,cond_true]
   exact go this
  ·rw [decide_eq_false c1]
   simp only [Bool.not_false,Bool.true_and,Bool.false_or]
   by_cases c2:p=e.points
   ·rw [show (p == e.points)=true from by simp [c2]]
    simp only [opt_t,Option.bind_some,Bool.true_and]
    by_cases c3:y < e.event
    ·rw [decide_eq_true c3,cond_true];exact go (by unfold ltE mkE;dsimp only;omega)
    ·rw [decide_eq_false c3,cond_false];exact stop (by unfold ltE mkE;dsimp only;omega)
   ·rw [show (p == e.points)=false from by simpa using c2]
    simp only [opt_f,Option.bind_some,Bool.false_and,cond_false]
    exact stop (by unfold ltE mkE;dsimp only;omega)
theorem sorted_ins {S:List Entry} {e:Entry} {k:Nat} (hs:S.Pairwise ltE) (hns:∀ z ∈ S,¬ sameE z e) (h1:∀ z ∈ S.take k,ltE z e) (h2:∀ z,S[k]?=some z→¬ ltE z e):(S.take k++e::S.drop k).Pairwise ltE∧(S.take k++e::S.drop k).Perm (e::S):=by
 refine ⟨?_,?_⟩
 ·have hs':(S.take k++S.drop k).Pairwise ltE:=by rw [List.take_append_drop];exact hs
  have hd:∀ z ∈ S.drop k,ltE e z:=by
   intro z hz
   cases hdk:S.drop k with
   | nil=>rw [hdk] at hz;simp at hz
   | cons z0 r =>
    have hz0:S[k]?=some z0:=by
     have:(S.drop k)[0]?=some z0:=by rw [hdk];rfl
     simpa using this
    have hmem0:z0 ∈ S:=List.mem_of_getElem? hz0
    have g0:ltE e z0:=(ltE_tot (hns z0 hmem0)).resolve_left (h2 z0 hz0)
    rw [hdk] at hz
    rcases List.mem_cons.1 hz with rfl | hz
    ·exact g0
    ·have:=(List.pairwise_append.1 hs').2.1
     rw [hdk] at this
     exact ltE_tr _ _ _ g0 ((List.pairwise_cons.1 this).1 z hz)
  rw [List.pairwise_append]
  refine ⟨(List.pairwise_append.1 hs').1,List.pairwise_cons.2 ⟨hd,(List.pairwise_append.1 hs').2.1⟩,fun a ha b hb=>?_⟩
  rcases List.mem_cons.1 hb with rfl | hb
  ·exact h1 a ha
  ·exact (List.pairwise_append.1 hs').2.2 a ha b hb
 ·have:=(List.perm_middle (a:=e) (l₁:=S.take k) (l₂:=S.drop k))
  rwa [List.take_append_drop] at this
theorem flat_app (a b:List Line):flat (a++b)=flat a++flat b:=by unfold flat;rw [List.flatMap_append]
theorem flat_cons (x:Line) (b:List Line):flat (x::b)=lineEs x++flat b:=rfl
theorem flat_lt {q:List Line} {sk:Int} (h:∀ x ∈ q,x.skater < sk):∀ z ∈ flat q,z.skater < sk:=by
 intro z hz;obtain ⟨x,hx,_,e⟩:=flat_sk hz;rw [e];exact h x hx
theorem seAdd_eq (best:Int) (ls:List Line) (e:Entry) (hL:LinesOk ls) (hS:(flat ls).Pairwise ltE) (hn:∀ z ∈ flat ls,¬ sameE z e) (hb:(flat ls).length < 1048576) (fuel:Nat) (hf:1048576 < fuel) :
  ∃ ls',spec_seAdd_p fuel ⟨best,ls⟩ e=some ⟨best,ls'⟩∧LinesOk ls'∧(flat ls').Pairwise ltE∧(flat ls').Perm (e::flat ls):=by
 have hll:=flat_lines_le hL.1
 have hle:=fun x hx=>line_le_flat hL.1 (x:=x) hx
 unfold spec_seAdd_p
 rw [bnd (seOwn_eq ⟨best,ls⟩ (fun x hx=>⟨by have:=hle x hx;omega,by have:=hle x hx;have:=(hL.1 x hx).1;omega⟩) (by show ls.length ≤ _;omega))]
 obtain ⟨k,h1,h2,h3,h4⟩:=seIndex_eq ⟨best,ls⟩ e.skater (by show ls.length ≤ _;omega) fuel hf
 dsimp only at h2 h3 h4
 rw [bnd h1]
 have hsplit:ls=ls.take k++ls.drop k:=(List.take_append_drop k ls).symm
 have hge:∀ x ∈ ls.drop k,e.skater ≤ x.skater:=by
  intro x hx
  cases hdk:ls.drop k with
  | nil=>rw [hdk] at hx;simp at hx
  | cons x0 r =>
   have hx0:ls[k]?=some x0:=by
    have:(ls.drop k)[0]?=some x0:=by rw [hdk];rfl
    simpa using this
   have g0:=h4 x0 hx0
   rw [hdk] at hx
   rcases List.mem_cons.1 hx with rfl | hx
   ·omega
   ·have:=hL.2
    rw [hsplit,hdk] at this
    have:=(List.pairwise_cons.1 (List.pairwise_append.1 this).2.1).1 x hx
    omega
 rcases seHas_eq ⟨best,ls⟩ e.skater (by show ls.length ≤ _;omega) hL.2 fuel hf with ⟨k',x,g1,g2,g3,_,g5⟩ | ⟨g1,_,g3⟩
 ·rw [h1] at g5
  obtain rfl:k=k':=by have:=Option.some.inj g5;omega
  rw [bnd g1]
  rw [show decide ((k:Int) < 0)=false from decide_eq_false (by omega),cond_false]
  dsimp only at g2 ⊢
  have hk:k < ls.length:=(List.getElem?_eq_some_iff.1 g2).1
  have hxm:x ∈ ls:=List.mem_of_getElem? g2
  have hxN:=hL.1 x hxm
  have hxl:=hle x hxm
  have hsp2:ls=ls.take k++x::ls.drop (k+1):=by
   have:ls.drop k=x::ls.drop (k+1):=by rw [List.drop_eq_getElem_cons hk,(List.getElem?_eq_some_iff.1 g2).2]
   rw [← this];exact hsplit
  generalize hA:ls.take k=A at hsp2 h3
  generalize hB:ls.drop (k+1)=B at hsp2
  have hAk:A.length=k:=by rw [← hA];simp;omega
  rw [bnd (show getI ls (k:Int)=some x from by rw [getI_nat];exact g2)]
  obtain ⟨j,j1,j2,j3,j4⟩:=seAdd_l e x hxN (by omega) x.events x.points [] [] fuel (by omega) rfl rfl rfl hxN.1.symm (by simp)
  have hze:List.zipWith (mkE e.skater) x.events x.points=lineEs x:=by rw [← g3];rfl
  rw [hze] at j3 j4
  rw [bnd (show spec_seAdd_l1 e x fuel 0=some (j:Int) from j1),bnd (seInsert_eq x.events j e.event j2 (by omega)),bnd (seInsert_eq x.points j e.points (by rw [hxN.1];exact j2) (by rw [hxN.1];omega))]
  rw [Int.toNat_natCast]
  have hset:∀ y,ls.set k y=A++y::B:=by intro y;rw [hsp2];subst hAk;simp [List.set_append]
  rw [hset,bnd (show getI (A++(⟨x.skater,x.events.take j++e.event::x.events.drop j,x.points⟩:Line)::B) (k:Int)=some ⟨x.skater,x.events.take j++e.event::x.events.drop j,x.points⟩ from getI_pre _ _ _ (by rw [hAk]))]
  have hset2:∀ y z:Line,(A++z::B).set k y=A++y::B:=by intro y z;subst hAk;simp [List.set_append]
  rw [hset2]
  dsimp only
  refine ⟨_,rfl,?_⟩
  have hnew:lineEs ⟨x.skater,x.events.take j++e.event::x.events.drop j,x.points.take j++e.points::x.points.drop j⟩=(lineEs x).take j++e::(lineEs x).drop j:=by
   unfold lineEs
   dsimp only
   rw [List.zipWith_append (by simp;have:=hxN.1;omega),List.zipWith_cons_cons,← List.take_zipWith,← List.drop_zipWith]
   cases e;simp at g3 ⊢;exact g3
  have hxs:(lineEs x).Pairwise ltE:=by
   rw [hsp2,flat_app,flat_cons] at hS
   exact (List.pairwise_append.1 (List.pairwise_append.1 hS).2.1).1
  have hxns:∀ z ∈ lineEs x,¬ sameE z e:=fun z hz=>hn z (List.mem_flatMap.2 ⟨x,hxm,hz⟩)
  obtain ⟨p1,p2⟩:=sorted_ins hxs hxns j3 j4
  rw [← hnew] at p1 p2
  have hfl:flat ls=flat A++(lineEs x++flat B):=by rw [hsp2,flat_app,flat_cons]
  refine ⟨⟨?_,?_⟩,?_,?_⟩
  ·intro y hy
   rcases List.mem_append.1 hy with hy | hy
   ·exact hL.1 y (by rw [hsp2];simp [hy])
   ·rcases List.mem_cons.1 hy with rfl | hy
    ·exact ⟨by simp [hxN.1],by simp⟩
    ·exact hL.1 y (by rw [hsp2];simp [hy])
  ·have:=hL.2
   rw [hsp2] at this
   have h5:=List.pairwise_append.1 this
   have h6:=List.pairwise_cons.1 h5.2.1
   rw [List.pairwise_append]
   refine ⟨h5.1,List.pairwise_cons.2 ⟨h6.1,h6.2⟩,fun a ha b hb=>?_⟩
   rcases List.mem_cons.1 hb with rfl | hb
   ·exact h5.2.2 a ha x (by simp)
   ·exact h5.2.2 a ha b (by simp [hb])
  ·rw [flat_app,flat_cons]
   rw [hfl] at hS
   have q1:=List.pairwise_append.1 hS
   have q2:=List.pairwise_append.1 q1.2.1
   have hmemx:∀ z ∈ lineEs ⟨x.skater,x.events.take j++e.event::x.events.drop j,x.points.take j++e.points::x.points.drop j⟩,z=e ∨ z ∈ lineEs x:=fun z hz=>by
    have:=p2.mem_iff.1 hz;simpa using this
   have hAe:∀ z ∈ flat A,ltE z e:=fun z hz=>.inl (flat_lt h3 z hz)
   have hBe:∀ z ∈ flat B,ltE e z:=fun z hz=>by
    obtain ⟨y,hy,_,hs⟩:=flat_sk hz
    have:=hL.2
    rw [hsp2] at this
    have:=(List.pairwise_cons.1 (List.pairwise_append.1 this).2.1).1 y hy
    left;omega
   rw [List.pairwise_append]
   refine ⟨q1.1,List.pairwise_append.2 ⟨p1,q2.2.1,fun a ha b hb=>?_⟩,fun a ha b hb=>?_⟩
   ·rcases hmemx a ha with rfl | ha
    ·exact hBe b hb
    ·exact q2.2.2 a ha b hb
   ·rcases List.mem_append.1 hb with hb | hb
    ·rcases hmemx b hb with rfl | hb
     ·exact hAe a ha
     ·exact q1.2.2 a ha b (List.mem_append_left _ hb)
    ·exact q1.2.2 a ha b (List.mem_append_right _ hb)
  ·rw [flat_app,flat_cons,hfl]
   exact ((p2.append_right (flat B)).append_left (flat A)).trans List.perm_middle
 ·rw [bnd g1]
  rw [show decide ((-1:Int) < 0)=true from rfl,cond_true]
  dsimp only at g3 ⊢
  rw [bnd (sliceHi_of rfl h2),bnd (x:=()) (by rw [fits_of (by simp;omega)];rfl),bnd (x:=()) (by rw [fits_of (by simp;omega)];rfl),bnd (sliceLo_of rfl h2),bnd (x:=()) (by rw [fits_of (by simp;omega)];rfl)]
  refine ⟨_,rfl,?_⟩
  have hgt:∀ x ∈ ls.drop k,e.skater < x.skater:=fun x hx=>by
   have:=hge x hx;have:=g3 x (List.mem_of_mem_drop hx);omega
  rw [List.append_assoc,List.singleton_append]
  generalize hA:ls.take k=A at hsplit h3
  generalize hB:ls.drop k=B at hsplit hgt
  have hone:lineEs ⟨e.skater,[e.event],[e.points]⟩=[e]:=by cases e;rfl
  refine ⟨⟨?_,?_⟩,?_,?_⟩
  ·intro y hy
   rcases List.mem_append.1 hy with hy | hy
   ·exact hL.1 y (by rw [hsplit];simp [hy])
   ·rcases List.mem_cons.1 hy with rfl | hy
    ·exact ⟨rfl,by simp⟩
    ·exact hL.1 y (by rw [hsplit];simp [hy])
  ·have:=hL.2
   rw [hsplit] at this
   have h5:=List.pairwise_append.1 this
   rw [List.pairwise_append]
   refine ⟨h5.1,List.pairwise_cons.2 ⟨hgt,h5.2.1⟩,fun a ha b hb=>?_⟩
   rcases List.mem_cons.1 hb with rfl | hb
   ·exact h3 a ha
   ·exact h5.2.2 a ha b hb
  ·rw [hsplit,flat_app] at hS
   have q:=List.pairwise_append.1 hS
   rw [flat_app,flat_cons,hone,List.singleton_append,List.pairwise_append]
   refine ⟨q.1,List.pairwise_cons.2 ⟨fun z hz=>?_,q.2.1⟩,fun a ha b hb=>?_⟩
   ·obtain ⟨y,hy,_,hs⟩:=flat_sk hz;have:=hgt y hy;left;omega
   ·rcases List.mem_cons.1 hb with rfl | hb
    ·exact .inl (flat_lt h3 a ha)
    ·exact q.2.2 a ha b hb
  ·rw [flat_app,flat_cons,hone,List.singleton_append]
   have:=(List.perm_middle (a:=e) (l₁:=flat A) (l₂:=flat B))
   rwa [← flat_app,← hsplit] at this

end Go.Proofs.YtegdphhfimaieaaGreat

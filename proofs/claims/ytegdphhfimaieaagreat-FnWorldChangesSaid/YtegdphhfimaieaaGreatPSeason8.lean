/- Plain lemmas: what the functions compute is what the reference says, in plain Lean. No condition. -/
import Derived.Test.YtegdphhfimaieaaGreatPSeason7
set_option maxRecDepth 4000
set_option maxHeartbeats 1000000
set_option linter.unusedVariables false
set_option linter.unusedSimpArgs false
set_option linter.unusedSectionVars false

namespace Go.Proofs.YtegdphhfimaieaaGreat
open Go.AM

def FreshOf (best:Int) (l:List Entry) (s:Season):Prop:=s.best=best∧LinesOk s.lines∧(flat s.lines).Pairwise ltE∧(flat s.lines).Perm l
theorem FreshOf.uniq {best:Int} {l:List Entry} {s t:Season} (h:FreshOf best l s) (k:FreshOf best l t):s=t:=by
 have h1:=lines_inj h.2.1 k.2.1 (sorted_uniq h.2.2.1 k.2.2.1 (h.2.2.2.trans k.2.2.2.symm))
 cases s;cases t
 have a:=h.1;have b:=k.1
 simp only at a b h1
 subst a b h1;rfl
theorem impl_fresh_of (best:Int) (l:List Entry) (h:GoodL l) (hl:l.length ≤ 1048576):∃ s,impl_freshSeason_p best l=some s∧FreshOf best l s:=by
 obtain ⟨ls,h1,h2,h3,h4⟩:=fresh_eq best l h hl
 exact ⟨_,h1,rfl,h2,h4,h3⟩
theorem spec_add_of (best:Int) (l:List Entry) (s:Season) (e:Entry) (h:FreshOf best l s) (hn:∀ z ∈ l,¬ sameE z e) (hl:l.length < 1048576) (fuel:Nat) (hf:1048576 < fuel):∃ s',spec_seAdd_p fuel s e=some s'∧FreshOf best (e::l) s':=by
 obtain ⟨b,ls⟩:=s
 obtain ⟨h1,h2,h3,h4⟩:=h
 simp only at h1 h2 h3 h4
 subst h1
 obtain ⟨ls',g1,g2,g3,g4⟩:=seAdd_eq b ls e h2 h3 (fun z hz=>hn z (h4.mem_iff.1 hz)) (by rw [h4.length_eq];exact hl) fuel hf
 exact ⟨_,g1,rfl,g2,g3,g4.trans (h4.cons e)⟩
theorem fresh_nil (best:Int):FreshOf best [] ⟨best,[]⟩:=⟨rfl,⟨by simp,List.Pairwise.nil⟩,List.Pairwise.nil,List.Perm.refl _⟩
theorem spec_seOf_l (best:Int) (fuel:Nat) (hf:1048576 < fuel):∀ (ys pre:List Entry) (k:Nat) (s:Season),FreshOf best pre s→GoodL (pre++ys)→(pre++ys).length ≤ 1048576 →
  ∃ s',spec_seOf_l1 fuel ys k s.best s.lines=some s'∧FreshOf best (pre++ys) s':=by
 intro ys
 induction ys with
 | nil=>intro pre k s h1 _ _;refine ⟨s,by rw [spec_seOf_l1],by simpa using h1⟩
 | cons y ys ih =>
  intro pre k s h1 h2 h3
  rw [spec_seOf_l1]
  have hn:∀ z ∈ pre,¬ sameE z y:=fun z hz=>(List.pairwise_append.1 h2.2).2.2 z hz y (by simp)
  obtain ⟨s',g1,g2⟩:=spec_add_of best pre s y h1 hn (by simp at h3;omega) fuel hf
  rw [show (Season.mk s.best s.lines)=s from rfl,bnd g1]
  have hp:(y::pre).Perm (pre++[y]):=by simpa using (List.perm_append_comm (l₁:=[y]) (l₂:=pre))
  have:=ih (pre++[y]) (k+1) s' ⟨g2.1,g2.2.1,g2.2.2.1,g2.2.2.2.trans hp⟩ (by simpa using h2) (by simpa using h3)
  simpa using this
theorem spec_seOf_of (best:Int) (l:List Entry) (h:GoodL l) (hl:l.length ≤ 1048576) (fuel:Nat) (hf:1048576 < fuel):∃ s,spec_seOf_p fuel best l=some s∧FreshOf best l s:=by
 unfold spec_seOf_p
 exact spec_seOf_l best fuel hf l [] 0 ⟨best,[]⟩ (fresh_nil best) (by simpa using h) (by simpa using hl)
theorem fresh_size {best:Int} {l:List Entry} {s:Season} (h:FreshOf best l s):nSeason s ≤ 3 * l.length:=by
 have h1:=flat_lines_le h.2.1.1
 have h2:=h.2.2.2.length_eq
 have h3:(flat s.lines).length=(s.lines.map fun x=>x.events.length).sum:=by unfold flat;exact flat_len_lines h.2.1.1
 have key:∀ ls:List Line,(∀ x ∈ ls,lineN x)→(ls.map fun x=>nLine x).sum=2 * (ls.map fun x=>x.events.length).sum:=by
  intro ls hl
  induction ls with
  | nil=>rfl
  | cons y l ih =>
   have:=(hl y (by simp)).1
   have:=ih (fun x hx=>hl x (by simp [hx]))
   simp only [List.map_cons,List.sum_cons]
   unfold nLine nIntS at *;omega
 have:=key s.lines h.2.1.1
 unfold nSeason nLineS
 omega
theorem fresh_ok {best:Int} {l:List Entry} {s:Season} (h:FreshOf best l s) (hg:GoodL l):SeasonOk s↔((1 ≤ best∧best ≤ 9)∧l.length ≤ 80):=by
 have hgf:=hg.perm h.2.2.2
 have hl:=h.2.2.2.length_eq
 have hb:=h.1
 unfold SeasonOk
 change _∧_∧_∧GoodE (flat s.lines)∧(flat s.lines).length ≤ 80↔_
 rw [hb,hl]
 exact ⟨fun k=>⟨k.1,k.2.2.2.2⟩,fun k=>⟨k.1,h.2.1.1,h.2.1.2,⟨hgf.1,h.2.2.1,hgf.2⟩,k.2⟩⟩
theorem season_fresh {s:Season} (h:SeasonOk s):FreshOf s.best (seasonEs s) s:=⟨rfl,⟨h.2.1,h.2.2.1⟩,h.2.2.2.1.2.1,List.Perm.refl _⟩
theorem season_good {s:Season} (h:SeasonOk s):GoodL (seasonEs s):=⟨h.2.2.2.1.1,h.2.2.2.1.2.2⟩
theorem seEntries_l2 (y:Entry):∀ (zs:List Entry) (k:Nat),(∃ x ∈ zs,sameE x y)∧spec_seEntries_l2 y zs k=some (.error false) ∨ (∀ x ∈ zs,¬ sameE x y)∧spec_seEntries_l2 y zs k=some (.ok ()):=by
 intro zs
 induction zs with
 | nil=>intro k;right;exact ⟨by simp,by rw [spec_seEntries_l2]⟩
 | cons z zs ih =>
  intro k
  rw [spec_seEntries_l2]
  by_cases h:sameE z y
  ·left
   rw [show (z.event == y.event && z.skater == y.skater)=true from by simp [h.1,h.2],cond_true]
   exact ⟨⟨z,by simp,h⟩,rfl⟩
  ·rw [show (z.event == y.event && z.skater == y.skater)=false from by
    unfold sameE at h;rw [Bool.and_eq_false_iff];by_cases h1:z.event=y.event
    ·right;simpa using fun h2=>h ⟨h1,h2⟩
    ·left;simpa using h1,cond_false]
   rcases ih (k+1) with ⟨⟨x,hx,hs⟩,g⟩ | ⟨g1,g2⟩
   ·left;exact ⟨⟨x,by simp [hx],hs⟩,g⟩
   ·right;refine ⟨fun x hx=>?_,g2⟩
    rcases List.mem_cons.1 hx with rfl | hx
    ·exact h
    ·exact g1 x hx
theorem ret_seEntries_l (l:List Entry) (hb:l.length ≤ 1048576):∀ (ys pre:List Entry),l=pre++ys→(∀ e ∈ pre,entOk e)→pre.Pairwise (fun a b=>¬ sameE a b)→Ret (spec_seEntries_l1 l ys pre.length) (Ents l):=by
 intro ys
 induction ys with
 | nil =>
  intro pre h1 h2 h3
  rw [spec_seEntries_l1]
  rw [List.append_nil] at h1
  subst h1
  refine .some ?_
  unfold Ents
  simp only [decide_eq_true_eq]
  exact ⟨fun h=>⟨h2,h3,by omega⟩,fun h=>by have:=h.2.2;omega⟩
 | cons y ys ih =>
  intro pre h1 h2 h3
  rw [spec_seEntries_l1]
  have hy:y ∈ l:=by rw [h1];simp
  obtain ⟨b,e1,e2⟩:=ret_seEntry y
  rw [bnd (x:=b) e1]
  cases b
  ·simp only [Bool.not_false,cond_true,Option.bind_some,flow]
   refine .f fun h=>?_
   have:=e2.2 (h.1 y hy)
   simp at this
  ·have hok:=e2.1 rfl
   simp only [Bool.not_true,cond_false]
   rw [bnd (show sliceHi l (pre.length:Int)=some pre from by rw [h1];exact sliceHi_pre pre (y::ys) rfl)]
   rcases seEntries_l2 y pre 0 with ⟨⟨x,hx,hs⟩,g⟩ | ⟨g1,g2⟩
   ·rw [bnd g]
    simp only [flow]
    refine .f fun h=>?_
    have:=h.2.1
    rw [h1] at this
    exact (List.pairwise_append.1 this).2.2 x hx y (by simp) hs
   ·rw [bnd g2]
    simp only [flow]
    have:=ih (pre++[y]) (by rw [h1];simp) (by
     intro e he;rcases List.mem_append.1 he with h | h
     ·exact h2 e h
     ·obtain rfl:=List.mem_singleton.1 h;exact hok) (by
     rw [List.pairwise_append]
     exact ⟨h3,List.pairwise_singleton _ _,fun a ha b hb=>by obtain rfl:=List.mem_singleton.1 hb;exact g1 a ha⟩)
    simpa using this
theorem ret_seEntries (l:List Entry) (hb:l.length ≤ 1048576):Ret (spec_seEntries_p l) (Ents l):=ret_seEntries_l l hb l [] rfl (by simp) (by simp)
theorem same_AddEntry (s:Season) (hb:nSeason s ≤ 1048576) (e:Entry) (fuel:Nat) (hf:1048576 < fuel) :
  ∃ r:Season × Bool,spec_AddEntry_p fuel s e=some r∧impl_AddEntry_p fuel s e=some r∧nSeason r.1 ≤ 240:=by
 unfold spec_AddEntry_p impl_AddEntry_p
 obtain ⟨b,g1,g2⟩:=ret_seGood s hb
 obtain ⟨b',g1',g2'⟩:=ret_impl_IsSeason s hb fuel hf
 obtain rfl:b=b':=Bool.eq_iff_iff.2 (g2.trans g2'.symm)
 rw [bnd g1,bnd g1']
 cases b
 ·exact ⟨_,rfl,rfl,by decide⟩
 have hok:=g2.1 rfl
 have hlen:=hok.2.2.2.2
 simp only [Bool.not_true,Bool.not_false,opt_t,Bool.false_or,cond_false]
 rw [bnd (entriesOf_eq s hb (fun x hx=>(hok.2.1 x hx).1)),bnd (x:=()) (by rw [fits_of (by simp;omega)];rfl)]
 obtain ⟨a,a1,a2⟩:=ret_AreEntries (seasonEs s++[e]) (by simp;omega)
 obtain ⟨b,b1,b2⟩:=ret_seEntry e
 rw [bnd a1,bnd b1]
 have hgood:=season_good hok
 have hfr:=season_fresh hok
 have hiff:Ents (seasonEs s++[e])↔entOk e∧(∀ z ∈ seasonEs s,¬ sameE z e)∧(seasonEs s).length+1 ≤ 80:=by
  unfold Ents
  rw [List.pairwise_append]
  constructor
  ·intro h;exact ⟨h.1 e (by simp),fun z hz=>h.2.1.2.2 z hz e (by simp),by simpa using h.2.2⟩
  ·intro h
   refine ⟨fun x hx=>?_,⟨hgood.2,List.pairwise_singleton _ _,fun x hx y hy=>by obtain rfl:=List.mem_singleton.1 hy;exact h.2.1 x hx⟩,by simpa using h.2.2⟩
   rcases List.mem_append.1 hx with hx | hx
   ·exact hgood.1 x hx
   ·obtain rfl:=List.mem_singleton.1 hx;exact h.1
 have nope:¬ Ents (seasonEs s++[e])→a=false:=fun h=>by
  cases a
  ·rfl
  ·exact absurd (a2.1 rfl) h
 cases b
 ·have:¬ entOk e:=fun h=>by have:=b2.2 h;simp at this
  rw [nope fun h=>this (hiff.1 h).1]
  exact ⟨_,rfl,rfl,by decide⟩
 have heok:=b2.1 rfl
 simp only [Bool.not_true,cond_false]
 have fin:(∀ z ∈ seasonEs s,¬ sameE z e)→∃ r:Season × Bool,((spec_seAdd_p fuel s e).bind fun x11 =>
   (spec_seGood_p x11).bind fun x13 =>
   cond (!x13)
    (some ((Season.mk 0 []),false))
    (some (x11,true)))=some r∧(cond (!a) (some ((Season.mk 0 []),false)) ((impl_freshSeason_p s.best (seasonEs s++[e])).bind fun x9=>some (x9,true)))=some r∧nSeason r.1 ≤ 240:=by
  intro hns
  obtain ⟨s',m1,m2⟩:=spec_add_of s.best (seasonEs s) s e hfr hns (by omega) fuel hf
  have hgl:GoodL (seasonEs s++[e]):=by
   refine ⟨fun x hx=>?_,?_⟩
   ·rcases List.mem_append.1 hx with hx | hx
    ·exact hgood.1 x hx
    ·obtain rfl:=List.mem_singleton.1 hx;exact heok
   ·rw [List.pairwise_append]
    exact ⟨hgood.2,List.pairwise_singleton _ _,fun x hx y hy=>by obtain rfl:=List.mem_singleton.1 hy;exact hns x hx⟩
  have hpm:(e::seasonEs s).Perm (seasonEs s++[e]):=by simpa using (List.perm_append_comm (l₁:=[e]) (l₂:=seasonEs s))
  have m3:FreshOf s.best (seasonEs s++[e]) s':=⟨m2.1,m2.2.1,m2.2.2.1,m2.2.2.2.trans hpm⟩
  have hsz:=fresh_size m3
  rw [List.length_append,List.length_singleton] at hsz
  obtain ⟨c,c1,c2⟩:=ret_seGood s' (by omega)
  rw [bnd m1,bnd c1]
  have hc:=c2.trans (fresh_ok m3 hgl)
  rw [List.length_append,List.length_singleton] at hc
  cases c
  ·have:¬ Ents (seasonEs s++[e]):=fun h=>by
    have:=hc.2 ⟨hok.1,(hiff.1 h).2.2⟩
    simp at this
   rw [nope this]
   exact ⟨_,rfl,rfl,by decide⟩
  ·have:=(hc.1 rfl).2
   have hE:Ents (seasonEs s++[e]):=hiff.2 ⟨heok,hns,this⟩
   rw [a2.2 hE]
   obtain ⟨t,t1,t2⟩:=impl_fresh_of s.best _ hgl (by simp;omega)
   obtain rfl:=t2.uniq m3
   rw [bnd t1]
   exact ⟨_,rfl,rfl,by show nSeason t ≤ 240;omega⟩
 rcases seHas_eq s e.skater (by have:=lines_len hok;omega) hok.2.2.1 fuel hf with ⟨k,x,q1,q2,q3,_,_⟩ | ⟨q1,_,q3⟩
 ·rw [bnd q1]
  rw [show decide ((k:Int) ≥ 0)=true from decide_eq_true (by omega)]
  simp only [opt_t,Bool.true_and]
  rw [bnd (show getI s.lines (k:Int)=some x from by rw [getI_nat];exact q2)]
  have hxm:x ∈ s.lines:=List.mem_of_getElem? q2
  have hxN:=hok.2.1 x hxm
  obtain ⟨d,d1,d2⟩:=ret_l1Has x.events e.event
  rw [bnd d1]
  cases d
  ·simp only [cond_false]
   have hnot:e.event ∉ x.events:=fun h=>by have:=d2.2 h;simp at this
   refine fin fun z hz hsame=>hnot ?_
   obtain ⟨y,hy,hze⟩:=List.mem_flatMap.1 hz
   have hzs:=lineEs_sk hze
   have:y=x:=by
    have hys:y.skater=x.skater:=by rw [← hzs,hsame.2,q3]
    obtain ⟨i,hi,rfl⟩:=List.getElem_of_mem hy
    obtain ⟨j,hj,rfl⟩:=List.getElem_of_mem hxm
    rcases Nat.lt_trichotomy i j with h | h | h
    ·have:=List.pairwise_iff_getElem.1 hok.2.2.1 i j hi hj h;omega
    ·subst h;rfl
    ·have:=List.pairwise_iff_getElem.1 hok.2.2.1 j i hj hi h;omega
   subst this
   rw [← hsame.1,← lineEs_ev hxN]
   exact List.mem_map.2 ⟨z,hze,rfl⟩
  ·simp only [cond_true]
   have hin:=d2.1 rfl
   rw [← lineEs_ev hxN] at hin
   obtain ⟨z,hz,hze⟩:=List.mem_map.1 hin
   have:¬ Ents (seasonEs s++[e]):=fun h=>(hiff.1 h).2.1 z (List.mem_flatMap.2 ⟨x,hxm,hz⟩) ⟨hze,by rw [lineEs_sk hz,q3]⟩
   rw [nope this]
   exact ⟨_,rfl,rfl,by decide⟩
 ·rw [bnd q1]
  rw [show decide ((-1:Int) ≥ 0)=false from rfl]
  simp only [opt_f,Option.bind_some,Bool.false_and,cond_false]
  refine fin fun z hz hsame=>?_
  obtain ⟨y,hy,hze⟩:=List.mem_flatMap.1 hz
  exact q3 y hy (by rw [← lineEs_sk hze,hsame.2])
theorem GoodL.filter {l:List Entry} (h:GoodL l) (p:Entry→Bool):GoodL (l.filter p):=⟨fun e he=>h.1 e (List.mem_filter.1 he).1,h.2.sublist List.filter_sublist⟩

end Go.Proofs.YtegdphhfimaieaaGreat

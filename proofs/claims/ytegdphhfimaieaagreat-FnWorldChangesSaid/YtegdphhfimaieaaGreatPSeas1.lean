/- Plain lemmas: what the functions compute is what the reference says, in plain Lean. No condition. -/
import Derived.Test.YtegdphhfimaieaaGreatPStand1
set_option maxRecDepth 4000
set_option maxHeartbeats 1000000
set_option linter.unusedVariables false
set_option linter.unusedSimpArgs false
set_option linter.unusedSectionVars false

namespace Go.Proofs.YtegdphhfimaieaaGreat
open Go.AM

theorem Ents.perm {l m:List Entry} (h:Ents l) (p:m.Perm l):Ents m:=by
 have:=h.goodL.perm p
 exact ⟨this.1,this.2,by rw [p.length_eq];exact h.2.2⟩
theorem FreshOf.perm {best:Int} {l m:List Entry} {s:Season} (h:FreshOf best l s) (p:l.Perm m):FreshOf best m s:=⟨h.1,h.2.1,h.2.2.1,h.2.2.2.trans p⟩
theorem add_case (s:Season) (hb:nSeason s ≤ 1048576) (e:Entry) (fuel:Nat) (hf:1048576 < fuel) :
  (∃ t,SeasonOk s∧Ents (seasonEs s++[e])∧FreshOf s.best (seasonEs s++[e]) t∧SeasonOk t∧spec_AddEntry_p fuel s e=some (t,true)∧impl_AddEntry_p fuel s e=some (t,true)) ∨
  (¬ (SeasonOk s∧Ents (seasonEs s++[e]))∧∃ r,spec_AddEntry_p fuel s e=some (r,false)∧impl_AddEntry_p fuel s e=some (r,false)):=by
 obtain ⟨r,r1,r2,_⟩:=same_AddEntry s hb e fuel hf
 have hs:=r2
 unfold impl_AddEntry_p at hs
 obtain ⟨b,e1,e2⟩:=ret_impl_IsSeason s hb fuel hf
 rw [bnd e1] at hs
 cases b
 ·cases hs;exact .inr ⟨fun h=>absurd (e2.2 h.1) (by simp),_,r1,r2⟩
 have hok:=e2.1 rfl
 have hlen:=hok.2.2.2.2
 simp only [Bool.not_true,cond_false] at hs
 rw [bnd (entriesOf_eq s hb (fun x hx=>(hok.2.1 x hx).1)),bnd (x:=()) (by rw [fits_of (by simp;omega)];rfl)] at hs
 obtain ⟨b,g1,g2⟩:=ret_AreEntries (seasonEs s++[e]) (by simp;omega)
 rw [bnd g1] at hs
 cases b
 ·cases hs;exact .inr ⟨fun h=>absurd (g2.2 h.2) (by simp),_,r1,r2⟩
 have hE:=g2.1 rfl
 obtain ⟨t,m1,m2⟩:=impl_fresh_of s.best _ hE.goodL (by simp;omega)
 simp only [Bool.not_true,cond_false] at hs
 rw [bnd m1] at hs
 cases hs
 exact .inl ⟨t,hok,hE,m2,(fresh_ok m2 hE.goodL).2 ⟨hok.1,hE.2.2⟩,r1,r2⟩

end Go.Proofs.YtegdphhfimaieaaGreat

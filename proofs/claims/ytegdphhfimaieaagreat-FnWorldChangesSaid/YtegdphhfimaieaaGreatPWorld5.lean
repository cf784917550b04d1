/- Plain lemmas: what the functions compute is what the reference says, in plain Lean. No condition. -/
import Derived.Test.YtegdphhfimaieaaGreatPSeas1
set_option maxRecDepth 4000
set_option maxHeartbeats 1000000
set_option linter.unusedVariables false
set_option linter.unusedSimpArgs false
set_option linter.unusedSectionVars false

namespace Go.Proofs.YtegdphhfimaieaaGreat
open Go.AM

def tsW (w:World):List Int:=(skatersW w).map (totW w)
def plcW (w:World) (s:Int):Int:=((1+((tsW w).filter fun t=>decide (t > totW w s)).length:Nat):Int)
theorem rank_of {w:World} {r:List Rank} (hp:r.Perm ((skatersW w).map (mkP w (tsW w)))) {x:Rank} (hx:x ∈ r):x.skater ∈ skatersW w∧x.total=totW w x.skater∧x.place=plcW w x.skater:=by
 obtain ⟨s,hs,rfl⟩:=List.mem_map.1 (hp.mem_iff.1 hx)
 exact ⟨hs,rfl,rfl⟩
theorem rank_mem {w:World} {r:List Rank} (hp:r.Perm ((skatersW w).map (mkP w (tsW w)))) {s:Int} (hs:s ∈ skatersW w):mkP w (tsW w) s ∈ r:=hp.mem_iff.2 (List.mem_map.2 ⟨s,hs,rfl⟩)
theorem rank_ne {w:World} {r:List Rank} (hp:r.Perm ((skatersW w).map (mkP w (tsW w)))):r.Pairwise (fun a b=>a.skater ≠ b.skater):=by
 have hp2:(r.map fun x=>x.skater).Perm (skatersW w):=by
  refine (hp.map _).trans ?_
  rw [List.map_map]
  have:((fun y:Rank=>y.skater) ∘ mkP w (tsW w))=id:=by funext s;rfl
  rw [this,List.map_id]
 have hn:(skatersW w).Nodup:=(skatersW_lt w).imp fun h=>by omega
 exact List.pairwise_map.1 (hp2.nodup_iff.2 hn)
theorem place_of:∀ {l:List Rank},l.Pairwise (fun a b=>a.skater ≠ b.skater)→∀ {x:Rank},x ∈ l→∀ k,spec_wlPlace_l1 x.skater l k=some x.place:=by
 intro l
 induction l with
 | nil=>intro _ x hx;simp at hx
 | cons y l ih =>
  intro hd x hx k
  have hd':=List.pairwise_cons.1 hd
  rw [spec_wlPlace_l1]
  rcases List.mem_cons.1 hx with rfl | hx
  ·rw [beq_self_eq_true,cond_true]
  ·rw [show (y.skater == x.skater)=false from by simpa using hd'.1 x hx,cond_false]
   exact ih hd'.2 hx (k+1)
theorem place_none (s:Int):∀ (l:List Rank) (k:Nat),(∀ x ∈ l,x.skater ≠ s)→spec_wlPlace_l1 s l k=some 0:=by
 intro l
 induction l with
 | nil=>intro k _;rw [spec_wlPlace_l1]
 | cons y l ih =>
  intro k h
  rw [spec_wlPlace_l1,show (y.skater == s)=false from by simpa using h y (by simp),cond_false,ih _ (fun x hx=>h x (by simp [hx]))]
def atW (w:World) (s:Int):Int:=if s ∈ skatersW w then plcW w s else 0
theorem place_eq {w:World} {r:List Rank} (hp:r.Perm ((skatersW w).map (mkP w (tsW w)))) (s:Int) (k:Nat):spec_wlPlace_l1 s r k=some (atW w s):=by
 unfold atW
 by_cases hs:s ∈ skatersW w
 ·rw [if_pos hs]
  exact place_of (rank_ne hp) (rank_mem hp hs) k
 ·rw [if_neg hs]
  exact place_none s r k fun x hx e=>hs (e ▸ (rank_of hp hx).1)
theorem worldTotal_case (w:World) (hb:nWorld w ≤ 1048576) (s:Int) (fuel:Nat) (hf:1048576 < fuel) :
  (WorldOk w∧s ∈ skatersW w∧spec_WorldTotal_p fuel w s=some (totW w s,true)∧impl_WorldTotal_p fuel w s=some (totW w s,true)) ∨
  (¬ (WorldOk w∧s ∈ skatersW w)∧∃ r,spec_WorldTotal_p fuel w s=some (r,false)∧impl_WorldTotal_p fuel w s=some (r,false)):=by
 unfold spec_WorldTotal_p impl_WorldTotal_p
 rcases both_world w hb fuel hf with ⟨h1,h2,h3⟩ | ⟨h1,h2,h3⟩
 ·rw [bnd h1,bnd h2]
  simp only [Bool.not_true,Bool.not_false,opt_t,Bool.false_or,cond_false]
  rw [bnd (spec_parts w s hb h3 fuel hf),bnd (worldSkaters_eq w h3 fuel hf)]
  obtain ⟨b,c1,c2⟩:=contains_eq (skatersW w) s
  rw [bnd c1]
  have:b=hasW w s:=Bool.eq_iff_iff.2 (c2.trans (mem_skW w s))
  subst this
  cases hh:hasW w s
  ·exact .inr ⟨fun h=>absurd ((mem_skW w s).1 h.2) (by simp [hh]),_,rfl,rfl⟩
  ·simp only [Bool.not_true,cond_false]
   rw [bnd (poSum_eq _),bnd (impl_parts w s h3),bnd (sumInts_eq _)]
   exact .inl ⟨h3,(mem_skW w s).2 hh,rfl,rfl⟩
 ·rw [bnd h1,bnd h2]
  exact .inr ⟨fun h=>h3 h.1,_,rfl,rfl⟩

end Go.Proofs.YtegdphhfimaieaaGreat

/- Plain lemmas: what the functions compute is what the reference says, in plain Lean. No condition. -/
import Derived.Test.YtegdphhfimaieaaGreatPCur5
set_option maxRecDepth 4000
set_option maxHeartbeats 1000000
set_option linter.unusedVariables false
set_option linter.unusedSimpArgs false
set_option linter.unusedSectionVars false

namespace Go.Proofs.YtegdphhfimaieaaGreat
open Go.AM

def insD (x:Int):List Int→List Int
 | []=>[x]
 | y::l=>if y ≥ x then y::insD x l else x::y::l
theorem insD_perm (x:Int):∀ l,(insD x l).Perm (x::l)
 | []=>List.Perm.refl _
 | y::l=>by
  rw [insD]
  split
  ·exact ((insD_perm x l).cons y).trans (List.Perm.swap x y l)
  ·exact List.Perm.refl _
theorem insD_desc (x:Int):∀ l:List Int,l.Pairwise (· ≥ ·)→(insD x l).Pairwise (· ≥ ·)
 | [],_=>List.pairwise_singleton _ _
 | y::l,h=>by
  rw [insD]
  have h':=List.pairwise_cons.1 h
  split
  ·rename_i hyx
   refine List.pairwise_cons.2 ⟨fun z hz=>?_,insD_desc x l h'.2⟩
   rcases List.mem_cons.1 ((insD_perm x l).mem_iff.1 hz) with rfl | hz
   ·exact hyx
   ·exact h'.1 z hz
  ·rename_i hyx
   refine List.pairwise_cons.2 ⟨fun z hz=>?_,h⟩
   rcases List.mem_cons.1 hz with rfl | hz
   ·omega
   ·have:=h'.1 z hz;omega
theorem take_up (l:List Int) (z:Int) (hz:0 ≤ z) (h:∀ y ∈ l,0 ≤ y∧y ≤ z):∀ b:Nat,(l.take b).sum ≤ (l.take (b+1)).sum∧(l.take (b+1)).sum ≤ (l.take b).sum+z:=by
 induction l with
 | nil=>intro b;simp [hz]
 | cons y l ih =>
  intro b
  have hy:=h y (by simp)
  cases b with
  | zero=>simp;omega
  | succ b =>
   have:=ih (fun y hy=>h y (by simp [hy])) b
   simp only [List.take_succ_cons,List.sum_cons]
   omega
theorem insD_take (x:Int) (hx:0 ≤ x):∀ (l:List Int) (b:Nat),l.Pairwise (· ≥ ·)→(∀ y ∈ l,0 ≤ y)→(l.take b).sum ≤ ((insD x l).take b).sum∧((insD x l).take b).sum ≤ (l.take b).sum+x:=by
 intro l
 induction l with
 | nil=>intro b _ _;cases b <;> simp [insD,hx]
 | cons y l ih =>
  intro b hd hn
  have h':=List.pairwise_cons.1 hd
  cases b with
  | zero=>simp [hx]
  | succ b =>
   rw [insD]
   split
   ·have:=ih b h'.2 (fun z hz=>hn z (by simp [hz]))
    simp only [List.take_succ_cons,List.sum_cons]
    omega
   ·rename_i hyx
    have hy:=hn y (by simp)
    have h1:=take_up (y::l) x hx (fun z hz=>⟨hn z hz,by
     rcases List.mem_cons.1 hz with rfl | hz
     ·omega
     ·have:=h'.1 z hz;omega⟩) b
    simp only [List.take_succ_cons,List.sum_cons] at h1 ⊢
    omega
theorem more_take (x:Int) (hx:0 ≤ x) (b:Nat):∀ (e:Nat) (l l':List Int),l.Pairwise (· ≥ ·)→(∀ y ∈ l,0 ≤ y)→l'.Pairwise (· ≥ ·)→l'.Perm (l++List.replicate e x)→(l.take b).sum ≤ (l'.take b).sum∧(l'.take b).sum ≤ (l.take b).sum+(e:Int) * x:=by
 intro e
 induction e with
 | zero =>
  intro l l' h1 _ h2 h3
  have:l'=l:=List.Perm.eq_of_pairwise (le:=(· ≥ ·)) (fun a b _ _ h k=>by omega) h2 h1 (by simpa using h3)
  subst this
  simp
 | succ e ih =>
  intro l l' h1 hn h2 h3
  have hp:=insD_perm x l
  have h4:=ih (insD x l) l' (insD_desc x l h1) (fun y hy=>by
   rcases List.mem_cons.1 (hp.mem_iff.1 hy) with rfl | hy
   ·exact hx
   ·exact hn y hy) h2 (h3.trans (by
    rw [List.replicate_succ]
    exact (List.perm_middle).trans ((hp.append_right _).symm)))
  have h5:=insD_take x hx l b h1 hn
  rw [Int.natCast_succ,Int.add_mul,Int.one_mul]
  omega
theorem pts_of {s:Season} (hok:SeasonOk s) {x:Line} (hx:x ∈ s.lines):x.points.Pairwise (· ≥ ·)∧(∀ y ∈ x.points,0 ≤ y∧y ≤ 100000)∧x.points.length ≤ 80:=by
 have hN:=hok.2.1 x hx
 have hG:=(good_flat hok.2.2.1).2 hok.2.2.2.1 x hx
 obtain ⟨hp1,hp2⟩:=pts_desc hG hN
 refine ⟨hp1,hp2,?_⟩
 have:=hok.2.2.2.2
 unfold seasonEs at this
 rw [flat_len_lines hok.2.1] at this
 have:=le_sum hx (fun x=>x.events.length)
 have:=hN.1
 omega
theorem counted_sum {s:Season} (hok:SeasonOk s) {x:Line} (hx:x ∈ s.lines):sumW (countedL x s.best)=(x.points.take s.best.toNat).sum∧0 ≤ (x.points.take s.best.toNat).sum∧(x.points.take s.best.toNat).sum ≤ 8000000:=by
 obtain ⟨_,h2,h3⟩:=pts_of hok hx
 have hm:∀ y ∈ x.points.take s.best.toNat,0 ≤ y∧y ≤ 100000:=fun y hy=>h2 y (List.mem_of_mem_take hy)
 have hl:(x.points.take s.best.toNat).length ≤ 80:=by rw [List.length_take];omega
 have hb:∀ l:List Int,(∀ y ∈ l,0 ≤ y∧y ≤ 100000)→0 ≤ l.sum∧l.sum ≤ 100000 * (l.length:Int):=by
  intro l
  induction l with
  | nil=>intro _;simp
  | cons y l ih=>intro h;have h1:=h y (by simp);have h2:=ih (fun z hz=>h z (by simp [hz]));simp only [List.sum_cons,List.length_cons];omega
 have:=hb _ hm
 refine ⟨?_,this.1,by omega⟩
 unfold sumW countedL
 rw [sumW_sum _ 0 hm (by omega) (by omega)]
 omega

end Go.Proofs.YtegdphhfimaieaaGreat

/- Plain lemmas: what the functions compute is what the reference says, in plain Lean. No condition. -/
import Derived.Test.YtegdphhfimaieaaGreatPStableRank3
set_option maxRecDepth 4000
set_option maxHeartbeats 1000000
set_option linter.unusedVariables false
set_option linter.unusedSimpArgs false
set_option linter.unusedSectionVars false

namespace Go.Proofs.YtegdphhfimaieaaGreat
open Go.AM

structure Pass (key q:Rank→Int) (bs:Nat) (Pl bl:List (List Rank)) (last:List Rank):Prop where
 plen:∀ x ∈ Pl,x.length=2 * bs
 psrt:∀ x ∈ Pl,x.Pairwise (RK key q)
 len:∀ x ∈ bl,x.length=bs
 srt:∀ x ∈ bl,x.Pairwise (RK key q)
 lst:last.Pairwise (RK key q)
 lstl:last.length ≤ bs
 cross:(Pl++(bl++[last])).Pairwise (Cross q)
theorem cross_merge {q:Rank→Int} {Pl R:List (List Rank)} {X Y S:List Rank} (h:(Pl++(X::Y::R)).Pairwise (Cross q)) (p:S.Perm (X++Y)):((Pl++[S])++R).Pairwise (Cross q):=by
 have h1:=List.pairwise_append.1 h
 have h2:=List.pairwise_cons.1 h1.2.1
 have h3:=List.pairwise_cons.1 h2.2
 have hS:∀ u ∈ S,u ∈ X ∨ u ∈ Y:=fun u hu=>List.mem_append.1 (p.mem_iff.1 hu)
 rw [List.append_assoc,List.singleton_append,List.pairwise_append]
 refine ⟨h1.1,List.pairwise_cons.2 ⟨fun z hz u hu v hv=>?_,h3.2⟩,fun a ha b hb=>?_⟩
 ·rcases hS u hu with h | h
  ·exact h2.1 z (by simp [hz]) u h v hv
  ·exact h3.1 z hz u h v hv
 ·rcases List.mem_cons.1 hb with rfl | hb
  ·intro u hu v hv
   rcases hS v hv with h | h
   ·exact h1.2.2 a ha X (by simp) u hu v h
   ·exact h1.2.2 a ha Y (by simp) u hu v h
  ·exact h1.2.2 a ha b (by simp [hb])
theorem cross_XY {q:Rank→Int} {Pl R:List (List Rank)} {X Y:List Rank} (h:(Pl++(X::Y::R)).Pairwise (Cross q)):Cross q X Y :=
 (List.pairwise_cons.1 (List.pairwise_append.1 h).2.1).1 Y (by simp)
theorem cross_snoc {q:Rank→Int} {l:List (List Rank)} (h:l.Pairwise (Cross q)):(l++([]++[[]])).Pairwise (Cross q):=by
 rw [List.nil_append,List.pairwise_append]
 exact ⟨h,List.pairwise_singleton _ _,fun a _ b hb=>by obtain rfl:=List.mem_singleton.1 hb;exact fun u _ v hv=>by simp at hv⟩
theorem stable_l3 (cmp:Rank→Rank→Option Int) (key q:Rank→Int) (fu:Nat) (hfu:1000000 < fu) (bs:Nat) (hbs:0 < bs) (hbb:bs ≤ 1000000) (N:Nat) (hN:N ≤ 1000000):∀ (n:Nat) (Pl bl:List (List Rank)) (last:List Rank) (fuel:Nat),bl.length ≤ n→n < fuel→Pass key q bs Pl bl last→CmpOn cmp key (Pl.flatten++(bl.flatten++last))→(Pl.flatten++(bl.flatten++last)).length=N →
  ∃ (Pl' bl':List (List Rank)) (last':List Rank),slices_stableCmpFunc_Rank_l3 (N:Int) cmp fu (bs:Int) fuel (Pl.flatten++(bl.flatten++last)) (Pl.flatten.length:Int) ((Pl.flatten.length+2 * bs:Nat):Int)=some (Pl'.flatten++(bl'.flatten++last'),(Pl'.flatten.length:Int)) ∧
   Pass key q bs Pl' bl' last'∧bl'.flatten.length+last'.length < 2 * bs∧(Pl'.flatten++(bl'.flatten++last')).Perm (Pl.flatten++(bl.flatten++last)):=by
 intro n
 induction n with
 | zero =>
  intro Pl bl last fuel h1 h2 hp hc hl
  obtain ⟨f,rfl⟩:=Nat.exists_eq_succ_of_ne_zero (by omega:fuel ≠ 0)
  obtain rfl:bl=[]:=List.eq_nil_of_length_eq_zero (by omega)
  have:=hp.lstl
  simp only [List.flatten_nil,List.nil_append,List.length_append] at hl
  rw [slices_stableCmpFunc_Rank_l3,decide_eq_false (by omega),cond_false]
  exact ⟨Pl,[],last,rfl,hp,by simp;omega,List.Perm.refl _⟩
 | succ n ih =>
  intro Pl bl last fuel h1 h2 hp hc hl
  obtain ⟨f,rfl⟩:=Nat.exists_eq_succ_of_ne_zero (by omega:fuel ≠ 0)
  have hll:=hp.lstl
  rw [slices_stableCmpFunc_Rank_l3]
  by_cases h:Pl.flatten.length+2 * bs ≤ N
  ·rw [decide_eq_true (by omega),cond_true]
   have hrest:2 * bs ≤ bl.flatten.length+last.length:=by simp only [List.length_append] at hl;omega
   have key1:∃ X Y bl2 last2,bl2.length ≤ n∧X.length=bs∧Y.length=bs∧X.Pairwise (RK key q)∧Y.Pairwise (RK key q)∧bl.flatten++last=X++(Y++(bl2.flatten++last2))∧Cross q X Y∧(∀ S:List Rank,S.length=2 * bs→S.Pairwise (RK key q)→S.Perm (X++Y)→Pass key q bs (Pl++[S]) bl2 last2):=by
    cases bl with
    | nil=>simp at hrest;omega
    | cons X bl =>
     have hX:=hp.len X (by simp)
     cases bl with
     | nil =>
      simp only [List.flatten_cons,List.flatten_nil,List.append_nil,hX] at hrest
      have hY:last.length=bs:=by omega
      refine ⟨X,last,[],[],by simp,hX,hY,hp.srt X (by simp),hp.lst,by simp,cross_XY (R:=[]) hp.cross,fun S hS hs hpm=>?_⟩
      exact ⟨fun x hx=>by rcases List.mem_append.1 hx with h | h;exact hp.plen x h;obtain rfl:=List.mem_singleton.1 h;exact hS,
       fun x hx=>by rcases List.mem_append.1 hx with h | h;exact hp.psrt x h;obtain rfl:=List.mem_singleton.1 h;exact hs,
       by simp,by simp,List.Pairwise.nil,by simp,cross_snoc (by have:=cross_merge (R:=[]) hp.cross hpm;simpa using this)⟩
     | cons Y bl =>
      have hY:=hp.len Y (by simp)
      refine ⟨X,Y,bl,last,by simp at h1;omega,hX,hY,hp.srt X (by simp),hp.srt Y (by simp),by simp,cross_XY hp.cross,fun S hS hs hpm=>?_⟩
      exact ⟨fun x hx=>by rcases List.mem_append.1 hx with h | h;exact hp.plen x h;obtain rfl:=List.mem_singleton.1 h;exact hS,
       fun x hx=>by rcases List.mem_append.1 hx with h | h;exact hp.psrt x h;obtain rfl:=List.mem_singleton.1 h;exact hs,
       fun x hx=>hp.len x (by simp [hx]),fun x hx=>hp.srt x (by simp [hx]),hp.lst,hll,cross_merge hp.cross hpm⟩
   obtain ⟨X,Y,bl2,last2,k1,k2,k3,k4,k5,k6,k7,k8⟩:=key1
   rw [k6] at hc hl ⊢
   have hXn:X ≠ []:=List.length_pos_iff.1 (by omega)
   have hYn:Y ≠ []:=List.length_pos_iff.1 (by omega)
   obtain ⟨S,g1,g2,g3⟩:=sym_at cmp key q fu hfu Pl.flatten X Y (bl2.flatten++last2) hXn hYn (hc.sub (by intro x hx;simp at hx ⊢;rcases hx with h | h <;> simp [h])) k4 k5 k7 (by simp only [List.length_append] at hl;omega)
    (a:=(Pl.flatten.length:Int)) (m:=w64 ((Pl.flatten.length:Int)+(bs:Int))) (b:=((Pl.flatten.length+2 * bs:Nat):Int)) rfl (by rw [w64_in (by omega)];omega) (by omega) rfl
   rw [bnd g1]
   have hSl:S.length=2 * bs:=by rw [g3.length_eq];simp;omega
   have hfl:(Pl++[S]).flatten=Pl.flatten++S:=by simp
   have hpm:((Pl++[S]).flatten++(bl2.flatten++last2)).Perm (Pl.flatten++(X++(Y++(bl2.flatten++last2)))):=by
    rw [hfl,List.append_assoc]
    have:=(g3.append_right (bl2.flatten++last2)).append_left Pl.flatten
    simpa using this
   obtain ⟨Pl',bl',last',m1,m2,m3,m4⟩:=ih (Pl++[S]) bl2 last2 f k1 (by omega) (k8 S hSl g2 g3) (hc.sub fun x hx=>hpm.mem_iff.1 hx) (by rw [hpm.length_eq];exact hl)
   refine ⟨Pl',bl',last',?_,m2,m3,m4.trans hpm⟩
   rw [w64_in (n:=2 * (bs:Int)) (by omega),w64_in (by omega)]
   rw [hfl,List.length_append,hSl] at m1
   rw [show ((Pl.flatten.length+2 * bs:Nat):Int)+2 * (bs:Int)=((Pl.flatten.length+2 * bs+2 * bs:Nat):Int) from by omega,← m1]
   simp
  ·rw [decide_eq_false (by omega),cond_false]
   exact ⟨Pl,bl,last,rfl,hp,by simp only [List.length_append] at hl;omega,List.Perm.refl _⟩
theorem stable_done (cmp:Rank→Rank→Option Int) (key q:Rank→Int) (fu:Nat) (N bs:Nat) (bl:List (List Rank)) (last:List Rank) (fuel:Nat) (h1:N ≤ bs) (h2:0 < fuel) (h3:0 < bs) (hb:Blk key q bs bl last) (hl:(bl.flatten++last).length=N) :
  ∃ S,slices_stableCmpFunc_Rank_l2 (N:Int) cmp fu fuel (bl.flatten++last) (bs:Int)=some S∧S.Pairwise (RK key q)∧S.Perm (bl.flatten++last):=by
 obtain ⟨f,rfl⟩:=Nat.exists_eq_succ_of_ne_zero (by omega:fuel ≠ 0)
 rw [slices_stableCmpFunc_Rank_l2,decide_eq_false (by omega),cond_false]
 refine ⟨_,rfl,?_,List.Perm.refl _⟩
 simp only [List.length_append] at hl
 cases bl with
 | nil=>simpa using hb.lst
 | cons x bl =>
  have hx:=hb.len x (by simp)
  cases bl with
  | nil =>
   simp only [List.flatten_cons,List.flatten_nil,List.append_nil] at hl ⊢
   obtain rfl:last=[]:=List.eq_nil_of_length_eq_zero (by omega)
   simpa using hb.srt x (by simp)
  | cons y bl=>have hy:=hb.len y (by simp);simp at hl;omega
theorem stable_l2 (cmp:Rank→Rank→Option Int) (key q:Rank→Int) (fu:Nat) (hfu:1000000 < fu) (N:Nat) (hN:N ≤ 1000000):∀ (n bs:Nat) (bl:List (List Rank)) (last:List Rank) (fuel:Nat),N - bs ≤ n→n < fuel→0 < bs→bs ≤ 2000000→Blk key q bs bl last→last.length ≤ bs→CmpOn cmp key (bl.flatten++last)→(bl.flatten++last).length=N →
  ∃ S,slices_stableCmpFunc_Rank_l2 (N:Int) cmp fu fuel (bl.flatten++last) (bs:Int)=some S∧S.Pairwise (RK key q)∧S.Perm (bl.flatten++last):=by
 intro n
 induction n with
 | zero =>
  intro bs bl last fuel h1 h2 h3 h3b hb hll hc hl
  exact stable_done cmp key q fu N bs bl last fuel (by omega) (by omega) h3 hb hl
 | succ n ih =>
  intro bs bl last fuel h1 h2 h3 h3b hb hll hc hl
  by_cases hlt:bs < N
  ·obtain ⟨f,rfl⟩:=Nat.exists_eq_succ_of_ne_zero (by omega:fuel ≠ 0)
   rw [slices_stableCmpFunc_Rank_l2,decide_eq_true (by omega),cond_true,w64_in (n:=2 * (bs:Int)) (by omega)]
   have hblen:bl.length ≤ 1000000:=by
    have:=flat_len hb.len
    simp only [List.length_append] at hl
    have:=Nat.le_mul_of_pos_right bl.length h3
    omega
   obtain ⟨Pl',bl',last',g1,g2,g3,g4⟩:=stable_l3 cmp key q fu hfu bs h3 (by omega) N hN bl.length [] bl last fu (Nat.le_refl _) (by omega) ⟨by simp,by simp,hb.len,hb.srt,hb.lst,hll,by simpa using hb.cross⟩ (by simpa using hc) (by simpa using hl)
   simp only [List.flatten_nil,List.nil_append,List.length_nil,Nat.zero_add] at g1 g4
   rw [show ((0:Nat):Int)=0 from rfl] at g1
   rw [show (2 * (bs:Int))=((2 * bs:Nat):Int) from by omega,bnd g1]
   have hl':Pl'.flatten.length+(bl'.flatten.length+last'.length)=N:=by have:=g4.length_eq;simp only [List.length_append] at this hl;omega
   have hc':CmpOn cmp key (Pl'.flatten++(bl'.flatten++last')):=hc.sub fun x hx=>g4.mem_iff.1 hx
   dsimp only
   rw [w64_in (n:=(Pl'.flatten.length:Int)+(bs:Int)) (by omega),w64_in (n:=(bs:Int) * 2) (by omega)]
   have hcases:(∃ x,bl'=[x]∧x.length=bs) ∨ bl'=[]:=by
    cases bl' with
    | nil=>exact .inr rfl
    | cons x b =>
     have hx:=g2.len x (by simp)
     cases b with
     | nil=>exact .inl ⟨x,rfl,hx⟩
     | cons y b=>have hy:=g2.len y (by simp);simp at g3;omega
   have go:∀ (last2:List Rank),last2.Pairwise (RK key q)→last2.Perm (bl'.flatten++last')→∃ S,slices_stableCmpFunc_Rank_l2 (N:Int) cmp fu f (Pl'.flatten++last2) ((bs:Int) * 2)=some S∧S.Pairwise (RK key q)∧S.Perm (bl.flatten++last):=by
    intro last2 q1 q2
    have hp2:(Pl'.flatten++last2).Perm (Pl'.flatten++(bl'.flatten++last')):=q2.append_left _
    obtain ⟨S,s1,s2,s3⟩:=ih (2 * bs) Pl' last2 f (by omega) (by omega) (by omega) (by omega) ⟨g2.plen,g2.psrt,q1,by
      have hcr:=List.pairwise_append.1 g2.cross
      rw [List.pairwise_append]
      refine ⟨hcr.1,List.pairwise_singleton _ _,fun a ha b hb'=>?_⟩
      obtain rfl:=List.mem_singleton.1 hb'
      intro u hu v hv
      rcases List.mem_append.1 (q2.mem_iff.1 hv) with h | h
      ·obtain ⟨z,hz,hvz⟩:=List.mem_flatten.1 h
       exact hcr.2.2 a ha z (by simp [hz]) u hu v hvz
      ·exact hcr.2.2 a ha last' (by simp) u hu v h⟩ (by rw [q2.length_eq];simp only [List.length_append];omega) (hc'.sub fun x hx=>hp2.mem_iff.1 hx) (by rw [hp2.length_eq];simp only [List.length_append];omega)
    refine ⟨S,?_,s2,s3.trans (hp2.trans g4)⟩
    rw [← s1];congr 1;omega
   by_cases hm:Pl'.flatten.length+bs < N
   ·rw [decide_eq_true (by omega),cond_true]
    rcases hcases with ⟨x,rfl,hx⟩ | rfl
    ·have hln:last' ≠ []:=List.length_pos_iff.1 (by simp only [List.flatten_cons,List.flatten_nil,List.append_nil] at hl';omega)
     simp only [List.flatten_cons,List.flatten_nil,List.append_nil] at hl' hc' go ⊢
     have hcr:=g2.cross
     obtain ⟨S,k1,k2,k3⟩:=sym_at cmp key q fu hfu Pl'.flatten x last' [] (List.length_pos_iff.1 (by omega)) hln (hc'.sub (by intro z hz;simp at hz ⊢;rcases hz with h | h <;> simp [h])) (g2.srt x (by simp)) g2.lst (cross_XY (R:=[]) hcr) (by omega)
      (a:=(Pl'.flatten.length:Int)) (m:=(Pl'.flatten.length:Int)+(bs:Int)) (b:=(N:Int)) rfl (by omega) (by omega) (d:=Pl'.flatten++(x++last')) (by simp)
     rw [bnd k1,List.append_nil]
     exact go S k2 k3
    ·have:=g2.lstl
     simp only [List.flatten_nil,List.length_nil] at hl';omega
   ·rw [decide_eq_false (by omega),cond_false]
    rcases hcases with ⟨x,rfl,hx⟩ | rfl
    ·simp only [List.flatten_cons,List.flatten_nil,List.append_nil] at hl' go ⊢
     obtain rfl:last'=[]:=List.eq_nil_of_length_eq_zero (by omega)
     exact go (x++[]) (by simpa using g2.srt x (by simp)) (List.Perm.refl _)
    ·simp only [List.flatten_nil,List.nil_append] at go ⊢
     exact go last' g2.lst (List.Perm.refl _)
  ·exact stable_done cmp key q fu N bs bl last fuel (by omega) (by omega) h3 hb hl
theorem stable_ok (cmp:Rank→Rank→Option Int) (key q:Rank→Int) (fu:Nat) (hfu:1048576 < fu) (l:List Rank) (hl:l.length ≤ 1000000) (hc:CmpOn cmp key l) (hq:l.Pairwise (fun x y=>q x < q y)) :
  ∃ S,slices_SortStableFunc_Rank_p fu l cmp=some S∧S.Pairwise (RK key q)∧S.Perm l:=by
 unfold slices_SortStableFunc_Rank_p slices_stableCmpFunc_Rank_p
 obtain ⟨bl,U,g1,g2,g3,g4,g5,g6,g7,g8⟩:=stable_l1 cmp key q fu (by omega) l.length [] l fu (Nat.le_refl _) (by omega) (by simpa using hl) hc hq (by simp) List.Pairwise.nil (by simp)
 simp only [List.flatten_nil,List.nil_append,List.length_nil,Nat.zero_add] at g1 g3
 rw [bnd (show slices_stableCmpFunc_Rank_l1 (l.length:Int) cmp fu fu l 0 20=some (bl.flatten++U,(bl.flatten.length:Int)) from g1)]
 dsimp only
 have hlen:=g3.length_eq
 rw [List.length_append] at hlen
 obtain ⟨S,s1,s2,s3⟩:=ins_ok cmp key q bl.flatten U [] fu (by omega) g4 g5 (by omega) (a:=(bl.flatten.length:Int)) (b:=(l.length:Int)) rfl (by omega)
 simp only [List.append_nil] at s1
 rw [bnd s1]
 have hpm:(bl.flatten++S).Perm l:=(s3.append_left _).trans g3
 obtain ⟨R,r1,r2,r3⟩:=stable_l2 cmp key q fu (by omega) l.length hl l.length 20 bl S fu (by omega) (by omega) (by omega) (by omega) ⟨fun x hx=>(g6 x hx).1,fun x hx=>(g6 x hx).2,s2,by
   rw [List.pairwise_append]
   refine ⟨g7,List.pairwise_singleton _ _,fun a ha b hb=>?_⟩
   obtain rfl:=List.mem_singleton.1 hb
   exact fun u hu v hv=>g8 a ha u hu v (s3.mem_iff.1 hv)⟩ (by rw [s3.length_eq];omega) (hc.sub fun x hx=>hpm.mem_iff.1 hx) (by rw [hpm.length_eq])
 rw [bnd (show slices_stableCmpFunc_Rank_l2 (l.length:Int) cmp fu fu (bl.flatten++S) 20=some R from r1)]
 exact ⟨R,rfl,r2,r3.trans hpm⟩

end Go.Proofs.YtegdphhfimaieaaGreat

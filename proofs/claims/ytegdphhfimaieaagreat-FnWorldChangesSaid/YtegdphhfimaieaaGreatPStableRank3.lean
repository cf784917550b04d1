/- Plain lemmas: what the functions compute is what the reference says, in plain Lean. No condition. -/
import Derived.Test.YtegdphhfimaieaaGreatPStableRank2
set_option maxRecDepth 4000
set_option maxHeartbeats 1000000
set_option linter.unusedVariables false
set_option linter.unusedSimpArgs false
set_option linter.unusedSectionVars false

namespace Go.Proofs.YtegdphhfimaieaaGreat
open Go.AM

theorem bang_L {A L T B:List Rank} {i:Nat} (h:i < L.length):(A++(L++(T++B)))[A.length+i]! = L[i]! := bang_app h
theorem bang_T {A L T B:List Rank} {j:Nat} (h:j < T.length):(A++(L++(T++B)))[A.length+L.length+j]! = T[j]! := by
 have:=bang_app (A:=A++L) (X:=T) (B:=B) h
 rw [List.length_append] at this
 rw [← this];simp
theorem sym_gen (fu rf:Nat) (hfu:1000000 < fu) (cmp:Rank→Rank→Option Int) (key q:Rank→Int) (ih:SymIH fu rf cmp key q) (A L T B:List Rank) (md w:Nat) (hrf:L.length+T.length < rf+1) (hL2:2 ≤ L.length) (hT2:2 ≤ T.length)
  (hmd:md=(A.length+(A.length+L.length+T.length)) / 2) (hc:CmpOn cmp key (L++T)) (hsL:L.Pairwise (RK key q)) (hsT:T.Pairwise (RK key q)) (hq:∀ x ∈ L,∀ y ∈ T,q x < q y) (hl:A.length+L.length+T.length ≤ 1000000)
  (hw1:A.length ≤ w) (hw2:w ≤ A.length+L.length) (hw3:w ≤ md) (hw4:md ≤ w+T.length)
  (C1:w=A.length ∨ md=w+T.length ∨ ¬ key (A++(L++(T++B)))[md+(A.length+L.length) - w]! < key (A++(L++(T++B)))[w - 1]!)
  (C2:w=A.length+L.length ∨ md=w ∨ key (A++(L++(T++B)))[md+(A.length+L.length) - 1 - w]! < key (A++(L++(T++B)))[w]!) :
  ∃ S,(cond (decide ((w:Int) < ((A.length+L.length:Nat):Int)) && decide (((A.length+L.length:Nat):Int) < ((md+(A.length+L.length) - w:Nat):Int)))
   ((slices_rotateCmpFunc_Rank_p fu (A++(L++(T++B))) (w:Int) ((A.length+L.length:Nat):Int) ((md+(A.length+L.length) - w:Nat):Int) cmp).bind fun x=>symK fu rf cmp (A.length:Int) (w:Int) (md:Int) ((md+(A.length+L.length) - w:Nat):Int) ((A.length+L.length+T.length:Nat):Int) x)
   (symK fu rf cmp (A.length:Int) (w:Int) (md:Int) ((md+(A.length+L.length) - w:Nat):Int) ((A.length+L.length+T.length:Nat):Int) (A++(L++(T++B)))))=some (A++(S++B))∧S.Pairwise (RK key q)∧S.Perm (L++T):=by
 have hLs:L=L.take (w - A.length)++L.drop (w - A.length):=(List.take_append_drop _ _).symm
 have hTs:T=T.take (md - w)++T.drop (md - w):=(List.take_append_drop _ _).symm
 have hx12:∀ x ∈ L.take (w - A.length),∀ y ∈ T.drop (md - w),RK key q x y:=by
  intro x hx y hy
  obtain ⟨i,i1,i2,rfl⟩:=take_bang hx
  obtain ⟨j,j1,j2,rfl⟩:=drop_bang hy
  have hqq:=hq L[i]! (bang_mem i2) T[j]! (bang_mem j2)
  rcases C1 with h | h | h
  ·omega
  ·omega
  ·rw [show w - 1=A.length+(w - 1 - A.length) from by omega,bang_L (by omega),show md+(A.length+L.length) - w=A.length+L.length+(md - w) from by omega,bang_T (by omega)] at h
   have k1:=key_mono hsL (i:=i) (j:=w - 1 - A.length) (by omega) (by omega)
   have k2:=key_mono hsT (i:=md - w) (j:=j) (by omega) (by omega)
   unfold RK;omega
 have hx21:∀ x ∈ T.take (md - w),∀ y ∈ L.drop (w - A.length),RK key q x y:=by
  intro x hx y hy
  obtain ⟨i,i1,i2,rfl⟩:=take_bang hx
  obtain ⟨j,j1,j2,rfl⟩:=drop_bang hy
  rcases C2 with h | h | h
  ·omega
  ·omega
  ·rw [show (A++(L++(T++B)))[w]! = L[w - A.length]! from by rw [← bang_L (A:=A) (T:=T) (B:=B) (i:=w - A.length) (by omega)];congr 1;omega,show md+(A.length+L.length) - 1 - w=A.length+L.length+(md - w - 1) from by omega,bang_T (by omega)] at h
   have k1:=key_mono hsT (i:=i) (j:=md - w - 1) (by omega) (by omega)
   have k2:=key_mono hsL (i:=w - A.length) (j:=j) (by omega) (by omega)
   left;omega
 have l1:(L.take (w - A.length)).length=w - A.length:=by rw [List.length_take];omega
 have l2:(L.drop (w - A.length)).length=A.length+L.length - w:=by rw [List.length_drop];omega
 have l3:(T.take (md - w)).length=md - w:=by rw [List.length_take];omega
 have l4:(T.drop (md - w)).length=w+T.length - md:=by rw [List.length_drop];omega
 have hLl:L.length=L.length:=rfl
 generalize hLn:L.length=nL at *
 generalize hTn:T.length=nT at *
 generalize L.take (w - A.length)=L1 at *
 generalize L.drop (w - A.length)=L2 at *
 generalize T.take (md - w)=R1 at *
 generalize T.drop (md - w)=R2 at *
 subst hLs hTs
 have hs1:=List.pairwise_append.1 hsL
 have hs2:=List.pairwise_append.1 hsT
 obtain ⟨S,g1,g2,g3⟩:=symK_ok fu rf cmp key q ih A L1 R1 L2 R2 B (by omega) (by omega) (hc.sub (by intro x hx;simp at hx ⊢;rcases hx with h | h | h | h <;> simp [h])) hs1.1 hs2.1 hs1.2.1 hs2.2.1
  (fun x hx y hy=>hq x (by simp [hx]) y (by simp [hy])) (fun x hx y hy=>hq x (by simp [hx]) y (by simp [hy]))
  (by
   intro x hx y hy
   rcases List.mem_append.1 hx with hx | hx <;> rcases List.mem_append.1 hy with hy | hy
   ·exact hs1.2.2 x hx y hy
   ·exact hx12 x hx y hy
   ·exact hx21 x hx y hy
   ·exact hs2.2.2 x hx y hy) (by omega)
 rw [show A.length+L1.length+R1.length+L2.length+R2.length=A.length+nL+nT from by omega,show A.length+L1.length+R1.length+L2.length=md+(A.length+nL) - w from by omega,show A.length+L1.length+R1.length=md from by omega,show A.length+L1.length=w from by omega] at g1
 refine ⟨S,?_,g2,g3.trans ?_⟩
 ·by_cases h0:L2=[] ∨ R1=[]
  ·have:(decide ((w:Int) < ((A.length+nL:Nat):Int)) && decide (((A.length+nL:Nat):Int) < ((md+(A.length+nL) - w:Nat):Int)))=false:=by
    rcases h0 with rfl | rfl
    ·simp only [List.length_nil] at l2;rw [decide_eq_false (by omega)];rfl
    ·simp only [List.length_nil] at l3;rw [decide_eq_false (p:=((A.length+nL:Nat):Int) < _) (by omega),Bool.and_false]
   rw [this,cond_false,← g1]
   congr 1
   rcases h0 with rfl | rfl <;> simp
  ·have e2:L2 ≠ []:=fun e=>h0 (.inl e)
   have e1:R1 ≠ []:=fun e=>h0 (.inr e)
   have p1:=List.length_pos_iff.2 e1
   have p2:=List.length_pos_iff.2 e2
   rw [decide_eq_true (by omega),decide_eq_true (by omega),Bool.and_self,cond_true,bnd (rot_ok cmp fu hfu (A++L1) L2 R1 (R2++B) e2 e1 (by simp;omega) (by simp;omega) (by simp;omega) (by simp;omega) (by simp)),← g1]
   congr 1
   simp
 ·have:(R1++(L2++R2)).Perm (L2++(R1++R2)):=by
   rw [← List.append_assoc,← List.append_assoc];exact (List.perm_append_comm).append_right R2
  simpa using this.append_left L1
theorem sym_s5 (cmp:Rank→Rank→Option Int) (key:Rank→Int) (fu:Nat) (hfu:1000000 < fu) (d:List Rank) (a m b md:Nat) (hmd:md=(a+b) / 2) (hb:b ≤ d.length) (hbb:b ≤ 1000000) (ham:a ≤ m) (hmb:m ≤ b) (hcd:∀ s t,a ≤ s→s < b→a ≤ t→t < b→CmpBy cmp key d[s]! d[t]!)
  (hL:∀ s t,a ≤ s→s ≤ t→t < m→key d[s]! ≤ key d[t]!) (hT:∀ s t,m ≤ s→s ≤ t→t < b→key d[s]! ≤ key d[t]!) (lo hi:Nat) (h1:a ≤ lo) (h2:lo ≤ hi) (h3:hi ≤ m) (h4:∀ t,lo ≤ t→t < hi→m ≤ md+m - 1 - t∧md+m - 1 - t < b∧t+1 ≤ md) :
  ∃ w:Nat,slices_symMergeCmpFunc_Rank_l5 d (a:Int) (m:Int) (b:Int) cmp fu (lo:Int) (hi:Int)=some (w:Int)∧lo ≤ w∧w ≤ hi∧(∀ t,lo ≤ t→t < w→¬ key d[md+m - 1 - t]! < key d[t]!)∧(∀ t,w ≤ t→t < hi→key d[md+m - 1 - t]! < key d[t]!):=by
 obtain ⟨w,w1,w2,w3,w4,w5⟩:=halve (fun f u v=>slices_symMergeCmpFunc_Rank_l5 d (a:Int) (m:Int) (b:Int) cmp f u v) (fun t=>!decide (key d[md+m - 1 - t]! < key d[t]!)) lo hi
  (by
   intro f u v g1 g2
   show slices_symMergeCmpFunc_Rank_l5 _ _ _ _ cmp (f+1) _ _=_
   rw [slices_symMergeCmpFunc_Rank_l5]
   by_cases huv:u < v
   ·obtain ⟨k1,k2,k3⟩:=h4 ((u+v) / 2) (by omega) (by omega)
    rw [decide_eq_true (by omega),cond_true,if_pos huv,u64_mid a b (by omega) (by omega),u64_mid u v (by omega) (by omega),← hmd,w64_in (n:=(md:Int)+(m:Int)) (by omega),w64_in (n:=(md:Int)+(m:Int) - 1) (by omega),w64_in (n:=(md:Int)+(m:Int) - 1 - (((u+v) / 2:Nat):Int)) (by omega),
     bnd (getI_bang (k:=md+m - 1 - (u+v) / 2) (by omega) (by omega)),bnd (getI_bang (k:=(u+v) / 2) rfl (by omega))]
    obtain ⟨c,c1,c2⟩:=hcd (md+m - 1 - (u+v) / 2) ((u+v) / 2) (by omega) k2 (by omega) (by omega)
    rw [bnd c1]
    by_cases hk:key d[md+m - 1 - (u+v) / 2]! < key d[(u+v) / 2]!
    ·rw [decide_eq_true (c2.2 hk),Bool.not_true,cond_false,if_neg (by simpa using hk)]
    ·rw [decide_eq_false (fun h=>hk (c2.1 h)),Bool.not_false,cond_true,if_pos (by simpa using hk),w64_in (by omega)];rfl
   ·rw [decide_eq_false (by omega),cond_false,if_neg huv])
  (by
   intro s t g1 g2 g3 g4
   simp only [Bool.not_eq_true',decide_eq_false_iff_not] at g4 ⊢
   obtain ⟨k1,k2,k3⟩:=h4 s g1 (by omega)
   obtain ⟨k4,k5,k6⟩:=h4 t (by omega) g3
   have e1:=hL s t (by omega) g2 (by omega)
   have e2:=hT (md+m - 1 - t) (md+m - 1 - s) k4 (by omega) k2
   omega) (hi - lo) fu lo hi (Nat.le_refl _) (by omega) (Nat.le_refl _) h2 (Nat.le_refl _) (fun t g1 g2=>by omega) (fun t g1 g2=>by omega)
 refine ⟨w,w1,w2,w3,fun t g1 g2=>?_,fun t g1 g2=>?_⟩
 ·have:=w4 t g1 g2
  simpa using this
 ·have:=w5 t g1 g2
  simpa using this
theorem sym_s6 (cmp:Rank→Rank→Option Int) (key:Rank→Int) (fu:Nat) (hfu:1000000 < fu) (d:List Rank) (a m b md:Nat) (hmd:md=(a+b) / 2) (hb:b ≤ d.length) (hbb:b ≤ 1000000) (ham:a ≤ m) (hmb:m ≤ b) (hcd:∀ s t,a ≤ s→s < b→a ≤ t→t < b→CmpBy cmp key d[s]! d[t]!)
  (hL:∀ s t,a ≤ s→s ≤ t→t < m→key d[s]! ≤ key d[t]!) (hT:∀ s t,m ≤ s→s ≤ t→t < b→key d[s]! ≤ key d[t]!) (lo hi:Nat) (h1:a ≤ lo) (h2:lo ≤ hi) (h3:hi ≤ m) (h4:∀ t,lo ≤ t→t < hi→m ≤ md+m - 1 - t∧md+m - 1 - t < b∧t+1 ≤ md) :
  ∃ w:Nat,slices_symMergeCmpFunc_Rank_l6 d (a:Int) (m:Int) (b:Int) cmp fu (lo:Int) (hi:Int)=some (w:Int)∧lo ≤ w∧w ≤ hi∧(∀ t,lo ≤ t→t < w→¬ key d[md+m - 1 - t]! < key d[t]!)∧(∀ t,w ≤ t→t < hi→key d[md+m - 1 - t]! < key d[t]!):=by
 obtain ⟨w,w1,w2,w3,w4,w5⟩:=halve (fun f u v=>slices_symMergeCmpFunc_Rank_l6 d (a:Int) (m:Int) (b:Int) cmp f u v) (fun t=>!decide (key d[md+m - 1 - t]! < key d[t]!)) lo hi
  (by
   intro f u v g1 g2
   show slices_symMergeCmpFunc_Rank_l6 _ _ _ _ cmp (f+1) _ _=_
   rw [slices_symMergeCmpFunc_Rank_l6]
   by_cases huv:u < v
   ·obtain ⟨k1,k2,k3⟩:=h4 ((u+v) / 2) (by omega) (by omega)
    rw [decide_eq_true (by omega),cond_true,if_pos huv,u64_mid a b (by omega) (by omega),u64_mid u v (by omega) (by omega),← hmd,w64_in (n:=(md:Int)+(m:Int)) (by omega),w64_in (n:=(md:Int)+(m:Int) - 1) (by omega),w64_in (n:=(md:Int)+(m:Int) - 1 - (((u+v) / 2:Nat):Int)) (by omega),
     bnd (getI_bang (k:=md+m - 1 - (u+v) / 2) (by omega) (by omega)),bnd (getI_bang (k:=(u+v) / 2) rfl (by omega))]
    obtain ⟨c,c1,c2⟩:=hcd (md+m - 1 - (u+v) / 2) ((u+v) / 2) (by omega) k2 (by omega) (by omega)
    rw [bnd c1]
    by_cases hk:key d[md+m - 1 - (u+v) / 2]! < key d[(u+v) / 2]!
    ·rw [decide_eq_true (c2.2 hk),Bool.not_true,cond_false,if_neg (by simpa using hk)]
    ·rw [decide_eq_false (fun h=>hk (c2.1 h)),Bool.not_false,cond_true,if_pos (by simpa using hk),w64_in (by omega)];rfl
   ·rw [decide_eq_false (by omega),cond_false,if_neg huv])
  (by
   intro s t g1 g2 g3 g4
   simp only [Bool.not_eq_true',decide_eq_false_iff_not] at g4 ⊢
   obtain ⟨k1,k2,k3⟩:=h4 s g1 (by omega)
   obtain ⟨k4,k5,k6⟩:=h4 t (by omega) g3
   have e1:=hL s t (by omega) g2 (by omega)
   have e2:=hT (md+m - 1 - t) (md+m - 1 - s) k4 (by omega) k2
   omega) (hi - lo) fu lo hi (Nat.le_refl _) (by omega) (Nat.le_refl _) h2 (Nat.le_refl _) (fun t g1 g2=>by omega) (fun t g1 g2=>by omega)
 refine ⟨w,w1,w2,w3,fun t g1 g2=>?_,fun t g1 g2=>?_⟩
 ·have:=w4 t g1 g2
  simpa using this
 ·have:=w5 t g1 g2
  simpa using this
theorem sym_ok (cmp:Rank→Rank→Option Int) (key q:Rank→Int) (fu:Nat) (hfu:1000000 < fu):∀ rf,SymIH fu rf cmp key q:=by
 intro rf
 induction rf with
 | zero=>intro A L T B _ _ h;omega
 | succ rf ih =>
  intro A L T B hL hT hlen hc hsL hsT hq hl
  have p1:=List.length_pos_iff.2 hL
  have p2:=List.length_pos_iff.2 hT
  rw [slices_symMergeCmpFunc_Rank_p,w64_in (n:=((A.length+L.length:Nat):Int) - (A.length:Int)) (by omega),w64_in (n:=((A.length+L.length+T.length:Nat):Int) - ((A.length+L.length:Nat):Int)) (by omega)]
  by_cases hL1:L.length=1
  ·obtain ⟨x,rfl⟩:=List.length_eq_one_iff.1 hL1
   rw [show (((A.length+[x].length:Nat):Int) - (A.length:Int) == 1)=true from beq_iff_eq.2 (by rw [hL1];omega),cond_true]
   exact sym_one cmp key q fu hfu A T B x hc hsT (fun y hy=>hq x (by simp) y hy) (by rw [hL1] at hl;exact hl)
  rw [show (((A.length+L.length:Nat):Int) - (A.length:Int) == 1)=false from beq_eq_false_iff_ne.2 (by omega),cond_false]
  by_cases hT1:T.length=1
  ·obtain ⟨y,rfl⟩:=List.length_eq_one_iff.1 hT1
   rw [show (((A.length+L.length+[y].length:Nat):Int) - ((A.length+L.length:Nat):Int) == 1)=true from beq_iff_eq.2 (by rw [hT1];omega),cond_true]
   exact sym_last cmp key q fu hfu A L B y hc hsL (fun x hx=>hq x hx y (by simp)) (by rw [hT1] at hl;exact hl)
  rw [show (((A.length+L.length+T.length:Nat):Int) - ((A.length+L.length:Nat):Int) == 1)=false from beq_eq_false_iff_ne.2 (by omega),cond_false]
  rw [u64_mid A.length (A.length+L.length+T.length) (by omega) (by omega)]
  obtain ⟨md,hmd⟩:∃ md,md=(A.length+(A.length+L.length+T.length)) / 2:=⟨_,rfl⟩
  rw [← hmd,w64_in (n:=(md:Int)+((A.length+L.length:Nat):Int)) (by omega)]
  have hcd:∀ s t,A.length ≤ s→s < A.length+L.length+T.length→A.length ≤ t→t < A.length+L.length+T.length→CmpBy cmp key (A++(L++(T++B)))[s]! (A++(L++(T++B)))[t]! := by
   have hin:∀ s,A.length ≤ s→s < A.length+L.length+T.length→(A++(L++(T++B)))[s]! ∈ L++T:=by
    intro s h1 h2
    by_cases h:s < A.length+L.length
    ·rw [show s=A.length+(s - A.length) from by omega,bang_L (by omega)];exact List.mem_append_left _ (bang_mem (by omega))
    ·rw [show s=A.length+L.length+(s - (A.length+L.length)) from by omega,bang_T (by omega)];exact List.mem_append_right _ (bang_mem (by omega))
   exact fun s t h1 h2 h3 h4=>hc _ (hin s h1 h2) _ (hin t h3 h4)
  have hLm:∀ s t,A.length ≤ s→s ≤ t→t < A.length+L.length→key (A++(L++(T++B)))[s]! ≤ key (A++(L++(T++B)))[t]! := by
   intro s t h1 h2 h3
   rw [show s=A.length+(s - A.length) from by omega,show t=A.length+(t - A.length) from by omega,bang_L (by omega),bang_L (by omega)]
   exact key_mono hsL (by omega) (by omega)
  have hTm:∀ s t,A.length+L.length ≤ s→s ≤ t→t < A.length+L.length+T.length→key (A++(L++(T++B)))[s]! ≤ key (A++(L++(T++B)))[t]! := by
   intro s t h1 h2 h3
   rw [show s=A.length+L.length+(s - (A.length+L.length)) from by omega,show t=A.length+L.length+(t - (A.length+L.length)) from by omega,bang_T (by omega),bang_T (by omega)]
   exact key_mono hsT (by omega) (by omega)
  have hdl:A.length+L.length+T.length ≤ (A++(L++(T++B))).length:=by simp;omega
  by_cases hm:A.length+L.length > md
  ·rw [decide_eq_true (by omega),cond_true,w64_in (n:=(md:Int)+((A.length+L.length:Nat):Int) - ((A.length+L.length+T.length:Nat):Int)) (by omega),show (md:Int)+((A.length+L.length:Nat):Int) - ((A.length+L.length+T.length:Nat):Int)=((md+(A.length+L.length) - (A.length+L.length+T.length):Nat):Int) from by omega]
   obtain ⟨w,g1,g2,g3,g4,g5⟩:=sym_s5 cmp key fu hfu (A++(L++(T++B))) A.length (A.length+L.length) (A.length+L.length+T.length) md hmd hdl hl (by omega) (by omega) hcd hLm hTm (md+(A.length+L.length) - (A.length+L.length+T.length)) md (by omega) (by omega) (by omega) (fun t h1 h2=>by omega)
   rw [bnd g1,w64_in (n:=(md:Int)+((A.length+L.length:Nat):Int) - (w:Int)) (by omega),show (md:Int)+((A.length+L.length:Nat):Int) - (w:Int)=((md+(A.length+L.length) - w:Nat):Int) from by omega]
   exact sym_gen fu rf hfu cmp key q ih A L T B md w hlen (by omega) (by omega) hmd hc hsL hsT hq hl (by omega) (by omega) (by omega) (by omega)
    (by
     by_cases h:w=md+(A.length+L.length) - (A.length+L.length+T.length)
     ·right;left;omega
     ·right;right
      have:=g4 (w - 1) (by omega) (by omega)
      rwa [show md+(A.length+L.length) - 1 - (w - 1)=md+(A.length+L.length) - w from by omega] at this)
    (by
     by_cases h:w=md
     ·right;left;omega
     ·right;right;exact g5 w (Nat.le_refl _) (by omega))
  ·rw [decide_eq_false (by omega),cond_false]
   obtain ⟨w,g1,g2,g3,g4,g5⟩:=sym_s6 cmp key fu hfu (A++(L++(T++B))) A.length (A.length+L.length) (A.length+L.length+T.length) md hmd hdl hl (by omega) (by omega) hcd hLm hTm A.length (A.length+L.length) (by omega) (by omega) (by omega) (fun t h1 h2=>by omega)
   rw [bnd g1,w64_in (n:=(md:Int)+((A.length+L.length:Nat):Int) - (w:Int)) (by omega),show (md:Int)+((A.length+L.length:Nat):Int) - (w:Int)=((md+(A.length+L.length) - w:Nat):Int) from by omega]
   exact sym_gen fu rf hfu cmp key q ih A L T B md w hlen (by omega) (by omega) hmd hc hsL hsT hq hl (by omega) (by omega) (by omega) (by omega)
    (by
     by_cases h:w=A.length
     ·left;exact h
     ·right;right
      have:=g4 (w - 1) (by omega) (by omega)
      rwa [show md+(A.length+L.length) - 1 - (w - 1)=md+(A.length+L.length) - w from by omega] at this)
    (by
     by_cases h:w=A.length+L.length
     ·left;exact h
     ·right;right;exact g5 w (Nat.le_refl _) (by omega))
theorem sym_at (cmp:Rank→Rank→Option Int) (key q:Rank→Int) (fu:Nat) (hfu:1000000 < fu) (A L T B:List Rank) (hL:L ≠ []) (hT:T ≠ []) (hc:CmpOn cmp key (L++T)) (hsL:L.Pairwise (RK key q)) (hsT:T.Pairwise (RK key q)) (hq:∀ x ∈ L,∀ y ∈ T,q x < q y) (hl:A.length+L.length+T.length ≤ 1000000)
  {a m b:Int} (ha:a=(A.length:Int)) (hm:m=((A.length+L.length:Nat):Int)) (hb:b=((A.length+L.length+T.length:Nat):Int)) {d:List Rank} (hd:d=A++(L++(T++B))) :
  ∃ S,slices_symMergeCmpFunc_Rank_p fu fu d a m b cmp=some (A++(S++B))∧S.Pairwise (RK key q)∧S.Perm (L++T):=by
 subst ha hm hb hd
 exact sym_ok cmp key q fu hfu fu A L T B hL hT (by omega) hc hsL hsT hq hl
def Cross (q:Rank→Int) (x y:List Rank):Prop:=∀ u ∈ x,∀ v ∈ y,q u < q v
theorem Cross.perm {q:Rank→Int} {x x' y y':List Rank} (h:Cross q x y) (p:x'.Perm x) (p':y'.Perm y):Cross q x' y':=fun u hu v hv=>h u (p.mem_iff.1 hu) v (p'.mem_iff.1 hv)
structure Blk (key q:Rank→Int) (bs:Nat) (bl:List (List Rank)) (last:List Rank):Prop where
 len:∀ x ∈ bl,x.length=bs
 srt:∀ x ∈ bl,x.Pairwise (RK key q)
 lst:last.Pairwise (RK key q)
 cross:(bl++[last]).Pairwise (Cross q)
theorem flat_len {bl:List (List Rank)} {bs:Nat} (h:∀ x ∈ bl,x.length=bs):bl.flatten.length=bl.length * bs:=by
 induction bl with
 | nil=>simp
 | cons x bl ih=>simp only [List.flatten_cons,List.length_append,List.length_cons,h x (by simp),ih (fun y hy=>h y (by simp [hy]))];rw [Nat.add_mul];omega
theorem stable_l1 (cmp:Rank→Rank→Option Int) (key q:Rank→Int) (fu:Nat) (hfu:1000000 < fu):∀ (n:Nat) (bl:List (List Rank)) (U:List Rank) (fuel:Nat),U.length ≤ n→n < fuel→bl.flatten.length+U.length ≤ 1000000→CmpOn cmp key U→U.Pairwise (fun x y=>q x < q y)→(∀ x ∈ bl,x.length=20∧x.Pairwise (RK key q))→bl.Pairwise (Cross q)→(∀ x ∈ bl,Cross q x U) →
  ∃ (bl':List (List Rank)) (U':List Rank),slices_stableCmpFunc_Rank_l1 ((bl.flatten.length+U.length:Nat):Int) cmp fu fuel (bl.flatten++U) (bl.flatten.length:Int) ((bl.flatten.length+20:Nat):Int)=some (bl'.flatten++U',(bl'.flatten.length:Int))∧U'.length < 20∧(bl'.flatten++U').Perm (bl.flatten++U)∧CmpOn cmp key U'∧U'.Pairwise (fun x y=>q x < q y)∧(∀ x ∈ bl',x.length=20∧x.Pairwise (RK key q))∧bl'.Pairwise (Cross q)∧(∀ x ∈ bl',Cross q x U'):=by
 intro n
 induction n with
 | zero =>
  intro bl U fuel h1 h2 h3 h4 h5 h6 h7 h8
  obtain ⟨f,rfl⟩:=Nat.exists_eq_succ_of_ne_zero (by omega:fuel ≠ 0)
  rw [slices_stableCmpFunc_Rank_l1,decide_eq_false (by omega),cond_false]
  exact ⟨bl,U,rfl,by omega,List.Perm.refl _,h4,h5,h6,h7,h8⟩
 | succ n ih =>
  intro bl U fuel h1 h2 h3 h4 h5 h6 h7 h8
  obtain ⟨f,rfl⟩:=Nat.exists_eq_succ_of_ne_zero (by omega:fuel ≠ 0)
  rw [slices_stableCmpFunc_Rank_l1]
  by_cases h:20 ≤ U.length
  ·rw [decide_eq_true (by omega),cond_true]
   obtain ⟨X,U2,rfl,hX⟩:∃ X U2,U=X++U2∧X.length=20:=⟨U.take 20,U.drop 20,by simp,by simp;omega⟩
   have hp:=List.pairwise_append.1 h5
   obtain ⟨S,g1,g2,g3⟩:=ins_ok cmp key q bl.flatten X U2 fu hfu (h4.sub (by intro x hx;simp [hx])) hp.1 (by simp only [List.length_append] at h3;omega) (a:=(bl.flatten.length:Int)) (b:=((bl.flatten.length+20:Nat):Int)) rfl (by rw [hX])
   rw [bnd g1,w64_in (by omega)]
   have hSl:S.length=20:=by rw [g3.length_eq,hX]
   obtain ⟨bl',U',k1,k2,k3,k4⟩:=ih (bl++[S]) U2 f (by simp at h1;omega) (by omega) (by rw [show (bl++[S]).flatten=bl.flatten++S from by simp];simp only [List.length_append] at h3 ⊢;omega) (h4.sub (by intro x hx;simp [hx])) hp.2.1 (by
     intro x hx
     rcases List.mem_append.1 hx with hx | hx
     ·exact h6 x hx
     ·obtain rfl:=List.mem_singleton.1 hx;exact ⟨hSl,g2⟩) (by
     rw [List.pairwise_append]
     refine ⟨h7,List.pairwise_singleton _ _,fun x hx y hy=>?_⟩
     obtain rfl:=List.mem_singleton.1 hy
     exact fun u hu v hv=>h8 x hx u hu v (by simp [g3.mem_iff.1 hv])) (by
     intro x hx
     rcases List.mem_append.1 hx with hx | hx
     ·exact fun u hu v hv=>h8 x hx u hu v (by simp [hv])
     ·obtain rfl:=List.mem_singleton.1 hx
      exact fun u hu v hv=>hp.2.2 u (g3.mem_iff.1 hu) v hv)
   have hfl:(bl++[S]).flatten=bl.flatten++S:=by simp
   rw [hfl] at k1 k3
   rw [List.length_append,hSl] at k1
   refine ⟨bl',U',?_,k2,k3.trans ?_,k4⟩
   ·rw [List.length_append,hX]
    rw [show bl.flatten.length+(20+U2.length)=bl.flatten.length+20+U2.length from by omega,show ((bl.flatten.length+20:Nat):Int)+20=((bl.flatten.length+20+20:Nat):Int) from by omega]
    rw [← k1];simp
   ·rw [List.append_assoc];exact (g3.append_right U2).append_left bl.flatten
  ·rw [decide_eq_false (by omega),cond_false]
   exact ⟨bl,U,rfl,by omega,List.Perm.refl _,h4,h5,h6,h7,h8⟩

end Go.Proofs.YtegdphhfimaieaaGreat

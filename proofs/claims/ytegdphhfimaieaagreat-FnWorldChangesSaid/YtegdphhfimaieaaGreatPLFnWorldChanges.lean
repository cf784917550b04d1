/- Plain lemmas: what the functions compute is what the reference says, in plain Lean. No condition. -/
import Derived.Test.YtegdphhfimaieaaGreatPWorld7
set_option maxRecDepth 4000
set_option maxHeartbeats 1000000
set_option linter.unusedVariables false
set_option linter.unusedSimpArgs false
set_option linter.unusedSectionVars false

namespace Go.Proofs.YtegdphhfimaieaaGreat
open Go.AM
theorem atW_in {w:World} {s:Int} (h:s ∈ skatersW w):atW w s=plcW w s:=if_pos h
theorem changes_rest {more:List Int} (hv:wfByteS more) (F:Nat) (hF:1048576 < F) (x3:World × Entry) (k:Nat):laws_FnWorldChanges_l1 more F x3 [] k=some true:=by
  have hml:more.length ≤ 9223372036854775807:=hv.1
  rw [laws_FnWorldChanges_l1]
  obtain ⟨U,best,d1,n1⟩:=drawNewSeason_ok hv.2 hml F hF
  obtain ⟨V,l,d2,n2,n3⟩:=drawSeedsFor_ok hv.2 hml F hF
  obtain ⟨X,Y,d3,n4,n5⟩:=drawRankChanges_ok hv.2 hml F hF
  have hlast : ((spec_DrawRankChanges_p F more).bind fun x66 =>
        (impl_RankChanges_p F (World.mk x66.1.seasons x66.1.weights) (World.mk x66.2.seasons x66.2.weights)).bind fun x68 =>
        (spec_RankChanges_p F (World.mk x66.1.seasons x66.1.weights) (World.mk x66.2.seasons x66.2.weights)).bind fun x70 =>
        (impl_RankChanges_p F (World.mk x66.1.seasons x66.1.weights) (World.mk x66.1.seasons x66.1.weights)).bind fun x72 =>
        (opt (x68.2 == x70.2) default (laws_sameLists_p x68.1 x70.1)).bind fun x74 =>
        some ((((x68.2 == x70.2) && x74) && ((!x72.2) || ((x72.1.length:Int) == 0))) && (x72.2 || (!x68.2))))=some true:=by
    rw [bnd d3]
    dsimp only
    rw [show (World.mk X.seasons X.weights)=X from rfl,show (World.mk Y.seasons Y.weights)=Y from rfl]
    rcases rankChanges_case X X (by omega) (by omega) F hF with ⟨a1,_,r,_,a4,a5⟩ | ⟨a1,r,_,a4⟩
    · obtain rfl:r=[]:=by
        cases r with
        | nil=>rfl
        | cons z r =>
          obtain ⟨y,_,_,h,_⟩:=a5 z (by simp)
          exact absurd rfl h
      rcases rankChanges_case X Y (by omega) (by omega) F hF with ⟨_,_,q,b3,b4,_⟩ | ⟨_,q,b3,b4⟩
      · rw [bnd b4,bnd b3,bnd a4]
        simp only [beq_self_eq_true,opt_t]
        rw [bnd (sameLists_eq _)]
        rfl
      · rw [bnd b4,bnd b3,bnd a4]
        simp only [beq_self_eq_true,opt_t]
        rw [bnd (sameLists_eq _)]
        rfl
    · rcases rankChanges_case X Y (by omega) (by omega) F hF with ⟨b1,_,q,b3,b4,_⟩ | ⟨_,q,b3,b4⟩
      · exact absurd ⟨b1,b1⟩ a1
      · rw [bnd b4,bnd b3,bnd a4]
        simp only [beq_self_eq_true,opt_t]
        rw [bnd (sameLists_eq _)]
        rfl
  have hmid:((spec_DrawSeedsFor_p F more).bind fun x56 =>
      (impl_SeedsFor_p F (World.mk x56.1.seasons x56.1.weights) x56.2).bind fun x58 =>
      (spec_SeedsFor_p F (World.mk x56.1.seasons x56.1.weights) x56.2).bind fun x60 =>
      (opt (!(!(x58.2 == x60.2))) default (laws_pSameEntrants_p x58.1 x60.1)).bind fun x62 =>
      (opt ((!((!(x58.2 == x60.2)) || (!x62))) && x58.2) default (impl_AreEntrants_p x58.1)).bind fun x64 =>
      cond (((!(x58.2 == x60.2)) || (!x62)) || (x58.2 && ((!x64) || ((x60.1.length:Int) != (x56.2.length:Int)))))
        (some false)
        ((spec_DrawRankChanges_p F more).bind fun x66 =>
        (impl_RankChanges_p F (World.mk x66.1.seasons x66.1.weights) (World.mk x66.2.seasons x66.2.weights)).bind fun x68 =>
        (spec_RankChanges_p F (World.mk x66.1.seasons x66.1.weights) (World.mk x66.2.seasons x66.2.weights)).bind fun x70 =>
        (impl_RankChanges_p F (World.mk x66.1.seasons x66.1.weights) (World.mk x66.1.seasons x66.1.weights)).bind fun x72 =>
        (opt (x68.2 == x70.2) default (laws_sameLists_p x68.1 x70.1)).bind fun x74 =>
        some ((((x68.2 == x70.2) && x74) && ((!x72.2) || ((x72.1.length:Int) == 0))) && (x72.2 || (!x68.2)))))=some true:=by
    rw [hlast,bnd d2]
    dsimp only
    rw [show (World.mk V.seasons V.weights)=V from rfl]
    rcases seedsFor_case V (by omega) l F hF with ⟨q,a1,a2,a3,a4⟩ | ⟨q,a3,a4⟩
    · obtain ⟨c,c1,c2⟩:=ret_AreEntrants q (by omega)
      obtain rfl:=c2.2 a1
      rw [bnd a4,bnd a3]
      simp only [beq_self_eq_true,Bool.not_true,Bool.not_false,opt_t]
      rw [bnd (sameEntrants_eq _)]
      simp only [Bool.not_true,Bool.not_false,Bool.or_false,Bool.true_and,opt_t]
      rw [bnd c1,a2]
      simp
    · rw [bnd a4,bnd a3]
      simp only [beq_self_eq_true,Bool.not_true,Bool.not_false,opt_t]
      rw [bnd (sameEntrants_eq _)]
      simp only [Bool.not_true,Bool.not_false,Bool.or_false,Bool.and_false,Bool.false_and,opt_f,Option.bind_some,cond_false]
  rw [hmid,bnd d1]
  dsimp only
  rw [show (World.mk U.seasons U.weights)=U from rfl]
  rcases newSeason_case U (by omega) best F hF with ⟨a,a1,a2,⟨r,a3⟩,a4,a5,a6⟩ | ⟨q,a5,a6⟩
  · obtain ⟨c,c1,c2⟩:=ret_impl_IsWorld a a4 F hF
    obtain rfl:=c2.2 a1
    rw [bnd a6,bnd a5]
    simp only [beq_self_eq_true,Bool.not_true,Bool.not_false,opt_t]
    rw [show (World.mk a.seasons a.weights)=a from rfl,bnd (sameWorld_eq _)]
    simp only [Bool.not_true,Bool.not_false,Bool.or_false,Bool.true_and,opt_t]
    rw [bnd c1]
    simp only [Bool.not_true,Bool.not_false,Bool.false_or]
    rw [decide_eq_false (by omega)]
    simp only [Bool.not_false,opt_t]
    rw [bnd (show getI a.seasons 0=some ⟨best,[]⟩ from by rw [a3];rfl)]
    simp
  · rw [bnd a6,bnd a5]
    simp only [beq_self_eq_true,Bool.not_true,Bool.not_false,opt_t]
    rw [show (World.mk q.seasons q.weights)=q from rfl,bnd (sameWorld_eq _)]
    simp only [Bool.not_true,Bool.not_false,Bool.or_false,Bool.and_false,Bool.false_and,opt_f,Option.bind_some,cond_false]
theorem changes_l1 {more:List Int} (hv:wfByteS more) (F:Nat) (hF:1048576 < F) (w a:World) (e:Entry) (hm:More w e a):∀ (ys:List (List Int)) (k:Nat),(∀ z ∈ ys,∃ y,y ∈ skatersW w∧z=[y,atW w y,atW a y]∧atW w y ≠ atW a y∧atW a y > 0)→laws_FnWorldChanges_l1 more F (w,e) ys k=some true:=by
  intro ys
  induction ys with
  | nil=>intro k _;exact changes_rest hv F hF (w,e) k
  | cons z ys ih =>
    intro k h
    have hnext:=ih (k+1) (fun z hz=>h z (by simp [hz]))
    obtain ⟨y,y1,rfl,_,_⟩:=h z (by simp)
    rw [laws_FnWorldChanges_l1,bnd (show getI [y,atW w y,atW a y] 0=some y from rfl)]
    dsimp only
    by_cases hy:y=e.skater
    · subst hy
      rw [beq_self_eq_true]
      simp only [opt_t]
      rw [bnd (show getI [e.skater,atW w e.skater,atW a e.skater] 2=some (atW a e.skater) from rfl),bnd (show getI [e.skater,atW w e.skater,atW a e.skater] 1=some (atW w e.skater) from rfl)]
      have hle:=hm.place y1
      rw [atW_in y1,atW_in ((hm.mem _).2 (.inr rfl)),decide_eq_false (by omega),Bool.and_false,cond_false]
      exact hnext
    · rw [show (y == e.skater)=false from by simpa using hy]
      simp only [opt_f,Option.bind_some,Bool.false_and,cond_false]
      exact hnext
theorem law_FnWorldChangesF (F:Nat) (hF:1048576 < F) (code more:List Int) (hw:wfByteS code) (hv:wfByteS more):laws_FnWorldChanges_p F code more=some true:=by
  have hcl:code.length ≤ 9223372036854775807:=hw.1
  unfold laws_FnWorldChanges_p laws_big_p
  rw [Option.bind_some]
  cases decide ((code.length:Int) > 1048576) || decide ((more.length:Int) > w64 (1048576 - (code.length:Int)))
  rotate_left
  · rfl
  rw [cond_false]
  obtain ⟨w,e,d1,n1⟩:=drawAddToWorld_ok hw.2 hcl F hF
  rw [bnd d1]
  dsimp only
  rw [show (World.mk w.seasons w.weights)=w from rfl,show (Entry.mk e.event e.skater e.points)=e from rfl]
  rcases addWorld_case w (by omega) e F hF with ⟨a,a1,a2,a3,a4⟩ | ⟨a,a3,a4⟩
  · rw [bnd a4,bnd a3]
    simp only [beq_self_eq_true,Bool.not_true,Bool.not_false,opt_t]
    rw [show (World.mk a.seasons a.weights)=a from rfl,bnd (sameWorld_eq _)]
    simp only [Bool.not_true,Bool.or_false,cond_false,cond_true]
    obtain ⟨c,c1,c2⟩:=ret_impl_IsWorld a a2 F hF
    obtain rfl:=c2.2 a1.newOk
    have hmem:e.skater ∈ skatersW a:=(a1.mem _).2 (.inr rfl)
    rcases worldTotal_case a a2 e.skater F hF with ⟨_,_,t1,t2⟩ | ⟨t,_⟩
    · obtain ⟨u,u1,u2⟩:∃ u:Int × Bool,spec_WorldTotal_p F w e.skater=some u∧(u.2 && decide (totW a e.skater < u.1))=false:=by
        rcases worldTotal_case w (by omega) e.skater F hF with ⟨_,_,u1,_⟩ | ⟨_,u,u1,_⟩
        · exact ⟨_,u1,by have:=a1.up;simp;omega⟩
        · exact ⟨_,u1,rfl⟩
      rw [bnd t2,bnd t1,bnd u1,bnd c1]
      simp only [bne_self_eq_false,Bool.not_true,Bool.or_false,Bool.false_or,u2,cond_false]
      rcases rankChanges_case w a (by omega) a2 F hF with ⟨_,_,q,b3,b4,b5⟩ | ⟨b,_⟩
      · rw [bnd b4,bnd b3]
        simp only [Bool.not_true,Bool.not_false,Bool.or_false,opt_t]
        rw [bnd (sameLists_eq _)]
        simp only [Bool.not_true,cond_false]
        exact changes_l1 hv F hF w a e a1 q 0 b5
      · exact absurd ⟨a1.oldOk,a1.newOk⟩ b
    · exact absurd ⟨a1.newOk,hmem⟩ t
  · rw [bnd a4,bnd a3]
    simp only [beq_self_eq_true,Bool.not_true,Bool.not_false,opt_t]
    rw [show (World.mk a.seasons a.weights)=a from rfl,bnd (sameWorld_eq _)]
    simp only [Bool.not_true,Bool.or_false,cond_false]
    have:=changes_rest hv F hF (w,e) 0
    rw [laws_FnWorldChanges_l1] at this
    exact this
theorem law_FnWorldChanges (code more:List Int) (hw:wfByteS code) (hv:wfByteS more):laws_FnWorldChanges_p 99999999 code more=some true:=law_FnWorldChangesF 99999999 (by omega) code more hw hv

end Go.Proofs.YtegdphhfimaieaaGreat

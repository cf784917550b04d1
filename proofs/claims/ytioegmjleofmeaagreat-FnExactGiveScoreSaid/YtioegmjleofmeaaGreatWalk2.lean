/- The walk, part 2: what each function reached by the law FnExactGiveScore computes. No condition. -/
import Derived.Test.YtioegmjleofmeaaGreatWalk1
set_option maxRecDepth 4000
set_option maxHeartbeats 1000000
set_option linter.unusedVariables false
set_option linter.unusedSimpArgs false
set_option linter.unusedSectionVars false

namespace Go.Proofs.YtioegmjleofmeaaGreat
open Go.AM

def spec_evLeave_l1 (e : Event) (skater : Int) (fuel : Nat) : List Entrant → Nat → Bool → Option ((Event × Bool))
  | [], k3, v10 =>
    cond (!v10)
      (some ((Event.mk 0 0 0 [] [] 0 [] []), false))
      ((spec_evOwn_p e).bind fun x12 =>
      (spec_l1Put_p fuel x12.gone skater).bind fun x14 =>
      (spec_evHas_p e skater).bind fun x16 =>
      cond (!x16)
        ((spec_paWithout_p x12.order skater).bind fun x18 =>
        (spec_evEnd_p (Event.mk x12.segments x12.size x12.key x12.entrants x14 x12.segment x18 x12.results)).bind fun x20 =>
        some (x20, true))
        ((spec_evEnd_p (Event.mk x12.segments x12.size x12.key x12.entrants x14 x12.segment x12.order x12.results)).bind fun x22 =>
        some (x22, true)))
  | y4 :: ys5, k3, v10 =>
    spec_evLeave_l1 e skater fuel ys5 (k3 + 1) (v10 || (y4.skater == skater))
def spec_evLeave_p (fuel : Nat) (e : Event) (skater : Int) : Option (Event × Bool) :=
  (spec_evThere_p e).bind fun x1 =>
  spec_evLeave_l1 e skater fuel x1 0 false
theorem spec_evLeave_ok (fuel : Nat) (e : Event) (skater : Int) (r : (Event × Bool)) (hH : spec_evLeave_p fuel e skater = some r) : SpecR Tryz.prog 85 [.g (encEvent e), .v (.int .i64 skater)] (.t [.g (encEvent r.1), .v (.bool r.2)]) := by
  refine fn_ok T Tryz.func85 rfl (by decide) rfl ?_
  refine AW.seq ?_
  refine AW.region ?_
  refine AO.step rfl (box_ok T rfl 1 rfl rfl rfl rfl) ?_
  refine AO.step rfl (alloc_ok T rfl 2 rfl rfl rfl rfl rfl) ?_
  refine AO.pure T rfl rfl rfl ?_
  refine AO.nil ?_
  refine AW.seq ?_
  refine AW.region ?_
  refine AO.pure T rfl rfl rfl ?_
  refine AO.nil ?_
  refine AW.seq ?_
  refine AW.seq ?_
  obtain ⟨x1, hx2, hH⟩ := bindE hH
  refine AW.region ?_
  refine AO.pure T (d := .g [.v (.int .i64 e.segments), .v (.int .i64 e.size), .v (.int .i64 e.key), .s (List.map encEntrant e.entrants), .s (List.map encInt e.gone), .v (.int .i64 e.segment), .s (List.map encInt e.order), .s (List.map encResult e.results)]) rfl rfl rfl ?_
  refine AO.step rfl (call_ok rfl 3 rfl rfl rfl (spec_evThere_ok _ _ (hx2)) rfl rfl rfl) ?_
  refine AO.val rfl rfl (len_row_ok T rfl rfl rfl rfl) ?_
  refine AO.pure T rfl rfl rfl ?_
  refine AO.nil ?_
  refine AW.block ?_
  refine AW.loopS (fun s : Nat × Bool => (⟨[(1, .v (.int .i64 skater)), (2, .p 1 0), (4, .p 2 0), (6, .v (.bool s.2)), (11, .R 3), (12, .v (.int .i64 (x1.length : Int))), (13, .v (.int .i64 (s.1 : Int)))], [(1, .box [.v (.int .i64 e.segments), .v (.int .i64 e.size), .v (.int .i64 e.key), .s (List.map encEntrant e.entrants), .s (List.map encInt e.gone), .v (.int .i64 e.segment), .s (List.map encInt e.order), .s (List.map encResult e.results)]), (2, .box [.v (.int .i64 0), .v (.int .i64 0), .v (.int .i64 0), .w 0 [], .w 0 [], .v (.int .i64 0), .w 0 [], .w 0 []]), (3, .row 2 (List.map encEntrant x1))], 46, []⟩ : St)) (fun s => s.1 ≤ x1.length ∧ spec_evLeave_l1 e skater fuel (x1.drop s.1) s.1 s.2 = some r) (fun s => x1.length - s.1) (0, false) ⟨Nat.zero_le _, hH⟩ ?_ ?_
  · exact Le.cut 0 0 rfl (by repeat' (first | exact trivial | refine ⟨⟨_, rfl, rfl⟩, ?_⟩)) (by repeat' (first | exact trivial | refine ⟨⟨_, rfl, rfl⟩, ?_⟩)) rfl
  · rintro ⟨k3, v10⟩ ⟨hk, hH⟩
    replace hH : spec_evLeave_l1 e skater fuel (x1.drop k3) k3 v10 = some r := hH
    show AW _ _ _ (⟨[(1, .v (.int .i64 skater)), (2, .p 1 0), (4, .p 2 0), (6, .v (.bool v10)), (11, .R 3), (12, .v (.int .i64 (x1.length : Int))), (13, .v (.int .i64 (k3 : Int)))], [(1, .box [.v (.int .i64 e.segments), .v (.int .i64 e.size), .v (.int .i64 e.key), .s (List.map encEntrant e.entrants), .s (List.map encInt e.gone), .v (.int .i64 e.segment), .s (List.map encInt e.order), .s (List.map encResult e.results)]), (2, .box [.v (.int .i64 0), .v (.int .i64 0), .v (.int .i64 0), .w 0 [], .w 0 [], .v (.int .i64 0), .w 0 [], .w 0 []]), (3, .row 2 (List.map encEntrant x1))], 46, []⟩ : St)
    refine AW.boundR (id := 3) (l := x1) rfl (fun hb7 => ?_)
    cases hd6 : x1.drop k3 with
    | nil =>
      rw [hd6] at hH
      rw [spec_evLeave_l1] at hH
      have hlt8 := drop_ge hd6
      refine AW.seq ?_
      refine AW.region ?_
      refine AO.pure T rfl rfl rfl ?_
      refine AO.nil ?_
      refine AW.seq ?_
      refine AW.condF' (b := decide ((k3 : Int) < (x1.length : Int))) rfl (rngF hlt8) ?_
      refine AW.exit ?_
      refine AW.seq ?_
      refine AW.seq ?_
      refine AW.region ?_
      refine AO.pure T rfl rfl rfl ?_
      refine AO.pure T rfl rfl rfl ?_
      refine AO.nil ?_
      refine AW.cond (b := (!v10)) rfl (fun hc => ?_) (fun hc => ?_)
      · replace hH := condT hc hH
        refine AW.seq ?_
        refine AW.region ?_
        refine AO.pure T (d := .g [.v (.int .i64 0), .v (.int .i64 0), .v (.int .i64 0), .w 0 [], .w 0 [], .v (.int .i64 0), .w 0 [], .w 0 []]) rfl rfl rfl ?_
        refine AO.step rfl (store_okE T rfl rfl rfl rfl rfl rfl rfl rfl rfl (ds' := [.v (.int .i64 0), .v (.int .i64 0), .v (.int .i64 0), .w 0 [], .w 0 [], .v (.int .i64 0), .w 0 [], .w 0 []]) rfl) ?_
        refine AO.pure T rfl rfl rfl ?_
        refine AO.nil ?_
        refine AW.ret ?_
        cases someE hH
        exact ⟨trivial, _, [], rfl, .t (expLG_cons (.g (expLC_cons .v (expLC_cons .v (expLC_cons .v (expLC_cons .nilS (expLC_cons .nilS (expLC_cons .v (expLC_cons .nilS (expLC_cons .nilS (expLC_nil)))))))))) (expLG_cons (.c .v) (expLG_nil))), by decide⟩
      · replace hH := condF hc hH
        refine AW.skip ?_
        refine AW.seq ?_
        obtain ⟨x12, hx13, hH⟩ := bindE hH
        refine AW.region ?_
        refine AO.pure T (d := .g [.v (.int .i64 e.segments), .v (.int .i64 e.size), .v (.int .i64 e.key), .s (List.map encEntrant e.entrants), .s (List.map encInt e.gone), .v (.int .i64 e.segment), .s (List.map encInt e.order), .s (List.map encResult e.results)]) rfl rfl rfl ?_
        refine AO.step rfl (call_ok rfl 6 rfl rfl rfl (spec_evOwn_ok _ _ (hx13)) rfl rfl rfl) ?_
        refine AO.step rfl (alloc_ok T rfl 10 rfl rfl rfl rfl rfl) ?_
        refine AO.step rfl (store_okE T rfl rfl rfl rfl rfl rfl rfl rfl rfl (ds' := [.v (.int .i64 x12.segments), .v (.int .i64 x12.size), .v (.int .i64 x12.key), .R 6, .R 7, .v (.int .i64 x12.segment), .R 8, .R 9]) rfl) ?_
        refine AO.nil ?_
        refine AW.seq ?_
        obtain ⟨x14, hx15, hH⟩ := bindE hH
        refine AW.le (Le.freezeM 7 (g := encInt) rfl (fun y => .vs rfl)) ?_
        refine AW.region ?_
        refine AO.pure T rfl rfl rfl ?_
        refine AO.pure T rfl rfl rfl ?_
        refine AO.pure T rfl rfl rfl ?_
        refine AO.val rfl rfl (callV_ok rfl rfl rfl rfl (spec_l1Put_ok fuel _ _ _ (hx15)) rfl) ?_
        refine AO.pure T rfl rfl rfl ?_
        refine AO.step rfl (store_okE T rfl rfl rfl rfl rfl rfl rfl rfl rfl (ds' := [.v (.int .i64 x12.segments), .v (.int .i64 x12.size), .v (.int .i64 x12.key), .R 6, .s (List.map encInt x14), .v (.int .i64 x12.segment), .R 8, .R 9]) rfl) ?_
        refine AO.nil ?_
        refine AW.seq ?_
        refine AW.seq ?_
        obtain ⟨x16, hx17, hH⟩ := bindE hH
        refine AW.region ?_
        refine AO.pure T (d := .g [.v (.int .i64 e.segments), .v (.int .i64 e.size), .v (.int .i64 e.key), .s (List.map encEntrant e.entrants), .s (List.map encInt e.gone), .v (.int .i64 e.segment), .s (List.map encInt e.order), .s (List.map encResult e.results)]) rfl rfl rfl ?_
        refine AO.pure T rfl rfl rfl ?_
        refine AO.val rfl rfl (callV_ok rfl rfl rfl rfl (spec_evHas_ok _ _ _ (hx17)) rfl) ?_
        refine AO.pure T rfl rfl rfl ?_
        refine AO.nil ?_
        refine AW.cond (b := (!x16)) rfl (fun hc => ?_) (fun hc => ?_)
        · replace hH := condT hc hH
          obtain ⟨x18, hx19, hH⟩ := bindE hH
          refine AW.region ?_
          refine AO.pure T rfl rfl rfl ?_
          refine AO.pure T rfl rfl rfl ?_
          refine AO.pure T rfl rfl rfl ?_
          refine AO.step rfl (callL_ok rfl 11 rfl rfl (es := [.s (List.map encInt x12.order), .v (.int .i64 skater)]) (by exact ⟨(.rowR rfl (.map fun y => .vs rfl)), .free rfl, trivial⟩) (spec_paWithout_ok _ _ _ (hx19)) (zfree_map (fun y => (.cons (zfree_v _) .nil))) rfl rfl rfl) ?_
          refine AO.pure T rfl rfl rfl ?_
          refine AO.step rfl (store_okE T rfl rfl rfl rfl rfl rfl rfl rfl rfl (ds' := [.v (.int .i64 x12.segments), .v (.int .i64 x12.size), .v (.int .i64 x12.key), .R 6, .s (List.map encInt x14), .v (.int .i64 x12.segment), .R 11, .R 9]) rfl) ?_
          refine AO.nil ?_
          refine AW.seq ?_
          obtain ⟨x20, hx21, hH⟩ := bindE hH
          refine AW.le (Le.freezeM 6 (g := encEntrant) rfl (fun y => .vs rfl)) ?_
          refine AW.le (Le.freezeM 9 (g := encResult) rfl (fun y => frzResult y)) ?_
          refine AW.le (Le.freezeM 11 (g := encInt) rfl (fun y => .vs rfl)) ?_
          refine AW.region ?_
          refine AO.pure T (d := .g [.v (.int .i64 x12.segments), .v (.int .i64 x12.size), .v (.int .i64 x12.key), .s (List.map encEntrant x12.entrants), .s (List.map encInt x14), .v (.int .i64 x12.segment), .s (List.map encInt x18), .s (List.map encResult x12.results)]) rfl rfl rfl ?_
          refine AO.val rfl rfl (callV_ok rfl rfl rfl rfl (spec_evEnd_ok _ _ (hx21)) rfl) ?_
          refine AO.step rfl (store_okE T rfl rfl rfl rfl rfl rfl rfl rfl rfl (ds' := [.v (.int .i64 x20.segments), .v (.int .i64 x20.size), .v (.int .i64 x20.key), .s (List.map encEntrant x20.entrants), .s (List.map encInt x20.gone), .v (.int .i64 x20.segment), .s (List.map encInt x20.order), .s (List.map encResult x20.results)]) rfl) ?_
          refine AO.pure T rfl rfl rfl ?_
          refine AO.nil ?_
          refine AW.le (Le.cut 0 0 (σ' := (⟨[(4, .p 2 0), (5, .v (.bool true))], [(2, .box [.v (.int .i64 x20.segments), .v (.int .i64 x20.size), .v (.int .i64 x20.key), .s (List.map encEntrant x20.entrants), .s (List.map encInt x20.gone), .v (.int .i64 x20.segment), .s (List.map encInt x20.order), .s (List.map encResult x20.results)])], 46, []⟩ : St)) rfl (by repeat' (first | exact trivial | refine ⟨⟨_, rfl, rfl⟩, ?_⟩)) (by repeat' (first | exact trivial | refine ⟨⟨_, rfl, rfl⟩, ?_⟩)) rfl) ?_
          refine AW.ret ?_
          cases someE hH
          exact ⟨trivial, _, [], rfl, .t (expLG_cons (.g (expLC_cons .v (expLC_cons .v (expLC_cons .v (expLC_cons .s (expLC_cons .s (expLC_cons .v (expLC_cons .s (expLC_cons .s (expLC_nil)))))))))) (expLG_cons (.c .v) (expLG_nil))), by decide⟩
        · replace hH := condF hc hH
          refine AW.skip ?_
          refine AW.seq ?_
          obtain ⟨x22, hx23, hH⟩ := bindE hH
          refine AW.le (Le.freezeM 6 (g := encEntrant) rfl (fun y => .vs rfl)) ?_
          refine AW.le (Le.freezeM 8 (g := encInt) rfl (fun y => .vs rfl)) ?_
          refine AW.le (Le.freezeM 9 (g := encResult) rfl (fun y => frzResult y)) ?_
          refine AW.region ?_
          refine AO.pure T (d := .g [.v (.int .i64 x12.segments), .v (.int .i64 x12.size), .v (.int .i64 x12.key), .s (List.map encEntrant x12.entrants), .s (List.map encInt x14), .v (.int .i64 x12.segment), .s (List.map encInt x12.order), .s (List.map encResult x12.results)]) rfl rfl rfl ?_
          refine AO.val rfl rfl (callV_ok rfl rfl rfl rfl (spec_evEnd_ok _ _ (hx23)) rfl) ?_
          refine AO.step rfl (store_okE T rfl rfl rfl rfl rfl rfl rfl rfl rfl (ds' := [.v (.int .i64 x22.segments), .v (.int .i64 x22.size), .v (.int .i64 x22.key), .s (List.map encEntrant x22.entrants), .s (List.map encInt x22.gone), .v (.int .i64 x22.segment), .s (List.map encInt x22.order), .s (List.map encResult x22.results)]) rfl) ?_
          refine AO.pure T rfl rfl rfl ?_
          refine AO.nil ?_
          refine AW.ret ?_
          cases someE hH
          exact ⟨trivial, _, [], rfl, .t (expLG_cons (.g (expLC_cons .v (expLC_cons .v (expLC_cons .v (expLC_cons .s (expLC_cons .s (expLC_cons .v (expLC_cons .s (expLC_cons .s (expLC_nil)))))))))) (expLG_cons (.c .v) (expLG_nil))), by decide⟩
    | cons y4 ys5 =>
      rw [hd6] at hH
      rw [spec_evLeave_l1] at hH
      have hlt8 := drop_lt hd6
      refine AW.seq ?_
      refine AW.region ?_
      refine AO.pure T rfl rfl rfl ?_
      refine AO.nil ?_
      refine AW.seq ?_
      refine AW.condT' (b := decide ((k3 : Int) < (x1.length : Int))) rfl (rngT hlt8) ?_
      refine AW.skip ?_
      refine AW.seq ?_
      refine AW.block ?_
      refine AW.seq ?_
      refine AW.region ?_
      refine AO.val rfl rfl (ix_row_ok T rfl rfl rfl rfl rfl rfl (getI_drop hd6)) ?_
      refine AO.val rfl rfl (load_row_ok T rfl rfl rfl rfl (getI_get (getI_drop hd6)) rfl rfl rfl) ?_
      refine AO.step rfl (alloc_ok T rfl 12 rfl rfl rfl rfl rfl) ?_
      refine AO.step rfl (store_okE T rfl rfl rfl rfl rfl rfl rfl rfl rfl (ds' := [.v (.int .i64 y4.skater), .v (.int .i64 y4.rank)]) rfl) ?_
      refine AO.nil ?_
      refine AW.region ?_
      refine AO.pure T rfl rfl rfl ?_
      refine AO.pure T rfl rfl rfl ?_
      refine AO.pureG T [] rfl trivial rfl rfl ?_
      refine AO.pureG T [19] rfl ⟨fun h => h, trivial⟩ rfl rfl ?_
      refine AO.pureG T [] rfl trivial rfl rfl ?_
      refine AO.pureG T [20, 21] rfl ⟨fun h => h, fun h => h, trivial⟩ rfl rfl ?_
      refine AO.val rfl rfl (pick_or rfl rfl rfl rfl) ?_
      refine AO.pure T rfl rfl rfl ?_
      refine AO.nil ?_
      refine AW.region ?_
      refine AO.val rfl rfl (ar_ok rfl rfl rfl rfl (inI_succ hlt8 hb7)) ?_
      refine AO.pure T rfl rfl rfl ?_
      refine AO.nil ?_
      refine ⟨(k3 + 1, (v10 || (y4.skater == skater))), ⟨Nat.succ_le_of_lt hlt8, (by rw [drop_succ_of hd6]; exact hH)⟩, (by have := hlt8; dsimp only; omega), ?_⟩
      exact Le.cut 0 0 rfl (by repeat' (first | exact trivial | refine ⟨⟨_, rfl, rfl⟩, ?_⟩)) (by repeat' (first | exact trivial | refine ⟨⟨_, rfl, rfl⟩, ?_⟩)) rfl

def spec_l1All_l1 (lo : Int) (hi : Int) : List Int → Nat → Option Bool
  | [], k1 =>
    some true
  | y2 :: ys3, k1 =>
    (spec_l1In_p y2 lo hi).bind fun x12 =>
    cond (!x12)
      (some false)
      (spec_l1All_l1 lo hi ys3 (k1 + 1))
def spec_l1All_p (l : List Int) (lo : Int) (hi : Int) : Option Bool :=
  spec_l1All_l1 lo hi l 0
theorem spec_l1All_ok (l : List Int) (lo : Int) (hi : Int) (r : Bool) (hH : spec_l1All_p l lo hi = some r) : SpecR Tryz.prog 150 [.s (List.map encInt l), .v (.int .i64 lo), .v (.int .i64 hi)] (.v (.bool r)) := by
  refine fn_ok T Tryz.func150 rfl (by decide) rfl ?_
  refine AW.seq ?_
  refine AW.region ?_
  refine AO.pure T rfl rfl rfl ?_
  refine AO.nil ?_
  refine AW.seq ?_
  refine AW.seq ?_
  refine AW.region ?_
  refine AO.pure T rfl rfl rfl ?_
  refine AO.val rfl rfl (len_map_ok T rfl rfl rfl) ?_
  refine AO.pure T rfl rfl rfl ?_
  refine AO.nil ?_
  refine AW.block ?_
  refine AW.loopS (fun s : Nat => (⟨[(1, .v (.int .i64 lo)), (2, .v (.int .i64 hi)), (9, .s (List.map encInt l)), (10, .v (.int .i64 (l.length : Int))), (11, .v (.int .i64 (s : Int)))], [], 21, []⟩ : St)) (fun s => s ≤ l.length ∧ spec_l1All_l1 lo hi (l.drop s) s = some r) (fun s => l.length - s) 0 ⟨Nat.zero_le _, hH⟩ ?_ ?_
  · exact Le.cut 0 0 rfl (by repeat' (first | exact trivial | refine ⟨⟨_, rfl, rfl⟩, ?_⟩)) (by repeat' (first | exact trivial | refine ⟨⟨_, rfl, rfl⟩, ?_⟩)) rfl
  · rintro k1 ⟨hk, hH⟩
    replace hH : spec_l1All_l1 lo hi (l.drop k1) k1 = some r := hH
    show AW _ _ _ (⟨[(1, .v (.int .i64 lo)), (2, .v (.int .i64 hi)), (9, .s (List.map encInt l)), (10, .v (.int .i64 (l.length : Int))), (11, .v (.int .i64 (k1 : Int)))], [], 21, []⟩ : St)
    refine AW.boundM (t := 9) (l := l) rfl (fun hb5 => ?_)
    cases hd4 : l.drop k1 with
    | nil =>
      rw [hd4] at hH
      rw [spec_l1All_l1] at hH
      have hlt6 := drop_ge hd4
      refine AW.seq ?_
      refine AW.region ?_
      refine AO.pure T rfl rfl rfl ?_
      refine AO.nil ?_
      refine AW.seq ?_
      refine AW.condF' (b := decide ((k1 : Int) < (l.length : Int))) rfl (rngF hlt6) ?_
      refine AW.exit ?_
      refine AW.seq ?_
      refine AW.region ?_
      refine AO.pure T rfl rfl rfl ?_
      refine AO.nil ?_
      refine AW.ret ?_
      cases someE hH
      exact ⟨trivial, _, [], rfl, .c (.c .v), by decide⟩
    | cons y2 ys3 =>
      rw [hd4] at hH
      rw [spec_l1All_l1] at hH
      have hlt6 := drop_lt hd4
      refine AW.seq ?_
      refine AW.region ?_
      refine AO.pure T rfl rfl rfl ?_
      refine AO.nil ?_
      refine AW.seq ?_
      refine AW.condT' (b := decide ((k1 : Int) < (l.length : Int))) rfl (rngT hlt6) ?_
      refine AW.skip ?_
      refine AW.seq ?_
      refine AW.block ?_
      refine AW.seq ?_
      refine AW.region ?_
      refine AO.val rfl rfl (ix_map_ok T rfl rfl rfl rfl rfl (getI_drop hd4) rfl) ?_
      refine AO.pure T rfl rfl rfl ?_
      refine AO.pure T rfl rfl rfl ?_
      refine AO.nil ?_
      refine AW.seq ?_
      obtain ⟨x12, hx13, hH⟩ := bindE hH
      refine AW.region ?_
      refine AO.pure T rfl rfl rfl ?_
      refine AO.pure T rfl rfl rfl ?_
      refine AO.pure T rfl rfl rfl ?_
      refine AO.val rfl rfl (callV_ok rfl rfl rfl rfl (spec_l1In_ok _ _ _ _ (hx13)) rfl) ?_
      refine AO.pure T rfl rfl rfl ?_
      refine AO.nil ?_
      refine AW.cond (b := (!x12)) rfl (fun hc => ?_) (fun hc => ?_)
      · replace hH := condT hc hH
        refine AW.seq ?_
        refine AW.region ?_
        refine AO.pure T rfl rfl rfl ?_
        refine AO.nil ?_
        refine AW.ret ?_
        cases someE hH
        exact ⟨trivial, _, [], rfl, .c (.c .v), by decide⟩
      · replace hH := condF hc hH
        refine AW.skip ?_
        refine AW.region ?_
        refine AO.val rfl rfl (ar_ok rfl rfl rfl rfl (inI_succ hlt6 hb5)) ?_
        refine AO.pure T rfl rfl rfl ?_
        refine AO.nil ?_
        refine ⟨k1 + 1, ⟨Nat.succ_le_of_lt hlt6, (by rw [drop_succ_of hd4]; exact hH)⟩, (by have := hlt6; dsimp only; omega), ?_⟩
        exact Le.cut 0 0 rfl (by repeat' (first | exact trivial | refine ⟨⟨_, rfl, rfl⟩, ?_⟩)) (by repeat' (first | exact trivial | refine ⟨⟨_, rfl, rfl⟩, ?_⟩)) rfl

def spec_dwKeys_p (keys : List Int) (most : Int) : Option Bool :=
  (opt (decide ((keys.length : Int) ≤ most)) default (spec_l1All_p keys 0 1000000000)).bind fun x1 =>
  some (decide ((keys.length : Int) ≤ most) && x1)
theorem spec_dwKeys_ok (keys : List Int) (most : Int) (r : Bool) (hH : spec_dwKeys_p keys most = some r) : SpecR Tryz.prog 147 [.s (List.map encInt keys), .v (.int .i64 most)] (.v (.bool r)) := by
  refine fn_ok T Tryz.func147 rfl (by decide) rfl ?_
  refine AW.seq ?_
  refine AW.region ?_
  refine AO.pure T rfl rfl rfl ?_
  refine AO.nil ?_
  refine AW.seq ?_
  obtain ⟨x1, hx2, hH⟩ := bindE hH
  refine AW.region ?_
  refine AO.pure T rfl rfl rfl ?_
  refine AO.val rfl rfl (len_map_ok T rfl rfl rfl) ?_
  refine AO.pure T rfl rfl rfl ?_
  refine AO.pure T rfl rfl rfl ?_
  refine AO.pure T rfl rfl rfl ?_
  refine AO.pureG T [] rfl trivial rfl rfl ?_
  refine AO.guard [10] rfl ⟨fun h => h, trivial⟩ (fun hg => callV_ok rfl rfl rfl rfl (spec_l1All_ok _ _ _ _ (optT hx2 hg)) rfl) rfl ?_
  refine AO.val rfl rfl (pick_and rfl rfl rfl rfl) ?_
  refine AO.pure T rfl rfl rfl ?_
  refine AO.nil ?_
  refine AW.ret ?_
  cases someE hH
  exact ⟨trivial, _, [], rfl, .c (.c .v), by decide⟩

def spec_soBehind_p (a : Entrant) (b : Entrant) : Option Bool :=
  cond ((a.rank == 0) && (b.rank == 0))
    (some (decide (a.skater > b.skater)))
    (cond ((a.rank == 0) || (b.rank == 0))
      (some (a.rank == 0))
      (some (decide (a.rank > b.rank))))
theorem spec_soBehind_ok (a : Entrant) (b : Entrant) (r : Bool) (hH : spec_soBehind_p a b = some r) : SpecR Tryz.prog 160 [.g (encEntrant a), .g (encEntrant b)] (.v (.bool r)) := by
  refine fn_ok T Tryz.func160 rfl (by decide) rfl ?_
  refine AW.seq ?_
  refine AW.region ?_
  refine AO.step rfl (box_ok T rfl 1 rfl rfl rfl rfl) ?_
  refine AO.step rfl (box_ok T rfl 2 rfl rfl rfl rfl) ?_
  refine AO.pure T rfl rfl rfl ?_
  refine AO.nil ?_
  refine AW.seq ?_
  refine AW.block ?_
  refine AW.seq ?_
  refine AW.region ?_
  refine AO.pure T rfl rfl rfl ?_
  refine AO.pure T rfl rfl rfl ?_
  refine AO.pure T rfl rfl rfl ?_
  refine AO.pure T rfl rfl rfl ?_
  refine AO.pureG T [] rfl trivial rfl rfl ?_
  refine AO.pureG T [10] rfl ⟨fun h => h, trivial⟩ rfl rfl ?_
  refine AO.pureG T [11] rfl ⟨fun h => h, trivial⟩ rfl rfl ?_
  refine AO.val rfl rfl (pick_and rfl rfl rfl rfl) ?_
  refine AO.pure T rfl rfl rfl ?_
  refine AO.nil ?_
  refine AW.cond (b := ((a.rank == 0) && (b.rank == 0))) rfl (fun hc => ?_) (fun hc => ?_)
  · replace hH := condT hc hH
    refine AW.seq ?_
    refine AW.region ?_
    refine AO.pure T rfl rfl rfl ?_
    refine AO.pure T rfl rfl rfl ?_
    refine AO.pure T rfl rfl rfl ?_
    refine AO.pure T rfl rfl rfl ?_
    refine AO.pure T rfl rfl rfl ?_
    refine AO.pure T rfl rfl rfl ?_
    refine AO.nil ?_
    refine AW.ret ?_
    cases someE hH
    exact ⟨trivial, _, [], rfl, .c (.c .v), by decide⟩
  · replace hH := condF hc hH
    refine AW.seq ?_
    refine AW.region ?_
    refine AO.pure T rfl rfl rfl ?_
    refine AO.pure T rfl rfl rfl ?_
    refine AO.pure T rfl rfl rfl ?_
    refine AO.pure T rfl rfl rfl ?_
    refine AO.pureG T [] rfl trivial rfl rfl ?_
    refine AO.pureG T [24] rfl ⟨fun h => h, trivial⟩ rfl rfl ?_
    refine AO.pureG T [25] rfl ⟨fun h => h, trivial⟩ rfl rfl ?_
    refine AO.val rfl rfl (pick_or rfl rfl rfl rfl) ?_
    refine AO.pure T rfl rfl rfl ?_
    refine AO.nil ?_
    refine AW.cond (b := ((a.rank == 0) || (b.rank == 0))) rfl (fun hc => ?_) (fun hc => ?_)
    · replace hH := condT hc hH
      refine AW.seq ?_
      refine AW.region ?_
      refine AO.pure T rfl rfl rfl ?_
      refine AO.pure T rfl rfl rfl ?_
      refine AO.pure T rfl rfl rfl ?_
      refine AO.pure T rfl rfl rfl ?_
      refine AO.nil ?_
      refine AW.le (Le.cut 0 0 (σ' := (⟨[(4, .v (.bool (a.rank == 0)))], [], 36, []⟩ : St)) rfl (by repeat' (first | exact trivial | refine ⟨⟨_, rfl, rfl⟩, ?_⟩)) (by repeat' (first | exact trivial | refine ⟨⟨_, rfl, rfl⟩, ?_⟩)) rfl) ?_
      refine AW.ret ?_
      cases someE hH
      exact ⟨trivial, _, [], rfl, .c (.c .v), by decide⟩
    · replace hH := condF hc hH
      refine AW.skip ?_
      refine AW.seq ?_
      refine AW.region ?_
      refine AO.pure T rfl rfl rfl ?_
      refine AO.pure T rfl rfl rfl ?_
      refine AO.pure T rfl rfl rfl ?_
      refine AO.pure T rfl rfl rfl ?_
      refine AO.pure T rfl rfl rfl ?_
      refine AO.pure T rfl rfl rfl ?_
      refine AO.nil ?_
      refine AW.le (Le.cut 0 0 (σ' := (⟨[(4, .v (.bool (decide (a.rank > b.rank))))], [], 36, []⟩ : St)) rfl (by repeat' (first | exact trivial | refine ⟨⟨_, rfl, rfl⟩, ?_⟩)) (by repeat' (first | exact trivial | refine ⟨⟨_, rfl, rfl⟩, ?_⟩)) rfl) ?_
      refine AW.ret ?_
      cases someE hH
      exact ⟨trivial, _, [], rfl, .c (.c .v), by decide⟩

def spec_soSorted_l2 (y2 : Entrant) (v153 : List Entrant) : Nat → Int → Option Int
  | 0, _ => none
  | k219 + 1, v229 =>
    (opt (decide (v229 > 0)) default (getI v153 (w64 (v229 - 1)))).bind fun x231 =>
    (opt (decide (v229 > 0)) default (spec_soBehind_p y2 x231)).bind fun x233 =>
    cond (decide (v229 > 0) && x233)
      (spec_soSorted_l2 y2 v153 k219 (w64 (v229 - 1)))
      (some v229)
def spec_soSorted_l1 (fuel : Nat) : List Entrant → Nat → List Entrant → Option ((List Entrant))
  | [], k1, v153 =>
    some v153
  | y2 :: ys3, k1, v153 =>
    ((spec_soSorted_l2 y2 v153 fuel (v153.length : Int)).bind fun v216 =>
    (sliceHi v153 v216).bind fun x235 =>
    (need (fitsB 16 x235.length)).bind fun u237 =>
    (need (fitsB 16 (x235.length + ([y2]).length))).bind fun u239 =>
    (sliceLo v153 v216).bind fun x241 =>
    (need (fitsB 16 (((x235 ++ [y2])).length + x241.length))).bind fun u243 =>
    some ((x235 ++ [y2]) ++ x241)).bind fun v198 =>
    spec_soSorted_l1 fuel ys3 (k1 + 1) v198
def spec_soSorted_p (fuel : Nat) (l : List Entrant) : Option (List Entrant) :=
  spec_soSorted_l1 fuel l 0 []
theorem spec_soSorted_ok (fuel : Nat) (l : List Entrant) (r : (List Entrant)) (hH : spec_soSorted_p fuel l = some r) : SpecR Tryz.prog 156 [.s (List.map encEntrant l)] (.w 2 (r.map encEntrant)) := by
  refine fn_ok T Tryz.func156 rfl (by decide) rfl ?_
  refine AW.seq ?_
  refine AW.region ?_
  refine AO.pure T rfl rfl rfl ?_
  refine AO.nil ?_
  refine AW.seq ?_
  refine AW.region ?_
  refine AO.pure T rfl rfl rfl ?_
  refine AO.nil ?_
  refine AW.seq ?_
  refine AW.seq ?_
  refine AW.region ?_
  refine AO.pure T rfl rfl rfl ?_
  refine AO.val rfl rfl (len_map_ok T rfl rfl rfl) ?_
  refine AO.pure T rfl rfl rfl ?_
  refine AO.nil ?_
  refine AW.block ?_
  refine AW.loopS (fun s : Nat × (List Entrant) => (⟨[(3, .R 15), (7, .s (List.map encEntrant l)), (8, .v (.int .i64 (l.length : Int))), (9, .v (.int .i64 (s.1 : Int)))], [(15, .row 2 (List.map encEntrant s.2))], 42, []⟩ : St)) (fun s => s.1 ≤ l.length ∧ spec_soSorted_l1 fuel (l.drop s.1) s.1 s.2 = some r) (fun s => l.length - s.1) (0, []) ⟨Nat.zero_le _, hH⟩ ?_ ?_
  · refine Le.trans (Le.void 3 15 2 rfl rfl) ?_
    exact Le.cut 0 0 rfl (by repeat' (first | exact trivial | refine ⟨⟨_, rfl, rfl⟩, ?_⟩)) (by repeat' (first | exact trivial | refine ⟨⟨_, rfl, rfl⟩, ?_⟩)) rfl
  · rintro ⟨k1, v153⟩ ⟨hk, hH⟩
    replace hH : spec_soSorted_l1 fuel (l.drop k1) k1 v153 = some r := hH
    show AW _ _ _ (⟨[(3, .R 15), (7, .s (List.map encEntrant l)), (8, .v (.int .i64 (l.length : Int))), (9, .v (.int .i64 (k1 : Int)))], [(15, .row 2 (List.map encEntrant v153))], 42, []⟩ : St)
    refine AW.boundM (t := 7) (l := l) rfl (fun hb5 => ?_)
    cases hd4 : l.drop k1 with
    | nil =>
      rw [hd4] at hH
      rw [spec_soSorted_l1] at hH
      have hlt6 := drop_ge hd4
      refine AW.seq ?_
      refine AW.region ?_
      refine AO.pure T rfl rfl rfl ?_
      refine AO.nil ?_
      refine AW.seq ?_
      refine AW.condF' (b := decide ((k1 : Int) < (l.length : Int))) rfl (rngF hlt6) ?_
      refine AW.exit ?_
      refine AW.seq ?_
      refine AW.region ?_
      refine AO.pure T rfl rfl rfl ?_
      refine AO.pure T rfl rfl rfl ?_
      refine AO.nil ?_
      refine AW.ret ?_
      cases someE hH
      exact ⟨trivial, _, [15], rfl, .c (.c (.rowR rfl)), by decide⟩
    | cons y2 ys3 =>
      rw [hd4] at hH
      rw [spec_soSorted_l1] at hH
      have hlt6 := drop_lt hd4
      refine AW.seq ?_
      refine AW.region ?_
      refine AO.pure T rfl rfl rfl ?_
      refine AO.nil ?_
      refine AW.seq ?_
      refine AW.condT' (b := decide ((k1 : Int) < (l.length : Int))) rfl (rngT hlt6) ?_
      refine AW.skip ?_
      obtain ⟨o199, hH, hK200⟩ := bindE hH
      refine AW.seqJ (fun s : List Entrant => (⟨[(3, .R 25), (7, .s (List.map encEntrant l)), (8, .v (.int .i64 (l.length : Int))), (9, .v (.int .i64 (k1 : Int)))], [(25, .row 2 (List.map encEntrant s))], 42, []⟩ : St)) (fun s => s = o199) ?_ ?_
      · refine AW.block ?_
        refine AW.seq ?_
        refine AW.region ?_
        refine AO.val rfl rfl (ix_map_ok T rfl rfl rfl rfl rfl (getI_drop hd4) rfl) ?_
        refine AO.pure T (d := .g [.v (.int .i64 y2.skater), .v (.int .i64 y2.rank)]) rfl rfl rfl ?_
        refine AO.step rfl (alloc_ok T rfl 26 rfl rfl rfl rfl rfl) ?_
        refine AO.step rfl (store_okE T rfl rfl rfl rfl rfl rfl rfl rfl rfl (ds' := [.v (.int .i64 y2.skater), .v (.int .i64 y2.rank)]) rfl) ?_
        refine AO.nil ?_
        refine AW.seq ?_
        refine AW.region ?_
        refine AO.pure T rfl rfl rfl ?_
        refine AO.val rfl rfl (len_row_ok T rfl rfl rfl rfl) ?_
        refine AO.pure T rfl rfl rfl ?_
        refine AO.nil ?_
        obtain ⟨o217, hH, hK218⟩ := bindE hH
        refine AW.seqJ (fun s : Int => (⟨[(3, .R 15), (5, .p 26 0), (6, .v (.int .i64 s)), (7, .s (List.map encEntrant l)), (8, .v (.int .i64 (l.length : Int))), (9, .v (.int .i64 (k1 : Int)))], [(15, .row 2 (List.map encEntrant v153)), (26, .box [.v (.int .i64 y2.skater), .v (.int .i64 y2.rank)])], 42, []⟩ : St)) (fun s => s = o217) ?_ ?_
        · refine AW.block ?_
          refine AW.loopS (fun s : Nat × Int => (⟨[(3, .R 15), (5, .p 26 0), (6, .v (.int .i64 s.2)), (7, .s (List.map encEntrant l)), (8, .v (.int .i64 (l.length : Int))), (9, .v (.int .i64 (k1 : Int)))], [(15, .row 2 (List.map encEntrant v153)), (26, .box [.v (.int .i64 y2.skater), .v (.int .i64 y2.rank)])], 42, []⟩ : St)) (fun s => spec_soSorted_l2 y2 v153 s.1 s.2 = some o217) (fun s => s.1) (fuel, (v153.length : Int)) hH ?_ ?_
          · exact Le.cut 0 0 rfl (by repeat' (first | exact trivial | refine ⟨⟨_, rfl, rfl⟩, ?_⟩)) (by repeat' (first | exact trivial | refine ⟨⟨_, rfl, rfl⟩, ?_⟩)) rfl
          · rintro ⟨k219, v229⟩ hH
            replace hH : spec_soSorted_l2 y2 v153 k219 v229 = some o217 := hH
            show AW _ _ _ (⟨[(3, .R 15), (5, .p 26 0), (6, .v (.int .i64 v229)), (7, .s (List.map encEntrant l)), (8, .v (.int .i64 (l.length : Int))), (9, .v (.int .i64 (k1 : Int)))], [(15, .row 2 (List.map encEntrant v153)), (26, .box [.v (.int .i64 y2.skater), .v (.int .i64 y2.rank)])], 42, []⟩ : St)
            cases k219 with
            | zero => cases (show none = some _ from hH)
            | succ k219 =>
              rw [spec_soSorted_l2] at hH
              refine AW.seq ?_
              refine AW.seq ?_
              obtain ⟨x231, hx232, hH⟩ := bindE hH
              obtain ⟨x233, hx234, hH⟩ := bindE hH
              refine AW.drawn 9 27 [] mix (by kernel_rfl) rfl ?_
              refine AD.pure T rfl rfl rfl ?_
              refine AD.pure T rfl rfl rfl ?_
              refine AD.pure T rfl rfl rfl ?_
              refine AD.pureG T (d := .g [.v (.int .i64 y2.skater), .v (.int .i64 y2.rank)]) [] rfl trivial rfl rfl ?_
              refine AD.pureG T [] rfl trivial rfl rfl ?_
              refine AD.pureG T [] rfl trivial rfl rfl ?_
              refine AD.guard [20] rfl ⟨fun h => h, trivial⟩ (fun hg => arw_ok rfl rfl rfl rfl) rfl ?_
              refine AD.guard [19, 21] rfl ⟨fun h => h, fun h => h, trivial⟩ (fun hg => ix_row_ok T rfl rfl rfl rfl rfl rfl (optT hx232 hg)) rfl ?_
              refine AD.guard [22] rfl ⟨fun h => h, trivial⟩ (fun hg => load_row_ok T rfl rfl rfl rfl (getI_get (optT hx232 hg)) rfl rfl rfl) rfl ?_
              refine AD.nil ?_
              refine AO.guard [18, 23] rfl ⟨fun h => h, fun h => h, trivial⟩ (fun hg => callV_ok rfl rfl rfl rfl (spec_soBehind_ok _ _ _ (optT hx234 hg)) rfl) rfl ?_
              refine AO.val rfl rfl (pick_and rfl rfl rfl rfl) ?_
              refine AO.nil ?_
              refine AW.cond (b := (decide (v229 > 0) && x233)) rfl (fun hc => ?_) (fun hc => ?_)
              · replace hH := condT hc hH
                refine AW.skip ?_
                refine AW.block ?_
                refine AW.region ?_
                refine AO.pure T rfl rfl rfl ?_
                refine AO.val rfl rfl (arw_ok rfl rfl rfl rfl) ?_
                refine AO.pure T rfl rfl rfl ?_
                refine AO.nil ?_
                refine ⟨(k219, w64 (v229 - 1)), hH, Nat.lt_succ_self _, ?_⟩
                exact Le.cut 0 0 rfl (by repeat' (first | exact trivial | refine ⟨⟨_, rfl, rfl⟩, ?_⟩)) (by repeat' (first | exact trivial | refine ⟨⟨_, rfl, rfl⟩, ?_⟩)) rfl
              · replace hH := condF hc hH
                refine AW.exit ?_
                refine ⟨_, someE hH, ?_⟩
                exact Le.cut 0 0 rfl (by repeat' (first | exact trivial | refine ⟨⟨_, rfl, rfl⟩, ?_⟩)) (by repeat' (first | exact trivial | refine ⟨⟨_, rfl, rfl⟩, ?_⟩)) rfl
        · rintro v216 hs
          subst hs
          replace hH := hK218
          try dsimp only [flow, flowE] at hH
          show AW _ _ _ (⟨[(3, .R 15), (5, .p 26 0), (6, .v (.int .i64 v216)), (7, .s (List.map encEntrant l)), (8, .v (.int .i64 (l.length : Int))), (9, .v (.int .i64 (k1 : Int)))], [(15, .row 2 (List.map encEntrant v153)), (26, .box [.v (.int .i64 y2.skater), .v (.int .i64 y2.rank)])], 42, []⟩ : St)
          obtain ⟨x235, hx236, hH⟩ := bindE hH
          obtain ⟨u237, hx238, hH⟩ := bindE hH
          obtain ⟨u239, hx240, hH⟩ := bindE hH
          obtain ⟨x241, hx242, hH⟩ := bindE hH
          obtain ⟨u243, hx244, hH⟩ := bindE hH
          refine AW.le (Le.freezeM 15 (g := encEntrant) rfl (fun y => .vs rfl)) ?_
          refine AW.drawn 11 27 [] mix (by kernel_rfl) rfl ?_
          refine AD.v (FStep.mk0 T rfl rfl rfl rfl rfl) ?_
          refine AD.pure T rfl rfl rfl ?_
          refine AD.pure T rfl rfl rfl ?_
          refine AD.val rfl rfl (slice_hi_map_ok T rfl rfl rfl rfl rfl (hx236) (fun _ => rfl)) ?_
          refine AD.q (FStep.app_ws T rfl rfl rfl rfl rfl rfl rfl (by decide) (by decide) rfl rfl (fun _ => rfl) (needT (hx238)) rfl) (by simp [namesIn]) (Nat.le_succ _) rfl ?_
          refine AD.pure T (d := .g [.v (.int .i64 y2.skater), .v (.int .i64 y2.rank)]) rfl rfl rfl ?_
          refine AD.q (FStep.mk T (f := encEntrant) (l := [y2]) rfl rfl rfl rfl rfl rfl rfl rfl rfl (fun _ => rfl) rfl rfl rfl rfl) (by simp [namesIn]) (Nat.le_succ _) rfl ?_
          refine AD.k rfl rfl (FStep.app_rv T rfl rfl rfl rfl rfl rfl rfl (by decide) rfl rfl rfl rfl (fun _ => rfl) (needT (hx240)) rfl) rfl rfl rfl ?_
          refine AD.pure T rfl rfl rfl ?_
          refine AD.pure T rfl rfl rfl ?_
          refine AD.val rfl rfl (slice_lo_map_ok T rfl rfl rfl rfl rfl (hx242) (fun _ => rfl)) ?_
          refine AD.nil ?_
          refine AO.step rfl (app_rs_map T rfl 30 rfl rfl rfl rfl rfl (by decide) (by decide) rfl rfl rfl (fun _ => rfl) (needT (hx244)) rfl rfl) ?_
          refine AO.pure T rfl rfl rfl ?_
          refine AO.nil ?_
          refine ⟨_, someE hH, ?_⟩
          exact Le.cut 30 25 rfl (by repeat' (first | exact trivial | refine ⟨⟨_, rfl, rfl⟩, ?_⟩)) (by repeat' (first | exact trivial | refine ⟨⟨_, rfl, rfl⟩, ?_⟩)) rfl
      · rintro v198 hs
        subst hs
        replace hH := hK200
        try dsimp only [flow, flowE] at hH
        show AW _ _ _ (⟨[(3, .R 25), (7, .s (List.map encEntrant l)), (8, .v (.int .i64 (l.length : Int))), (9, .v (.int .i64 (k1 : Int)))], [(25, .row 2 (List.map encEntrant v198))], 42, []⟩ : St)
        refine AW.region ?_
        refine AO.val rfl rfl (ar_ok rfl rfl rfl rfl (inI_succ hlt6 hb5)) ?_
        refine AO.pure T rfl rfl rfl ?_
        refine AO.nil ?_
        refine ⟨(k1 + 1, v198), ⟨Nat.succ_le_of_lt hlt6, (by rw [drop_succ_of hd4]; exact hH)⟩, (by have := hlt6; dsimp only; omega), ?_⟩
        exact Le.cut 25 15 rfl (by repeat' (first | exact trivial | refine ⟨⟨_, rfl, rfl⟩, ?_⟩)) (by repeat' (first | exact trivial | refine ⟨⟨_, rfl, rfl⟩, ?_⟩)) rfl

def spec_dwSizes_l1 (n : Int) (groups : Int) : Nat → List Int → Int → Option ((List Int))
  | 0, _, _ => none
  | k1 + 1, v16, v17 =>
    cond (decide (v17 < groups))
      ((need (groups != 0)).bind fun u19 =>
      cond (decide (v17 < (n.tmod groups)))
        ((need (fitsB 8 (v16.length + ([w64 ((w64 (n.tdiv groups)) + 1)]).length))).bind fun u21 =>
        spec_dwSizes_l1 n groups k1 (v16 ++ [w64 ((w64 (n.tdiv groups)) + 1)]) (w64 (v17 + 1)))
        ((need (fitsB 8 (v16.length + ([w64 (n.tdiv groups)]).length))).bind fun u23 =>
        spec_dwSizes_l1 n groups k1 (v16 ++ [w64 (n.tdiv groups)]) (w64 (v17 + 1))))
      (some v16)
def spec_dwSizes_p (fuel : Nat) (n : Int) (groups : Int) : Option (List Int) :=
  spec_dwSizes_l1 n groups fuel [] 0
theorem spec_dwSizes_ok (fuel : Nat) (n : Int) (groups : Int) (r : (List Int)) (hH : spec_dwSizes_p fuel n groups = some r) : SpecR Tryz.prog 157 [.v (.int .i64 n), .v (.int .i64 groups)] (.w 1 (r.map encInt)) := by
  refine fn_ok T Tryz.func157 rfl (by decide) rfl ?_
  refine AW.seq ?_
  refine AW.region ?_
  refine AO.pure T rfl rfl rfl ?_
  refine AO.nil ?_
  refine AW.seq ?_
  refine AW.region ?_
  refine AO.pure T rfl rfl rfl ?_
  refine AO.nil ?_
  refine AW.seq ?_
  refine AW.seq ?_
  refine AW.region ?_
  refine AO.pure T rfl rfl rfl ?_
  refine AO.nil ?_
  refine AW.block ?_
  refine AW.loopS (fun s : Nat × (List Int) × Int => (⟨[(0, .v (.int .i64 n)), (1, .v (.int .i64 groups)), (5, .R 6), (6, .v (.int .i64 s.2.2))], [(6, .row 1 (List.map encInt s.2.1))], 28, []⟩ : St)) (fun s => spec_dwSizes_l1 n groups s.1 s.2.1 s.2.2 = some r) (fun s => s.1) (fuel, [], 0) hH ?_ ?_
  · refine Le.trans (Le.void 5 6 1 rfl rfl) ?_
    exact Le.cut 0 0 rfl (by repeat' (first | exact trivial | refine ⟨⟨_, rfl, rfl⟩, ?_⟩)) (by repeat' (first | exact trivial | refine ⟨⟨_, rfl, rfl⟩, ?_⟩)) rfl
  · rintro ⟨k1, v16, v17⟩ hH
    replace hH : spec_dwSizes_l1 n groups k1 v16 v17 = some r := hH
    show AW _ _ _ (⟨[(0, .v (.int .i64 n)), (1, .v (.int .i64 groups)), (5, .R 6), (6, .v (.int .i64 v17))], [(6, .row 1 (List.map encInt v16))], 28, []⟩ : St)
    cases k1 with
    | zero => cases (show none = some _ from hH)
    | succ k1 =>
      rw [spec_dwSizes_l1] at hH
      refine AW.seq ?_
      refine AW.seq ?_
      refine AW.region ?_
      refine AO.pure T rfl rfl rfl ?_
      refine AO.pure T rfl rfl rfl ?_
      refine AO.pure T rfl rfl rfl ?_
      refine AO.nil ?_
      refine AW.cond (b := decide (v17 < groups)) rfl (fun hc => ?_) (fun hc => ?_)
      · replace hH := condT hc hH
        refine AW.skip ?_
        refine AW.seq ?_
        refine AW.block ?_
        refine AW.seq ?_
        obtain ⟨u19, hx20, hH⟩ := bindE hH
        refine AW.region ?_
        refine AO.pure T rfl rfl rfl ?_
        refine AO.pure T rfl rfl rfl ?_
        refine AO.val rfl rfl (quow_ok rfl rfl rfl (neZ (needT (hx20)))) ?_
        refine AO.pure T rfl rfl rfl ?_
        refine AO.nil ?_
        refine AW.seq ?_
        refine AW.seq ?_
        refine AW.region ?_
        refine AO.pure T rfl rfl rfl ?_
        refine AO.pure T rfl rfl rfl ?_
        refine AO.pure T rfl rfl rfl ?_
        refine AO.val rfl rfl (rem_ok rfl rfl rfl (neZ (needT (hx20)))) ?_
        refine AO.pure T rfl rfl rfl ?_
        refine AO.nil ?_
        refine AW.cond (b := decide (v17 < (n.tmod groups))) rfl (fun hc => ?_) (fun hc => ?_)
        · replace hH := condT hc hH
          refine AW.region ?_
          refine AO.pure T rfl rfl rfl ?_
          refine AO.val rfl rfl (arw_ok rfl rfl rfl rfl) ?_
          refine AO.pure T rfl rfl rfl ?_
          refine AO.nil ?_
          obtain ⟨u21, hx22, hH⟩ := bindE hH
          refine AW.region ?_
          refine AO.pure T rfl rfl rfl ?_
          refine AO.pure T rfl rfl rfl ?_
          refine AO.step rfl (mk_map_ok T rfl 9 rfl rfl rfl rfl rfl (f := encInt) (l := [w64 ((w64 (n.tdiv groups)) + 1)]) rfl rfl (fun _ => rfl) rfl rfl rfl rfl rfl) ?_
          refine AO.step rfl (app_rv_map T rfl 10 rfl rfl rfl rfl rfl (by decide) rfl rfl rfl rfl (fun _ => rfl) (needT (hx22)) rfl rfl) ?_
          refine AO.pure T rfl rfl rfl ?_
          refine AO.nil ?_
          refine AW.region ?_
          refine AO.pure T rfl rfl rfl ?_
          refine AO.val rfl rfl (arw_ok rfl rfl rfl rfl) ?_
          refine AO.pure T rfl rfl rfl ?_
          refine AO.nil ?_
          refine ⟨(k1, (v16 ++ [w64 ((w64 (n.tdiv groups)) + 1)]), w64 (v17 + 1)), hH, Nat.lt_succ_self _, ?_⟩
          exact Le.cut 10 6 rfl (by repeat' (first | exact trivial | refine ⟨⟨_, rfl, rfl⟩, ?_⟩)) (by repeat' (first | exact trivial | refine ⟨⟨_, rfl, rfl⟩, ?_⟩)) rfl
        · replace hH := condF hc hH
          refine AW.skip ?_
          obtain ⟨u23, hx24, hH⟩ := bindE hH
          refine AW.region ?_
          refine AO.pure T rfl rfl rfl ?_
          refine AO.pure T rfl rfl rfl ?_
          refine AO.step rfl (mk_map_ok T rfl 11 rfl rfl rfl rfl rfl (f := encInt) (l := [w64 (n.tdiv groups)]) rfl rfl (fun _ => rfl) rfl rfl rfl rfl rfl) ?_
          refine AO.step rfl (app_rv_map T rfl 12 rfl rfl rfl rfl rfl (by decide) rfl rfl rfl rfl (fun _ => rfl) (needT (hx24)) rfl rfl) ?_
          refine AO.pure T rfl rfl rfl ?_
          refine AO.nil ?_
          refine AW.region ?_
          refine AO.pure T rfl rfl rfl ?_
          refine AO.val rfl rfl (arw_ok rfl rfl rfl rfl) ?_
          refine AO.pure T rfl rfl rfl ?_
          refine AO.nil ?_
          refine ⟨(k1, (v16 ++ [w64 (n.tdiv groups)]), w64 (v17 + 1)), hH, Nat.lt_succ_self _, ?_⟩
          exact Le.cut 12 6 rfl (by repeat' (first | exact trivial | refine ⟨⟨_, rfl, rfl⟩, ?_⟩)) (by repeat' (first | exact trivial | refine ⟨⟨_, rfl, rfl⟩, ?_⟩)) rfl
      · replace hH := condF hc hH
        refine AW.exit ?_
        refine AW.seq ?_
        refine AW.region ?_
        refine AO.pure T rfl rfl rfl ?_
        refine AO.pure T rfl rfl rfl ?_
        refine AO.nil ?_
        refine AW.ret ?_
        cases someE hH
        exact ⟨trivial, _, [6], rfl, .c (.c (.rowR rfl)), by decide⟩

def spec_soGroups_l2 (fuel : Nat) (y8 : Int) (v103 : List Entrant) (v104 : List (List Int)) : List Entrant → Nat → List Int → Option ((List Entrant) × (List (List Int)))
  | [], k132, v143 =>
    (need (fitsB 24 (v104.length + ([v143]).length))).bind fun u145 =>
    (sliceLo v103 y8).bind fun x147 =>
    some (x147, (v104 ++ [v143]))
  | y133 :: ys134, k132, v143 =>
    (spec_l1Put_p fuel v143 y133.skater).bind fun x149 =>
    spec_soGroups_l2 fuel y8 v103 v104 ys134 (k132 + 1) x149
def spec_soGroups_l1 (fuel : Nat) : List Int → Nat → List Entrant → List (List Int) → Option (((List (List Int)) × Bool))
  | [], k7, v103, v104 =>
    some (v104, true)
  | y8 :: ys9, k7, v103, v104 =>
    ((sliceHi v103 y8).bind fun x130 =>
    spec_soGroups_l2 fuel y8 v103 v104 x130 0 []).bind fun (v126, v127) =>
    spec_soGroups_l1 fuel ys9 (k7 + 1) v126 v127
def spec_soGroups_p (fuel : Nat) (l : List Entrant) (size : Int) : Option ((List (List Int)) × Bool) :=
  (need (size != 0)).bind fun u1 =>
  cond ((w64 ((w64 ((w64 ((l.length : Int) + size)) - 1)).tdiv size)) == 0)
    (some ([], true))
    (cond (decide ((w64 ((w64 ((w64 ((l.length : Int) + size)) - 1)).tdiv size)) > 8))
      (some ([], false))
      ((spec_soSorted_p fuel l).bind fun x3 =>
      (spec_dwSizes_p fuel (l.length : Int) (w64 ((w64 ((w64 ((l.length : Int) + size)) - 1)).tdiv size))).bind fun x5 =>
      spec_soGroups_l1 fuel x5 0 x3 []))
theorem spec_soGroups_ok (fuel : Nat) (l : List Entrant) (size : Int) (r : ((List (List Int)) × Bool)) (hH : spec_soGroups_p fuel l size = some r) : SpecR Tryz.prog 148 [.s (List.map encEntrant l), .v (.int .i64 size)] (.t [.w 1 (r.1.map encLInt), .v (.bool r.2)]) := by
  refine fn_ok T Tryz.func148 rfl (by decide) rfl ?_
  refine AW.seq ?_
  refine AW.region ?_
  refine AO.pure T rfl rfl rfl ?_
  refine AO.pure T rfl rfl rfl ?_
  refine AO.nil ?_
  refine AW.seq ?_
  obtain ⟨u1, hx2, hH⟩ := bindE hH
  refine AW.region ?_
  refine AO.pure T rfl rfl rfl ?_
  refine AO.val rfl rfl (len_map_ok T rfl rfl rfl) ?_
  refine AO.pure T rfl rfl rfl ?_
  refine AO.val rfl rfl (arw_ok rfl rfl rfl rfl) ?_
  refine AO.val rfl rfl (arw_ok rfl rfl rfl rfl) ?_
  refine AO.pure T rfl rfl rfl ?_
  refine AO.val rfl rfl (quow_ok rfl rfl rfl (neZ (needT (hx2)))) ?_
  refine AO.pure T rfl rfl rfl ?_
  refine AO.nil ?_
  refine AW.seq ?_
  refine AW.seq ?_
  refine AW.region ?_
  refine AO.pure T rfl rfl rfl ?_
  refine AO.pure T rfl rfl rfl ?_
  refine AO.nil ?_
  refine AW.cond (b := ((w64 ((w64 ((w64 ((l.length : Int) + size)) - 1)).tdiv size)) == 0)) rfl (fun hc => ?_) (fun hc => ?_)
  · replace hH := condT hc hH
    refine AW.seq ?_
    refine AW.region ?_
    refine AO.pure T rfl rfl rfl ?_
    refine AO.pure T rfl rfl rfl ?_
    refine AO.nil ?_
    refine AW.ret ?_
    cases someE hH
    exact ⟨trivial, _, [], rfl, .t (expLG_cons (.c .nil) (expLG_cons (.c .v) (expLG_nil))), by decide⟩
  · replace hH := condF hc hH
    refine AW.skip ?_
    refine AW.seq ?_
    refine AW.seq ?_
    refine AW.region ?_
    refine AO.pure T rfl rfl rfl ?_
    refine AO.pure T rfl rfl rfl ?_
    refine AO.nil ?_
    refine AW.cond (b := decide ((w64 ((w64 ((w64 ((l.length : Int) + size)) - 1)).tdiv size)) > 8)) rfl (fun hc => ?_) (fun hc => ?_)
    · replace hH := condT hc hH
      refine AW.seq ?_
      refine AW.region ?_
      refine AO.pure T rfl rfl rfl ?_
      refine AO.pure T rfl rfl rfl ?_
      refine AO.nil ?_
      refine AW.ret ?_
      cases someE hH
      exact ⟨trivial, _, [], rfl, .t (expLG_cons (.c .nil) (expLG_cons (.c .v) (expLG_nil))), by decide⟩
    · replace hH := condF hc hH
      refine AW.skip ?_
      refine AW.seq ?_
      obtain ⟨x3, hx4, hH⟩ := bindE hH
      refine AW.region ?_
      refine AO.pure T rfl rfl rfl ?_
      refine AO.step rfl (call_ok rfl 1 rfl rfl rfl (spec_soSorted_ok fuel _ _ (hx4)) rfl rfl rfl) ?_
      refine AO.pure T rfl rfl rfl ?_
      refine AO.nil ?_
      refine AW.seq ?_
      refine AW.region ?_
      refine AO.pure T rfl rfl rfl ?_
      refine AO.nil ?_
      refine AW.seq ?_
      refine AW.seq ?_
      obtain ⟨x5, hx6, hH⟩ := bindE hH
      refine AW.region ?_
      refine AO.pure T rfl rfl rfl ?_
      refine AO.val rfl rfl (len_map_ok T rfl rfl rfl) ?_
      refine AO.pure T rfl rfl rfl ?_
      refine AO.step rfl (call_ok rfl 2 rfl rfl rfl (spec_dwSizes_ok fuel _ _ _ (hx6)) rfl rfl rfl) ?_
      refine AO.val rfl rfl (len_row_ok T rfl rfl rfl rfl) ?_
      refine AO.pure T rfl rfl rfl ?_
      refine AO.nil ?_
      refine AW.le (Le.cut 0 0 (σ' := (⟨[(7, .R 1), (8, .w 0 []), (30, .R 2), (31, .v (.int .i64 (x5.length : Int))), (32, .v (.int .i64 0))], [(1, .row 2 (List.map encEntrant x3)), (2, .row 1 (List.map encInt x5))], 58, []⟩ : St)) rfl (by repeat' (first | exact trivial | refine ⟨⟨_, rfl, rfl⟩, ?_⟩)) (by repeat' (first | exact trivial | refine ⟨⟨_, rfl, rfl⟩, ?_⟩)) rfl) ?_
      refine AW.block ?_
      refine AW.loopS (fun s : Nat × (List Entrant) × (List (List Int)) => (⟨[(7, .s (List.map encEntrant s.2.1)), (8, .R 16), (30, .R 2), (31, .v (.int .i64 (x5.length : Int))), (32, .v (.int .i64 (s.1 : Int)))], [(2, .row 1 (List.map encInt x5)), (16, .row 1 (List.map encLInt s.2.2))], 58, []⟩ : St)) (fun s => s.1 ≤ x5.length ∧ spec_soGroups_l1 fuel (x5.drop s.1) s.1 s.2.1 s.2.2 = some r) (fun s => x5.length - s.1) (0, x3, []) ⟨Nat.zero_le _, hH⟩ ?_ ?_
      · refine Le.trans (Le.freezeM 1 (g := encEntrant) rfl (fun y => .vs rfl)) ?_
        refine Le.trans (Le.void 8 16 1 rfl rfl) ?_
        exact Le.cut 0 0 rfl (by repeat' (first | exact trivial | refine ⟨⟨_, rfl, rfl⟩, ?_⟩)) (by repeat' (first | exact trivial | refine ⟨⟨_, rfl, rfl⟩, ?_⟩)) rfl
      · rintro ⟨k7, v103, v104⟩ ⟨hk, hH⟩
        replace hH : spec_soGroups_l1 fuel (x5.drop k7) k7 v103 v104 = some r := hH
        show AW _ _ _ (⟨[(7, .s (List.map encEntrant v103)), (8, .R 16), (30, .R 2), (31, .v (.int .i64 (x5.length : Int))), (32, .v (.int .i64 (k7 : Int)))], [(2, .row 1 (List.map encInt x5)), (16, .row 1 (List.map encLInt v104))], 58, []⟩ : St)
        refine AW.boundR (id := 2) (l := x5) rfl (fun hb11 => ?_)
        cases hd10 : x5.drop k7 with
        | nil =>
          rw [hd10] at hH
          rw [spec_soGroups_l1] at hH
          have hlt12 := drop_ge hd10
          refine AW.seq ?_
          refine AW.region ?_
          refine AO.pure T rfl rfl rfl ?_
          refine AO.nil ?_
          refine AW.seq ?_
          refine AW.condF' (b := decide ((k7 : Int) < (x5.length : Int))) rfl (rngF hlt12) ?_
          refine AW.exit ?_
          refine AW.seq ?_
          refine AW.region ?_
          refine AO.pure T rfl rfl rfl ?_
          refine AO.pure T rfl rfl rfl ?_
          refine AO.pure T rfl rfl rfl ?_
          refine AO.nil ?_
          refine AW.ret ?_
          cases someE hH
          exact ⟨trivial, _, [16], rfl, .t (expLG_cons (.c (.rowR rfl)) (expLG_cons (.c .v) (expLG_nil))), by decide⟩
        | cons y8 ys9 =>
          rw [hd10] at hH
          rw [spec_soGroups_l1] at hH
          have hlt12 := drop_lt hd10
          refine AW.seq ?_
          refine AW.region ?_
          refine AO.pure T rfl rfl rfl ?_
          refine AO.nil ?_
          refine AW.seq ?_
          refine AW.condT' (b := decide ((k7 : Int) < (x5.length : Int))) rfl (rngT hlt12) ?_
          refine AW.skip ?_
          obtain ⟨o128, hH, hK129⟩ := bindE hH
          refine AW.seqJ (fun s : (List Entrant) × (List (List Int)) => (⟨[(7, .s (List.map encEntrant s.1)), (8, .R 26), (30, .R 2), (31, .v (.int .i64 (x5.length : Int))), (32, .v (.int .i64 (k7 : Int)))], [(2, .row 1 (List.map encInt x5)), (26, .row 1 (List.map encLInt s.2))], 58, []⟩ : St)) (fun s => s = o128) ?_ ?_
          · refine AW.block ?_
            refine AW.seq ?_
            refine AW.region ?_
            refine AO.val rfl rfl (ix_row_ok T rfl rfl rfl rfl rfl rfl (getI_drop hd10)) ?_
            refine AO.val rfl rfl (load_row_ok T rfl rfl rfl rfl (getI_get (getI_drop hd10)) rfl rfl rfl) ?_
            refine AO.pure T rfl rfl rfl ?_
            refine AO.nil ?_
            refine AW.seq ?_
            refine AW.region ?_
            refine AO.pure T rfl rfl rfl ?_
            refine AO.nil ?_
            refine AW.seq ?_
            refine AW.seq ?_
            obtain ⟨x130, hx131, hH⟩ := bindE hH
            refine AW.region ?_
            refine AO.pure T rfl rfl rfl ?_
            refine AO.pure T rfl rfl rfl ?_
            refine AO.val rfl rfl (slice_hi_map_ok T rfl rfl rfl rfl rfl (hx131) (fun _ => rfl)) ?_
            refine AO.val rfl rfl (len_map_ok T rfl rfl rfl) ?_
            refine AO.pure T rfl rfl rfl ?_
            refine AO.nil ?_
            refine AW.block ?_
            refine AW.loopS (fun s : Nat × (List Int) => (⟨[(7, .s (List.map encEntrant v103)), (8, .R 16), (10, .v (.int .i64 y8)), (11, .s (List.map encInt s.2)), (30, .R 2), (31, .v (.int .i64 (x5.length : Int))), (32, .v (.int .i64 (k7 : Int))), (38, .s (List.map encEntrant x130)), (39, .v (.int .i64 (x130.length : Int))), (40, .v (.int .i64 (s.1 : Int)))], [(2, .row 1 (List.map encInt x5)), (16, .row 1 (List.map encLInt v104))], 58, []⟩ : St)) (fun s => s.1 ≤ x130.length ∧ spec_soGroups_l2 fuel y8 v103 v104 (x130.drop s.1) s.1 s.2 = some o128) (fun s => x130.length - s.1) (0, []) ⟨Nat.zero_le _, hH⟩ ?_ ?_
            · refine Le.trans (Le.nilS 11 rfl) ?_
              exact Le.cut 0 0 rfl (by repeat' (first | exact trivial | refine ⟨⟨_, rfl, rfl⟩, ?_⟩)) (by repeat' (first | exact trivial | refine ⟨⟨_, rfl, rfl⟩, ?_⟩)) rfl
            · rintro ⟨k132, v143⟩ ⟨hk, hH⟩
              replace hH : spec_soGroups_l2 fuel y8 v103 v104 (x130.drop k132) k132 v143 = some o128 := hH
              show AW _ _ _ (⟨[(7, .s (List.map encEntrant v103)), (8, .R 16), (10, .v (.int .i64 y8)), (11, .s (List.map encInt v143)), (30, .R 2), (31, .v (.int .i64 (x5.length : Int))), (32, .v (.int .i64 (k7 : Int))), (38, .s (List.map encEntrant x130)), (39, .v (.int .i64 (x130.length : Int))), (40, .v (.int .i64 (k132 : Int)))], [(2, .row 1 (List.map encInt x5)), (16, .row 1 (List.map encLInt v104))], 58, []⟩ : St)
              refine AW.boundM (t := 38) (l := x130) rfl (fun hb136 => ?_)
              cases hd135 : x130.drop k132 with
              | nil =>
                rw [hd135] at hH
                rw [spec_soGroups_l2] at hH
                have hlt137 := drop_ge hd135
                refine AW.seq ?_
                refine AW.region ?_
                refine AO.pure T rfl rfl rfl ?_
                refine AO.nil ?_
                refine AW.seq ?_
                refine AW.condF' (b := decide ((k132 : Int) < (x130.length : Int))) rfl (rngF hlt137) ?_
                refine AW.exit ?_
                refine AW.seq ?_
                obtain ⟨u145, hx146, hH⟩ := bindE hH
                refine AW.region ?_
                refine AO.pure T rfl rfl rfl ?_
                refine AO.pure T rfl rfl rfl ?_
                refine AO.step rfl (mk_map_ok T rfl 30 rfl rfl rfl rfl rfl (f := encLInt) (l := [v143]) rfl rfl (fun _ => rfl) rfl rfl rfl rfl rfl) ?_
                refine AO.step rfl (app_rv_map T rfl 31 rfl rfl rfl rfl rfl (by decide) rfl rfl rfl rfl (fun _ => rfl) (needT (hx146)) rfl rfl) ?_
                refine AO.pure T rfl rfl rfl ?_
                refine AO.nil ?_
                obtain ⟨x147, hx148, hH⟩ := bindE hH
                refine AW.region ?_
                refine AO.pure T rfl rfl rfl ?_
                refine AO.pure T rfl rfl rfl ?_
                refine AO.val rfl rfl (slice_lo_map_ok T rfl rfl rfl rfl rfl (hx148) (fun _ => rfl)) ?_
                refine AO.pure T rfl rfl rfl ?_
                refine AO.nil ?_
                refine ⟨_, someE hH, ?_⟩
                exact Le.cut 31 26 rfl (by repeat' (first | exact trivial | refine ⟨⟨_, rfl, rfl⟩, ?_⟩)) (by repeat' (first | exact trivial | refine ⟨⟨_, rfl, rfl⟩, ?_⟩)) rfl
              | cons y133 ys134 =>
                rw [hd135] at hH
                rw [spec_soGroups_l2] at hH
                have hlt137 := drop_lt hd135
                refine AW.seq ?_
                refine AW.region ?_
                refine AO.pure T rfl rfl rfl ?_
                refine AO.nil ?_
                refine AW.seq ?_
                refine AW.condT' (b := decide ((k132 : Int) < (x130.length : Int))) rfl (rngT hlt137) ?_
                refine AW.skip ?_
                refine AW.seq ?_
                refine AW.block ?_
                refine AW.seq ?_
                refine AW.region ?_
                refine AO.val rfl rfl (ix_map_ok T rfl rfl rfl rfl rfl (getI_drop hd135) rfl) ?_
                refine AO.pure T (d := .g [.v (.int .i64 y133.skater), .v (.int .i64 y133.rank)]) rfl rfl rfl ?_
                refine AO.step rfl (alloc_ok T rfl 32 rfl rfl rfl rfl rfl) ?_
                refine AO.step rfl (store_okE T rfl rfl rfl rfl rfl rfl rfl rfl rfl (ds' := [.v (.int .i64 y133.skater), .v (.int .i64 y133.rank)]) rfl) ?_
                refine AO.nil ?_
                obtain ⟨x149, hx150, hH⟩ := bindE hH
                refine AW.region ?_
                refine AO.pure T rfl rfl rfl ?_
                refine AO.pure T rfl rfl rfl ?_
                refine AO.pure T rfl rfl rfl ?_
                refine AO.val rfl rfl (callV_ok rfl rfl rfl rfl (spec_l1Put_ok fuel _ _ _ (hx150)) rfl) ?_
                refine AO.pure T rfl rfl rfl ?_
                refine AO.nil ?_
                refine AW.region ?_
                refine AO.val rfl rfl (ar_ok rfl rfl rfl rfl (inI_succ hlt137 hb136)) ?_
                refine AO.pure T rfl rfl rfl ?_
                refine AO.nil ?_
                refine ⟨(k132 + 1, x149), ⟨Nat.succ_le_of_lt hlt137, (by rw [drop_succ_of hd135]; exact hH)⟩, (by have := hlt137; dsimp only; omega), ?_⟩
                exact Le.cut 0 0 rfl (by repeat' (first | exact trivial | refine ⟨⟨_, rfl, rfl⟩, ?_⟩)) (by repeat' (first | exact trivial | refine ⟨⟨_, rfl, rfl⟩, ?_⟩)) rfl
          · rintro ⟨v126, v127⟩ hs
            subst hs
            replace hH := hK129
            try dsimp only [flow, flowE] at hH
            show AW _ _ _ (⟨[(7, .s (List.map encEntrant v126)), (8, .R 26), (30, .R 2), (31, .v (.int .i64 (x5.length : Int))), (32, .v (.int .i64 (k7 : Int)))], [(2, .row 1 (List.map encInt x5)), (26, .row 1 (List.map encLInt v127))], 58, []⟩ : St)
            refine AW.region ?_
            refine AO.val rfl rfl (ar_ok rfl rfl rfl rfl (inI_succ hlt12 hb11)) ?_
            refine AO.pure T rfl rfl rfl ?_
            refine AO.nil ?_
            refine ⟨(k7 + 1, v126, v127), ⟨Nat.succ_le_of_lt hlt12, (by rw [drop_succ_of hd10]; exact hH)⟩, (by have := hlt12; dsimp only; omega), ?_⟩
            exact Le.cut 26 16 rfl (by repeat' (first | exact trivial | refine ⟨⟨_, rfl, rfl⟩, ?_⟩)) (by repeat' (first | exact trivial | refine ⟨⟨_, rfl, rfl⟩, ?_⟩)) rfl

def spec_dwMix_l1 (x1 : (List Int)) : Nat → Int → Int → Option Int
  | 0, _, _ => none
  | k5 + 1, v20, v21 =>
    cond (decide (v21 < (((x1 ++ [4, 1])).length : Int)))
      ((getI (x1 ++ [4, 1]) v21).bind fun x23 =>
      (need (1000003 != 0)).bind fun u25 =>
      (need (16 != 0)).bind fun u27 =>
      spec_dwMix_l1 x1 k5 ((w64 (((w64 ((w64 ((w64 (29 * v20)) + x23)) + 13)).tmod 1000003) * (w64 ((w64 (((w64 ((w64 ((w64 (29 * v20)) + x23)) + 13)).tmod 1000003).tdiv 16)) + 5)))).tmod 1000003) (w64 (v21 + 1)))
      (some v20)
def spec_dwMix_p (fuel : Nat) (keys : List Int) : Option Int :=
  (spec_l1Own_p keys).bind fun x1 =>
  (need (fitsB 8 (x1.length + ([4, 1]).length))).bind fun u3 =>
  spec_dwMix_l1 x1 fuel (w64 (5231 + (keys.length : Int))) 0
theorem spec_dwMix_ok (fuel : Nat) (keys : List Int) (r : Int) (hH : spec_dwMix_p fuel keys = some r) : SpecR Tryz.prog 162 [.s (List.map encInt keys)] (.v (.int .i64 r)) := by
  refine fn_ok T Tryz.func162 rfl (by decide) rfl ?_
  refine AW.seq ?_
  refine AW.region ?_
  refine AO.pure T rfl rfl rfl ?_
  refine AO.nil ?_
  refine AW.seq ?_
  refine AW.region ?_
  refine AO.pure T rfl rfl rfl ?_
  refine AO.val rfl rfl (len_map_ok T rfl rfl rfl) ?_
  refine AO.val rfl rfl (arw_ok rfl rfl rfl rfl) ?_
  refine AO.pure T rfl rfl rfl ?_
  refine AO.nil ?_
  refine AW.seq ?_
  refine AW.seq ?_
  obtain ⟨x1, hx2, hH⟩ := bindE hH
  obtain ⟨u3, hx4, hH⟩ := bindE hH
  refine AW.region ?_
  refine AO.pure T rfl rfl rfl ?_
  refine AO.step rfl (call_ok rfl 1 rfl rfl rfl (spec_l1Own_ok _ _ (hx2)) rfl rfl rfl) ?_
  refine AO.step rfl (mk_map_ok T rfl 2 rfl rfl rfl rfl rfl (f := encInt) (l := [4, 1]) rfl rfl (fun _ => rfl) rfl rfl rfl rfl rfl) ?_
  refine AO.step rfl (app_rv_map T rfl 3 rfl rfl rfl rfl rfl (by decide) rfl rfl rfl rfl (fun _ => rfl) (needT (hx4)) rfl rfl) ?_
  refine AO.val rfl rfl (len_row_ok T rfl rfl rfl rfl) ?_
  refine AO.pure T rfl rfl rfl ?_
  refine AO.nil ?_
  refine AW.block ?_
  refine AW.loopS (fun s : Nat × Int × Int => (⟨[(3, .v (.int .i64 s.2.1)), (12, .R 3), (13, .v (.int .i64 (((x1 ++ [4, 1])).length : Int))), (14, .v (.int .i64 s.2.2))], [(3, .row 1 (List.map encInt (x1 ++ [4, 1])))], 32, []⟩ : St)) (fun s => spec_dwMix_l1 x1 s.1 s.2.1 s.2.2 = some r) (fun s => s.1) (fuel, w64 (5231 + (keys.length : Int)), 0) hH ?_ ?_
  · exact Le.cut 0 0 rfl (by repeat' (first | exact trivial | refine ⟨⟨_, rfl, rfl⟩, ?_⟩)) (by repeat' (first | exact trivial | refine ⟨⟨_, rfl, rfl⟩, ?_⟩)) rfl
  · rintro ⟨k5, v20, v21⟩ hH
    replace hH : spec_dwMix_l1 x1 k5 v20 v21 = some r := hH
    show AW _ _ _ (⟨[(3, .v (.int .i64 v20)), (12, .R 3), (13, .v (.int .i64 (((x1 ++ [4, 1])).length : Int))), (14, .v (.int .i64 v21))], [(3, .row 1 (List.map encInt (x1 ++ [4, 1])))], 32, []⟩ : St)
    cases k5 with
    | zero => cases (show none = some _ from hH)
    | succ k5 =>
      rw [spec_dwMix_l1] at hH
      refine AW.seq ?_
      refine AW.region ?_
      refine AO.pure T rfl rfl rfl ?_
      refine AO.nil ?_
      refine AW.seq ?_
      refine AW.cond (b := decide (v21 < (((x1 ++ [4, 1])).length : Int))) rfl (fun hc => ?_) (fun hc => ?_)
      · replace hH := condT hc hH
        refine AW.skip ?_
        refine AW.seq ?_
        refine AW.block ?_
        refine AW.seq ?_
        obtain ⟨x23, hx24, hH⟩ := bindE hH
        refine AW.region ?_
        refine AO.val rfl rfl (ix_row_ok T rfl rfl rfl rfl rfl rfl (hx24)) ?_
        refine AO.val rfl rfl (load_row_ok T rfl rfl rfl rfl (getI_get (hx24)) rfl rfl rfl) ?_
        refine AO.pure T rfl rfl rfl ?_
        refine AO.nil ?_
        refine AW.seq ?_
        obtain ⟨u25, hx26, hH⟩ := bindE hH
        refine AW.region ?_
        refine AO.pure T rfl rfl rfl ?_
        refine AO.val rfl rfl (arw_ok rfl rfl rfl rfl) ?_
        refine AO.pure T rfl rfl rfl ?_
        refine AO.val rfl rfl (arw_ok rfl rfl rfl rfl) ?_
        refine AO.val rfl rfl (arw_ok rfl rfl rfl rfl) ?_
        refine AO.val rfl rfl (rem_ok rfl rfl rfl (neZ (needT (hx26)))) ?_
        refine AO.pure T rfl rfl rfl ?_
        refine AO.nil ?_
        obtain ⟨u27, hx28, hH⟩ := bindE hH
        refine AW.region ?_
        refine AO.pure T rfl rfl rfl ?_
        refine AO.pure T rfl rfl rfl ?_
        refine AO.val rfl rfl (quow_ok rfl rfl rfl (neZ (needT (hx28)))) ?_
        refine AO.val rfl rfl (arw_ok rfl rfl rfl rfl) ?_
        refine AO.val rfl rfl (arw_ok rfl rfl rfl rfl) ?_
        refine AO.val rfl rfl (rem_ok rfl rfl rfl (neZ (needT (hx26)))) ?_
        refine AO.pure T rfl rfl rfl ?_
        refine AO.nil ?_
        refine AW.region ?_
        refine AO.val rfl rfl (arw_ok rfl rfl rfl rfl) ?_
        refine AO.pure T rfl rfl rfl ?_
        refine AO.nil ?_
        refine ⟨(k5, ((w64 (((w64 ((w64 ((w64 (29 * v20)) + x23)) + 13)).tmod 1000003) * (w64 ((w64 (((w64 ((w64 ((w64 (29 * v20)) + x23)) + 13)).tmod 1000003).tdiv 16)) + 5)))).tmod 1000003), w64 (v21 + 1)), hH, Nat.lt_succ_self _, ?_⟩
        exact Le.cut 0 0 rfl (by repeat' (first | exact trivial | refine ⟨⟨_, rfl, rfl⟩, ?_⟩)) (by repeat' (first | exact trivial | refine ⟨⟨_, rfl, rfl⟩, ?_⟩)) rfl
      · replace hH := condF hc hH
        refine AW.exit ?_
        refine AW.seq ?_
        refine AW.region ?_
        refine AO.pure T rfl rfl rfl ?_
        refine AO.pure T rfl rfl rfl ?_
        refine AO.nil ?_
        refine AW.ret ?_
        cases someE hH
        exact ⟨trivial, _, [], rfl, .c (.c .v), by decide⟩

def spec_dwBelow_p (fuel : Nat) (keys : List Int) (n : Int) : Option Int :=
  (spec_l1Own_p keys).bind fun x1 =>
  (need (fitsB 8 (x1.length + ([n]).length))).bind fun u3 =>
  (spec_dwMix_p fuel (x1 ++ [n])).bind fun x5 =>
  (need (n != 0)).bind fun u7 =>
  some (x5.tmod n)
theorem spec_dwBelow_ok (fuel : Nat) (keys : List Int) (n : Int) (r : Int) (hH : spec_dwBelow_p fuel keys n = some r) : SpecR Tryz.prog 161 [.s (List.map encInt keys), .v (.int .i64 n)] (.v (.int .i64 r)) := by
  refine fn_ok T Tryz.func161 rfl (by decide) rfl ?_
  refine AW.seq ?_
  refine AW.region ?_
  refine AO.pure T rfl rfl rfl ?_
  refine AO.nil ?_
  refine AW.seq ?_
  obtain ⟨x1, hx2, hH⟩ := bindE hH
  obtain ⟨u3, hx4, hH⟩ := bindE hH
  obtain ⟨x5, hx6, hH⟩ := bindE hH
  obtain ⟨u7, hx8, hH⟩ := bindE hH
  refine AW.region ?_
  refine AO.pure T rfl rfl rfl ?_
  refine AO.step rfl (call_ok rfl 1 rfl rfl rfl (spec_l1Own_ok _ _ (hx2)) rfl rfl rfl) ?_
  refine AO.pure T rfl rfl rfl ?_
  refine AO.step rfl (mk_map_ok T rfl 2 rfl rfl rfl rfl rfl (f := encInt) (l := [n]) rfl rfl (fun _ => rfl) rfl rfl rfl rfl rfl) ?_
  refine AO.step rfl (app_rv_map T rfl 3 rfl rfl rfl rfl rfl (by decide) rfl rfl rfl rfl (fun _ => rfl) (needT (hx4)) rfl rfl) ?_
  refine AO.val rfl rfl (callLV_ok rfl rfl rfl (es := [.s (List.map encInt (x1 ++ [n]))]) ⟨(.rowR rfl (.map fun y => .vs rfl)), trivial⟩ (spec_dwMix_ok fuel _ _ (hx6)) (zfree_v _) rfl) ?_
  refine AO.pure T rfl rfl rfl ?_
  refine AO.val rfl rfl (rem_ok rfl rfl rfl (neZ (needT (hx8)))) ?_
  refine AO.pure T rfl rfl rfl ?_
  refine AO.nil ?_
  refine AW.ret ?_
  cases someE hH
  exact ⟨trivial, _, [], rfl, .c (.c .v), by decide⟩

def spec_dwShuffle_l2 (keys : List Int) (fuel : Nat) : Nat → List Int → Int → Option ((List Int))
  | 0, _, _ => none
  | k13 + 1, v40, v41 =>
    cond (decide (v41 ≥ 1))
      ((spec_l1Own_p keys).bind fun x43 =>
      (need (fitsB 8 (x43.length + ([v41]).length))).bind fun u45 =>
      (spec_dwBelow_p fuel (x43 ++ [v41]) (w64 (v41 + 1))).bind fun x47 =>
      (getI v40 v41).bind fun x49 =>
      (getI v40 x47).bind fun x51 =>
      (getI (v40.set v41.toNat x51) x47).bind fun x53 =>
      spec_dwShuffle_l2 keys fuel k13 ((v40.set v41.toNat x51).set x47.toNat x49) (w64 (v41 - 1)))
      (some v40)
def spec_dwShuffle_l1 (keys : List Int) (n : Int) (fuel : Nat) : Nat → List Int → Int → Option ((List Int))
  | 0, _, _ => none
  | k1 + 1, v8, v9 =>
    cond (decide (v9 < n))
      ((need (fitsB 8 (v8.length + ([v9]).length))).bind fun u11 =>
      spec_dwShuffle_l1 keys n fuel k1 (v8 ++ [v9]) (w64 (v9 + 1)))
      (spec_dwShuffle_l2 keys fuel fuel v8 (w64 (n - 1)))
def spec_dwShuffle_p (fuel : Nat) (keys : List Int) (n : Int) : Option (List Int) :=
  spec_dwShuffle_l1 keys n fuel fuel [] 0
theorem spec_dwShuffle_ok (fuel : Nat) (keys : List Int) (n : Int) (r : (List Int)) (hH : spec_dwShuffle_p fuel keys n = some r) : SpecR Tryz.prog 158 [.s (List.map encInt keys), .v (.int .i64 n)] (.w 1 (r.map encInt)) := by
  refine fn_ok T Tryz.func158 rfl (by decide) rfl ?_
  refine AW.seq ?_
  refine AW.region ?_
  refine AO.pure T rfl rfl rfl ?_
  refine AO.nil ?_
  refine AW.seq ?_
  refine AW.region ?_
  refine AO.pure T rfl rfl rfl ?_
  refine AO.nil ?_
  refine AW.seq ?_
  refine AW.seq ?_
  refine AW.region ?_
  refine AO.pure T rfl rfl rfl ?_
  refine AO.nil ?_
  refine AW.block ?_
  refine AW.loopS (fun s : Nat × (List Int) × Int => (⟨[(0, .s (List.map encInt keys)), (1, .v (.int .i64 n)), (5, .R 4), (6, .v (.int .i64 s.2.2))], [(4, .row 1 (List.map encInt s.2.1))], 49, []⟩ : St)) (fun s => spec_dwShuffle_l1 keys n fuel s.1 s.2.1 s.2.2 = some r) (fun s => s.1) (fuel, [], 0) hH ?_ ?_
  · refine Le.trans (Le.void 5 4 1 rfl rfl) ?_
    exact Le.cut 0 0 rfl (by repeat' (first | exact trivial | refine ⟨⟨_, rfl, rfl⟩, ?_⟩)) (by repeat' (first | exact trivial | refine ⟨⟨_, rfl, rfl⟩, ?_⟩)) rfl
  · rintro ⟨k1, v8, v9⟩ hH
    replace hH : spec_dwShuffle_l1 keys n fuel k1 v8 v9 = some r := hH
    show AW _ _ _ (⟨[(0, .s (List.map encInt keys)), (1, .v (.int .i64 n)), (5, .R 4), (6, .v (.int .i64 v9))], [(4, .row 1 (List.map encInt v8))], 49, []⟩ : St)
    cases k1 with
    | zero => cases (show none = some _ from hH)
    | succ k1 =>
      rw [spec_dwShuffle_l1] at hH
      refine AW.seq ?_
      refine AW.seq ?_
      refine AW.region ?_
      refine AO.pure T rfl rfl rfl ?_
      refine AO.pure T rfl rfl rfl ?_
      refine AO.pure T rfl rfl rfl ?_
      refine AO.nil ?_
      refine AW.cond (b := decide (v9 < n)) rfl (fun hc => ?_) (fun hc => ?_)
      · replace hH := condT hc hH
        refine AW.skip ?_
        refine AW.seq ?_
        refine AW.block ?_
        obtain ⟨u11, hx12, hH⟩ := bindE hH
        refine AW.region ?_
        refine AO.pure T rfl rfl rfl ?_
        refine AO.pure T rfl rfl rfl ?_
        refine AO.step rfl (mk_map_ok T rfl 5 rfl rfl rfl rfl rfl (f := encInt) (l := [v9]) rfl rfl (fun _ => rfl) rfl rfl rfl rfl rfl) ?_
        refine AO.step rfl (app_rv_map T rfl 6 rfl rfl rfl rfl rfl (by decide) rfl rfl rfl rfl (fun _ => rfl) (needT (hx12)) rfl rfl) ?_
        refine AO.pure T rfl rfl rfl ?_
        refine AO.nil ?_
        refine AW.region ?_
        refine AO.pure T rfl rfl rfl ?_
        refine AO.val rfl rfl (arw_ok rfl rfl rfl rfl) ?_
        refine AO.pure T rfl rfl rfl ?_
        refine AO.nil ?_
        refine ⟨(k1, (v8 ++ [v9]), w64 (v9 + 1)), hH, Nat.lt_succ_self _, ?_⟩
        exact Le.cut 6 4 rfl (by repeat' (first | exact trivial | refine ⟨⟨_, rfl, rfl⟩, ?_⟩)) (by repeat' (first | exact trivial | refine ⟨⟨_, rfl, rfl⟩, ?_⟩)) rfl
      · replace hH := condF hc hH
        refine AW.exit ?_
        refine AW.seq ?_
        refine AW.seq ?_
        refine AW.region ?_
        refine AO.pure T rfl rfl rfl ?_
        refine AO.val rfl rfl (arw_ok rfl rfl rfl rfl) ?_
        refine AO.pure T rfl rfl rfl ?_
        refine AO.nil ?_
        refine AW.block ?_
        refine AW.loopS (fun s : Nat × (List Int) × Int => (⟨[(0, .s (List.map encInt keys)), (5, .R 4), (7, .v (.int .i64 s.2.2))], [(4, .row 1 (List.map encInt s.2.1))], 49, []⟩ : St)) (fun s => spec_dwShuffle_l2 keys fuel s.1 s.2.1 s.2.2 = some r) (fun s => s.1) (fuel, v8, w64 (n - 1)) hH ?_ ?_
        · exact Le.cut 0 0 rfl (by repeat' (first | exact trivial | refine ⟨⟨_, rfl, rfl⟩, ?_⟩)) (by repeat' (first | exact trivial | refine ⟨⟨_, rfl, rfl⟩, ?_⟩)) rfl
        · rintro ⟨k13, v40, v41⟩ hH
          replace hH : spec_dwShuffle_l2 keys fuel k13 v40 v41 = some r := hH
          show AW _ _ _ (⟨[(0, .s (List.map encInt keys)), (5, .R 4), (7, .v (.int .i64 v41))], [(4, .row 1 (List.map encInt v40))], 49, []⟩ : St)
          cases k13 with
          | zero => cases (show none = some _ from hH)
          | succ k13 =>
            rw [spec_dwShuffle_l2] at hH
            refine AW.seq ?_
            refine AW.seq ?_
            refine AW.region ?_
            refine AO.pure T rfl rfl rfl ?_
            refine AO.pure T rfl rfl rfl ?_
            refine AO.nil ?_
            refine AW.cond (b := decide (v41 ≥ 1)) rfl (fun hc => ?_) (fun hc => ?_)
            · replace hH := condT hc hH
              refine AW.skip ?_
              refine AW.seq ?_
              refine AW.block ?_
              refine AW.seq ?_
              obtain ⟨x43, hx44, hH⟩ := bindE hH
              obtain ⟨u45, hx46, hH⟩ := bindE hH
              obtain ⟨x47, hx48, hH⟩ := bindE hH
              refine AW.region ?_
              refine AO.pure T rfl rfl rfl ?_
              refine AO.step rfl (call_ok rfl 13 rfl rfl rfl (spec_l1Own_ok _ _ (hx44)) rfl rfl rfl) ?_
              refine AO.pure T rfl rfl rfl ?_
              refine AO.step rfl (mk_map_ok T rfl 14 rfl rfl rfl rfl rfl (f := encInt) (l := [v41]) rfl rfl (fun _ => rfl) rfl rfl rfl rfl rfl) ?_
              refine AO.step rfl (app_rv_map T rfl 15 rfl rfl rfl rfl rfl (by decide) rfl rfl rfl rfl (fun _ => rfl) (needT (hx46)) rfl rfl) ?_
              refine AO.pure T rfl rfl rfl ?_
              refine AO.val rfl rfl (arw_ok rfl rfl rfl rfl) ?_
              refine AO.val rfl rfl (callLV_ok rfl rfl rfl (es := [.s (List.map encInt (x43 ++ [v41])), .v (.int .i64 (w64 (v41 + 1)))]) ⟨(.rowR rfl (.map fun y => .vs rfl)), .free rfl, trivial⟩ (spec_dwBelow_ok fuel _ _ _ (hx48)) (zfree_v _) rfl) ?_
              refine AO.pure T rfl rfl rfl ?_
              refine AO.nil ?_
              refine AW.seq ?_
              obtain ⟨x49, hx50, hH⟩ := bindE hH
              refine AW.region ?_
              refine AO.pure T rfl rfl rfl ?_
              refine AO.pure T rfl rfl rfl ?_
              refine AO.val rfl rfl (ix_row_ok T rfl rfl rfl rfl rfl rfl (hx50)) ?_
              refine AO.val rfl rfl (load_row_ok T rfl rfl rfl rfl (getI_get (hx50)) rfl rfl rfl) ?_
              refine AO.pure T rfl rfl rfl ?_
              refine AO.nil ?_
              refine AW.seq ?_
              obtain ⟨x51, hx52, hH⟩ := bindE hH
              refine AW.region ?_
              refine AO.pure T rfl rfl rfl ?_
              refine AO.pure T rfl rfl rfl ?_
              refine AO.pure T rfl rfl rfl ?_
              refine AO.pure T rfl rfl rfl ?_
              refine AO.val rfl rfl (ix_row_ok T rfl rfl rfl rfl rfl rfl (hx52)) ?_
              refine AO.val rfl rfl (load_row_ok T rfl rfl rfl rfl (getI_get (hx52)) rfl rfl rfl) ?_
              refine AO.val rfl rfl (ix_row_ok T rfl rfl rfl rfl rfl rfl (hx50)) ?_
              refine AO.step rfl (store_row_ok T rfl rfl rfl rfl rfl (getI_get (hx50)) rfl rfl rfl rfl (u' := x51) rfl rfl) ?_
              refine AO.nil ?_
              refine AW.le (Le.cut 0 0 (σ' := (⟨[(0, .s (List.map encInt keys)), (5, .R 4), (7, .v (.int .i64 v41)), (8, .v (.int .i64 x47)), (9, .v (.int .i64 x49))], [(4, .row 1 (List.map encInt (v40.set v41.toNat x51)))], 49, []⟩ : St)) rfl (by repeat' (first | exact trivial | refine ⟨⟨_, rfl, rfl⟩, ?_⟩)) (by repeat' (first | exact trivial | refine ⟨⟨_, rfl, rfl⟩, ?_⟩)) rfl) ?_
              obtain ⟨x53, hx54, hH⟩ := bindE hH
              refine AW.region ?_
              refine AO.pure T rfl rfl rfl ?_
              refine AO.pure T rfl rfl rfl ?_
              refine AO.pure T rfl rfl rfl ?_
              refine AO.val rfl rfl (ix_row_ok T rfl rfl rfl rfl rfl rfl (hx54)) ?_
              refine AO.step rfl (store_row_ok T rfl rfl rfl rfl rfl (getI_get (hx54)) rfl rfl rfl rfl (u' := x49) rfl rfl) ?_
              refine AO.nil ?_
              refine AW.region ?_
              refine AO.pure T rfl rfl rfl ?_
              refine AO.val rfl rfl (arw_ok rfl rfl rfl rfl) ?_
              refine AO.pure T rfl rfl rfl ?_
              refine AO.nil ?_
              refine ⟨(k13, ((v40.set v41.toNat x51).set x47.toNat x49), w64 (v41 - 1)), hH, Nat.lt_succ_self _, ?_⟩
              exact Le.cut 0 0 rfl (by repeat' (first | exact trivial | refine ⟨⟨_, rfl, rfl⟩, ?_⟩)) (by repeat' (first | exact trivial | refine ⟨⟨_, rfl, rfl⟩, ?_⟩)) rfl
            · replace hH := condF hc hH
              refine AW.exit ?_
              refine AW.seq ?_
              refine AW.region ?_
              refine AO.pure T rfl rfl rfl ?_
              refine AO.pure T rfl rfl rfl ?_
              refine AO.nil ?_
              refine AW.ret ?_
              cases someE hH
              exact ⟨trivial, _, [4], rfl, .c (.c (.rowR rfl)), by decide⟩

def spec_dwNumbers_l1 (l : List Int) : List Int → Nat → List Int → Option ((List Int))
  | [], k3, v18 =>
    some v18
  | y4 :: ys5, k3, v18 =>
    (getI l y4).bind fun x20 =>
    (need (fitsB 8 (v18.length + ([x20]).length))).bind fun u22 =>
    spec_dwNumbers_l1 l ys5 (k3 + 1) (v18 ++ [x20])
def spec_dwNumbers_p (fuel : Nat) (keys : List Int) (l : List Int) : Option (List Int) :=
  (spec_dwShuffle_p fuel keys (l.length : Int)).bind fun x1 =>
  spec_dwNumbers_l1 l x1 0 []
theorem spec_dwNumbers_ok (fuel : Nat) (keys : List Int) (l : List Int) (r : (List Int)) (hH : spec_dwNumbers_p fuel keys l = some r) : SpecR Tryz.prog 149 [.s (List.map encInt keys), .s (List.map encInt l)] (.w 1 (r.map encInt)) := by
  refine fn_ok T Tryz.func149 rfl (by decide) rfl ?_
  refine AW.seq ?_
  refine AW.region ?_
  refine AO.pure T rfl rfl rfl ?_
  refine AO.nil ?_
  refine AW.seq ?_
  refine AW.region ?_
  refine AO.pure T rfl rfl rfl ?_
  refine AO.nil ?_
  refine AW.seq ?_
  refine AW.seq ?_
  obtain ⟨x1, hx2, hH⟩ := bindE hH
  refine AW.region ?_
  refine AO.pure T rfl rfl rfl ?_
  refine AO.pure T rfl rfl rfl ?_
  refine AO.val rfl rfl (len_map_ok T rfl rfl rfl) ?_
  refine AO.step rfl (call_ok rfl 1 rfl rfl rfl (spec_dwShuffle_ok fuel _ _ _ (hx2)) rfl rfl rfl) ?_
  refine AO.val rfl rfl (len_row_ok T rfl rfl rfl rfl) ?_
  refine AO.pure T rfl rfl rfl ?_
  refine AO.nil ?_
  refine AW.block ?_
  refine AW.loopS (fun s : Nat × (List Int) => (⟨[(1, .s (List.map encInt l)), (5, .R 5), (11, .R 1), (12, .v (.int .i64 (x1.length : Int))), (13, .v (.int .i64 (s.1 : Int)))], [(1, .row 1 (List.map encInt x1)), (5, .row 1 (List.map encInt s.2))], 26, []⟩ : St)) (fun s => s.1 ≤ x1.length ∧ spec_dwNumbers_l1 l (x1.drop s.1) s.1 s.2 = some r) (fun s => x1.length - s.1) (0, []) ⟨Nat.zero_le _, hH⟩ ?_ ?_
  · refine Le.trans (Le.void 5 5 1 rfl rfl) ?_
    exact Le.cut 0 0 rfl (by repeat' (first | exact trivial | refine ⟨⟨_, rfl, rfl⟩, ?_⟩)) (by repeat' (first | exact trivial | refine ⟨⟨_, rfl, rfl⟩, ?_⟩)) rfl
  · rintro ⟨k3, v18⟩ ⟨hk, hH⟩
    replace hH : spec_dwNumbers_l1 l (x1.drop k3) k3 v18 = some r := hH
    show AW _ _ _ (⟨[(1, .s (List.map encInt l)), (5, .R 5), (11, .R 1), (12, .v (.int .i64 (x1.length : Int))), (13, .v (.int .i64 (k3 : Int)))], [(1, .row 1 (List.map encInt x1)), (5, .row 1 (List.map encInt v18))], 26, []⟩ : St)
    refine AW.boundR (id := 1) (l := x1) rfl (fun hb7 => ?_)
    cases hd6 : x1.drop k3 with
    | nil =>
      rw [hd6] at hH
      rw [spec_dwNumbers_l1] at hH
      have hlt8 := drop_ge hd6
      refine AW.seq ?_
      refine AW.region ?_
      refine AO.pure T rfl rfl rfl ?_
      refine AO.nil ?_
      refine AW.seq ?_
      refine AW.condF' (b := decide ((k3 : Int) < (x1.length : Int))) rfl (rngF hlt8) ?_
      refine AW.exit ?_
      refine AW.seq ?_
      refine AW.region ?_
      refine AO.pure T rfl rfl rfl ?_
      refine AO.pure T rfl rfl rfl ?_
      refine AO.nil ?_
      refine AW.ret ?_
      cases someE hH
      exact ⟨trivial, _, [5], rfl, .c (.c (.rowR rfl)), by decide⟩
    | cons y4 ys5 =>
      rw [hd6] at hH
      rw [spec_dwNumbers_l1] at hH
      have hlt8 := drop_lt hd6
      refine AW.seq ?_
      refine AW.region ?_
      refine AO.pure T rfl rfl rfl ?_
      refine AO.nil ?_
      refine AW.seq ?_
      refine AW.condT' (b := decide ((k3 : Int) < (x1.length : Int))) rfl (rngT hlt8) ?_
      refine AW.skip ?_
      refine AW.seq ?_
      refine AW.block ?_
      refine AW.seq ?_
      refine AW.region ?_
      refine AO.val rfl rfl (ix_row_ok T rfl rfl rfl rfl rfl rfl (getI_drop hd6)) ?_
      refine AO.val rfl rfl (load_row_ok T rfl rfl rfl rfl (getI_get (getI_drop hd6)) rfl rfl rfl) ?_
      refine AO.pure T rfl rfl rfl ?_
      refine AO.nil ?_
      obtain ⟨x20, hx21, hH⟩ := bindE hH
      obtain ⟨u22, hx23, hH⟩ := bindE hH
      refine AW.region ?_
      refine AO.pure T rfl rfl rfl ?_
      refine AO.pure T rfl rfl rfl ?_
      refine AO.pure T rfl rfl rfl ?_
      refine AO.val rfl rfl (ix_map_ok T rfl rfl rfl rfl rfl (hx21) rfl) ?_
      refine AO.pure T rfl rfl rfl ?_
      refine AO.step rfl (mk_map_ok T rfl 6 rfl rfl rfl rfl rfl (f := encInt) (l := [x20]) rfl rfl (fun _ => rfl) rfl rfl rfl rfl rfl) ?_
      refine AO.step rfl (app_rv_map T rfl 7 rfl rfl rfl rfl rfl (by decide) rfl rfl rfl rfl (fun _ => rfl) (needT (hx23)) rfl rfl) ?_
      refine AO.pure T rfl rfl rfl ?_
      refine AO.nil ?_
      refine AW.region ?_
      refine AO.val rfl rfl (ar_ok rfl rfl rfl rfl (inI_succ hlt8 hb7)) ?_
      refine AO.pure T rfl rfl rfl ?_
      refine AO.nil ?_
      refine ⟨(k3 + 1, (v18 ++ [x20])), ⟨Nat.succ_le_of_lt hlt8, (by rw [drop_succ_of hd6]; exact hH)⟩, (by have := hlt8; dsimp only; omega), ?_⟩
      exact Le.cut 7 5 rfl (by repeat' (first | exact trivial | refine ⟨⟨_, rfl, rfl⟩, ?_⟩)) (by repeat' (first | exact trivial | refine ⟨⟨_, rfl, rfl⟩, ?_⟩)) rfl

def spec_StartOrder_l1 (keys : List Int) (fuel : Nat) (x7 : ((List (List Int)) × Bool)) : List (List Int) → Nat → List Int → Option (((List Int) × Bool))
  | [], k9, v32 =>
    some (v32, x7.2)
  | y10 :: ys11, k9, v32 =>
    (spec_l1Own_p keys).bind fun x34 =>
    (need (fitsB 8 (x34.length + ([(k9 : Int)]).length))).bind fun u36 =>
    (spec_dwNumbers_p fuel (x34 ++ [(k9 : Int)]) y10).bind fun x38 =>
    (need (fitsB 8 (v32.length + x38.length))).bind fun u40 =>
    spec_StartOrder_l1 keys fuel x7 ys11 (k9 + 1) (v32 ++ x38)
def spec_StartOrder_p (fuel : Nat) (keys : List Int) (l : List Entrant) (size : Int) : Option ((List Int) × Bool) :=
  (spec_dwKeys_p keys 4).bind fun x1 =>
  (opt (!(!x1)) default (spec_soEntrants_p l)).bind fun x3 =>
  (opt (!((!x1) || (!x3))) default (spec_soSize_p size)).bind fun x5 =>
  cond (((!x1) || (!x3)) || (!x5))
    (some ([], false))
    ((spec_soGroups_p fuel l size).bind fun x7 =>
    spec_StartOrder_l1 keys fuel x7 x7.1 0 [])
theorem spec_StartOrder_ok (fuel : Nat) (keys : List Int) (l : List Entrant) (size : Int) (r : ((List Int) × Bool)) (hH : spec_StartOrder_p fuel keys l size = some r) : SpecR Tryz.prog 125 [.s (List.map encInt keys), .s (List.map encEntrant l), .v (.int .i64 size)] (.t [.w 1 (r.1.map encInt), .v (.bool r.2)]) := by
  refine fn_ok T Tryz.func125 rfl (by decide) rfl ?_
  refine AW.seq ?_
  refine AW.region ?_
  refine AO.pure T rfl rfl rfl ?_
  refine AO.pure T rfl rfl rfl ?_
  refine AO.nil ?_
  refine AW.seq ?_
  refine AW.seq ?_
  obtain ⟨x1, hx2, hH⟩ := bindE hH
  obtain ⟨x3, hx4, hH⟩ := bindE hH
  obtain ⟨x5, hx6, hH⟩ := bindE hH
  refine AW.region ?_
  refine AO.pure T rfl rfl rfl ?_
  refine AO.val rfl rfl (callV_ok rfl rfl rfl rfl (spec_dwKeys_ok _ _ _ (hx2)) rfl) ?_
  refine AO.pure T rfl rfl rfl ?_
  refine AO.pure T rfl rfl rfl ?_
  refine AO.pureG T [] rfl trivial rfl rfl ?_
  refine AO.guard [17] rfl ⟨fun h => h, trivial⟩ (fun hg => callV_ok rfl rfl rfl rfl (spec_soEntrants_ok _ _ (optT hx4 hg)) rfl) rfl ?_
  refine AO.pureG T [18] rfl ⟨fun h => h, trivial⟩ rfl rfl ?_
  refine AO.val rfl rfl (pick_or rfl rfl rfl rfl) ?_
  refine AO.pure T rfl rfl rfl ?_
  refine AO.pureG T [] rfl trivial rfl rfl ?_
  refine AO.guard [22] rfl ⟨fun h => h, trivial⟩ (fun hg => callV_ok rfl rfl rfl rfl (spec_soSize_ok _ _ (optT hx6 hg)) rfl) rfl ?_
  refine AO.pureG T [23] rfl ⟨fun h => h, trivial⟩ rfl rfl ?_
  refine AO.val rfl rfl (pick_or rfl rfl rfl rfl) ?_
  refine AO.nil ?_
  refine AW.cond (b := (((!x1) || (!x3)) || (!x5))) rfl (fun hc => ?_) (fun hc => ?_)
  · replace hH := condT hc hH
    refine AW.seq ?_
    refine AW.region ?_
    refine AO.pure T rfl rfl rfl ?_
    refine AO.pure T rfl rfl rfl ?_
    refine AO.nil ?_
    refine AW.ret ?_
    cases someE hH
    exact ⟨trivial, _, [], rfl, .t (expLG_cons (.c .nil) (expLG_cons (.c .v) (expLG_nil))), by decide⟩
  · replace hH := condF hc hH
    refine AW.skip ?_
    refine AW.seq ?_
    obtain ⟨x7, hx8, hH⟩ := bindE hH
    refine AW.region ?_
    refine AO.pure T rfl rfl rfl ?_
    refine AO.pure T rfl rfl rfl ?_
    refine AO.step rfl (call_ok rfl 1 rfl rfl rfl (spec_soGroups_ok fuel _ _ _ (hx8)) rfl rfl rfl) ?_
    refine AO.pure T rfl rfl rfl ?_
    refine AO.pure T rfl rfl rfl ?_
    refine AO.pure T rfl rfl rfl ?_
    refine AO.pure T rfl rfl rfl ?_
    refine AO.pure T rfl rfl rfl ?_
    refine AO.nil ?_
    refine AW.seq ?_
    refine AW.region ?_
    refine AO.pure T rfl rfl rfl ?_
    refine AO.nil ?_
    refine AW.le (Le.cut 0 0 (σ' := (⟨[(0, .s (List.map encInt keys)), (8, .R 1), (9, .v (.bool x7.2)), (10, .w 0 [])], [(1, .row 1 (List.map encLInt x7.1))], 51, []⟩ : St)) rfl (by repeat' (first | exact trivial | refine ⟨⟨_, rfl, rfl⟩, ?_⟩)) (by repeat' (first | exact trivial | refine ⟨⟨_, rfl, rfl⟩, ?_⟩)) rfl) ?_
    refine AW.seq ?_
    refine AW.seq ?_
    refine AW.region ?_
    refine AO.pure T rfl rfl rfl ?_
    refine AO.val rfl rfl (len_row_ok T rfl rfl rfl rfl) ?_
    refine AO.pure T rfl rfl rfl ?_
    refine AO.nil ?_
    refine AW.block ?_
    refine AW.loopS (fun s : Nat × (List Int) => (⟨[(0, .s (List.map encInt keys)), (9, .v (.bool x7.2)), (10, .R 11), (32, .R 1), (33, .v (.int .i64 (x7.1.length : Int))), (34, .v (.int .i64 (s.1 : Int)))], [(1, .row 1 (List.map encLInt x7.1)), (11, .row 1 (List.map encInt s.2))], 51, []⟩ : St)) (fun s => s.1 ≤ x7.1.length ∧ spec_StartOrder_l1 keys fuel x7 (x7.1.drop s.1) s.1 s.2 = some r) (fun s => x7.1.length - s.1) (0, []) ⟨Nat.zero_le _, hH⟩ ?_ ?_
    · refine Le.trans (Le.void 10 11 1 rfl rfl) ?_
      exact Le.cut 0 0 rfl (by repeat' (first | exact trivial | refine ⟨⟨_, rfl, rfl⟩, ?_⟩)) (by repeat' (first | exact trivial | refine ⟨⟨_, rfl, rfl⟩, ?_⟩)) rfl
    · rintro ⟨k9, v32⟩ ⟨hk, hH⟩
      replace hH : spec_StartOrder_l1 keys fuel x7 (x7.1.drop k9) k9 v32 = some r := hH
      show AW _ _ _ (⟨[(0, .s (List.map encInt keys)), (9, .v (.bool x7.2)), (10, .R 11), (32, .R 1), (33, .v (.int .i64 (x7.1.length : Int))), (34, .v (.int .i64 (k9 : Int)))], [(1, .row 1 (List.map encLInt x7.1)), (11, .row 1 (List.map encInt v32))], 51, []⟩ : St)
      refine AW.boundR (id := 1) (l := x7.1) rfl (fun hb13 => ?_)
      cases hd12 : x7.1.drop k9 with
      | nil =>
        rw [hd12] at hH
        rw [spec_StartOrder_l1] at hH
        have hlt14 := drop_ge hd12
        refine AW.seq ?_
        refine AW.region ?_
        refine AO.pure T rfl rfl rfl ?_
        refine AO.nil ?_
        refine AW.seq ?_
        refine AW.condF' (b := decide ((k9 : Int) < (x7.1.length : Int))) rfl (rngF hlt14) ?_
        refine AW.exit ?_
        refine AW.seq ?_
        refine AW.region ?_
        refine AO.pure T rfl rfl rfl ?_
        refine AO.pure T rfl rfl rfl ?_
        refine AO.pure T rfl rfl rfl ?_
        refine AO.pure T rfl rfl rfl ?_
        refine AO.nil ?_
        refine AW.ret ?_
        cases someE hH
        exact ⟨trivial, _, [11], rfl, .t (expLG_cons (.c (.rowR rfl)) (expLG_cons (.c .v) (expLG_nil))), by decide⟩
      | cons y10 ys11 =>
        rw [hd12] at hH
        rw [spec_StartOrder_l1] at hH
        have hlt14 := drop_lt hd12
        refine AW.seq ?_
        refine AW.region ?_
        refine AO.pure T rfl rfl rfl ?_
        refine AO.nil ?_
        refine AW.seq ?_
        refine AW.condT' (b := decide ((k9 : Int) < (x7.1.length : Int))) rfl (rngT hlt14) ?_
        refine AW.skip ?_
        refine AW.seq ?_
        refine AW.block ?_
        refine AW.seq ?_
        refine AW.region ?_
        refine AO.pure T rfl rfl rfl ?_
        refine AO.val rfl rfl (ix_row_ok T rfl rfl rfl rfl rfl rfl (getI_drop hd12)) ?_
        refine AO.val rfl rfl (load_row_ok T rfl rfl rfl rfl (getI_get (getI_drop hd12)) rfl rfl rfl) ?_
        refine AO.pure T rfl rfl rfl ?_
        refine AO.pure T rfl rfl rfl ?_
        refine AO.nil ?_
        obtain ⟨x34, hx35, hH⟩ := bindE hH
        obtain ⟨u36, hx37, hH⟩ := bindE hH
        obtain ⟨x38, hx39, hH⟩ := bindE hH
        obtain ⟨u40, hx41, hH⟩ := bindE hH
        refine AW.region ?_
        refine AO.pure T rfl rfl rfl ?_
        refine AO.pure T rfl rfl rfl ?_
        refine AO.step rfl (call_ok rfl 12 rfl rfl rfl (spec_l1Own_ok _ _ (hx35)) rfl rfl rfl) ?_
        refine AO.pure T rfl rfl rfl ?_
        refine AO.step rfl (mk_map_ok T rfl 13 rfl rfl rfl rfl rfl (f := encInt) (l := [(k9 : Int)]) rfl rfl (fun _ => rfl) rfl rfl rfl rfl rfl) ?_
        refine AO.step rfl (app_rv_map T rfl 14 rfl rfl rfl rfl rfl (by decide) rfl rfl rfl rfl (fun _ => rfl) (needT (hx37)) rfl rfl) ?_
        refine AO.pure T rfl rfl rfl ?_
        refine AO.step rfl (callL_ok rfl 15 rfl rfl (es := [.s (List.map encInt (x34 ++ [(k9 : Int)])), .s (List.map encInt y10)]) (by exact ⟨(.rowR rfl (.map fun y => .vs rfl)), .free rfl, trivial⟩) (spec_dwNumbers_ok fuel _ _ _ (hx39)) (zfree_map (fun y => (.cons (zfree_v _) .nil))) rfl rfl rfl) ?_
        refine AO.step rfl (app_rv_map T rfl 16 rfl rfl rfl rfl rfl (by decide) rfl rfl rfl rfl (fun _ => rfl) (needT (hx41)) rfl rfl) ?_
        refine AO.pure T rfl rfl rfl ?_
        refine AO.nil ?_
        refine AW.region ?_
        refine AO.val rfl rfl (ar_ok rfl rfl rfl rfl (inI_succ hlt14 hb13)) ?_
        refine AO.pure T rfl rfl rfl ?_
        refine AO.nil ?_
        refine ⟨(k9 + 1, (v32 ++ x38)), ⟨Nat.succ_le_of_lt hlt14, (by rw [drop_succ_of hd12]; exact hH)⟩, (by have := hlt14; dsimp only; omega), ?_⟩
        exact Le.cut 16 11 rfl (by repeat' (first | exact trivial | refine ⟨⟨_, rfl, rfl⟩, ?_⟩)) (by repeat' (first | exact trivial | refine ⟨⟨_, rfl, rfl⟩, ?_⟩)) rfl

def spec_evIf_p (e : Event) (ok : Bool) : Option (Event × Bool) :=
  cond (!ok)
    (some ((Event.mk 0 0 0 [] [] 0 [] []), false))
    (some (e, true))
theorem spec_evIf_ok (e : Event) (ok : Bool) (r : (Event × Bool)) (hH : spec_evIf_p e ok = some r) : SpecR Tryz.prog 126 [.g (encEvent e), .v (.bool ok)] (.t [.g (encEvent r.1), .v (.bool r.2)]) := by
  refine fn_ok T Tryz.func126 rfl (by decide) rfl ?_
  refine AW.seq ?_
  refine AW.region ?_
  refine AO.step rfl (box_ok T rfl 1 rfl rfl rfl rfl) ?_
  refine AO.step rfl (alloc_ok T rfl 2 rfl rfl rfl rfl rfl) ?_
  refine AO.pure T rfl rfl rfl ?_
  refine AO.nil ?_
  refine AW.seq ?_
  refine AW.seq ?_
  refine AW.region ?_
  refine AO.pure T rfl rfl rfl ?_
  refine AO.pure T rfl rfl rfl ?_
  refine AO.nil ?_
  refine AW.cond (b := (!ok)) rfl (fun hc => ?_) (fun hc => ?_)
  · replace hH := condT hc hH
    refine AW.seq ?_
    refine AW.region ?_
    refine AO.pure T (d := .g [.v (.int .i64 0), .v (.int .i64 0), .v (.int .i64 0), .w 0 [], .w 0 [], .v (.int .i64 0), .w 0 [], .w 0 []]) rfl rfl rfl ?_
    refine AO.step rfl (store_okE T rfl rfl rfl rfl rfl rfl rfl rfl rfl (ds' := [.v (.int .i64 0), .v (.int .i64 0), .v (.int .i64 0), .w 0 [], .w 0 [], .v (.int .i64 0), .w 0 [], .w 0 []]) rfl) ?_
    refine AO.pure T rfl rfl rfl ?_
    refine AO.nil ?_
    refine AW.ret ?_
    cases someE hH
    exact ⟨trivial, _, [], rfl, .t (expLG_cons (.g (expLC_cons .v (expLC_cons .v (expLC_cons .v (expLC_cons .nilS (expLC_cons .nilS (expLC_cons .v (expLC_cons .nilS (expLC_cons .nilS (expLC_nil)))))))))) (expLG_cons (.c .v) (expLG_nil))), by decide⟩
  · replace hH := condF hc hH
    refine AW.skip ?_
    refine AW.seq ?_
    refine AW.region ?_
    refine AO.pure T (d := .g [.v (.int .i64 e.segments), .v (.int .i64 e.size), .v (.int .i64 e.key), .s (List.map encEntrant e.entrants), .s (List.map encInt e.gone), .v (.int .i64 e.segment), .s (List.map encInt e.order), .s (List.map encResult e.results)]) rfl rfl rfl ?_
    refine AO.step rfl (store_okE T rfl rfl rfl rfl rfl rfl rfl rfl rfl (ds' := [.v (.int .i64 e.segments), .v (.int .i64 e.size), .v (.int .i64 e.key), .s (List.map encEntrant e.entrants), .s (List.map encInt e.gone), .v (.int .i64 e.segment), .s (List.map encInt e.order), .s (List.map encResult e.results)]) rfl) ?_
    refine AO.pure T rfl rfl rfl ?_
    refine AO.nil ?_
    refine AW.ret ?_
    cases someE hH
    exact ⟨trivial, _, [], rfl, .t (expLG_cons (.g (expLC_cons .v (expLC_cons .v (expLC_cons .v (expLC_cons .s (expLC_cons .s (expLC_cons .v (expLC_cons .s (expLC_cons .s (expLC_nil)))))))))) (expLG_cons (.c .v) (expLG_nil))), by decide⟩

def spec_l1Sign_p (n : Int) : Option Int :=
  cond (decide (n > 0))
    (some 1)
    (cond (decide (n < 0))
      (some (-1))
      (some 0))
theorem spec_l1Sign_ok (n : Int) (r : Int) (hH : spec_l1Sign_p n = some r) : SpecR Tryz.prog 112 [.v (.int .i64 n)] (.v (.int .i64 r)) := by
  refine fn_ok T Tryz.func112 rfl (by decide) rfl ?_
  refine AW.seq ?_
  refine AW.region ?_
  refine AO.pure T rfl rfl rfl ?_
  refine AO.nil ?_
  refine AW.seq ?_
  refine AW.block ?_
  refine AW.seq ?_
  refine AW.region ?_
  refine AO.pure T rfl rfl rfl ?_
  refine AO.pure T rfl rfl rfl ?_
  refine AO.pure T rfl rfl rfl ?_
  refine AO.nil ?_
  refine AW.cond (b := decide (n > 0)) rfl (fun hc => ?_) (fun hc => ?_)
  · replace hH := condT hc hH
    refine AW.seq ?_
    refine AW.region ?_
    refine AO.pure T rfl rfl rfl ?_
    refine AO.nil ?_
    refine AW.ret ?_
    cases someE hH
    exact ⟨trivial, _, [], rfl, .c (.c .v), by decide⟩
  · replace hH := condF hc hH
    refine AW.seq ?_
    refine AW.region ?_
    refine AO.pure T rfl rfl rfl ?_
    refine AO.pure T rfl rfl rfl ?_
    refine AO.pure T rfl rfl rfl ?_
    refine AO.nil ?_
    refine AW.cond (b := decide (n < 0)) rfl (fun hc => ?_) (fun hc => ?_)
    · replace hH := condT hc hH
      refine AW.seq ?_
      refine AW.region ?_
      refine AO.pure T rfl rfl rfl ?_
      refine AO.nil ?_
      refine AW.ret ?_
      cases someE hH
      exact ⟨trivial, _, [], rfl, .c (.c .v), by decide⟩
    · replace hH := condF hc hH
      refine AW.skip ?_
      refine AW.seq ?_
      refine AW.region ?_
      refine AO.pure T rfl rfl rfl ?_
      refine AO.nil ?_
      refine AW.ret ?_
      cases someE hH
      exact ⟨trivial, _, [], rfl, .c (.c .v), by decide⟩

def spec_rkCompare_l1 (a : Result) (b : Result) : Nat → Int → Option Int
  | 0, _ => none
  | k9 + 1, v23 =>
    cond (decide (v23 ≥ 0))
      ((getI a.scores v23).bind fun x25 =>
      (getI b.scores v23).bind fun x27 =>
      cond (x25 != x27)
        ((spec_l1Sign_p (w64 (x25 - x27))).bind fun x29 =>
        some x29)
        (spec_rkCompare_l1 a b k9 (w64 (v23 - 1))))
      (some 0)
def spec_rkCompare_p (fuel : Nat) (a : Result) (b : Result) : Option Int :=
  (spec_rkTotal_p a).bind fun x1 =>
  (spec_rkTotal_p b).bind fun x3 =>
  cond (x1.2 != x3.2)
    ((spec_l1Sign_p (w64 (x1.2 - x3.2))).bind fun x5 =>
    some x5)
    (cond (x1.1 != x3.1)
      ((spec_l1Sign_p (w64 (x1.1 - x3.1))).bind fun x7 =>
      some x7)
      (spec_rkCompare_l1 a b fuel (w64 ((a.scores.length : Int) - 1))))
theorem spec_rkCompare_ok (fuel : Nat) (a : Result) (b : Result) (r : Int) (hH : spec_rkCompare_p fuel a b = some r) : SpecR Tryz.prog 72 [.g (encResult a), .g (encResult b)] (.v (.int .i64 r)) := by
  refine fn_ok T Tryz.func72 rfl (by decide) rfl ?_
  refine AW.seq ?_
  refine AW.region ?_
  refine AO.step rfl (box_ok T rfl 1 rfl rfl rfl rfl) ?_
  refine AO.step rfl (box_ok T rfl 2 rfl rfl rfl rfl) ?_
  refine AO.pure T rfl rfl rfl ?_
  refine AO.nil ?_
  refine AW.seq ?_
  obtain ⟨x1, hx2, hH⟩ := bindE hH
  refine AW.region ?_
  refine AO.pure T (d := .g [.v (.int .i64 a.skater), .s (List.map encInt a.scores)]) rfl rfl rfl ?_
  refine AO.val rfl rfl (callV_ok rfl rfl rfl rfl (spec_rkTotal_ok _ _ (hx2)) rfl) ?_
  refine AO.pure T rfl rfl rfl ?_
  refine AO.pure T rfl rfl rfl ?_
  refine AO.pure T rfl rfl rfl ?_
  refine AO.pure T rfl rfl rfl ?_
  refine AO.pure T rfl rfl rfl ?_
  refine AO.nil ?_
  refine AW.seq ?_
  obtain ⟨x3, hx4, hH⟩ := bindE hH
  refine AW.region ?_
  refine AO.pure T (d := .g [.v (.int .i64 b.skater), .s (List.map encInt b.scores)]) rfl rfl rfl ?_
  refine AO.val rfl rfl (callV_ok rfl rfl rfl rfl (spec_rkTotal_ok _ _ (hx4)) rfl) ?_
  refine AO.pure T rfl rfl rfl ?_
  refine AO.pure T rfl rfl rfl ?_
  refine AO.pure T rfl rfl rfl ?_
  refine AO.pure T rfl rfl rfl ?_
  refine AO.pure T rfl rfl rfl ?_
  refine AO.nil ?_
  refine AW.seq ?_
  refine AW.seq ?_
  refine AW.region ?_
  refine AO.pure T rfl rfl rfl ?_
  refine AO.pure T rfl rfl rfl ?_
  refine AO.pure T rfl rfl rfl ?_
  refine AO.nil ?_
  refine AW.cond (b := (x1.2 != x3.2)) rfl (fun hc => ?_) (fun hc => ?_)
  · replace hH := condT hc hH
    refine AW.seq ?_
    obtain ⟨x5, hx6, hH⟩ := bindE hH
    refine AW.region ?_
    refine AO.pure T rfl rfl rfl ?_
    refine AO.pure T rfl rfl rfl ?_
    refine AO.val rfl rfl (arw_ok rfl rfl rfl rfl) ?_
    refine AO.val rfl rfl (callV_ok rfl rfl rfl rfl (spec_l1Sign_ok _ _ (hx6)) rfl) ?_
    refine AO.pure T rfl rfl rfl ?_
    refine AO.nil ?_
    refine AW.le (Le.cut 0 0 (σ' := (⟨[(4, .v (.int .i64 x5))], [], 65, []⟩ : St)) rfl (by repeat' (first | exact trivial | refine ⟨⟨_, rfl, rfl⟩, ?_⟩)) (by repeat' (first | exact trivial | refine ⟨⟨_, rfl, rfl⟩, ?_⟩)) rfl) ?_
    refine AW.ret ?_
    cases someE hH
    exact ⟨trivial, _, [], rfl, .c (.c .v), by decide⟩
  · replace hH := condF hc hH
    refine AW.skip ?_
    refine AW.seq ?_
    refine AW.seq ?_
    refine AW.region ?_
    refine AO.pure T rfl rfl rfl ?_
    refine AO.pure T rfl rfl rfl ?_
    refine AO.pure T rfl rfl rfl ?_
    refine AO.nil ?_
    refine AW.cond (b := (x1.1 != x3.1)) rfl (fun hc => ?_) (fun hc => ?_)
    · replace hH := condT hc hH
      refine AW.seq ?_
      obtain ⟨x7, hx8, hH⟩ := bindE hH
      refine AW.region ?_
      refine AO.pure T rfl rfl rfl ?_
      refine AO.pure T rfl rfl rfl ?_
      refine AO.val rfl rfl (arw_ok rfl rfl rfl rfl) ?_
      refine AO.val rfl rfl (callV_ok rfl rfl rfl rfl (spec_l1Sign_ok _ _ (hx8)) rfl) ?_
      refine AO.pure T rfl rfl rfl ?_
      refine AO.nil ?_
      refine AW.le (Le.cut 0 0 (σ' := (⟨[(4, .v (.int .i64 x7))], [], 65, []⟩ : St)) rfl (by repeat' (first | exact trivial | refine ⟨⟨_, rfl, rfl⟩, ?_⟩)) (by repeat' (first | exact trivial | refine ⟨⟨_, rfl, rfl⟩, ?_⟩)) rfl) ?_
      refine AW.ret ?_
      cases someE hH
      exact ⟨trivial, _, [], rfl, .c (.c .v), by decide⟩
    · replace hH := condF hc hH
      refine AW.skip ?_
      refine AW.seq ?_
      refine AW.seq ?_
      refine AW.region ?_
      refine AO.pure T rfl rfl rfl ?_
      refine AO.pure T rfl rfl rfl ?_
      refine AO.val rfl rfl (len_map_ok T rfl rfl rfl) ?_
      refine AO.val rfl rfl (arw_ok rfl rfl rfl rfl) ?_
      refine AO.pure T rfl rfl rfl ?_
      refine AO.nil ?_
      refine AW.le (Le.cut 0 0 (σ' := (⟨[(2, .p 1 0), (3, .p 2 0), (9, .v (.int .i64 (w64 ((a.scores.length : Int) - 1))))], [(1, .box [.v (.int .i64 a.skater), .s (List.map encInt a.scores)]), (2, .box [.v (.int .i64 b.skater), .s (List.map encInt b.scores)])], 65, []⟩ : St)) rfl (by repeat' (first | exact trivial | refine ⟨⟨_, rfl, rfl⟩, ?_⟩)) (by repeat' (first | exact trivial | refine ⟨⟨_, rfl, rfl⟩, ?_⟩)) rfl) ?_
      refine AW.block ?_
      refine AW.loopS (fun s : Nat × Int => (⟨[(2, .p 1 0), (3, .p 2 0), (9, .v (.int .i64 s.2))], [(1, .box [.v (.int .i64 a.skater), .s (List.map encInt a.scores)]), (2, .box [.v (.int .i64 b.skater), .s (List.map encInt b.scores)])], 65, []⟩ : St)) (fun s => spec_rkCompare_l1 a b s.1 s.2 = some r) (fun s => s.1) (fuel, w64 ((a.scores.length : Int) - 1)) hH ?_ ?_
      · exact Le.cut 0 0 rfl (by repeat' (first | exact trivial | refine ⟨⟨_, rfl, rfl⟩, ?_⟩)) (by repeat' (first | exact trivial | refine ⟨⟨_, rfl, rfl⟩, ?_⟩)) rfl
      · rintro ⟨k9, v23⟩ hH
        replace hH : spec_rkCompare_l1 a b k9 v23 = some r := hH
        show AW _ _ _ (⟨[(2, .p 1 0), (3, .p 2 0), (9, .v (.int .i64 v23))], [(1, .box [.v (.int .i64 a.skater), .s (List.map encInt a.scores)]), (2, .box [.v (.int .i64 b.skater), .s (List.map encInt b.scores)])], 65, []⟩ : St)
        cases k9 with
        | zero => cases (show none = some _ from hH)
        | succ k9 =>
          rw [spec_rkCompare_l1] at hH
          refine AW.seq ?_
          refine AW.seq ?_
          refine AW.region ?_
          refine AO.pure T rfl rfl rfl ?_
          refine AO.pure T rfl rfl rfl ?_
          refine AO.nil ?_
          refine AW.cond (b := decide (v23 ≥ 0)) rfl (fun hc => ?_) (fun hc => ?_)
          · replace hH := condT hc hH
            refine AW.skip ?_
            refine AW.seq ?_
            refine AW.block ?_
            refine AW.seq ?_
            obtain ⟨x25, hx26, hH⟩ := bindE hH
            obtain ⟨x27, hx28, hH⟩ := bindE hH
            refine AW.drawn 10 3 [] mix (by kernel_rfl) rfl ?_
            refine AD.pure T rfl rfl rfl ?_
            refine AD.pure T rfl rfl rfl ?_
            refine AD.pure T rfl rfl rfl ?_
            refine AD.val rfl rfl (ix_map_ok T rfl rfl rfl rfl rfl (hx26) rfl) ?_
            refine AD.pure T rfl rfl rfl ?_
            refine AD.pure T rfl rfl rfl ?_
            refine AD.pure T rfl rfl rfl ?_
            refine AD.pure T rfl rfl rfl ?_
            refine AD.val rfl rfl (ix_map_ok T rfl rfl rfl rfl rfl (hx28) rfl) ?_
            refine AD.pure T rfl rfl rfl ?_
            refine AD.nil ?_
            refine AO.pure T rfl rfl rfl ?_
            refine AO.nil ?_
            refine AW.cond (b := (x25 != x27)) rfl (fun hc => ?_) (fun hc => ?_)
            · replace hH := condT hc hH
              refine AW.seq ?_
              obtain ⟨x29, hx30, hH⟩ := bindE hH
              refine AW.drawn 10 3 [] mix (by kernel_rfl) rfl ?_
              refine AD.pure T rfl rfl rfl ?_
              refine AD.pure T rfl rfl rfl ?_
              refine AD.pure T rfl rfl rfl ?_
              refine AD.val rfl rfl (ix_map_ok T rfl rfl rfl rfl rfl (hx26) rfl) ?_
              refine AD.pure T rfl rfl rfl ?_
              refine AD.pure T rfl rfl rfl ?_
              refine AD.pure T rfl rfl rfl ?_
              refine AD.pure T rfl rfl rfl ?_
              refine AD.val rfl rfl (ix_map_ok T rfl rfl rfl rfl rfl (hx28) rfl) ?_
              refine AD.pure T rfl rfl rfl ?_
              refine AD.nil ?_
              refine AO.val rfl rfl (arw_ok rfl rfl rfl rfl) ?_
              refine AO.val rfl rfl (callV_ok rfl rfl rfl rfl (spec_l1Sign_ok _ _ (hx30)) rfl) ?_
              refine AO.pure T rfl rfl rfl ?_
              refine AO.nil ?_
              refine AW.le (Le.cut 0 0 (σ' := (⟨[(4, .v (.int .i64 x29))], [], 65, []⟩ : St)) rfl (by repeat' (first | exact trivial | refine ⟨⟨_, rfl, rfl⟩, ?_⟩)) (by repeat' (first | exact trivial | refine ⟨⟨_, rfl, rfl⟩, ?_⟩)) rfl) ?_
              refine AW.ret ?_
              cases someE hH
              exact ⟨trivial, _, [], rfl, .c (.c .v), by decide⟩
            · replace hH := condF hc hH
              refine AW.skip ?_
              refine AW.region ?_
              refine AO.pure T rfl rfl rfl ?_
              refine AO.val rfl rfl (arw_ok rfl rfl rfl rfl) ?_
              refine AO.pure T rfl rfl rfl ?_
              refine AO.nil ?_
              refine ⟨(k9, w64 (v23 - 1)), hH, Nat.lt_succ_self _, ?_⟩
              exact Le.cut 0 0 rfl (by repeat' (first | exact trivial | refine ⟨⟨_, rfl, rfl⟩, ?_⟩)) (by repeat' (first | exact trivial | refine ⟨⟨_, rfl, rfl⟩, ?_⟩)) rfl
          · replace hH := condF hc hH
            refine AW.exit ?_
            refine AW.seq ?_
            refine AW.region ?_
            refine AO.pure T rfl rfl rfl ?_
            refine AO.nil ?_
            refine AW.ret ?_
            cases someE hH
            exact ⟨trivial, _, [], rfl, .c (.c .v), by decide⟩

def spec_rkPlace_l1 (l : List Result) (i : Int) (fuel : Nat) : List Result → Nat → Int → Option Int
  | [], k1, v16 =>
    some v16
  | y2 :: ys3, k1, v16 =>
    (getI l i).bind fun x18 =>
    (spec_rkCompare_p fuel y2 x18).bind fun x20 =>
    cond (decide (x20 > 0))
      (spec_rkPlace_l1 l i fuel ys3 (k1 + 1) (w64 (v16 + 1)))
      (spec_rkPlace_l1 l i fuel ys3 (k1 + 1) v16)
def spec_rkPlace_p (fuel : Nat) (l : List Result) (i : Int) : Option Int :=
  spec_rkPlace_l1 l i fuel l 0 1
theorem spec_rkPlace_ok (fuel : Nat) (l : List Result) (i : Int) (r : Int) (hH : spec_rkPlace_p fuel l i = some r) : SpecR Tryz.prog 49 [.s (List.map encResult l), .v (.int .i64 i)] (.v (.int .i64 r)) := by
  refine fn_ok T Tryz.func49 rfl (by decide) rfl ?_
  refine AW.seq ?_
  refine AW.region ?_
  refine AO.pure T rfl rfl rfl ?_
  refine AO.nil ?_
  refine AW.seq ?_
  refine AW.region ?_
  refine AO.pure T rfl rfl rfl ?_
  refine AO.nil ?_
  refine AW.seq ?_
  refine AW.seq ?_
  refine AW.region ?_
  refine AO.pure T rfl rfl rfl ?_
  refine AO.val rfl rfl (len_map_ok T rfl rfl rfl) ?_
  refine AO.pure T rfl rfl rfl ?_
  refine AO.nil ?_
  refine AW.block ?_
  refine AW.loopS (fun s : Nat × Int => (⟨[(0, .s (List.map encResult l)), (1, .v (.int .i64 i)), (5, .v (.int .i64 s.2)), (8, .s (List.map encResult l)), (9, .v (.int .i64 (l.length : Int))), (10, .v (.int .i64 (s.1 : Int)))], [], 25, []⟩ : St)) (fun s => s.1 ≤ l.length ∧ spec_rkPlace_l1 l i fuel (l.drop s.1) s.1 s.2 = some r) (fun s => l.length - s.1) (0, 1) ⟨Nat.zero_le _, hH⟩ ?_ ?_
  · exact Le.cut 0 0 rfl (by repeat' (first | exact trivial | refine ⟨⟨_, rfl, rfl⟩, ?_⟩)) (by repeat' (first | exact trivial | refine ⟨⟨_, rfl, rfl⟩, ?_⟩)) rfl
  · rintro ⟨k1, v16⟩ ⟨hk, hH⟩
    replace hH : spec_rkPlace_l1 l i fuel (l.drop k1) k1 v16 = some r := hH
    show AW _ _ _ (⟨[(0, .s (List.map encResult l)), (1, .v (.int .i64 i)), (5, .v (.int .i64 v16)), (8, .s (List.map encResult l)), (9, .v (.int .i64 (l.length : Int))), (10, .v (.int .i64 (k1 : Int)))], [], 25, []⟩ : St)
    refine AW.boundM (t := 0) (l := l) rfl (fun hb5 => ?_)
    cases hd4 : l.drop k1 with
    | nil =>
      rw [hd4] at hH
      rw [spec_rkPlace_l1] at hH
      have hlt6 := drop_ge hd4
      refine AW.seq ?_
      refine AW.region ?_
      refine AO.pure T rfl rfl rfl ?_
      refine AO.nil ?_
      refine AW.seq ?_
      refine AW.condF' (b := decide ((k1 : Int) < (l.length : Int))) rfl (rngF hlt6) ?_
      refine AW.exit ?_
      refine AW.seq ?_
      refine AW.region ?_
      refine AO.pure T rfl rfl rfl ?_
      refine AO.pure T rfl rfl rfl ?_
      refine AO.nil ?_
      refine AW.ret ?_
      cases someE hH
      exact ⟨trivial, _, [], rfl, .c (.c .v), by decide⟩
    | cons y2 ys3 =>
      rw [hd4] at hH
      rw [spec_rkPlace_l1] at hH
      have hlt6 := drop_lt hd4
      refine AW.seq ?_
      refine AW.region ?_
      refine AO.pure T rfl rfl rfl ?_
      refine AO.nil ?_
      refine AW.seq ?_
      refine AW.condT' (b := decide ((k1 : Int) < (l.length : Int))) rfl (rngT hlt6) ?_
      refine AW.skip ?_
      refine AW.seq ?_
      refine AW.block ?_
      refine AW.seq ?_
      refine AW.region ?_
      refine AO.val rfl rfl (ix_map_ok T rfl rfl rfl rfl rfl (getI_drop hd4) rfl) ?_
      refine AO.pure T (d := .g [.v (.int .i64 y2.skater), .s (List.map encInt y2.scores)]) rfl rfl rfl ?_
      refine AO.step rfl (alloc_ok T rfl 3 rfl rfl rfl rfl rfl) ?_
      refine AO.step rfl (store_okE T rfl rfl rfl rfl rfl rfl rfl rfl rfl (ds' := [.v (.int .i64 y2.skater), .s (List.map encInt y2.scores)]) rfl) ?_
      refine AO.nil ?_
      refine AW.seq ?_
      obtain ⟨x18, hx19, hH⟩ := bindE hH
      obtain ⟨x20, hx21, hH⟩ := bindE hH
      refine AW.drawn 5 4 [] mix (by kernel_rfl) rfl ?_
      refine AD.pure T (d := .g [.v (.int .i64 y2.skater), .s (List.map encInt y2.scores)]) rfl rfl rfl ?_
      refine AD.pure T rfl rfl rfl ?_
      refine AD.pure T rfl rfl rfl ?_
      refine AD.val rfl rfl (ix_map_ok T rfl rfl rfl rfl rfl (hx19) rfl) ?_
      refine AD.pure T (d := .g [.v (.int .i64 x18.skater), .s (List.map encInt x18.scores)]) rfl rfl rfl ?_
      refine AD.nil ?_
      refine AO.val rfl rfl (callV_ok rfl rfl rfl rfl (spec_rkCompare_ok fuel _ _ _ (hx21)) rfl) ?_
      refine AO.pure T rfl rfl rfl ?_
      refine AO.nil ?_
      refine AW.cond (b := decide (x20 > 0)) rfl (fun hc => ?_) (fun hc => ?_)
      · replace hH := condT hc hH
        refine AW.region ?_
        refine AO.pure T rfl rfl rfl ?_
        refine AO.val rfl rfl (arw_ok rfl rfl rfl rfl) ?_
        refine AO.pure T rfl rfl rfl ?_
        refine AO.nil ?_
        refine AW.region ?_
        refine AO.val rfl rfl (ar_ok rfl rfl rfl rfl (inI_succ hlt6 hb5)) ?_
        refine AO.pure T rfl rfl rfl ?_
        refine AO.nil ?_
        refine ⟨(k1 + 1, w64 (v16 + 1)), ⟨Nat.succ_le_of_lt hlt6, (by rw [drop_succ_of hd4]; exact hH)⟩, (by have := hlt6; dsimp only; omega), ?_⟩
        exact Le.cut 0 0 rfl (by repeat' (first | exact trivial | refine ⟨⟨_, rfl, rfl⟩, ?_⟩)) (by repeat' (first | exact trivial | refine ⟨⟨_, rfl, rfl⟩, ?_⟩)) rfl
      · replace hH := condF hc hH
        refine AW.skip ?_
        refine AW.region ?_
        refine AO.val rfl rfl (ar_ok rfl rfl rfl rfl (inI_succ hlt6 hb5)) ?_
        refine AO.pure T rfl rfl rfl ?_
        refine AO.nil ?_
        refine ⟨(k1 + 1, v16), ⟨Nat.succ_le_of_lt hlt6, (by rw [drop_succ_of hd4]; exact hH)⟩, (by have := hlt6; dsimp only; omega), ?_⟩
        exact Le.cut 0 0 rfl (by repeat' (first | exact trivial | refine ⟨⟨_, rfl, rfl⟩, ?_⟩)) (by repeat' (first | exact trivial | refine ⟨⟨_, rfl, rfl⟩, ?_⟩)) rfl

def spec_rkPlaces_l1 (l : List Result) (fuel : Nat) : List Result → Nat → List Int → Option ((List Int))
  | [], k1, v16 =>
    some v16
  | y2 :: ys3, k1, v16 =>
    (spec_rkPlace_p fuel l (k1 : Int)).bind fun x18 =>
    (need (fitsB 8 (v16.length + ([x18]).length))).bind fun u20 =>
    spec_rkPlaces_l1 l fuel ys3 (k1 + 1) (v16 ++ [x18])
def spec_rkPlaces_p (fuel : Nat) (l : List Result) : Option (List Int) :=
  spec_rkPlaces_l1 l fuel l 0 []
theorem spec_rkPlaces_ok (fuel : Nat) (l : List Result) (r : (List Int)) (hH : spec_rkPlaces_p fuel l = some r) : SpecR Tryz.prog 127 [.s (List.map encResult l)] (.w 1 (r.map encInt)) := by
  refine fn_ok T Tryz.func127 rfl (by decide) rfl ?_
  refine AW.seq ?_
  refine AW.region ?_
  refine AO.pure T rfl rfl rfl ?_
  refine AO.nil ?_
  refine AW.seq ?_
  refine AW.region ?_
  refine AO.pure T rfl rfl rfl ?_
  refine AO.nil ?_
  refine AW.seq ?_
  refine AW.seq ?_
  refine AW.region ?_
  refine AO.pure T rfl rfl rfl ?_
  refine AO.val rfl rfl (len_map_ok T rfl rfl rfl) ?_
  refine AO.pure T rfl rfl rfl ?_
  refine AO.nil ?_
  refine AW.block ?_
  refine AW.loopS (fun s : Nat × (List Int) => (⟨[(0, .s (List.map encResult l)), (3, .R 4), (6, .v (.int .i64 (l.length : Int))), (7, .v (.int .i64 (s.1 : Int)))], [(4, .row 1 (List.map encInt s.2))], 18, []⟩ : St)) (fun s => s.1 ≤ l.length ∧ spec_rkPlaces_l1 l fuel (l.drop s.1) s.1 s.2 = some r) (fun s => l.length - s.1) (0, []) ⟨Nat.zero_le _, hH⟩ ?_ ?_
  · refine Le.trans (Le.void 3 4 1 rfl rfl) ?_
    exact Le.cut 0 0 rfl (by repeat' (first | exact trivial | refine ⟨⟨_, rfl, rfl⟩, ?_⟩)) (by repeat' (first | exact trivial | refine ⟨⟨_, rfl, rfl⟩, ?_⟩)) rfl
  · rintro ⟨k1, v16⟩ ⟨hk, hH⟩
    replace hH : spec_rkPlaces_l1 l fuel (l.drop k1) k1 v16 = some r := hH
    show AW _ _ _ (⟨[(0, .s (List.map encResult l)), (3, .R 4), (6, .v (.int .i64 (l.length : Int))), (7, .v (.int .i64 (k1 : Int)))], [(4, .row 1 (List.map encInt v16))], 18, []⟩ : St)
    refine AW.boundM (t := 0) (l := l) rfl (fun hb5 => ?_)
    cases hd4 : l.drop k1 with
    | nil =>
      rw [hd4] at hH
      rw [spec_rkPlaces_l1] at hH
      have hlt6 := drop_ge hd4
      refine AW.seq ?_
      refine AW.region ?_
      refine AO.pure T rfl rfl rfl ?_
      refine AO.nil ?_
      refine AW.seq ?_
      refine AW.condF' (b := decide ((k1 : Int) < (l.length : Int))) rfl (rngF hlt6) ?_
      refine AW.exit ?_
      refine AW.seq ?_
      refine AW.region ?_
      refine AO.pure T rfl rfl rfl ?_
      refine AO.pure T rfl rfl rfl ?_
      refine AO.nil ?_
      refine AW.ret ?_
      cases someE hH
      exact ⟨trivial, _, [4], rfl, .c (.c (.rowR rfl)), by decide⟩
    | cons y2 ys3 =>
      rw [hd4] at hH
      rw [spec_rkPlaces_l1] at hH
      have hlt6 := drop_lt hd4
      refine AW.seq ?_
      refine AW.region ?_
      refine AO.pure T rfl rfl rfl ?_
      refine AO.nil ?_
      refine AW.seq ?_
      refine AW.condT' (b := decide ((k1 : Int) < (l.length : Int))) rfl (rngT hlt6) ?_
      refine AW.skip ?_
      refine AW.seq ?_
      refine AW.block ?_
      refine AW.seq ?_
      refine AW.region ?_
      refine AO.pure T rfl rfl rfl ?_
      refine AO.pure T rfl rfl rfl ?_
      refine AO.nil ?_
      obtain ⟨x18, hx19, hH⟩ := bindE hH
      obtain ⟨u20, hx21, hH⟩ := bindE hH
      refine AW.region ?_
      refine AO.pure T rfl rfl rfl ?_
      refine AO.pure T rfl rfl rfl ?_
      refine AO.pure T rfl rfl rfl ?_
      refine AO.val rfl rfl (callV_ok rfl rfl rfl rfl (spec_rkPlace_ok fuel _ _ _ (hx19)) rfl) ?_
      refine AO.step rfl (mk_map_ok T rfl 5 rfl rfl rfl rfl rfl (f := encInt) (l := [x18]) rfl rfl (fun _ => rfl) rfl rfl rfl rfl rfl) ?_
      refine AO.step rfl (app_rv_map T rfl 6 rfl rfl rfl rfl rfl (by decide) rfl rfl rfl rfl (fun _ => rfl) (needT (hx21)) rfl rfl) ?_
      refine AO.pure T rfl rfl rfl ?_
      refine AO.nil ?_
      refine AW.region ?_
      refine AO.val rfl rfl (ar_ok rfl rfl rfl rfl (inI_succ hlt6 hb5)) ?_
      refine AO.pure T rfl rfl rfl ?_
      refine AO.nil ?_
      refine ⟨(k1 + 1, (v16 ++ [x18])), ⟨Nat.succ_le_of_lt hlt6, (by rw [drop_succ_of hd4]; exact hH)⟩, (by have := hlt6; dsimp only; omega), ?_⟩
      exact Le.cut 6 4 rfl (by repeat' (first | exact trivial | refine ⟨⟨_, rfl, rfl⟩, ?_⟩)) (by repeat' (first | exact trivial | refine ⟨⟨_, rfl, rfl⟩, ?_⟩)) rfl

def spec_soFalling_l2 (keys : List Int) (places : List Int) (fuel : Nat) (v122 : List Int) (v123 : Int) : List Int → Nat → List Int → Option (List Int)
  | [], k156, v171 =>
    (spec_l1Own_p keys).bind fun x173 =>
    (need (fitsB 8 (x173.length + ([90, v123]).length))).bind fun u175 =>
    (spec_dwNumbers_p fuel (x173 ++ [90, v123]) v171).bind fun x177 =>
    (need (fitsB 8 (v122.length + x177.length))).bind fun u179 =>
    some (v122 ++ x177)
  | y157 :: ys158, k156, v171 =>
    (getI places (k156 : Int)).bind fun x181 =>
    cond (x181 == v123)
      ((need (fitsB 8 (v171.length + ([y157]).length))).bind fun u183 =>
      spec_soFalling_l2 keys places fuel v122 v123 ys158 (k156 + 1) (v171 ++ [y157]))
      (spec_soFalling_l2 keys places fuel v122 v123 ys158 (k156 + 1) v171)
def spec_soFalling_l1 (keys : List Int) (skaters : List Int) (places : List Int) (fuel : Nat) : Nat → List Int → Int → Option ((List Int))
  | 0, _, _ => none
  | k1 + 1, v122, v123 =>
    cond (decide (v123 ≥ 1))
      ((spec_soFalling_l2 keys places fuel v122 v123 skaters 0 []).bind fun v153 =>
      spec_soFalling_l1 keys skaters places fuel k1 v153 (w64 (v123 - 1)))
      (some v122)
def spec_soFalling_p (fuel : Nat) (keys : List Int) (skaters : List Int) (places : List Int) : Option (List Int) :=
  spec_soFalling_l1 keys skaters places fuel fuel [] 99
theorem spec_soFalling_ok (fuel : Nat) (keys : List Int) (skaters : List Int) (places : List Int) (r : (List Int)) (hH : spec_soFalling_p fuel keys skaters places = some r) : SpecR Tryz.prog 151 [.s (List.map encInt keys), .s (List.map encInt skaters), .s (List.map encInt places)] (.w 1 (r.map encInt)) := by
  refine fn_ok T Tryz.func151 rfl (by decide) rfl ?_
  refine AW.seq ?_
  refine AW.region ?_
  refine AO.pure T rfl rfl rfl ?_
  refine AO.nil ?_
  refine AW.seq ?_
  refine AW.region ?_
  refine AO.pure T rfl rfl rfl ?_
  refine AO.nil ?_
  refine AW.seq ?_
  refine AW.seq ?_
  refine AW.region ?_
  refine AO.pure T rfl rfl rfl ?_
  refine AO.nil ?_
  refine AW.block ?_
  refine AW.loopS (fun s : Nat × (List Int) × Int => (⟨[(0, .s (List.map encInt keys)), (1, .s (List.map encInt skaters)), (2, .s (List.map encInt places)), (7, .R 31), (8, .v (.int .i64 s.2.2))], [(31, .row 1 (List.map encInt s.2.1))], 44, []⟩ : St)) (fun s => spec_soFalling_l1 keys skaters places fuel s.1 s.2.1 s.2.2 = some r) (fun s => s.1) (fuel, [], 99) hH ?_ ?_
  · refine Le.trans (Le.void 7 31 1 rfl rfl) ?_
    exact Le.cut 0 0 rfl (by repeat' (first | exact trivial | refine ⟨⟨_, rfl, rfl⟩, ?_⟩)) (by repeat' (first | exact trivial | refine ⟨⟨_, rfl, rfl⟩, ?_⟩)) rfl
  · rintro ⟨k1, v122, v123⟩ hH
    replace hH : spec_soFalling_l1 keys skaters places fuel k1 v122 v123 = some r := hH
    show AW _ _ _ (⟨[(0, .s (List.map encInt keys)), (1, .s (List.map encInt skaters)), (2, .s (List.map encInt places)), (7, .R 31), (8, .v (.int .i64 v123))], [(31, .row 1 (List.map encInt v122))], 44, []⟩ : St)
    cases k1 with
    | zero => cases (show none = some _ from hH)
    | succ k1 =>
      rw [spec_soFalling_l1] at hH
      refine AW.seq ?_
      refine AW.seq ?_
      refine AW.region ?_
      refine AO.pure T rfl rfl rfl ?_
      refine AO.pure T rfl rfl rfl ?_
      refine AO.nil ?_
      refine AW.cond (b := decide (v123 ≥ 1)) rfl (fun hc => ?_) (fun hc => ?_)
      · replace hH := condT hc hH
        refine AW.skip ?_
        obtain ⟨o154, hH, hK155⟩ := bindE hH
        refine AW.seqJ (fun s : List Int => (⟨[(0, .s (List.map encInt keys)), (1, .s (List.map encInt skaters)), (2, .s (List.map encInt places)), (7, .R 53), (8, .v (.int .i64 v123))], [(53, .row 1 (List.map encInt s))], 44, []⟩ : St)) (fun s => s = o154) ?_ ?_
        · refine AW.block ?_
          refine AW.seq ?_
          refine AW.region ?_
          refine AO.pure T rfl rfl rfl ?_
          refine AO.nil ?_
          refine AW.seq ?_
          refine AW.seq ?_
          refine AW.region ?_
          refine AO.pure T rfl rfl rfl ?_
          refine AO.val rfl rfl (len_map_ok T rfl rfl rfl) ?_
          refine AO.pure T rfl rfl rfl ?_
          refine AO.nil ?_
          refine AW.block ?_
          refine AW.loopS (fun s : Nat × (List Int) => (⟨[(0, .s (List.map encInt keys)), (1, .s (List.map encInt skaters)), (2, .s (List.map encInt places)), (7, .R 31), (8, .v (.int .i64 v123)), (9, .R 59), (16, .s (List.map encInt skaters)), (17, .v (.int .i64 (skaters.length : Int))), (18, .v (.int .i64 (s.1 : Int)))], [(31, .row 1 (List.map encInt v122)), (59, .row 1 (List.map encInt s.2))], 44, []⟩ : St)) (fun s => s.1 ≤ skaters.length ∧ spec_soFalling_l2 keys places fuel v122 v123 (skaters.drop s.1) s.1 s.2 = some o154) (fun s => skaters.length - s.1) (0, []) ⟨Nat.zero_le _, hH⟩ ?_ ?_
          · refine Le.trans (Le.void 9 59 1 rfl rfl) ?_
            exact Le.cut 0 0 rfl (by repeat' (first | exact trivial | refine ⟨⟨_, rfl, rfl⟩, ?_⟩)) (by repeat' (first | exact trivial | refine ⟨⟨_, rfl, rfl⟩, ?_⟩)) rfl
          · rintro ⟨k156, v171⟩ ⟨hk, hH⟩
            replace hH : spec_soFalling_l2 keys places fuel v122 v123 (skaters.drop k156) k156 v171 = some o154 := hH
            show AW _ _ _ (⟨[(0, .s (List.map encInt keys)), (1, .s (List.map encInt skaters)), (2, .s (List.map encInt places)), (7, .R 31), (8, .v (.int .i64 v123)), (9, .R 59), (16, .s (List.map encInt skaters)), (17, .v (.int .i64 (skaters.length : Int))), (18, .v (.int .i64 (k156 : Int)))], [(31, .row 1 (List.map encInt v122)), (59, .row 1 (List.map encInt v171))], 44, []⟩ : St)
            refine AW.boundM (t := 1) (l := skaters) rfl (fun hb160 => ?_)
            cases hd159 : skaters.drop k156 with
            | nil =>
              rw [hd159] at hH
              rw [spec_soFalling_l2] at hH
              have hlt161 := drop_ge hd159
              refine AW.seq ?_
              refine AW.region ?_
              refine AO.pure T rfl rfl rfl ?_
              refine AO.nil ?_
              refine AW.seq ?_
              refine AW.condF' (b := decide ((k156 : Int) < (skaters.length : Int))) rfl (rngF hlt161) ?_
              refine AW.exit ?_
              obtain ⟨x173, hx174, hH⟩ := bindE hH
              obtain ⟨u175, hx176, hH⟩ := bindE hH
              obtain ⟨x177, hx178, hH⟩ := bindE hH
              obtain ⟨u179, hx180, hH⟩ := bindE hH
              refine AW.region ?_
              refine AO.pure T rfl rfl rfl ?_
              refine AO.pure T rfl rfl rfl ?_
              refine AO.step rfl (call_ok rfl 60 rfl rfl rfl (spec_l1Own_ok _ _ (hx174)) rfl rfl rfl) ?_
              refine AO.pure T rfl rfl rfl ?_
              refine AO.step rfl (mk_map_ok T rfl 61 rfl rfl rfl rfl rfl (f := encInt) (l := [90, v123]) rfl rfl (fun _ => rfl) rfl rfl rfl rfl rfl) ?_
              refine AO.step rfl (app_rv_map T rfl 62 rfl rfl rfl rfl rfl (by decide) rfl rfl rfl rfl (fun _ => rfl) (needT (hx176)) rfl rfl) ?_
              refine AO.pure T rfl rfl rfl ?_
              refine AO.step rfl (callL_ok rfl 63 rfl rfl (es := [.s (List.map encInt (x173 ++ [90, v123])), .s (List.map encInt v171)]) (by exact ⟨(.rowR rfl (.map fun y => .vs rfl)), (.rowR rfl (.map fun y => .vs rfl)), trivial⟩) (spec_dwNumbers_ok fuel _ _ _ (hx178)) (zfree_map (fun y => (.cons (zfree_v _) .nil))) rfl rfl rfl) ?_
              refine AO.step rfl (app_rv_map T rfl 64 rfl rfl rfl rfl rfl (by decide) rfl rfl rfl rfl (fun _ => rfl) (needT (hx180)) rfl rfl) ?_
              refine AO.pure T rfl rfl rfl ?_
              refine AO.nil ?_
              refine ⟨_, someE hH, ?_⟩
              exact Le.cut 64 53 rfl (by repeat' (first | exact trivial | refine ⟨⟨_, rfl, rfl⟩, ?_⟩)) (by repeat' (first | exact trivial | refine ⟨⟨_, rfl, rfl⟩, ?_⟩)) rfl
            | cons y157 ys158 =>
              rw [hd159] at hH
              rw [spec_soFalling_l2] at hH
              have hlt161 := drop_lt hd159
              refine AW.seq ?_
              refine AW.region ?_
              refine AO.pure T rfl rfl rfl ?_
              refine AO.nil ?_
              refine AW.seq ?_
              refine AW.condT' (b := decide ((k156 : Int) < (skaters.length : Int))) rfl (rngT hlt161) ?_
              refine AW.skip ?_
              refine AW.seq ?_
              refine AW.block ?_
              refine AW.seq ?_
              refine AW.region ?_
              refine AO.pure T rfl rfl rfl ?_
              refine AO.val rfl rfl (ix_map_ok T rfl rfl rfl rfl rfl (getI_drop hd159) rfl) ?_
              refine AO.pure T rfl rfl rfl ?_
              refine AO.pure T rfl rfl rfl ?_
              refine AO.pure T rfl rfl rfl ?_
              refine AO.nil ?_
              refine AW.seq ?_
              obtain ⟨x181, hx182, hH⟩ := bindE hH
              refine AW.region ?_
              refine AO.pure T rfl rfl rfl ?_
              refine AO.pure T rfl rfl rfl ?_
              refine AO.val rfl rfl (ix_map_ok T rfl rfl rfl rfl rfl (hx182) rfl) ?_
              refine AO.pure T rfl rfl rfl ?_
              refine AO.pure T rfl rfl rfl ?_
              refine AO.pure T rfl rfl rfl ?_
              refine AO.nil ?_
              refine AW.cond (b := (x181 == v123)) rfl (fun hc => ?_) (fun hc => ?_)
              · replace hH := condT hc hH
                obtain ⟨u183, hx184, hH⟩ := bindE hH
                refine AW.region ?_
                refine AO.pure T rfl rfl rfl ?_
                refine AO.pure T rfl rfl rfl ?_
                refine AO.step rfl (mk_map_ok T rfl 65 rfl rfl rfl rfl rfl (f := encInt) (l := [y157]) rfl rfl (fun _ => rfl) rfl rfl rfl rfl rfl) ?_
                refine AO.step rfl (app_rv_map T rfl 66 rfl rfl rfl rfl rfl (by decide) rfl rfl rfl rfl (fun _ => rfl) (needT (hx184)) rfl rfl) ?_
                refine AO.pure T rfl rfl rfl ?_
                refine AO.nil ?_
                refine AW.region ?_
                refine AO.val rfl rfl (ar_ok rfl rfl rfl rfl (inI_succ hlt161 hb160)) ?_
                refine AO.pure T rfl rfl rfl ?_
                refine AO.nil ?_
                refine ⟨(k156 + 1, (v171 ++ [y157])), ⟨Nat.succ_le_of_lt hlt161, (by rw [drop_succ_of hd159]; exact hH)⟩, (by have := hlt161; dsimp only; omega), ?_⟩
                exact Le.cut 66 59 rfl (by repeat' (first | exact trivial | refine ⟨⟨_, rfl, rfl⟩, ?_⟩)) (by repeat' (first | exact trivial | refine ⟨⟨_, rfl, rfl⟩, ?_⟩)) rfl
              · replace hH := condF hc hH
                refine AW.skip ?_
                refine AW.region ?_
                refine AO.val rfl rfl (ar_ok rfl rfl rfl rfl (inI_succ hlt161 hb160)) ?_
                refine AO.pure T rfl rfl rfl ?_
                refine AO.nil ?_
                refine ⟨(k156 + 1, v171), ⟨Nat.succ_le_of_lt hlt161, (by rw [drop_succ_of hd159]; exact hH)⟩, (by have := hlt161; dsimp only; omega), ?_⟩
                exact Le.cut 0 0 rfl (by repeat' (first | exact trivial | refine ⟨⟨_, rfl, rfl⟩, ?_⟩)) (by repeat' (first | exact trivial | refine ⟨⟨_, rfl, rfl⟩, ?_⟩)) rfl
        · rintro v153 hs
          subst hs
          replace hH := hK155
          try dsimp only [flow, flowE] at hH
          show AW _ _ _ (⟨[(0, .s (List.map encInt keys)), (1, .s (List.map encInt skaters)), (2, .s (List.map encInt places)), (7, .R 53), (8, .v (.int .i64 v123))], [(53, .row 1 (List.map encInt v153))], 44, []⟩ : St)
          refine AW.region ?_
          refine AO.pure T rfl rfl rfl ?_
          refine AO.val rfl rfl (arw_ok rfl rfl rfl rfl) ?_
          refine AO.pure T rfl rfl rfl ?_
          refine AO.nil ?_
          refine ⟨(k1, v153, w64 (v123 - 1)), hH, Nat.lt_succ_self _, ?_⟩
          exact Le.cut 53 31 rfl (by repeat' (first | exact trivial | refine ⟨⟨_, rfl, rfl⟩, ?_⟩)) (by repeat' (first | exact trivial | refine ⟨⟨_, rfl, rfl⟩, ?_⟩)) rfl
      · replace hH := condF hc hH
        refine AW.exit ?_
        refine AW.seq ?_
        refine AW.region ?_
        refine AO.pure T rfl rfl rfl ?_
        refine AO.pure T rfl rfl rfl ?_
        refine AO.nil ?_
        refine AW.ret ?_
        cases someE hH
        exact ⟨trivial, _, [31], rfl, .c (.c (.rowR rfl)), by decide⟩

def spec_OrderByPlaces_l1 (keys : List Int) (size : Int) (fuel : Nat) (x9 : (List Int)) : Nat → List Int → List Int → Int → Option (((List Int) × Bool))
  | 0, _, _, _ => none
  | k13 + 1, v65, v66, v67 =>
    cond (decide ((v65.length : Int) > 0))
      (cond ((v67 == 0) && decide (((x9.length : Int).tmod size) > 0))
        ((spec_l1Own_p keys).bind fun x69 =>
        (need (fitsB 8 (x69.length + ([v67]).length))).bind fun u71 =>
        (sliceHi v65 ((x9.length : Int).tmod size)).bind fun x73 =>
        (spec_dwNumbers_p fuel (x69 ++ [v67]) x73).bind fun x75 =>
        (need (fitsB 8 (v66.length + x75.length))).bind fun u77 =>
        (sliceLo v65 ((x9.length : Int).tmod size)).bind fun x79 =>
        spec_OrderByPlaces_l1 keys size fuel x9 k13 x79 (v66 ++ x75) (w64 (v67 + 1)))
        ((spec_l1Own_p keys).bind fun x81 =>
        (need (fitsB 8 (x81.length + ([v67]).length))).bind fun u83 =>
        (sliceHi v65 size).bind fun x85 =>
        (spec_dwNumbers_p fuel (x81 ++ [v67]) x85).bind fun x87 =>
        (need (fitsB 8 (v66.length + x87.length))).bind fun u89 =>
        (sliceLo v65 size).bind fun x91 =>
        spec_OrderByPlaces_l1 keys size fuel x9 k13 x91 (v66 ++ x87) (w64 (v67 + 1))))
      (some (v66, true))
def spec_OrderByPlaces_p (fuel : Nat) (keys : List Int) (skaters : List Int) (places : List Int) (size : Int) : Option ((List Int) × Bool) :=
  (spec_dwKeys_p keys 4).bind fun x1 =>
  (opt (!(!x1)) default (spec_soOrder_p skaters)).bind fun x3 =>
  (opt (!(((!x1) || (!x3)) || ((places.length : Int) != (skaters.length : Int)))) default (spec_l1All_p places 1 99)).bind fun x5 =>
  (opt (!((((!x1) || (!x3)) || ((places.length : Int) != (skaters.length : Int))) || (!x5))) default (spec_soSize_p size)).bind fun x7 =>
  cond (((((!x1) || (!x3)) || ((places.length : Int) != (skaters.length : Int))) || (!x5)) || (!x7))
    (some ([], false))
    ((spec_soFalling_p fuel keys skaters places).bind fun x9 =>
    (need (size != 0)).bind fun u11 =>
    spec_OrderByPlaces_l1 keys size fuel x9 fuel x9 [] 0)
theorem spec_OrderByPlaces_ok (fuel : Nat) (keys : List Int) (skaters : List Int) (places : List Int) (size : Int) (r : ((List Int) × Bool)) (hH : spec_OrderByPlaces_p fuel keys skaters places size = some r) : SpecR Tryz.prog 128 [.s (List.map encInt keys), .s (List.map encInt skaters), .s (List.map encInt places), .v (.int .i64 size)] (.t [.w 1 (r.1.map encInt), .v (.bool r.2)]) := by
  refine fn_ok T Tryz.func128 rfl (by decide) rfl ?_
  refine AW.seq ?_
  refine AW.region ?_
  refine AO.pure T rfl rfl rfl ?_
  refine AO.pure T rfl rfl rfl ?_
  refine AO.nil ?_
  refine AW.seq ?_
  refine AW.seq ?_
  obtain ⟨x1, hx2, hH⟩ := bindE hH
  obtain ⟨x3, hx4, hH⟩ := bindE hH
  obtain ⟨x5, hx6, hH⟩ := bindE hH
  obtain ⟨x7, hx8, hH⟩ := bindE hH
  refine AW.region ?_
  refine AO.pure T rfl rfl rfl ?_
  refine AO.val rfl rfl (callV_ok rfl rfl rfl rfl (spec_dwKeys_ok _ _ _ (hx2)) rfl) ?_
  refine AO.pure T rfl rfl rfl ?_
  refine AO.pure T rfl rfl rfl ?_
  refine AO.pureG T [] rfl trivial rfl rfl ?_
  refine AO.guard [19] rfl ⟨fun h => h, trivial⟩ (fun hg => callV_ok rfl rfl rfl rfl (spec_soOrder_ok _ _ (optT hx4 hg)) rfl) rfl ?_
  refine AO.pureG T [20] rfl ⟨fun h => h, trivial⟩ rfl rfl ?_
  refine AO.val rfl rfl (pick_or rfl rfl rfl rfl) ?_
  refine AO.pure T rfl rfl rfl ?_
  refine AO.pureG T [] rfl trivial rfl rfl ?_
  refine AO.guard [24] rfl ⟨fun h => h, trivial⟩ (fun hg => len_map_ok T rfl rfl rfl) rfl ?_
  refine AO.pureG T [] rfl trivial rfl rfl ?_
  refine AO.guard [26] rfl ⟨fun h => h, trivial⟩ (fun hg => len_map_ok T rfl rfl rfl) rfl ?_
  refine AO.pureG T [25, 27] rfl ⟨fun h => h, fun h => h, trivial⟩ rfl rfl ?_
  refine AO.val rfl rfl (pick_or rfl rfl rfl rfl) ?_
  refine AO.pure T rfl rfl rfl ?_
  refine AO.pureG T [] rfl trivial rfl rfl ?_
  refine AO.guard [31] rfl ⟨fun h => h, trivial⟩ (fun hg => callV_ok rfl rfl rfl rfl (spec_l1All_ok _ _ _ _ (optT hx6 hg)) rfl) rfl ?_
  refine AO.pureG T [32] rfl ⟨fun h => h, trivial⟩ rfl rfl ?_
  refine AO.val rfl rfl (pick_or rfl rfl rfl rfl) ?_
  refine AO.pure T rfl rfl rfl ?_
  refine AO.pureG T [] rfl trivial rfl rfl ?_
  refine AO.guard [36] rfl ⟨fun h => h, trivial⟩ (fun hg => callV_ok rfl rfl rfl rfl (spec_soSize_ok _ _ (optT hx8 hg)) rfl) rfl ?_
  refine AO.pureG T [37] rfl ⟨fun h => h, trivial⟩ rfl rfl ?_
  refine AO.val rfl rfl (pick_or rfl rfl rfl rfl) ?_
  refine AO.nil ?_
  refine AW.le (Le.cut 0 0 (σ' := (⟨[(0, .s (List.map encInt keys)), (1, .s (List.map encInt skaters)), (2, .s (List.map encInt places)), (3, .v (.int .i64 size)), (39, .v (.bool (((((!x1) || (!x3)) || ((places.length : Int) != (skaters.length : Int))) || (!x5)) || (!x7))))], [], 76, []⟩ : St)) rfl (by repeat' (first | exact trivial | refine ⟨⟨_, rfl, rfl⟩, ?_⟩)) (by repeat' (first | exact trivial | refine ⟨⟨_, rfl, rfl⟩, ?_⟩)) rfl) ?_
  refine AW.cond (b := (((((!x1) || (!x3)) || ((places.length : Int) != (skaters.length : Int))) || (!x5)) || (!x7))) rfl (fun hc => ?_) (fun hc => ?_)
  · replace hH := condT hc hH
    refine AW.seq ?_
    refine AW.region ?_
    refine AO.pure T rfl rfl rfl ?_
    refine AO.pure T rfl rfl rfl ?_
    refine AO.nil ?_
    refine AW.ret ?_
    cases someE hH
    exact ⟨trivial, _, [], rfl, .t (expLG_cons (.c .nil) (expLG_cons (.c .v) (expLG_nil))), by decide⟩
  · replace hH := condF hc hH
    refine AW.skip ?_
    refine AW.seq ?_
    obtain ⟨x9, hx10, hH⟩ := bindE hH
    refine AW.region ?_
    refine AO.pure T rfl rfl rfl ?_
    refine AO.pure T rfl rfl rfl ?_
    refine AO.pure T rfl rfl rfl ?_
    refine AO.step rfl (call_ok rfl 1 rfl rfl rfl (spec_soFalling_ok fuel _ _ _ _ (hx10)) rfl rfl rfl) ?_
    refine AO.pure T rfl rfl rfl ?_
    refine AO.nil ?_
    refine AW.seq ?_
    refine AW.region ?_
    refine AO.pure T rfl rfl rfl ?_
    refine AO.nil ?_
    refine AW.seq ?_
    obtain ⟨u11, hx12, hH⟩ := bindE hH
    refine AW.region ?_
    refine AO.pure T rfl rfl rfl ?_
    refine AO.val rfl rfl (len_row_ok T rfl rfl rfl rfl) ?_
    refine AO.pure T rfl rfl rfl ?_
    refine AO.val rfl rfl (rem_ok rfl rfl rfl (neZ (needT (hx12)))) ?_
    refine AO.pure T rfl rfl rfl ?_
    refine AO.nil ?_
    refine AW.seq ?_
    refine AW.seq ?_
    refine AW.region ?_
    refine AO.pure T rfl rfl rfl ?_
    refine AO.nil ?_
    refine AW.block ?_
    refine AW.loopS (fun s : Nat × (List Int) × (List Int) × Int => (⟨[(0, .s (List.map encInt keys)), (3, .v (.int .i64 size)), (10, .s (List.map encInt s.2.1)), (11, .R 16), (12, .v (.int .i64 ((x9.length : Int).tmod size))), (13, .v (.int .i64 s.2.2.2))], [(16, .row 1 (List.map encInt s.2.2.1))], 76, []⟩ : St)) (fun s => spec_OrderByPlaces_l1 keys size fuel x9 s.1 s.2.1 s.2.2.1 s.2.2.2 = some r) (fun s => s.1) (fuel, x9, [], 0) hH ?_ ?_
    · refine Le.trans (Le.freezeM 1 (g := encInt) rfl (fun y => .vs rfl)) ?_
      refine Le.trans (Le.void 11 16 1 rfl rfl) ?_
      exact Le.cut 0 0 rfl (by repeat' (first | exact trivial | refine ⟨⟨_, rfl, rfl⟩, ?_⟩)) (by repeat' (first | exact trivial | refine ⟨⟨_, rfl, rfl⟩, ?_⟩)) rfl
    · rintro ⟨k13, v65, v66, v67⟩ hH
      replace hH : spec_OrderByPlaces_l1 keys size fuel x9 k13 v65 v66 v67 = some r := hH
      show AW _ _ _ (⟨[(0, .s (List.map encInt keys)), (3, .v (.int .i64 size)), (10, .s (List.map encInt v65)), (11, .R 16), (12, .v (.int .i64 ((x9.length : Int).tmod size))), (13, .v (.int .i64 v67))], [(16, .row 1 (List.map encInt v66))], 76, []⟩ : St)
      cases k13 with
      | zero => cases (show none = some _ from hH)
      | succ k13 =>
        rw [spec_OrderByPlaces_l1] at hH
        refine AW.seq ?_
        refine AW.seq ?_
        refine AW.region ?_
        refine AO.pure T rfl rfl rfl ?_
        refine AO.val rfl rfl (len_map_ok T rfl rfl rfl) ?_
        refine AO.pure T rfl rfl rfl ?_
        refine AO.nil ?_
        refine AW.cond (b := decide ((v65.length : Int) > 0)) rfl (fun hc => ?_) (fun hc => ?_)
        · replace hH := condT hc hH
          refine AW.skip ?_
          refine AW.seq ?_
          refine AW.block ?_
          refine AW.seq ?_
          refine AW.region ?_
          refine AO.pure T rfl rfl rfl ?_
          refine AO.pure T rfl rfl rfl ?_
          refine AO.nil ?_
          refine AW.seq ?_
          refine AW.seq ?_
          refine AW.region ?_
          refine AO.pure T rfl rfl rfl ?_
          refine AO.pure T rfl rfl rfl ?_
          refine AO.pure T rfl rfl rfl ?_
          refine AO.pureG T [] rfl trivial rfl rfl ?_
          refine AO.pureG T [57] rfl ⟨fun h => h, trivial⟩ rfl rfl ?_
          refine AO.val rfl rfl (pick_and rfl rfl rfl rfl) ?_
          refine AO.nil ?_
          refine AW.cond (b := ((v67 == 0) && decide (((x9.length : Int).tmod size) > 0))) rfl (fun hc => ?_) (fun hc => ?_)
          · replace hH := condT hc hH
            refine AW.region ?_
            refine AO.pure T rfl rfl rfl ?_
            refine AO.pure T rfl rfl rfl ?_
            refine AO.nil ?_
            refine AW.seq ?_
            obtain ⟨x69, hx70, hH⟩ := bindE hH
            obtain ⟨u71, hx72, hH⟩ := bindE hH
            obtain ⟨x73, hx74, hH⟩ := bindE hH
            obtain ⟨x75, hx76, hH⟩ := bindE hH
            obtain ⟨u77, hx78, hH⟩ := bindE hH
            refine AW.drawn 10 22 [] mix (by kernel_rfl) rfl ?_
            refine AD.pure T rfl rfl rfl ?_
            refine AD.pure T rfl rfl rfl ?_
            refine AD.q (FStep.call rfl rfl rfl rfl rfl (spec_l1Own_ok _ _ (hx70)) rfl rfl) (impT_names _ _) (impT_le _ _) rfl ?_
            refine AD.pure T rfl rfl rfl ?_
            refine AD.q (FStep.mk T (f := encInt) (l := [v67]) rfl rfl rfl rfl rfl rfl rfl rfl rfl (fun _ => rfl) rfl rfl rfl rfl) (by simp [namesIn]) (Nat.le_succ _) rfl ?_
            refine AD.k rfl rfl (FStep.app_rv T rfl rfl rfl rfl rfl rfl rfl (by decide) rfl rfl rfl rfl (fun _ => rfl) (needT (hx72)) rfl) rfl rfl rfl ?_
            refine AD.pure T rfl rfl rfl ?_
            refine AD.pure T rfl rfl rfl ?_
            refine AD.val rfl rfl (slice_hi_map_ok T rfl rfl rfl rfl rfl (hx74) (fun _ => rfl)) ?_
            refine AD.qd rfl (FStep.callL rfl rfl rfl rfl (es := [.s (List.map encInt (x69 ++ [v67])), .s (List.map encInt x73)]) ⟨(.rowR rfl (.map fun y => .vs rfl)), .free rfl, trivial⟩ (spec_dwNumbers_ok fuel _ _ _ (hx76)) (zfree_map (fun y => (.cons (zfree_v _) .nil))) rfl rfl) (impT_names _ _) (impT_le _ _) rfl ?_
            refine AD.nil ?_
            refine AO.step rfl (app_rv_map T rfl 26 rfl rfl rfl rfl rfl (by decide) rfl rfl rfl rfl (fun _ => rfl) (needT (hx78)) rfl rfl) ?_
            refine AO.pure T rfl rfl rfl ?_
            refine AO.nil ?_
            refine AW.le (Le.cut 0 0 (σ' := (⟨[(0, .s (List.map encInt keys)), (3, .v (.int .i64 size)), (10, .s (List.map encInt v65)), (11, .R 26), (12, .v (.int .i64 ((x9.length : Int).tmod size))), (13, .v (.int .i64 v67)), (14, .v (.int .i64 ((x9.length : Int).tmod size)))], [(26, .row 1 (List.map encInt (v66 ++ x75)))], 76, []⟩ : St)) rfl (by repeat' (first | exact trivial | refine ⟨⟨_, rfl, rfl⟩, ?_⟩)) (by repeat' (first | exact trivial | refine ⟨⟨_, rfl, rfl⟩, ?_⟩)) rfl) ?_
            obtain ⟨x79, hx80, hH⟩ := bindE hH
            refine AW.region ?_
            refine AO.pure T rfl rfl rfl ?_
            refine AO.pure T rfl rfl rfl ?_
            refine AO.val rfl rfl (slice_lo_map_ok T rfl rfl rfl rfl rfl (hx80) (fun _ => rfl)) ?_
            refine AO.pure T rfl rfl rfl ?_
            refine AO.nil ?_
            refine AW.region ?_
            refine AO.pure T rfl rfl rfl ?_
            refine AO.val rfl rfl (arw_ok rfl rfl rfl rfl) ?_
            refine AO.pure T rfl rfl rfl ?_
            refine AO.nil ?_
            refine ⟨(k13, x79, (v66 ++ x75), w64 (v67 + 1)), hH, Nat.lt_succ_self _, ?_⟩
            exact Le.cut 26 16 rfl (by repeat' (first | exact trivial | refine ⟨⟨_, rfl, rfl⟩, ?_⟩)) (by repeat' (first | exact trivial | refine ⟨⟨_, rfl, rfl⟩, ?_⟩)) rfl
          · replace hH := condF hc hH
            refine AW.skip ?_
            refine AW.seq ?_
            obtain ⟨x81, hx82, hH⟩ := bindE hH
            obtain ⟨u83, hx84, hH⟩ := bindE hH
            obtain ⟨x85, hx86, hH⟩ := bindE hH
            obtain ⟨x87, hx88, hH⟩ := bindE hH
            obtain ⟨u89, hx90, hH⟩ := bindE hH
            refine AW.drawn 10 27 [] mix (by kernel_rfl) rfl ?_
            refine AD.pure T rfl rfl rfl ?_
            refine AD.pure T rfl rfl rfl ?_
            refine AD.q (FStep.call rfl rfl rfl rfl rfl (spec_l1Own_ok _ _ (hx82)) rfl rfl) (impT_names _ _) (impT_le _ _) rfl ?_
            refine AD.pure T rfl rfl rfl ?_
            refine AD.q (FStep.mk T (f := encInt) (l := [v67]) rfl rfl rfl rfl rfl rfl rfl rfl rfl (fun _ => rfl) rfl rfl rfl rfl) (by simp [namesIn]) (Nat.le_succ _) rfl ?_
            refine AD.k rfl rfl (FStep.app_rv T rfl rfl rfl rfl rfl rfl rfl (by decide) rfl rfl rfl rfl (fun _ => rfl) (needT (hx84)) rfl) rfl rfl rfl ?_
            refine AD.pure T rfl rfl rfl ?_
            refine AD.pure T rfl rfl rfl ?_
            refine AD.val rfl rfl (slice_hi_map_ok T rfl rfl rfl rfl rfl (hx86) (fun _ => rfl)) ?_
            refine AD.qd rfl (FStep.callL rfl rfl rfl rfl (es := [.s (List.map encInt (x81 ++ [v67])), .s (List.map encInt x85)]) ⟨(.rowR rfl (.map fun y => .vs rfl)), .free rfl, trivial⟩ (spec_dwNumbers_ok fuel _ _ _ (hx88)) (zfree_map (fun y => (.cons (zfree_v _) .nil))) rfl rfl) (impT_names _ _) (impT_le _ _) rfl ?_
            refine AD.nil ?_
            refine AO.step rfl (app_rv_map T rfl 31 rfl rfl rfl rfl rfl (by decide) rfl rfl rfl rfl (fun _ => rfl) (needT (hx90)) rfl rfl) ?_
            refine AO.pure T rfl rfl rfl ?_
            refine AO.nil ?_
            obtain ⟨x91, hx92, hH⟩ := bindE hH
            refine AW.region ?_
            refine AO.pure T rfl rfl rfl ?_
            refine AO.pure T rfl rfl rfl ?_
            refine AO.val rfl rfl (slice_lo_map_ok T rfl rfl rfl rfl rfl (hx92) (fun _ => rfl)) ?_
            refine AO.pure T rfl rfl rfl ?_
            refine AO.nil ?_
            refine AW.le (Le.cut 0 0 (σ' := (⟨[(0, .s (List.map encInt keys)), (3, .v (.int .i64 size)), (10, .s (List.map encInt x91)), (11, .R 31), (12, .v (.int .i64 ((x9.length : Int).tmod size))), (13, .v (.int .i64 v67))], [(31, .row 1 (List.map encInt (v66 ++ x87)))], 76, []⟩ : St)) rfl (by repeat' (first | exact trivial | refine ⟨⟨_, rfl, rfl⟩, ?_⟩)) (by repeat' (first | exact trivial | refine ⟨⟨_, rfl, rfl⟩, ?_⟩)) rfl) ?_
            refine AW.region ?_
            refine AO.pure T rfl rfl rfl ?_
            refine AO.val rfl rfl (arw_ok rfl rfl rfl rfl) ?_
            refine AO.pure T rfl rfl rfl ?_
            refine AO.nil ?_
            refine ⟨(k13, x91, (v66 ++ x87), w64 (v67 + 1)), hH, Nat.lt_succ_self _, ?_⟩
            exact Le.cut 31 16 rfl (by repeat' (first | exact trivial | refine ⟨⟨_, rfl, rfl⟩, ?_⟩)) (by repeat' (first | exact trivial | refine ⟨⟨_, rfl, rfl⟩, ?_⟩)) rfl
        · replace hH := condF hc hH
          refine AW.exit ?_
          refine AW.seq ?_
          refine AW.region ?_
          refine AO.pure T rfl rfl rfl ?_
          refine AO.pure T rfl rfl rfl ?_
          refine AO.pure T rfl rfl rfl ?_
          refine AO.nil ?_
          refine AW.ret ?_
          cases someE hH
          exact ⟨trivial, _, [16], rfl, .t (expLG_cons (.c (.rowR rfl)) (expLG_cons (.c .v) (expLG_nil))), by decide⟩

def spec_evDraw_l1 (e : Event) (fuel : Nat) (x3 : Event) : List Int → Nat → List Int → List Int → Option ((Event × Bool))
  | [], k11, v35, v36 =>
    (spec_OrderByPlaces_p fuel [e.key, e.segment] v35 v36 e.size).bind fun x38 =>
    (spec_evIf_p (Event.mk x3.segments x3.size x3.key x3.entrants x3.gone x3.segment x38.1 x3.results) x38.2).bind fun x40 =>
    some ((Event.mk x40.1.segments x40.1.size x40.1.key x40.1.entrants x40.1.gone x40.1.segment x40.1.order x40.1.results), x40.2)
  | y12 :: ys13, k11, v35, v36 =>
    (getI e.results (k11 : Int)).bind fun x42 =>
    (spec_l1Has_p e.gone x42.skater).bind fun x44 =>
    cond (!x44)
      ((need (fitsB 8 (v35.length + ([x42.skater]).length))).bind fun u46 =>
      (need (fitsB 8 (v36.length + ([y12]).length))).bind fun u48 =>
      spec_evDraw_l1 e fuel x3 ys13 (k11 + 1) (v35 ++ [x42.skater]) (v36 ++ [y12]))
      (spec_evDraw_l1 e fuel x3 ys13 (k11 + 1) v35 v36)
def spec_evDraw_p (fuel : Nat) (e : Event) : Option (Event × Bool) :=
  (spec_evThere_p e).bind fun x1 =>
  cond (decide ((e.order.length : Int) > 0) || ((x1.length : Int) == 0))
    (some ((Event.mk 0 0 0 [] [] 0 [] []), false))
    ((spec_evOwn_p e).bind fun x3 =>
    cond (e.segment == 0)
      ((spec_StartOrder_p fuel [e.key, 0] x1 e.size).bind fun x5 =>
      (spec_evIf_p (Event.mk x3.segments x3.size x3.key x3.entrants x3.gone x3.segment x5.1 x3.results) x5.2).bind fun x7 =>
      some ((Event.mk x7.1.segments x7.1.size x7.1.key x7.1.entrants x7.1.gone x7.1.segment x7.1.order x7.1.results), x7.2))
      ((spec_rkPlaces_p fuel e.results).bind fun x9 =>
      spec_evDraw_l1 e fuel x3 x9 0 [] []))
theorem spec_evDraw_ok (fuel : Nat) (e : Event) (r : (Event × Bool)) (hH : spec_evDraw_p fuel e = some r) : SpecR Tryz.prog 86 [.g (encEvent e)] (.t [.g (encEvent r.1), .v (.bool r.2)]) := by
  refine fn_ok T Tryz.func86 rfl (by decide) rfl ?_
  refine AW.seq ?_
  refine AW.region ?_
  refine AO.step rfl (box_ok T rfl 1 rfl rfl rfl rfl) ?_
  refine AO.step rfl (alloc_ok T rfl 2 rfl rfl rfl rfl rfl) ?_
  refine AO.pure T rfl rfl rfl ?_
  refine AO.nil ?_
  refine AW.seq ?_
  obtain ⟨x1, hx2, hH⟩ := bindE hH
  refine AW.region ?_
  refine AO.pure T (d := .g [.v (.int .i64 e.segments), .v (.int .i64 e.size), .v (.int .i64 e.key), .s (List.map encEntrant e.entrants), .s (List.map encInt e.gone), .v (.int .i64 e.segment), .s (List.map encInt e.order), .s (List.map encResult e.results)]) rfl rfl rfl ?_
  refine AO.step rfl (call_ok rfl 3 rfl rfl rfl (spec_evThere_ok _ _ (hx2)) rfl rfl rfl) ?_
  refine AO.pure T rfl rfl rfl ?_
  refine AO.nil ?_
  refine AW.seq ?_
  refine AW.seq ?_
  refine AW.region ?_
  refine AO.pure T rfl rfl rfl ?_
  refine AO.pure T rfl rfl rfl ?_
  refine AO.val rfl rfl (len_map_ok T rfl rfl rfl) ?_
  refine AO.pure T rfl rfl rfl ?_
  refine AO.pure T rfl rfl rfl ?_
  refine AO.pureG T [] rfl trivial rfl rfl ?_
  refine AO.guard [22] rfl ⟨fun h => h, trivial⟩ (fun hg => len_row_ok T rfl rfl rfl rfl) rfl ?_
  refine AO.pureG T [23] rfl ⟨fun h => h, trivial⟩ rfl rfl ?_
  refine AO.val rfl rfl (pick_or rfl rfl rfl rfl) ?_
  refine AO.nil ?_
  refine AW.cond (b := (decide ((e.order.length : Int) > 0) || ((x1.length : Int) == 0))) rfl (fun hc => ?_) (fun hc => ?_)
  · replace hH := condT hc hH
    refine AW.seq ?_
    refine AW.region ?_
    refine AO.pure T (d := .g [.v (.int .i64 0), .v (.int .i64 0), .v (.int .i64 0), .w 0 [], .w 0 [], .v (.int .i64 0), .w 0 [], .w 0 []]) rfl rfl rfl ?_
    refine AO.step rfl (store_okE T rfl rfl rfl rfl rfl rfl rfl rfl rfl (ds' := [.v (.int .i64 0), .v (.int .i64 0), .v (.int .i64 0), .w 0 [], .w 0 [], .v (.int .i64 0), .w 0 [], .w 0 []]) rfl) ?_
    refine AO.pure T rfl rfl rfl ?_
    refine AO.nil ?_
    refine AW.ret ?_
    cases someE hH
    exact ⟨trivial, _, [], rfl, .t (expLG_cons (.g (expLC_cons .v (expLC_cons .v (expLC_cons .v (expLC_cons .nilS (expLC_cons .nilS (expLC_cons .v (expLC_cons .nilS (expLC_cons .nilS (expLC_nil)))))))))) (expLG_cons (.c .v) (expLG_nil))), by decide⟩
  · replace hH := condF hc hH
    refine AW.skip ?_
    refine AW.seq ?_
    obtain ⟨x3, hx4, hH⟩ := bindE hH
    refine AW.region ?_
    refine AO.pure T (d := .g [.v (.int .i64 e.segments), .v (.int .i64 e.size), .v (.int .i64 e.key), .s (List.map encEntrant e.entrants), .s (List.map encInt e.gone), .v (.int .i64 e.segment), .s (List.map encInt e.order), .s (List.map encResult e.results)]) rfl rfl rfl ?_
    refine AO.step rfl (call_ok rfl 4 rfl rfl rfl (spec_evOwn_ok _ _ (hx4)) rfl rfl rfl) ?_
    refine AO.step rfl (alloc_ok T rfl 8 rfl rfl rfl rfl rfl) ?_
    refine AO.step rfl (store_okE T rfl rfl rfl rfl rfl rfl rfl rfl rfl (ds' := [.v (.int .i64 x3.segments), .v (.int .i64 x3.size), .v (.int .i64 x3.key), .R 4, .R 5, .v (.int .i64 x3.segment), .R 6, .R 7]) rfl) ?_
    refine AO.nil ?_
    refine AW.seq ?_
    refine AW.seq ?_
    refine AW.region ?_
    refine AO.pure T rfl rfl rfl ?_
    refine AO.pure T rfl rfl rfl ?_
    refine AO.pure T rfl rfl rfl ?_
    refine AO.nil ?_
    refine AW.cond (b := (e.segment == 0)) rfl (fun hc => ?_) (fun hc => ?_)
    · replace hH := condT hc hH
      refine AW.seq ?_
      obtain ⟨x5, hx6, hH⟩ := bindE hH
      refine AW.region ?_
      refine AO.pure T rfl rfl rfl ?_
      refine AO.pure T rfl rfl rfl ?_
      refine AO.step rfl (mk_map_ok T rfl 9 rfl rfl rfl rfl rfl (f := encInt) (l := [e.key, 0]) rfl rfl (fun _ => rfl) rfl rfl rfl rfl rfl) ?_
      refine AO.pure T rfl rfl rfl ?_
      refine AO.pure T rfl rfl rfl ?_
      refine AO.pure T rfl rfl rfl ?_
      refine AO.step rfl (callL_ok rfl 10 rfl rfl (es := [.s (List.map encInt [e.key, 0]), .s (List.map encEntrant x1), .v (.int .i64 e.size)]) (by exact ⟨(.rowR rfl (.map fun y => .vs rfl)), (.rowR rfl (.map fun y => .vs rfl)), .free rfl, trivial⟩) (spec_StartOrder_ok fuel _ _ _ _ (hx6)) (zfree_t (zfl (.cons (zfree_map (fun y => (.cons (zfree_v _) .nil))) (.cons (zfree_v _) .nil)))) rfl rfl rfl) ?_
      refine AO.pure T rfl rfl rfl ?_
      refine AO.pure T rfl rfl rfl ?_
      refine AO.pure T rfl rfl rfl ?_
      refine AO.pure T rfl rfl rfl ?_
      refine AO.pure T rfl rfl rfl ?_
      refine AO.nil ?_
      refine AW.le (Le.cut 0 0 (σ' := (⟨[(2, .p 2 0), (5, .p 8 0), (6, .R 10), (7, .v (.bool x5.2))], [(2, .box [.v (.int .i64 0), .v (.int .i64 0), .v (.int .i64 0), .w 0 [], .w 0 [], .v (.int .i64 0), .w 0 [], .w 0 []]), (4, .row 2 (List.map encEntrant x3.entrants)), (5, .row 1 (List.map encInt x3.gone)), (6, .row 1 (List.map encInt x3.order)), (7, .row 2 (List.map encResultO x3.results)), (8, .box [.v (.int .i64 x3.segments), .v (.int .i64 x3.size), .v (.int .i64 x3.key), .R 4, .R 5, .v (.int .i64 x3.segment), .R 6, .R 7]), (10, .row 1 (List.map encInt x5.1))], 98, []⟩ : St)) rfl (by repeat' (first | exact trivial | refine ⟨⟨_, rfl, rfl⟩, ?_⟩)) (by repeat' (first | exact trivial | refine ⟨⟨_, rfl, rfl⟩, ?_⟩)) rfl) ?_
      refine AW.seq ?_
      refine AW.region ?_
      refine AO.pure T rfl rfl rfl ?_
      refine AO.pure T rfl rfl rfl ?_
      refine AO.step rfl (store_okE T rfl rfl rfl rfl rfl rfl rfl rfl rfl (ds' := [.v (.int .i64 x3.segments), .v (.int .i64 x3.size), .v (.int .i64 x3.key), .R 4, .R 5, .v (.int .i64 x3.segment), .R 10, .R 7]) rfl) ?_
      refine AO.nil ?_
      refine AW.seq ?_
      obtain ⟨x7, hx8, hH⟩ := bindE hH
      refine AW.le (Le.freezeM 4 (g := encEntrant) rfl (fun y => .vs rfl)) ?_
      refine AW.le (Le.freezeM 5 (g := encInt) rfl (fun y => .vs rfl)) ?_
      refine AW.le (Le.freezeM 7 (g := encResult) rfl (fun y => frzResult y)) ?_
      refine AW.le (Le.freezeM 10 (g := encInt) rfl (fun y => .vs rfl)) ?_
      refine AW.region ?_
      refine AO.pure T (d := .g [.v (.int .i64 x3.segments), .v (.int .i64 x3.size), .v (.int .i64 x3.key), .s (List.map encEntrant x3.entrants), .s (List.map encInt x3.gone), .v (.int .i64 x3.segment), .s (List.map encInt x5.1), .s (List.map encResult x3.results)]) rfl rfl rfl ?_
      refine AO.pure T rfl rfl rfl ?_
      refine AO.val rfl rfl (callV_ok rfl rfl rfl rfl (spec_evIf_ok _ _ _ (hx8)) rfl) ?_
      refine AO.pure T (d := .g [.v (.int .i64 x7.1.segments), .v (.int .i64 x7.1.size), .v (.int .i64 x7.1.key), .s (List.map encEntrant x7.1.entrants), .s (List.map encInt x7.1.gone), .v (.int .i64 x7.1.segment), .s (List.map encInt x7.1.order), .s (List.map encResult x7.1.results)]) rfl rfl rfl ?_
      refine AO.pure T rfl rfl rfl ?_
      refine AO.step rfl (store_okE T rfl rfl rfl rfl rfl rfl rfl rfl rfl (ds' := [.v (.int .i64 x7.1.segments), .v (.int .i64 x7.1.size), .v (.int .i64 x7.1.key), .s (List.map encEntrant x7.1.entrants), .s (List.map encInt x7.1.gone), .v (.int .i64 x7.1.segment), .s (List.map encInt x7.1.order), .s (List.map encResult x7.1.results)]) rfl) ?_
      refine AO.pure T rfl rfl rfl ?_
      refine AO.nil ?_
      refine AW.ret ?_
      cases someE hH
      exact ⟨trivial, _, [], rfl, .t (expLG_cons (.g (expLC_cons .v (expLC_cons .v (expLC_cons .v (expLC_cons .s (expLC_cons .s (expLC_cons .v (expLC_cons .s (expLC_cons .s (expLC_nil)))))))))) (expLG_cons (.c .v) (expLG_nil))), by decide⟩
    · replace hH := condF hc hH
      refine AW.skip ?_
      refine AW.seq ?_
      refine AW.region ?_
      refine AO.pure T rfl rfl rfl ?_
      refine AO.pure T rfl rfl rfl ?_
      refine AO.nil ?_
      refine AW.le (Le.cut 0 0 (σ' := (⟨[(1, .p 1 0), (2, .p 2 0), (5, .p 8 0), (8, .w 0 []), (9, .w 0 [])], [(1, .box [.v (.int .i64 e.segments), .v (.int .i64 e.size), .v (.int .i64 e.key), .s (List.map encEntrant e.entrants), .s (List.map encInt e.gone), .v (.int .i64 e.segment), .s (List.map encInt e.order), .s (List.map encResult e.results)]), (2, .box [.v (.int .i64 0), .v (.int .i64 0), .v (.int .i64 0), .w 0 [], .w 0 [], .v (.int .i64 0), .w 0 [], .w 0 []]), (4, .row 2 (List.map encEntrant x3.entrants)), (5, .row 1 (List.map encInt x3.gone)), (6, .row 1 (List.map encInt x3.order)), (7, .row 2 (List.map encResultO x3.results)), (8, .box [.v (.int .i64 x3.segments), .v (.int .i64 x3.size), .v (.int .i64 x3.key), .R 4, .R 5, .v (.int .i64 x3.segment), .R 6, .R 7])], 98, []⟩ : St)) rfl (by repeat' (first | exact trivial | refine ⟨⟨_, rfl, rfl⟩, ?_⟩)) (by repeat' (first | exact trivial | refine ⟨⟨_, rfl, rfl⟩, ?_⟩)) rfl) ?_
      refine AW.seq ?_
      refine AW.seq ?_
      obtain ⟨x9, hx10, hH⟩ := bindE hH
      refine AW.region ?_
      refine AO.pure T rfl rfl rfl ?_
      refine AO.pure T rfl rfl rfl ?_
      refine AO.step rfl (call_ok rfl 11 rfl rfl rfl (spec_rkPlaces_ok fuel _ _ (hx10)) rfl rfl rfl) ?_
      refine AO.val rfl rfl (len_row_ok T rfl rfl rfl rfl) ?_
      refine AO.pure T rfl rfl rfl ?_
      refine AO.nil ?_
      refine AW.block ?_
      refine AW.loopS (fun s : Nat × (List Int) × (List Int) => (⟨[(1, .p 1 0), (2, .p 2 0), (5, .p 8 0), (8, .R 17), (9, .R 19), (51, .R 11), (52, .v (.int .i64 (x9.length : Int))), (53, .v (.int .i64 (s.1 : Int)))], [(1, .box [.v (.int .i64 e.segments), .v (.int .i64 e.size), .v (.int .i64 e.key), .s (List.map encEntrant e.entrants), .s (List.map encInt e.gone), .v (.int .i64 e.segment), .s (List.map encInt e.order), .s (List.map encResult e.results)]), (2, .box [.v (.int .i64 0), .v (.int .i64 0), .v (.int .i64 0), .w 0 [], .w 0 [], .v (.int .i64 0), .w 0 [], .w 0 []]), (4, .row 2 (List.map encEntrant x3.entrants)), (5, .row 1 (List.map encInt x3.gone)), (6, .row 1 (List.map encInt x3.order)), (7, .row 2 (List.map encResultO x3.results)), (8, .box [.v (.int .i64 x3.segments), .v (.int .i64 x3.size), .v (.int .i64 x3.key), .R 4, .R 5, .v (.int .i64 x3.segment), .R 6, .R 7]), (11, .row 1 (List.map encInt x9)), (17, .row 1 (List.map encInt s.2.1)), (19, .row 1 (List.map encInt s.2.2))], 98, []⟩ : St)) (fun s => s.1 ≤ x9.length ∧ spec_evDraw_l1 e fuel x3 (x9.drop s.1) s.1 s.2.1 s.2.2 = some r) (fun s => x9.length - s.1) (0, [], []) ⟨Nat.zero_le _, hH⟩ ?_ ?_
      · refine Le.trans (Le.void 8 17 1 rfl rfl) ?_
        refine Le.trans (Le.void 9 19 1 rfl rfl) ?_
        exact Le.cut 0 0 rfl (by repeat' (first | exact trivial | refine ⟨⟨_, rfl, rfl⟩, ?_⟩)) (by repeat' (first | exact trivial | refine ⟨⟨_, rfl, rfl⟩, ?_⟩)) rfl
      · rintro ⟨k11, v35, v36⟩ ⟨hk, hH⟩
        replace hH : spec_evDraw_l1 e fuel x3 (x9.drop k11) k11 v35 v36 = some r := hH
        show AW _ _ _ (⟨[(1, .p 1 0), (2, .p 2 0), (5, .p 8 0), (8, .R 17), (9, .R 19), (51, .R 11), (52, .v (.int .i64 (x9.length : Int))), (53, .v (.int .i64 (k11 : Int)))], [(1, .box [.v (.int .i64 e.segments), .v (.int .i64 e.size), .v (.int .i64 e.key), .s (List.map encEntrant e.entrants), .s (List.map encInt e.gone), .v (.int .i64 e.segment), .s (List.map encInt e.order), .s (List.map encResult e.results)]), (2, .box [.v (.int .i64 0), .v (.int .i64 0), .v (.int .i64 0), .w 0 [], .w 0 [], .v (.int .i64 0), .w 0 [], .w 0 []]), (4, .row 2 (List.map encEntrant x3.entrants)), (5, .row 1 (List.map encInt x3.gone)), (6, .row 1 (List.map encInt x3.order)), (7, .row 2 (List.map encResultO x3.results)), (8, .box [.v (.int .i64 x3.segments), .v (.int .i64 x3.size), .v (.int .i64 x3.key), .R 4, .R 5, .v (.int .i64 x3.segment), .R 6, .R 7]), (11, .row 1 (List.map encInt x9)), (17, .row 1 (List.map encInt v35)), (19, .row 1 (List.map encInt v36))], 98, []⟩ : St)
        refine AW.boundR (id := 11) (l := x9) rfl (fun hb15 => ?_)
        cases hd14 : x9.drop k11 with
        | nil =>
          rw [hd14] at hH
          rw [spec_evDraw_l1] at hH
          have hlt16 := drop_ge hd14
          refine AW.seq ?_
          refine AW.region ?_
          refine AO.pure T rfl rfl rfl ?_
          refine AO.nil ?_
          refine AW.seq ?_
          refine AW.condF' (b := decide ((k11 : Int) < (x9.length : Int))) rfl (rngF hlt16) ?_
          refine AW.exit ?_
          refine AW.seq ?_
          obtain ⟨x38, hx39, hH⟩ := bindE hH
          refine AW.region ?_
          refine AO.pure T rfl rfl rfl ?_
          refine AO.pure T rfl rfl rfl ?_
          refine AO.pure T rfl rfl rfl ?_
          refine AO.pure T rfl rfl rfl ?_
          refine AO.step rfl (mk_map_ok T rfl 20 rfl rfl rfl rfl rfl (f := encInt) (l := [e.key, e.segment]) rfl rfl (fun _ => rfl) rfl rfl rfl rfl rfl) ?_
          refine AO.pure T rfl rfl rfl ?_
          refine AO.pure T rfl rfl rfl ?_
          refine AO.pure T rfl rfl rfl ?_
          refine AO.pure T rfl rfl rfl ?_
          refine AO.step rfl (callL_ok rfl 21 rfl rfl (es := [.s (List.map encInt [e.key, e.segment]), .s (List.map encInt v35), .s (List.map encInt v36), .v (.int .i64 e.size)]) (by exact ⟨(.rowR rfl (.map fun y => .vs rfl)), (.rowR rfl (.map fun y => .vs rfl)), (.rowR rfl (.map fun y => .vs rfl)), .free rfl, trivial⟩) (spec_OrderByPlaces_ok fuel _ _ _ _ _ (hx39)) (zfree_t (zfl (.cons (zfree_map (fun y => (.cons (zfree_v _) .nil))) (.cons (zfree_v _) .nil)))) rfl rfl rfl) ?_
          refine AO.pure T rfl rfl rfl ?_
          refine AO.pure T rfl rfl rfl ?_
          refine AO.pure T rfl rfl rfl ?_
          refine AO.pure T rfl rfl rfl ?_
          refine AO.pure T rfl rfl rfl ?_
          refine AO.nil ?_
          refine AW.seq ?_
          refine AW.region ?_
          refine AO.pure T rfl rfl rfl ?_
          refine AO.pure T rfl rfl rfl ?_
          refine AO.step rfl (store_okE T rfl rfl rfl rfl rfl rfl rfl rfl rfl (ds' := [.v (.int .i64 x3.segments), .v (.int .i64 x3.size), .v (.int .i64 x3.key), .R 4, .R 5, .v (.int .i64 x3.segment), .R 21, .R 7]) rfl) ?_
          refine AO.nil ?_
          refine AW.seq ?_
          obtain ⟨x40, hx41, hH⟩ := bindE hH
          refine AW.le (Le.freezeM 4 (g := encEntrant) rfl (fun y => .vs rfl)) ?_
          refine AW.le (Le.freezeM 5 (g := encInt) rfl (fun y => .vs rfl)) ?_
          refine AW.le (Le.freezeM 7 (g := encResult) rfl (fun y => frzResult y)) ?_
          refine AW.le (Le.freezeM 21 (g := encInt) rfl (fun y => .vs rfl)) ?_
          refine AW.region ?_
          refine AO.pure T (d := .g [.v (.int .i64 x3.segments), .v (.int .i64 x3.size), .v (.int .i64 x3.key), .s (List.map encEntrant x3.entrants), .s (List.map encInt x3.gone), .v (.int .i64 x3.segment), .s (List.map encInt x38.1), .s (List.map encResult x3.results)]) rfl rfl rfl ?_
          refine AO.pure T rfl rfl rfl ?_
          refine AO.val rfl rfl (callV_ok rfl rfl rfl rfl (spec_evIf_ok _ _ _ (hx41)) rfl) ?_
          refine AO.pure T (d := .g [.v (.int .i64 x40.1.segments), .v (.int .i64 x40.1.size), .v (.int .i64 x40.1.key), .s (List.map encEntrant x40.1.entrants), .s (List.map encInt x40.1.gone), .v (.int .i64 x40.1.segment), .s (List.map encInt x40.1.order), .s (List.map encResult x40.1.results)]) rfl rfl rfl ?_
          refine AO.pure T rfl rfl rfl ?_
          refine AO.step rfl (store_okE T rfl rfl rfl rfl rfl rfl rfl rfl rfl (ds' := [.v (.int .i64 x40.1.segments), .v (.int .i64 x40.1.size), .v (.int .i64 x40.1.key), .s (List.map encEntrant x40.1.entrants), .s (List.map encInt x40.1.gone), .v (.int .i64 x40.1.segment), .s (List.map encInt x40.1.order), .s (List.map encResult x40.1.results)]) rfl) ?_
          refine AO.pure T rfl rfl rfl ?_
          refine AO.nil ?_
          refine AW.le (Le.cut 0 0 (σ' := (⟨[(2, .p 2 0), (3, .v (.bool x40.2))], [(2, .box [.v (.int .i64 x40.1.segments), .v (.int .i64 x40.1.size), .v (.int .i64 x40.1.key), .s (List.map encEntrant x40.1.entrants), .s (List.map encInt x40.1.gone), .v (.int .i64 x40.1.segment), .s (List.map encInt x40.1.order), .s (List.map encResult x40.1.results)])], 98, []⟩ : St)) rfl (by repeat' (first | exact trivial | refine ⟨⟨_, rfl, rfl⟩, ?_⟩)) (by repeat' (first | exact trivial | refine ⟨⟨_, rfl, rfl⟩, ?_⟩)) rfl) ?_
          refine AW.ret ?_
          cases someE hH
          exact ⟨trivial, _, [], rfl, .t (expLG_cons (.g (expLC_cons .v (expLC_cons .v (expLC_cons .v (expLC_cons .s (expLC_cons .s (expLC_cons .v (expLC_cons .s (expLC_cons .s (expLC_nil)))))))))) (expLG_cons (.c .v) (expLG_nil))), by decide⟩
        | cons y12 ys13 =>
          rw [hd14] at hH
          rw [spec_evDraw_l1] at hH
          have hlt16 := drop_lt hd14
          refine AW.seq ?_
          refine AW.region ?_
          refine AO.pure T rfl rfl rfl ?_
          refine AO.nil ?_
          refine AW.seq ?_
          refine AW.condT' (b := decide ((k11 : Int) < (x9.length : Int))) rfl (rngT hlt16) ?_
          refine AW.skip ?_
          refine AW.seq ?_
          refine AW.block ?_
          refine AW.seq ?_
          refine AW.region ?_
          refine AO.pure T rfl rfl rfl ?_
          refine AO.val rfl rfl (ix_row_ok T rfl rfl rfl rfl rfl rfl (getI_drop hd14)) ?_
          refine AO.val rfl rfl (load_row_ok T rfl rfl rfl rfl (getI_get (getI_drop hd14)) rfl rfl rfl) ?_
          refine AO.pure T rfl rfl rfl ?_
          refine AO.pure T rfl rfl rfl ?_
          refine AO.nil ?_
          refine AW.seq ?_
          obtain ⟨x42, hx43, hH⟩ := bindE hH
          refine AW.region ?_
          refine AO.pure T rfl rfl rfl ?_
          refine AO.pure T rfl rfl rfl ?_
          refine AO.pure T rfl rfl rfl ?_
          refine AO.val rfl rfl (ix_map_ok T rfl rfl rfl rfl rfl (hx43) rfl) ?_
          refine AO.pure T rfl rfl rfl ?_
          refine AO.pure T rfl rfl rfl ?_
          refine AO.pure T rfl rfl rfl ?_
          refine AO.nil ?_
          refine AW.seq ?_
          obtain ⟨x44, hx45, hH⟩ := bindE hH
          refine AW.region ?_
          refine AO.pure T rfl rfl rfl ?_
          refine AO.pure T rfl rfl rfl ?_
          refine AO.pure T rfl rfl rfl ?_
          refine AO.val rfl rfl (callV_ok rfl rfl rfl rfl (spec_l1Has_ok _ _ _ (hx45)) rfl) ?_
          refine AO.pure T rfl rfl rfl ?_
          refine AO.nil ?_
          refine AW.cond (b := (!x44)) rfl (fun hc => ?_) (fun hc => ?_)
          · replace hH := condT hc hH
            refine AW.seq ?_
            obtain ⟨u46, hx47, hH⟩ := bindE hH
            refine AW.region ?_
            refine AO.pure T rfl rfl rfl ?_
            refine AO.pure T rfl rfl rfl ?_
            refine AO.step rfl (mk_map_ok T rfl 22 rfl rfl rfl rfl rfl (f := encInt) (l := [x42.skater]) rfl rfl (fun _ => rfl) rfl rfl rfl rfl rfl) ?_
            refine AO.step rfl (app_rv_map T rfl 23 rfl rfl rfl rfl rfl (by decide) rfl rfl rfl rfl (fun _ => rfl) (needT (hx47)) rfl rfl) ?_
            refine AO.pure T rfl rfl rfl ?_
            refine AO.nil ?_
            obtain ⟨u48, hx49, hH⟩ := bindE hH
            refine AW.region ?_
            refine AO.pure T rfl rfl rfl ?_
            refine AO.pure T rfl rfl rfl ?_
            refine AO.step rfl (mk_map_ok T rfl 24 rfl rfl rfl rfl rfl (f := encInt) (l := [y12]) rfl rfl (fun _ => rfl) rfl rfl rfl rfl rfl) ?_
            refine AO.step rfl (app_rv_map T rfl 25 rfl rfl rfl rfl rfl (by decide) rfl rfl rfl rfl (fun _ => rfl) (needT (hx49)) rfl rfl) ?_
            refine AO.pure T rfl rfl rfl ?_
            refine AO.nil ?_
            refine AW.le (Le.cut 0 0 (σ' := (⟨[(1, .p 1 0), (2, .p 2 0), (5, .p 8 0), (8, .R 23), (9, .R 25), (51, .R 11), (52, .v (.int .i64 (x9.length : Int))), (53, .v (.int .i64 (k11 : Int)))], [(1, .box [.v (.int .i64 e.segments), .v (.int .i64 e.size), .v (.int .i64 e.key), .s (List.map encEntrant e.entrants), .s (List.map encInt e.gone), .v (.int .i64 e.segment), .s (List.map encInt e.order), .s (List.map encResult e.results)]), (2, .box [.v (.int .i64 0), .v (.int .i64 0), .v (.int .i64 0), .w 0 [], .w 0 [], .v (.int .i64 0), .w 0 [], .w 0 []]), (4, .row 2 (List.map encEntrant x3.entrants)), (5, .row 1 (List.map encInt x3.gone)), (6, .row 1 (List.map encInt x3.order)), (7, .row 2 (List.map encResultO x3.results)), (8, .box [.v (.int .i64 x3.segments), .v (.int .i64 x3.size), .v (.int .i64 x3.key), .R 4, .R 5, .v (.int .i64 x3.segment), .R 6, .R 7]), (11, .row 1 (List.map encInt x9)), (23, .row 1 (List.map encInt (v35 ++ [x42.skater]))), (25, .row 1 (List.map encInt (v36 ++ [y12])))], 98, []⟩ : St)) rfl (by repeat' (first | exact trivial | refine ⟨⟨_, rfl, rfl⟩, ?_⟩)) (by repeat' (first | exact trivial | refine ⟨⟨_, rfl, rfl⟩, ?_⟩)) rfl) ?_
            refine AW.region ?_
            refine AO.val rfl rfl (ar_ok rfl rfl rfl rfl (inI_succ hlt16 hb15)) ?_
            refine AO.pure T rfl rfl rfl ?_
            refine AO.nil ?_
            refine ⟨(k11 + 1, (v35 ++ [x42.skater]), (v36 ++ [y12])), ⟨Nat.succ_le_of_lt hlt16, (by rw [drop_succ_of hd14]; exact hH)⟩, (by have := hlt16; dsimp only; omega), ?_⟩
            refine Le.trans (Le.cut 23 17 (σ' := (⟨[(1, .p 1 0), (2, .p 2 0), (5, .p 8 0), (8, .R 17), (9, .R 25), (51, .R 11), (52, .v (.int .i64 (x9.length : Int))), (53, .v (.int .i64 (k11 + 1 : Nat)))], [(1, .box [.v (.int .i64 e.segments), .v (.int .i64 e.size), .v (.int .i64 e.key), .s (List.map encEntrant e.entrants), .s (List.map encInt e.gone), .v (.int .i64 e.segment), .s (List.map encInt e.order), .s (List.map encResult e.results)]), (2, .box [.v (.int .i64 0), .v (.int .i64 0), .v (.int .i64 0), .w 0 [], .w 0 [], .v (.int .i64 0), .w 0 [], .w 0 []]), (4, .row 2 (List.map encEntrant x3.entrants)), (5, .row 1 (List.map encInt x3.gone)), (6, .row 1 (List.map encInt x3.order)), (7, .row 2 (List.map encResultO x3.results)), (8, .box [.v (.int .i64 x3.segments), .v (.int .i64 x3.size), .v (.int .i64 x3.key), .R 4, .R 5, .v (.int .i64 x3.segment), .R 6, .R 7]), (11, .row 1 (List.map encInt x9)), (17, .row 1 (List.map encInt (v35 ++ [x42.skater]))), (25, .row 1 (List.map encInt (v36 ++ [y12])))], 98, []⟩ : St)) rfl (by repeat' (first | exact trivial | refine ⟨⟨_, rfl, rfl⟩, ?_⟩)) (by repeat' (first | exact trivial | refine ⟨⟨_, rfl, rfl⟩, ?_⟩)) rfl) ?_
            exact Le.cut 25 19 rfl (by repeat' (first | exact trivial | refine ⟨⟨_, rfl, rfl⟩, ?_⟩)) (by repeat' (first | exact trivial | refine ⟨⟨_, rfl, rfl⟩, ?_⟩)) rfl
          · replace hH := condF hc hH
            refine AW.skip ?_
            refine AW.region ?_
            refine AO.val rfl rfl (ar_ok rfl rfl rfl rfl (inI_succ hlt16 hb15)) ?_
            refine AO.pure T rfl rfl rfl ?_
            refine AO.nil ?_
            refine ⟨(k11 + 1, v35, v36), ⟨Nat.succ_le_of_lt hlt16, (by rw [drop_succ_of hd14]; exact hH)⟩, (by have := hlt16; dsimp only; omega), ?_⟩
            exact Le.cut 0 0 rfl (by repeat' (first | exact trivial | refine ⟨⟨_, rfl, rfl⟩, ?_⟩)) (by repeat' (first | exact trivial | refine ⟨⟨_, rfl, rfl⟩, ?_⟩)) rfl

def spec_evNext_l1 (e : Event) : List Int → Nat → Option Int
  | [], k1 =>
    some 0
  | y2 :: ys3, k1 =>
    (spec_evHas_p e y2).bind fun x12 =>
    cond (!x12)
      (some y2)
      (spec_evNext_l1 e ys3 (k1 + 1))
def spec_evNext_p (e : Event) : Option Int :=
  spec_evNext_l1 e e.order 0
theorem spec_evNext_ok (e : Event) (r : Int) (hH : spec_evNext_p e = some r) : SpecR Tryz.prog 129 [.g (encEvent e)] (.v (.int .i64 r)) := by
  refine fn_ok T Tryz.func129 rfl (by decide) rfl ?_
  refine AW.seq ?_
  refine AW.region ?_
  refine AO.step rfl (box_ok T rfl 1 rfl rfl rfl rfl) ?_
  refine AO.pure T rfl rfl rfl ?_
  refine AO.nil ?_
  refine AW.seq ?_
  refine AW.seq ?_
  refine AW.region ?_
  refine AO.pure T rfl rfl rfl ?_
  refine AO.pure T rfl rfl rfl ?_
  refine AO.val rfl rfl (len_map_ok T rfl rfl rfl) ?_
  refine AO.pure T rfl rfl rfl ?_
  refine AO.nil ?_
  refine AW.block ?_
  refine AW.loopS (fun s : Nat => (⟨[(1, .p 1 0), (6, .s (List.map encInt e.order)), (7, .v (.int .i64 (e.order.length : Int))), (8, .v (.int .i64 (s : Int)))], [(1, .box [.v (.int .i64 e.segments), .v (.int .i64 e.size), .v (.int .i64 e.key), .s (List.map encEntrant e.entrants), .s (List.map encInt e.gone), .v (.int .i64 e.segment), .s (List.map encInt e.order), .s (List.map encResult e.results)])], 18, []⟩ : St)) (fun s => s ≤ e.order.length ∧ spec_evNext_l1 e (e.order.drop s) s = some r) (fun s => e.order.length - s) 0 ⟨Nat.zero_le _, hH⟩ ?_ ?_
  · exact Le.cut 0 0 rfl (by repeat' (first | exact trivial | refine ⟨⟨_, rfl, rfl⟩, ?_⟩)) (by repeat' (first | exact trivial | refine ⟨⟨_, rfl, rfl⟩, ?_⟩)) rfl
  · rintro k1 ⟨hk, hH⟩
    replace hH : spec_evNext_l1 e (e.order.drop k1) k1 = some r := hH
    show AW _ _ _ (⟨[(1, .p 1 0), (6, .s (List.map encInt e.order)), (7, .v (.int .i64 (e.order.length : Int))), (8, .v (.int .i64 (k1 : Int)))], [(1, .box [.v (.int .i64 e.segments), .v (.int .i64 e.size), .v (.int .i64 e.key), .s (List.map encEntrant e.entrants), .s (List.map encInt e.gone), .v (.int .i64 e.segment), .s (List.map encInt e.order), .s (List.map encResult e.results)])], 18, []⟩ : St)
    refine AW.boundM (t := 6) (l := e.order) rfl (fun hb5 => ?_)
    cases hd4 : e.order.drop k1 with
    | nil =>
      rw [hd4] at hH
      rw [spec_evNext_l1] at hH
      have hlt6 := drop_ge hd4
      refine AW.seq ?_
      refine AW.region ?_
      refine AO.pure T rfl rfl rfl ?_
      refine AO.nil ?_
      refine AW.seq ?_
      refine AW.condF' (b := decide ((k1 : Int) < (e.order.length : Int))) rfl (rngF hlt6) ?_
      refine AW.exit ?_
      refine AW.seq ?_
      refine AW.region ?_
      refine AO.pure T rfl rfl rfl ?_
      refine AO.nil ?_
      refine AW.ret ?_
      cases someE hH
      exact ⟨trivial, _, [], rfl, .c (.c .v), by decide⟩
    | cons y2 ys3 =>
      rw [hd4] at hH
      rw [spec_evNext_l1] at hH
      have hlt6 := drop_lt hd4
      refine AW.seq ?_
      refine AW.region ?_
      refine AO.pure T rfl rfl rfl ?_
      refine AO.nil ?_
      refine AW.seq ?_
      refine AW.condT' (b := decide ((k1 : Int) < (e.order.length : Int))) rfl (rngT hlt6) ?_
      refine AW.skip ?_
      refine AW.seq ?_
      refine AW.block ?_
      refine AW.seq ?_
      refine AW.region ?_
      refine AO.val rfl rfl (ix_map_ok T rfl rfl rfl rfl rfl (getI_drop hd4) rfl) ?_
      refine AO.pure T rfl rfl rfl ?_
      refine AO.pure T rfl rfl rfl ?_
      refine AO.nil ?_
      refine AW.seq ?_
      obtain ⟨x12, hx13, hH⟩ := bindE hH
      refine AW.region ?_
      refine AO.pure T (d := .g [.v (.int .i64 e.segments), .v (.int .i64 e.size), .v (.int .i64 e.key), .s (List.map encEntrant e.entrants), .s (List.map encInt e.gone), .v (.int .i64 e.segment), .s (List.map encInt e.order), .s (List.map encResult e.results)]) rfl rfl rfl ?_
      refine AO.pure T rfl rfl rfl ?_
      refine AO.val rfl rfl (callV_ok rfl rfl rfl rfl (spec_evHas_ok _ _ _ (hx13)) rfl) ?_
      refine AO.pure T rfl rfl rfl ?_
      refine AO.nil ?_
      refine AW.cond (b := (!x12)) rfl (fun hc => ?_) (fun hc => ?_)
      · replace hH := condT hc hH
        refine AW.seq ?_
        refine AW.region ?_
        refine AO.pure T rfl rfl rfl ?_
        refine AO.pure T rfl rfl rfl ?_
        refine AO.nil ?_
        refine AW.ret ?_
        cases someE hH
        exact ⟨trivial, _, [], rfl, .c (.c .v), by decide⟩
      · replace hH := condF hc hH
        refine AW.skip ?_
        refine AW.region ?_
        refine AO.val rfl rfl (ar_ok rfl rfl rfl rfl (inI_succ hlt6 hb5)) ?_
        refine AO.pure T rfl rfl rfl ?_
        refine AO.nil ?_
        refine ⟨k1 + 1, ⟨Nat.succ_le_of_lt hlt6, (by rw [drop_succ_of hd4]; exact hH)⟩, (by have := hlt6; dsimp only; omega), ?_⟩
        exact Le.cut 0 0 rfl (by repeat' (first | exact trivial | refine ⟨⟨_, rfl, rfl⟩, ?_⟩)) (by repeat' (first | exact trivial | refine ⟨⟨_, rfl, rfl⟩, ?_⟩)) rfl

def spec_evScore_l1 (e : Event) (score : Int) (x1 : Int) (x5 : Event) : Nat → List Result → List Result → Int → Option ((Event × Bool))
  | 0, _, _, _ => none
  | k7 + 1, v19, v20, v21 =>
    cond (decide (v21 < (x5.results.length : Int)))
      ((getI v20 v21).bind fun x23 =>
      cond (x23.skater == x1)
        ((getI x23.scores e.segment).bind fun x25 =>
        spec_evScore_l1 e score x1 x5 k7 (v20.set v21.toNat (Result.mk x23.skater (x23.scores.set e.segment.toNat score))) (v20.set v21.toNat (Result.mk x23.skater (x23.scores.set e.segment.toNat score))) (w64 (v21 + 1)))
        (spec_evScore_l1 e score x1 x5 k7 (v20.set v21.toNat x23) (v20.set v21.toNat x23) (w64 (v21 + 1))))
      ((spec_evEnd_p (Event.mk x5.segments x5.size x5.key x5.entrants x5.gone x5.segment x5.order v20)).bind fun x27 =>
      some (x27, true))
def spec_evScore_p (fuel : Nat) (e : Event) (score : Int) : Option (Event × Bool) :=
  (spec_evNext_p e).bind fun x1 =>
  (opt (!(x1 == 0)) default (spec_l1In_p score 0 100000)).bind fun x3 =>
  cond ((x1 == 0) || (!x3))
    (some ((Event.mk 0 0 0 [] [] 0 [] []), false))
    ((spec_evOwn_p e).bind fun x5 =>
    spec_evScore_l1 e score x1 x5 fuel x5.results x5.results 0)
theorem spec_evScore_ok (fuel : Nat) (e : Event) (score : Int) (r : (Event × Bool)) (hH : spec_evScore_p fuel e score = some r) : SpecR Tryz.prog 87 [.g (encEvent e), .v (.int .i64 score)] (.t [.g (encEvent r.1), .v (.bool r.2)]) := by
  refine fn_ok T Tryz.func87 rfl (by decide) rfl ?_
  refine AW.seq ?_
  refine AW.region ?_
  refine AO.step rfl (box_ok T rfl 1 rfl rfl rfl rfl) ?_
  refine AO.step rfl (alloc_ok T rfl 2 rfl rfl rfl rfl rfl) ?_
  refine AO.pure T rfl rfl rfl ?_
  refine AO.nil ?_
  refine AW.seq ?_
  obtain ⟨x1, hx2, hH⟩ := bindE hH
  refine AW.region ?_
  refine AO.pure T (d := .g [.v (.int .i64 e.segments), .v (.int .i64 e.size), .v (.int .i64 e.key), .s (List.map encEntrant e.entrants), .s (List.map encInt e.gone), .v (.int .i64 e.segment), .s (List.map encInt e.order), .s (List.map encResult e.results)]) rfl rfl rfl ?_
  refine AO.val rfl rfl (callV_ok rfl rfl rfl rfl (spec_evNext_ok _ _ (hx2)) rfl) ?_
  refine AO.pure T rfl rfl rfl ?_
  refine AO.nil ?_
  refine AW.seq ?_
  refine AW.seq ?_
  obtain ⟨x3, hx4, hH⟩ := bindE hH
  refine AW.region ?_
  refine AO.pure T rfl rfl rfl ?_
  refine AO.pure T rfl rfl rfl ?_
  refine AO.pure T rfl rfl rfl ?_
  refine AO.pureG T [] rfl trivial rfl rfl ?_
  refine AO.guard [15] rfl ⟨fun h => h, trivial⟩ (fun hg => callV_ok rfl rfl rfl rfl (spec_l1In_ok _ _ _ _ (optT hx4 hg)) rfl) rfl ?_
  refine AO.pureG T [16] rfl ⟨fun h => h, trivial⟩ rfl rfl ?_
  refine AO.val rfl rfl (pick_or rfl rfl rfl rfl) ?_
  refine AO.nil ?_
  refine AW.cond (b := ((x1 == 0) || (!x3))) rfl (fun hc => ?_) (fun hc => ?_)
  · replace hH := condT hc hH
    refine AW.seq ?_
    refine AW.region ?_
    refine AO.pure T (d := .g [.v (.int .i64 0), .v (.int .i64 0), .v (.int .i64 0), .w 0 [], .w 0 [], .v (.int .i64 0), .w 0 [], .w 0 []]) rfl rfl rfl ?_
    refine AO.step rfl (store_okE T rfl rfl rfl rfl rfl rfl rfl rfl rfl (ds' := [.v (.int .i64 0), .v (.int .i64 0), .v (.int .i64 0), .w 0 [], .w 0 [], .v (.int .i64 0), .w 0 [], .w 0 []]) rfl) ?_
    refine AO.pure T rfl rfl rfl ?_
    refine AO.nil ?_
    refine AW.ret ?_
    cases someE hH
    exact ⟨trivial, _, [], rfl, .t (expLG_cons (.g (expLC_cons .v (expLC_cons .v (expLC_cons .v (expLC_cons .nilS (expLC_cons .nilS (expLC_cons .v (expLC_cons .nilS (expLC_cons .nilS (expLC_nil)))))))))) (expLG_cons (.c .v) (expLG_nil))), by decide⟩
  · replace hH := condF hc hH
    refine AW.skip ?_
    refine AW.seq ?_
    obtain ⟨x5, hx6, hH⟩ := bindE hH
    refine AW.region ?_
    refine AO.pure T (d := .g [.v (.int .i64 e.segments), .v (.int .i64 e.size), .v (.int .i64 e.key), .s (List.map encEntrant e.entrants), .s (List.map encInt e.gone), .v (.int .i64 e.segment), .s (List.map encInt e.order), .s (List.map encResult e.results)]) rfl rfl rfl ?_
    refine AO.step rfl (call_ok rfl 3 rfl rfl rfl (spec_evOwn_ok _ _ (hx6)) rfl rfl rfl) ?_
    refine AO.step rfl (alloc_ok T rfl 7 rfl rfl rfl rfl rfl) ?_
    refine AO.step rfl (store_okE T rfl rfl rfl rfl rfl rfl rfl rfl rfl (ds' := [.v (.int .i64 x5.segments), .v (.int .i64 x5.size), .v (.int .i64 x5.key), .R 3, .R 4, .v (.int .i64 x5.segment), .R 5, .R 6]) rfl) ?_
    refine AO.nil ?_
    refine AW.seq ?_
    refine AW.seq ?_
    refine AW.region ?_
    refine AO.pure T rfl rfl rfl ?_
    refine AO.pure T rfl rfl rfl ?_
    refine AO.val rfl rfl (len_row_ok T rfl rfl rfl rfl) ?_
    refine AO.pure T rfl rfl rfl ?_
    refine AO.nil ?_
    refine AW.block ?_
    refine AW.loopS (fun s : Nat × (List Result) × (List Result) × Int => (⟨[(1, .v (.int .i64 score)), (2, .p 1 0), (4, .p 2 0), (6, .v (.int .i64 x1)), (7, .p 7 0), (23, .R 6), (24, .v (.int .i64 (x5.results.length : Int))), (25, .v (.int .i64 s.2.2.2))], [(1, .box [.v (.int .i64 e.segments), .v (.int .i64 e.size), .v (.int .i64 e.key), .s (List.map encEntrant e.entrants), .s (List.map encInt e.gone), .v (.int .i64 e.segment), .s (List.map encInt e.order), .s (List.map encResult e.results)]), (2, .box [.v (.int .i64 0), .v (.int .i64 0), .v (.int .i64 0), .w 0 [], .w 0 [], .v (.int .i64 0), .w 0 [], .w 0 []]), (3, .row 2 (List.map encEntrant x5.entrants)), (4, .row 1 (List.map encInt x5.gone)), (5, .row 1 (List.map encInt x5.order)), (6, .row 2 (List.map encResultO s.2.2.1)), (7, .box [.v (.int .i64 x5.segments), .v (.int .i64 x5.size), .v (.int .i64 x5.key), .R 3, .R 4, .v (.int .i64 x5.segment), .R 5, .R 6])], 42, []⟩ : St)) (fun s => spec_evScore_l1 e score x1 x5 s.1 s.2.1 s.2.2.1 s.2.2.2 = some r) (fun s => s.1) (fuel, x5.results, x5.results, 0) hH ?_ ?_
    · exact Le.cut 0 0 rfl (by repeat' (first | exact trivial | refine ⟨⟨_, rfl, rfl⟩, ?_⟩)) (by repeat' (first | exact trivial | refine ⟨⟨_, rfl, rfl⟩, ?_⟩)) rfl
    · rintro ⟨k7, v19, v20, v21⟩ hH
      replace hH : spec_evScore_l1 e score x1 x5 k7 v19 v20 v21 = some r := hH
      show AW _ _ _ (⟨[(1, .v (.int .i64 score)), (2, .p 1 0), (4, .p 2 0), (6, .v (.int .i64 x1)), (7, .p 7 0), (23, .R 6), (24, .v (.int .i64 (x5.results.length : Int))), (25, .v (.int .i64 v21))], [(1, .box [.v (.int .i64 e.segments), .v (.int .i64 e.size), .v (.int .i64 e.key), .s (List.map encEntrant e.entrants), .s (List.map encInt e.gone), .v (.int .i64 e.segment), .s (List.map encInt e.order), .s (List.map encResult e.results)]), (2, .box [.v (.int .i64 0), .v (.int .i64 0), .v (.int .i64 0), .w 0 [], .w 0 [], .v (.int .i64 0), .w 0 [], .w 0 []]), (3, .row 2 (List.map encEntrant x5.entrants)), (4, .row 1 (List.map encInt x5.gone)), (5, .row 1 (List.map encInt x5.order)), (6, .row 2 (List.map encResultO v20)), (7, .box [.v (.int .i64 x5.segments), .v (.int .i64 x5.size), .v (.int .i64 x5.key), .R 3, .R 4, .v (.int .i64 x5.segment), .R 5, .R 6])], 42, []⟩ : St)
      cases k7 with
      | zero => cases (show none = some _ from hH)
      | succ k7 =>
        rw [spec_evScore_l1] at hH
        refine AW.seq ?_
        refine AW.region ?_
        refine AO.pure T rfl rfl rfl ?_
        refine AO.nil ?_
        refine AW.seq ?_
        refine AW.cond (b := decide (v21 < (x5.results.length : Int))) rfl (fun hc => ?_) (fun hc => ?_)
        · replace hH := condT hc hH
          refine AW.skip ?_
          refine AW.seq ?_
          refine AW.block ?_
          refine AW.seq ?_
          obtain ⟨x23, hx24, hH⟩ := bindE hH
          refine AW.le (Le.openM 6 v21.toNat 1 12 rfl (getI_get (hx24)) rfl rfl) ?_
          refine AW.region ?_
          refine AO.val rfl rfl (ix_lent_ok T rfl rfl rfl rfl rfl rfl (hx24)) ?_
          refine AO.val rfl rfl (load_lentS_ok T rfl rfl rfl rfl rfl (getI_get (hx24)) rfl rfl rfl) ?_
          refine AO.step rfl (alloc_ok T rfl 13 rfl rfl rfl rfl rfl) ?_
          refine AO.step rfl (store_okE T rfl rfl rfl rfl rfl rfl rfl rfl rfl (ds' := [.v (.int .i64 x23.skater), .R 12]) rfl) ?_
          refine AO.nil ?_
          refine AW.seq ?_
          refine AW.region ?_
          refine AO.pure T rfl rfl rfl ?_
          refine AO.pure T rfl rfl rfl ?_
          refine AO.pure T rfl rfl rfl ?_
          refine AO.pure T rfl rfl rfl ?_
          refine AO.nil ?_
          refine AW.cond (b := (x23.skater == x1)) rfl (fun hc => ?_) (fun hc => ?_)
          · replace hH := condT hc hH
            obtain ⟨x25, hx26, hH⟩ := bindE hH
            refine AW.region ?_
            refine AO.pure T rfl rfl rfl ?_
            refine AO.pure T rfl rfl rfl ?_
            refine AO.pure T rfl rfl rfl ?_
            refine AO.pure T rfl rfl rfl ?_
            refine AO.pure T rfl rfl rfl ?_
            refine AO.val rfl rfl (ix_row_ok T rfl rfl rfl rfl rfl rfl (hx26)) ?_
            refine AO.step rfl (store_row_ok T rfl rfl rfl rfl rfl (getI_get (hx26)) rfl rfl rfl rfl (u' := score) rfl rfl) ?_
            refine AO.le (Le.closeM 6 v21.toNat 1 12 rfl rfl (getI_get (hx24)) rfl (u' := (Result.mk x23.skater (x23.scores.set e.segment.toNat score))) rfl) ?_
            refine AO.nil ?_
            refine AW.region ?_
            refine AO.val rfl rfl (arw_ok rfl rfl rfl rfl) ?_
            refine AO.pure T rfl rfl rfl ?_
            refine AO.nil ?_
            refine ⟨(k7, (v20.set v21.toNat (Result.mk x23.skater (x23.scores.set e.segment.toNat score))), (v20.set v21.toNat (Result.mk x23.skater (x23.scores.set e.segment.toNat score))), w64 (v21 + 1)), hH, Nat.lt_succ_self _, ?_⟩
            exact Le.cut 0 0 rfl (by repeat' (first | exact trivial | refine ⟨⟨_, rfl, rfl⟩, ?_⟩)) (by repeat' (first | exact trivial | refine ⟨⟨_, rfl, rfl⟩, ?_⟩)) rfl
          · replace hH := condF hc hH
            refine AW.skip ?_
            refine AW.region ?_
            refine AO.val rfl rfl (arw_ok rfl rfl rfl rfl) ?_
            refine AO.pure T rfl rfl rfl ?_
            refine AO.le (Le.closeM 6 v21.toNat 1 12 rfl rfl (getI_get (hx24)) rfl (u' := x23) rfl) ?_
            refine AO.nil ?_
            refine ⟨(k7, (v20.set v21.toNat x23), (v20.set v21.toNat x23), w64 (v21 + 1)), hH, Nat.lt_succ_self _, ?_⟩
            exact Le.cut 0 0 rfl (by repeat' (first | exact trivial | refine ⟨⟨_, rfl, rfl⟩, ?_⟩)) (by repeat' (first | exact trivial | refine ⟨⟨_, rfl, rfl⟩, ?_⟩)) rfl
        · replace hH := condF hc hH
          refine AW.exit ?_
          refine AW.seq ?_
          obtain ⟨x27, hx28, hH⟩ := bindE hH
          refine AW.le (Le.freezeM 3 (g := encEntrant) rfl (fun y => .vs rfl)) ?_
          refine AW.le (Le.freezeM 4 (g := encInt) rfl (fun y => .vs rfl)) ?_
          refine AW.le (Le.freezeM 5 (g := encInt) rfl (fun y => .vs rfl)) ?_
          refine AW.le (Le.freezeM 6 (g := encResult) rfl (fun y => frzResult y)) ?_
          refine AW.region ?_
          refine AO.pure T (d := .g [.v (.int .i64 x5.segments), .v (.int .i64 x5.size), .v (.int .i64 x5.key), .s (List.map encEntrant x5.entrants), .s (List.map encInt x5.gone), .v (.int .i64 x5.segment), .s (List.map encInt x5.order), .s (List.map encResult v20)]) rfl rfl rfl ?_
          refine AO.val rfl rfl (callV_ok rfl rfl rfl rfl (spec_evEnd_ok _ _ (hx28)) rfl) ?_
          refine AO.step rfl (store_okE T rfl rfl rfl rfl rfl rfl rfl rfl rfl (ds' := [.v (.int .i64 x27.segments), .v (.int .i64 x27.size), .v (.int .i64 x27.key), .s (List.map encEntrant x27.entrants), .s (List.map encInt x27.gone), .v (.int .i64 x27.segment), .s (List.map encInt x27.order), .s (List.map encResult x27.results)]) rfl) ?_
          refine AO.pure T rfl rfl rfl ?_
          refine AO.nil ?_
          refine AW.ret ?_
          cases someE hH
          exact ⟨trivial, _, [], rfl, .t (expLG_cons (.g (expLC_cons .v (expLC_cons .v (expLC_cons .v (expLC_cons .s (expLC_cons .s (expLC_cons .v (expLC_cons .s (expLC_cons .s (expLC_nil)))))))))) (expLG_cons (.c .v) (expLG_nil))), by decide⟩

def spec_evStep_p (fuel : Nat) (e : Event) (sA : Step) : Option (Event × Bool) :=
  cond (e.segment == e.segments)
    (some ((Event.mk 0 0 0 [] [] 0 [] []), false))
    (cond (sA.kind == 1)
      ((spec_evEnter_p fuel e (Entrant.mk sA.skater sA.number)).bind fun x1 =>
      some ((Event.mk x1.1.segments x1.1.size x1.1.key x1.1.entrants x1.1.gone x1.1.segment x1.1.order x1.1.results), x1.2))
      (cond (sA.kind == 2)
        ((spec_evLeave_p fuel e sA.skater).bind fun x3 =>
        some ((Event.mk x3.1.segments x3.1.size x3.1.key x3.1.entrants x3.1.gone x3.1.segment x3.1.order x3.1.results), x3.2))
        (cond (sA.kind == 3)
          ((spec_evDraw_p fuel e).bind fun x5 =>
          some ((Event.mk x5.1.segments x5.1.size x5.1.key x5.1.entrants x5.1.gone x5.1.segment x5.1.order x5.1.results), x5.2))
          (cond (sA.kind == 4)
            ((spec_evScore_p fuel e sA.number).bind fun x7 =>
            some ((Event.mk x7.1.segments x7.1.size x7.1.key x7.1.entrants x7.1.gone x7.1.segment x7.1.order x7.1.results), x7.2))
            (some ((Event.mk 0 0 0 [] [] 0 [] []), false))))))
theorem spec_evStep_ok (fuel : Nat) (e : Event) (sA : Step) (r : (Event × Bool)) (hH : spec_evStep_p fuel e sA = some r) : SpecR Tryz.prog 55 [.g (encEvent e), .g (encStep sA)] (.t [.g (encEvent r.1), .v (.bool r.2)]) := by
  refine fn_ok T Tryz.func55 rfl (by decide) rfl ?_
  refine AW.seq ?_
  refine AW.region ?_
  refine AO.step rfl (box_ok T rfl 1 rfl rfl rfl rfl) ?_
  refine AO.step rfl (box_ok T rfl 2 rfl rfl rfl rfl) ?_
  refine AO.step rfl (alloc_ok T rfl 3 rfl rfl rfl rfl rfl) ?_
  refine AO.pure T rfl rfl rfl ?_
  refine AO.nil ?_
  refine AW.seq ?_
  refine AW.seq ?_
  refine AW.region ?_
  refine AO.pure T rfl rfl rfl ?_
  refine AO.pure T rfl rfl rfl ?_
  refine AO.pure T rfl rfl rfl ?_
  refine AO.pure T rfl rfl rfl ?_
  refine AO.pure T rfl rfl rfl ?_
  refine AO.nil ?_
  refine AW.cond (b := (e.segment == e.segments)) rfl (fun hc => ?_) (fun hc => ?_)
  · replace hH := condT hc hH
    refine AW.seq ?_
    refine AW.region ?_
    refine AO.pure T (d := .g [.v (.int .i64 0), .v (.int .i64 0), .v (.int .i64 0), .w 0 [], .w 0 [], .v (.int .i64 0), .w 0 [], .w 0 []]) rfl rfl rfl ?_
    refine AO.step rfl (store_okE T rfl rfl rfl rfl rfl rfl rfl rfl rfl (ds' := [.v (.int .i64 0), .v (.int .i64 0), .v (.int .i64 0), .w 0 [], .w 0 [], .v (.int .i64 0), .w 0 [], .w 0 []]) rfl) ?_
    refine AO.pure T rfl rfl rfl ?_
    refine AO.nil ?_
    refine AW.ret ?_
    cases someE hH
    exact ⟨trivial, _, [], rfl, .t (expLG_cons (.g (expLC_cons .v (expLC_cons .v (expLC_cons .v (expLC_cons .nilS (expLC_cons .nilS (expLC_cons .v (expLC_cons .nilS (expLC_cons .nilS (expLC_nil)))))))))) (expLG_cons (.c .v) (expLG_nil))), by decide⟩
  · replace hH := condF hc hH
    refine AW.skip ?_
    refine AW.seq ?_
    refine AW.seq ?_
    refine AW.region ?_
    refine AO.pure T rfl rfl rfl ?_
    refine AO.pure T rfl rfl rfl ?_
    refine AO.nil ?_
    refine AW.block ?_
    refine AW.seq ?_
    refine AW.region ?_
    refine AO.pure T rfl rfl rfl ?_
    refine AO.pure T rfl rfl rfl ?_
    refine AO.nil ?_
    refine AW.cond (b := (sA.kind == 1)) rfl (fun hc => ?_) (fun hc => ?_)
    · replace hH := condT hc hH
      refine AW.seq ?_
      obtain ⟨x1, hx2, hH⟩ := bindE hH
      refine AW.region ?_
      refine AO.pure T (d := .g [.v (.int .i64 e.segments), .v (.int .i64 e.size), .v (.int .i64 e.key), .s (List.map encEntrant e.entrants), .s (List.map encInt e.gone), .v (.int .i64 e.segment), .s (List.map encInt e.order), .s (List.map encResult e.results)]) rfl rfl rfl ?_
      refine AO.pure T rfl rfl rfl ?_
      refine AO.pure T rfl rfl rfl ?_
      refine AO.pure T rfl rfl rfl ?_
      refine AO.pure T rfl rfl rfl ?_
      refine AO.pure T (d := .g [.v (.int .i64 sA.skater), .v (.int .i64 sA.number)]) rfl rfl rfl ?_
      refine AO.step rfl (call_ok rfl 4 rfl rfl rfl (spec_evEnter_ok fuel _ _ _ (hx2)) rfl rfl rfl) ?_
      refine AO.pure T (d := .g [.v (.int .i64 x1.1.segments), .v (.int .i64 x1.1.size), .v (.int .i64 x1.1.key), .R 4, .R 5, .v (.int .i64 x1.1.segment), .R 6, .R 7]) rfl rfl rfl ?_
      refine AO.pure T rfl rfl rfl ?_
      refine AO.step rfl (store_okE T rfl rfl rfl rfl rfl rfl rfl rfl rfl (ds' := [.v (.int .i64 x1.1.segments), .v (.int .i64 x1.1.size), .v (.int .i64 x1.1.key), .R 4, .R 5, .v (.int .i64 x1.1.segment), .R 6, .R 7]) rfl) ?_
      refine AO.pure T rfl rfl rfl ?_
      refine AO.nil ?_
      refine AW.le (Le.cut 0 0 (σ' := (⟨[(4, .p 3 0), (5, .v (.bool x1.2))], [(3, .box [.v (.int .i64 x1.1.segments), .v (.int .i64 x1.1.size), .v (.int .i64 x1.1.key), .R 4, .R 5, .v (.int .i64 x1.1.segment), .R 6, .R 7]), (4, .row 2 (List.map encEntrant x1.1.entrants)), (5, .row 1 (List.map encInt x1.1.gone)), (6, .row 1 (List.map encInt x1.1.order)), (7, .row 2 (List.map encResultO x1.1.results))], 48, []⟩ : St)) rfl (by repeat' (first | exact trivial | refine ⟨⟨_, rfl, rfl⟩, ?_⟩)) (by repeat' (first | exact trivial | refine ⟨⟨_, rfl, rfl⟩, ?_⟩)) rfl) ?_
      refine AW.le (Le.freezeM 7 (g := encResult) rfl (fun y => frzResult y)) ?_
      refine AW.le (Le.freezeM 6 (g := encInt) rfl (fun y => .vs rfl)) ?_
      refine AW.le (Le.freezeM 5 (g := encInt) rfl (fun y => .vs rfl)) ?_
      refine AW.le (Le.freezeM 4 (g := encEntrant) rfl (fun y => .vs rfl)) ?_
      refine AW.ret ?_
      cases someE hH
      exact ⟨trivial, _, [], rfl, .t (expLG_cons (.g (expLC_cons .v (expLC_cons .v (expLC_cons .v (expLC_cons .s (expLC_cons .s (expLC_cons .v (expLC_cons .s (expLC_cons .s (expLC_nil)))))))))) (expLG_cons (.c .v) (expLG_nil))), by decide⟩
    · replace hH := condF hc hH
      refine AW.seq ?_
      refine AW.region ?_
      refine AO.pure T rfl rfl rfl ?_
      refine AO.pure T rfl rfl rfl ?_
      refine AO.nil ?_
      refine AW.cond (b := (sA.kind == 2)) rfl (fun hc => ?_) (fun hc => ?_)
      · replace hH := condT hc hH
        refine AW.seq ?_
        obtain ⟨x3, hx4, hH⟩ := bindE hH
        refine AW.region ?_
        refine AO.pure T (d := .g [.v (.int .i64 e.segments), .v (.int .i64 e.size), .v (.int .i64 e.key), .s (List.map encEntrant e.entrants), .s (List.map encInt e.gone), .v (.int .i64 e.segment), .s (List.map encInt e.order), .s (List.map encResult e.results)]) rfl rfl rfl ?_
        refine AO.pure T rfl rfl rfl ?_
        refine AO.pure T rfl rfl rfl ?_
        refine AO.val rfl rfl (callV_ok rfl rfl rfl rfl (spec_evLeave_ok fuel _ _ _ (hx4)) rfl) ?_
        refine AO.pure T (d := .g [.v (.int .i64 x3.1.segments), .v (.int .i64 x3.1.size), .v (.int .i64 x3.1.key), .s (List.map encEntrant x3.1.entrants), .s (List.map encInt x3.1.gone), .v (.int .i64 x3.1.segment), .s (List.map encInt x3.1.order), .s (List.map encResult x3.1.results)]) rfl rfl rfl ?_
        refine AO.pure T rfl rfl rfl ?_
        refine AO.step rfl (store_okE T rfl rfl rfl rfl rfl rfl rfl rfl rfl (ds' := [.v (.int .i64 x3.1.segments), .v (.int .i64 x3.1.size), .v (.int .i64 x3.1.key), .s (List.map encEntrant x3.1.entrants), .s (List.map encInt x3.1.gone), .v (.int .i64 x3.1.segment), .s (List.map encInt x3.1.order), .s (List.map encResult x3.1.results)]) rfl) ?_
        refine AO.pure T rfl rfl rfl ?_
        refine AO.nil ?_
        refine AW.ret ?_
        cases someE hH
        exact ⟨trivial, _, [], rfl, .t (expLG_cons (.g (expLC_cons .v (expLC_cons .v (expLC_cons .v (expLC_cons .s (expLC_cons .s (expLC_cons .v (expLC_cons .s (expLC_cons .s (expLC_nil)))))))))) (expLG_cons (.c .v) (expLG_nil))), by decide⟩
      · replace hH := condF hc hH
        refine AW.seq ?_
        refine AW.region ?_
        refine AO.pure T rfl rfl rfl ?_
        refine AO.pure T rfl rfl rfl ?_
        refine AO.nil ?_
        refine AW.cond (b := (sA.kind == 3)) rfl (fun hc => ?_) (fun hc => ?_)
        · replace hH := condT hc hH
          refine AW.seq ?_
          obtain ⟨x5, hx6, hH⟩ := bindE hH
          refine AW.region ?_
          refine AO.pure T (d := .g [.v (.int .i64 e.segments), .v (.int .i64 e.size), .v (.int .i64 e.key), .s (List.map encEntrant e.entrants), .s (List.map encInt e.gone), .v (.int .i64 e.segment), .s (List.map encInt e.order), .s (List.map encResult e.results)]) rfl rfl rfl ?_
          refine AO.val rfl rfl (callV_ok rfl rfl rfl rfl (spec_evDraw_ok fuel _ _ (hx6)) rfl) ?_
          refine AO.pure T (d := .g [.v (.int .i64 x5.1.segments), .v (.int .i64 x5.1.size), .v (.int .i64 x5.1.key), .s (List.map encEntrant x5.1.entrants), .s (List.map encInt x5.1.gone), .v (.int .i64 x5.1.segment), .s (List.map encInt x5.1.order), .s (List.map encResult x5.1.results)]) rfl rfl rfl ?_
          refine AO.pure T rfl rfl rfl ?_
          refine AO.step rfl (store_okE T rfl rfl rfl rfl rfl rfl rfl rfl rfl (ds' := [.v (.int .i64 x5.1.segments), .v (.int .i64 x5.1.size), .v (.int .i64 x5.1.key), .s (List.map encEntrant x5.1.entrants), .s (List.map encInt x5.1.gone), .v (.int .i64 x5.1.segment), .s (List.map encInt x5.1.order), .s (List.map encResult x5.1.results)]) rfl) ?_
          refine AO.pure T rfl rfl rfl ?_
          refine AO.nil ?_
          refine AW.ret ?_
          cases someE hH
          exact ⟨trivial, _, [], rfl, .t (expLG_cons (.g (expLC_cons .v (expLC_cons .v (expLC_cons .v (expLC_cons .s (expLC_cons .s (expLC_cons .v (expLC_cons .s (expLC_cons .s (expLC_nil)))))))))) (expLG_cons (.c .v) (expLG_nil))), by decide⟩
        · replace hH := condF hc hH
          refine AW.seq ?_
          refine AW.region ?_
          refine AO.pure T rfl rfl rfl ?_
          refine AO.pure T rfl rfl rfl ?_
          refine AO.nil ?_
          refine AW.cond (b := (sA.kind == 4)) rfl (fun hc => ?_) (fun hc => ?_)
          · replace hH := condT hc hH
            refine AW.seq ?_
            obtain ⟨x7, hx8, hH⟩ := bindE hH
            refine AW.region ?_
            refine AO.pure T (d := .g [.v (.int .i64 e.segments), .v (.int .i64 e.size), .v (.int .i64 e.key), .s (List.map encEntrant e.entrants), .s (List.map encInt e.gone), .v (.int .i64 e.segment), .s (List.map encInt e.order), .s (List.map encResult e.results)]) rfl rfl rfl ?_
            refine AO.pure T rfl rfl rfl ?_
            refine AO.pure T rfl rfl rfl ?_
            refine AO.val rfl rfl (callV_ok rfl rfl rfl rfl (spec_evScore_ok fuel _ _ _ (hx8)) rfl) ?_
            refine AO.pure T (d := .g [.v (.int .i64 x7.1.segments), .v (.int .i64 x7.1.size), .v (.int .i64 x7.1.key), .s (List.map encEntrant x7.1.entrants), .s (List.map encInt x7.1.gone), .v (.int .i64 x7.1.segment), .s (List.map encInt x7.1.order), .s (List.map encResult x7.1.results)]) rfl rfl rfl ?_
            refine AO.pure T rfl rfl rfl ?_
            refine AO.step rfl (store_okE T rfl rfl rfl rfl rfl rfl rfl rfl rfl (ds' := [.v (.int .i64 x7.1.segments), .v (.int .i64 x7.1.size), .v (.int .i64 x7.1.key), .s (List.map encEntrant x7.1.entrants), .s (List.map encInt x7.1.gone), .v (.int .i64 x7.1.segment), .s (List.map encInt x7.1.order), .s (List.map encResult x7.1.results)]) rfl) ?_
            refine AO.pure T rfl rfl rfl ?_
            refine AO.nil ?_
            refine AW.le (Le.cut 0 0 (σ' := (⟨[(4, .p 3 0), (5, .v (.bool x7.2))], [(3, .box [.v (.int .i64 x7.1.segments), .v (.int .i64 x7.1.size), .v (.int .i64 x7.1.key), .s (List.map encEntrant x7.1.entrants), .s (List.map encInt x7.1.gone), .v (.int .i64 x7.1.segment), .s (List.map encInt x7.1.order), .s (List.map encResult x7.1.results)])], 48, []⟩ : St)) rfl (by repeat' (first | exact trivial | refine ⟨⟨_, rfl, rfl⟩, ?_⟩)) (by repeat' (first | exact trivial | refine ⟨⟨_, rfl, rfl⟩, ?_⟩)) rfl) ?_
            refine AW.ret ?_
            cases someE hH
            exact ⟨trivial, _, [], rfl, .t (expLG_cons (.g (expLC_cons .v (expLC_cons .v (expLC_cons .v (expLC_cons .s (expLC_cons .s (expLC_cons .v (expLC_cons .s (expLC_cons .s (expLC_nil)))))))))) (expLG_cons (.c .v) (expLG_nil))), by decide⟩
          · replace hH := condF hc hH
            refine AW.skip ?_
            refine AW.seq ?_
            refine AW.region ?_
            refine AO.pure T (d := .g [.v (.int .i64 0), .v (.int .i64 0), .v (.int .i64 0), .w 0 [], .w 0 [], .v (.int .i64 0), .w 0 [], .w 0 []]) rfl rfl rfl ?_
            refine AO.step rfl (store_okE T rfl rfl rfl rfl rfl rfl rfl rfl rfl (ds' := [.v (.int .i64 0), .v (.int .i64 0), .v (.int .i64 0), .w 0 [], .w 0 [], .v (.int .i64 0), .w 0 [], .w 0 []]) rfl) ?_
            refine AO.pure T rfl rfl rfl ?_
            refine AO.nil ?_
            refine AW.ret ?_
            cases someE hH
            exact ⟨trivial, _, [], rfl, .t (expLG_cons (.g (expLC_cons .v (expLC_cons .v (expLC_cons .v (expLC_cons .nilS (expLC_cons .nilS (expLC_cons .v (expLC_cons .nilS (expLC_cons .nilS (expLC_nil)))))))))) (expLG_cons (.c .v) (expLG_nil))), by decide⟩

def spec_evAsked_p (fuel : Nat) (e : Event) (sA : Step) : Option (Event × Bool) :=
  (spec_evGood_p fuel e).bind fun x1 =>
  cond (!x1)
    (some ((Event.mk 0 0 0 [] [] 0 [] []), false))
    ((spec_evStep_p fuel e sA).bind fun x3 =>
    some ((Event.mk x3.1.segments x3.1.size x3.1.key x3.1.entrants x3.1.gone x3.1.segment x3.1.order x3.1.results), x3.2))
theorem spec_evAsked_ok (fuel : Nat) (e : Event) (sA : Step) (r : (Event × Bool)) (hH : spec_evAsked_p fuel e sA = some r) : SpecR Tryz.prog 27 [.g (encEvent e), .g (encStep sA)] (.t [.g (encEvent r.1), .v (.bool r.2)]) := by
  refine fn_ok T Tryz.func27 rfl (by decide) rfl ?_
  refine AW.seq ?_
  refine AW.region ?_
  refine AO.step rfl (box_ok T rfl 1 rfl rfl rfl rfl) ?_
  refine AO.step rfl (box_ok T rfl 2 rfl rfl rfl rfl) ?_
  refine AO.step rfl (alloc_ok T rfl 3 rfl rfl rfl rfl rfl) ?_
  refine AO.pure T rfl rfl rfl ?_
  refine AO.nil ?_
  refine AW.seq ?_
  refine AW.seq ?_
  obtain ⟨x1, hx2, hH⟩ := bindE hH
  refine AW.region ?_
  refine AO.pure T (d := .g [.v (.int .i64 e.segments), .v (.int .i64 e.size), .v (.int .i64 e.key), .s (List.map encEntrant e.entrants), .s (List.map encInt e.gone), .v (.int .i64 e.segment), .s (List.map encInt e.order), .s (List.map encResult e.results)]) rfl rfl rfl ?_
  refine AO.val rfl rfl (callV_ok rfl rfl rfl rfl (spec_evGood_ok fuel _ _ (hx2)) rfl) ?_
  refine AO.pure T rfl rfl rfl ?_
  refine AO.nil ?_
  refine AW.cond (b := (!x1)) rfl (fun hc => ?_) (fun hc => ?_)
  · replace hH := condT hc hH
    refine AW.seq ?_
    refine AW.region ?_
    refine AO.pure T (d := .g [.v (.int .i64 0), .v (.int .i64 0), .v (.int .i64 0), .w 0 [], .w 0 [], .v (.int .i64 0), .w 0 [], .w 0 []]) rfl rfl rfl ?_
    refine AO.step rfl (store_okE T rfl rfl rfl rfl rfl rfl rfl rfl rfl (ds' := [.v (.int .i64 0), .v (.int .i64 0), .v (.int .i64 0), .w 0 [], .w 0 [], .v (.int .i64 0), .w 0 [], .w 0 []]) rfl) ?_
    refine AO.pure T rfl rfl rfl ?_
    refine AO.nil ?_
    refine AW.ret ?_
    cases someE hH
    exact ⟨trivial, _, [], rfl, .t (expLG_cons (.g (expLC_cons .v (expLC_cons .v (expLC_cons .v (expLC_cons .nilS (expLC_cons .nilS (expLC_cons .v (expLC_cons .nilS (expLC_cons .nilS (expLC_nil)))))))))) (expLG_cons (.c .v) (expLG_nil))), by decide⟩
  · replace hH := condF hc hH
    refine AW.skip ?_
    refine AW.seq ?_
    obtain ⟨x3, hx4, hH⟩ := bindE hH
    refine AW.region ?_
    refine AO.pure T (d := .g [.v (.int .i64 e.segments), .v (.int .i64 e.size), .v (.int .i64 e.key), .s (List.map encEntrant e.entrants), .s (List.map encInt e.gone), .v (.int .i64 e.segment), .s (List.map encInt e.order), .s (List.map encResult e.results)]) rfl rfl rfl ?_
    refine AO.pure T (d := .g [.v (.int .i64 sA.kind), .v (.int .i64 sA.skater), .v (.int .i64 sA.number)]) rfl rfl rfl ?_
    refine AO.val rfl rfl (callV_ok rfl rfl rfl rfl (spec_evStep_ok fuel _ _ _ (hx4)) rfl) ?_
    refine AO.pure T (d := .g [.v (.int .i64 x3.1.segments), .v (.int .i64 x3.1.size), .v (.int .i64 x3.1.key), .s (List.map encEntrant x3.1.entrants), .s (List.map encInt x3.1.gone), .v (.int .i64 x3.1.segment), .s (List.map encInt x3.1.order), .s (List.map encResult x3.1.results)]) rfl rfl rfl ?_
    refine AO.pure T rfl rfl rfl ?_
    refine AO.step rfl (store_okE T rfl rfl rfl rfl rfl rfl rfl rfl rfl (ds' := [.v (.int .i64 x3.1.segments), .v (.int .i64 x3.1.size), .v (.int .i64 x3.1.key), .s (List.map encEntrant x3.1.entrants), .s (List.map encInt x3.1.gone), .v (.int .i64 x3.1.segment), .s (List.map encInt x3.1.order), .s (List.map encResult x3.1.results)]) rfl) ?_
    refine AO.pure T rfl rfl rfl ?_
    refine AO.nil ?_
    refine AW.ret ?_
    cases someE hH
    exact ⟨trivial, _, [], rfl, .t (expLG_cons (.g (expLC_cons .v (expLC_cons .v (expLC_cons .v (expLC_cons .s (expLC_cons .s (expLC_cons .v (expLC_cons .s (expLC_cons .s (expLC_nil)))))))))) (expLG_cons (.c .v) (expLG_nil))), by decide⟩

def spec_GiveScore_p (fuel : Nat) (e : Event) (score : Int) : Option (Event × Bool) :=
  (spec_evAsked_p fuel e (Step.mk 4 0 score)).bind fun x1 =>
  some ((Event.mk x1.1.segments x1.1.size x1.1.key x1.1.entrants x1.1.gone x1.1.segment x1.1.order x1.1.results), x1.2)
theorem spec_GiveScore_ok (fuel : Nat) (e : Event) (score : Int) (r : (Event × Bool)) (hH : spec_GiveScore_p fuel e score = some r) : SpecR Tryz.prog 17 [.g (encEvent e), .v (.int .i64 score)] (.t [.g (encEvent r.1), .v (.bool r.2)]) := by
  refine fn_ok T Tryz.func17 rfl (by decide) rfl ?_
  refine AW.seq ?_
  refine AW.region ?_
  refine AO.step rfl (box_ok T rfl 1 rfl rfl rfl rfl) ?_
  refine AO.step rfl (alloc_ok T rfl 2 rfl rfl rfl rfl rfl) ?_
  refine AO.pure T rfl rfl rfl ?_
  refine AO.nil ?_
  refine AW.seq ?_
  obtain ⟨x1, hx2, hH⟩ := bindE hH
  refine AW.region ?_
  refine AO.pure T (d := .g [.v (.int .i64 e.segments), .v (.int .i64 e.size), .v (.int .i64 e.key), .s (List.map encEntrant e.entrants), .s (List.map encInt e.gone), .v (.int .i64 e.segment), .s (List.map encInt e.order), .s (List.map encResult e.results)]) rfl rfl rfl ?_
  refine AO.pure T rfl rfl rfl ?_
  refine AO.pure T (d := .g [.v (.int .i64 4), .v (.int .i64 0), .v (.int .i64 score)]) rfl rfl rfl ?_
  refine AO.val rfl rfl (callV_ok rfl rfl rfl rfl (spec_evAsked_ok fuel _ _ _ (hx2)) rfl) ?_
  refine AO.pure T (d := .g [.v (.int .i64 x1.1.segments), .v (.int .i64 x1.1.size), .v (.int .i64 x1.1.key), .s (List.map encEntrant x1.1.entrants), .s (List.map encInt x1.1.gone), .v (.int .i64 x1.1.segment), .s (List.map encInt x1.1.order), .s (List.map encResult x1.1.results)]) rfl rfl rfl ?_
  refine AO.pure T rfl rfl rfl ?_
  refine AO.step rfl (store_okE T rfl rfl rfl rfl rfl rfl rfl rfl rfl (ds' := [.v (.int .i64 x1.1.segments), .v (.int .i64 x1.1.size), .v (.int .i64 x1.1.key), .s (List.map encEntrant x1.1.entrants), .s (List.map encInt x1.1.gone), .v (.int .i64 x1.1.segment), .s (List.map encInt x1.1.order), .s (List.map encResult x1.1.results)]) rfl) ?_
  refine AO.pure T rfl rfl rfl ?_
  refine AO.nil ?_
  refine AW.ret ?_
  cases someE hH
  exact ⟨trivial, _, [], rfl, .t (expLG_cons (.g (expLC_cons .v (expLC_cons .v (expLC_cons .v (expLC_cons .s (expLC_cons .s (expLC_cons .v (expLC_cons .s (expLC_cons .s (expLC_nil)))))))))) (expLG_cons (.c .v) (expLG_nil))), by decide⟩

end Go.Proofs.YtioegmjleofmeaaGreat

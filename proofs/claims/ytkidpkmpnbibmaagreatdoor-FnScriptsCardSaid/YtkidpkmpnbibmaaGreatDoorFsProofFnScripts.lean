/- For every input the law FnScripts returns true, and the input reads as before; no condition. -/
import Derived.Test.YtkidpkmpnbibmaaGreatDoorFsP2
import Derived.Test.YtkidpkmpnbibmaaGreatDoorRows
import Derived.Test.YtkidpkmpnbibmaaGreatDoorChecked
import Derived.Test.YtkidpkmpnbibmaaGreatDoorTie
import Derived.Test.YtkidpkmpnbibmaaGreatDoorCards
import Derived.Handed
import Derived.LaidLaws
import Derived.LaidHandle
import Derived.SevenTiedAt
import Derived.ShapedOpen
import GoSem.PinnedTables
set_option maxRecDepth 4000
set_option maxHeartbeats 1000000
set_option linter.unusedVariables false
set_option linter.unusedSimpArgs false
set_option linter.unusedSectionVars false
namespace Go.Proofs.YtkidpkmpnbibmaaGreatDoor
open Go.AM
open Go.ChangeShapes Go.WideShapes Go.ChangeAt Go.RowKit
theorem own:ownKnob Tryz.prog.godebug=none:=by kernel_rfl
set_option maxRecDepth 20000 in
theorem qWU {W:Go.World} (h:laidMetH Tryz.prog Rows.fnScriptsRow.laid W):∃arr el fz,W.heap[0]?=some (.cells arr el fz)/\arr.toList.take 4=[.string ⟨#[110,111,110,101]⟩,.string ⟨#[100,111,119,110]⟩,.string ⟨#[101,100,103,101]⟩,.string ⟨#[118,111,105,100]⟩]:=by
 have h := laidMetH.filter (fun x => x.1 == "loop.example/g00912/impl.markNames") h
 rw[show (Rows.fnScriptsRow.laid.filter fun x => x.1 == "loop.example/g00912/impl.markNames")=[("loop.example/g00912/impl.markNames", Rows.laid_loop_example_g00912_impl_markNames)] by kernel_rfl, MakeChecks.laidMetH_plain _ _ _ (by kernel_rfl)]at h
 obtain⟨ps,⟨g,t,cs,a8,p,q,hg,ht,hv,hd,_,_⟩,_,_⟩:=h
 obtain rfl := Option.some.inj ((show Tryz.prog.globalNamed "loop.example/g00912/impl.markNames" = some 0 by kernel_rfl).symm.trans hg)
 obtain rfl:=Option.some.inj ((show (Tryz.prog.globals[0]?).map (·.type)=some 166 by kernel_rfl).symm.trans ht)
 have c9:Tryz.prog.cellsOf 9=1:=by kernel_rfl
 have cT:Tryz.prog.cellsOf 166=4:=by kernel_rfl
 have u9:Tryz.prog.underlying 9=some .string:=by kernel_rfl
 obtain⟨xs,m,_,ex,hlen,hl,hel⟩:=DataW.trod_array (n:=4) (e:=9) (by kernel_rfl) hd
 rw[cT]at hlen
 rw[c9]at hel
 have hcs:cs.toList=[.string ⟨#[110,111,110,101]⟩,.string ⟨#[100,111,119,110]⟩,.string ⟨#[101,100,103,101]⟩,.string ⟨#[118,111,105,100]⟩]:=by
  generalize cs.toList=l at hlen hel
  match l,hlen with
  | [a,b,c,d],_ =>
   match xs,hl with
   | [x0,x1,x2,x3],_ =>
    have e3:=(DataW.agg.inj (Prod.mk.inj ex).1)
    simp only[List.map_cons,List.map_nil,List.cons.injEq,and_true]at e3
    have k0:=hel 0 (by omega);have k1:=hel 1 (by omega);have k2:=hel 2 (by omega);have k3:=hel 3 (by omega)
    obtain⟨z0,a0,b0,_⟩:=DataW.trod_string u9 k0
    obtain⟨z1,a1,b1,_⟩:=DataW.trod_string u9 k1
    obtain⟨z2,a2,b2,_⟩:=DataW.trod_string u9 k2
    obtain⟨z3,a3,b3,_⟩:=DataW.trod_string u9 k3
    subst b0 b1 b2 b3
    simp at a0 a1 a2 a3 e3
    have key:∀(z:ByteArray) (s:List UInt8),s=z.data.toList->z=⟨s.toArray⟩:=fun z s h=>by subst h;rfl
    obtain⟨e0,e1,e2,e3⟩:=e3
    rw[a0,a1,a2,a3,key z0 _ e0,key z1 _ e1,key z2 _ e2,key z3 _ e3]
 unfold World.var? at hv
 rw[show Tryz.prog.globalNamed "loop.example/g00912/impl.markNames" = some 0 by kernel_rfl, Option.bind_some]at hv
 split at hv
 ·rename_i c t f hh
  cases hv
  exact⟨_,_,_,hh,by rw[hcs];rfl⟩
 ·cases hv
set_option maxRecDepth 20000 in
theorem qUr {W:Go.World} (h:laidMetH Tryz.prog Rows.fnScriptsRow.laid W):∃arr el fz,W.heap[1]?=some (.cells arr el fz)/\arr.toList.take 4=[.string ⟨#[]⟩,.string ⟨#[60]⟩,.string ⟨#[101]⟩,.string ⟨#[42]⟩]:=by
 have h := laidMetH.filter (fun x => x.1 == "loop.example/g00912/impl.markSigns") h
 rw[show (Rows.fnScriptsRow.laid.filter fun x => x.1 == "loop.example/g00912/impl.markSigns")=[("loop.example/g00912/impl.markSigns", Rows.laid_loop_example_g00912_impl_markSigns)] by kernel_rfl, MakeChecks.laidMetH_plain _ _ _ (by kernel_rfl)]at h
 obtain⟨ps,⟨g,t,cs,a8,p,q,hg,ht,hv,hd,_,_⟩,_,_⟩:=h
 obtain rfl := Option.some.inj ((show Tryz.prog.globalNamed "loop.example/g00912/impl.markSigns" = some 1 by kernel_rfl).symm.trans hg)
 obtain rfl:=Option.some.inj ((show (Tryz.prog.globals[1]?).map (·.type)=some 166 by kernel_rfl).symm.trans ht)
 have c9:Tryz.prog.cellsOf 9=1:=by kernel_rfl
 have cT:Tryz.prog.cellsOf 166=4:=by kernel_rfl
 have u9:Tryz.prog.underlying 9=some .string:=by kernel_rfl
 obtain⟨xs,m,_,ex,hlen,hl,hel⟩:=DataW.trod_array (n:=4) (e:=9) (by kernel_rfl) hd
 rw[cT]at hlen
 rw[c9]at hel
 have hcs:cs.toList=[.string ⟨#[]⟩,.string ⟨#[60]⟩,.string ⟨#[101]⟩,.string ⟨#[42]⟩]:=by
  generalize cs.toList=l at hlen hel
  match l,hlen with
  | [a,b,c,d],_ =>
   match xs,hl with
   | [x0,x1,x2,x3],_ =>
    have e3:=(DataW.agg.inj (Prod.mk.inj ex).1)
    simp only[List.map_cons,List.map_nil,List.cons.injEq,and_true]at e3
    have k0:=hel 0 (by omega);have k1:=hel 1 (by omega);have k2:=hel 2 (by omega);have k3:=hel 3 (by omega)
    obtain⟨z0,a0,b0,_⟩:=DataW.trod_string u9 k0
    obtain⟨z1,a1,b1,_⟩:=DataW.trod_string u9 k1
    obtain⟨z2,a2,b2,_⟩:=DataW.trod_string u9 k2
    obtain⟨z3,a3,b3,_⟩:=DataW.trod_string u9 k3
    subst b0 b1 b2 b3
    simp at a0 a1 a2 a3 e3
    have key:∀(z:ByteArray) (s:List UInt8),s=z.data.toList->z=⟨s.toArray⟩:=fun z s h=>by subst h;rfl
    obtain⟨e0,e1,e2,e3⟩:=e3
    rw[a0,a1,a2,a3,show z0=⟨#[]⟩ from ByteArray.ext e0,key z1 _ e1,key z2 _ e2,key z3 _ e3]
 unfold World.var? at hv
 rw[show Tryz.prog.globalNamed "loop.example/g00912/impl.markSigns" = some 1 by kernel_rfl, Option.bind_some]at hv
 split at hv
 ·rename_i c t f hh
  cases hv
  exact⟨_,_,_,hh,by rw[hcs];rfl⟩
 ·cases hv
set_option maxRecDepth 20000 in
theorem qXL {W : Go.World} (h : laidMetH Tryz.prog Rows.fnScriptsRow.laid W) : Lib.TabIs Tryz.prog W "internal/strconv.uint64pow10" .u64 Lib.pow10Tab := by
 have h := laidMetH.filter (fun x => x.1 == "internal/strconv.uint64pow10") h
 rw[show (Rows.fnScriptsRow.laid.filter fun x => x.1 == "internal/strconv.uint64pow10")=[("internal/strconv.uint64pow10", Lib.tabData .u64 Lib.pow10Tab)] by kernel_rfl, MakeChecks.laidMetH_plain _ _ _ (by kernel_rfl)]at h
 exact Lib.tabIs_of_head (g:=5) (t:=254) (e:=99) (n:=20) (by kernel_rfl) (by kernel_rfl) (by kernel_rfl) (by kernel_rfl) (by kernel_rfl) (by kernel_rfl) h
theorem qXQ {W:Go.World} (hsh:W.ShapedOpen Tryz.prog) (hL:laidMetH Tryz.prog Rows.fnScriptsRow.laid W):GlobW W :=
 qXV (by kernel_rfl) (Go.Proofs.cell_of_shapedOpen_int (g:=2) (zero:=#[.int .i64 0]) (t:=3) hsh (of_decide_eq_true (by kernel_rfl)) (by kernel_rfl) rfl (by kernel_rfl) (by kernel_rfl) Tryz.underlying3) (qWU hL) (qUr hL) (qXL hL)
set_option maxRecDepth 20000 in
theorem qXf (H:Type) (enc:TypeId×Value->H) (W:Go.World) (base:Nat) (args:Array Value) (ds gs:List (DataW H)) (before:List MemPlace)
  (hval:∀(j:Nat) t v,Tryz.f9.params[j]?=some t->args[j]?=some v->Value.okWide Tryz.prog W .any base t v)
  (hW:DataW.Whole enc Tryz.prog Tryz.f9.params.toList Rows.fnScriptsSpec.vars false W args.toList ds gs before) (hsh:W.ShapedOpen Tryz.prog) (hL:laidMetH Tryz.prog Rows.fnScriptsRow.laid W) :
  Calls Tryz.prog 9 args W fun e W'=>∃v,e=.returned v/\Rows.fnScriptsSpec.post enc Tryz.prog Tryz.f9 false true false false W args v W':=by
 have hW':=hW
 obtain⟨p,q,hA0,hV,rfl,hfz,hnd⟩:=hW
 have hA:DataW.TrodAll enc Tryz.prog W 0 (fun _=>true) true Tryz.f9.params.toList args.toList ds p:=hA0
 rw[Tryz.params9]at hA hval
 obtain⟨v0,vs0,d0,ds0,p0,q0,hargs0,rfl,rfl,h0,r0⟩:=trodAll_cons hA
 obtain⟨v1,vs1,d1,ds1,p1,q1,hargs1,rfl,rfl,h1,r1⟩:=trodAll_cons r0
 obtain⟨rfl,rfl,rfl⟩:=trodAll_nil r1
 subst hargs1
 obtain rfl:args=#[v0,v1]:=by cases args;simp_all
 obtain⟨gv0,gw0,gq0,rfl,hV0⟩:=qNT hV
 obtain⟨gv1,gw1,gq1,rfl,hV1⟩:=qNT hV0
 obtain⟨rfl,_⟩:=trodVars_none hV1
 obtain⟨as0,t0,k0⟩:=qTc T (dp:=8) (t:=55) rfl (by kernel_rfl) (hval 0 55 v0 rfl rfl) h0
 obtain⟨x0,rfl,w0⟩:=qQA t0
 obtain⟨as1,t1,k1⟩:=qTc T (dp:=8) (t:=55) rfl (by kernel_rfl) (hval 1 55 v1 rfl rfl) h1
 obtain⟨x1,rfl,w1⟩:=qQA t1
 refine((qOC 99999999 x0 x1 true (qRh x0 x1 w0 w1)).2 W (fun b=>b<W.heap.size) #[v0,v1] (.cons (k0 _ rfl) (.cons (k1 _ rfl) .nil)) (fun _ h=>h) (qXQ hsh hL).all).mono fun e W' ⟨v,Z',fpr,he,X,hv,_⟩=>?_
 cases hv
 exact⟨_,he,qU0 (tb:=4) (by kernel_rfl) (by rw[Tryz.params9];intro t ht;simp only[List.mem_cons,List.not_mem_nil,or_false]at ht;rcases ht with rfl|rfl<;>exact⟨by kernel_rfl,Nat.le_of_ble_eq_true (by kernel_rfl)⟩) (by kernel_rfl) (by kernel_rfl) (by kernel_rfl) ⟨rfl,rfl,rfl⟩ hW' X⟩
noncomputable def laidWorld (os:Os):Go.World :=
 let w0:=World.holding Tryz.prog os ⟨#[],#[],[]⟩
 let w1:Go.World:={ w0 with heap:=w0.heap.modify 6 fun
  |.cells _ t frozen=>.cells (([0,1,28,2,29,14,24,3,30,22,20,15,25,17,4,8,31,27,13,23,21,19,16,7,26,12,18,6,11,5,10,9]:List Int).map fun n=>Value.int .u8 n).toArray t frozen
  |o=>o }
 let w2:Go.World:={ w1 with heap:=w1.heap.modify 7 fun
  |.cells _ t frozen=>.cells (([0,1,56,2,57,49,28,3,61,58,42,50,38,29,17,4,62,47,59,36,45,43,51,22,53,39,33,30,24,18,12,5,63,55,48,27,60,41,37,16,46,35,44,21,52,32,23,11,54,26,40,15,34,20,31,10,25,14,19,9,13,8,7,6]:List Int).map fun n=>Value.int .u8 n).toArray t frozen
  |o=>o }
 let w3:Go.World:={ w2 with heap:=w2.heap.modify 5 fun
  |.cells _ t frozen=>.cells (([1,10,100,1000,10000,100000,1000000,10000000,100000000,1000000000,10000000000,100000000000,1000000000000,10000000000000,100000000000000,1000000000000000,10000000000000000,100000000000000000,1000000000000000000,10000000000000000000]:List Int).map fun n=>Value.int .u64 n).toArray t frozen
  |o=>o }
 let w4:Go.World:={ w3 with heap:=w3.heap.modify 4 fun
  |.cells _ t frozen=>.cells (([128,191,160,191,128,159,144,191,128,143]++List.replicate 22 0:List Int).map fun n=>Value.int .u8 n).toArray t frozen
  |o=>o }
 let w5:Go.World:={ w4 with heap:=w4.heap.modify 1 fun
  |.cells _ t frozen=>.cells #[.string ⟨#[]⟩,.string ⟨#[60]⟩,.string ⟨#[101]⟩,.string ⟨#[42]⟩] t frozen
  |o=>o }
 let w6:Go.World:={ w5 with heap:=w5.heap.modify 0 fun
  |.cells _ t frozen=>.cells #[.string ⟨#[110,111,110,101]⟩,.string ⟨#[100,111,119,110]⟩,.string ⟨#[101,100,103,101]⟩,.string ⟨#[118,111,105,100]⟩] t frozen
  |o=>o }
 let w7:Go.World:={ w6 with heap:=w6.heap.modify 3 fun
  |.cells _ t frozen=>.cells (Go.Pinned.utf8FirstZ.map fun n:Nat=>Value.int .u8 (n:Int)).toArray t frozen
  |o=>o }
 w7
set_option maxRecDepth 100000 in
theorem qRg (os:Os) (args:Array Value):laidMetH Tryz.prog Rows.fnScriptsRow.laid ((laidWorld os).forCall (fun _ _=>0) ⟨#[],args,[]⟩).memory :=
 laidMetH_of_parts (laidMet_of_run' 12 (by kernel_rfl) (by kernel_rfl)) (by kernel_rfl)
set_option maxRecDepth 100000 in
theorem qZg (os:Os) (started:os.Started) (H:Type) (enc:TypeId×Value->H) :
  ReturnsInHanded {} Tryz.checked os 9 .any (fun w args=>(Rows.fnScriptsSpec.pre enc Tryz.prog Tryz.f9 [] false w args/\laidMetH Tryz.prog Rows.fnScriptsRow.laid w)/\sizedMet enc Tryz.prog Tryz.f9 (OpenSpec.ofChange Rows.fnScriptsSpec) false w args)
   (Rows.fnScriptsSpec.post enc Tryz.prog Tryz.f9 false true false false):=by
 refine returnsInHanded_of_calls own started (by kernel_rfl)
  (ChangeSpec.witness_at (enc:=enc) (C:=Tryz.checked) (os:=os) (X:=fun w _=>laidMetH Tryz.prog Rows.fnScriptsRow.laid w) false (laidWorld os) #[.slice none 0 0,.slice none 0 0] 8 rfl (by kernel_rfl) (by kernel_rfl) (by kernel_rfl) (by kernel_rfl) (by kernel_rfl) (qRg os _)) ?_
 intro w tape inp _ hsh _ hok hpre _
 obtain⟨_,_,_,fn',hfn',_,_,_,_,hval⟩:=hok
 obtain rfl:fn'=Tryz.f9:=Option.some.inj (hfn'.symm.trans Tryz.func9)
 obtain⟨⟨⟨ds,gs,before,hw,_⟩,hx⟩,_⟩:=hpre
 refine(qXf H enc (w.forCall tape inp) w.heap.size inp.args ds gs before hval (DataW.Whole.of_heap (w':=w.forCall tape inp) (by rfl) hw) hsh (laidMetH.of_heap (by rfl) hx)).mono fun e W' h=>?_
 obtain⟨v,rfl,hp⟩:=h
 exact ChangeSpec.post_blind hp
theorem qJ9 {a b:Bool} (ha:a=true) (hb:b=true):(a&&b)=true:=by rw[ha,hb];rfl
theorem qZz:joinedFacts Tryz.pinned.checked.prog 9 Tryz.f9 Rows.fnScriptsSpec Rows.fnScriptsRow=true:=by
 unfold joinedFacts
 refine(qJ9 (qJ9 (qJ9 (qJ9 (qJ9 (qJ9 (qJ9 (qJ9 (qJ9 (qJ9 (qJ9 (qJ9 (qJ9 (qJ9 (qJ9 (qJ9 (qJ9 (qJ9 (qJ9 (qJ9 (qJ9 (qJ9 (qJ9 (qJ9 (qJ9 (qJ9 (qJ9 (qJ9 (qJ9 (qJ9 (qJ9 ?_ ?_) ?_) ?_) ?_) ?_) ?_) ?_) ?_) ?_) ?_) ?_) ?_) ?_) ?_) ?_) ?_) ?_) ?_) ?_) ?_) ?_) ?_) ?_) ?_) ?_) ?_) ?_) ?_) ?_) ?_) ?_)
 all_goals as_aux_lemma=>kernel_rfl
theorem over:Rows.fnScriptsRow.holds Tryz.pinned (OpenSpec.ofChange Rows.fnScriptsSpec) :=
 OpenClaim.holds_of_wide 9 Tryz.f9 rfl rfl rfl rfl rfl rfl rfl ⟨rfl,rfl,rfl,rfl,rfl⟩ rfl rfl rfl rfl rfl (by as_aux_lemma=>kernel_rfl) Tryz.func9 qZz
  (of_decide_eq_true (by as_aux_lemma=>kernel_rfl)) (by unfold Func.isWrapper;first|(rw[if_pos (by decide +kernel)];as_aux_lemma=>kernel_rfl)|(rw[if_neg (by decide +kernel)];exact⟨rfl,rfl⟩))
  (fun os started H enc _=>qZg os started H enc)
theorem proved:Rows.FnScriptsCardSaid :=
 Claim7.holds_tied_plain_at .later [] [.data, .data, .data, .data, .data, .widerDeep, .pinned] true (true, "67203feed903379f167c0313fb5890db98bbd4707420ab91de60ee03cfe37a72") false
  over (fun _ h=>by cases h) (by as_aux_lemma=>kernel_rfl) (fun _ h=>by cases h) fnScripts_row_tie rfl ⟨rfl,rfl⟩ (by as_aux_lemma=>kernel_rfl) rfl
  (fun f fn hf hfn=>by
   obtain rfl : f=9 := Option.some.inj ((show Tryz.prog.funcNamed "loop.example/g00912/laws.FnScripts" = some 9 by as_aux_lemma => kernel_rfl).symm.trans hf) |>.symm
   obtain rfl:fn=Tryz.f9:=(Option.some.inj (Tryz.func9.symm.trans hfn)).symm
   exact⟨by as_aux_lemma=>kernel_rfl,fun j t ht=>by
    rw[Tryz.params9]at ht
    have hm:=Array.mem_of_getElem? ht
    revert hm
    exact(show ∀t∈#[55,55],Tryz.prog.wantsStandIn t=false from fun t hm=>by
     simp only[Array.mem_def,List.mem_cons,List.not_mem_nil,or_false]at hm
     rcases hm with rfl|rfl<;>(as_aux_lemma=>kernel_rfl)) t⟩)
  (by as_aux_lemma=>kernel_rfl)
end Go.Proofs.YtkidpkmpnbibmaaGreatDoor

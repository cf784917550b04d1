/- The walk, part 3: what each function reached by the law FnExactScriptResults computes. No condition. -/
import Derived.Test.YtkidpkmpnbibmaaGreatDoorSrWalk2
set_option maxRecDepth 4000
set_option maxHeartbeats 1000000
set_option linter.unusedVariables false
set_option linter.unusedSimpArgs false
set_option linter.unusedSectionVars false
namespace Go.Proofs.YtkidpkmpnbibmaaGreatDoor
open Go.AM Tryz
section
open Go.Shelf Go.RowKit
theorem qYt:∃s b z,te 36=some ⟨.slice 107,s,b,z⟩:=⟨_,_,_,rfl⟩
theorem qWe:∃ti,te 107=some ti∧ti.size=4∧ti.bytes=40∧∃z,ti.zero=some z∧z.cells.size=4:=⟨_,rfl,rfl,rfl,_,rfl,rfl⟩
set_option maxHeartbeats 2000000 in
set_option maxRecDepth 1000000 in
theorem qUc {a:Option Addr} {n c vb voff vc:Nat} {w w1:World} {r:Value} (hn:n≤9000000000000000000)
  (hrun:∀ty,(Builtin.append_ #[36,36] ty #[.slice a n c,.slice (some ⟨vb,voff,none⟩) 1 vc]).run prog w=.ok r w1) :
  Calls prog 163 #[.slice a n c,.int .i64 n,.slice (some ⟨vb,voff,none⟩) 1 vc] w fun e w'=>e=.returned r∧w'=w1:=by
 have tS:prog.underlying 36=some (.slice 107):=by kernel_rfl
 have mixed:prog.follows .mixedOrders=true:=by kernel_rfl
 go_enter func163,ntmps163
 cases a with
 |none =>
  go_wp2_with (at_builtin;refine Lib.wpList_append_run _ rfl _ _ _ _ rfl _ _ rfl rfl _ _ (hrun _) ?_)
  all_goals (go_ret;exact⟨rfl,rfl⟩)
 |some a =>
  obtain⟨ab,ao,asp⟩:=a
  go_wp2_with (at_builtin;refine Lib.wpList_append_run _ rfl _ _ _ _ rfl _ _ rfl rfl _ _ (hrun _) ?_)
  all_goals (go_ret;exact⟨rfl,rfl⟩)
set_option maxHeartbeats 4000000 in
set_option maxRecDepth 1000000 in
theorem qTY {b off n c i vb voff vc:Nat} {w:World} {arr arv:Array Value} {el elv:TypeId} (hi:i<n) (hr:n+1≤c) (hc:c≤9223372036854775807) (hb:w.heap[b]?=some (.cells arr el (0,0))) (hs:off+c*4≤arr.size)
  (hv:w.heap[vb]?=some (.cells arv elv (0,0))) (hvs:voff+4≤arv.size) (hne:vb≠b) (h1:∀v∈(arr.toList.drop off).take (n*4),v.oneCell'=true) (h2:∀v∈(arv.toList.drop voff).take 4,v.oneCell'=true) :
  Calls prog 163 #[.slice (some ⟨b,off,none⟩) n c,.int .i64 i,.slice (some ⟨vb,voff,none⟩) 1 vc] w fun e w'=>e=.returned (.slice (some ⟨b,off,none⟩) (n+1) c)∧
   w'=(w.drew.setRow b (qAR arr.toList (off+(i+1)*4) ((arr.toList.drop (off+i*4)).take ((n-i)*4))).toArray).setRow b (qAR (qAR arr.toList (off+(i+1)*4) ((arr.toList.drop (off+i*4)).take ((n-i)*4))) (off+i*4) ((arv.toList.drop voff).take 4)).toArray:=by
 have tS:prog.underlying 36=some (.slice 107):=by kernel_rfl
 have mixed:prog.follows .mixedOrders=true:=by kernel_rfl
 have hz1:¬((i:Int)=(n:Int)):=by omega
 have hz3:¬((c:Int)<(n:Int)+1):=by omega
 have hw1:IntKind.i64.wrap ((n:Int)+1)=(n:Int)+1:=by rw[IntKind.wrap_i64];omega
 have hw2:IntKind.i64.wrap ((i:Int)+1)=(i:Int)+1:=by rw[IntKind.wrap_i64];omega
 have hov:∀x lb cb,(callFunc 224 #[.slice (some ⟨vb,voff,none⟩) 1 vc,.slice (some ⟨b,x,none⟩) lb cb]).run prog w=.ok (.value (.bool false)) w:=fun x lb cb=>by
  rw[run_callFunc_extern func224 (by kernel_rfl) (by kernel_rfl) (by kernel_rfl) (e:=Extern.SlicesOverlaps.overlaps #[36,36] #[4]) (by kernel_rfl),
   Lib.run_overlaps_apart w 36 4 107 tS 4 (fun w=>rfl) ⟨vb,voff,none⟩ ⟨b,x,none⟩ 1 vc lb cb hne elv el arv.size arr.size (by simp[World.shape?,hv]) (by simp[World.shape?,hb]) (by omega) (by simp[World.frozen?,hv]) (by simp[World.frozen?,hv])]
  rfl
 obtain⟨s36,b36,z36,h36⟩:=qYt
 obtain⟨ti,hti,hsz,hby,_⟩:=qWe
 have hb':w.drew.heap[b]?=some (.cells arr el (0,0)):=hb
 have hl1:((arr.toList.drop (off+i*4)).take ((n-i)*4)).length=(n-i)*4:=by simp;omega
 have hcp1:∀ty dc sc,(Builtin.copy_ #[36,36] ty #[.slice (some ⟨b,off+(i+1)*4,none⟩) (n-i) dc,.slice (some ⟨b,off+i*4,none⟩) (n+1-i) sc]).run prog w.drew =
   .ok (goInt (n-i:Nat)) (w.drew.setRow b (qAR arr.toList (off+(i+1)*4) ((arr.toList.drop (off+i*4)).take ((n-i)*4))).toArray):=fun ty dc sc =>
  qId T h36 hti hb' (by simp only[Nat.min_def];split<;>omega) (by rw[hsz];omega)
   (by rw[hsz];exact qKC (sz:=4) hb' (by omega)) (by rw[hsz];exact hl1) (fun v hv=>h1 v (by
    refine List.mem_of_mem_drop (i:=i*4) ?_
    rw[List.drop_take,List.drop_drop,show n*4-i*4=(n-i)*4 by omega]
    exact hv))
 obtain⟨X1,hX1⟩:∃X,X=qAR arr.toList (off+(i+1)*4) ((arr.toList.drop (off+i*4)).take ((n-i)*4)):=⟨_,rfl⟩
 rw[←hX1]at hcp1⊢
 have hXl:X1.length=arr.size:=by rw[hX1,qDc _ _ _ (by rw[hl1];simp;omega)];simp
 have hb1:(w.drew.setRow b X1.toArray).heap[b]?=some (.cells X1.toArray el (0,0)):=setRow_heap _ b arr _ el (0,0) hb'
 have hv1:(w.drew.setRow b X1.toArray).heap[vb]?=some (.cells arv elv (0,0)):=(qCK _ b _ vb hne).trans hv
 have hcp2:∀ty dc,(Builtin.copy_ #[36,36] ty #[.slice (some ⟨b,off+i*4,none⟩) (n+1-i) dc,.slice (some ⟨vb,voff,none⟩) 1 vc]).run prog (w.drew.setRow b X1.toArray) =
   .ok (goInt (1:Nat)) ((w.drew.setRow b X1.toArray).setRow b (qAR X1 (off+i*4) ((arv.toList.drop voff).take 4)).toArray):=fun ty dc=>by
  have:=qId T h36 hti (ty:=ty) (o:=off+i*4) (k:=1) (dLen:=n+1-i) (dCap:=dc) (m:=1) (c2:=vc) (A2:=some ⟨vb,voff,none⟩) (new:=(arv.toList.drop voff).take 4) hb1 (by simp only[Nat.min_def];split<;>omega) (by rw[hsz];simp[hXl];omega)
   (by rw[hsz];exact qKC (sz:=4) (k:=1) hv1 (by omega)) (by rw[hsz];simp;omega) h2
  simpa using this
 clear hX1
 have hi0:(0:Int)≤(i:Int)+1:=by omega
 have hin:i≤n:=by omega
 have hin1:(i:Int)≤(n:Int)+1:=by omega
 have hci:¬(c=i+1):=by omega
 have hci0:¬(c=i):=by omega
 go_enter func163,ntmps163
 go_wp2_with (simp only[hov])
 go_region_law_o (refine step_copy_runI rfl _ _ 36 36 rfl _ _ (by simp[Act.eval,Act.put]) (by simp[Act.eval,Act.put]) (hcp1 _ _ _) ?_)
 go_wp2_with (at_builtin;refine wpList_copy_runI _ rfl _ _ 36 36 rfl _ _ rfl rfl (hcp2 _ _) ?_)
 go_ret
 exact⟨rfl,rfl⟩
set_option maxHeartbeats 4000000 in
set_option maxRecDepth 1000000 in
theorem qVZ {b off n c i vb voff vc:Nat} {w:World} {arr arv:Array Value} {el elv:TypeId} (hi:i<n) (hnc:n≤c) (hr:c<n+1) (hbig:2*(n+1)*40≤281474976710656) (hb:w.heap[b]?=some (.cells arr el (0,0))) (hs:off+c*4≤arr.size)
  (hv:w.heap[vb]?=some (.cells arv elv (0,0))) (hvs:voff+4≤arv.size) (h1:∀v∈(arr.toList.drop off).take (n*4),v.oneCell'=true) (h2:∀v∈(arv.toList.drop voff).take 4,v.oneCell'=true) :
  Calls prog 163 #[.slice (some ⟨b,off,none⟩) n c,.int .i64 i,.slice (some ⟨vb,voff,none⟩) 1 vc] w fun e w'=>∃(ROW:Array Value) (G:Nat),n+1≤G∧G≤9223372036854775807∧ROW.size=G*4∧ROW.toList.take (i*4)=(arr.toList.drop off).take (i*4)∧
   e=.returned (.slice (some ⟨w.heap.size,0,none⟩) (n+1) G)∧
   w'=((w.drew.alloc (.cells ROW 107)).setRow w.heap.size (qAR ROW.toList (i*4) ((arv.toList.drop voff).take 4)).toArray).drew.setRow w.heap.size (qAR (qAR ROW.toList (i*4) ((arv.toList.drop voff).take 4)) ((i+1)*4) ((arr.toList.drop (off+i*4)).take ((n-i)*4))).toArray:=by
 have tS:prog.underlying 36=some (.slice 107):=by kernel_rfl
 have tI:prog.underlying 3=some (.int .i64):=by kernel_rfl
 have mixed:prog.follows .mixedOrders=true:=by kernel_rfl
 have hz1:¬((i:Int)=(n:Int)):=by omega
 have hz3:(c:Int)<(n:Int)+1:=by omega
 have hw1:IntKind.i64.wrap ((n:Int)+1)=(n:Int)+1:=by rw[IntKind.wrap_i64];omega
 have hw2:IntKind.i64.wrap ((i:Int)+1)=(i:Int)+1:=by rw[IntKind.wrap_i64];omega
 have hw3:IntKind.i64.wrap ((n:Int)+1-(i:Int))=(n:Int)+1-(i:Int):=by rw[IntKind.wrap_i64];omega
 obtain⟨s36,b36,z36,h36⟩:=qYt
 obtain⟨ti,hti,hsz,hby,_⟩:=qWe
 obtain⟨inf,z,hinf,hiz,his,hib,hzc⟩:∃inf z,prog.info? 107=some inf∧inf.zero=some z∧inf.size=4∧inf.bytes=40∧z.cells.size=4:=⟨_,_,rfl,rfl,rfl,rfl,rfl⟩
 have hb':w.drew.heap[b]?=some (.cells arr el (0,0)):=hb
 have hblt:b<w.heap.size:=(Array.getElem?_eq_some_iff.1 hb).1
 have hvlt:vb<w.heap.size:=(Array.getElem?_eq_some_iff.1 hv).1
 obtain⟨G,hG⟩:∃G,G=grownCap w (n+1) c 107:=⟨_,rfl⟩
 obtain⟨ROW,hROW⟩:∃ROW:Array Value,ROW=((arr.toList.drop off).take (i*4)).toArray++Builtin.zeroCells z.cells (n+1-i)++Builtin.zeroCells z.cells (G-(n+1)):=⟨_,rfl⟩
 have hGn:n+1≤G:=by rw[hG];exact grownCap_ge w _ _ _
 have hG63:G≤9223372036854775807:=by
  have:=grownCap_le_maxLen w (n+1) c 107 (by unfold maxLen;omega)
  rw[←hG]at this
  unfold maxLen at this
  omega
 have hRs:ROW.size=G*4:=by
  rw[hROW]
  simp[Builtin.zeroCells,hzc]
  omega
 have hRt:ROW.toList.take (i*4)=(arr.toList.drop off).take (i*4):=by
  rw[hROW,Array.toList_append,Array.toList_append,List.append_assoc,List.take_left']
  simp;omega
 have hrz:∀ty,(Builtin.append_ #[36,3] ty #[.slice (some ⟨b,off,none⟩) i c,.int .i64 ((n:Int)+1-(i:Int))]).run prog w=.ok (.slice (some ⟨w.heap.size,0,none⟩) (n+1) G) (w.drew.alloc (.cells ROW 107)):=fun ty=>by
  have h:=Lib.run_append_grow_zeros w 36 3 ty 107 inf z .i64 .i64 tS tI hinf hiz (some ⟨b,off,none⟩) i c ((arr.toList.drop off).take (i*4)) (by rw[his];exact qKC (sz:=4) (k:=i) (m:=i) (c:=c) (P:=prog) hb' (by omega) w.drew rfl) (n+1-i) (by omega) (by omega) (by omega) (by omega) (by rw[hib];omega)
   (by rw[hib,show i+(n+1-i)=n+1 by omega];have:=qPw hr;omega)
  rw[show i+(n+1-i)=n+1 by omega,←hG,←hROW,show ((n+1-i:Nat):Int)=(n:Int)+1-(i:Int) by omega]at h
  exact h
 clear hROW hG
 have hg1:(w.drew.alloc (.cells ROW 107)).heap[w.heap.size]?=some (.cells ROW 107 (0,0)):=heap_alloc_new w.drew _
 have hv1:(w.drew.alloc (.cells ROW 107)).heap[vb]?=some (.cells arv elv (0,0)):=(Lib.alloc_old w.drew _ vb hvlt).trans hv
 have hb1:(w.drew.alloc (.cells ROW 107)).heap[b]?=some (.cells arr el (0,0)):=(Lib.alloc_old w.drew _ b hblt).trans hb
 have hcpA:∀ty dc,(Builtin.copy_ #[36,36] ty #[.slice (some ⟨w.heap.size,i*4,none⟩) (n+1-i) dc,.slice (some ⟨vb,voff,none⟩) 1 vc]).run prog (w.drew.alloc (.cells ROW 107)) =
   .ok (goInt (1:Nat)) ((w.drew.alloc (.cells ROW 107)).setRow w.heap.size (qAR ROW.toList (i*4) ((arv.toList.drop voff).take 4)).toArray):=fun ty dc =>
  qId T h36 hti (ty:=ty) (o:=i*4) (k:=1) (dLen:=n+1-i) (dCap:=dc) (m:=1) (c2:=vc) (A2:=some ⟨vb,voff,none⟩) (new:=(arv.toList.drop voff).take 4) hg1 (by simp only[Nat.min_def];split<;>omega) (by rw[hsz];omega)
   (by rw[hsz];exact qKC (sz:=4) (k:=1) hv1 (by omega)) (by rw[hsz];simp;omega) h2
 obtain⟨X1,hX1⟩:∃X,X=qAR ROW.toList (i*4) ((arv.toList.drop voff).take 4):=⟨_,rfl⟩
 have hXl:X1.length=ROW.size:=by rw[hX1,qDc _ _ _ (by simp;omega)];simp
 have hfin:∀(e:Ending) (w':World),(e=.returned (.slice (some ⟨w.heap.size,0,none⟩) (n+1) G)∧
   w'=((w.drew.alloc (.cells ROW 107)).setRow w.heap.size X1.toArray).drew.setRow w.heap.size (qAR X1 ((i+1)*4) ((arr.toList.drop (off+i*4)).take ((n-i)*4))).toArray)→∃(ROW:Array Value) (G:Nat),n+1≤G∧G≤9223372036854775807∧ROW.size=G*4∧ROW.toList.take (i*4)=(arr.toList.drop off).take (i*4)∧
   e=.returned (.slice (some ⟨w.heap.size,0,none⟩) (n+1) G)∧
   w'=((w.drew.alloc (.cells ROW 107)).setRow w.heap.size (qAR ROW.toList (i*4) ((arv.toList.drop voff).take 4)).toArray).drew.setRow w.heap.size (qAR (qAR ROW.toList (i*4) ((arv.toList.drop voff).take 4)) ((i+1)*4) ((arr.toList.drop (off+i*4)).take ((n-i)*4))).toArray :=
  fun e w' h=>⟨ROW,G,hGn,hG63,hRs,hRt,h.1,by rw[←hX1];exact h.2⟩
 rw[←hX1]at hcpA
 clear hX1
 have hb2:((w.drew.alloc (.cells ROW 107)).setRow w.heap.size X1.toArray).drew.heap[b]?=some (.cells arr el (0,0)):=(qCK _ _ _ b (by omega)).trans hb1
 have hg2:((w.drew.alloc (.cells ROW 107)).setRow w.heap.size X1.toArray).drew.heap[w.heap.size]?=some (.cells X1.toArray 107 (0,0)):=setRow_heap _ _ ROW _ 107 (0,0) hg1
 have hcpB:∀ty dc sc,(Builtin.copy_ #[36,36] ty #[.slice (some ⟨w.heap.size,(i+1)*4,none⟩) (n-i) dc,.slice (some ⟨b,off+i*4,none⟩) (n-i) sc]).run prog ((w.drew.alloc (.cells ROW 107)).setRow w.heap.size X1.toArray).drew =
   .ok (goInt (n-i:Nat)) (((w.drew.alloc (.cells ROW 107)).setRow w.heap.size X1.toArray).drew.setRow w.heap.size (qAR X1 ((i+1)*4) ((arr.toList.drop (off+i*4)).take ((n-i)*4))).toArray):=fun ty dc sc =>
  qId T h36 hti (ty:=ty) (o:=(i+1)*4) (k:=n-i) (dLen:=n-i) (dCap:=dc) (m:=n-i) (c2:=sc) (A2:=some ⟨b,off+i*4,none⟩) (new:=(arr.toList.drop (off+i*4)).take ((n-i)*4)) hg2 (Nat.min_self _) (by rw[hsz];simp[hXl,hRs];omega)
   (by rw[hsz];exact qKC (sz:=4) hb2 (by omega)) (by rw[hsz];simp;omega) (fun v hv=>h1 v (by
    refine List.mem_of_mem_drop (i:=i*4) ?_
    rw[List.drop_take,List.drop_drop,show n*4-i*4=(n-i)*4 by omega]
    exact hv))
 have hcpB':∀ty dc sc,(Builtin.copy_ #[36,36] ty #[.slice (some ⟨w.heap.size,(i+1)*4,none⟩) (n-i) dc,.slice (some ⟨b,off+i*4,none⟩) (n-i) sc]).run prog ((w.alloc (.cells ROW 107)).drew.setRow w.heap.size X1.toArray).drew =
   .ok (goInt (n-i:Nat)) (((w.alloc (.cells ROW 107)).drew.setRow w.heap.size X1.toArray).drew.setRow w.heap.size (qAR X1 ((i+1)*4) ((arr.toList.drop (off+i*4)).take ((n-i)*4))).toArray):=hcpB
 clear hcpB
 have hi0:(0:Int)≤(i:Int)+1:=by omega
 have hin:i≤n:=by omega
 have hin1:(i:Int)≤(n:Int)+1:=by omega
 have hci:¬(c=i+1)∨True:=.inr trivial
 have hci0:¬(c=i):=by omega
 have hGi:¬(G=i):=by omega
 have hGi1:¬(G=i+1):=by omega
 have hic:i≤c:=by omega
 refine Calls.mono ?_ hfin
 go_enter func163,ntmps163
 go_wp2_with (first
  | (at_builtin;refine Lib.wpList_append_run _ rfl _ _ _ _ rfl _ _ rfl rfl _ _ (hrz _) ?_)
  | (refine wpList_copy_runI _ rfl _ _ 36 36 rfl _ _ rfl rfl (hcpA _ _) ?_))
 go_region_law_o (refine step_copy_runI rfl _ _ 36 36 rfl _ _ (by simp[Act.eval,Act.put]) (by simp[Act.eval,Act.put]) (hcpB' _ _ _) ?_)
 go_wp2
 all_goals (go_ret;exact⟨rfl,rfl⟩)
set_option maxHeartbeats 1000000 in
theorem qY3:qWS prog 163 4 40:=by
 intro w a n c i vb voff vc arv elv old fp hs hv hvo hv1 hvm hi hbig ho hn1
 have hvs:voff+4≤arv.size:=by omega
 have hnl:((arv.toList.drop voff).take 4).length=4:=by simp;omega
 obtain⟨s36,b36,z36,h36⟩:=qYt
 obtain⟨ti,hti,hsz,hby,z,hz,hzc⟩:=qWe
 have tS:prog.underlying 36=some (.slice 107):=by kernel_rfl
 have hdx:∀k,TypeDesc.slice 107≠.int k:=fun k h=>by cases h
 have hnew:=qKC (P:=prog) (k:=1) (m:=1) (sz:=4) (c:=vc) hv (by omega)
 rw[Nat.one_mul]at hnew
 have grow:∀(A:Option Addr) (n c:Nat) (old:List Value),c<n+1→2*(n+1)*40≤281474976710656→qK2 prog w.heap 4 n (.slice A n c) old→old.length=n*4→
   Calls prog 163 #[.slice A n c,.int .i64 n,.slice (some ⟨vb,voff,none⟩) 1 vc] w fun e w'=>∃b' o' c' arr' el',e=.returned (.slice (some ⟨b',o',none⟩) (n+1) c')∧Chg fp w w'∧(b'∈fp∨w.heap.size≤b')∧b'<w'.heap.size∧
    w'.heap[b']?=some (.cells arr' el' (0,0))∧n+1≤c'∧c'≤qEO∧o'+c'*4≤arr'.size∧(arr'.toList.drop o').take ((n+1)*4)=old.take (n*4)++(arv.toList.drop voff).take 4++old.drop (n*4):=by
  intro A n c old hr hbig hold hol
  obtain⟨G,q1,q2,q3⟩:=AM.run_append_grow T (ty:=36) h36 hti tS hdx (w:=w) (A:=A) (A2:=some ⟨vb,voff,none⟩) (n:=n) (m:=1) (cap:=c) (c2:=vc) (zv:=z) (old:=old) (new:=(arv.toList.drop voff).take 4) hz hr (by unfold qEO;omega) (by rw[hby];omega) (by rw[hsz];exact hold) (by rw[hsz];exact hnew)
  have hq:∀ty,(Builtin.append_ #[36,36] ty #[.slice A n c,.slice (some ⟨vb,voff,none⟩) 1 vc]).run prog w=.ok (.slice (some ⟨w.heap.size,0,none⟩) (n+1) G) (w.drew.alloc (.cells (old.toArray++((arv.toList.drop voff).take 4).toArray++Builtin.zeroCells z.cells (G-(n+1))) 107)):=fun ty=>q3
  refine(qUc (by omega) hq).mono ?_
  rintro e w' ⟨rfl,rfl⟩
  have hs2:(old.toArray++((arv.toList.drop voff).take 4).toArray++Builtin.zeroCells z.cells (G-(n+1))).size=G*4:=by
   simp[Builtin.zeroCells,hzc,hol]
   omega
  refine⟨w.heap.size,0,G,_,_,rfl,qMh _ _ _,.inr (Nat.le_refl _),?_,heap_alloc_new w.drew _,q1,q2,by rw[hs2];omega,?_⟩
  ·show w.heap.size<(w.heap.push _).size
   simp
  ·rw[List.drop_zero,Array.toList_append,Array.toList_append,List.take_of_length_le (Nat.le_of_eq hol),List.drop_of_length_le (Nat.le_of_eq hol),List.append_nil]
   exact List.take_left' (by simp[hol];omega)
 by_cases hin:i=n
 ·subst hin
  rcases hs with⟨rfl,rfl,rfl,rfl⟩|⟨b,off,arr,el,rfl,hb,hnc,hcm,hoff,hne,rfl,rfl⟩
  ·exact grow a 0 0 [] (by omega) hbig qGq rfl
  ·have hol:((arr.toList.drop off).take (i*4)).length=i*4:=by simp;omega
   by_cases hr:i+1≤c
   ·have hq:∀ty,(Builtin.append_ #[36,36] ty #[.slice (some ⟨b,off,none⟩) i c,.slice (some ⟨vb,voff,none⟩) 1 vc]).run prog w=.ok (.slice (some ⟨b,off,none⟩) (i+1) c) (w.setRow b (qAR arr.toList (off+i*4) ((arv.toList.drop voff).take 4)).toArray):=fun ty=>by
     have:=AM.run_append_fit T (ty:=ty) h36 hti tS hdx (w:=w) (bk:=b) (off:=off) (n:=i) (m:=1) (cap:=c) (c2:=vc) (A2:=some ⟨vb,voff,none⟩) (new:=(arv.toList.drop voff).take 4) hb hr (by rw[hsz];omega) (by rw[hsz];exact hnew) (by rw[hsz];omega) hn1
     rw[hsz]at this
     exact this
    refine(qUc (by unfold qEO at hcm;omega) hq).mono ?_
    rintro e w' ⟨rfl,rfl⟩
    have hsl:(qAR arr.toList (off+i*4) ((arv.toList.drop voff).take 4)).toArray.size=arr.size:=by
     rw[List.size_toArray,qDc _ _ _ (by rw[hnl];simp;omega)];simp
    refine⟨b,off,c,_,el,rfl,qIe w b arr _ el (0,0) hb hsl,.inl (by simp),?_,setRow_heap _ _ arr _ el (0,0) hb,hr,hcm,by rw[hsl];exact hoff,?_⟩
    ·rw[qEr];exact(Array.getElem?_eq_some_iff.1 hb).1
    ·have:=qMH arr.toList ((arv.toList.drop voff).take 4) off (i*4) (by simp;omega)
     rw[hnl,show i*4+4=(i+1)*4 by omega]at this
     rw[this,List.take_of_length_le (Nat.le_of_eq hol),List.drop_of_length_le (Nat.le_of_eq hol),List.append_nil]
   ·exact grow (some ⟨b,off,none⟩) i c _ (by omega) hbig (qKC (sz:=4) hb (by omega)) hol
 ·rcases hs with⟨rfl,_⟩|⟨b,off,arr,el,rfl,hb,hnc,hcm,hoff,hne,rfl,rfl⟩
  ·omega
  ·have hlt:i<n:=by omega
   have htl:((arr.toList.drop (off+i*4)).take ((n-i)*4))=((arr.toList.drop off).take (n*4)).drop (i*4):=by
    rw[List.drop_take,List.drop_drop,show n*4-i*4=(n-i)*4 by omega]
   have htn:((arr.toList.drop (off+i*4)).take ((n-i)*4)).length=(n-i)*4:=by simp;omega
   have htk:((arr.toList.drop off).take (n*4)).take (i*4)=(arr.toList.drop off).take (i*4):=by rw[List.take_take,Nat.min_eq_left (by omega)]
   have hblt:=(Array.getElem?_eq_some_iff.1 hb).1
   by_cases hr:n+1≤c
   ·refine(qTY hlt hr (by unfold qEO at hcm;exact hcm) hb hoff hv hvs (fun e=>hne e.symm) ho hn1).mono ?_
    rintro e w' ⟨rfl,rfl⟩
    have hb0:w.drew.heap[b]?=some (.cells arr el (0,0)):=hb
    have hX1:(qAR arr.toList (off+(i+1)*4) ((arr.toList.drop (off+i*4)).take ((n-i)*4))).toArray.size=arr.size:=by
     rw[List.size_toArray,qDc _ _ _ (by rw[htn];simp;omega)];simp
    have hb1:=setRow_heap w.drew b arr (qAR arr.toList (off+(i+1)*4) ((arr.toList.drop (off+i*4)).take ((n-i)*4))).toArray el (0,0) hb0
    have hX2:(qAR (qAR arr.toList (off+(i+1)*4) ((arr.toList.drop (off+i*4)).take ((n-i)*4))) (off+i*4) ((arv.toList.drop voff).take 4)).toArray.size=arr.size:=by
     rw[List.size_toArray,qDc _ _ _ (by rw[hnl,←List.size_toArray,hX1];omega),←List.size_toArray,hX1]
    refine⟨b,off,c,_,el,rfl,(qI6 [b] w).trans ((qIe w.drew b arr _ el (0,0) hb0 hX1).trans (qIe _ b _ _ el (0,0) hb1 (hX2.trans hX1.symm)) fun x hx=>.inl hx) fun x hx=>.inl hx,.inl (by simp),?_,setRow_heap _ _ _ _ el (0,0) hb1,hr,hcm,by rw[hX2];exact hoff,?_⟩
    ·rw[qEr,qEr];exact hblt
    ·have:=qSt arr.toList ((arv.toList.drop voff).take 4) ((arr.toList.drop (off+i*4)).take ((n-i)*4)) off (i*4) (by rw[hnl,htn];simp;omega)
     rw[hnl,htn,show off+i*4+4=off+(i+1)*4 by omega,show i*4+4+(n-i)*4=(n+1)*4 by omega]at this
     rw[this,htk,htl]
   ·refine(qVZ hlt hnc (by omega) hbig hb hoff hv hvs ho hn1).mono ?_
    rintro e w' ⟨ROW,G,q1,q2,q3,q4,rfl,rfl⟩
    have hg1:(w.drew.alloc (.cells ROW 107)).heap[w.heap.size]?=some (.cells ROW 107 (0,0)):=heap_alloc_new w.drew _
    have hX1:(qAR ROW.toList (i*4) ((arv.toList.drop voff).take 4)).toArray.size=ROW.size:=by
     rw[List.size_toArray,qDc _ _ _ (by rw[hnl];simp;omega)];simp
    have hg2:((w.drew.alloc (.cells ROW 107)).setRow w.heap.size (qAR ROW.toList (i*4) ((arv.toList.drop voff).take 4)).toArray).drew.heap[w.heap.size]?=some (.cells (qAR ROW.toList (i*4) ((arv.toList.drop voff).take 4)).toArray 107 (0,0)):=setRow_heap _ _ ROW _ 107 (0,0) hg1
    have hX2:(qAR (qAR ROW.toList (i*4) ((arv.toList.drop voff).take 4)) ((i+1)*4) ((arr.toList.drop (off+i*4)).take ((n-i)*4))).toArray.size=ROW.size:=by
     rw[List.size_toArray,qDc _ _ _ (by rw[htn,←List.size_toArray,hX1];omega),←List.size_toArray,hX1]
    have hsz0:(w.drew.alloc (.cells ROW 107)).heap.size=w.heap.size+1:=by
     show (w.heap.push _).size=_
     simp
    refine⟨w.heap.size,0,G,_,107,rfl,((qMh [b] w _).trans ((qIe _ _ ROW _ 107 (0,0) hg1 hX1).trans ((qI6 [w.heap.size] _).trans (qIe _ _ _ _ 107 (0,0) hg2 (hX2.trans hX1.symm)) fun x hx=>.inl hx) fun x hx=>.inl hx) fun x hx=>.inr (by simp at hx;omega)),.inr (Nat.le_refl _),?_,setRow_heap _ _ _ _ 107 (0,0) hg2,q1,by unfold qEO;exact q2,by rw[hX2];omega,?_⟩
    ·rw[qEr]
     show w.heap.size<((w.drew.alloc (.cells ROW 107)).setRow _ _).heap.size
     rw[qEr,hsz0]
     omega
    ·have h1:=qMH (qAR ROW.toList (i*4) ((arv.toList.drop voff).take 4)) ((arr.toList.drop (off+i*4)).take ((n-i)*4)) 0 ((i+1)*4) (by rw[←List.size_toArray,hX1];omega)
     have h2:=qMH ROW.toList ((arv.toList.drop voff).take 4) 0 (i*4) (by simp;omega)
     rw[htn,Nat.zero_add,List.drop_zero,List.drop_zero,show (i+1)*4+(n-i)*4=(n+1)*4 by omega]at h1
     rw[hnl,Nat.zero_add,List.drop_zero,List.drop_zero,show i*4+4=(i+1)*4 by omega,q4]at h2
     rw[List.drop_zero]
     rw[h2]at h1
     rw[h1,htk,htl]
end
def qDn (x:List Element) (i:Int) (v:List Element):Option (List Element):=(qAz (decide (0≤i)&&decide (i≤(x.length:Int))&&decide (v.length=1)&&qAh 40 (x.length+1))).bind fun _=>some (x.take i.toNat++v++x.drop i.toNat)
theorem qJr (x:List Element) (i:Int) (v:List Element) (r:List Element) (hH:qDn x i v=some r):qF3 prog 163 [.w 4 (x.map ze5),.v (.int .i64 i),.w 4 (v.map ze5)] [.u,.u,.u] (.w 4 (r.map ze5)):=by
 obtain⟨u,hu,hr⟩:=zB hH
 cases zS hr
 exact qVn ⟨_,func163,rfl,by decide⟩ qY3 (fun _=>rfl) (fun _=>rfl) x i v (qAS hu)
def qF4 (fl:Nat) (c:Code) (elements:List Element):Option (Code×Bool) :=
 (qDK c.limits).bind fun x1 =>
 (qBG fl (Code.mk elements x1 c.repeats c.bonus c.keeps c.fall)).bind fun x3 =>
 cond (!x3)
  (some ((Code.mk [] [] 0 0 0 0),false))
  (some ((Code.mk elements x1 c.repeats c.bonus c.keeps c.fall),true))
theorem qLp (fl:Nat) (c:Code) (elements:List Element) (r:(Code×Bool)) (hH:qF4 fl c elements=some r):qF3 prog 162 [.g (ze4 c),.w 4 (elements.map ze5)] [.u,.u] (.t [.g (qOJ r.1),.v (.bool r.2)]):=by
 refine qUy T func162 rfl (by decide) rfl rfl ?_
 intro L
 show AW _ _ _ (⟨[(0,.g (ze4 c)),(1,.R 1)],[(1,ro 4 ze5 elements)],17,[(1,L 1)]⟩:St)
 refine go ?_
 refine AO.x (bxs T 2) ?_
 refine AO.x (als T 3) (go ?_)
 refine AO.se T [.R 1,sv ze0 c.limits,c.repeats,c.bonus,c.keeps,c.fall] ?_
 refine go ?_
 obtain⟨x1,hx2,hH⟩:=zB hH
 refine go ?_
 refine AO.x (qAU rfl 4 rfl rfl rfl (qH9 _ _ (hx2)) rfl rfl rfl) ?_
 refine AO.pu T ?_
 refine AO.se T [.R 1,.R 4,c.repeats,c.bonus,c.keeps,c.fall] ?_
 refine go ?_
 obtain⟨x3,hx4,hH⟩:=zB hH
 refine go ?_
 refine AO.w (zLV rfl rfl rfl (es:=[.g (ze4 (Code.mk elements x1 c.repeats c.bonus c.keeps c.fall))]) ⟨qIK (LendL.cons ((.rowR rfl (.map fun y=>.vs rfl))) (LendL.cons ((.rowR rfl (.map fun y=>.vs rfl))) (LendL.cons (.free rfl) (LendL.cons (.free rfl) (LendL.cons (.free rfl) (LendL.cons (.free rfl) LendL.nil)))))),trivial⟩ (qFg fl _ _ (hx4)) (qAc _) rfl) (go ?_)
 refine AW.cH hH (fun _ hH=>?_) (fun _ hH=>?_)
 refine go ?_
 refine AO.se T [.w 0 [],.w 0 [],(0:Int),(0:Int),(0:Int),(0:Int)] ?_
 refine go ?_
 have hR:=zS hH;subst hR
 exact⟨trivial,rfl,_,[],[],rfl,zG (.c .u) (zG (.c .u) (zGn)),.t (zG (.g (zC .nil (zC .nil (zC .v (zC .v (zC .v (zC .v (zCn)))))))) (zG (.c .v) (zGn))),by decide⟩
 refine go ?_
 refine AO.se T [.R 1,.R 4,c.repeats,c.bonus,c.keeps,c.fall] ?_
 refine go ?_
 have hR:=zS hH;subst hR
 exact⟨trivial,rfl,_,[1,4],[],rfl,zG (.c .u) (zG (.c .u) (zGn)),.t (zG (.g (zC (.rowR rfl) (zC (.rowR rfl) (zC .v (zC .v (zC .v (zC .v (zCn)))))))) (zG (.c .v) (zGn))),by decide⟩
def qBm (c:Code) (x:Element):Nat→Int→Option Int
 |0,_=>none
 |k15+1,v21 =>
  (opt (decide (v21<(c.elements.length:Int))) default (qAV c.elements v21)).bind fun x23 =>
  cond (decide (v21<(c.elements.length:Int))&&(qMp x23.name x.name))
   (qBm c x k15 (w64 (v21+1)))
   (some v21)
def qE9 (fl:Nat) (c:Code) (x:Element):Option (Code×Bool) :=
 (qBG fl c).bind fun x1 =>
 cond (!x1)
  (some ((Code.mk [] [] 0 0 0 0),false))
  ((qBm c x fl 0).bind fun v12 =>
  (qAz (qAh 40 c.elements.length)).bind fun u25 =>
  (qDn c.elements v12 [x]).bind fun x27 =>
  (qF4 fl c x27).bind fun x29 =>
  some (x29.1,x29.2))
theorem qMo (fl:Nat) (c:Code) (x:Element) (r:(Code×Bool)) (hH:qE9 fl c x=some r):qAC prog 117 [.g (ze4 c),.g (ze5 x)] (.t [.g (qOJ r.1),.v (.bool r.2)]):=by
 refine fns T func117 ?_
 refine AW.q (AW.r (AO.x (bxs T 1) ?_))
 refine AO.x (bxs T 2) ?_
 refine AO.x (als T 3) ?_
 refine AO.pu T ?_
 refine AO.n (AW.q (AW.q ?_))
 obtain⟨x1,hx2,hH⟩:=zB hH
 refine AW.r (AO.pu T (d:=.g (ze4 c)) ?_)
 refine AO.w (cVs (qFg fl _ _ (hx2))) ?_
 refine AO.pu T ?_
 refine AO.n (AW.c (b:=(!x1)) rfl (fun hc=>?_) (fun hc=>?_))
 replace hH:=condT hc hH
 refine AW.q (AW.r (AO.pu T (d:=.g [.w 0 [],.w 0 [],(0:Int),(0:Int),(0:Int),(0:Int)]) ?_))
 refine AO.se T [.w 0 [],.w 0 [],(0:Int),(0:Int),(0:Int),(0:Int)] ?_
 refine AO.pu T ?_
 refine AO.n (AW.t ?_)
 have hR:=zS hH;subst hR
 exact retQ.i [] rfl (.t (zG (.g (zC .nil (zC .nil (zC .v (zC .v (zC .v (zC .v (zCn)))))))) (zG (.c .v) (zGn))))
 replace hH:=condF hc hH
 refine AW.k (AW.q (AW.r ?_))
 refine AO.pu T ?_
 refine AO.n ?_
 obtain⟨o13,hH,hK14⟩:=zB hH
 refine AW.seqJ (fun s:Int=>(⟨[(2,.p 1 0),(3,.p 2 0),(4,.p 3 0),(6,s)],[(1,.box (ze4 c)),(2,.box (ze5 x)),(3,.box [.w 0 [],.w 0 [],(0:Int),(0:Int),(0:Int),(0:Int)])],41,[]⟩:St)) (fun s=>s=o13) ?_ ?_
 refine AW.b (AW.loopS (fun s:Nat×Int=>(⟨[(2,.p 1 0),(3,.p 2 0),(4,.p 3 0),(6,s.2)],[(1,.box (ze4 c)),(2,.box (ze5 x)),(3,.box [.w 0 [],.w 0 [],(0:Int),(0:Int),(0:Int),(0:Int)])],41,[]⟩:St)) (fun s=>qBm c x s.1 s.2=some o13) (fun s=>s.1) (fl,0) hH ?_ ?_)
 exact Le.ct 0 0
 rintro⟨k15,v21⟩ hH
 replace hH:qBm c x k15 v21=some o13:=hH
 try dsimp only
 rcases k15 with _|k15
 cases (show none=some _ from hH)
 rw[qBm]at hH
 refine AW.q (AW.q ?_)
 obtain⟨x23,hx24,hH⟩:=zB hH
 refine AW.drawn 14 4 [] mix (by kernel_rfl) rfl ?_
 iterate 3 refine AD.pu T ?_
 refine AD.vv (qLn T) ?_
 iterate 2 refine AD.pu T ?_
 refine AD.pureG T [] rfl trivial rfl rfl ?_
 refine AD.pureG T [17] rfl ⟨fun h=>h,trivial⟩ rfl rfl ?_
 refine AD.pureG T [] rfl trivial rfl rfl ?_
 refine AD.guard [18,19] rfl ⟨fun h=>h,fun h=>h,trivial⟩ (fun hg=>zX T rfl rfl rfl rfl rfl (qEv hx24 hg) rfl) rfl ?_
 refine AD.pureG T [20] rfl ⟨fun h=>h,trivial⟩ rfl rfl ?_
 refine AD.pureG T [21] rfl ⟨fun h=>h,trivial⟩ rfl rfl ?_
 refine AD.pureG T [] rfl trivial rfl rfl ?_
 refine AD.pureG T [23] rfl ⟨fun h=>h,trivial⟩ rfl rfl ?_
 refine AD.nil (AO.g T [22,24] rfl ⟨fun h=>h,fun h=>h,trivial⟩ rfl rfl ?_)
 refine AO.w qYY ?_
 refine AO.n (AW.c (b:=(decide (v21<(c.elements.length:Int))&&(qMp x23.name x.name))) rfl (fun hc=>?_) (fun hc=>?_))
 replace hH:=condT hc hH
 refine AW.k (AW.b ?_)
 refine AW.r (AO.pu T ?_)
 refine AO.w aws ?_
 refine AO.pu T ?_
 refine AO.n ?_
 refine⟨(k15,w64 (v21+1)),hH,Nat.lt_succ_self _,?_⟩
 exact Le.ct 0 0
 replace hH:=condF hc hH
 refine AW.exit ?_
 refine⟨_,zS hH,?_⟩
 exact Le.ct 0 0
 rintro v12 hs
 subst hs
 replace hH:=hK14
 try dsimp only[qLN,qJm]at hH
 try dsimp only
 refine AW.q ?_
 obtain⟨u25,hx26,hH⟩:=zB hH
 obtain⟨x27,hx28,hH⟩:=zB hH
 obtain⟨x29,hx30,hH⟩:=zB hH
 refine AW.drawn 12 4 [] mix (by kernel_rfl) rfl ?_
 refine AD.p T (d:=.g (ze4 c)) rfl rfl rfl ?_
 refine AD.v (FStep.mk0 T rfl rfl rfl rfl rfl) ?_
 iterate 2 refine AD.pu T ?_
 refine AD.q (FStep.app_ws T rfl rfl rfl rfl rfl rfl rfl (by decide) (by decide) rfl rfl (fun _=>rfl) (qAS (hx26)) rfl) (by simp[qAu]) (Nat.le_succ _) rfl ?_
 refine AD.pu T ?_
 refine AD.p T (d:=.g (ze5 x)) rfl rfl rfl ?_
 refine AD.q (FStep.mk T (f:=ze5) (l:=[x]) rfl rfl rfl rfl rfl rfl rfl rfl rfl (fun _=>rfl) rfl rfl rfl rfl) (by simp[qAu]) (Nat.le_succ _) rfl ?_
 refine AD.kk (FStep.callM rfl rfl rfl rfl (es:=[.w 4 (c.elements.map ze5),.v (.int .i64 v12),.w 4 ([x].map ze5)]) (outs:=[.u,.u,.u]) (ids:=[4,5]) (by exact zG (.c (.rowR rfl)) (zG (.c .v) (zG (.c (.rowR rfl)) (zGn)))) (by decide) (.inr (by exact(show ([]:List Nat).Nodup∧∀i∈([]:List Nat),i∈([4,5]:List Nat) from by decide))) (by rfl) (qJr _ _ _ _ (hx28)) rfl (by rfl) rfl) ?_
 refine AD.kk (FStep.callM rfl rfl rfl rfl (es:=[.g (ze4 c),.w 4 (x27.map ze5)]) (outs:=[.u,.u]) (ids:=[6]) (by exact zG (.g (zC .s (zC .s (zC .v (zC .v (zC .v (zC .v (zCn)))))))) (zG (.c (.rowR rfl)) (zGn))) (by decide) (.inr (by exact(show ([]:List Nat).Nodup∧∀i∈([]:List Nat),i∈([6]:List Nat) from by decide))) (by rfl) (qLp fl _ _ _ (hx30)) rfl (by rfl) rfl) ?_
 refine AD.p T (d:=.g [.R 7,.R 8,x29.1.repeats,x29.1.bonus,x29.1.keeps,x29.1.fall]) rfl rfl rfl ?_
 refine AD.pu T ?_
 refine AD.nil (AO.se T [.R 7,.R 8,x29.1.repeats,x29.1.bonus,x29.1.keeps,x29.1.fall] ?_)
 refine AO.pu T ?_
 refine AO.n (AW.t ?_)
 have hR:=zS hH;subst hR
 exact retQ.i [7,8] rfl (.t (zG (.g (zC (.rowR rfl) (zC (.rowR rfl) (zC .v (zC .v (zC .v (zC .v (zCn)))))))) (zG (.c .v) (zGn))))
def qBD (ok:Bool):Option ByteArray :=
 cond ok
  (some (⟨#[111,107]⟩:ByteArray))
  (some (⟨#[110,111]⟩:ByteArray))
theorem qCB (ok:Bool) (r:ByteArray) (hH:qBD ok=some r):qAC prog 161 [.v (.bool ok)] (.v (.string r)):=by
 refine fns T func161 ?_
 refine go ?_
 refine AW.cH hH (fun _ hH=>?_) (fun _ hH=>?_)
 refine go ?_
 exact fin
 refine go ?_
 exact fin
def qAr (sA:ScriptState) (c:Code) (ok:Bool):Option (ScriptState×ByteArray) :=
 cond ok
  ((qBD ok).bind fun x1 =>
  some ((ScriptState.mk c sA.performance sA.factor sA.results),x1))
  ((qBD ok).bind fun x3 =>
  some (sA,x3))
theorem qD6 (sA:ScriptState) (c:Code) (ok:Bool) (r:(ScriptState×ByteArray)) (hH:qAr sA c ok=some r):qF3 prog 116 [.pn (qHp sA),.g (ze4 c),.v (.bool ok)] [.pn (qHp r.1),.u,.u] (.v (.string r.2)):=by
 refine qFN T func116 rfl (by decide) rfl rfl [.p 1 0,.g (ze4 c),.v (.bool ok)] [(1,.box (qH4 sA 2)),(2,ro 2 qGA sA.results)] 3 (by kernel_rfl) [1] rfl rfl ?_
 intro L
 show AW _ _ _ (⟨[(0,.p 1 0),(1,.g (ze4 c)),(2,.v (.bool ok))],[(1,.box (qH4 sA 2)),(2,ro 2 qGA sA.results)],14,[(1,L 1)]⟩:St)
 refine go ?_
 refine AO.x (bxs T 3) (go ?_)
 refine AW.cH hH (fun _ hH=>?_) (fun _ hH=>?_)
 refine go ?_
 refine AO.se T [sv ze5 c.elements,sv ze0 c.limits,c.repeats,c.bonus,c.keeps,c.fall,sv ze1 sA.performance.items,sv ze3 sA.performance.marks.grades,sv ze3 sA.performance.marks.components,sA.performance.slips.falls,sA.performance.slips.seconds,sA.performance.slips.other,sA.factor,.R 2] ?_
 refine go ?_
 obtain⟨x1,hx2,hH⟩:=zB hH
 refine go ?_
 refine AO.w (cVs (qCB _ _ (hx2))) (go ?_)
 exact qEW
 refine go ?_
 obtain⟨x3,hx4,hH⟩:=zB hH
 refine go ?_
 refine AO.w (cVs (qCB _ _ (hx4))) (go ?_)
 exact qEW
def qAi (fl:Nat) (sA:ScriptState) (command:ByteArray) (l:List Int):Option (ScriptState×ByteArray) :=
 (qAz (qAh 40 sA.code.elements.length)).bind fun u1 =>
 (qF4 fl sA.code sA.code.elements).bind fun x3 =>
 cond (decide (command=(⟨#[114,117,108,101,115]⟩:ByteArray)))
  ((qAV l 0).bind fun x6 =>
  (qAV l 1).bind fun x8 =>
  (qAV l 2).bind fun x10 =>
  (qAV l 3).bind fun x12 =>
  (qBG fl (Code.mk x3.1.elements x3.1.limits x6 x8 x10 x12)).bind fun x14 =>
  (qAr sA (Code.mk x3.1.elements x3.1.limits x6 x8 x10 x12) x14).bind fun x16 =>
  some (x16.1,x16.2))
  ((qAV l 0).bind fun x18 =>
  (qFA x18).bind fun x20 =>
  cond (!x20)
   (some (sA,(⟨#[110,111]⟩:ByteArray)))
   ((qAV l 1).bind fun x22 =>
   (qAV x3.1.limits x18).bind fun x24 =>
   (qBG fl (Code.mk x3.1.elements (x3.1.limits.set x18.toNat x22) x3.1.repeats x3.1.bonus x3.1.keeps x3.1.fall)).bind fun x26 =>
   (qAr sA (Code.mk x3.1.elements (x3.1.limits.set x18.toNat x22) x3.1.repeats x3.1.bonus x3.1.keeps x3.1.fall) x26).bind fun x28 =>
   some (x28.1,x28.2)))
theorem qGz (fl:Nat) (sA:ScriptState) (command:ByteArray) (l:List Int) (r:(ScriptState×ByteArray)) (hH:qAi fl sA command l=some r):qF3 prog 118 [.pn (qHp sA),.v (.string command),.s (List.map ze0 l)] [.pn (qHp r.1),.u,.u] (.v (.string r.2)):=by
 refine qFN T func118 rfl (by decide) rfl rfl [.p 1 0,.v (.string command),sv ze0 l] [(1,.box (qH4 sA 2)),(2,ro 2 qGA sA.results)] 3 (by kernel_rfl) [1] rfl rfl ?_
 intro L
 show AW _ _ _ (⟨[(0,.p 1 0),(1,.v (.string command)),(2,sv ze0 l)],[(1,.box (qH4 sA 2)),(2,ro 2 qGA sA.results)],66,[(1,L 1)]⟩:St)
 refine go ?_
 obtain⟨u1,hx2,x3,hx4,hH⟩:=qAI hH
 refine AW.drawn 17 3 [] mix (by kernel_rfl) rfl ?_
 refine go ?_
 refine AD.v (FStep.mk0 T rfl rfl rfl rfl rfl) ?_
 refine go ?_
 refine AD.q (FStep.app_ws T rfl rfl rfl rfl rfl rfl rfl (by decide) (by decide) rfl rfl (fun _=>rfl) (qAS (hx2)) rfl) (by simp[qAu]) (Nat.le_succ _) rfl ?_
 refine AD.kk (FStep.callM rfl rfl rfl rfl (es:=[.g (ze4 sA.code),.w 4 (sA.code.elements.map ze5)]) (outs:=[.u,.u]) (ids:=[3]) (by exact zG (.g (zC .s (zC .s (zC .v (zC .v (zC .v (zC .v (zCn)))))))) (zG (.c (.rowR rfl)) (zGn))) (by decide) (.inr (by exact(show ([]:List Nat).Nodup∧∀i∈([]:List Nat),i∈([3]:List Nat) from by decide))) (by rfl) (qLp fl _ _ _ (hx4)) rfl (by rfl) rfl) ?_
 refine go ?_
 refine AD.q (FStep.alloc T rfl rfl rfl rfl rfl rfl) (by simp[qAu]) (Nat.le_succ _) rfl ?_
 refine AD.kk (FStep.store_p T rfl rfl rfl rfl rfl rfl rfl rfl rfl rfl rfl) ?_
 refine go ?_
 refine AW.cH hH (fun _ hH=>?_) (fun _ hH=>?_)
 refine AW.q ?_
 obtain⟨x6,hx7,x8,hx9,x10,hx11,hH⟩:=qBB hH
 obtain⟨x12,hx13,hH⟩:=zB hH
 refine AW.drawn 18 7 [6] mix (by kernel_rfl) rfl ?_
 refine go ?_
 refine AD.kk (FStep.store_p T rfl rfl rfl rfl rfl rfl rfl rfl rfl rfl rfl) ?_
 refine AD.pu T ?_
 refine AD.kk (FStep.store_p T rfl rfl rfl rfl rfl rfl rfl rfl rfl rfl rfl) ?_
 refine AD.pu T ?_
 refine AD.kk (FStep.store_p T rfl rfl rfl rfl rfl rfl rfl rfl rfl rfl rfl) ?_
 refine go ?_
 refine AO.se T [.R 4,.R 5,x6,x8,x10,x12] ?_
 refine AO.n (AW.le (Le.ct 0 0 (σ':=(⟨[(0,.p 1 0),(7,.p 6 0)],[(1,.box (qH4 sA 2)),(2,ro 2 qGA sA.results),(4,ro 4 ze5 x3.1.elements),(5,ro 1 ze0 x3.1.limits),(6,.box [.R 4,.R 5,x6,x8,x10,x12])],66,[(1,L 1)]⟩:St)) (hpin:=⟨⟨rfl,rfl⟩,trivial⟩)) ?_)
 refine AW.q ?_
 obtain⟨x14,hx15,x16,hx17,hH⟩:=qAI hH
 refine AW.le (Le.fM 4 (g:=ze5) rfl (fun y=>.vs rfl)) ?_
 refine AW.le (Le.fM 5 (g:=ze0) rfl (fun y=>.vs rfl)) ?_
 refine AW.drawn 4 7 [] mix (by kernel_rfl) rfl ?_
 refine go ?_
 refine AD.vv (cVs (qFg fl _ _ (hx15))) ?_
 refine AD.nil (AO.x (qAd (qH4 x16.1 7) [(7,ro 2 qGA x16.1.results)] 8 (by kernel_rfl) rfl 7 rfl rfl rfl rfl (es:=[.pn (qHp sA),.g (ze4 (Code.mk x3.1.elements x3.1.limits x6 x8 x10 x12)),.v (.bool x14)]) (us:=[.u,.u]) (cs:=qHp x16.1) (ids:=[1,2]) (by exact zG (.pb rfl (qAJ rfl)) (zG (.g (zC .s (zC .s (zC .v (zC .v (zC .v (zC .v (zCn)))))))) (zG (.c .v) (zGn)))) (by decide) (by decide) (qD6 _ _ _ _ (hx17)) rfl rfl (by rfl) rfl) (go ?_))
 exact qEW
 refine go ?_
 obtain⟨x18,hx19,x20,hx21,hH⟩:=qAI hH
 refine go ?_
 refine AO.w (cVs (qKO _ _ (hx21))) ?_
 refine gs2 ?_
 refine AW.le (Le.ct 0 0 (σ':=(⟨[(0,.p 1 0),(2,sv ze0 l),(7,.p 6 0),(51,.v (.bool (!x20)))],[(1,.box (qH4 sA 2)),(2,ro 2 qGA sA.results),(4,ro 4 ze5 x3.1.elements),(5,ro 1 ze0 x3.1.limits),(6,.box [.R 4,.R 5,x3.1.repeats,x3.1.bonus,x3.1.keeps,x3.1.fall])],66,[(1,L 1)]⟩:St)) (hpin:=⟨⟨rfl,rfl⟩,trivial⟩)) ?_
 refine AW.cH hH (fun _ hH=>?_) (fun _ hH=>?_)
 refine go ?_
 exact qEW
 refine go ?_
 obtain⟨x22,hx23,x24,hx25,hH⟩:=qAI hH
 refine AW.drawn 8 8 [] mix (by kernel_rfl) rfl ?_
 refine go ?_
 refine AO.x (zSr T rfl rfl rfl rfl rfl (zgG (hx25)) rfl rfl rfl rfl (u':=x22) rfl rfl) (go ?_)
 obtain⟨x26,hx27,x28,hx29,hH⟩:=qAI hH
 refine AW.le (Le.fM 4 (g:=ze5) rfl (fun y=>.vs rfl)) ?_
 refine AW.le (Le.fM 5 (g:=ze0) rfl (fun y=>.vs rfl)) ?_
 refine AW.drawn 4 8 [] mix (by kernel_rfl) rfl ?_
 refine go ?_
 refine AD.vv (cVs (qFg fl _ _ (hx27))) ?_
 refine AD.nil (AO.x (qAd (qH4 x28.1 8) [(8,ro 2 qGA x28.1.results)] 9 (by kernel_rfl) rfl 8 rfl rfl rfl rfl (es:=[.pn (qHp sA),.g (ze4 (Code.mk x3.1.elements (x3.1.limits.set x18.toNat x22) x3.1.repeats x3.1.bonus x3.1.keeps x3.1.fall)),.v (.bool x26)]) (us:=[.u,.u]) (cs:=qHp x28.1) (ids:=[1,2]) (by exact zG (.pb rfl (qAJ rfl)) (zG (.g (zC .s (zC .s (zC .v (zC .v (zC .v (zC .v (zCn)))))))) (zG (.c .v) (zGn)))) (by decide) (by decide) (qD6 _ _ _ _ (hx29)) rfl rfl (by rfl) rfl) (go ?_))
 exact qEW
def qGY (m:Marks) (judge:Int):Option Bool :=
 (qDt m).bind fun x1 =>
 (opt x1 default (qAy m)).bind fun x3 =>
 (opt x1 default (qAN judge 0 (w64 (x3-1)))).bind fun x5 =>
 some (x1&&x5)
theorem qKg (m:Marks) (judge:Int) (r:Bool) (hH:qGY m judge=some r):qAC prog 226 [.g (qAf m),judge] (.v (.bool r)):=by
 refine fns T func226 ?_
 refine go ?_
 refine AO.x (bxs T 1) (go ?_)
 obtain⟨x1,hx2,x3,hx4,x5,hx6,hH⟩:=qBB hH
 refine go ?_
 refine AO.w (cVs (qIj _ _ (hx2))) ?_
 refine AO.pu T ?_
 refine AO.g0 T ?_
 refine AO.g T (d:=.g [sv ze3 m.grades,sv ze3 m.components]) [] rfl trivial rfl rfl ?_
 refine AO.d1 9 (fun hg=>cVs (qEQ _ _ (qEv hx4 hg))) ?_
 refine AO.d1 10 (fun hg=>aws) ?_
 refine AO.d2 8 11 (fun hg=>cVs (qAP _ _ _ _ (qEv hx6 hg))) ?_
 refine go ?_
 exact fin
def qGV (m:Marks):Option (Marks×Bool) :=
 (qDt m).bind fun x1 =>
 cond (!x1)
  (some ((Marks.mk [] []),false))
  (some (m,true))
theorem qLE (m:Marks) (r:(Marks×Bool)) (hH:qGV m=some r):qAC prog 227 [.g (qAf m)] (.t [.g (qAf r.1),.v (.bool r.2)]):=by
 refine fns T func227 ?_
 refine go ?_
 refine AO.x (bxs T 1) ?_
 refine AO.x (als T 2) (go ?_)
 obtain⟨x1,hx2,hH⟩:=zB hH
 refine go ?_
 refine AO.w (cVs (qIj _ _ (hx2))) (go ?_)
 refine AW.cH hH (fun _ hH=>?_) (fun _ hH=>?_)
 refine go ?_
 refine AO.se T [.w 0 [],.w 0 []] ?_
 refine go ?_
 exact fin
 refine go ?_
 refine AO.se T [sv ze3 m.grades,sv ze3 m.components] ?_
 refine go ?_
 exact fin
def qFz (m:Marks) (item:Int) (judge:Int) (grade:Int):Option (Marks×Bool) :=
 (qGY m judge).bind fun x1 =>
 (opt (!(!x1)) default (qAN item 0 (w64 ((m.grades.length:Int)-1)))).bind fun x3 =>
 cond ((!x1)||(!x3))
  (some ((Marks.mk [] []),false))
  ((qCy m).bind fun x5 =>
  (qAV x5.grades item).bind fun x7 =>
  (qAV x7 judge).bind fun x9 =>
  (qGV (Marks.mk (x5.grades.set item.toNat (x7.set judge.toNat grade)) x5.components)).bind fun x11 =>
  some (x11.1,x11.2))
theorem qNt (m:Marks) (item:Int) (judge:Int) (grade:Int) (r:(Marks×Bool)) (hH:qFz m item judge grade=some r):qAC prog 164 [.g (qAf m),item,judge,grade] (.t [.g (qAf r.1),.v (.bool r.2)]):=by
 refine fns T func164 ?_
 refine gs2 ?_
 refine AO.x (bxs T 1) ?_
 refine AO.x (als T 2) ?_
 refine gs4 ?_
 obtain⟨x1,hx2,x3,hx4,hH⟩:=qAI hH
 refine gs3 ?_
 refine AO.w (cVs (qKg _ _ _ (hx2))) ?_
 refine gs2 ?_
 refine AO.g0 T ?_
 refine AO.g0 T ?_
 refine AO.g1 T 17 ?_
 refine AO.d1 18 (fun hg=>qLn T) ?_
 refine AO.d1 19 (fun hg=>aws) ?_
 refine AO.d2 16 20 (fun hg=>cVs (qAP _ _ _ _ (qEv hx4 hg))) ?_
 refine AO.g1 T 21 ?_
 refine gs2 ?_
 refine AW.cH hH (fun _ hH=>?_) (fun _ hH=>?_)
 refine gs3 ?_
 refine AO.se T [.w 0 [],.w 0 []] ?_
 refine gs3 ?_
 exact fin
 refine gs2 ?_
 obtain⟨x5,hx6,hH⟩:=zB hH
 refine gs2 ?_
 refine AO.x (qAU rfl 3 rfl rfl rfl (qF0 _ _ (hx6)) rfl rfl rfl) ?_
 refine AO.x (als T 5) ?_
 refine AO.se T [.R 3,.R 4] ?_
 refine gs2 ?_
 obtain⟨x7,hx8,x9,hx10,hH⟩:=qAI hH
 refine AW.le (Le.openM 3 item.toNat 0 6 rfl (zgG (hx8)) rfl rfl) ?_
 refine gs4 ?_
 refine AO.w (qDd T rfl rfl rfl rfl rfl rfl (hx8)) ?_
 refine AO.w (qBl T rfl rfl rfl rfl rfl) ?_
 refine gs3 ?_
 refine AO.x (zSr T rfl rfl rfl rfl rfl (zgG (hx10)) rfl rfl rfl rfl (u':=grade) rfl rfl) ?_
 refine AO.le (Le.closeM 3 item.toNat 0 6 rfl rfl (zgG (hx8)) rfl (u':=(x7.set judge.toNat grade)) rfl) ?_
 refine AO.n (AW.le (Le.ct 0 0 (σ':=(⟨[(8,.p 2 0),(10,.p 5 0)],[(2,.box [.w 0 [],.w 0 []]),(3,ro 1 ze8 (x5.grades.set item.toNat (x7.set judge.toNat grade))),(4,ro 1 ze8 x5.components),(5,.box [.R 3,.R 4])],39,[]⟩:St))) ?_)
 refine AW.q ?_
 obtain⟨x11,hx12,hH⟩:=zB hH
 refine AW.le (Le.fM 3 (g:=ze3) rfl (fun y=>qAl y)) ?_
 refine AW.le (Le.fM 4 (g:=ze3) rfl (fun y=>qAl y)) ?_
 refine gs2 ?_
 refine AO.w (cVs (qLE _ _ (hx12))) ?_
 refine gs2 ?_
 refine AO.se T [sv ze3 x11.1.grades,sv ze3 x11.1.components] ?_
 refine gs3 ?_
 exact fin
def qD7 (m:Marks) (component:Int) (judge:Int) (mark:Int):Option (Marks×Bool) :=
 (qGY m judge).bind fun x1 =>
 (opt (!(!x1)) default (qAN component 0 2)).bind fun x3 =>
 cond ((!x1)||(!x3))
  (some ((Marks.mk [] []),false))
  ((qCy m).bind fun x5 =>
  (qAV x5.components component).bind fun x7 =>
  (qAV x7 judge).bind fun x9 =>
  (qGV (Marks.mk x5.grades (x5.components.set component.toNat (x7.set judge.toNat mark)))).bind fun x11 =>
  some (x11.1,x11.2))
theorem qLe (m:Marks) (component:Int) (judge:Int) (mark:Int) (r:(Marks×Bool)) (hH:qD7 m component judge mark=some r):qAC prog 165 [.g (qAf m),component,judge,mark] (.t [.g (qAf r.1),.v (.bool r.2)]):=by
 refine fns T func165 ?_
 refine gs2 ?_
 refine AO.x (bxs T 1) ?_
 refine AO.x (als T 2) ?_
 refine gs4 ?_
 obtain⟨x1,hx2,x3,hx4,hH⟩:=qAI hH
 refine gs3 ?_
 refine AO.w (cVs (qKg _ _ _ (hx2))) ?_
 refine gs2 ?_
 refine AO.g0 T ?_
 refine AO.d1 16 (fun hg=>cVs (qAP _ _ _ _ (qEv hx4 hg))) ?_
 refine AO.g1 T 17 ?_
 refine gs2 ?_
 refine AW.cH hH (fun _ hH=>?_) (fun _ hH=>?_)
 refine gs3 ?_
 refine AO.se T [.w 0 [],.w 0 []] ?_
 refine gs3 ?_
 exact fin
 refine gs2 ?_
 obtain⟨x5,hx6,hH⟩:=zB hH
 refine gs2 ?_
 refine AO.x (qAU rfl 3 rfl rfl rfl (qF0 _ _ (hx6)) rfl rfl rfl) ?_
 refine AO.x (als T 5) ?_
 refine AO.se T [.R 3,.R 4] ?_
 refine gs2 ?_
 obtain⟨x7,hx8,x9,hx10,hH⟩:=qAI hH
 refine AW.le (Le.openM 4 component.toNat 0 6 rfl (zgG (hx8)) rfl rfl) ?_
 refine gs4 ?_
 refine AO.w (qDd T rfl rfl rfl rfl rfl rfl (hx8)) ?_
 refine AO.w (qBl T rfl rfl rfl rfl rfl) ?_
 refine gs3 ?_
 refine AO.x (zSr T rfl rfl rfl rfl rfl (zgG (hx10)) rfl rfl rfl rfl (u':=mark) rfl rfl) ?_
 refine AO.le (Le.closeM 4 component.toNat 0 6 rfl rfl (zgG (hx8)) rfl (u':=(x7.set judge.toNat mark)) rfl) ?_
 refine AO.n (AW.le (Le.ct 0 0 (σ':=(⟨[(8,.p 2 0),(10,.p 5 0)],[(2,.box [.w 0 [],.w 0 []]),(3,ro 1 ze8 x5.grades),(4,ro 1 ze8 (x5.components.set component.toNat (x7.set judge.toNat mark))),(5,.box [.R 3,.R 4])],35,[]⟩:St))) ?_)
 refine AW.q ?_
 obtain⟨x11,hx12,hH⟩:=zB hH
 refine AW.le (Le.fM 3 (g:=ze3) rfl (fun y=>qAl y)) ?_
 refine AW.le (Le.fM 4 (g:=ze3) rfl (fun y=>qAl y)) ?_
 refine gs2 ?_
 refine AO.w (cVs (qLE _ _ (hx12))) ?_
 refine gs2 ?_
 refine AO.se T [sv ze3 x11.1.grades,sv ze3 x11.1.components] ?_
 refine gs3 ?_
 exact fin
def qAO (fl:Nat) (sA:ScriptState) (command:ByteArray) (l:List Int):Option (ScriptState×ByteArray) :=
 cond (decide (command=(⟨#[106,117,100,103,101,115]⟩:ByteArray)))
  ((qAV l 0).bind fun x2 =>
  (qAN x2 3 9).bind fun x4 =>
  cond x4
   ((qC5 fl (sA.performance.items.length:Int) x2).bind fun x6 =>
   cond x4
    ((qBD x4).bind fun x8 =>
    some ((ScriptState.mk sA.code (Performance.mk sA.performance.items x6 sA.performance.slips) sA.factor sA.results),x8))
    ((qBD x4).bind fun x10 =>
    some (sA,x10)))
   (cond x4
    ((qBD x4).bind fun x12 =>
    some ((ScriptState.mk sA.code (Performance.mk sA.performance.items (Marks.mk [] []) sA.performance.slips) sA.factor sA.results),x12))
    ((qBD x4).bind fun x14 =>
    some (sA,x14))))
  (cond (decide (command=(⟨#[103,114,97,100,101]⟩:ByteArray)))
   ((qAV l 0).bind fun x17 =>
   (qAV l 1).bind fun x19 =>
   (qAV l 2).bind fun x21 =>
   (qFz sA.performance.marks x17 x19 x21).bind fun x23 =>
   cond x23.2
    ((qBD x23.2).bind fun x25 =>
    some ((ScriptState.mk sA.code (Performance.mk sA.performance.items x23.1 sA.performance.slips) sA.factor sA.results),x25))
    ((qBD x23.2).bind fun x27 =>
    some (sA,x27)))
   ((qAV l 0).bind fun x29 =>
   (qAV l 1).bind fun x31 =>
   (qAV l 2).bind fun x33 =>
   (qD7 sA.performance.marks x29 x31 x33).bind fun x35 =>
   cond x35.2
    ((qBD x35.2).bind fun x37 =>
    some ((ScriptState.mk sA.code (Performance.mk sA.performance.items x35.1 sA.performance.slips) sA.factor sA.results),x37))
    ((qBD x35.2).bind fun x39 =>
    some (sA,x39))))
theorem qEs (fl:Nat) (sA:ScriptState) (command:ByteArray) (l:List Int) (r:(ScriptState×ByteArray)) (hH:qAO fl sA command l=some r):qF3 prog 119 [.pn (qHp sA),.v (.string command),.s (List.map ze0 l)] [.pn (qHp r.1),.u,.u] (.v (.string r.2)):=by
 refine qFN T func119 rfl (by decide) rfl rfl [.p 1 0,.v (.string command),.s (List.map ze0 l)] [(1,.box (qH4 sA 2)),(2,.row 2 (List.map qGA sA.results))] 3 (by kernel_rfl) [1] rfl rfl ?_
 intro L
 show AW _ _ _ (⟨[(0,.p 1 0),(1,.v (.string command)),(2,.s (List.map ze0 l))],[(1,.box (qH4 sA 2)),(2,.row 2 (List.map qGA sA.results))],74,[(1,L 1)]⟩:St)
 refine AW.q (AW.r (AO.pu T ?_))
 refine AO.n (AW.q (AW.r ?_))
 refine AO.pu T (d:=.g [.w 0 [],.w 0 []]) ?_
 refine AO.x (als T 3) ?_
 refine AO.se T [.w 0 [],.w 0 []] ?_
 refine AO.pu T ?_
 refine AO.n (AW.q (AW.q ?_))
 refine AW.r (AO.pu T ?_)
 refine AO.n (AW.b ?_)
 refine AW.q (AW.r (AO.p2 T ?_))
 refine AO.n (AW.c (b:=decide (command=(⟨#[106,117,100,103,101,115]⟩:ByteArray))) rfl (fun hc1=>?_) (fun hc1=>?_))
 replace hH:=condT hc1 hH
 refine AW.q ?_
 obtain⟨x2,hx3,hH⟩:=zB hH
 obtain⟨x4,hx5,hH⟩:=zB hH
 refine AW.r (AO.pu T ?_)
 refine AO.w (ixs T (hx3)) ?_
 refine AO.pu T ?_
 refine AO.w (cVs (qAP _ _ _ _ (hx5))) ?_
 refine AO.pu T ?_
 refine AO.n (AW.q (AW.r ?_))
 refine AO.pu T ?_
 refine AO.n (AW.c (b:=x4) rfl (fun hc=>?_) (fun hc=>?_))
 replace hH:=condT hc hH
 obtain⟨x6,hx7,hH⟩:=zB hH
 refine AW.drawn 9 4 [] mix (by kernel_rfl) rfl ?_
 iterate 5 refine AD.pu T ?_
 refine AD.vv (qLn T) ?_
 refine AD.pu T ?_
 refine AD.vv (ixs T (hx3)) ?_
 refine AD.pu T ?_
 refine AD.nil (AO.x (qAU rfl 4 rfl rfl rfl (qJF fl _ _ _ (hx7)) rfl rfl rfl) ?_)
 refine AO.se T [.R 4,.R 5] ?_
 refine AO.n (AW.le (Le.ct 0 0 (σ':=(⟨[(0,.p 1 0),(7,.p 3 0),(8,.v (.bool x4))],[(1,.box (qH4 sA 2)),(2,.row 2 (List.map qGA sA.results)),(3,.box [.R 4,.R 5]),(4,.row 1 (List.map ze8 x6.grades)),(5,.row 1 (List.map ze8 x6.components))],74,[(1,L 1)]⟩:St)) (hpin:=⟨⟨rfl,rfl⟩,trivial⟩)) ?_)
 refine AW.q (AW.q (AW.r ?_))
 refine AO.pu T ?_
 refine AO.n (AW.c (b:=x4) rfl (fun hc=>?_) (fun hc=>?_))
 replace hH:=condT hc hH
 refine AW.r (AO.pu T ?_)
 refine AO.pu T (d:=.g [.R 4,.R 5]) ?_
 iterate 3 refine AO.pu T ?_
 refine AO.se T [.s (List.map ze5 sA.code.elements),.s (List.map ze0 sA.code.limits),sA.code.repeats,sA.code.bonus,sA.code.keeps,sA.code.fall,.s (List.map ze1 sA.performance.items),.R 4,.R 5,sA.performance.slips.falls,sA.performance.slips.seconds,sA.performance.slips.other,sA.factor,.R 2] ?_
 refine AO.n (AW.q ?_)
 obtain⟨x8,hx9,hH⟩:=zB hH
 refine AW.r (AO.pu T ?_)
 refine AO.w (cVs (qCB _ _ (hx9))) ?_
 refine AO.pu T ?_
 refine AO.n (AW.le (Le.fM 5 (g:=ze3) rfl (fun y=>qAl y)) ?_)
 refine AW.le (Le.fM 4 (g:=ze3) rfl (fun y=>qAl y)) ?_
 refine AW.t ?_
 have hR:=zS hH;subst hR
 exact⟨trivial,rfl,_,[],[1,2],rfl,zG (.pb rfl (qAJ rfl)) (zG (.c .u) (zG (.c .u) (zGn))),.c (.c .v),by decide⟩
 replace hH:=condF hc hH
 refine AW.k (AW.q ?_)
 obtain⟨x10,hx11,hH⟩:=zB hH
 refine AW.r (AO.pu T ?_)
 refine AO.w (cVs (qCB _ _ (hx11))) ?_
 refine AO.pu T ?_
 refine AO.n (AW.t ?_)
 have hR:=zS hH;subst hR
 exact⟨trivial,rfl,_,[],[1,2],rfl,zG (.pb rfl (qAJ rfl)) (zG (.c .u) (zG (.c .u) (zGn))),.c (.c .v),by decide⟩
 replace hH:=condF hc hH
 refine AW.k (AW.q (AW.q ?_))
 refine AW.r (AO.pu T ?_)
 refine AO.n (AW.c (b:=x4) rfl (fun hc=>?_) (fun hc=>?_))
 replace hH:=condT hc hH
 refine AW.r (AO.pu T ?_)
 refine AO.pu T (d:=.g [.w 0 [],.w 0 []]) ?_
 iterate 3 refine AO.pu T ?_
 refine AO.se T [.s (List.map ze5 sA.code.elements),.s (List.map ze0 sA.code.limits),sA.code.repeats,sA.code.bonus,sA.code.keeps,sA.code.fall,.s (List.map ze1 sA.performance.items),.w 0 [],.w 0 [],sA.performance.slips.falls,sA.performance.slips.seconds,sA.performance.slips.other,sA.factor,.R 2] ?_
 refine AO.n (AW.q ?_)
 obtain⟨x12,hx13,hH⟩:=zB hH
 refine AW.r (AO.pu T ?_)
 refine AO.w (cVs (qCB _ _ (hx13))) ?_
 refine AO.pu T ?_
 refine AO.n (AW.le (Le.ct 0 0 (σ':=(⟨[(6,.v (.string x12))],[(1,.box [.s (List.map ze5 sA.code.elements),.s (List.map ze0 sA.code.limits),sA.code.repeats,sA.code.bonus,sA.code.keeps,sA.code.fall,.s (List.map ze1 sA.performance.items),.w 0 [],.w 0 [],sA.performance.slips.falls,sA.performance.slips.seconds,sA.performance.slips.other,sA.factor,.R 2]),(2,.row 2 (List.map qGA sA.results))],74,[(1,L 1)]⟩:St)) (hpin:=⟨⟨rfl,rfl⟩,trivial⟩)) ?_)
 refine AW.le (Le.nilSBox 1 7 rfl rfl) ?_
 refine AW.le (Le.nilSBox 1 8 rfl rfl) ?_
 refine AW.t ?_
 have hR:=zS hH;subst hR
 exact⟨trivial,rfl,_,[],[1,2],rfl,zG (.pb rfl (qAJ rfl)) (zG (.c .u) (zG (.c .u) (zGn))),.c (.c .v),by decide⟩
 replace hH:=condF hc hH
 refine AW.k (AW.q ?_)
 obtain⟨x14,hx15,hH⟩:=zB hH
 refine AW.r (AO.pu T ?_)
 refine AO.w (cVs (qCB _ _ (hx15))) ?_
 refine AO.pu T ?_
 refine AO.n (AW.t ?_)
 have hR:=zS hH;subst hR
 exact⟨trivial,rfl,_,[],[1,2],rfl,zG (.pb rfl (qAJ rfl)) (zG (.c .u) (zG (.c .u) (zGn))),.c (.c .v),by decide⟩
 replace hH:=condF hc1 hH
 refine AW.q (AW.r (AO.p2 T ?_))
 refine AO.n (AW.c (b:=decide (command=(⟨#[103,114,97,100,101]⟩:ByteArray))) rfl (fun hc16=>?_) (fun hc16=>?_))
 replace hH:=condT hc16 hH
 obtain⟨x17,hx18,hH⟩:=zB hH
 obtain⟨x19,hx20,hH⟩:=zB hH
 obtain⟨x21,hx22,hH⟩:=zB hH
 obtain⟨x23,hx24,hH⟩:=zB hH
 refine AW.drawn 19 6 [3] mix (by kernel_rfl) rfl ?_
 iterate 4 refine AD.pu T ?_
 refine AD.p T (d:=.g [.s (List.map ze3 sA.performance.marks.grades),.s (List.map ze3 sA.performance.marks.components)]) rfl rfl rfl ?_
 refine AD.pu T ?_
 refine AD.vv (ixs T (hx18)) ?_
 iterate 2 refine AD.pu T ?_
 refine AD.vv (ixs T (hx20)) ?_
 iterate 2 refine AD.pu T ?_
 refine AD.vv (ixs T (hx22)) ?_
 refine AD.pu T ?_
 refine AD.vv (cVs (qNt _ _ _ _ _ (hx24))) ?_
 refine AD.pu T ?_
 refine AD.p T (d:=.g [.s (List.map ze3 x23.1.grades),.s (List.map ze3 x23.1.components)]) rfl rfl rfl ?_
 refine AD.pu T ?_
 refine AD.kk (FStep.store_p T rfl rfl rfl rfl rfl rfl rfl rfl rfl rfl rfl) ?_
 refine AD.nil (AO.pu T ?_)
 refine AO.n (AW.le (Le.ct 0 0 (σ':=(⟨[(0,.p 1 0),(7,.p 3 0),(8,.v (.bool x23.2))],[(1,.box (qH4 sA 2)),(2,.row 2 (List.map qGA sA.results)),(3,.box [.s (List.map ze3 x23.1.grades),.s (List.map ze3 x23.1.components)])],74,[(1,L 1)]⟩:St)) (hpin:=⟨⟨rfl,rfl⟩,trivial⟩)) ?_)
 refine AW.q (AW.q (AW.r ?_))
 refine AO.pu T ?_
 refine AO.n (AW.c (b:=x23.2) rfl (fun hc=>?_) (fun hc=>?_))
 replace hH:=condT hc hH
 refine AW.r (AO.pu T ?_)
 refine AO.pu T (d:=.g [.s (List.map ze3 x23.1.grades),.s (List.map ze3 x23.1.components)]) ?_
 iterate 3 refine AO.pu T ?_
 refine AO.se T [.s (List.map ze5 sA.code.elements),.s (List.map ze0 sA.code.limits),sA.code.repeats,sA.code.bonus,sA.code.keeps,sA.code.fall,.s (List.map ze1 sA.performance.items),.s (List.map ze3 x23.1.grades),.s (List.map ze3 x23.1.components),sA.performance.slips.falls,sA.performance.slips.seconds,sA.performance.slips.other,sA.factor,.R 2] ?_
 refine AO.n (AW.q ?_)
 obtain⟨x25,hx26,hH⟩:=zB hH
 refine AW.r (AO.pu T ?_)
 refine AO.w (cVs (qCB _ _ (hx26))) ?_
 refine AO.pu T ?_
 refine AO.n (AW.t ?_)
 have hR:=zS hH;subst hR
 exact⟨trivial,rfl,_,[],[1,2],rfl,zG (.pb rfl (qAJ rfl)) (zG (.c .u) (zG (.c .u) (zGn))),.c (.c .v),by decide⟩
 replace hH:=condF hc hH
 refine AW.k (AW.q ?_)
 obtain⟨x27,hx28,hH⟩:=zB hH
 refine AW.r (AO.pu T ?_)
 refine AO.w (cVs (qCB _ _ (hx28))) ?_
 refine AO.pu T ?_
 refine AO.n (AW.t ?_)
 have hR:=zS hH;subst hR
 exact⟨trivial,rfl,_,[],[1,2],rfl,zG (.pb rfl (qAJ rfl)) (zG (.c .u) (zG (.c .u) (zGn))),.c (.c .v),by decide⟩
 replace hH:=condF hc16 hH
 obtain⟨x29,hx30,hH⟩:=zB hH
 obtain⟨x31,hx32,hH⟩:=zB hH
 obtain⟨x33,hx34,hH⟩:=zB hH
 obtain⟨x35,hx36,hH⟩:=zB hH
 refine AW.drawn 19 6 [3] mix (by kernel_rfl) rfl ?_
 iterate 4 refine AD.pu T ?_
 refine AD.p T (d:=.g [.s (List.map ze3 sA.performance.marks.grades),.s (List.map ze3 sA.performance.marks.components)]) rfl rfl rfl ?_
 refine AD.pu T ?_
 refine AD.vv (ixs T (hx30)) ?_
 iterate 2 refine AD.pu T ?_
 refine AD.vv (ixs T (hx32)) ?_
 iterate 2 refine AD.pu T ?_
 refine AD.vv (ixs T (hx34)) ?_
 refine AD.pu T ?_
 refine AD.vv (cVs (qLe _ _ _ _ _ (hx36))) ?_
 refine AD.pu T ?_
 refine AD.p T (d:=.g [.s (List.map ze3 x35.1.grades),.s (List.map ze3 x35.1.components)]) rfl rfl rfl ?_
 refine AD.pu T ?_
 refine AD.kk (FStep.store_p T rfl rfl rfl rfl rfl rfl rfl rfl rfl rfl rfl) ?_
 refine AD.nil (AO.pu T ?_)
 refine AO.n (AW.le (Le.ct 0 0 (σ':=(⟨[(0,.p 1 0),(7,.p 3 0),(8,.v (.bool x35.2))],[(1,.box (qH4 sA 2)),(2,.row 2 (List.map qGA sA.results)),(3,.box [.s (List.map ze3 x35.1.grades),.s (List.map ze3 x35.1.components)])],74,[(1,L 1)]⟩:St)) (hpin:=⟨⟨rfl,rfl⟩,trivial⟩)) ?_)
 refine AW.q (AW.q (AW.r ?_))
 refine AO.pu T ?_
 refine AO.n (AW.c (b:=x35.2) rfl (fun hc=>?_) (fun hc=>?_))
 replace hH:=condT hc hH
 refine AW.r (AO.pu T ?_)
 refine AO.pu T (d:=.g [.s (List.map ze3 x35.1.grades),.s (List.map ze3 x35.1.components)]) ?_
 iterate 3 refine AO.pu T ?_
 refine AO.se T [.s (List.map ze5 sA.code.elements),.s (List.map ze0 sA.code.limits),sA.code.repeats,sA.code.bonus,sA.code.keeps,sA.code.fall,.s (List.map ze1 sA.performance.items),.s (List.map ze3 x35.1.grades),.s (List.map ze3 x35.1.components),sA.performance.slips.falls,sA.performance.slips.seconds,sA.performance.slips.other,sA.factor,.R 2] ?_
 refine AO.n (AW.q ?_)
 obtain⟨x37,hx38,hH⟩:=zB hH
 refine AW.r (AO.pu T ?_)
 refine AO.w (cVs (qCB _ _ (hx38))) ?_
 refine AO.pu T ?_
 refine AO.n (AW.t ?_)
 have hR:=zS hH;subst hR
 exact⟨trivial,rfl,_,[],[1,2],rfl,zG (.pb rfl (qAJ rfl)) (zG (.c .u) (zG (.c .u) (zGn))),.c (.c .v),by decide⟩
 replace hH:=condF hc hH
 refine AW.k (AW.q ?_)
 obtain⟨x39,hx40,hH⟩:=zB hH
 refine AW.r (AO.pu T ?_)
 refine AO.w (cVs (qCB _ _ (hx40))) ?_
 refine AO.pu T ?_
 refine AO.n (AW.t ?_)
 have hR:=zS hH;subst hR
 exact⟨trivial,rfl,_,[],[1,2],rfl,zG (.pb rfl (qAJ rfl)) (zG (.c .u) (zG (.c .u) (zGn))),.c (.c .v),by decide⟩
def qFW (l:List Item) (item:Int) (name:Int):Option Bool :=
 (qAN item 0 (w64 ((l.length:Int)-1))).bind fun x1 =>
 (opt x1 default (qAV l item)).bind fun x3 =>
 (opt x1 default (qAN name 0 (w64 ((x3.names.length:Int)-1)))).bind fun x5 =>
 some (x1&&x5)
theorem qMx (l:List Item) (item:Int) (name:Int) (r:Bool) (hH:qFW l item name=some r):qAC prog 166 [.s (List.map ze1 l),item,name] (.v (.bool r)):=by
 refine fns T func166 ?_
 refine go ?_
 obtain⟨x1,hx2,x3,hx4,x5,hx6,hH⟩:=qBB hH
 refine go ?_
 refine AO.w (cVs (qAP _ _ _ _ (hx2))) ?_
 refine AO.pu T ?_
 refine AO.g0 T ?_
 refine AO.g0 T ?_
 refine AO.g0 T ?_
 refine AO.d2 14 15 (fun hg=>ixs T (qEv hx4 hg)) ?_
 refine AO.g1 T 16 ?_
 refine AO.g1 T 17 ?_
 refine AO.d1 18 (fun hg=>qLn T) ?_
 refine AO.d1 19 (fun hg=>aws) ?_
 refine AO.d2 13 20 (fun hg=>cVs (qAP _ _ _ _ (qEv hx6 hg))) ?_
 refine go ?_
 exact fin
def qEH (l:List Item) (item:Int) (name:Int) (mark:Int):Option (List Item) :=
 (qFS l).bind fun x1 =>
 (qAV x1 item).bind fun x3 =>
 (qAV x3.marks name).bind fun x5 =>
 some (x1.set item.toNat (Item.mk x3.names (x3.marks.set name.toNat mark) x3.late))
theorem qKR (l:List Item) (item:Int) (name:Int) (mark:Int) (r:(List Item)) (hH:qEH l item name mark=some r):qAC prog 167 [.s (List.map ze1 l),item,name,mark] (.w 3 (r.map qCU)):=by
 refine fns T func167 ?_
 refine gs5 ?_
 obtain⟨x1,hx2,hH⟩:=zB hH
 refine gs2 ?_
 refine AO.x (qAU rfl 1 rfl rfl rfl (qHe _ _ (hx2)) rfl rfl rfl) ?_
 refine gs3 ?_
 obtain⟨x3,hx4,x5,hx6,hH⟩:=qAI hH
 refine AW.le (Le.openM 1 item.toNat 1 2 rfl (zgG (hx4)) rfl rfl) ?_
 refine gs3 ?_
 refine AO.w (qDd T rfl rfl rfl rfl rfl rfl (hx4)) ?_
 refine AO.pu T ?_
 refine AO.w (qBl T rfl rfl rfl rfl rfl) ?_
 refine gs3 ?_
 refine AO.x (zSr T rfl rfl rfl rfl rfl (zgG (hx6)) rfl rfl rfl rfl (u':=mark) rfl rfl) ?_
 refine AO.le (Le.closeM 1 item.toNat 1 2 rfl rfl (zgG (hx4)) rfl (u':=(Item.mk x3.names (x3.marks.set name.toNat mark) x3.late)) rfl) ?_
 refine gs7 ?_
 exact fin
def qE4 (factor:Int):Option Bool :=
 (qAN factor 10 400).bind fun x1 =>
 some x1
theorem qKQ (factor:Int) (r:Bool) (hH:qE4 factor=some r):qAC prog 168 [factor] (.v (.bool r)):=by
 refine fns T func168 ?_
 refine go ?_
 obtain⟨x1,hx2,hH⟩:=zB hH
 refine go ?_
 refine AO.w (cVs (qAP _ _ _ _ (hx2))) (go ?_)
 exact fin
def qFt (i:Int) (n:Int):Option Bool :=
 some (decide ((w64 (2*i))≥n))
theorem qKU (i:Int) (n:Int) (r:Bool) (hH:qFt i n=some r):qAC prog 228 [i,n] (.v (.bool r)):=by
 refine fns T func228 ?_
 refine go ?_
 exact fin
def qDg (x1:(List Item)):Nat→List Item→Int→Option ((List Item))
 |0,_,_=>none
 |k3+1,v14,v15 =>
  cond (decide (v15<(x1.length:Int)))
   ((qFt v15 (v14.length:Int)).bind fun x17 =>
   (qAV v14 v15).bind fun x19 =>
   qDg x1 k3 (v14.set v15.toNat (Item.mk x19.names x19.marks x17)) (w64 (v15+1)))
   (some v14)
def qFw (fl:Nat) (l:List Item):Option (List Item) :=
 (qFS l).bind fun x1 =>
 qDg x1 fl x1 0
theorem qN2 (fl:Nat) (l:List Item) (r:(List Item)) (hH:qFw fl l=some r):qAC prog 169 [.s (List.map ze1 l)] (.w 3 (r.map qCU)):=by
 refine fns T func169 ?_
 refine go ?_
 obtain⟨x1,hx2,hH⟩:=zB hH
 refine go ?_
 refine AO.x (qAU rfl 1 rfl rfl rfl (qHe _ _ (hx2)) rfl rfl rfl) (go ?_)
 refine AW.loopS (fun s:Nat×(List Item)×Int=>(⟨[(3,.R 1),(8,(x1.length:Int)),(9,s.2.2)],[(1,ro 3 qCU s.2.1)],22,[]⟩:St)) (fun s=>qDg x1 s.1 s.2.1 s.2.2=some r) (fun s=>s.1) (fl,x1,0) hH ?_ ?_
 exact Le.ct 0 0
 rintro⟨k3,v14,v15⟩ hH
 try dsimp only at hH⊢
 rcases k3 with _|k3
 cases (show none=some _ from hH)
 rw[qDg]at hH
 refine go ?_
 refine AW.cH hH (fun _ hH=>?_) (fun _ hH=>?_)
 refine go ?_
 obtain⟨x17,hx18,x19,hx20,hH⟩:=qAI hH
 refine go ?_
 refine AO.w (cVs (qKU _ _ _ (hx18))) (go ?_)
 refine AO.x (zSr T rfl rfl rfl rfl rfl (zgG (hx20)) rfl rfl rfl rfl (u':=(Item.mk x19.names x19.marks x17)) rfl rfl) (go ?_)
 refine⟨(k3,(v14.set v15.toNat (Item.mk x19.names x19.marks x17)),w64 (v15+1)),hH,Nat.lt_succ_self _,?_⟩
 exact Le.ct 0 0
 refine go ?_
 exact fin
def qAH (fl:Nat) (sA:ScriptState) (command:ByteArray) (l:List Int):Option (ScriptState×ByteArray) :=
 cond (decide (command=(⟨#[99,97,108,108]⟩:ByteArray)))
  ((qAV l 0).bind fun x2 =>
  (qAV l 1).bind fun x4 =>
  (qFW sA.performance.items x2 x4).bind fun x6 =>
  cond (!x6)
   (some (sA,(⟨#[110,111]⟩:ByteArray)))
   ((qAV l 2).bind fun x8 =>
   (qEH sA.performance.items x2 x4 x8).bind fun x10 =>
   some ((ScriptState.mk sA.code (Performance.mk x10 sA.performance.marks sA.performance.slips) sA.factor sA.results),(⟨#[111,107]⟩:ByteArray))))
  (cond (decide (command=(⟨#[115,108,105,112,115]⟩:ByteArray)))
   ((qAV l 0).bind fun x13 =>
   (qAV l 1).bind fun x15 =>
   (qAV l 2).bind fun x17 =>
   (qEF (Slips.mk x13 x15 x17)).bind fun x19 =>
   cond (!x19)
    (some (sA,(⟨#[110,111]⟩:ByteArray)))
    (some ((ScriptState.mk sA.code (Performance.mk sA.performance.items sA.performance.marks (Slips.mk x13 x15 x17)) sA.factor sA.results),(⟨#[111,107]⟩:ByteArray))))
   (cond (decide (command=(⟨#[102,97,99,116,111,114]⟩:ByteArray)))
    ((qAV l 0).bind fun x22 =>
    (qE4 x22).bind fun x24 =>
    cond (!x24)
     (some (sA,(⟨#[110,111]⟩:ByteArray)))
     (some ((ScriptState.mk sA.code sA.performance x22 sA.results),(⟨#[111,107]⟩:ByteArray))))
    ((qFw fl sA.performance.items).bind fun x26 =>
    some ((ScriptState.mk sA.code (Performance.mk x26 sA.performance.marks sA.performance.slips) sA.factor sA.results),(⟨#[111,107]⟩:ByteArray)))))
theorem qC0 (fl:Nat) (sA:ScriptState) (command:ByteArray) (l:List Int) (r:(ScriptState×ByteArray)) (hH:qAH fl sA command l=some r):qF3 prog 120 [.pn (qHp sA),.v (.string command),.s (List.map ze0 l)] [.pn (qHp r.1),.u,.u] (.v (.string r.2)):=by
 refine qFN T func120 rfl (by decide) rfl rfl [.p 1 0,.v (.string command),sv ze0 l] [(1,.box (qH4 sA 2)),(2,ro 2 qGA sA.results)] 3 (by kernel_rfl) [1] rfl rfl ?_
 intro L
 show AW _ _ _ (⟨[(0,.p 1 0),(1,.v (.string command)),(2,sv ze0 l)],[(1,.box (qH4 sA 2)),(2,ro 2 qGA sA.results)],86,[(1,L 1)]⟩:St)
 refine go ?_
 refine AW.cH hH (fun _ hH=>?_) (fun _ hH=>?_)
 refine go ?_
 obtain⟨x2,hx3,x4,hx5,x6,hx7,hH⟩:=qBB hH
 refine AW.drawn 11 3 [] mix (by kernel_rfl) rfl ?_
 refine go ?_
 refine AO.w (cVs (qMx _ _ _ _ (hx7))) (go ?_)
 refine AW.cH hH (fun _ hH=>?_) (fun hc hH=>?_)
 refine go ?_
 exact qEW
 refine AW.k ?_
 obtain⟨x8,hx9,x10,hx11,hH⟩:=qAI hH
 refine AW.drawn 16 3 [] mix (by kernel_rfl) rfl ?_
 refine go ?_
 refine AD.q (FStep.call rfl rfl rfl rfl rfl (qKR _ _ _ _ _ (hx11)) rfl rfl) (qBF _ _) (qDh _ _) rfl ?_
 refine go ?_
 refine AO.se T [sv ze5 sA.code.elements,sv ze0 sA.code.limits,sA.code.repeats,sA.code.bonus,sA.code.keeps,sA.code.fall,.R 3,sv ze3 sA.performance.marks.grades,sv ze3 sA.performance.marks.components,sA.performance.slips.falls,sA.performance.slips.seconds,sA.performance.slips.other,sA.factor,.R 2] ?_
 refine AO.n (AW.le (Le.ct 0 0 (σ':=(⟨[],[(1,.box [sv ze5 sA.code.elements,sv ze0 sA.code.limits,sA.code.repeats,sA.code.bonus,sA.code.keeps,sA.code.fall,.R 3,sv ze3 sA.performance.marks.grades,sv ze3 sA.performance.marks.components,sA.performance.slips.falls,sA.performance.slips.seconds,sA.performance.slips.other,sA.factor,.R 2]),(2,ro 2 qGA sA.results),(3,ro 3 qCU x10)],86,[(1,L 1)]⟩:St)) (hpin:=⟨⟨rfl,rfl⟩,trivial⟩)) ?_)
 refine gs4 ?_
 refine AW.le (Le.fM 3 (g:=ze1) rfl (fun y=>qGs y)) ?_
 refine AW.t ?_
 exact qEW
 refine go ?_
 refine AW.cH hH (fun _ hH=>?_) (fun _ hH=>?_)
 refine AW.q ?_
 obtain⟨x13,hx14,x15,hx16,x17,hx18,hH⟩:=qBB hH
 refine AW.drawn 11 4 [] mix (by kernel_rfl) rfl ?_
 refine go ?_
 refine AD.q (FStep.alloc T rfl rfl rfl rfl rfl rfl) (by simp[qAu]) (Nat.le_succ _) rfl ?_
 refine AD.nil (AO.se T [x13,x15,x17] ?_)
 refine go ?_
 obtain⟨x19,hx20,hH⟩:=zB hH
 refine go ?_
 refine AO.w (cVs (qKS _ _ (hx20))) (go ?_)
 refine AW.cH hH (fun _ hH=>?_) (fun hc hH=>?_)
 refine go ?_
 exact qEW
 refine go ?_
 refine AO.se T [sv ze5 sA.code.elements,sv ze0 sA.code.limits,sA.code.repeats,sA.code.bonus,sA.code.keeps,sA.code.fall,sv ze1 sA.performance.items,sv ze3 sA.performance.marks.grades,sv ze3 sA.performance.marks.components,x13,x15,x17,sA.factor,.R 2] ?_
 refine AO.n (AW.le (Le.ct 0 0 (σ':=(⟨[],[(1,.box [sv ze5 sA.code.elements,sv ze0 sA.code.limits,sA.code.repeats,sA.code.bonus,sA.code.keeps,sA.code.fall,sv ze1 sA.performance.items,sv ze3 sA.performance.marks.grades,sv ze3 sA.performance.marks.components,x13,x15,x17,sA.factor,.R 2]),(2,ro 2 qGA sA.results)],86,[(1,L 1)]⟩:St)) (hpin:=⟨⟨rfl,rfl⟩,trivial⟩)) ?_)
 refine go ?_
 exact qEW
 refine go ?_
 refine AW.cH hH (fun _ hH=>?_) (fun _ hH=>?_)
 refine go ?_
 obtain⟨x22,hx23,x24,hx25,hH⟩:=qAI hH
 refine go ?_
 refine AO.w (cVs (qKQ _ _ (hx25))) (go ?_)
 refine AW.cH hH (fun _ hH=>?_) (fun _ hH=>?_)
 refine go ?_
 exact qEW
 refine go ?_
 refine AO.se T [sv ze5 sA.code.elements,sv ze0 sA.code.limits,sA.code.repeats,sA.code.bonus,sA.code.keeps,sA.code.fall,sv ze1 sA.performance.items,sv ze3 sA.performance.marks.grades,sv ze3 sA.performance.marks.components,sA.performance.slips.falls,sA.performance.slips.seconds,sA.performance.slips.other,x22,.R 2] ?_
 refine go ?_
 exact qEW
 obtain⟨x26,hx27,hH⟩:=zB hH
 refine go ?_
 refine AO.x (qAU rfl 5 rfl rfl rfl (qN2 fl _ _ (hx27)) rfl rfl rfl) (go ?_)
 refine AO.se T [sv ze5 sA.code.elements,sv ze0 sA.code.limits,sA.code.repeats,sA.code.bonus,sA.code.keeps,sA.code.fall,.R 5,sv ze3 sA.performance.marks.grades,sv ze3 sA.performance.marks.components,sA.performance.slips.falls,sA.performance.slips.seconds,sA.performance.slips.other,sA.factor,.R 2] ?_
 refine gs5 ?_
 refine AW.le (Le.fM 5 (g:=ze1) rfl (fun y=>qGs y)) ?_
 refine AW.t ?_
 exact qEW
def qIt (skater:Int):Option Bool :=
 (qAN skater 1 999).bind fun x1 =>
 some x1
theorem qOA (skater:Int) (r:Bool) (hH:qIt skater=some r):qAC prog 101 [skater] (.v (.bool r)):=by
 refine fns T func101 ?_
 refine go ?_
 obtain⟨x1,hx2,hH⟩:=zB hH
 refine go ?_
 refine AO.w (cVs (qAP _ _ _ _ (hx2))) (go ?_)
 exact fin
def qCF (rA:Result):List Int→Nat→Option Bool
 | [],k1 =>
  (qIt rA.skater).bind fun x16 =>
  (opt x16 default (qAN (rA.scores.length:Int) 1 3)).bind fun x18 =>
  some (x16&&x18)
 |y2::ys3,k1 =>
  (qAN y2 (-1) 100000).bind fun x20 =>
  (opt ((!(!x20))&&decide ((k1:Int)>0)) default (qAV rA.scores (w64 ((k1:Int)-1)))).bind fun x22 =>
  cond ((!x20)||((decide ((k1:Int)>0)&&decide (x22<0))&&decide (y2≥0)))
   (some false)
   (qCF rA ys3 (k1+1))
def qIp (rA:Result):Option Bool :=
 qCF rA rA.scores 0
theorem qN9 (rA:Result) (r:Bool) (hH:qIp rA=some r):qAC prog 72 [.g (ze6 rA)] (.v (.bool r)):=by
 refine fns T func72 ?_
 refine go ?_
 refine AO.x (bxs T 1) (go ?_)
 refine AW.loopS (fun s:Nat=>(⟨[(1,.p 1 0),(6,sv ze0 rA.scores),(7,(rA.scores.length:Int)),(8,(s:Int))],[(1,.box [rA.skater,sv ze0 rA.scores])],43,[]⟩:St)) (fun s=>s≤rA.scores.length∧qCF rA (rA.scores.drop s) s=some r) (fun s=>rA.scores.length-s) 0 ⟨Nat.zero_le _,hH⟩ ?_ ?_
 exact Le.ct 0 0
 rintro k1 ⟨hk,hH⟩
 try dsimp only at hH⊢
 refine AW.boundM (t:=6) (l:=rA.scores) rfl (fun hb5=>?_)
 rcases hd4:rA.scores.drop k1 with _|⟨y2,ys3⟩
 rw[hd4,qCF]at hH
 have hlt6:=qAF hd4
 refine go ?_
 obtain⟨x16,hx17,x18,hx19,hH⟩:=qAI hH
 refine go ?_
 refine AO.w (cVs (qOA _ _ (hx17))) ?_
 refine AO.pu T ?_
 refine AO.g0 T ?_
 refine AO.g1 T 38 ?_
 refine AO.d1 39 (fun hg=>qLn T) ?_
 refine AO.d1 40 (fun hg=>cVs (qAP _ _ _ _ (qEv hx19 hg))) ?_
 refine go ?_
 exact fin
 rw[hd4,qCF]at hH
 have hlt6:=qAG hd4
 refine go ?_
 obtain⟨x20,hx21,x22,hx23,hH⟩:=qAI hH
 refine go ?_
 refine AO.w (cVs (qAP _ _ _ _ (hx21))) (go ?_)
 refine AO.g0 T ?_
 refine AO.g1 T 17 ?_
 refine AO.g1 T 18 ?_
 refine AO.g0 T ?_
 refine AO.g1 T 20 ?_
 refine AO.g0 T ?_
 refine AO.d1 22 (fun hg=>aws) ?_
 refine AO.d2 21 23 (fun hg=>ixs T (qEv hx23 hg)) ?_
 refine AO.g1 T 24 ?_
 refine AO.g1 T 25 ?_
 refine AO.d [19] rfl ⟨fun h=>h,trivial⟩ (fun hg=>zN rfl rfl rfl (by rw[hg];exact Bool.true_and _)) rfl ?_
 refine AO.g1 T 27 ?_
 refine AO.g0 T ?_
 refine AO.g1 T 29 ?_
 refine AO.d [28] rfl ⟨fun h=>h,trivial⟩ (fun hg=>zN rfl rfl rfl (by rw[hg];exact Bool.true_and _)) rfl ?_
 refine gs2 ?_
 refine AW.le (Le.ct 0 0 (σ':=(⟨[(1,.p 1 0),(6,sv ze0 rA.scores),(7,(rA.scores.length:Int)),(8,(k1:Int)),(32,.v (.bool ((!x20)||((decide ((k1:Int)>0)&&decide (x22<0))&&decide (y2≥0)))))],[(1,.box [rA.skater,sv ze0 rA.scores])],43,[]⟩:St))) ?_
 refine AW.cH hH (fun _ hH=>?_) (fun _ hH=>?_)
 refine go ?_
 exact fin
 refine go ?_
 refine⟨k1+1,⟨hlt6,(zds hd4▸hH)⟩,qCC hlt6,?_⟩
 exact Le.ct 0 0
def qBX (y2:Result):List Result→Nat→Option (Except Bool Unit)
 | [],k80 =>
  some (.ok ())
 |y81::ys82,k80 =>
  cond (y81.skater==y2.skater)
   (some (.error false))
   (qBX y2 ys82 (k80+1))
def qBq (l:List Result):List Result→Nat→Option Bool
 | [],k1 =>
  some (decide ((l.length:Int)≤40))
 |y2::ys3,k1 =>
  ((qIp y2).bind fun x74 =>
  (opt (!(!x74)) default (qAV l 0)).bind fun x76 =>
  cond ((!x74)||((y2.scores.length:Int) != (x76.scores.length:Int)))
   (some (.error false))
   ((qFj l (k1:Int)).bind fun x78 =>
   qBX y2 x78 0)).bind fun o72=>qLN o72 fun _ =>
  qBq l ys3 (k1+1)
def qGB (l:List Result):Option Bool :=
 qBq l l 0
theorem qJE (l:List Result) (r:Bool) (hH:qGB l=some r):qAC prog 44 [.s (List.map ze6 l)] (.v (.bool r)):=by
 refine fns T func44 ?_
 iterate 12 refine gs ?_
 refine AW.loopS (fun s:Nat=>(⟨[(0,sv ze6 l),(7,sv ze6 l),(8,(l.length:Int)),(9,(s:Int))],[],46,[]⟩:St)) (fun s=>s≤l.length∧qBq l (l.drop s) s=some r) (fun s=>l.length-s) 0 ⟨Nat.zero_le _,hH⟩ ?_ ?_
 exact Le.ct 0 0
 rintro k1 ⟨hk,hH⟩
 try dsimp only at hH⊢
 refine AW.boundM (t:=0) (l:=l) rfl (fun hb5=>?_)
 rcases hd4:l.drop k1 with _|⟨y2,ys3⟩
 rw[hd4,qBq]at hH
 have hlt6:=qAF hd4
 iterate 15 refine gs ?_
 exact fin
 rw[hd4,qBq]at hH
 have hlt6:=qAG hd4
 refine gs7 ?_
 obtain⟨o72,hH,hK73⟩:=zB hH
 refine AW.seqJ (fun s:Unit=>(⟨[(0,sv ze6 l),(7,sv ze6 l),(8,(l.length:Int)),(9,(k1:Int))],[],46,[]⟩:St)) (fun s=>.ok s=o72) ?_ ?_
 refine gs6 ?_
 refine AO.x (als T 21) ?_
 refine AO.pu T ?_
 refine AO.se T [y2.skater,sv ze0 y2.scores] ?_
 refine gs3 ?_
 obtain⟨x74,hx75,x76,hx77,hH⟩:=qAI hH
 refine AW.drawn 12 22 [] mix (by kernel_rfl) rfl ?_
 refine gs ?_
 refine AD.vv (cVs (qN9 _ _ (hx75))) ?_
 refine gs2 ?_
 refine AD.pureG T [] rfl trivial rfl rfl ?_
 refine AD.pureG T [18] rfl ⟨fun h=>h,trivial⟩ rfl rfl ?_
 refine AD.guard [19] rfl ⟨fun h=>h,trivial⟩ (fun hg=>qLn T) rfl ?_
 refine AD.pureG T [] rfl trivial rfl rfl ?_
 refine AD.guard [21] rfl ⟨fun h=>h,trivial⟩ (fun hg=>ixs T (qEv hx77 hg)) rfl ?_
 refine AD.pureG T [22] rfl ⟨fun h=>h,trivial⟩ rfl rfl ?_
 refine AD.pureG T [23] rfl ⟨fun h=>h,trivial⟩ rfl rfl ?_
 refine AD.guard [24] rfl ⟨fun h=>h,trivial⟩ (fun hg=>qLn T) rfl ?_
 refine AD.nil (AO.g2 T 20 25 ?_)
 refine gs2 ?_
 refine AW.cH hH (fun _ hH=>?_) (fun hc hH=>?_)
 refine gs5 ?_
 obtain rfl:=zS hH
 replace hH:=hK73
 exact fin
 refine gs2 ?_
 obtain⟨x78,hx79,hH⟩:=zB hH
 refine gs3 ?_
 refine AO.w (qEJ T rfl rfl rfl rfl rfl (hx79) (fun _=>rfl)) ?_
 refine gs3 ?_
 refine AW.le (Le.ct 0 0 (σ':=(⟨[(0,sv ze6 l),(4,.p 21 0),(7,sv ze6 l),(8,(l.length:Int)),(9,(k1:Int)),(30,sv ze6 x78),(31,(x78.length:Int)),(32,(0:Int))],[(21,.box [y2.skater,sv ze0 y2.scores])],46,[]⟩:St))) ?_
 refine AW.b (AW.loopS (fun s:Nat=>(⟨[(0,sv ze6 l),(4,.p 21 0),(7,sv ze6 l),(8,(l.length:Int)),(9,(k1:Int)),(30,sv ze6 x78),(31,(x78.length:Int)),(32,(s:Int))],[(21,.box [y2.skater,sv ze0 y2.scores])],46,[]⟩:St)) (fun s=>s≤x78.length∧qBX y2 (x78.drop s) s=some o72) (fun s=>x78.length-s) 0 ⟨Nat.zero_le _,hH⟩ ?_ ?_)
 exact Le.ct 0 0
 rintro k80 ⟨hk,hH⟩
 try dsimp only at hH⊢
 refine AW.boundM (t:=30) (l:=x78) rfl (fun hb84=>?_)
 rcases hd83:x78.drop k80 with _|⟨y81,ys82⟩
 rw[hd83,qBX]at hH
 have hlt85:=qAF hd83
 refine gs7 ?_
 refine⟨_,zS hH,?_⟩
 exact Le.ct 0 0
 rw[hd83,qBX]at hH
 have hlt85:=qAG hd83
 iterate 13 refine gs ?_
 refine AO.x (als T 24) ?_
 refine AO.se T [y81.skater,sv ze0 y81.scores] ?_
 refine gs9 ?_
 refine AW.cH hH (fun _ hH=>?_) (fun _ hH=>?_)
 refine gs5 ?_
 obtain rfl:=zS hH
 replace hH:=hK73
 exact fin
 refine gs5 ?_
 refine⟨k80+1,⟨hlt85,(zds hd83▸hH)⟩,qCC hlt85,?_⟩
 exact Le.ct 0 0
 rintro _ hs
 subst hs
 replace hH:=hK73
 try dsimp only[qLN,qJm]at hH
 try dsimp only
 refine gs4 ?_
 refine⟨k1+1,⟨hlt6,(zds hd4▸hH)⟩,qCC hlt6,?_⟩
 exact Le.ct 0 0
def qCc:List Int→Nat→Int→Int→Option ((Int×Int))
 | [],k1,v9,v10 =>
  some (v9,v10)
 |y2::ys3,k1,v9,v10 =>
  cond (decide (y2≥0))
   (qCc ys3 (k1+1) (w64 (v9+y2)) (w64 (v10+1)))
   (qCc ys3 (k1+1) v9 v10)
def qHk (rA:Result):Option (Int×Int) :=
 qCc rA.scores 0 0 0
theorem qK1 (rA:Result) (r:(Int×Int)) (hH:qHk rA=some r):qAC prog 277 [.g (ze6 rA)] (.t [.v (.int .i64 r.1),.v (.int .i64 r.2)]):=by
 refine fns T func277 ?_
 refine go ?_
 refine AO.x (bxs T 1) (go ?_)
 refine AW.loopS (fun s:Nat×Int×Int=>(⟨[(4,s.2.1),(5,s.2.2),(9,sv ze0 rA.scores),(10,(rA.scores.length:Int)),(11,(s.1:Int))],[],25,[]⟩:St)) (fun s=>s.1≤rA.scores.length∧qCc (rA.scores.drop s.1) s.1 s.2.1 s.2.2=some r) (fun s=>rA.scores.length-s.1) (0,0,0) ⟨Nat.zero_le _,hH⟩ ?_ ?_
 exact Le.ct 0 0
 rintro⟨k1,v9,v10⟩ ⟨hk,hH⟩
 try dsimp only at hH⊢
 refine AW.boundM (t:=9) (l:=rA.scores) rfl (fun hb5=>?_)
 rcases hd4:rA.scores.drop k1 with _|⟨y2,ys3⟩
 rw[hd4,qCc]at hH
 have hlt6:=qAF hd4
 refine go ?_
 exact fin
 rw[hd4,qCc]at hH
 have hlt6:=qAG hd4
 refine go ?_
 refine AW.cH hH (fun _ hH=>?_) (fun _ hH=>?_)
 refine go ?_
 refine⟨(k1+1,w64 (v9+y2),w64 (v10+1)),⟨hlt6,(zds hd4▸hH)⟩,qCC hlt6,?_⟩
 exact Le.ct 0 0
 refine go ?_
 refine⟨(k1+1,v9,v10),⟨hlt6,(zds hd4▸hH)⟩,qCC hlt6,?_⟩
 exact Le.ct 0 0
def qEY (n:Int):Option Int :=
 cond (decide (n>0))
  (some 1)
  (cond (decide (n<0))
   (some (-1))
   (some 0))
theorem qJL (n:Int) (r:Int) (hH:qEY n=some r):qAC prog 278 [n] (.v (.int .i64 r)):=by
 refine fns T func278 ?_
 refine go ?_
 refine AW.cH hH (fun _ hH=>?_) (fun hc hH=>?_)
 refine go ?_
 exact fin
 refine go ?_
 refine AW.cH hH (fun _ hH=>?_) (fun _ hH=>?_)
 refine go ?_
 exact fin
 refine go ?_
 exact fin
def qBv (a:Result) (b:Result):Nat→Int→Option Int
 |0,_=>none
 |k9+1,v23 =>
  cond (decide (v23≥0))
   ((qAV a.scores v23).bind fun x25 =>
   (qAV b.scores v23).bind fun x27 =>
   cond (x25 != x27)
    ((qEY (w64 (x25-x27))).bind fun x29 =>
    some x29)
    (qBv a b k9 (w64 (v23-1))))
   (some 0)
def qEj (fl:Nat) (a:Result) (b:Result):Option Int :=
 (qHk a).bind fun x1 =>
 (qHk b).bind fun x3 =>
 cond (x1.2 != x3.2)
  ((qEY (w64 (x1.2-x3.2))).bind fun x5 =>
  some x5)
  (cond (x1.1 != x3.1)
   ((qEY (w64 (x1.1-x3.1))).bind fun x7 =>
   some x7)
   (qBv a b fl (w64 ((a.scores.length:Int)-1))))
theorem qKX (fl:Nat) (a:Result) (b:Result) (r:Int) (hH:qEj fl a b=some r):qAC prog 230 [.g (ze6 a),.g (ze6 b)] (.v (.int .i64 r)):=by
 refine fns T func230 ?_
 refine go ?_
 refine AO.x (bxs T 1) ?_
 refine AO.x (bxs T 2) (go ?_)
 obtain⟨x1,hx2,hH⟩:=zB hH
 refine go ?_
 refine AO.w (cVs (qK1 _ _ (hx2))) (go ?_)
 obtain⟨x3,hx4,hH⟩:=zB hH
 refine go ?_
 refine AO.w (cVs (qK1 _ _ (hx4))) (go ?_)
 refine AW.cH hH (fun _ hH=>?_) (fun hc hH=>?_)
 refine AW.q ?_
 obtain⟨x5,hx6,hH⟩:=zB hH
 refine go ?_
 refine AO.w (cVs (qJL _ _ (hx6))) ?_
 refine gs2 ?_
 refine AW.le (Le.ct 0 0 (σ':=(⟨[(4,x5)],[],65,[]⟩:St))) ?_
 refine AW.t ?_
 exact fin
 refine go ?_
 refine AW.cH hH (fun _ hH=>?_) (fun hc hH=>?_)
 refine AW.q ?_
 obtain⟨x7,hx8,hH⟩:=zB hH
 refine go ?_
 refine AO.w (cVs (qJL _ _ (hx8))) ?_
 refine gs2 ?_
 refine AW.le (Le.ct 0 0 (σ':=(⟨[(4,x7)],[],65,[]⟩:St))) ?_
 refine AW.t ?_
 exact fin
 iterate 10 refine gs ?_
 refine AW.le (Le.ct 0 0 (σ':=(⟨[(2,.p 1 0),(3,.p 2 0),(9,w64 ((a.scores.length:Int)-1))],[(1,.box [a.skater,sv ze0 a.scores]),(2,.box [b.skater,sv ze0 b.scores])],65,[]⟩:St))) ?_
 refine AW.b (AW.loopS (fun s:Nat×Int=>(⟨[(2,.p 1 0),(3,.p 2 0),(9,s.2)],[(1,.box [a.skater,sv ze0 a.scores]),(2,.box [b.skater,sv ze0 b.scores])],65,[]⟩:St)) (fun s=>qBv a b s.1 s.2=some r) (fun s=>s.1) (fl,w64 ((a.scores.length:Int)-1)) hH ?_ ?_)
 exact Le.ct 0 0
 rintro⟨k9,v23⟩ hH
 try dsimp only at hH⊢
 rcases k9 with _|k9
 cases (show none=some _ from hH)
 rw[qBv]at hH
 refine go ?_
 refine AW.cH hH (fun hc hH=>?_) (fun _ hH=>?_)
 refine go ?_
 obtain⟨x25,hx26,x27,hx28,hH⟩:=qAI hH
 refine AW.drawn 10 3 [] mix (by kernel_rfl) rfl ?_
 refine go ?_
 refine AW.cH hH (fun _ hH=>?_) (fun hc hH=>?_)
 refine AW.q ?_
 obtain⟨x29,hx30,hH⟩:=zB hH
 refine AW.drawn 10 3 [] mix (by kernel_rfl) rfl ?_
 refine go ?_
 refine AO.w (cVs (qJL _ _ (hx30))) ?_
 refine gs2 ?_
 refine AW.le (Le.ct 0 0 (σ':=(⟨[(4,x29)],[],65,[]⟩:St))) ?_
 refine AW.t ?_
 exact fin
 refine go ?_
 refine⟨(k9,w64 (v23-1)),hH,Nat.lt_succ_self _,?_⟩
 exact Le.ct 0 0
 refine go ?_
 exact fin
def qCj (l:List Result) (i:Int) (fl:Nat):List Result→Nat→Int→Option Int
 | [],k1,v16 =>
  some v16
 |y2::ys3,k1,v16 =>
  (qAV l i).bind fun x18 =>
  (qEj fl y2 x18).bind fun x20 =>
  cond (decide (x20>0))
   (qCj l i fl ys3 (k1+1) (w64 (v16+1)))
   (qCj l i fl ys3 (k1+1) v16)
def qGS (fl:Nat) (l:List Result) (i:Int):Option Int :=
 qCj l i fl l 0 1
theorem qK9 (fl:Nat) (l:List Result) (i:Int) (r:Int) (hH:qGS fl l i=some r):qAC prog 174 [.s (List.map ze6 l),i] (.v (.int .i64 r)):=by
 refine fns T func174 ?_
 refine go ?_
 refine AW.loopS (fun s:Nat×Int=>(⟨[(0,sv ze6 l),(1,i),(5,s.2),(8,sv ze6 l),(9,(l.length:Int)),(10,(s.1:Int))],[],25,[]⟩:St)) (fun s=>s.1≤l.length∧qCj l i fl (l.drop s.1) s.1 s.2=some r) (fun s=>l.length-s.1) (0,1) ⟨Nat.zero_le _,hH⟩ ?_ ?_
 exact Le.ct 0 0
 rintro⟨k1,v16⟩ ⟨hk,hH⟩
 try dsimp only at hH⊢
 refine AW.boundM (t:=0) (l:=l) rfl (fun hb5=>?_)
 rcases hd4:l.drop k1 with _|⟨y2,ys3⟩
 rw[hd4,qCj]at hH
 have hlt6:=qAF hd4
 refine go ?_
 exact fin
 rw[hd4,qCj]at hH
 have hlt6:=qAG hd4
 refine go ?_
 refine AO.x (als T 3) ?_
 refine AO.se T [y2.skater,sv ze0 y2.scores] ?_
 refine go ?_
 obtain⟨x18,hx19,x20,hx21,hH⟩:=qAI hH
 refine AW.drawn 5 4 [] mix (by kernel_rfl) rfl ?_
 refine go ?_
 refine AO.w (cVs (qKX fl _ _ _ (hx21))) (go ?_)
 refine AW.cH hH (fun _ hH=>?_) (fun _ hH=>?_)
 refine go ?_
 refine⟨(k1+1,w64 (v16+1)),⟨hlt6,(zds hd4▸hH)⟩,qCC hlt6,?_⟩
 exact Le.ct 0 0
 refine go ?_
 refine⟨(k1+1,v16),⟨hlt6,(zds hd4▸hH)⟩,qCC hlt6,?_⟩
 exact Le.ct 0 0
def qA5 (l:List Result) (fl:Nat):List Result→Nat→List Int→Option (((List Int)×Bool))
 | [],k3,v18 =>
  some (v18,true)
 |y4::ys5,k3,v18 =>
  (qGS fl l (k3:Int)).bind fun x20 =>
  (qAz (qAh 8 (v18.length+([x20]).length))).bind fun u22 =>
  qA5 l fl ys5 (k3+1) (v18++[x20])
def qEM (fl:Nat) (l:List Result):Option ((List Int)×Bool) :=
 (qGB l).bind fun x1 =>
 cond (!x1)
  (some ([],false))
  (qA5 l fl l 0 [])
theorem qJz (fl:Nat) (l:List Result) (r:((List Int)×Bool)) (hH:qEM fl l=some r):qAC prog 170 [.s (List.map ze6 l)] (.t [.w 1 (r.1.map ze0),.v (.bool r.2)]):=by
 refine fns T func170 ?_
 refine go ?_
 obtain⟨x1,hx2,hH⟩:=zB hH
 refine go ?_
 refine AO.w (cVs (qJE _ _ (hx2))) (go ?_)
 refine AW.cH hH (fun _ hH=>?_) (fun _ hH=>?_)
 refine go ?_
 exact fin
 refine go ?_
 refine AO.x (qGG T rfl rfl rfl rfl) (go ?_)
 refine AW.loopS (fun s:Nat×(List Int)=>(⟨[(0,sv ze6 l),(4,.R 4),(11,(l.length:Int)),(12,(s.1:Int))],[(4,ro 1 ze0 s.2)],23,[]⟩:St)) (fun s=>s.1≤l.length∧qA5 l fl (l.drop s.1) s.1 s.2=some r) (fun s=>l.length-s.1) (0,[]) ⟨Nat.zero_le _,hH⟩ ?_ ?_
 refine Le.trans (Le.void 4 4 1 rfl rfl) ?_
 exact Le.ct 0 0
 rintro⟨k3,v18⟩ ⟨hk,hH⟩
 try dsimp only at hH⊢
 refine AW.boundM (t:=0) (l:=l) rfl (fun hb7=>?_)
 rcases hd6:l.drop k3 with _|⟨y4,ys5⟩
 rw[hd6,qA5]at hH
 have hlt8:=qAF hd6
 refine go ?_
 exact fin
 rw[hd6,qA5]at hH
 have hlt8:=qAG hd6
 refine go ?_
 obtain⟨x20,hx21,u22,hx23,hH⟩:=qAI hH
 refine go ?_
 refine AO.w (cVs (qK9 fl _ _ _ (hx21))) ?_
 refine AO.x (mks T 5 ze0 ([x20])) ?_
 refine AO.x (rvs T 6 (hfit:=by exact qAS (hx23))) (go ?_)
 refine⟨(k3+1,(v18++[x20])),⟨hlt8,(zds hd6▸hH)⟩,qCC hlt8,?_⟩
 exact Le.ct 6 4
def qCA (n:Int):Option ByteArray:=(qAz (decide (-9223372036854775808≤n)&&decide (n≤9223372036854775807))).bind fun _=>some ⟨(Go.Lib.itoa n).toArray⟩
theorem qG8 (n:Int) (r:ByteArray) (hH:qCA n=some r):qAC prog 173 [.v (.int .i64 n)] (.v (.string r)):=by
 obtain⟨u,hu,hr⟩:=zB hH
 cases zS hr
 exact qUr ⟨_,func173,rfl,by decide⟩ (fun n h0 h1 w hG=>Tryz.strconv_Itoa n h0 h1 w (qW4 (by kernel_rfl) hG)) n (qAS hu)
section
open Go.Shelf Go.RowKit
set_option maxHeartbeats 2000000 in
set_option maxRecDepth 100000 in
theorem qKk {b:Nat} {v:Value} {w:World} (h2:w.heap[b]?=some (.cells #[.pointer none,v] 75 (0,0))) :
  Calls prog 77 #[.pointer (some ⟨b,0,none⟩)] w fun e w'=>e=.returned (.tuple #[])∧w'=w.setCell ⟨b,0,none⟩ (.pointer (some ⟨b,0,none⟩)):=by
 have c0:w.cell? ⟨b,0,none⟩=some (.pointer none):=by rw[Lib.cell_of_heap h2];rfl
 have f1:w.frozen? ⟨b,0,none⟩=false:=Lib.frozen_of_heap h2 0
 have hsh:w.shape? b=some (75,2):=by simp[World.shape?,h2]
 have tP:prog.underlying 73=some (.pointer 75):=by kernel_rfl
 have tX:prog.underlying 142=some .unsafePointer:=by kernel_rfl
 obtain⟨j,hj,hjs⟩:=Option.map_eq_some_iff.1 (show (prog.info? 75).map (·.size)=some 2 by kernel_rfl)
 go_enter func77,ntmps77
 go_wp2
 rw[Lib.run_to_unsafe w ⟨b,0,none⟩ tP tX hj (by rw[hjs];decide) hsh (Nat.zero_lt_succ 1)]
 simp only[Result.andThen]
 rw[Oper.upon_value]
 go_wp2
 rw[run_callFunc_extern func123 (by kernel_rfl) (by kernel_rfl) (by kernel_rfl) (e:=Extern.AbiNoEscape.same) (by kernel_rfl)]
 rw[Lib.run_noEscape]
 simp only[Result.andThen]
 rw[Oper.upon_value]
 go_wp2
 rw[Lib.run_from_unsafe w ⟨b,0,none⟩ tX tP hj hsh (by kernel_rfl)]
 simp only[Result.andThen]
 rw[Oper.upon_value]
 go_wp2
 go_end0
 exact⟨rfl,rfl⟩
set_option maxHeartbeats 2000000 in
set_option maxRecDepth 100000 in
theorem qU7 {b:Nat} {fp:List Nat} {f0:Bool} {l:List UInt8} {w:World} {U:TypeId} (h:BldR w fp b f0 75 U l) (hnd:fp.Nodup) :
  Calls prog 77 #[.pointer (some ⟨b,0,none⟩)] w fun e w'=>e=.returned (.tuple #[])∧Chg [b] w w'∧∃v fr,w'.heap[b]?=some (.cells #[.pointer (some ⟨b,0,none⟩),v] 75 (0,0))∧fp=b::fr∧RowU w' fr U v l∧(f0=true→v=.slice none 0 0):=by
 obtain⟨p,v,fr,h1,h2,rfl,h4,h5⟩:=h
 rcases h1 with rfl|rfl
 ·refine(qKk h2).mono ?_
  rintro e w' ⟨rfl,rfl⟩
  refine⟨rfl,qJ7 _ _ _ _,v,fr,?_,rfl,h4.same fun k hk=>Below.heap_setCell _ _ _ _ (fun e=>(List.nodup_cons.1 hnd).1 (by have e':k=b:=e;rw[←e'];exact hk)),fun h=>(h5 h).2⟩
  simp[World.setCell,Array.getElem?_modify,h2]
 ·have c0:w.cell? ⟨b,0,none⟩=some (.pointer (some ⟨b,0,none⟩)):=by rw[Lib.cell_of_heap h2];rfl
  have tP:prog.underlying 73=some (.pointer 75):=by kernel_rfl
  obtain⟨j,hj,hjs⟩:=Option.map_eq_some_iff.1 (show (prog.info? 75).map (·.size)=some 2 by kernel_rfl)
  go_enter func77,ntmps77
  go_wp2
  rw[Lib.run_neq_ptr_same w _ tP hj]
  go_wp2
  go_end0
  exact⟨rfl,Chg.refl _ _,v,fr,h2,rfl,h4,fun h=>(h5 h).2⟩
set_option maxHeartbeats 2000000 in
set_option maxRecDepth 100000 in
theorem qA0:qXZ prog 47 75 5:=by
 refine⟨⟨_,func47,rfl,by decide⟩,fun w b fp l f0 s h hnd hlt hlen=>?_⟩
 obtain⟨i0,hi,hz0,hz1,hz2⟩:=info_parts (P:=prog) (e:=5) (z:=.int .u8 0) (size:=1) (bytes:=1) (by kernel_rfl)
 have tS:prog.underlying 55=some (.slice 5):=by kernel_rfl
 have tT:prog.underlying 9=some .string:=by kernel_rfl
 go_enter func47,ntmps47
 go_wp2_with (go_at_call 77;refine(qU7 h hnd).mono ?_)
 rintro e w1 ⟨rfl,hx1,v,fr,hbk,hfp,hrow,_⟩
 subst hfp
 have c1:w1.cell? ⟨b,1,none⟩=some v:=by rw[Lib.cell_of_heap hbk];rfl
 go_wp2_with (at_builtin;refine qS7 rfl _ _ 55 9 rfl 5 i0 tS tT hi hz0 hz1 hz2 rfl hrow s rfl hlen ?_)
 intro v' w2 fr' hrow' hx2 hfr
 have hnb:b∉fr:=(List.nodup_cons.1 hnd).1
 have hb1:b<w1.heap.size:=by
  rcases Nat.lt_or_ge b w1.heap.size with h'|h'
  ·exact h'
  ·simp[Array.getElem?_eq_none h']at hbk
 have hb2:w2.heap[b]?=some (.cells #[.pointer (some ⟨b,0,none⟩),v] 75 (0,0)):=by rw[hx2.same b hb1 hnb];exact hbk
 have d1:w2.cell? ⟨b,1,none⟩=some v:=by rw[Lib.cell_of_heap hb2];rfl
 have f1:w2.frozen? ⟨b,1,none⟩=false:=Lib.frozen_of_heap hb2 1
 obtain⟨ao,n',cap,rfl⟩:∃ao n' cap,v'=.slice ao n' cap:=by
  rcases hrow' with⟨_,_,hv⟩|⟨_,_,_,_,_,hv,_⟩
  ·exact⟨_,_,_,hv⟩
  ·exact⟨_,_,_,hv⟩
 have hbf:b∉fr':=by
  rcases hfr with rfl|⟨rfl,_⟩
  ·exact hnb
  ·intro h;rw[List.mem_singleton]at h;omega
 go_wp2
 go_ret2
 refine⟨_,b::fr',rfl,?_,⟨.pointer (some ⟨b,0,none⟩),_,fr',.inr rfl,?_,rfl,hrow'.same fun k hk=>Below.heap_setCell _ _ _ _ (fun e=>hbf (by have e':k=b:=e;rw[←e'];exact hk)),fun h=>by cases h⟩,?_,?_⟩
 ·exact((Chg.trans (fp:=b::fr) ⟨hx1.size,fun i hi hn=>hx1.same i hi (fun h=>hn (by rw[List.mem_singleton.1 h];exact List.mem_cons_self)),hx1.shape,hx1.os,hx1.output,hx1.tape⟩ hx2 fun x hx=>.inl (List.mem_cons_of_mem _ hx)).trans (qJ7 _ _ _ _) fun x hx=>.inl (by rw[List.mem_singleton.1 hx];exact List.mem_cons_self))
 ·simp[World.setCell,Array.getElem?_modify,hb2]
 ·refine List.nodup_cons.2 ⟨hbf,?_⟩
  rcases hfr with rfl|⟨rfl,_⟩
  ·exact(List.nodup_cons.1 hnd).2
  ·simp
 ·have hs2:=hx2.size
  have hs1:=hx1.size
  intro k hk
  have hsz:(w2.setCell ⟨b,1,none⟩ (.slice ao n' cap)).heap.size=w2.heap.size:=by simp[World.setCell]
  rw[hsz]
  rcases List.mem_cons.1 hk with rfl|hk
  ·exact⟨by omega,.inl List.mem_cons_self⟩
  ·rcases hfr with rfl|⟨rfl,hlt2⟩
   ·exact⟨by have:=hlt k (List.mem_cons_of_mem _ hk);omega,.inl (List.mem_cons_of_mem _ hk)⟩
   ·rw[List.mem_singleton.1 hk]
    exact⟨hlt2,.inr hs1⟩
end
section
open Go.Shelf Go.RowKit
set_option maxHeartbeats 2000000 in
set_option maxRecDepth 1000000 in
theorem qVh {b n:Nat} {w:World} (hbk:w.heap[b]?=some (.cells #[.pointer (some ⟨b,0,none⟩),.slice none 0 0] 75 (0,0))) (hn0:0<n) (hn:n≤281474976710656) :
  Calls prog 332 #[.pointer (some ⟨b,0,none⟩),.int .i64 n] w fun e w'=>∃v,e=.returned v∧Chg [b] w w'∧BldR w' [b,w.heap.size] b false 75 5 []∧w.heap.size<w'.heap.size:=by
 have tS:prog.underlying 55=some (.slice 5):=by kernel_rfl
 obtain⟨cs,hrun,hle,hmax⟩:=Lib.run_makeNoZero (P:=prog) w.drew #[3] 55 5 tS n hn
 have hw:IntKind.i64.wrap (IntKind.i64.wrap 0+(n:Int))=n:=by
  rw[IntKind.wrap_i64,IntKind.wrap_i64]
  omega
 have hcall:(callFunc 352 #[.int .i64 (IntKind.i64.wrap (IntKind.i64.wrap 0+(n:Int)))]).run prog w.drew=.ok (.value (.slice (some ⟨w.drew.heap.size,0,none⟩) n cs.size)) (w.drew.drew.drew.alloc (.cells cs 5)):=by
  rw[hw,run_callFunc_extern func352 (by kernel_rfl) (by kernel_rfl) (by kernel_rfl) (e:=Extern.BytealgMakeNoZero.makeNoZero #[3] #[55]) (by kernel_rfl),hrun]
  rfl
 have hlt:b<w.heap.size:=by
  rcases Nat.lt_or_ge b w.heap.size with h'|h'
  ·exact h'
  ·simp[Array.getElem?_eq_none h']at hbk
 have c1:w.drew.cell? ⟨b,1,none⟩=some (.slice none 0 0):=by
  have:w.drew.heap[b]?=_:=hbk
  rw[Lib.cell_of_heap this];rfl
 have hb2:(w.alloc (.cells cs 5)).heap[b]?=some (.cells #[.pointer (some ⟨b,0,none⟩),.slice none 0 0] 75 (0,0)):=(Lib.alloc_old w _ b hlt).trans hbk
 have c2:(w.alloc (.cells cs 5)).cell? ⟨b,1,none⟩=some (.slice none 0 0):=by
  rw[Lib.cell_of_heap hb2];rfl
 have f2:(w.alloc (.cells cs 5)).frozen? ⟨b,1,none⟩=false:=Lib.frozen_of_heap hb2 1
 have hcopy:∀W:World,(Builtin.copy_ #[55,55] 3 #[.slice (some ⟨w.heap.size,0,none⟩) 0 cs.size,.slice none 0 0]).run prog W=.ok (goInt 0) W :=
  fun W=>run_copy_none W 55 55 3 5 _ _ 0 cs.size 0 0 tS (by kernel_rfl) rfl
 clear hw
 have mixed:prog.follows .mixedOrders=true:=by kernel_rfl
 go_enter func332,ntmps332
 go_wp2
 have hcs:cs.size≤9223372036854775807:=hmax (by unfold maxLen;omega)
 have hfin:Chg [b] w (((w.setCell ⟨b,1,none⟩ (.slice (some ⟨w.heap.size,0,none⟩) 0 cs.size)).alloc (.cells cs 5)).drew.drew.drew)∧BldR (((w.setCell ⟨b,1,none⟩ (.slice (some ⟨w.heap.size,0,none⟩) 0 cs.size)).alloc (.cells cs 5)).drew.drew.drew) [b,w.heap.size] b false 75 5 []∧w.heap.size<(((w.setCell ⟨b,1,none⟩ (.slice (some ⟨w.heap.size,0,none⟩) 0 cs.size)).alloc (.cells cs 5)).drew.drew.drew).heap.size:=by
  generalize hV:w.setCell ⟨b,1,none⟩ (.slice (some ⟨w.heap.size,0,none⟩) 0 cs.size)=V
  have hVs:V.heap.size=w.heap.size:=by
   rw[←hV]
   show (w.heap.modify _ _).size=_
   rw[Array.size_modify]
  have hVb:V.heap[b]?=some (.cells #[.pointer (some ⟨b,0,none⟩),.slice (some ⟨w.heap.size,0,none⟩) 0 cs.size] 75 (0,0)):=by
   rw[←hV];simp[World.setCell,Array.getElem?_modify,hbk]
  have hV1:Chg [b] w V:=by rw[←hV];exact qJ7 _ b 1 _
  have h0:Chg [b] V (V.alloc (.cells cs 5)) :=
   ⟨by show _≤(V.heap.push _).size;simp,fun k hk _=>Lib.alloc_old V _ k hk,fun k hk=>by simp only[World.shape?,Lib.alloc_old V _ k hk],rfl,rfl,rfl,Nat.le_refl _⟩
  have h1:=hV1.trans h0 fun x hx=>.inl hx
  have hs:(V.alloc (.cells cs 5)).heap.size=w.heap.size+1:=by
   show (V.heap.push _).size=_
   rw[Array.size_push,hVs]
  have hb3:=(Lib.alloc_old V (.cells cs 5) b (by rw[hVs];exact hlt)).trans hVb
  have hb4:(V.alloc (.cells cs 5)).heap[w.heap.size]?=some (.cells cs 5 (0,0)):=by rw[←hVs];exact heap_alloc_new V _
  generalize V.alloc (.cells cs 5)=W at *
  refine⟨h1.trans ((qI6 [b] _).trans ((qI6 [b] _).trans (qI6 [b] _) fun x hx=>.inl hx) fun x hx=>.inl hx) fun x hx=>.inl hx,?_,by show _<W.heap.size;omega⟩
  show BldR W _ _ _ _ _ _
  exact⟨_,_,[w.heap.size],.inr rfl,hb3,rfl,.inr ⟨w.heap.size,cs.size,cs,rfl,by omega,rfl,hb4,by simp,hcs,rfl,by simp⟩,fun h=>by cases h⟩
 go_region_o
 all_goals (go_wp2;go_end0;exact⟨_,rfl,hfin⟩)
set_option maxHeartbeats 2000000 in
set_option maxRecDepth 1000000 in
theorem qHM:qX1 prog 287 75 5:=by
 refine⟨⟨_,func287,rfl,by decide⟩,fun w b fp l n h hnd hlt hn=>?_⟩
 have tS:prog.underlying 55=some (.slice 5):=by kernel_rfl
 have mixed:prog.follows .mixedOrders=true:=by kernel_rfl
 have hl:l=[]∧∃b',fp=[b']:=by
  obtain⟨p,v,fr,h1,h2,rfl,h4,h5⟩:=h
  rcases h4 with⟨rfl,h4,_⟩|⟨g,cap,arr,rfl,hc0,hv,_⟩
  ·exact⟨h4,b,rfl⟩
  ·rw[(h5 rfl).2]at hv;cases hv
 obtain⟨rfl,b',hb'⟩:=hl
 go_enter func287,ntmps287
 obtain⟨p,v,fr,h1,h2,h3,h4,h5⟩:=h
 obtain⟨rfl,rfl⟩:=h5 rfl
 obtain⟨rfl,rfl⟩:b'=b∧fr=[]:=by
  rw[hb']at h3
  simpa [eq_comm]using h3
 subst hb'
 have hbk1:(w.setCell ⟨b',0,none⟩ (.pointer (some ⟨b',0,none⟩))).heap[b']?=some (.cells #[.pointer (some ⟨b',0,none⟩),.slice none 0 0] 75 (0,0)):=by
  simp[World.setCell,Array.getElem?_modify,h2]
 have c1':(w.setCell ⟨b',0,none⟩ (.pointer (some ⟨b',0,none⟩))).drew.cell? ⟨b',1,none⟩=some (.slice none 0 0):=by
  have:(w.setCell ⟨b',0,none⟩ (.pointer (some ⟨b',0,none⟩))).drew.heap[b']?=_:=hbk1
  rw[Lib.cell_of_heap this];rfl
 go_wp2_with (go_at_call 77;refine(qKk h2).mono ?_;rintro e w' ⟨rfl,rfl⟩)
 go_region_o
 all_goals go_wp2_with (go_at_call 332;refine(qVh (w:=(w.setCell ⟨b',0,none⟩ (.pointer (some ⟨b',0,none⟩))).drew) hbk1 (by omega) hn).mono ?_;rintro e w' ⟨v1,rfl,g1,g2,g3⟩)
 all_goals
  have hs:(w.setCell ⟨b',0,none⟩ (.pointer (some ⟨b',0,none⟩))).drew.heap.size=w.heap.size:=by
   show (w.heap.modify _ _).size=_
   rw[Array.size_modify]
  have hX:Chg [b'] w (w.setCell ⟨b',0,none⟩ (.pointer (some ⟨b',0,none⟩))).drew:=(qJ7 w b' 0 _).trans (qI6 [b'] _) fun x hx=>.inl hx
  have hb0:b'<w.heap.size:=hlt b' (by simp)
  go_end0
  first
   |exact⟨_,_,rfl,hX.trans g1 fun x hx=>.inl hx,g2,by rw[hs];simp;omega,fun k hk=>by
     have hgs:=g1.size
     rw[hs]at hk g3 hgs
     rcases List.mem_cons.1 hk with rfl|hk
     ·exact⟨by omega,.inl (by simp)⟩
     ·rw[List.mem_singleton.1 hk];exact⟨g3,.inr (Nat.le_refl _)⟩⟩
   |exact⟨_,[b'],rfl,hX,⟨_,_,[],.inr rfl,hbk1,rfl,.inl ⟨rfl,rfl,rfl⟩,fun h=>by cases h⟩,by simp,fun k hk=>by
     rw[hs,List.mem_singleton.1 hk];exact⟨hb0,.inl (by simp)⟩⟩
end
theorem qGP:qXA prog 48 75 5:=qVR ⟨_,func48,rfl,by decide⟩ Tryz.lays169 Tryz.Builder_Extra_169
def qDW (sep:ByteArray):List ByteArray→Nat→ByteArray→Option ByteArray
 | [],k22,v37 =>
  some v37
 |y23::ys24,k22,v37 =>
  (qAz (Nat.ble (v37.size+sep.size) 140737488355328)).bind fun u39 =>
  (qAz (Nat.ble ((v37++sep).size+y23.size) 140737488355328)).bind fun u41 =>
  qDW sep ys24 (k22+1) ((v37++sep)++y23)
def qDL (elems:List ByteArray) (sep:ByteArray):List ByteArray→Nat→Int→Option ByteArray
 | [],k5,v12 =>
  (qAz (decide (0≤v12)&&decide (v12≤281474976710656))).bind fun u14 =>
  (qAV elems 0).bind fun x16 =>
  (qAz (Nat.ble ((⟨#[]⟩:ByteArray).size+x16.size) 140737488355328)).bind fun u18 =>
  (qC7 elems 1).bind fun x20 =>
  qDW sep x20 0 ((⟨#[]⟩:ByteArray)++x16)
 |y6::ys7,k5,v12 =>
  cond (decide ((y6.size:Int)>(w64 (9223372036854775807-v12))))
   (none)
   (qDL elems sep ys7 (k5+1) (w64 (v12+(y6.size:Int))))
def qDP (sep:ByteArray):List ByteArray→Nat→ByteArray→Option ByteArray
 | [],k60,v75 =>
  some v75
 |y61::ys62,k60,v75 =>
  (qAz (Nat.ble (v75.size+sep.size) 140737488355328)).bind fun u77 =>
  (qAz (Nat.ble ((v75++sep).size+y61.size) 140737488355328)).bind fun u79 =>
  qDP sep ys62 (k60+1) ((v75++sep)++y61)
def qDZ (elems:List ByteArray) (sep:ByteArray):List ByteArray→Nat→Int→Option ByteArray
 | [],k43,v50 =>
  (qAz (decide (0≤v50)&&decide (v50≤281474976710656))).bind fun u52 =>
  (qAV elems 0).bind fun x54 =>
  (qAz (Nat.ble ((⟨#[]⟩:ByteArray).size+x54.size) 140737488355328)).bind fun u56 =>
  (qC7 elems 1).bind fun x58 =>
  qDP sep x58 0 ((⟨#[]⟩:ByteArray)++x54)
 |y44::ys45,k43,v50 =>
  cond (decide ((y44.size:Int)>(w64 (9223372036854775807-v50))))
   (none)
   (qDZ elems sep ys45 (k43+1) (w64 (v50+(y44.size:Int))))
def qFf (elems:List ByteArray) (sep:ByteArray):Option ByteArray :=
 cond ((elems.length:Int)==0)
  (some (⟨#[]⟩:ByteArray))
  (cond ((elems.length:Int)==1)
   ((qAV elems 0).bind fun x1 =>
   some x1)
   (cond (decide ((sep.size:Int)>0))
    ((qAz ((w64 ((elems.length:Int)-1)) != 0)).bind fun u3 =>
    cond (decide ((sep.size:Int)≥(w64 ((9223372036854775807:Int).tdiv (w64 ((elems.length:Int)-1))))))
     (none)
     (qDL elems sep elems 0 (w64 (0+(w64 ((sep.size:Int)*(w64 ((elems.length:Int)-1))))))))
    (qDZ elems sep elems 0 0)))
theorem qO6 (elems:List ByteArray) (sep:ByteArray) (r:ByteArray) (hH:qFf elems sep=some r):qAC prog 233 [.s (List.map ze2 elems),.v (.string sep)] (.v (.string r)):=by
 refine fns T func233 ?_
 refine go ?_
 refine AW.cH hH (fun _ hH=>?_) (fun hc hH=>?_)
 refine go ?_
 exact fin
 refine go ?_
 refine AW.cH hH (fun _ hH=>?_) (fun hc hH=>?_)
 refine AW.q ?_
 obtain⟨x1,hx2,hH⟩:=zB hH
 refine go ?_
 exact fin
 refine go ?_
 refine AW.cH hH (fun hc hH=>?_) (fun hc hH=>?_)
 refine go ?_
 obtain⟨u3,hx4,hH⟩:=zB hH
 refine go ?_
 refine AO.w (qHQ rfl rfl rfl (neZ (qAS (hx4)))) (go ?_)
 refine AW.cH hH (fun _ hH=>?_) (fun hc hH=>?_)
 cases hH
 iterate 12 refine gs ?_
 refine AW.le (Le.ct 0 0 (σ':=(⟨[(0,sv ze2 elems),(1,.v (.string sep)),(5,w64 (0+(w64 ((sep.size:Int)*(w64 ((elems.length:Int)-1))))))],[],75,[]⟩:St))) ?_
 refine go ?_
 refine AW.loopS (fun s:Nat×Int=>(⟨[(0,sv ze2 elems),(1,.v (.string sep)),(5,s.2),(39,sv ze2 elems),(40,(elems.length:Int)),(41,(s.1:Int))],[],75,[]⟩:St)) (fun s=>s.1≤elems.length∧qDL elems sep (elems.drop s.1) s.1 s.2=some r) (fun s=>elems.length-s.1) (0,w64 (0+(w64 ((sep.size:Int)*(w64 ((elems.length:Int)-1)))))) ⟨Nat.zero_le _,hH⟩ ?_ ?_
 exact Le.ct 0 0
 rintro⟨k5,v12⟩ ⟨hk,hH⟩
 try dsimp only at hH⊢
 refine AW.boundM (t:=0) (l:=elems) rfl (fun hb9=>?_)
 rcases hd8:elems.drop k5 with _|⟨y6,ys7⟩
 rw[hd8,qDL]at hH
 have hlt10:=qAF hd8
 refine go ?_
 refine AO.x (qNe T true (U:=5) rfl 1 rfl rfl rfl rfl rfl) (go ?_)
 obtain⟨u14,hx15,hH⟩:=zB hH
 refine go ?_
 refine AO.x (qTG rfl rfl rfl rfl (qAS (hx15)) qHM rfl) (go ?_)
 obtain⟨x16,hx17,u18,hx19,hH⟩:=qAI hH
 refine go ?_
 refine AO.x (qNY rfl rfl rfl rfl (qAS (hx19)) qA0 rfl) (go ?_)
 obtain⟨x20,hx21,hH⟩:=zB hH
 refine go ?_
 refine AO.w (qDS T rfl rfl rfl rfl rfl (hx21) (fun _=>rfl)) (go ?_)
 refine AW.loopS (fun s:Nat×ByteArray=>(⟨[(1,.v (.string sep)),(8,.p 1 0),(63,sv ze2 x20),(64,(x20.length:Int)),(65,(s.1:Int))],[(1,.bld false 75 5 s.2)],75,[]⟩:St)) (fun s=>s.1≤x20.length∧qDW sep (x20.drop s.1) s.1 s.2=some r) (fun s=>x20.length-s.1) (0,((⟨#[]⟩:ByteArray)++x16)) ⟨Nat.zero_le _,hH⟩ ?_ ?_
 exact Le.ct 0 0
 rintro⟨k22,v37⟩ ⟨hk,hH⟩
 try dsimp only at hH⊢
 refine AW.boundM (t:=63) (l:=x20) rfl (fun hb26=>?_)
 rcases hd25:x20.drop k22 with _|⟨y23,ys24⟩
 rw[hd25,qDW]at hH
 have hlt27:=qAF hd25
 refine go ?_
 refine AO.x (qTs rfl rfl rfl rfl qGP rfl) (go ?_)
 exact fin
 rw[hd25,qDW]at hH
 have hlt27:=qAG hd25
 refine go ?_
 obtain⟨u39,hx40,hH⟩:=zB hH
 refine go ?_
 refine AO.x (qNY rfl rfl rfl rfl (qAS (hx40)) qA0 rfl) ?_
 refine AO.n ?_
 obtain⟨u41,hx42,hH⟩:=zB hH
 refine go ?_
 refine AO.x (qNY rfl rfl rfl rfl (qAS (hx42)) qA0 rfl) (go ?_)
 refine⟨(k22+1,((v37++sep)++y23)),⟨hlt27,(zds hd25▸hH)⟩,qCC hlt27,?_⟩
 exact Le.ct 0 0
 rw[hd8,qDL]at hH
 have hlt10:=qAG hd8
 refine go ?_
 refine AW.cH hH (fun _ hH=>?_) (fun hc hH=>?_)
 cases hH
 refine go ?_
 refine⟨(k5+1,w64 (v12+(y6.size:Int))),⟨hlt10,(zds hd8▸hH)⟩,qCC hlt10,?_⟩
 exact Le.ct 0 0
 refine go ?_
 refine AW.loopS (fun s:Nat×Int=>(⟨[(0,sv ze2 elems),(1,.v (.string sep)),(5,s.2),(39,sv ze2 elems),(40,(elems.length:Int)),(41,(s.1:Int))],[],75,[]⟩:St)) (fun s=>s.1≤elems.length∧qDZ elems sep (elems.drop s.1) s.1 s.2=some r) (fun s=>elems.length-s.1) (0,0) ⟨Nat.zero_le _,hH⟩ ?_ ?_
 exact Le.ct 0 0
 rintro⟨k43,v50⟩ ⟨hk,hH⟩
 try dsimp only at hH⊢
 refine AW.boundM (t:=0) (l:=elems) rfl (fun hb47=>?_)
 rcases hd46:elems.drop k43 with _|⟨y44,ys45⟩
 rw[hd46,qDZ]at hH
 have hlt48:=qAF hd46
 refine go ?_
 refine AO.x (qNe T true (U:=5) rfl 2 rfl rfl rfl rfl rfl) (go ?_)
 obtain⟨u52,hx53,hH⟩:=zB hH
 refine go ?_
 refine AO.x (qTG rfl rfl rfl rfl (qAS (hx53)) qHM rfl) (go ?_)
 obtain⟨x54,hx55,u56,hx57,hH⟩:=qAI hH
 refine go ?_
 refine AO.x (qNY rfl rfl rfl rfl (qAS (hx57)) qA0 rfl) (go ?_)
 obtain⟨x58,hx59,hH⟩:=zB hH
 refine go ?_
 refine AO.w (qDS T rfl rfl rfl rfl rfl (hx59) (fun _=>rfl)) (go ?_)
 refine AW.loopS (fun s:Nat×ByteArray=>(⟨[(1,.v (.string sep)),(8,.p 2 0),(63,sv ze2 x58),(64,(x58.length:Int)),(65,(s.1:Int))],[(2,.bld false 75 5 s.2)],75,[]⟩:St)) (fun s=>s.1≤x58.length∧qDP sep (x58.drop s.1) s.1 s.2=some r) (fun s=>x58.length-s.1) (0,((⟨#[]⟩:ByteArray)++x54)) ⟨Nat.zero_le _,hH⟩ ?_ ?_
 exact Le.ct 0 0
 rintro⟨k60,v75⟩ ⟨hk,hH⟩
 try dsimp only at hH⊢
 refine AW.boundM (t:=63) (l:=x58) rfl (fun hb64=>?_)
 rcases hd63:x58.drop k60 with _|⟨y61,ys62⟩
 rw[hd63,qDP]at hH
 have hlt65:=qAF hd63
 refine go ?_
 refine AO.x (qTs rfl rfl rfl rfl qGP rfl) (go ?_)
 exact fin
 rw[hd63,qDP]at hH
 have hlt65:=qAG hd63
 refine go ?_
 obtain⟨u77,hx78,hH⟩:=zB hH
 refine go ?_
 refine AO.x (qNY rfl rfl rfl rfl (qAS (hx78)) qA0 rfl) ?_
 refine AO.n ?_
 obtain⟨u79,hx80,hH⟩:=zB hH
 refine go ?_
 refine AO.x (qNY rfl rfl rfl rfl (qAS (hx80)) qA0 rfl) (go ?_)
 refine⟨(k60+1,((v75++sep)++y61)),⟨hlt65,(zds hd63▸hH)⟩,qCC hlt65,?_⟩
 exact Le.ct 0 0
 rw[hd46,qDZ]at hH
 have hlt48:=qAG hd46
 refine go ?_
 refine AW.cH hH (fun _ hH=>?_) (fun _ hH=>?_)
 cases hH
 refine go ?_
 refine⟨(k43+1,w64 (v50+(y44.size:Int))),⟨hlt48,(zds hd46▸hH)⟩,qCC hlt48,?_⟩
 exact Le.ct 0 0
def qBN:List Int→Nat→List ByteArray→Option ByteArray
 | [],k1,v16 =>
  (qFf v16 (⟨#[32]⟩:ByteArray)).bind fun x18 =>
  some x18
 |y2::ys3,k1,v16 =>
  (qCA y2).bind fun x20 =>
  (qAz (qAh 16 (v16.length+([x20]).length))).bind fun u22 =>
  qBN ys3 (k1+1) (v16++[x20])
def qAx (l:List Int):Option ByteArray :=
 qBN l 0 []
theorem qFG (l:List Int) (r:ByteArray) (hH:qAx l=some r):qAC prog 178 [.s (List.map ze0 l)] (.v (.string r)):=by
 refine fns T func178 ?_
 refine go ?_
 refine AO.x (qGG T rfl rfl rfl rfl) (go ?_)
 refine AW.loopS (fun s:Nat×(List ByteArray)=>(⟨[(3,.R 4),(7,sv ze0 l),(8,(l.length:Int)),(9,(s.1:Int))],[(4,ro 1 ze2 s.2)],21,[]⟩:St)) (fun s=>s.1≤l.length∧qBN (l.drop s.1) s.1 s.2=some r) (fun s=>l.length-s.1) (0,[]) ⟨Nat.zero_le _,hH⟩ ?_ ?_
 refine Le.trans (Le.void 3 4 1 rfl rfl) ?_
 exact Le.ct 0 0
 rintro⟨k1,v16⟩ ⟨hk,hH⟩
 try dsimp only at hH⊢
 refine AW.boundM (t:=7) (l:=l) rfl (fun hb5=>?_)
 rcases hd4:l.drop k1 with _|⟨y2,ys3⟩
 rw[hd4,qBN]at hH
 have hlt6:=qAF hd4
 refine go ?_
 obtain⟨x18,hx19,hH⟩:=zB hH
 refine go ?_
 refine AO.w (zLV rfl rfl rfl (es:=[sv ze2 v16,.v (.string (⟨#[32]⟩:ByteArray))]) ⟨(.rowR rfl (.map fun y=>.vs rfl)),.free rfl,trivial⟩ (qO6 _ _ _ (hx19)) (qAc _) rfl) (go ?_)
 exact fin
 rw[hd4,qBN]at hH
 have hlt6:=qAG hd4
 refine go ?_
 obtain⟨x20,hx21,u22,hx23,hH⟩:=qAI hH
 refine go ?_
 refine AO.w (cVs (qG8 _ _ (hx21))) ?_
 refine AO.x (mks T 5 ze2 ([x20])) ?_
 refine AO.x (rvs T 6 (hfit:=by exact qAS (hx23))) (go ?_)
 refine⟨(k1+1,(v16++[x20])),⟨hlt6,(zds hd4▸hH)⟩,qCC hlt6,?_⟩
 exact Le.ct 6 4
def qCY (l:List Int):Option ByteArray :=
 cond ((l.length:Int)==0)
  (some (⟨#[110,111,110,101]⟩:ByteArray))
  ((qAx l).bind fun x1 =>
  some x1)
theorem qIm (l:List Int) (r:ByteArray) (hH:qCY l=some r):qAC prog 171 [.s (List.map ze0 l)] (.v (.string r)):=by
 refine fns T func171 ?_
 refine go ?_
 refine AW.cH hH (fun _ hH=>?_) (fun _ hH=>?_)
 refine go ?_
 exact fin
 refine go ?_
 obtain⟨x1,hx2,hH⟩:=zB hH
 refine go ?_
 refine AO.w (cVs (qFG _ _ (hx2))) (go ?_)
 exact fin
def qAv (l:List Item) (k:Int):List Item→Nat→Int→Option Int
 | [],k3,v26 =>
  some v26
 |y4::ys5,k3,v26 =>
  (qAV y4.names 0).bind fun x28 =>
  (qAV l k).bind fun x30 =>
  (qAV x30.names 0).bind fun x32 =>
  (opt (decide (x28=x32)) default (qAV y4.marks 0)).bind fun x34 =>
  cond (decide (x28=x32)&&(x34 != 3))
   (qAv l k ys5 (k3+1) (w64 (v26+1)))
   (qAv l k ys5 (k3+1) v26)
def qH6 (l:List Item) (k:Int):Option Int :=
 (qFj l k).bind fun x1 =>
 qAv l k x1 0 0
theorem qM2 (l:List Item) (k:Int) (r:Int) (hH:qH6 l k=some r):qAC prog 285 [.s (List.map ze1 l),k] (.v (.int .i64 r)):=by
 refine fns T func285 ?_
 refine go ?_
 obtain⟨x1,hx2,hH⟩:=zB hH
 refine go ?_
 refine AO.w (qEJ T rfl rfl rfl rfl rfl (hx2) (fun _=>rfl)) (go ?_)
 refine AW.loopS (fun s:Nat×Int=>(⟨[(0,sv ze1 l),(1,k),(5,s.2),(10,sv ze1 x1),(11,(x1.length:Int)),(12,(s.1:Int))],[],39,[]⟩:St)) (fun s=>s.1≤x1.length∧qAv l k (x1.drop s.1) s.1 s.2=some r) (fun s=>x1.length-s.1) (0,0) ⟨Nat.zero_le _,hH⟩ ?_ ?_
 exact Le.ct 0 0
 rintro⟨k3,v26⟩ ⟨hk,hH⟩
 try dsimp only at hH⊢
 refine AW.boundM (t:=10) (l:=x1) rfl (fun hb7=>?_)
 rcases hd6:x1.drop k3 with _|⟨y4,ys5⟩
 rw[hd6,qAv]at hH
 have hlt8:=qAF hd6
 refine go ?_
 exact fin
 rw[hd6,qAv]at hH
 have hlt8:=qAG hd6
 refine go ?_
 refine AO.x (als T 3) ?_
 refine AO.se T [sv ze2 y4.names,sv ze0 y4.marks,.v (.bool y4.late)] ?_
 refine go ?_
 obtain⟨x28,hx29,x30,hx31,x32,hx33,hH⟩:=qBB hH
 obtain⟨x34,hx35,hH⟩:=zB hH
 refine AW.drawn 11 4 [] mix (by kernel_rfl) rfl ?_
 refine go ?_
 refine AO.g0 T ?_
 refine AO.g1 T 29 ?_
 refine AO.d1 30 (fun hg=>ixs T (qEv hx35 hg)) ?_
 refine AO.g1 T 31 ?_
 refine AO.g1 T 32 ?_
 refine gs2 ?_
 refine AW.le (Le.ct 0 0 (σ':=(⟨[(0,sv ze1 l),(1,k),(5,v26),(10,sv ze1 x1),(11,(x1.length:Int)),(12,(k3:Int)),(34,.v (.bool (decide (x28=x32)&&(x34 != 3))))],[],39,[]⟩:St))) ?_
 refine AW.cH hH (fun _ hH=>?_) (fun _ hH=>?_)
 refine go ?_
 refine⟨(k3+1,w64 (v26+1)),⟨hlt8,(zds hd6▸hH)⟩,qCC hlt8,?_⟩
 exact Le.ct 0 0
 refine go ?_
 refine⟨(k3+1,v26),⟨hlt8,(zds hd6▸hH)⟩,qCC hlt8,?_⟩
 exact Le.ct 0 0
def qGd (c:Code) (x:Element) (mark:Int):Option Int :=
 cond (mark==1)
  ((qAz (100 != 0)).bind fun u1 =>
  some (w64 ((w64 (x.base*c.keeps)).tdiv 100)))
  (cond (mark==2)
   ((qAz (10 != 0)).bind fun u3 =>
   some (w64 ((w64 (x.base*9)).tdiv 10)))
   (cond (mark==3)
    (some 0)
    (some x.base)))
theorem qOp (c:Code) (x:Element) (mark:Int) (r:Int) (hH:qGd c x mark=some r):qAC prog 351 [.g (ze4 c),.g (ze5 x),mark] (.v (.int .i64 r)):=by
 refine fns T func351 ?_
 refine go ?_
 refine AO.x (bxs T 1) ?_
 refine AO.x (bxs T 2) (go ?_)
 refine AW.cH hH (fun _ hH=>?_) (fun hc hH=>?_)
 refine AW.q ?_
 obtain⟨u1,hx2,hH⟩:=zB hH
 refine go ?_
 refine AO.w (qHQ rfl rfl rfl (neZ (qAS (hx2)))) (go ?_)
 exact fin
 refine go ?_
 refine AW.cH hH (fun _ hH=>?_) (fun hc hH=>?_)
 refine AW.q ?_
 obtain⟨u3,hx4,hH⟩:=zB hH
 refine go ?_
 refine AO.w (qHQ rfl rfl rfl (neZ (qAS (hx4)))) (go ?_)
 exact fin
 refine go ?_
 refine AW.cH hH (fun _ hH=>?_) (fun _ hH=>?_)
 refine go ?_
 exact fin
 refine go ?_
 exact fin
def qDq (c:Code) (it:Item):List ByteArray→Nat→List Int→Option ((List Int))
 | [],k1,v28 =>
  some v28
 |y2::ys3,k1,v28 =>
  (qCZ c y2).bind fun x30 =>
  (qAV c.elements x30).bind fun x32 =>
  (qAV it.marks (k1:Int)).bind fun x34 =>
  (qGd c x32 x34).bind fun x36 =>
  (qAz (qAh 8 (v28.length+([x36]).length))).bind fun u38 =>
  qDq c it ys3 (k1+1) (v28++[x36])
def qIX (c:Code) (it:Item):Option (List Int) :=
 qDq c it it.names 0 []
theorem qLt (c:Code) (it:Item) (r:(List Int)) (hH:qIX c it=some r):qAC prog 331 [.g (ze4 c),.g (ze1 it)] (.w 1 (r.map ze0)):=by
 refine fns T func331 ?_
 refine go ?_
 refine AO.x (bxs T 1) ?_
 refine AO.x (bxs T 2) (go ?_)
 refine AO.x (qGG T rfl rfl rfl rfl) (go ?_)
 refine AW.loopS (fun s:Nat×(List Int)=>(⟨[(2,.p 1 0),(3,.p 2 0),(5,.R 6),(10,sv ze2 it.names),(11,(it.names.length:Int)),(12,(s.1:Int))],[(1,.box (ze4 c)),(2,.box [sv ze2 it.names,sv ze0 it.marks,.v (.bool it.late)]),(6,ro 1 ze0 s.2)],36,[]⟩:St)) (fun s=>s.1≤it.names.length∧qDq c it (it.names.drop s.1) s.1 s.2=some r) (fun s=>it.names.length-s.1) (0,[]) ⟨Nat.zero_le _,hH⟩ ?_ ?_
 refine Le.trans (Le.void 5 6 1 rfl rfl) ?_
 exact Le.ct 0 0
 rintro⟨k1,v28⟩ ⟨hk,hH⟩
 try dsimp only at hH⊢
 refine AW.boundM (t:=10) (l:=it.names) rfl (fun hb5=>?_)
 rcases hd4:it.names.drop k1 with _|⟨y2,ys3⟩
 rw[hd4,qDq]at hH
 have hlt6:=qAF hd4
 refine go ?_
 exact fin
 rw[hd4,qDq]at hH
 have hlt6:=qAG hd4
 refine go ?_
 obtain⟨x30,hx31,x32,hx33,x34,hx35,hH⟩:=qBB hH
 obtain⟨x36,hx37,u38,hx39,hH⟩:=qAI hH
 refine AW.drawn 16 7 [] mix (by kernel_rfl) rfl ?_
 refine go ?_
 refine AD.vv (cVs (qFJ _ _ _ (hx31))) ?_
 refine go ?_
 refine AD.vv (cVs (qOp _ _ _ _ (hx37))) ?_
 refine AD.q (FStep.mk T (f:=ze0) (l:=[x36]) rfl rfl rfl rfl rfl rfl rfl rfl rfl (fun _=>rfl) rfl rfl rfl rfl) (by simp[qAu]) (Nat.le_succ _) rfl ?_
 refine AD.nil (AO.x (rvs T 8 (hfit:=by exact qAS (hx39))) ?_)
 refine gs2 ?_
 refine AW.le (Le.ct 0 0 (σ':=(⟨[(2,.p 1 0),(3,.p 2 0),(5,.R 8),(10,sv ze2 it.names),(11,(it.names.length:Int)),(12,(k1:Int))],[(1,.box (ze4 c)),(2,.box [sv ze2 it.names,sv ze0 it.marks,.v (.bool it.late)]),(8,ro 1 ze0 (v28++[x36]))],36,[]⟩:St))) ?_
 refine go ?_
 refine⟨(k1+1,(v28++[x36])),⟨hlt6,(zds hd4▸hH)⟩,qCC hlt6,?_⟩
 exact Le.ct 8 6
def qBA:List Int→Nat→Int→Option Int
 | [],k1,v8 =>
  some v8
 |y2::ys3,k1,v8 =>
  qBA ys3 (k1+1) (w64 (v8+y2))
def qBE (l:List Int):Option Int :=
 qBA l 0 0
theorem qEy (l:List Int) (r:Int) (hH:qBE l=some r):qAC prog 176 [.s (List.map ze0 l)] (.v (.int .i64 r)):=by
 refine fns T func176 ?_
 refine go ?_
 refine AW.loopS (fun s:Nat×Int=>(⟨[(3,s.2),(6,sv ze0 l),(7,(l.length:Int)),(8,(s.1:Int))],[],17,[]⟩:St)) (fun s=>s.1≤l.length∧qBA (l.drop s.1) s.1 s.2=some r) (fun s=>l.length-s.1) (0,0) ⟨Nat.zero_le _,hH⟩ ?_ ?_
 exact Le.ct 0 0
 rintro⟨k1,v8⟩ ⟨hk,hH⟩
 try dsimp only at hH⊢
 refine AW.boundM (t:=6) (l:=l) rfl (fun hb5=>?_)
 rcases hd4:l.drop k1 with _|⟨y2,ys3⟩
 rw[hd4,qBA]at hH
 have hlt6:=qAF hd4
 refine go ?_
 exact fin
 rw[hd4,qBA]at hH
 have hlt6:=qAG hd4
 refine go ?_
 refine⟨(k1+1,w64 (v8+y2)),⟨hlt6,(zds hd4▸hH)⟩,qCC hlt6,?_⟩
 exact Le.ct 0 0
def qE6 (a:Int) (b:Int):Option Int :=
 (qAz (b != 0)).bind fun u1 =>
 cond (decide ((a.tmod b)<0))
  (some (w64 ((w64 (a.tdiv b))-1)))
  (some (w64 (a.tdiv b)))
theorem qH8 (a:Int) (b:Int) (r:Int) (hH:qE6 a b=some r):qAC prog 294 [a,b] (.v (.int .i64 r)):=by
 refine fns T func294 ?_
 refine go ?_
 obtain⟨u1,hx2,hH⟩:=zB hH
 refine go ?_
 refine AO.w (qHQ rfl rfl rfl (neZ (qAS (hx2)))) (go ?_)
 refine AO.w (qRA rfl rfl rfl (neZ (qAS (hx2)))) (go ?_)
 refine AW.cH hH (fun _ hH=>?_) (fun _ hH=>?_)
 refine go ?_
 exact fin
 refine go ?_
 exact fin
def qDT (a:Int) (b:Int):Option Int :=
 (qE6 (w64 ((w64 (2*a))+b)) (w64 (2*b))).bind fun x1 =>
 some x1
theorem qFV (a:Int) (b:Int) (r:Int) (hH:qDT a b=some r):qAC prog 289 [a,b] (.v (.int .i64 r)):=by
 refine fns T func289 ?_
 refine go ?_
 obtain⟨x1,hx2,hH⟩:=zB hH
 refine go ?_
 refine AO.w (cVs (qH8 _ _ _ (hx2))) (go ?_)
 exact fin
def qHC (c:Code) (it:Item):Option Int :=
 (qIX c it).bind fun x1 =>
 (qBE x1).bind fun x3 =>
 cond it.late
  ((qDT (w64 (x3*(w64 (100+c.bonus)))) 100).bind fun x5 =>
  some x5)
  (some x3)
theorem qN0 (c:Code) (it:Item) (r:Int) (hH:qHC c it=some r):qAC prog 286 [.g (ze4 c),.g (ze1 it)] (.v (.int .i64 r)):=by
 refine fns T func286 ?_
 refine go ?_
 refine AO.x (bxs T 1) ?_
 refine AO.x (bxs T 2) (go ?_)
 obtain⟨x1,hx2,x3,hx4,hH⟩:=qAI hH
 refine go ?_
 refine AO.x (qAU rfl 3 rfl rfl rfl (qLt _ _ _ (hx2)) rfl rfl rfl) ?_
 refine AO.w (zLV rfl rfl rfl (es:=[sv ze0 x1]) ⟨(.rowR rfl (.map fun y=>.vs rfl)),trivial⟩ (qEy _ _ (hx4)) (qAc _) rfl) (go ?_)
 refine AW.cH hH (fun _ hH=>?_) (fun _ hH=>?_)
 obtain⟨x5,hx6,hH⟩:=zB hH
 refine go ?_
 refine AO.w (cVs (qFV _ _ _ (hx6))) (go ?_)
 exact fin
 refine go ?_
 exact fin
def qCd (c:Code) (l:List Item) (k:Int):Option Int :=
 (qH6 l k).bind fun x1 =>
 (qAV l k).bind fun x3 =>
 (qHC c x3).bind fun x5 =>
 cond (decide (x1<c.repeats))
  (some x5)
  (cond (x1==c.repeats)
   ((qAz (10 != 0)).bind fun u7 =>
   some (w64 ((w64 (x5*7)).tdiv 10)))
   (some 0))
theorem qGj (c:Code) (l:List Item) (k:Int) (r:Int) (hH:qCd c l k=some r):qAC prog 232 [.g (ze4 c),.s (List.map ze1 l),k] (.v (.int .i64 r)):=by
 refine fns T func232 ?_
 refine go ?_
 refine AO.x (bxs T 1) (go ?_)
 obtain⟨x1,hx2,x3,hx4,x5,hx6,hH⟩:=qBB hH
 refine AW.drawn 8 2 [] mix (by kernel_rfl) rfl ?_
 refine go ?_
 refine AD.vv (cVs (qM2 _ _ _ (hx2))) ?_
 refine go ?_
 refine AO.w (cVs (qN0 _ _ _ (hx6))) (go ?_)
 refine AW.cH hH (fun _ hH=>?_) (fun hc hH=>?_)
 refine go ?_
 exact fin
 refine go ?_
 refine AW.cH hH (fun _ hH=>?_) (fun _ hH=>?_)
 refine AW.q ?_
 obtain⟨u7,hx8,hH⟩:=zB hH
 refine go ?_
 refine AO.w (qHQ rfl rfl rfl (neZ (qAS (hx8)))) ?_
 refine gs2 ?_
 refine AW.le (Le.ct 0 0 (σ':=(⟨[(6,w64 ((w64 (x5*7)).tdiv 10))],[],32,[]⟩:St))) ?_
 refine AW.t ?_
 exact fin
 refine gs5 ?_
 refine AW.le (Le.ct 0 0 (σ':=(⟨[(6,(0:Int))],[],32,[]⟩:St))) ?_
 refine AW.t ?_
 exact fin
def qBJ (x:List Int):Nat→Int→Int→Option Int
 |0,_,_=>none
 |k3+1,v10,v11 =>
  cond (decide (v11<(x.length:Int)))
   ((qAV x v11).bind fun x13 =>
   qBJ x k3 (max v10 x13) (w64 (v11+1)))
   (some v10)
def qER (fl:Nat) (x:List Int):Option Int :=
 cond (decide ((x.length:Int)<1))
  (none)
  ((qAV x 0).bind fun x1 =>
  qBJ x fl x1 1)
theorem qJo (fl:Nat) (x:List Int) (r:Int) (hH:qER fl x=some r):qAC prog 335 [.s (List.map ze0 x)] (.v (.int .i64 r)):=by
 refine fns T func335 ?_
 refine go ?_
 refine AW.cH hH (fun _ hH=>?_) (fun hc hH=>?_)
 cases hH
 refine go ?_
 obtain⟨x1,hx2,hH⟩:=zB hH
 refine go ?_
 refine AW.loopS (fun s:Nat×Int×Int=>(⟨[(0,sv ze0 x),(3,s.2.1),(4,s.2.2)],[],25,[]⟩:St)) (fun s=>qBJ x s.1 s.2.1 s.2.2=some r) (fun s=>s.1) (fl,x1,1) hH ?_ ?_
 exact Le.ct 0 0
 rintro⟨k3,v10,v11⟩ hH
 try dsimp only at hH⊢
 rcases k3 with _|k3
 cases (show none=some _ from hH)
 rw[qBJ]at hH
 refine go ?_
 refine AW.cH hH (fun _ hH=>?_) (fun _ hH=>?_)
 refine go ?_
 obtain⟨x13,hx14,hH⟩:=zB hH
 refine go ?_
 refine AO.w (qRB rfl rfl rfl) (go ?_)
 refine⟨(k3,(max v10 x13),w64 (v11+1)),hH,Nat.lt_succ_self _,?_⟩
 exact Le.ct 0 0
 refine go ?_
 exact fin
def qC8 (x:List Int):Nat→Int→Int→Option Int
 |0,_,_=>none
 |k3+1,v10,v11 =>
  cond (decide (v11<(x.length:Int)))
   ((qAV x v11).bind fun x13 =>
   qC8 x k3 (min v10 x13) (w64 (v11+1)))
   (some v10)
def qGp (fl:Nat) (x:List Int):Option Int :=
 cond (decide ((x.length:Int)<1))
  (none)
  ((qAV x 0).bind fun x1 =>
  qC8 x fl x1 1)
theorem qNB (fl:Nat) (x:List Int) (r:Int) (hH:qGp fl x=some r):qAC prog 361 [.s (List.map ze0 x)] (.v (.int .i64 r)):=by
 refine fns T func361 ?_
 refine go ?_
 refine AW.cH hH (fun _ hH=>?_) (fun hc hH=>?_)
 cases hH
 refine go ?_
 obtain⟨x1,hx2,hH⟩:=zB hH
 refine go ?_
 refine AW.loopS (fun s:Nat×Int×Int=>(⟨[(0,sv ze0 x),(3,s.2.1),(4,s.2.2)],[],25,[]⟩:St)) (fun s=>qC8 x s.1 s.2.1 s.2.2=some r) (fun s=>s.1) (fl,x1,1) hH ?_ ?_
 exact Le.ct 0 0
 rintro⟨k3,v10,v11⟩ hH
 try dsimp only at hH⊢
 rcases k3 with _|k3
 cases (show none=some _ from hH)
 rw[qC8]at hH
 refine go ?_
 refine AW.cH hH (fun _ hH=>?_) (fun _ hH=>?_)
 refine go ?_
 obtain⟨x13,hx14,hH⟩:=zB hH
 refine go ?_
 refine AO.w (qSP rfl rfl rfl) (go ?_)
 refine⟨(k3,(min v10 x13),w64 (v11+1)),hH,Nat.lt_succ_self _,?_⟩
 exact Le.ct 0 0
 refine go ?_
 exact fin
def qE8 (fl:Nat) (l:List Int):Option (Int×Int) :=
 cond (decide ((l.length:Int)<5))
  ((qBE l).bind fun x1 =>
  some (x1,(l.length:Int)))
  ((qBE l).bind fun x3 =>
  (qER fl l).bind fun x5 =>
  (qGp fl l).bind fun x7 =>
  some (w64 ((w64 (x3-x5))-x7),w64 ((l.length:Int)-2)))
theorem qJB (fl:Nat) (l:List Int) (r:(Int×Int)) (hH:qE8 fl l=some r):qAC prog 359 [.s (List.map ze0 l)] (.t [.v (.int .i64 r.1),.v (.int .i64 r.2)]):=by
 refine fns T func359 ?_
 refine go ?_
 refine AW.cH hH (fun _ hH=>?_) (fun _ hH=>?_)
 refine AW.q ?_
 obtain⟨x1,hx2,hH⟩:=zB hH
 refine go ?_
 refine AO.w (cVs (qEy _ _ (hx2))) (go ?_)
 exact fin
 refine go ?_
 obtain⟨x3,hx4,x5,hx6,x7,hx8,hH⟩:=qBB hH
 refine go ?_
 refine AO.w (cVs (qEy _ _ (hx4))) ?_
 refine AO.pu T ?_
 refine AO.w (cVs (qJo fl _ _ (hx6))) (go ?_)
 refine AO.w (cVs (qNB fl _ _ (hx8))) (go ?_)
 exact fin
def qHL (fl:Nat) (c:Code) (it:Item):Option Int :=
 (qIX c it).bind fun x1 =>
 (qER fl x1).bind fun x3 =>
 some x3
theorem qLm (fl:Nat) (c:Code) (it:Item) (r:Int) (hH:qHL fl c it=some r):qAC prog 293 [.g (ze4 c),.g (ze1 it)] (.v (.int .i64 r)):=by
 refine fns T func293 ?_
 refine go ?_
 refine AO.x (bxs T 1) ?_
 refine AO.x (bxs T 2) (go ?_)
 obtain⟨x1,hx2,x3,hx4,hH⟩:=qAI hH
 refine go ?_
 refine AO.x (qAU rfl 3 rfl rfl rfl (qLt _ _ _ (hx2)) rfl rfl rfl) ?_
 refine AO.w (zLV rfl rfl rfl (es:=[sv ze0 x1]) ⟨(.rowR rfl (.map fun y=>.vs rfl)),trivial⟩ (qJo fl _ _ (hx4)) (qAc _) rfl) (go ?_)
 exact fin
def qGo (fl:Nat) (c:Code) (l:List Item) (k:Int) (grades:List Int):Option Int :=
 (qCd c l k).bind fun x1 =>
 cond (x1==0)
  (some 0)
  ((qE8 fl grades).bind fun x3 =>
  (qAV l k).bind fun x5 =>
  (qHL fl c x5).bind fun x7 =>
  (qDT (w64 (x3.1*x7)) (w64 (10*x3.2))).bind fun x9 =>
  some x9)
theorem qNK (fl:Nat) (c:Code) (l:List Item) (k:Int) (grades:List Int) (r:Int) (hH:qGo fl c l k grades=some r):qAC prog 353 [.g (ze4 c),.s (List.map ze1 l),k,.s (List.map ze0 grades)] (.v (.int .i64 r)):=by
 refine fns T func353 ?_
 refine go ?_
 refine AO.x (bxs T 1) (go ?_)
 obtain⟨x1,hx2,hH⟩:=zB hH
 refine go ?_
 refine AO.w (cVs (qGj _ _ _ _ (hx2))) (go ?_)
 refine AW.cH hH (fun _ hH=>?_) (fun _ hH=>?_)
 refine go ?_
 exact fin
 refine go ?_
 obtain⟨x3,hx4,hH⟩:=zB hH
 refine go ?_
 refine AO.w (cVs (qJB fl _ _ (hx4))) (go ?_)
 obtain⟨x5,hx6,x7,hx8,x9,hx10,hH⟩:=qBB hH
 refine AW.drawn 10 2 [] mix (by kernel_rfl) rfl ?_
 refine go ?_
 refine AD.vv (cVs (qLm fl _ _ _ (hx8))) ?_
 refine AD.vv aws ?_
 refine AD.pu T ?_
 refine AD.vv aws ?_
 refine AD.nil (AO.w (cVs (qFV _ _ _ (hx10))) ?_)
 refine gs2 ?_
 refine AW.le (Le.ct 0 0 (σ':=(⟨[(8,x9)],[],32,[]⟩:St))) ?_
 refine AW.t ?_
 exact fin
def qIG (fl:Nat) (c:Code) (l:List Item) (m:Marks) (k:Int):Option Int :=
 (qCd c l k).bind fun x1 =>
 (qAV m.grades k).bind fun x3 =>
 (qGo fl c l k x3).bind fun x5 =>
 some (w64 (x1+x5))
theorem qNZ (fl:Nat) (c:Code) (l:List Item) (m:Marks) (k:Int) (r:Int) (hH:qIG fl c l m k=some r):qAC prog 333 [.g (ze4 c),.s (List.map ze1 l),.g (qAf m),k] (.v (.int .i64 r)):=by
 refine fns T func333 ?_
 refine go ?_
 refine AO.x (bxs T 1) ?_
 refine AO.x (bxs T 2) (go ?_)
 obtain⟨x1,hx2,x3,hx4,x5,hx6,hH⟩:=qBB hH
 refine AW.drawn 12 3 [] mix (by kernel_rfl) rfl ?_
 refine go ?_
 refine AD.vv (cVs (qGj _ _ _ _ (hx2))) ?_
 refine go ?_
 refine AO.w (cVs (qNK fl _ _ _ _ _ (hx6))) (go ?_)
 exact fin
def qBk (c:Code) (l:List Item) (m:Marks) (fl:Nat):List Item→Nat→List Int→Option ((List Int))
 | [],k1,v16 =>
  some v16
 |y2::ys3,k1,v16 =>
  (qIG fl c l m (k1:Int)).bind fun x18 =>
  (qAz (qAh 8 (v16.length+([x18]).length))).bind fun u20 =>
  qBk c l m fl ys3 (k1+1) (v16++[x18])
def qHd (fl:Nat) (c:Code) (l:List Item) (m:Marks):Option (List Int) :=
 qBk c l m fl l 0 []
theorem qMt (fl:Nat) (c:Code) (l:List Item) (m:Marks) (r:(List Int)) (hH:qHd fl c l m=some r):qAC prog 288 [.g (ze4 c),.s (List.map ze1 l),.g (qAf m)] (.w 1 (r.map ze0)):=by
 refine fns T func288 ?_
 refine go ?_
 refine AO.x (bxs T 1) ?_
 refine AO.x (bxs T 2) (go ?_)
 refine AO.x (qGG T rfl rfl rfl rfl) (go ?_)
 refine AW.loopS (fun s:Nat×(List Int)=>(⟨[(1,sv ze1 l),(3,.p 1 0),(5,.p 2 0),(7,.R 6),(11,(l.length:Int)),(12,(s.1:Int))],[(1,.box (ze4 c)),(2,.box [sv ze3 m.grades,sv ze3 m.components]),(6,ro 1 ze0 s.2)],25,[]⟩:St)) (fun s=>s.1≤l.length∧qBk c l m fl (l.drop s.1) s.1 s.2=some r) (fun s=>l.length-s.1) (0,[]) ⟨Nat.zero_le _,hH⟩ ?_ ?_
 refine Le.trans (Le.void 7 6 1 rfl rfl) ?_
 exact Le.ct 0 0
 rintro⟨k1,v16⟩ ⟨hk,hH⟩
 try dsimp only at hH⊢
 refine AW.boundM (t:=1) (l:=l) rfl (fun hb5=>?_)
 rcases hd4:l.drop k1 with _|⟨y2,ys3⟩
 rw[hd4,qBk]at hH
 have hlt6:=qAF hd4
 refine go ?_
 exact fin
 rw[hd4,qBk]at hH
 have hlt6:=qAG hd4
 refine go ?_
 obtain⟨x18,hx19,u20,hx21,hH⟩:=qAI hH
 refine go ?_
 refine AO.w (cVs (qNZ fl _ _ _ _ _ (hx19))) ?_
 refine AO.x (mks T 7 ze0 ([x18])) ?_
 refine AO.x (rvs T 8 (hfit:=by exact qAS (hx21))) (go ?_)
 refine⟨(k1+1,(v16++[x18])),⟨hlt6,(zds hd4▸hH)⟩,qCC hlt6,?_⟩
 exact Le.ct 8 6
def qFu (fl:Nat) (c:Code) (p:Performance):Option Int :=
 (qHd fl c p.items p.marks).bind fun x1 =>
 (qBE x1).bind fun x3 =>
 some x3
theorem qKb (fl:Nat) (c:Code) (p:Performance) (r:Int) (hH:qFu fl c p=some r):qAC prog 234 [.g (ze4 c),.g (qHY p)] (.v (.int .i64 r)):=by
 refine fns T func234 ?_
 refine go ?_
 refine AO.x (bxs T 1) ?_
 refine AO.x (bxs T 2) (go ?_)
 obtain⟨x1,hx2,x3,hx4,hH⟩:=qAI hH
 refine go ?_
 refine AO.x (qAU rfl 3 rfl rfl rfl (qMt fl _ _ _ _ (hx2)) rfl rfl rfl) ?_
 refine AO.w (zLV rfl rfl rfl (es:=[sv ze0 x1]) ⟨(.rowR rfl (.map fun y=>.vs rfl)),trivial⟩ (qEy _ _ (hx4)) (qAc _) rfl) (go ?_)
 exact fin
def qET (fl:Nat) (marks:List Int):Option Int :=
 (qE8 fl marks).bind fun x1 =>
 (qDT x1.1 x1.2).bind fun x3 =>
 some x3
theorem qKY (fl:Nat) (marks:List Int) (r:Int) (hH:qET fl marks=some r):qAC prog 354 [.s (List.map ze0 marks)] (.v (.int .i64 r)):=by
 refine fns T func354 ?_
 refine go ?_
 obtain⟨x1,hx2,hH⟩:=zB hH
 refine go ?_
 refine AO.w (cVs (qJB fl _ _ (hx2))) (go ?_)
 obtain⟨x3,hx4,hH⟩:=zB hH
 refine go ?_
 refine AO.w (cVs (qFV _ _ _ (hx4))) (go ?_)
 exact fin
def qA6 (fl:Nat):List (List Int)→Nat→List Int→Option ((List Int))
 | [],k1,v16 =>
  some v16
 |y2::ys3,k1,v16 =>
  (qET fl y2).bind fun x18 =>
  (qAz (qAh 8 (v16.length+([x18]).length))).bind fun u20 =>
  qA6 fl ys3 (k1+1) (v16++[x18])
def qC2 (fl:Nat) (m:Marks):Option (List Int) :=
 qA6 fl m.components 0 []
theorem qFQ (fl:Nat) (m:Marks) (r:(List Int)) (hH:qC2 fl m=some r):qAC prog 334 [.g (qAf m)] (.w 1 (r.map ze0)):=by
 refine fns T func334 ?_
 refine go ?_
 refine AO.x (bxs T 1) (go ?_)
 refine AO.x (qGG T rfl rfl rfl rfl) (go ?_)
 refine AW.loopS (fun s:Nat×(List Int)=>(⟨[(3,.R 5),(8,sv ze3 m.components),(9,(m.components.length:Int)),(10,(s.1:Int))],[(5,ro 1 ze0 s.2)],21,[]⟩:St)) (fun s=>s.1≤m.components.length∧qA6 fl (m.components.drop s.1) s.1 s.2=some r) (fun s=>m.components.length-s.1) (0,[]) ⟨Nat.zero_le _,hH⟩ ?_ ?_
 refine Le.trans (Le.void 3 5 1 rfl rfl) ?_
 exact Le.ct 0 0
 rintro⟨k1,v16⟩ ⟨hk,hH⟩
 try dsimp only at hH⊢
 refine AW.boundM (t:=8) (l:=m.components) rfl (fun hb5=>?_)
 rcases hd4:m.components.drop k1 with _|⟨y2,ys3⟩
 rw[hd4,qA6]at hH
 have hlt6:=qAF hd4
 refine go ?_
 exact fin
 rw[hd4,qA6]at hH
 have hlt6:=qAG hd4
 refine go ?_
 obtain⟨x18,hx19,u20,hx21,hH⟩:=qAI hH
 refine go ?_
 refine AO.w (cVs (qKY fl _ _ (hx19))) ?_
 refine AO.x (mks T 6 ze0 ([x18])) ?_
 refine AO.x (rvs T 7 (hfit:=by exact qAS (hx21))) (go ?_)
 refine⟨(k1+1,(v16++[x18])),⟨hlt6,(zds hd4▸hH)⟩,qCC hlt6,?_⟩
 exact Le.ct 7 5
def qCL:List Int→Nat→Int→Option Int
 | [],k3,v10 =>
  some v10
 |y4::ys5,k3,v10 =>
  qCL ys5 (k3+1) (w64 (v10+(min y4 950)))
def qCQ:List Int→Nat→Int→Option Int
 | [],k14,v21 =>
  some v21
 |y15::ys16,k14,v21 =>
  qCQ ys16 (k14+1) (w64 (v21+(min y15 900)))
def qCP:List Int→Nat→Int→Option Int
 | [],k25,v32 =>
  some v32
 |y26::ys27,k25,v32 =>
  qCP ys27 (k25+1) (w64 (v32+(min y26 1000)))
def qGf (fl:Nat) (m:Marks) (falls:Int):Option Int :=
 cond (falls==1)
  ((qC2 fl m).bind fun x1 =>
  qCL x1 0 0)
  (cond (decide (falls>1))
   ((qC2 fl m).bind fun x12 =>
   qCQ x12 0 0)
   ((qC2 fl m).bind fun x23 =>
   qCP x23 0 0))
theorem qNF (fl:Nat) (m:Marks) (falls:Int) (r:Int) (hH:qGf fl m falls=some r):qAC prog 290 [.g (qAf m),falls] (.v (.int .i64 r)):=by
 refine fns T func290 ?_
 refine go ?_
 refine AO.x (bxs T 1) (go ?_)
 refine AW.cH hH (fun _ hH=>?_) (fun hc hH=>?_)
 refine go ?_
 obtain⟨x1,hx2,hH⟩:=zB hH
 refine go ?_
 refine AO.x (qAU rfl 2 rfl rfl rfl (qFQ fl _ _ (hx2)) rfl rfl rfl) (go ?_)
 refine AW.loopS (fun s:Nat×Int=>(⟨[(5,(950:Int)),(6,s.2),(16,.R 2),(17,(x1.length:Int)),(18,(s.1:Int))],[(2,ro 1 ze0 x1)],29,[]⟩:St)) (fun s=>s.1≤x1.length∧qCL (x1.drop s.1) s.1 s.2=some r) (fun s=>x1.length-s.1) (0,0) ⟨Nat.zero_le _,hH⟩ ?_ ?_
 exact Le.ct 0 0
 rintro⟨k3,v10⟩ ⟨hk,hH⟩
 try dsimp only at hH⊢
 refine AW.boundR (id:=2) (l:=x1) rfl (fun hb7=>?_)
 rcases hd6:x1.drop k3 with _|⟨y4,ys5⟩
 rw[hd6,qCL]at hH
 have hlt8:=qAF hd6
 refine go ?_
 exact fin
 rw[hd6,qCL]at hH
 have hlt8:=qAG hd6
 refine go ?_
 refine AO.w (zLr T rfl rfl rfl rfl (zgG (zgD hd6)) rfl rfl rfl) (go ?_)
 refine AO.w (qSP rfl rfl rfl) (go ?_)
 refine⟨(k3+1,w64 (v10+(min y4 950))),⟨hlt8,(zds hd6▸hH)⟩,qCC hlt8,?_⟩
 exact Le.ct 0 0
 refine go ?_
 refine AW.cH hH (fun _ hH=>?_) (fun _ hH=>?_)
 refine go ?_
 obtain⟨x12,hx13,hH⟩:=zB hH
 refine go ?_
 refine AO.x (qAU rfl 3 rfl rfl rfl (qFQ fl _ _ (hx13)) rfl rfl rfl) (go ?_)
 refine AW.loopS (fun s:Nat×Int=>(⟨[(5,(900:Int)),(6,s.2),(16,.R 3),(17,(x12.length:Int)),(18,(s.1:Int))],[(3,ro 1 ze0 x12)],29,[]⟩:St)) (fun s=>s.1≤x12.length∧qCQ (x12.drop s.1) s.1 s.2=some r) (fun s=>x12.length-s.1) (0,0) ⟨Nat.zero_le _,hH⟩ ?_ ?_
 exact Le.ct 0 0
 rintro⟨k14,v21⟩ ⟨hk,hH⟩
 try dsimp only at hH⊢
 refine AW.boundR (id:=3) (l:=x12) rfl (fun hb18=>?_)
 rcases hd17:x12.drop k14 with _|⟨y15,ys16⟩
 rw[hd17,qCQ]at hH
 have hlt19:=qAF hd17
 refine go ?_
 exact fin
 rw[hd17,qCQ]at hH
 have hlt19:=qAG hd17
 refine go ?_
 refine AO.w (zLr T rfl rfl rfl rfl (zgG (zgD hd17)) rfl rfl rfl) (go ?_)
 refine AO.w (qSP rfl rfl rfl) (go ?_)
 refine⟨(k14+1,w64 (v21+(min y15 900))),⟨hlt19,(zds hd17▸hH)⟩,qCC hlt19,?_⟩
 exact Le.ct 0 0
 refine go ?_
 obtain⟨x23,hx24,hH⟩:=zB hH
 refine go ?_
 refine AO.x (qAU rfl 4 rfl rfl rfl (qFQ fl _ _ (hx24)) rfl rfl rfl) (go ?_)
 refine AW.loopS (fun s:Nat×Int=>(⟨[(5,(1000:Int)),(6,s.2),(16,.R 4),(17,(x23.length:Int)),(18,(s.1:Int))],[(4,ro 1 ze0 x23)],29,[]⟩:St)) (fun s=>s.1≤x23.length∧qCP (x23.drop s.1) s.1 s.2=some r) (fun s=>x23.length-s.1) (0,0) ⟨Nat.zero_le _,hH⟩ ?_ ?_
 exact Le.ct 0 0
 rintro⟨k25,v32⟩ ⟨hk,hH⟩
 try dsimp only at hH⊢
 refine AW.boundR (id:=4) (l:=x23) rfl (fun hb29=>?_)
 rcases hd28:x23.drop k25 with _|⟨y26,ys27⟩
 rw[hd28,qCP]at hH
 have hlt30:=qAF hd28
 refine go ?_
 exact fin
 rw[hd28,qCP]at hH
 have hlt30:=qAG hd28
 refine go ?_
 refine AO.w (zLr T rfl rfl rfl rfl (zgG (zgD hd28)) rfl rfl rfl) (go ?_)
 refine AO.w (qSP rfl rfl rfl) (go ?_)
 refine⟨(k25+1,w64 (v32+(min y26 1000))),⟨hlt30,(zds hd28▸hH)⟩,qCC hlt30,?_⟩
 exact Le.ct 0 0
def qFn (fl:Nat) (m:Marks) (factor:Int) (falls:Int):Option Int :=
 (qGf fl m falls).bind fun x1 =>
 (qDT (w64 (x1*factor)) 100).bind fun x3 =>
 some x3
theorem qL8 (fl:Nat) (m:Marks) (factor:Int) (falls:Int) (r:Int) (hH:qFn fl m factor falls=some r):qAC prog 235 [.g (qAf m),factor,falls] (.v (.int .i64 r)):=by
 refine fns T func235 ?_
 refine go ?_
 refine AO.x (bxs T 1) (go ?_)
 obtain⟨x1,hx2,x3,hx4,hH⟩:=qAI hH
 refine go ?_
 refine AO.w (cVs (qNF fl _ _ _ (hx2))) (go ?_)
 refine AO.w (cVs (qFV _ _ _ (hx4))) (go ?_)
 exact fin
def qGK (fall:Int) (falls:Int):Option Int :=
 some (w64 (fall*(w64 ((w64 (falls+(max (w64 (falls-2)) 0)))+(max (w64 (falls-4)) 0)))))
theorem qKi (fall:Int) (falls:Int) (r:Int) (hH:qGK fall falls=some r):qAC prog 291 [fall,falls] (.v (.int .i64 r)):=by
 refine fns T func291 ?_
 refine go ?_
 refine AO.w (qRB rfl rfl rfl) (go ?_)
 refine AO.w (qRB rfl rfl rfl) (go ?_)
 exact fin
def qGL (seconds:Int):Option Int :=
 (qAz (5 != 0)).bind fun u1 =>
 some (w64 ((w64 ((w64 (seconds+4)).tdiv 5))*100))
theorem qK7 (seconds:Int) (r:Int) (hH:qGL seconds=some r):qAC prog 292 [seconds] (.v (.int .i64 r)):=by
 refine fns T func292 ?_
 refine go ?_
 obtain⟨u1,hx2,hH⟩:=zB hH
 refine go ?_
 refine AO.w (qHQ rfl rfl rfl (neZ (qAS (hx2)))) (go ?_)
 exact fin
def qF5 (c:Code) (sA:Slips):Option (List Int) :=
 (qGK c.fall sA.falls).bind fun x1 =>
 (qGL sA.seconds).bind fun x3 =>
 some [x1,x3,sA.other]
theorem qMk (c:Code) (sA:Slips) (r:(List Int)) (hH:qF5 c sA=some r):qAC prog 236 [.g (ze4 c),.g (qOF sA)] (.w 1 (r.map ze0)):=by
 refine fns T func236 ?_
 refine go ?_
 refine AO.x (bxs T 1) ?_
 refine AO.x (bxs T 2) (go ?_)
 obtain⟨x1,hx2,x3,hx4,hH⟩:=qAI hH
 refine AW.drawn 10 3 [] mix (by kernel_rfl) rfl ?_
 refine go ?_
 refine AD.vv (cVs (qKi _ _ _ (hx2))) ?_
 refine go ?_
 refine AD.vv (cVs (qK7 _ _ (hx4))) ?_
 refine go ?_
 refine AO.x (mks T 3 ze0 ([x1,x3,sA.other])) (go ?_)
 exact fin
def qFb (fl:Nat) (c:Code) (p:Performance) (factor:Int):Option (List Int) :=
 (qFu fl c p).bind fun x1 =>
 (qFn fl p.marks factor p.slips.falls).bind fun x3 =>
 (qF5 c p.slips).bind fun x5 =>
 (qBE x5).bind fun x7 =>
 some [x1,x3,x7,(max (w64 ((w64 (x1+x3))-x7)) 0)]
theorem qK3 (fl:Nat) (c:Code) (p:Performance) (factor:Int) (r:(List Int)) (hH:qFb fl c p factor=some r):qAC prog 179 [.g (ze4 c),.g (qHY p),factor] (.w 1 (r.map ze0)):=by
 refine fns T func179 ?_
 refine go ?_
 refine AO.x (bxs T 1) ?_
 refine AO.x (bxs T 2) (go ?_)
 obtain⟨x1,hx2,x3,hx4,x5,hx6,hH⟩:=qBB hH
 obtain⟨x7,hx8,hH⟩:=zB hH
 refine AW.drawn 13 3 [] mix (by kernel_rfl) rfl ?_
 refine go ?_
 refine AD.vv (cVs (qKb fl _ _ _ (hx2))) ?_
 refine go ?_
 refine AD.vv (cVs (qL8 fl _ _ _ _ (hx4))) ?_
 refine go ?_
 refine AO.x (qAU rfl 3 rfl rfl rfl (qMk _ _ _ (hx6)) rfl rfl rfl) ?_
 refine AO.w (zLV rfl rfl rfl (es:=[sv ze0 x5]) ⟨(.rowR rfl (.map fun y=>.vs rfl)),trivial⟩ (qEy _ _ (hx8)) (qAc _) rfl) (go ?_)
 refine AO.w (qRB rfl rfl rfl) ?_
 refine AO.x (mks T 4 ze0 ([x1,x3,x7,(max (w64 ((w64 (x1+x3))-x7)) 0)])) ?_
 refine gs2 ?_
 refine AW.le (Le.ct 0 0 (σ':=(⟨[(6,.R 4)],[(4,ro 1 ze0 [x1,x3,x7,(max (w64 ((w64 (x1+x3))-x7)) 0)])],35,[]⟩:St))) ?_
 refine AW.t ?_
 exact fin
def qBQ (fl:Nat) (c:Code) (p:Performance) (factor:Int):Option Int :=
 (qFb fl c p factor).bind fun x1 =>
 (qAV x1 3).bind fun x3 =>
 some x3
theorem qDk (fl:Nat) (c:Code) (p:Performance) (factor:Int) (r:Int) (hH:qBQ fl c p factor=some r):qAC prog 172 [.g (ze4 c),.g (qHY p),factor] (.v (.int .i64 r)):=by
 refine fns T func172 ?_
 refine go ?_
 refine AO.x (bxs T 1) ?_
 refine AO.x (bxs T 2) (go ?_)
 obtain⟨x1,hx2,x3,hx4,hH⟩:=qAI hH
 refine go ?_
 refine AO.x (qAU rfl 3 rfl rfl rfl (qK3 fl _ _ _ _ (hx2)) rfl rfl rfl) (go ?_)
 refine AO.w (zLr T rfl rfl rfl rfl (zgG (hx4)) rfl rfl rfl) (go ?_)
 exact fin
def qA7 (fl:Nat) (sA:ScriptState) (command:ByteArray) (l:List Int):Option (ScriptState×ByteArray) :=
 cond (decide (command=(⟨#[112,108,97,99,101,115]⟩:ByteArray)))
  ((qEM fl sA.results).bind fun x2 =>
  (qCY x2.1).bind fun x4 =>
  some (sA,x4))
  ((qBQ fl sA.code sA.performance sA.factor).bind fun x6 =>
  (qAz (qAh 32 sA.results.length)).bind fun u8 =>
  (qAV l 0).bind fun x10 =>
  (qAz (qAh 32 (sA.results.length+([(Result.mk x10 [x6])]).length))).bind fun u12 =>
  (qGB (sA.results++[(Result.mk x10 [x6])])).bind fun x14 =>
  cond (!x14)
   (some (sA,(⟨#[110,111]⟩:ByteArray)))
   ((qGS fl (sA.results++[(Result.mk x10 [x6])]) (w64 ((((sA.results++[(Result.mk x10 [x6])])).length:Int)-1))).bind fun x16 =>
   (qCA x16).bind fun x18 =>
   some ((ScriptState.mk sA.code sA.performance sA.factor (sA.results++[(Result.mk x10 [x6])])),x18)))
theorem qGu (fl:Nat) (sA:ScriptState) (command:ByteArray) (l:List Int) (r:(ScriptState×ByteArray)) (hH:qA7 fl sA command l=some r):qF3 prog 121 [.pn (qHp sA),.v (.string command),.s (List.map ze0 l)] [.pn (qHp r.1),.u,.u] (.v (.string r.2)):=by
 refine qFN T func121 rfl (by decide) rfl rfl [.p 1 0,.v (.string command),sv ze0 l] [(1,.box (qH4 sA 2)),(2,ro 2 qGA sA.results)] 3 (by kernel_rfl) [1] rfl rfl ?_
 intro L
 show AW _ _ _ (⟨[(0,.p 1 0),(1,.v (.string command)),(2,sv ze0 l)],[(1,.box (qH4 sA 2)),(2,ro 2 qGA sA.results)],63,[(1,L 1)]⟩:St)
 refine go ?_
 refine AW.cH hH (fun _ hH=>?_) (fun _ hH=>?_)
 refine AW.q ?_
 obtain⟨x2,hx3,hH⟩:=zB hH
 refine go ?_
 refine AO.x (qV2 rfl 3 rfl rfl (es:=[sv ze6 sA.results]) (by exact⟨(.rowR rfl (.map fun y=>qHw y)),trivial⟩) (qJz fl _ _ (hx3)) (qTi (zfl (.cons (qHz (fun y=>(.cons (qAc _) .nil))) (.cons (qAc _) .nil)))) rfl rfl rfl) (go ?_)
 obtain⟨x4,hx5,hH⟩:=zB hH
 refine go ?_
 refine AO.w (zLV rfl rfl rfl (es:=[sv ze0 x2.1]) ⟨(.rowR rfl (.map fun y=>.vs rfl)),trivial⟩ (qIm _ _ (hx5)) (qAc _) rfl) (go ?_)
 exact qEW
 refine go ?_
 obtain⟨x6,hx7,hH⟩:=zB hH
 refine AW.drawn 12 3 [] mix (by kernel_rfl) rfl ?_
 refine go ?_
 refine AO.w (cVs (qDk fl _ _ _ _ (hx7))) (go ?_)
 obtain⟨u8,hx9,x10,hx11,u12,hx13,hH⟩:=qBB hH
 refine AW.raw 2 90 rfl rfl (fun xv hxv=>?_)
 refine AW.drawn 13 91 [] mix (by kernel_rfl) rfl ?_
 refine AD.v (FStep.mk0 T rfl rfl rfl rfl rfl) ?_
 refine go ?_
 refine AD.q (FStep.app_wv T rfl rfl rfl rfl rfl rfl rfl (by decide) rfl rfl rfl (fun _=>rfl) (by rw[hxv];exact qAS (hx9)) rfl) (by simp[qAu]) (Nat.le_succ _) rfl ?_
 refine go ?_
 refine AD.q (FStep.mk T (f:=ze0) (l:=[x6]) rfl rfl rfl rfl rfl rfl rfl rfl rfl (fun _=>rfl) rfl rfl rfl rfl) (by simp[qAu]) (Nat.le_succ _) rfl ?_
 refine go ?_
 refine AD.ks 92 (FStep.mk_o T rfl rfl rfl rfl rfl rfl rfl rfl (f:=qGA) (l:=[(Result.mk x10 [x6])]) (ids:=[92]) rfl rfl (fun _=>rfl) (by exact zC .v (zC (.rowR rfl) zCn)) (by decide) rfl rfl rfl rfl) ?_
 refine AD.nil (AO.raw 93 96 (l:=[(Result.mk x10 [x6])]) (f:=qGA) rfl rfl (fun qv hqv=>?_))
 refine AO.x (rvs T 97 (hfit:=by rw[hxv,hqv];exact qAS (hx13))) ?_
 refine gs2 ?_
 refine AW.le (Le.ct 0 0 (σ':=(⟨[(0,.p 1 0),(10,.R 97)],[(1,.box (qH4 sA 2)),(2,ro 2 qMu xv),(90,.limb (List.map qGA sA.results).flatten (qIN xv)),(96,.limb (List.map qGA [(Result.mk x10 [x6])]).flatten (qIN qv)),(97,ro 2 qMu (xv++qv))],63,[(1,L 1)]⟩:St)) (hpin:=⟨⟨rfl,rfl⟩,trivial⟩)) ?_
 refine go ?_
 obtain⟨x14,hx15,hH⟩:=zB hH
 refine go ?_
 refine AO.x (qSo (id2:=90) (id3:=96) (g:=ze6) (l:=sA.results++[(Result.mk x10 [x6])]) rfl rfl rfl rfl rfl rfl (qQ4 xv qv) (by simp[hxv,hqv]) (by simpa only[List.map_append,List.flatten_append]using FrzLL.flat (.map (l:=sA.results++[(Result.mk x10 [x6])]) fun y=>qHw y)) (fun _=>rfl) (qJE _ _ (hx15)) rfl) (go ?_)
 refine AW.cH hH (fun _ hH=>?_) (fun _ hH=>?_)
 refine gs4 ?_
 refine AW.le (Le.unraw 2 90 rfl rfl hxv (fun _=>rfl) rfl) ?_
 refine AW.t ?_
 exact qEW
 refine AW.k (AW.le (Le.unraws 97 90 96 rfl rfl rfl hxv hqv (fun _=>rfl) rfl rfl rfl) ?_)
 refine go ?_
 refine AO.se T [sv ze5 sA.code.elements,sv ze0 sA.code.limits,sA.code.repeats,sA.code.bonus,sA.code.keeps,sA.code.fall,sv ze1 sA.performance.items,sv ze3 sA.performance.marks.grades,sv ze3 sA.performance.marks.components,sA.performance.slips.falls,sA.performance.slips.seconds,sA.performance.slips.other,sA.factor,.R 97] ?_
 refine go ?_
 obtain⟨x16,hx17,x18,hx19,hH⟩:=qAI hH
 refine go ?_
 refine AO.w (zLV rfl rfl rfl (es:=[sv ze6 (sA.results++[(Result.mk x10 [x6])]),w64 ((((sA.results++[(Result.mk x10 [x6])])).length:Int)-1)]) ⟨(.rowR rfl (.map fun y=>qHw y)),.free rfl,trivial⟩ (qK9 fl _ _ _ (hx17)) (qAc _) rfl) ?_
 refine AO.w (cVs (qG8 _ _ (hx19))) (go ?_)
 exact qEW
def qAo (f:Item→Option Bool):List Item→Nat→Option Int
 | [],k1 =>
  some (-1)
 |y2::ys3,k1 =>
  (f y2).bind fun x12 =>
  cond x12
   (some (k1:Int))
   (qAo f ys3 (k1+1))
def qG6 (sA:List Item) (f:Item→Option Bool):Option Int :=
 qAo f sA 0
theorem qJg (sA:List Item) (f_f:Nat) (f_c:List D) (f_k:f_c.all D.capOk=true) (f:Item→Option Bool) (f_h:∀(a0:Item) (q:Bool),f a0=some q→qAC prog f_f ([.g (ze1 a0)]++f_c) (.v (.bool q))) (r:Int) (hH:qG6 sA f=some r):qAC prog 327 [.s (List.map ze1 sA),.f f_f f_c] (.v (.int .i64 r)):=by
 have f_r:=qKw f_k
 refine fns T func327 ?_
 refine go ?_
 refine AW.loopS (fun s:Nat=>(⟨[(0,sv ze1 sA),(1,.f f_f f_c),(7,(sA.length:Int)),(8,(s:Int))],[],19,[]⟩:St)) (fun s=>s≤sA.length∧qAo f (sA.drop s) s=some r) (fun s=>sA.length-s) 0 ⟨Nat.zero_le _,hH⟩ ?_ ?_
 exact Le.cut 0 0 rfl ⟨⟨_,rfl,rfl⟩,⟨_,rfl,qP5 f_r⟩,⟨_,rfl,rfl⟩,⟨_,rfl,rfl⟩,trivial⟩ (by repeat' (first|exact trivial|refine⟨⟨_,rfl,rfl⟩,?_⟩)) (qJR (qMw rfl (qMw (qLH f_r) (qMw rfl (qMw rfl qWN)))) rfl)
 rintro k1 ⟨hk,hH⟩
 try dsimp only at hH⊢
 refine AW.boundM (t:=0) (l:=sA) rfl (fun hb5=>?_)
 rcases hd4:sA.drop k1 with _|⟨y2,ys3⟩
 rw[hd4,qAo]at hH
 have hlt6:=qAF hd4
 refine go ?_
 exact fin
 rw[hd4,qAo]at hH
 have hlt6:=qAG hd4
 refine go ?_
 obtain⟨x12,hx13,hH⟩:=zB hH
 refine go ?_
 refine AO.w (zV rfl rfl rfl (qJR rfl (qNT f_r)) (f_h _ _ (hx13)) rfl) ?_
 refine AO.n (AW.cH hH (fun _ hH=>?_) (fun _ hH=>?_))
 refine go ?_
 exact fin
 refine go ?_
 refine⟨k1+1,⟨hlt6,(zds hd4▸hH)⟩,qCC hlt6,?_⟩
 exact Le.cut 0 0 rfl ⟨⟨_,rfl,rfl⟩,⟨_,rfl,qP5 f_r⟩,⟨_,rfl,rfl⟩,⟨_,rfl,rfl⟩,trivial⟩ (by repeat' (first|exact trivial|refine⟨⟨_,rfl,rfl⟩,?_⟩)) (qJR (qMw rfl (qMw (qLH f_r) (qMw rfl (qMw rfl qWN)))) rfl)
def qGF (sA:List Item) (f:Item→Option Bool):Option Bool :=
 (qG6 sA f).bind fun x1 =>
 some (decide (x1≥0))
theorem qIn (sA:List Item) (f_f:Nat) (f_c:List D) (f_k:f_c.all D.capOk=true) (f:Item→Option Bool) (f_h:∀(a0:Item) (q:Bool),f a0=some q→qAC prog f_f ([.g (ze1 a0)]++f_c) (.v (.bool q))) (r:Bool) (hH:qGF sA f=some r):qAC prog 279 [.s (List.map ze1 sA),.f f_f f_c] (.v (.bool r)):=by
 have f_r:=qKw f_k
 refine fns T func279 ?_
 refine go ?_
 obtain⟨x1,hx2,hH⟩:=zB hH
 refine go ?_
 refine AO.w (zV rfl rfl rfl (qJR (qMw rfl (qMw f_r qWN)) rfl) (qJg _ f_f f_c f_k f f_h _ (hx2)) rfl) (go ?_)
 exact fin
def qCJ (it:Item):Option Bool :=
 (qCE it.marks 0 0).bind fun x1 =>
 some (!x1)
theorem qLV (it:Item) (r:Bool) (hH:qCJ it=some r):qAC prog 280 [.g (ze1 it)] (.v (.bool r)):=by
 refine fns T func280 ?_
 refine go ?_
 refine AO.x (bxs T 1) (go ?_)
 obtain⟨x1,hx2,hH⟩:=zB hH
 refine go ?_
 refine AO.w (cVs (qGD _ _ _ _ (hx2))) (go ?_)
 exact fin
def qC9 (it:Item):Option Bool :=
 some (decide ((it.names.length:Int)>1))
theorem qHO (it:Item) (r:Bool) (hH:qC9 it=some r):qAC prog 328 [.g (ze1 it)] (.v (.bool r)):=by
 refine fns T func328 ?_
 refine go ?_
 refine AO.x (bxs T 1) (go ?_)
 exact fin
def qBK (c:Code) (y2:Item):List ByteArray→Nat→Option (Except Bool Unit)
 | [],k134 =>
  some (.ok ())
 |y135::ys136,k134 =>
  (qCZ c y135).bind fun x153 =>
  (qC9 y2).bind fun x155 =>
  (opt (x155&&(!(decide (x153<0)))) default (qAV c.elements x153)).bind fun x157 =>
  cond (x155&&(decide (x153<0)||(x157.family != 0)))
   (some (.error false))
   (qBK c y2 ys136 (k134+1))
def qA9 (c:Code):List Item→Nat→Option Bool
 | [],k1 =>
  some true
 |y2::ys3,k1 =>
  (qBK c y2 y2.names 0).bind fun o132=>qLN o132 fun _ =>
  qA9 c ys3 (k1+1)
def qIL (c:Code) (l:List Item):Option Bool :=
 qA9 c l 0
theorem qKn (c:Code) (l:List Item) (r:Bool) (hH:qIL c l=some r):qAC prog 281 [.g (ze4 c),.s (List.map ze1 l)] (.v (.bool r)):=by
 refine fns T func281 ?_
 refine gs2 ?_
 refine AO.x (bxs T 1) ?_
 iterate 10 refine gs ?_
 refine AW.loopS (fun s:Nat=>(⟨[(2,.p 1 0),(10,sv ze1 l),(11,(l.length:Int)),(12,(s:Int))],[(1,.box (ze4 c))],43,[]⟩:St)) (fun s=>s≤l.length∧qA9 c (l.drop s) s=some r) (fun s=>l.length-s) 0 ⟨Nat.zero_le _,hH⟩ ?_ ?_
 exact Le.ct 0 0
 rintro k1 ⟨hk,hH⟩
 try dsimp only at hH⊢
 refine AW.boundM (t:=10) (l:=l) rfl (fun hb5=>?_)
 rcases hd4:l.drop k1 with _|⟨y2,ys3⟩
 rw[hd4,qA9]at hH
 have hlt6:=qAF hd4
 iterate 12 refine gs ?_
 exact fin
 rw[hd4,qA9]at hH
 have hlt6:=qAG hd4
 refine gs7 ?_
 obtain⟨o132,hH,hK133⟩:=zB hH
 refine AW.seqJ (fun s:Unit=>(⟨[(2,.p 1 0),(10,sv ze1 l),(11,(l.length:Int)),(12,(k1:Int))],[(1,.box (ze4 c))],43,[]⟩:St)) (fun s=>.ok s=o132) ?_ ?_
 refine gs5 ?_
 refine AO.x (als T 7) ?_
 refine AO.se T [sv ze2 y2.names,sv ze0 y2.marks,.v (.bool y2.late)] ?_
 refine gs9 ?_
 refine AW.loopS (fun s:Nat=>(⟨[(2,.p 1 0),(6,.p 7 0),(10,sv ze1 l),(11,(l.length:Int)),(12,(k1:Int)),(17,sv ze2 y2.names),(18,(y2.names.length:Int)),(19,(s:Int))],[(1,.box (ze4 c)),(7,.box [sv ze2 y2.names,sv ze0 y2.marks,.v (.bool y2.late)])],43,[]⟩:St)) (fun s=>s≤y2.names.length∧qBK c y2 (y2.names.drop s) s=some o132) (fun s=>y2.names.length-s) 0 ⟨Nat.zero_le _,hH⟩ ?_ ?_
 exact Le.ct 0 0
 rintro k134 ⟨hk,hH⟩
 try dsimp only at hH⊢
 refine AW.boundM (t:=17) (l:=y2.names) rfl (fun hb138=>?_)
 rcases hd137:y2.names.drop k134 with _|⟨y135,ys136⟩
 rw[hd137,qBK]at hH
 have hlt139:=qAF hd137
 refine gs7 ?_
 refine⟨_,zS hH,?_⟩
 exact Le.ct 0 0
 rw[hd137,qBK]at hH
 have hlt139:=qAG hd137
 iterate 16 refine gs ?_
 obtain⟨x153,hx154,hH⟩:=zB hH
 refine gs3 ?_
 refine AO.w (cVs (qFJ _ _ _ (hx154))) ?_
 refine gs3 ?_
 obtain⟨x155,hx156,x157,hx158,hH⟩:=qAI hH
 refine gs2 ?_
 refine AO.w (cVs (qHO _ _ (hx156))) ?_
 refine AO.pu T ?_
 refine AO.g0 T ?_
 refine AO.g1 T 29 ?_
 refine AO.g1 T 30 ?_
 refine AO.g0 T ?_
 refine AO.g1 T 32 ?_
 refine AO.g0 T ?_
 refine AO.d2 33 34 (fun hg=>ixs T (qEv hx158 hg)) ?_
 refine AO.g1 T 35 ?_
 refine AO.g1 T 36 ?_
 refine AO.g1 T 37 ?_
 refine AO.d [31] rfl ⟨fun h=>h,trivial⟩ (fun hg=>zO rfl rfl rfl (by rw[hg];exact Bool.true_and _)) rfl ?_
 refine gs2 ?_
 refine AW.cH hH (fun _ hH=>?_) (fun _ hH=>?_)
 refine gs4 ?_
 refine AW.le (Le.ct 0 0 (σ':=(⟨[(4,.v (.bool false))],[],43,[]⟩:St))) ?_
 refine AW.t ?_
 obtain rfl:=zS hH
 replace hH:=hK133
 exact fin
 refine gs5 ?_
 refine⟨k134+1,⟨hlt139,(zds hd137▸hH)⟩,qCC hlt139,?_⟩
 exact Le.ct 0 0
 rintro _ hs
 subst hs
 replace hH:=hK133
 try dsimp only[qLN,qJm]at hH
 try dsimp only
 refine gs4 ?_
 refine⟨k1+1,⟨hlt6,(zds hd4▸hH)⟩,qCC hlt6,?_⟩
 exact Le.ct 0 0
def qAp:List Item→Nat→Int→Int→Option Bool
 | [],k1,v13,v14 =>
  some (decide (v13≤3)&&decide (v14≤1))
 |y2::ys3,k1,v13,v14 =>
  (qC9 y2).bind fun x16 =>
  cond x16
   (cond ((y2.names.length:Int)==3)
    (qAp ys3 (k1+1) (w64 (v13+1)) (w64 (v14+1)))
    (qAp ys3 (k1+1) (w64 (v13+1)) v14))
   (cond ((y2.names.length:Int)==3)
    (qAp ys3 (k1+1) v13 (w64 (v14+1)))
    (qAp ys3 (k1+1) v13 v14))
def qI8 (l:List Item):Option Bool :=
 qAp l 0 0 0
theorem qMG (l:List Item) (r:Bool) (hH:qI8 l=some r):qAC prog 282 [.s (List.map ze1 l)] (.v (.bool r)):=by
 refine fns T func282 ?_
 refine go ?_
 refine AW.loopS (fun s:Nat×Int×Int=>(⟨[(3,s.2.1),(4,s.2.2),(7,sv ze1 l),(8,(l.length:Int)),(9,(s.1:Int))],[],30,[]⟩:St)) (fun s=>s.1≤l.length∧qAp (l.drop s.1) s.1 s.2.1 s.2.2=some r) (fun s=>l.length-s.1) (0,0,0) ⟨Nat.zero_le _,hH⟩ ?_ ?_
 exact Le.ct 0 0
 rintro⟨k1,v13,v14⟩ ⟨hk,hH⟩
 try dsimp only at hH⊢
 refine AW.boundM (t:=7) (l:=l) rfl (fun hb5=>?_)
 rcases hd4:l.drop k1 with _|⟨y2,ys3⟩
 rw[hd4,qAp]at hH
 have hlt6:=qAF hd4
 refine go ?_
 refine AO.g0 T ?_
 refine AO.g1 T 27 ?_
 refine go ?_
 exact fin
 rw[hd4,qAp]at hH
 have hlt6:=qAG hd4
 refine go ?_
 refine AO.x (als T 3) ?_
 refine AO.se T [sv ze2 y2.names,sv ze0 y2.marks,.v (.bool y2.late)] ?_
 refine go ?_
 obtain⟨x16,hx17,hH⟩:=zB hH
 refine go ?_
 refine AO.w (cVs (qHO _ _ (hx17))) ?_
 refine AO.n (AW.cH hH (fun hc hH=>?_) (fun hc hH=>?_))
 refine go ?_
 refine AW.cH hH (fun _ hH=>?_) (fun hc hH=>?_)
 refine go ?_
 refine⟨(k1+1,w64 (v13+1),w64 (v14+1)),⟨hlt6,(zds hd4▸hH)⟩,qCC hlt6,?_⟩
 exact Le.ct 0 0
 refine go ?_
 refine⟨(k1+1,w64 (v13+1),v14),⟨hlt6,(zds hd4▸hH)⟩,qCC hlt6,?_⟩
 exact Le.ct 0 0
 refine go ?_
 refine AW.cH hH (fun _ hH=>?_) (fun _ hH=>?_)
 refine go ?_
 refine⟨(k1+1,v13,w64 (v14+1)),⟨hlt6,(zds hd4▸hH)⟩,qCC hlt6,?_⟩
 exact Le.ct 0 0
 refine go ?_
 refine⟨(k1+1,v13,v14),⟨hlt6,(zds hd4▸hH)⟩,qCC hlt6,?_⟩
 exact Le.ct 0 0
def qHR (c:Code) (it:Item):Option Int :=
 (qAV it.names 0).bind fun x1 =>
 (qCZ c x1).bind fun x3 =>
 cond (decide (x3<0))
  (some (-1))
  ((qAV c.elements x3).bind fun x5 =>
  some x5.family)
theorem qNn (c:Code) (it:Item) (r:Int) (hH:qHR c it=some r):qAC prog 350 [.g (ze4 c),.g (ze1 it)] (.v (.int .i64 r)):=by
 refine fns T func350 ?_
 refine go ?_
 refine AO.x (bxs T 1) ?_
 refine AO.x (bxs T 2) (go ?_)
 obtain⟨x1,hx2,x3,hx4,hH⟩:=qAI hH
 refine AW.drawn 5 3 [] mix (by kernel_rfl) rfl ?_
 refine go ?_
 refine AO.w (cVs (qFJ _ _ _ (hx4))) (go ?_)
 refine AW.cH hH (fun _ hH=>?_) (fun _ hH=>?_)
 refine go ?_
 exact fin
 refine go ?_
 obtain⟨x5,hx6,hH⟩:=zB hH
 refine go ?_
 exact fin
def qA2 (c:Code):List Item→Nat→List Int→Option ((List Int))
 | [],k3,v18 =>
  some v18
 |y4::ys5,k3,v18 =>
  (qHR c y4).bind fun x20 =>
  cond (decide (x20≥0))
   ((qAV v18 x20).bind fun x22 =>
   qA2 c ys5 (k3+1) (v18.set x20.toNat (w64 (x22+1))))
   (qA2 c ys5 (k3+1) v18)
def qIr (c:Code) (l:List Item):Option (List Int) :=
 (qAz (decide (0≤5)&&qAh 8 (5:Int).toNat)).bind fun u1 =>
 qA2 c l 0 (List.replicate (5:Int).toNat (0:Int))
theorem qLc (c:Code) (l:List Item) (r:(List Int)) (hH:qIr c l=some r):qAC prog 329 [.g (ze4 c),.s (List.map ze1 l)] (.w 1 (r.map ze0)):=by
 refine fns T func329 ?_
 refine gs2 ?_
 refine AO.x (bxs T 1) ?_
 refine gs3 ?_
 obtain⟨u1,hx2,hH⟩:=zB hH
 refine AW.r (AO.x (qL4 T rfl 2 rfl rfl rfl rfl rfl (f:=ze0) (zo:=0) (by repeat constructor) (by decide) rfl rfl (Bool.and_eq_true_iff.1 (qAS (hx2))).1 (Bool.and_eq_true_iff.1 (qAS (hx2))).2 rfl rfl) ?_)
 iterate 10 refine gs ?_
 refine AW.loopS (fun s:Nat×(List Int)=>(⟨[(2,.p 1 0),(5,.R 2),(10,sv ze1 l),(11,(l.length:Int)),(12,(s.1:Int))],[(1,.box (ze4 c)),(2,ro 1 ze0 s.2)],29,[]⟩:St)) (fun s=>s.1≤l.length∧qA2 c (l.drop s.1) s.1 s.2=some r) (fun s=>l.length-s.1) (0,(List.replicate (5:Int).toNat (0:Int))) ⟨Nat.zero_le _,hH⟩ ?_ ?_
 exact Le.ct 0 0
 rintro⟨k3,v18⟩ ⟨hk,hH⟩
 try dsimp only at hH⊢
 refine AW.boundM (t:=10) (l:=l) rfl (fun hb7=>?_)
 rcases hd6:l.drop k3 with _|⟨y4,ys5⟩
 rw[hd6,qA2]at hH
 have hlt8:=qAF hd6
 iterate 13 refine gs ?_
 exact fin
 rw[hd6,qA2]at hH
 have hlt8:=qAG hd6
 iterate 13 refine gs ?_
 refine AO.x (als T 5) ?_
 refine AO.se T [sv ze2 y4.names,sv ze0 y4.marks,.v (.bool y4.late)] ?_
 refine gs2 ?_
 obtain⟨x20,hx21,hH⟩:=zB hH
 refine gs3 ?_
 refine AO.w (cVs (qNn _ _ _ (hx21))) ?_
 refine gs7 ?_
 refine AW.cH hH (fun _ hH=>?_) (fun _ hH=>?_)
 obtain⟨x22,hx23,hH⟩:=zB hH
 refine gs4 ?_
 refine AO.w (zLr T rfl rfl rfl rfl (zgG (hx23)) rfl rfl rfl) ?_
 refine gs2 ?_
 refine AO.x (zSr T rfl rfl rfl rfl rfl (zgG (hx23)) rfl rfl rfl rfl (u':=w64 (x22+1)) rfl rfl) ?_
 refine gs5 ?_
 refine⟨(k3+1,(v18.set x20.toNat (w64 (x22+1)))),⟨hlt8,(zds hd6▸hH)⟩,qCC hlt8,?_⟩
 exact Le.ct 0 0
 refine gs5 ?_
 refine⟨(k3+1,v18),⟨hlt8,(zds hd6▸hH)⟩,qCC hlt8,?_⟩
 exact Le.ct 0 0
def qBY (c:Code):List Int→Nat→Option Bool
 | [],k3 =>
  some true
 |y4::ys5,k3 =>
  (qAV c.limits (k3:Int)).bind fun x14 =>
  cond (decide (y4>x14))
   (some false)
   (qBY c ys5 (k3+1))
def qJi (c:Code) (l:List Item):Option Bool :=
 (qIr c l).bind fun x1 =>
 qBY c x1 0
theorem qMi (c:Code) (l:List Item) (r:Bool) (hH:qJi c l=some r):qAC prog 283 [.g (ze4 c),.s (List.map ze1 l)] (.v (.bool r)):=by
 refine fns T func283 ?_
 refine go ?_
 refine AO.x (bxs T 1) (go ?_)
 obtain⟨x1,hx2,hH⟩:=zB hH
 refine go ?_
 refine AO.x (qAU rfl 2 rfl rfl rfl (qLc _ _ _ (hx2)) rfl rfl rfl) (go ?_)
 refine AW.loopS (fun s:Nat=>(⟨[(2,.p 1 0),(9,.R 2),(10,(x1.length:Int)),(11,(s:Int))],[(1,.box (ze4 c)),(2,ro 1 ze0 x1)],24,[]⟩:St)) (fun s=>s≤x1.length∧qBY c (x1.drop s) s=some r) (fun s=>x1.length-s) 0 ⟨Nat.zero_le _,hH⟩ ?_ ?_
 exact Le.ct 0 0
 rintro k3 ⟨hk,hH⟩
 try dsimp only at hH⊢
 refine AW.boundR (id:=2) (l:=x1) rfl (fun hb7=>?_)
 rcases hd6:x1.drop k3 with _|⟨y4,ys5⟩
 rw[hd6,qBY]at hH
 have hlt8:=qAF hd6
 refine go ?_
 exact fin
 rw[hd6,qBY]at hH
 have hlt8:=qAG hd6
 refine go ?_
 refine AO.w (zLr T rfl rfl rfl rfl (zgG (zgD hd6)) rfl rfl rfl) (go ?_)
 obtain⟨x14,hx15,hH⟩:=zB hH
 refine go ?_
 refine AW.cH hH (fun _ hH=>?_) (fun _ hH=>?_)
 refine go ?_
 exact fin
 refine go ?_
 refine⟨k3+1,⟨hlt8,(zds hd6▸hH)⟩,qCC hlt8,?_⟩
 exact Le.ct 0 0
def qB7 (name:ByteArray) (y2:Item):List ByteArray→Nat→Int→Int→Option (Int×Int)
 | [],k104,v116,v117 =>
  some (v116,v117)
 |y105::ys106,k104,v116,v117 =>
  cond (!decide (y105=name))
   (qB7 name y2 ys106 (k104+1) v116 v117)
   ((qC9 y2).bind fun x119 =>
   cond x119
    (qB7 name y2 ys106 (k104+1) (w64 (v116+1)) (w64 (v117+1)))
    (qB7 name y2 ys106 (k104+1) (w64 (v116+1)) v117))
def qDO (name:ByteArray):List Item→Nat→Int→Int→Option ((Int×Int))
 | [],k1,v81,v82 =>
  some (v81,v82)
 |y2::ys3,k1,v81,v82 =>
  (qB7 name y2 y2.names 0 v81 v82).bind fun (v100,v101) =>
  qDO name ys3 (k1+1) v100 v101
def qJO (l:List Item) (name:ByteArray):Option (Int×Int) :=
 qDO name l 0 0 0
theorem qO7 (l:List Item) (name:ByteArray) (r:(Int×Int)) (hH:qJO l name=some r):qAC prog 330 [.s (List.map ze1 l),.v (.string name)] (.t [.v (.int .i64 r.1),.v (.int .i64 r.2)]):=by
 refine fns T func330 ?_
 iterate 18 refine gs ?_
 refine AW.loopS (fun s:Nat×Int×Int=>(⟨[(1,.v (.string name)),(6,s.2.1),(7,s.2.2),(12,sv ze1 l),(13,(l.length:Int)),(14,(s.1:Int))],[],38,[]⟩:St)) (fun s=>s.1≤l.length∧qDO name (l.drop s.1) s.1 s.2.1 s.2.2=some r) (fun s=>l.length-s.1) (0,0,0) ⟨Nat.zero_le _,hH⟩ ?_ ?_
 exact Le.ct 0 0
 rintro⟨k1,v81,v82⟩ ⟨hk,hH⟩
 try dsimp only at hH⊢
 refine AW.boundM (t:=12) (l:=l) rfl (fun hb5=>?_)
 rcases hd4:l.drop k1 with _|⟨y2,ys3⟩
 rw[hd4,qDO]at hH
 have hlt6:=qAF hd4
 iterate 15 refine gs ?_
 exact fin
 rw[hd4,qDO]at hH
 have hlt6:=qAG hd4
 refine gs7 ?_
 obtain⟨o102,hH,hK103⟩:=zB hH
 refine AW.seqJ (fun s:Int×Int=>(⟨[(1,.v (.string name)),(6,s.1),(7,s.2),(12,sv ze1 l),(13,(l.length:Int)),(14,(k1:Int))],[],38,[]⟩:St)) (fun s=>s=o102) ?_ ?_
 refine gs5 ?_
 refine AO.x (als T 6) ?_
 refine AO.se T [sv ze2 y2.names,sv ze0 y2.marks,.v (.bool y2.late)] ?_
 refine gs9 ?_
 refine AW.loopS (fun s:Nat×Int×Int=>(⟨[(1,.v (.string name)),(6,s.2.1),(7,s.2.2),(9,.p 6 0),(12,sv ze1 l),(13,(l.length:Int)),(14,(k1:Int)),(19,sv ze2 y2.names),(20,(y2.names.length:Int)),(21,(s.1:Int))],[(6,.box [sv ze2 y2.names,sv ze0 y2.marks,.v (.bool y2.late)])],38,[]⟩:St)) (fun s=>s.1≤y2.names.length∧qB7 name y2 (y2.names.drop s.1) s.1 s.2.1 s.2.2=some o102) (fun s=>y2.names.length-s.1) (0,v81,v82) ⟨Nat.zero_le _,hH⟩ ?_ ?_
 exact Le.ct 0 0
 rintro⟨k104,v116,v117⟩ ⟨hk,hH⟩
 try dsimp only at hH⊢
 refine AW.boundM (t:=19) (l:=y2.names) rfl (fun hb108=>?_)
 rcases hd107:y2.names.drop k104 with _|⟨y105,ys106⟩
 rw[hd107,qB7]at hH
 have hlt109:=qAF hd107
 refine gs7 ?_
 refine⟨_,zS hH,?_⟩
 exact Le.ct 0 0
 rw[hd107,qB7]at hH
 have hlt109:=qAG hd107
 iterate 22 refine gs ?_
 refine AW.cH hH (fun _ hH=>?_) (fun hc hH=>?_)
 refine gs5 ?_
 refine⟨(k104+1,v116,v117),⟨hlt109,(zds hd107▸hH)⟩,qCC hlt109,?_⟩
 exact Le.ct 0 0
 refine gs8 ?_
 obtain⟨x119,hx120,hH⟩:=zB hH
 refine gs2 ?_
 refine AO.w (cVs (qHO _ _ (hx120))) ?_
 refine AO.n (AW.cH hH (fun _ hH=>?_) (fun _ hH=>?_))
 refine gs9 ?_
 refine⟨(k104+1,w64 (v116+1),w64 (v117+1)),⟨hlt109,(zds hd107▸hH)⟩,qCC hlt109,?_⟩
 exact Le.ct 0 0
 refine gs5 ?_
 refine⟨(k104+1,w64 (v116+1),v117),⟨hlt109,(zds hd107▸hH)⟩,qCC hlt109,?_⟩
 exact Le.ct 0 0
 rintro⟨v100,v101⟩ hs
 subst hs
 replace hH:=hK103
 try dsimp only[qLN,qJm]at hH
 try dsimp only
 refine gs4 ?_
 refine⟨(k1+1,v100,v101),⟨hlt6,(zds hd4▸hH)⟩,qCC hlt6,?_⟩
 exact Le.ct 0 0
def qBd (c:Code) (l:List Item):List ByteArray→Nat→Option (Except Bool Unit)
 | [],k74 =>
  some (.ok ())
 |y75::ys76,k74 =>
  (qJO l y75).bind fun x85 =>
  cond (decide (x85.1>c.repeats)||(decide (x85.1>1)&&(x85.2==0)))
   (some (.error false))
   (qBd c l ys76 (k74+1))
def qBO (c:Code) (l:List Item):List Item→Nat→Option Bool
 | [],k1 =>
  some true
 |y2::ys3,k1 =>
  (qBd c l y2.names 0).bind fun o72=>qLN o72 fun _ =>
  qBO c l ys3 (k1+1)
def qJA (c:Code) (l:List Item):Option Bool :=
 qBO c l l 0
theorem qMN (c:Code) (l:List Item) (r:Bool) (hH:qJA c l=some r):qAC prog 284 [.g (ze4 c),.s (List.map ze1 l)] (.v (.bool r)):=by
 refine fns T func284 ?_
 refine gs2 ?_
 refine AO.x (bxs T 1) ?_
 iterate 10 refine gs ?_
 refine AW.loopS (fun s:Nat=>(⟨[(1,sv ze1 l),(2,.p 1 0),(11,sv ze1 l),(12,(l.length:Int)),(13,(s:Int))],[(1,.box (ze4 c))],44,[]⟩:St)) (fun s=>s≤l.length∧qBO c l (l.drop s) s=some r) (fun s=>l.length-s) 0 ⟨Nat.zero_le _,hH⟩ ?_ ?_
 exact Le.ct 0 0
 rintro k1 ⟨hk,hH⟩
 try dsimp only at hH⊢
 refine AW.boundM (t:=1) (l:=l) rfl (fun hb5=>?_)
 rcases hd4:l.drop k1 with _|⟨y2,ys3⟩
 rw[hd4,qBO]at hH
 have hlt6:=qAF hd4
 iterate 12 refine gs ?_
 exact fin
 rw[hd4,qBO]at hH
 have hlt6:=qAG hd4
 refine gs7 ?_
 obtain⟨o72,hH,hK73⟩:=zB hH
 refine AW.seqJ (fun s:Unit=>(⟨[(1,sv ze1 l),(2,.p 1 0),(11,sv ze1 l),(12,(l.length:Int)),(13,(k1:Int))],[(1,.box (ze4 c))],44,[]⟩:St)) (fun s=>.ok s=o72) ?_ ?_
 refine gs5 ?_
 refine AO.x (als T 7) ?_
 refine AO.se T [sv ze2 y2.names,sv ze0 y2.marks,.v (.bool y2.late)] ?_
 refine gs9 ?_
 refine AW.loopS (fun s:Nat=>(⟨[(1,sv ze1 l),(2,.p 1 0),(11,sv ze1 l),(12,(l.length:Int)),(13,(k1:Int)),(18,sv ze2 y2.names),(19,(y2.names.length:Int)),(20,(s:Int))],[(1,.box (ze4 c))],44,[]⟩:St)) (fun s=>s≤y2.names.length∧qBd c l (y2.names.drop s) s=some o72) (fun s=>y2.names.length-s) 0 ⟨Nat.zero_le _,hH⟩ ?_ ?_
 exact Le.ct 0 0
 rintro k74 ⟨hk,hH⟩
 try dsimp only at hH⊢
 refine AW.boundM (t:=18) (l:=y2.names) rfl (fun hb78=>?_)
 rcases hd77:y2.names.drop k74 with _|⟨y75,ys76⟩
 rw[hd77,qBd]at hH
 have hlt79:=qAF hd77
 refine gs7 ?_
 refine⟨_,zS hH,?_⟩
 exact Le.ct 0 0
 rw[hd77,qBd]at hH
 have hlt79:=qAG hd77
 iterate 16 refine gs ?_
 obtain⟨x85,hx86,hH⟩:=zB hH
 refine gs3 ?_
 refine AO.w (cVs (qO7 _ _ _ (hx86))) ?_
 iterate 13 refine gs ?_
 refine AO.g0 T ?_
 refine AO.g1 T 35 ?_
 refine AO.g1 T 36 ?_
 refine AO.g0 T ?_
 refine AO.g1 T 38 ?_
 refine AO.d [37] rfl ⟨fun h=>h,trivial⟩ (fun hg=>zN rfl rfl rfl (by rw[hg];exact Bool.true_and _)) rfl ?_
 refine gs2 ?_
 refine AW.le (Le.ct 0 0 (σ':=(⟨[(1,sv ze1 l),(2,.p 1 0),(11,sv ze1 l),(12,(l.length:Int)),(13,(k1:Int)),(18,sv ze2 y2.names),(19,(y2.names.length:Int)),(20,(k74:Int)),(41,.v (.bool (decide (x85.1>c.repeats)||(decide (x85.1>1)&&(x85.2==0)))))],[(1,.box (ze4 c))],44,[]⟩:St))) ?_
 refine AW.cH hH (fun _ hH=>?_) (fun _ hH=>?_)
 refine gs5 ?_
 obtain rfl:=zS hH
 replace hH:=hK73
 exact fin
 refine gs5 ?_
 refine⟨k74+1,⟨hlt79,(zds hd77▸hH)⟩,qCC hlt79,?_⟩
 exact Le.ct 0 0
 rintro _ hs
 subst hs
 replace hH:=hK73
 try dsimp only[qLN,qJm]at hH
 try dsimp only
 refine gs4 ?_
 refine⟨k1+1,⟨hlt6,(zds hd4▸hH)⟩,qCC hlt6,?_⟩
 exact Le.ct 0 0
def qCM (l:List Item):List Item→Nat→Option Bool
 | [],k13 =>
  some true
 |y14::ys15,k13 =>
  (qFt (k13:Int) (l.length:Int)).bind fun x24 =>
  cond (!(y14.late==x24))
   (some false)
   (qCM l ys15 (k13+1))
def qIH (c:Code) (l:List Item) (rule:Int):Option Bool :=
 cond (rule==1)
  (some (decide ((l.length:Int)>0)))
  (cond (rule==2)
   ((qDp c l).bind fun x1 =>
   some x1)
   (cond (rule==3)
    ((qGF l (fun a0=>qCJ a0 )).bind fun x3 =>
    some (!x3))
    (cond (rule==4)
     ((qIL c l).bind fun x5 =>
     some x5)
     (cond (rule==5)
      ((qI8 l).bind fun x7 =>
      some x7)
      (cond (rule==6)
       ((qJi c l).bind fun x9 =>
       some x9)
       (cond (rule==7)
        ((qJA c l).bind fun x11 =>
        some x11)
        (qCM l l 0)))))))
theorem qM9 (c:Code) (l:List Item) (rule:Int) (r:Bool) (hH:qIH c l rule=some r):qAC prog 231 [.g (ze4 c),.s (List.map ze1 l),rule] (.v (.bool r)):=by
 refine fns T func231 ?_
 refine gs2 ?_
 refine AO.x (bxs T 1) ?_
 iterate 13 refine gs ?_
 refine AW.cH hH (fun _ hH=>?_) (fun hc hH=>?_)
 refine gs8 ?_
 exact fin
 refine gs5 ?_
 refine AW.cH hH (fun _ hH=>?_) (fun hc hH=>?_)
 refine AW.q ?_
 obtain⟨x1,hx2,hH⟩:=zB hH
 refine gs3 ?_
 refine AO.w (cVs (qKs _ _ _ (hx2))) ?_
 refine gs3 ?_
 exact fin
 refine gs5 ?_
 refine AW.cH hH (fun _ hH=>?_) (fun hc hH=>?_)
 refine AW.q ?_
 obtain⟨x3,hx4,hH⟩:=zB hH
 refine gs2 ?_
 refine AO.w (cVs (qIn _ 280 [] rfl (fun a0=>qCJ a0 ) (fun a0 q h=>qLV a0  q h) _ (hx4))) ?_
 refine gs4 ?_
 exact fin
 refine gs5 ?_
 refine AW.cH hH (fun _ hH=>?_) (fun hc hH=>?_)
 refine AW.q ?_
 obtain⟨x5,hx6,hH⟩:=zB hH
 refine gs3 ?_
 refine AO.w (cVs (qKn _ _ _ (hx6))) ?_
 refine gs3 ?_
 exact fin
 refine gs5 ?_
 refine AW.cH hH (fun _ hH=>?_) (fun hc hH=>?_)
 refine AW.q ?_
 obtain⟨x7,hx8,hH⟩:=zB hH
 refine gs2 ?_
 refine AO.w (cVs (qMG _ _ (hx8))) ?_
 refine gs3 ?_
 exact fin
 refine gs5 ?_
 refine AW.cH hH (fun _ hH=>?_) (fun hc hH=>?_)
 refine AW.q ?_
 obtain⟨x9,hx10,hH⟩:=zB hH
 refine gs3 ?_
 refine AO.w (cVs (qMi _ _ _ (hx10))) ?_
 refine gs3 ?_
 exact fin
 refine gs5 ?_
 refine AW.cH hH (fun _ hH=>?_) (fun hc hH=>?_)
 refine AW.q ?_
 obtain⟨x11,hx12,hH⟩:=zB hH
 refine gs3 ?_
 refine AO.w (cVs (qMN _ _ _ (hx12))) ?_
 refine gs3 ?_
 exact fin
 refine gs9 ?_
 refine AW.loopS (fun s:Nat=>(⟨[(1,sv ze1 l),(44,sv ze1 l),(45,(l.length:Int)),(46,(s:Int))],[],59,[]⟩:St)) (fun s=>s≤l.length∧qCM l (l.drop s) s=some r) (fun s=>l.length-s) 0 ⟨Nat.zero_le _,hH⟩ ?_ ?_
 exact Le.ct 0 0
 rintro k13 ⟨hk,hH⟩
 try dsimp only at hH⊢
 refine AW.boundM (t:=1) (l:=l) rfl (fun hb17=>?_)
 rcases hd16:l.drop k13 with _|⟨y14,ys15⟩
 rw[hd16,qCM]at hH
 have hlt18:=qAF hd16
 iterate 12 refine gs ?_
 exact fin
 rw[hd16,qCM]at hH
 have hlt18:=qAG hd16
 iterate 14 refine gs ?_
 refine AO.x (als T 4) ?_
 refine AO.pu T ?_
 refine AO.se T [sv ze2 y14.names,sv ze0 y14.marks,.v (.bool y14.late)] ?_
 refine gs2 ?_
 obtain⟨x24,hx25,hH⟩:=zB hH
 refine AW.drawn 6 5 [] mix (by kernel_rfl) rfl ?_
 refine gs5 ?_
 refine AD.vv (cVs (qKU _ _ _ (hx25))) ?_
 refine gs3 ?_
 refine AW.cH hH (fun _ hH=>?_) (fun _ hH=>?_)
 refine gs5 ?_
 exact fin
 refine gs5 ?_
 refine⟨k13+1,⟨hlt18,(zds hd16▸hH)⟩,qCC hlt18,?_⟩
 exact Le.ct 0 0
def qBb (c:Code) (l:List Item):Nat→List Int→Int→Option (((List Int)×Bool))
 |0,_,_=>none
 |k5+1,v16,v17 =>
  cond (decide (v17≤8))
   ((qIH c l v17).bind fun x19 =>
   cond (!x19)
    ((qAz (qAh 8 (v16.length+([v17]).length))).bind fun u21 =>
    qBb c l k5 (v16++[v17]) (w64 (v17+1)))
    (qBb c l k5 v16 (w64 (v17+1))))
   (some (v16,true))
def qEi (fl:Nat) (c:Code) (l:List Item):Option ((List Int)×Bool) :=
 (qBG fl c).bind fun x1 =>
 (opt (!(!x1)) default (qE0 fl l)).bind fun x3 =>
 cond ((!x1)||(!x3))
  (some ([],false))
  (qBb c l fl [] 1)
theorem qMB (fl:Nat) (c:Code) (l:List Item) (r:((List Int)×Bool)) (hH:qEi fl c l=some r):qAC prog 175 [.g (ze4 c),.s (List.map ze1 l)] (.t [.w 1 (r.1.map ze0),.v (.bool r.2)]):=by
 refine fns T func175 ?_
 refine go ?_
 refine AO.x (bxs T 1) (go ?_)
 obtain⟨x1,hx2,x3,hx4,hH⟩:=qAI hH
 refine go ?_
 refine AO.w (cVs (qFg fl _ _ (hx2))) (go ?_)
 refine AO.g0 T ?_
 refine AO.d1 12 (fun hg=>cVs (qKP fl _ _ (qEv hx4 hg))) ?_
 refine AO.g1 T 13 ?_
 refine go ?_
 refine AW.cH hH (fun _ hH=>?_) (fun hc hH=>?_)
 refine go ?_
 exact fin
 refine go ?_
 refine AO.x (qGG T rfl rfl rfl rfl) (go ?_)
 refine AW.loopS (fun s:Nat×(List Int)×Int=>(⟨[(1,sv ze1 l),(2,.p 1 0),(6,.R 5),(7,s.2.2)],[(1,.box (ze4 c)),(5,ro 1 ze0 s.2.1)],31,[]⟩:St)) (fun s=>qBb c l s.1 s.2.1 s.2.2=some r) (fun s=>s.1) (fl,[],1) hH ?_ ?_
 refine Le.trans (Le.void 6 5 1 rfl rfl) ?_
 exact Le.ct 0 0
 rintro⟨k5,v16,v17⟩ hH
 try dsimp only at hH⊢
 rcases k5 with _|k5
 cases (show none=some _ from hH)
 rw[qBb]at hH
 refine go ?_
 refine AW.cH hH (fun hc hH=>?_) (fun _ hH=>?_)
 refine go ?_
 obtain⟨x19,hx20,hH⟩:=zB hH
 refine go ?_
 refine AO.w (cVs (qM9 _ _ _ _ (hx20))) (go ?_)
 refine AW.cH hH (fun _ hH=>?_) (fun hc hH=>?_)
 obtain⟨u21,hx22,hH⟩:=zB hH
 refine go ?_
 refine AO.x (mks T 6 ze0 ([v17])) ?_
 refine AO.x (rvs T 7 (hfit:=by exact qAS (hx22))) (go ?_)
 refine⟨(k5,(v16++[v17]),w64 (v17+1)),hH,Nat.lt_succ_self _,?_⟩
 exact Le.ct 7 5
 refine go ?_
 refine⟨(k5,v16,w64 (v17+1)),hH,Nat.lt_succ_self _,?_⟩
 exact Le.ct 0 0
 refine go ?_
 exact fin
def qBo (c:Code) (l:List Item):List Item→Nat→List Int→Option ((List Int))
 | [],k1,v16 =>
  some v16
 |y2::ys3,k1,v16 =>
  (qCd c l (k1:Int)).bind fun x18 =>
  (qAz (qAh 8 (v16.length+([x18]).length))).bind fun u20 =>
  qBo c l ys3 (k1+1) (v16++[x18])
def qF7 (c:Code) (l:List Item):Option (List Int) :=
 qBo c l l 0 []
theorem qMf (c:Code) (l:List Item) (r:(List Int)) (hH:qF7 c l=some r):qAC prog 177 [.g (ze4 c),.s (List.map ze1 l)] (.w 1 (r.map ze0)):=by
 refine fns T func177 ?_
 refine go ?_
 refine AO.x (bxs T 1) (go ?_)
 refine AO.x (qGG T rfl rfl rfl rfl) (go ?_)
 refine AW.loopS (fun s:Nat×(List Int)=>(⟨[(1,sv ze1 l),(2,.p 1 0),(5,.R 5),(9,(l.length:Int)),(10,(s.1:Int))],[(1,.box (ze4 c)),(5,ro 1 ze0 s.2)],22,[]⟩:St)) (fun s=>s.1≤l.length∧qBo c l (l.drop s.1) s.1 s.2=some r) (fun s=>l.length-s.1) (0,[]) ⟨Nat.zero_le _,hH⟩ ?_ ?_
 refine Le.trans (Le.void 5 5 1 rfl rfl) ?_
 exact Le.ct 0 0
 rintro⟨k1,v16⟩ ⟨hk,hH⟩
 try dsimp only at hH⊢
 refine AW.boundM (t:=1) (l:=l) rfl (fun hb5=>?_)
 rcases hd4:l.drop k1 with _|⟨y2,ys3⟩
 rw[hd4,qBo]at hH
 have hlt6:=qAF hd4
 refine go ?_
 exact fin
 rw[hd4,qBo]at hH
 have hlt6:=qAG hd4
 refine go ?_
 obtain⟨x18,hx19,u20,hx21,hH⟩:=qAI hH
 refine go ?_
 refine AO.w (cVs (qGj _ _ _ _ (hx19))) ?_
 refine AO.x (mks T 6 ze0 ([x18])) ?_
 refine AO.x (rvs T 7 (hfit:=by exact qAS (hx21))) (go ?_)
 refine⟨(k1+1,(v16++[x18])),⟨hlt6,(zds hd4▸hH)⟩,qCC hlt6,?_⟩
 exact Le.ct 7 5
def qEz (fl:Nat) (c:Code) (p:Performance) (factor:Int):Option Bool :=
 (qBj fl c p).bind fun x1 =>
 (opt x1 default (qE4 factor)).bind fun x3 =>
 some (x1&&x3)
theorem qH7 (fl:Nat) (c:Code) (p:Performance) (factor:Int) (r:Bool) (hH:qEz fl c p factor=some r):qAC prog 237 [.g (ze4 c),.g (qHY p),factor] (.v (.bool r)):=by
 refine fns T func237 ?_
 refine go ?_
 refine AO.x (bxs T 1) ?_
 refine AO.x (bxs T 2) (go ?_)
 obtain⟨x1,hx2,x3,hx4,hH⟩:=qAI hH
 refine go ?_
 refine AO.w (cVs (qH1 fl _ _ _ (hx2))) ?_
 refine AO.pu T ?_
 refine AO.g0 T ?_
 refine AO.d1 11 (fun hg=>cVs (qKQ _ _ (qEv hx4 hg))) ?_
 refine go ?_
 exact fin
def qGc (p:Performance):Option Int :=
 (qAy p.marks).bind fun x1 =>
 cond (decide (x1≥5))
  (some (w64 (x1-2)))
  (some x1)
theorem qKz (p:Performance) (r:Int) (hH:qGc p=some r):qAC prog 240 [.g (qHY p)] (.v (.int .i64 r)):=by
 refine fns T func240 ?_
 refine go ?_
 refine AO.x (bxs T 1) (go ?_)
 obtain⟨x1,hx2,hH⟩:=zB hH
 refine go ?_
 refine AO.w (cVs (qEQ _ _ (hx2))) (go ?_)
 refine AW.cH hH (fun _ hH=>?_) (fun _ hH=>?_)
 refine go ?_
 exact fin
 refine go ?_
 exact fin
def qES (a:Int) (b:Int) (mode:Int):Option Int :=
 cond (mode==(-1))
  ((qE6 a b).bind fun x1 =>
  some x1)
  (cond (mode==1)
   ((qE6 (w64 (-a)) b).bind fun x3 =>
   some (w64 (-x3)))
   ((qDT a b).bind fun x5 =>
   some x5))
theorem qHh (a:Int) (b:Int) (mode:Int) (r:Int) (hH:qES a b mode=some r):qAC prog 239 [a,b,mode] (.v (.int .i64 r)):=by
 refine fns T func239 ?_
 refine go ?_
 refine AW.cH hH (fun _ hH=>?_) (fun hc hH=>?_)
 refine AW.q ?_
 obtain⟨x1,hx2,hH⟩:=zB hH
 refine go ?_
 refine AO.w (cVs (qH8 _ _ _ (hx2))) (go ?_)
 exact fin
 refine go ?_
 refine AW.cH hH (fun _ hH=>?_) (fun _ hH=>?_)
 refine AW.q ?_
 obtain⟨x3,hx4,hH⟩:=zB hH
 refine go ?_
 refine AO.w (qOm rfl rfl) ?_
 refine AO.pu T ?_
 refine AO.w (cVs (qH8 _ _ _ (hx4))) ?_
 refine AO.w (qOm rfl rfl) (go ?_)
 exact fin
 refine go ?_
 obtain⟨x5,hx6,hH⟩:=zB hH
 refine go ?_
 refine AO.w (cVs (qFV _ _ _ (hx6))) (go ?_)
 exact fin
def qGl (fl:Nat) (c:Code) (p:Performance) (k:Int):Option Int :=
 (qCd c p.items k).bind fun x1 =>
 cond (x1==0)
  (some 0)
  ((qAV p.items k).bind fun x3 =>
  (qHL fl c x3).bind fun x5 =>
  (qGc p).bind fun x7 =>
  (qES x5 x7 1).bind fun x9 =>
  some x9)
theorem qM0 (fl:Nat) (c:Code) (p:Performance) (k:Int) (r:Int) (hH:qGl fl c p k=some r):qAC prog 238 [.g (ze4 c),.g (qHY p),k] (.v (.int .i64 r)):=by
 refine fns T func238 ?_
 refine go ?_
 refine AO.x (bxs T 1) ?_
 refine AO.x (bxs T 2) (go ?_)
 obtain⟨x1,hx2,hH⟩:=zB hH
 refine go ?_
 refine AO.w (cVs (qGj _ _ _ _ (hx2))) (go ?_)
 refine AW.cH hH (fun _ hH=>?_) (fun _ hH=>?_)
 refine go ?_
 exact fin
 refine go ?_
 obtain⟨x3,hx4,x5,hx6,x7,hx8,hH⟩:=qBB hH
 obtain⟨x9,hx10,hH⟩:=zB hH
 refine AW.drawn 8 3 [] mix (by kernel_rfl) rfl ?_
 refine go ?_
 refine AD.vv (cVs (qLm fl _ _ _ (hx6))) ?_
 refine go ?_
 refine AO.w (cVs (qKz _ _ (hx8))) ?_
 refine AO.w (cVs (qHh _ _ _ _ (hx10))) (go ?_)
 exact fin
def qBW (c:Code) (p:Performance) (factor:Int) (fl:Nat):List Item→Nat→Int→Option ((Int×Bool))
 | [],k3,v14 =>
  (qGc p).bind fun x16 =>
  (qES 1000 x16 1).bind fun x18 =>
  (qES (w64 ((w64 (factor*3))*x18)) 100 1).bind fun x20 =>
  some (w64 (v14+x20),true)
 |y4::ys5,k3,v14 =>
  (qGl fl c p (k3:Int)).bind fun x22 =>
  qBW c p factor fl ys5 (k3+1) (w64 (v14+x22))
def qEG (fl:Nat) (c:Code) (p:Performance) (factor:Int):Option (Int×Bool) :=
 (qEz fl c p factor).bind fun x1 =>
 cond (!x1)
  (some (0,false))
  (qBW c p factor fl p.items 0 0)
theorem qLZ (fl:Nat) (c:Code) (p:Performance) (factor:Int) (r:(Int×Bool)) (hH:qEG fl c p factor=some r):qAC prog 180 [.g (ze4 c),.g (qHY p),factor] (.t [.v (.int .i64 r.1),.v (.bool r.2)]):=by
 refine fns T func180 ?_
 refine go ?_
 refine AO.x (bxs T 1) ?_
 refine AO.x (bxs T 2) (go ?_)
 obtain⟨x1,hx2,hH⟩:=zB hH
 refine go ?_
 refine AO.w (cVs (qH7 fl _ _ _ _ (hx2))) (go ?_)
 refine AW.cH hH (fun _ hH=>?_) (fun _ hH=>?_)
 refine go ?_
 exact fin
 refine go ?_
 refine AW.loopS (fun s:Nat×Int=>(⟨[(2,factor),(3,.p 1 0),(4,.p 2 0),(8,s.2),(17,(p.items.length:Int)),(18,(s.1:Int))],[(1,.box (ze4 c)),(2,.box (qHY p))],37,[]⟩:St)) (fun s=>s.1≤p.items.length∧qBW c p factor fl (p.items.drop s.1) s.1 s.2=some r) (fun s=>p.items.length-s.1) (0,0) ⟨Nat.zero_le _,hH⟩ ?_ ?_
 exact Le.ct 0 0
 rintro⟨k3,v14⟩ ⟨hk,hH⟩
 try dsimp only at hH⊢
 refine AW.boundBox (id:=2) (j:=0) (l:=p.items) rfl rfl (fun hb7=>?_)
 rcases hd6:p.items.drop k3 with _|⟨y4,ys5⟩
 rw[hd6,qBW]at hH
 have hlt8:=qAF hd6
 refine go ?_
 obtain⟨x16,hx17,x18,hx19,x20,hx21,hH⟩:=qBB hH
 refine go ?_
 refine AO.w (cVs (qKz _ _ (hx17))) ?_
 refine AO.w (cVs (qHh _ _ _ _ (hx19))) ?_
 refine AO.w aws ?_
 refine AO.w (cVs (qHh _ _ _ _ (hx21))) (go ?_)
 exact fin
 rw[hd6,qBW]at hH
 have hlt8:=qAG hd6
 refine go ?_
 obtain⟨x22,hx23,hH⟩:=zB hH
 refine go ?_
 refine AO.w (cVs (qM0 fl _ _ _ _ (hx23))) (go ?_)
 refine⟨(k3+1,w64 (v14+x22)),⟨hlt8,(zds hd6▸hH)⟩,qCC hlt8,?_⟩
 exact Le.ct 0 0
def qIo (fl:Nat) (c:Code) (p:Performance) (factor:Int) (judge:Int):Option Bool :=
 (qEz fl c p factor).bind fun x1 =>
 (opt x1 default (qAy p.marks)).bind fun x3 =>
 (opt x1 default (qAN judge 0 (w64 (x3-1)))).bind fun x5 =>
 some (x1&&x5)
theorem qOC (fl:Nat) (c:Code) (p:Performance) (factor:Int) (judge:Int) (r:Bool) (hH:qIo fl c p factor judge=some r):qAC prog 241 [.g (ze4 c),.g (qHY p),factor,judge] (.v (.bool r)):=by
 refine fns T func241 ?_
 refine go ?_
 refine AO.x (bxs T 1) ?_
 refine AO.x (bxs T 2) (go ?_)
 obtain⟨x1,hx2,x3,hx4,x5,hx6,hH⟩:=qBB hH
 refine go ?_
 refine AO.w (cVs (qH7 fl _ _ _ _ (hx2))) ?_
 refine AO.pu T ?_
 refine AO.g0 T ?_
 refine AO.g0 T ?_
 refine AO.g T (d:=.g [sv ze3 p.marks.grades,sv ze3 p.marks.components]) [15] rfl ⟨fun h=>h,trivial⟩ rfl rfl ?_
 refine AO.d1 16 (fun hg=>cVs (qEQ _ _ (qEv hx4 hg))) ?_
 refine AO.d1 17 (fun hg=>aws) ?_
 refine AO.d2 14 18 (fun hg=>cVs (qAP _ _ _ _ (qEv hx6 hg))) ?_
 refine go ?_
 exact fin
def qCs (judge:Int) (mark:Int) (x1:Marks) (v16:List (List Int)):Nat→List (List Int)→List (List Int)→Int→Option Marks
 |0,_,_,_=>none
 |k23+1,v35,v36,v37 =>
  cond (decide (v37<(x1.components.length:Int)))
   ((qAV v36 v37).bind fun x39 =>
   (qAV x39 judge).bind fun x41 =>
   qCs judge mark x1 v16 k23 (v36.set v37.toNat (x39.set judge.toNat mark)) (v36.set v37.toNat (x39.set judge.toNat mark)) (w64 (v37+1)))
   (some (Marks.mk v16 v36))
def qDi (judge:Int) (grade:Int) (mark:Int) (fl:Nat) (x1:Marks):Nat→List (List Int)→List (List Int)→Int→Option Marks
 |0,_,_,_=>none
 |k3+1,v15,v16,v17 =>
  cond (decide (v17<(x1.grades.length:Int)))
   ((qAV v16 v17).bind fun x19 =>
   (qAV x19 judge).bind fun x21 =>
   qDi judge grade mark fl x1 k3 (v16.set v17.toNat (x19.set judge.toNat grade)) (v16.set v17.toNat (x19.set judge.toNat grade)) (w64 (v17+1)))
   (qCs judge mark x1 v16 fl x1.components x1.components 0)
def qFr (fl:Nat) (m:Marks) (judge:Int) (grade:Int) (mark:Int):Option Marks :=
 (qCy m).bind fun x1 =>
 qDi judge grade mark fl x1 fl x1.grades x1.grades 0
theorem qKT (fl:Nat) (m:Marks) (judge:Int) (grade:Int) (mark:Int) (r:Marks) (hH:qFr fl m judge grade mark=some r):qAC prog 295 [.g (qAf m),judge,grade,mark] (.g (qIq r)):=by
 refine fns T func295 ?_
 refine gs2 ?_
 refine AO.x (bxs T 1) ?_
 refine AO.x (als T 2) ?_
 refine gs2 ?_
 obtain⟨x1,hx2,hH⟩:=zB hH
 refine gs2 ?_
 refine AO.x (qAU rfl 3 rfl rfl rfl (qF0 _ _ (hx2)) rfl rfl rfl) ?_
 refine AO.x (als T 5) ?_
 refine AO.se T [.R 3,.R 4] ?_
 iterate 10 refine gs ?_
 refine AW.loopS (fun s:Nat×(List (List Int))×(List (List Int))×Int=>(⟨[(1,judge),(2,grade),(3,mark),(8,.p 2 0),(9,.p 5 0),(17,.R 3),(18,(x1.grades.length:Int)),(19,s.2.2.2)],[(2,.box [.w 0 [],.w 0 []]),(3,ro 1 ze8 s.2.2.1),(4,ro 1 ze8 x1.components),(5,.box [.R 3,.R 4])],41,[]⟩:St)) (fun s=>qDi judge grade mark fl x1 s.1 s.2.1 s.2.2.1 s.2.2.2=some r) (fun s=>s.1) (fl,x1.grades,x1.grades,0) hH ?_ ?_
 exact Le.ct 0 0
 rintro⟨k3,v15,v16,v17⟩ hH
 try dsimp only at hH⊢
 rcases k3 with _|k3
 cases (show none=some _ from hH)
 rw[qDi]at hH
 refine gs5 ?_
 refine AW.cH hH (fun _ hH=>?_) (fun hc hH=>?_)
 refine gs4 ?_
 obtain⟨x19,hx20,hH⟩:=zB hH
 refine AW.le (Le.openM 3 v17.toNat 0 8 rfl (zgG (hx20)) rfl rfl) ?_
 refine AW.r (AO.w (qDd T rfl rfl rfl rfl rfl rfl (hx20)) ?_)
 refine AO.w (qBl T rfl rfl rfl rfl rfl) ?_
 refine gs2 ?_
 obtain⟨x21,hx22,hH⟩:=zB hH
 refine gs5 ?_
 refine AO.x (zSr T rfl rfl rfl rfl rfl (zgG (hx22)) rfl rfl rfl rfl (u':=grade) rfl rfl) ?_
 refine AO.le (Le.closeM 3 v17.toNat 0 8 rfl rfl (zgG (hx20)) rfl (u':=(x19.set judge.toNat grade)) rfl) ?_
 refine gs5 ?_
 refine⟨(k3,(v16.set v17.toNat (x19.set judge.toNat grade)),(v16.set v17.toNat (x19.set judge.toNat grade)),w64 (v17+1)),hH,Nat.lt_succ_self _,?_⟩
 exact Le.ct 0 0
 iterate 10 refine gs ?_
 refine AW.loopS (fun s:Nat×(List (List Int))×(List (List Int))×Int=>(⟨[(1,judge),(3,mark),(8,.p 2 0),(9,.p 5 0),(29,.R 4),(30,(x1.components.length:Int)),(31,s.2.2.2)],[(2,.box [.w 0 [],.w 0 []]),(3,ro 1 ze8 v16),(4,ro 1 ze8 s.2.2.1),(5,.box [.R 3,.R 4])],41,[]⟩:St)) (fun s=>qCs judge mark x1 v16 s.1 s.2.1 s.2.2.1 s.2.2.2=some r) (fun s=>s.1) (fl,x1.components,x1.components,0) hH ?_ ?_
 exact Le.ct 0 0
 rintro⟨k23,v35,v36,v37⟩ hH
 try dsimp only at hH⊢
 rcases k23 with _|k23
 cases (show none=some _ from hH)
 rw[qCs]at hH
 refine gs5 ?_
 refine AW.cH hH (fun _ hH=>?_) (fun _ hH=>?_)
 refine gs4 ?_
 obtain⟨x39,hx40,hH⟩:=zB hH
 refine AW.le (Le.openM 4 v37.toNat 0 11 rfl (zgG (hx40)) rfl rfl) ?_
 refine AW.r (AO.w (qDd T rfl rfl rfl rfl rfl rfl (hx40)) ?_)
 refine AO.w (qBl T rfl rfl rfl rfl rfl) ?_
 refine gs2 ?_
 obtain⟨x41,hx42,hH⟩:=zB hH
 refine gs5 ?_
 refine AO.x (zSr T rfl rfl rfl rfl rfl (zgG (hx42)) rfl rfl rfl rfl (u':=mark) rfl rfl) ?_
 refine AO.le (Le.closeM 4 v37.toNat 0 11 rfl rfl (zgG (hx40)) rfl (u':=(x39.set judge.toNat mark)) rfl) ?_
 refine gs5 ?_
 refine⟨(k23,(v36.set v37.toNat (x39.set judge.toNat mark)),(v36.set v37.toNat (x39.set judge.toNat mark)),w64 (v37+1)),hH,Nat.lt_succ_self _,?_⟩
 exact Le.ct 0 0
 refine gs4 ?_
 refine AO.se T [.R 3,.R 4] ?_
 refine gs2 ?_
 exact fin
def qD9 (fl:Nat) (c:Code) (p:Performance) (factor:Int) (judge:Int):Option (Int×Int) :=
 (qFr fl p.marks judge (-5) 0).bind fun x1 =>
 (qFr fl p.marks judge 5 1000).bind fun x3 =>
 (qBQ fl c (Performance.mk p.items x1 p.slips) factor).bind fun x5 =>
 (qBQ fl c (Performance.mk p.items x3 p.slips) factor).bind fun x7 =>
 some (x5,x7)
theorem qLg (fl:Nat) (c:Code) (p:Performance) (factor:Int) (judge:Int) (r:(Int×Int)) (hH:qD9 fl c p factor judge=some r):qAC prog 242 [.g (ze4 c),.g (qHY p),factor,judge] (.t [.v (.int .i64 r.1),.v (.int .i64 r.2)]):=by
 refine fns T func242 ?_
 refine go ?_
 refine AO.x (bxs T 1) ?_
 refine AO.x (bxs T 2) (go ?_)
 refine AW.drawn 5 3 [] mix (by kernel_rfl) rfl ?_
 refine go ?_
 refine AD.q (FStep.alloc T rfl rfl rfl rfl rfl rfl) (by simp[qAu]) (Nat.le_succ _) rfl ?_
 refine AD.q (FStep.alloc T rfl rfl rfl rfl rfl rfl) (by simp[qAu]) (Nat.le_succ _) rfl ?_
 refine AD.kk (FStep.store_p T rfl rfl rfl rfl rfl rfl rfl rfl rfl rfl rfl) ?_
 refine AD.nil (AO.se T [sv ze1 p.items,sv ze3 p.marks.grades,sv ze3 p.marks.components,p.slips.falls,p.slips.seconds,p.slips.other] ?_)
 refine AO.n (AW.le (Le.ct 0 0 (σ':=(⟨[(2,factor),(3,judge),(4,.p 1 0),(5,.p 2 0),(10,.p 3 0),(11,.p 4 0)],[(1,.box (ze4 c)),(2,.box (qHY p)),(3,.box (qHY p)),(4,.box (qHY p))],32,[]⟩:St))) ?_)
 refine AW.q ?_
 obtain⟨x1,hx2,hH⟩:=zB hH
 refine go ?_
 refine AO.x (qAU rfl 5 rfl rfl rfl (qKT fl _ _ _ _ _ (hx2)) rfl rfl rfl) ?_
 refine AO.pu T ?_
 refine AO.se T [sv ze1 p.items,.R 5,.R 6,p.slips.falls,p.slips.seconds,p.slips.other] ?_
 refine go ?_
 obtain⟨x3,hx4,hH⟩:=zB hH
 refine go ?_
 refine AO.x (qAU rfl 7 rfl rfl rfl (qKT fl _ _ _ _ _ (hx4)) rfl rfl rfl) ?_
 refine AO.pu T ?_
 refine AO.se T [sv ze1 p.items,.R 7,.R 8,p.slips.falls,p.slips.seconds,p.slips.other] ?_
 refine AO.n (AW.le (Le.ct 0 0 (σ':=(⟨[(2,factor),(4,.p 1 0),(10,.p 3 0),(11,.p 4 0)],[(1,.box (ze4 c)),(3,.box [sv ze1 p.items,.R 5,.R 6,p.slips.falls,p.slips.seconds,p.slips.other]),(4,.box [sv ze1 p.items,.R 7,.R 8,p.slips.falls,p.slips.seconds,p.slips.other]),(5,ro 1 ze8 x1.grades),(6,ro 1 ze8 x1.components),(7,ro 1 ze8 x3.grades),(8,ro 1 ze8 x3.components)],32,[]⟩:St))) ?_)
 refine AW.q ?_
 obtain⟨x5,hx6,x7,hx8,hH⟩:=qAI hH
 refine AW.drawn 7 9 [] mix (by kernel_rfl) rfl ?_
 refine go ?_
 refine AD.vv (zLV rfl rfl rfl (es:=[.g (ze4 c),.g (qHY (Performance.mk p.items x1 p.slips)),factor]) ⟨.free rfl,qIK (LendL.cons (.free rfl) (LendL.cons ((.rowR rfl (.map fun y=>qAl y))) (LendL.cons ((.rowR rfl (.map fun y=>qAl y))) (LendL.cons (.free rfl) (LendL.cons (.free rfl) (LendL.cons (.free rfl) LendL.nil)))))),.free rfl,trivial⟩ (qDk fl _ _ _ _ (hx6)) (qAc _) rfl) ?_
 refine go ?_
 refine AO.w (zLV rfl rfl rfl (es:=[.g (ze4 c),.g (qHY (Performance.mk p.items x3 p.slips)),factor]) ⟨.free rfl,qIK (LendL.cons (.free rfl) (LendL.cons ((.rowR rfl (.map fun y=>qAl y))) (LendL.cons ((.rowR rfl (.map fun y=>qAl y))) (LendL.cons (.free rfl) (LendL.cons (.free rfl) (LendL.cons (.free rfl) LendL.nil)))))),.free rfl,trivial⟩ (qDk fl _ _ _ _ (hx8)) (qAc _) rfl) ?_
 refine gs3 ?_
 refine AW.le (Le.ct 0 0 (σ':=(⟨[(8,x5),(9,x7)],[],32,[]⟩:St))) ?_
 refine AW.t ?_
 exact fin
def qFO (fl:Nat) (c:Code) (p:Performance) (factor:Int) (judge:Int):Option (Int×Int×Bool) :=
 (qIo fl c p factor judge).bind fun x1 =>
 cond (!x1)
  (some (0,0,false))
  ((qD9 fl c p factor judge).bind fun x3 =>
  some (x3.1,x3.2,true))
theorem qLa (fl:Nat) (c:Code) (p:Performance) (factor:Int) (judge:Int) (r:(Int×Int×Bool)) (hH:qFO fl c p factor judge=some r):qAC prog 181 [.g (ze4 c),.g (qHY p),factor,judge] (.t [.v (.int .i64 r.1),.v (.int .i64 r.2.1),.v (.bool r.2.2)]):=by
 refine fns T func181 ?_
 refine go ?_
 refine AO.x (bxs T 1) ?_
 refine AO.x (bxs T 2) (go ?_)
 obtain⟨x1,hx2,hH⟩:=zB hH
 refine go ?_
 refine AO.w (cVs (qOC fl _ _ _ _ _ (hx2))) (go ?_)
 refine AW.cH hH (fun _ hH=>?_) (fun _ hH=>?_)
 refine go ?_
 exact fin
 refine go ?_
 obtain⟨x3,hx4,hH⟩:=zB hH
 refine go ?_
 refine AO.w (cVs (qLg fl _ _ _ _ _ (hx4))) ?_
 iterate 14 refine gs ?_
 refine AW.le (Le.ct 0 0 (σ':=(⟨[(8,x3.1),(9,x3.2),(10,.v (.bool true))],[],29,[]⟩:St))) ?_
 refine AW.t ?_
 exact fin
def qBp (k1:Nat) (k434:Nat) (y435:Int):Nat→List (List Int)→Int→Option (List (List Int))
 |0,_,_=>none
 |k507+1,v514,v515 =>
  cond (decide (v515≤3))
   (cond (v515 != y435)
    ((qAz (qAh 24 (v514.length+([[(k1:Int),(k434:Int),v515]]).length))).bind fun u517 =>
    qBp k1 k434 y435 k507 (v514++[[(k1:Int),(k434:Int),v515]]) (w64 (v515+1)))
    (qBp k1 k434 y435 k507 v514 (w64 (v515+1))))
   (some v514)
def qBs (fl:Nat) (k1:Nat):List Int→Nat→List (List Int)→Option (List (List Int))
 | [],k434,v491 =>
  some v491
 |y435::ys436,k434,v491 =>
  (qBp k1 k434 y435 fl v491 0).bind fun v504 =>
  qBs fl k1 ys436 (k434+1) v504
def qBn (fl:Nat):List Item→Nat→List (List Int)→Option ((List (List Int)))
 | [],k1,v346 =>
  some v346
 |y2::ys3,k1,v346 =>
  (qBs fl k1 y2.marks 0 v346).bind fun v431 =>
  qBn fl ys3 (k1+1) v431
def qHc (fl:Nat) (l:List Item):Option (List (List Int)) :=
 qBn fl l 0 []
theorem qMe (fl:Nat) (l:List Item) (r:(List (List Int))) (hH:qHc fl l=some r):qAC prog 243 [.s (List.map ze1 l)] (.w 1 (r.map ze3)):=by
 refine fns T func243 ?_
 refine gs6 ?_
 refine AO.x (qGG T rfl rfl rfl rfl) ?_
 iterate 10 refine gs ?_
 refine AW.loopS (fun s:Nat×(List (List Int))=>(⟨[(3,.R 7),(10,sv ze1 l),(11,(l.length:Int)),(12,(s.1:Int))],[(7,ro 1 ze3 s.2)],42,[]⟩:St)) (fun s=>s.1≤l.length∧qBn fl (l.drop s.1) s.1 s.2=some r) (fun s=>l.length-s.1) (0,[]) ⟨Nat.zero_le _,hH⟩ ?_ ?_
 refine Le.trans (Le.void 3 7 1 rfl rfl) ?_
 exact Le.ct 0 0
 rintro⟨k1,v346⟩ ⟨hk,hH⟩
 try dsimp only at hH⊢
 refine AW.boundM (t:=10) (l:=l) rfl (fun hb5=>?_)
 rcases hd4:l.drop k1 with _|⟨y2,ys3⟩
 rw[hd4,qBn]at hH
 have hlt6:=qAF hd4
 iterate 13 refine gs ?_
 exact fin
 rw[hd4,qBn]at hH
 have hlt6:=qAG hd4
 refine gs7 ?_
 obtain⟨o432,hH,hK433⟩:=zB hH
 refine AW.seqJ (fun s:List (List Int)=>(⟨[(3,.R 7),(10,sv ze1 l),(11,(l.length:Int)),(12,(k1:Int))],[(7,ro 1 ze3 s)],42,[]⟩:St)) (fun s=>s=o432) ?_ ?_
 refine gs6 ?_
 refine AO.x (als T 276) ?_
 refine AO.pu T ?_
 refine AO.se T [sv ze2 y2.names,sv ze0 y2.marks,.v (.bool y2.late)] ?_
 refine gs9 ?_
 refine AW.loopS (fun s:Nat×(List (List Int))=>(⟨[(3,.R 7),(4,(k1:Int)),(10,sv ze1 l),(11,(l.length:Int)),(12,(k1:Int)),(18,sv ze0 y2.marks),(19,(y2.marks.length:Int)),(20,(s.1:Int))],[(7,ro 1 ze3 s.2)],42,[]⟩:St)) (fun s=>s.1≤y2.marks.length∧qBs fl k1 (y2.marks.drop s.1) s.1 s.2=some o432) (fun s=>y2.marks.length-s.1) (0,v346) ⟨Nat.zero_le _,hH⟩ ?_ ?_
 exact Le.ct 0 0
 rintro⟨k434,v491⟩ ⟨hk,hH⟩
 try dsimp only at hH⊢
 refine AW.boundM (t:=18) (l:=y2.marks) rfl (fun hb438=>?_)
 rcases hd437:y2.marks.drop k434 with _|⟨y435,ys436⟩
 rw[hd437,qBs]at hH
 have hlt439:=qAF hd437
 refine gs7 ?_
 refine⟨_,zS hH,?_⟩
 exact Le.ct 0 0
 rw[hd437,qBs]at hH
 have hlt439:=qAG hd437
 refine gs7 ?_
 obtain⟨o505,hH,hK506⟩:=zB hH
 refine AW.seqJ (fun s:List (List Int)=>(⟨[(3,.R 7),(4,(k1:Int)),(10,sv ze1 l),(11,(l.length:Int)),(12,(k1:Int)),(18,sv ze0 y2.marks),(19,(y2.marks.length:Int)),(20,(k434:Int))],[(7,ro 1 ze3 s)],42,[]⟩:St)) (fun s=>s=o505) ?_ ?_
 iterate 14 refine gs ?_
 refine AW.loopS (fun s:Nat×(List (List Int))×Int=>(⟨[(3,.R 7),(4,(k1:Int)),(6,(k434:Int)),(7,y435),(8,s.2.2),(10,sv ze1 l),(11,(l.length:Int)),(12,(k1:Int)),(18,sv ze0 y2.marks),(19,(y2.marks.length:Int)),(20,(k434:Int))],[(7,ro 1 ze3 s.2.1)],42,[]⟩:St)) (fun s=>qBp k1 k434 y435 s.1 s.2.1 s.2.2=some o505) (fun s=>s.1) (fl,v491,0) hH ?_ ?_
 exact Le.ct 0 0
 rintro⟨k507,v514,v515⟩ hH
 try dsimp only at hH⊢
 rcases k507 with _|k507
 cases (show none=some _ from hH)
 rw[qBp]at hH
 refine gs6 ?_
 refine AW.cH hH (fun hc hH=>?_) (fun _ hH=>?_)
 refine gs9 ?_
 refine AW.cH hH (fun _ hH=>?_) (fun hc hH=>?_)
 obtain⟨u517,hx518,hH⟩:=zB hH
 refine gs5 ?_
 refine AO.x (mks T 328 ze0 ([(k1:Int),(k434:Int),v515])) ?_
 refine AO.le (Le.fM 328 (g:=ze0) rfl (fun y=>.vs rfl)) ?_
 refine AO.x (mks T 329 ze3 ([[(k1:Int),(k434:Int),v515]])) ?_
 refine AO.x (rvs T 330 (hfit:=by exact qAS (hx518))) ?_
 refine gs7 ?_
 refine⟨(k507,(v514++[[(k1:Int),(k434:Int),v515]]),w64 (v515+1)),hH,Nat.lt_succ_self _,?_⟩
 exact Le.ct 330 7
 refine gs6 ?_
 refine⟨(k507,v514,w64 (v515+1)),hH,Nat.lt_succ_self _,?_⟩
 exact Le.ct 0 0
 refine AW.exit ?_
 refine⟨_,zS hH,?_⟩
 exact Le.ct 0 0
 rintro v504 hs
 subst hs
 replace hH:=hK506
 try dsimp only[qLN,qJm]at hH
 try dsimp only
 refine gs4 ?_
 refine⟨(k434+1,v504),⟨hlt439,(zds hd437▸hH)⟩,qCC hlt439,?_⟩
 exact Le.ct 0 0
 rintro v431 hs
 subst hs
 replace hH:=hK433
 try dsimp only[qLN,qJm]at hH
 try dsimp only
 refine gs4 ?_
 refine⟨(k1+1,v431),⟨hlt6,(zds hd4▸hH)⟩,qCC hlt6,?_⟩
 exact Le.ct 0 0
def qGm (fl:Nat) (c:Code) (p:Performance) (factor:Int) (l:List Item):Option Int :=
 (qBQ fl c (Performance.mk l p.marks p.slips) factor).bind fun x1 =>
 some x1
theorem qNW (fl:Nat) (c:Code) (p:Performance) (factor:Int) (l:List Item) (r:Int) (hH:qGm fl c p factor l=some r):qAC prog 244 [.g (ze4 c),.g (qHY p),factor,.s (List.map ze1 l)] (.v (.int .i64 r)):=by
 refine fns T func244 ?_
 refine go ?_
 refine AO.x (bxs T 1) ?_
 refine AO.x (bxs T 2) (go ?_)
 refine AO.se T [sv ze1 l,sv ze3 p.marks.grades,sv ze3 p.marks.components,p.slips.falls,p.slips.seconds,p.slips.other] ?_
 refine go ?_
 obtain⟨x1,hx2,hH⟩:=zB hH
 refine go ?_
 refine AO.w (cVs (qDk fl _ _ _ _ (hx2))) (go ?_)
 exact fin
end Go.Proofs.YtkidpkmpnbibmaaGreatDoor

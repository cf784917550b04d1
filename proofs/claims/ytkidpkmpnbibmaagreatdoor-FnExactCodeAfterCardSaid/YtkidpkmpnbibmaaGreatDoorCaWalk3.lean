/- The walk, part 3: what each function reached by the law FnExactCodeAfter computes. No condition. -/
import Derived.Test.YtkidpkmpnbibmaaGreatDoorCaWalk2
set_option maxRecDepth 4000
set_option maxHeartbeats 1000000
set_option linter.unusedVariables false
set_option linter.unusedSimpArgs false
set_option linter.unusedSectionVars false
namespace Go.Proofs.YtkidpkmpnbibmaaGreatDoor
open Go.AM Tryz
section
open Go.Shelf Go.RowKit
theorem qYu:∃s b z,te 36=some ⟨.slice 107,s,b,z⟩:=⟨_,_,_,rfl⟩
theorem qW6:∃ti,te 107=some ti∧ti.size=4∧ti.bytes=40∧∃z,ti.zero=some z∧z.cells.size=4:=⟨_,rfl,rfl,rfl,_,rfl,rfl⟩
set_option maxHeartbeats 2000000 in
set_option maxRecDepth 1000000 in
theorem qU7 {a:Option Addr} {n c vb voff vc:Nat} {w w1:World} {r:Value} (hn:n≤9000000000000000000)
  (hrun:∀ty,(Builtin.append_ #[36,36] ty #[.slice a n c,.slice (some ⟨vb,voff,none⟩) 1 vc]).run prog w=.ok r w1) :
  Calls prog 163 #[.slice a n c,.int .i64 n,.slice (some ⟨vb,voff,none⟩) 1 vc] w fun e w'=>e=.returned r∧w'=w1:=by
 have tS:prog.underlying 36=some (.slice 107):=by kernel_rfl
 have mixed:prog.follows .mixedOrders=true:=by kernel_rfl
 go_enter func163,ntmps163
 cases a with
 |none =>
  go_wp2_with (at_builtin;refine Lib.wpList_append_run _ rfl _ _ _ _ rfl _ _ rfl rfl _ _ (hrun _) ?_)
  all_goals (go_ret;exact⟨rfl,rfl⟩)
 |some a =>
  obtain⟨ab,ao,asp⟩:=a
  go_wp2_with (at_builtin;refine Lib.wpList_append_run _ rfl _ _ _ _ rfl _ _ rfl rfl _ _ (hrun _) ?_)
  all_goals (go_ret;exact⟨rfl,rfl⟩)
set_option maxHeartbeats 4000000 in
set_option maxRecDepth 1000000 in
theorem qTt {b off n c i vb voff vc:Nat} {w:World} {arr arv:Array Value} {el elv:TypeId} (hi:i<n) (hr:n+1≤c) (hc:c≤9223372036854775807) (hb:w.heap[b]?=some (.cells arr el (0,0))) (hs:off+c*4≤arr.size)
  (hv:w.heap[vb]?=some (.cells arv elv (0,0))) (hvs:voff+4≤arv.size) (hne:vb≠b) (h1:∀v∈(arr.toList.drop off).take (n*4),v.oneCell'=true) (h2:∀v∈(arv.toList.drop voff).take 4,v.oneCell'=true) :
  Calls prog 163 #[.slice (some ⟨b,off,none⟩) n c,.int .i64 i,.slice (some ⟨vb,voff,none⟩) 1 vc] w fun e w'=>e=.returned (.slice (some ⟨b,off,none⟩) (n+1) c)∧
   w'=(w.drew.setRow b (qAR arr.toList (off+(i+1)*4) ((arr.toList.drop (off+i*4)).take ((n-i)*4))).toArray).setRow b (qAR (qAR arr.toList (off+(i+1)*4) ((arr.toList.drop (off+i*4)).take ((n-i)*4))) (off+i*4) ((arv.toList.drop voff).take 4)).toArray:=by
 have tS:prog.underlying 36=some (.slice 107):=by kernel_rfl
 have mixed:prog.follows .mixedOrders=true:=by kernel_rfl
 have hz1:¬((i:Int)=(n:Int)):=by omega
 have hz3:¬((c:Int)<(n:Int)+1):=by omega
 have hw1:IntKind.i64.wrap ((n:Int)+1)=(n:Int)+1:=by rw[IntKind.wrap_i64];omega
 have hw2:IntKind.i64.wrap ((i:Int)+1)=(i:Int)+1:=by rw[IntKind.wrap_i64];omega
 have hov:∀x lb cb,(callFunc 224 #[.slice (some ⟨vb,voff,none⟩) 1 vc,.slice (some ⟨b,x,none⟩) lb cb]).run prog w=.ok (.value (.bool false)) w:=fun x lb cb=>by
  rw[run_callFunc_extern func224 (by kernel_rfl) (by kernel_rfl) (by kernel_rfl) (e:=Extern.SlicesOverlaps.overlaps #[36,36] #[4]) (by kernel_rfl),
   Lib.run_overlaps_apart w 36 4 107 tS 4 (fun w=>rfl) ⟨vb,voff,none⟩ ⟨b,x,none⟩ 1 vc lb cb hne elv el arv.size arr.size (by simp[World.shape?,hv]) (by simp[World.shape?,hb]) (by omega) (by simp[World.frozen?,hv]) (by simp[World.frozen?,hv])]
  rfl
 obtain⟨s36,b36,z36,h36⟩:=qYu
 obtain⟨ti,hti,hsz,hby,_⟩:=qW6
 have hb':w.drew.heap[b]?=some (.cells arr el (0,0)):=hb
 have hl1:((arr.toList.drop (off+i*4)).take ((n-i)*4)).length=(n-i)*4:=by simp;omega
 have hcp1:∀ty dc sc,(Builtin.copy_ #[36,36] ty #[.slice (some ⟨b,off+(i+1)*4,none⟩) (n-i) dc,.slice (some ⟨b,off+i*4,none⟩) (n+1-i) sc]).run prog w.drew =
   .ok (goInt (n-i:Nat)) (w.drew.setRow b (qAR arr.toList (off+(i+1)*4) ((arr.toList.drop (off+i*4)).take ((n-i)*4))).toArray):=fun ty dc sc =>
  qIX T h36 hti hb' (by simp only[Nat.min_def];split<;>omega) (by rw[hsz];omega)
   (by rw[hsz];exact qKK (sz:=4) hb' (by omega)) (by rw[hsz];exact hl1) (fun v hv=>h1 v (by
    refine List.mem_of_mem_drop (i:=i*4) ?_
    rw[List.drop_take,List.drop_drop,show n*4-i*4=(n-i)*4 by omega]
    exact hv))
 obtain⟨X1,hX1⟩:∃X,X=qAR arr.toList (off+(i+1)*4) ((arr.toList.drop (off+i*4)).take ((n-i)*4)):=⟨_,rfl⟩
 rw[←hX1]at hcp1⊢
 have hXl:X1.length=arr.size:=by rw[hX1,qDc _ _ _ (by rw[hl1];simp;omega)];simp
 have hb1:(w.drew.setRow b X1.toArray).heap[b]?=some (.cells X1.toArray el (0,0)):=setRow_heap _ b arr _ el (0,0) hb'
 have hv1:(w.drew.setRow b X1.toArray).heap[vb]?=some (.cells arv elv (0,0)):=(qCJ _ b _ vb hne).trans hv
 have hcp2:∀ty dc,(Builtin.copy_ #[36,36] ty #[.slice (some ⟨b,off+i*4,none⟩) (n+1-i) dc,.slice (some ⟨vb,voff,none⟩) 1 vc]).run prog (w.drew.setRow b X1.toArray) =
   .ok (goInt (1:Nat)) ((w.drew.setRow b X1.toArray).setRow b (qAR X1 (off+i*4) ((arv.toList.drop voff).take 4)).toArray):=fun ty dc=>by
  have:=qIX T h36 hti (ty:=ty) (o:=off+i*4) (k:=1) (dLen:=n+1-i) (dCap:=dc) (m:=1) (c2:=vc) (A2:=some ⟨vb,voff,none⟩) (new:=(arv.toList.drop voff).take 4) hb1 (by simp only[Nat.min_def];split<;>omega) (by rw[hsz];simp[hXl];omega)
   (by rw[hsz];exact qKK (sz:=4) (k:=1) hv1 (by omega)) (by rw[hsz];simp;omega) h2
  simpa using this
 clear hX1
 have hi0:(0:Int)≤(i:Int)+1:=by omega
 have hin:i≤n:=by omega
 have hin1:(i:Int)≤(n:Int)+1:=by omega
 have hci:¬(c=i+1):=by omega
 have hci0:¬(c=i):=by omega
 go_enter func163,ntmps163
 go_wp2_with (simp only[hov])
 go_region_law_o (refine step_copy_runI rfl _ _ 36 36 rfl _ _ (by simp[Act.eval,Act.put]) (by simp[Act.eval,Act.put]) (hcp1 _ _ _) ?_)
 go_wp2_with (at_builtin;refine wpList_copy_runI _ rfl _ _ 36 36 rfl _ _ rfl rfl (hcp2 _ _) ?_)
 go_ret
 exact⟨rfl,rfl⟩
set_option maxHeartbeats 4000000 in
set_option maxRecDepth 1000000 in
theorem qVZ {b off n c i vb voff vc:Nat} {w:World} {arr arv:Array Value} {el elv:TypeId} (hi:i<n) (hnc:n≤c) (hr:c<n+1) (hbig:2*(n+1)*40≤281474976710656) (hb:w.heap[b]?=some (.cells arr el (0,0))) (hs:off+c*4≤arr.size)
  (hv:w.heap[vb]?=some (.cells arv elv (0,0))) (hvs:voff+4≤arv.size) (h1:∀v∈(arr.toList.drop off).take (n*4),v.oneCell'=true) (h2:∀v∈(arv.toList.drop voff).take 4,v.oneCell'=true) :
  Calls prog 163 #[.slice (some ⟨b,off,none⟩) n c,.int .i64 i,.slice (some ⟨vb,voff,none⟩) 1 vc] w fun e w'=>∃(ROW:Array Value) (G:Nat),n+1≤G∧G≤9223372036854775807∧ROW.size=G*4∧ROW.toList.take (i*4)=(arr.toList.drop off).take (i*4)∧
   e=.returned (.slice (some ⟨w.heap.size,0,none⟩) (n+1) G)∧
   w'=((w.drew.alloc (.cells ROW 107)).setRow w.heap.size (qAR ROW.toList (i*4) ((arv.toList.drop voff).take 4)).toArray).drew.setRow w.heap.size (qAR (qAR ROW.toList (i*4) ((arv.toList.drop voff).take 4)) ((i+1)*4) ((arr.toList.drop (off+i*4)).take ((n-i)*4))).toArray:=by
 have tS:prog.underlying 36=some (.slice 107):=by kernel_rfl
 have tI:prog.underlying 3=some (.int .i64):=by kernel_rfl
 have mixed:prog.follows .mixedOrders=true:=by kernel_rfl
 have hz1:¬((i:Int)=(n:Int)):=by omega
 have hz3:(c:Int)<(n:Int)+1:=by omega
 have hw1:IntKind.i64.wrap ((n:Int)+1)=(n:Int)+1:=by rw[IntKind.wrap_i64];omega
 have hw2:IntKind.i64.wrap ((i:Int)+1)=(i:Int)+1:=by rw[IntKind.wrap_i64];omega
 have hw3:IntKind.i64.wrap ((n:Int)+1-(i:Int))=(n:Int)+1-(i:Int):=by rw[IntKind.wrap_i64];omega
 obtain⟨s36,b36,z36,h36⟩:=qYu
 obtain⟨ti,hti,hsz,hby,_⟩:=qW6
 obtain⟨inf,z,hinf,hiz,his,hib,hzc⟩:∃inf z,prog.info? 107=some inf∧inf.zero=some z∧inf.size=4∧inf.bytes=40∧z.cells.size=4:=⟨_,_,rfl,rfl,rfl,rfl,rfl⟩
 have hb':w.drew.heap[b]?=some (.cells arr el (0,0)):=hb
 have hblt:b<w.heap.size:=(Array.getElem?_eq_some_iff.1 hb).1
 have hvlt:vb<w.heap.size:=(Array.getElem?_eq_some_iff.1 hv).1
 obtain⟨G,hG⟩:∃G,G=grownCap w (n+1) c 107:=⟨_,rfl⟩
 obtain⟨ROW,hROW⟩:∃ROW:Array Value,ROW=((arr.toList.drop off).take (i*4)).toArray++Builtin.zeroCells z.cells (n+1-i)++Builtin.zeroCells z.cells (G-(n+1)):=⟨_,rfl⟩
 have hGn:n+1≤G:=by rw[hG];exact grownCap_ge w _ _ _
 have hG63:G≤9223372036854775807:=by
  have:=grownCap_le_maxLen w (n+1) c 107 (by unfold maxLen;omega)
  rw[←hG]at this
  unfold maxLen at this
  omega
 have hRs:ROW.size=G*4:=by
  rw[hROW]
  simp[Builtin.zeroCells,hzc]
  omega
 have hRt:ROW.toList.take (i*4)=(arr.toList.drop off).take (i*4):=by
  rw[hROW,Array.toList_append,Array.toList_append,List.append_assoc,List.take_left']
  simp;omega
 have hrz:∀ty,(Builtin.append_ #[36,3] ty #[.slice (some ⟨b,off,none⟩) i c,.int .i64 ((n:Int)+1-(i:Int))]).run prog w=.ok (.slice (some ⟨w.heap.size,0,none⟩) (n+1) G) (w.drew.alloc (.cells ROW 107)):=fun ty=>by
  have h:=Lib.run_append_grow_zeros w 36 3 ty 107 inf z .i64 .i64 tS tI hinf hiz (some ⟨b,off,none⟩) i c ((arr.toList.drop off).take (i*4)) (by rw[his];exact qKK (sz:=4) (k:=i) (m:=i) (c:=c) (P:=prog) hb' (by omega) w.drew rfl) (n+1-i) (by omega) (by omega) (by omega) (by omega) (by rw[hib];omega)
   (by rw[hib,show i+(n+1-i)=n+1 by omega];have:=qP0 hr;omega)
  rw[show i+(n+1-i)=n+1 by omega,←hG,←hROW,show ((n+1-i:Nat):Int)=(n:Int)+1-(i:Int) by omega]at h
  exact h
 clear hROW hG
 have hg1:(w.drew.alloc (.cells ROW 107)).heap[w.heap.size]?=some (.cells ROW 107 (0,0)):=heap_alloc_new w.drew _
 have hv1:(w.drew.alloc (.cells ROW 107)).heap[vb]?=some (.cells arv elv (0,0)):=(Lib.alloc_old w.drew _ vb hvlt).trans hv
 have hb1:(w.drew.alloc (.cells ROW 107)).heap[b]?=some (.cells arr el (0,0)):=(Lib.alloc_old w.drew _ b hblt).trans hb
 have hcpA:∀ty dc,(Builtin.copy_ #[36,36] ty #[.slice (some ⟨w.heap.size,i*4,none⟩) (n+1-i) dc,.slice (some ⟨vb,voff,none⟩) 1 vc]).run prog (w.drew.alloc (.cells ROW 107)) =
   .ok (goInt (1:Nat)) ((w.drew.alloc (.cells ROW 107)).setRow w.heap.size (qAR ROW.toList (i*4) ((arv.toList.drop voff).take 4)).toArray):=fun ty dc =>
  qIX T h36 hti (ty:=ty) (o:=i*4) (k:=1) (dLen:=n+1-i) (dCap:=dc) (m:=1) (c2:=vc) (A2:=some ⟨vb,voff,none⟩) (new:=(arv.toList.drop voff).take 4) hg1 (by simp only[Nat.min_def];split<;>omega) (by rw[hsz];omega)
   (by rw[hsz];exact qKK (sz:=4) (k:=1) hv1 (by omega)) (by rw[hsz];simp;omega) h2
 obtain⟨X1,hX1⟩:∃X,X=qAR ROW.toList (i*4) ((arv.toList.drop voff).take 4):=⟨_,rfl⟩
 have hXl:X1.length=ROW.size:=by rw[hX1,qDc _ _ _ (by simp;omega)];simp
 have hfin:∀(e:Ending) (w':World),(e=.returned (.slice (some ⟨w.heap.size,0,none⟩) (n+1) G)∧
   w'=((w.drew.alloc (.cells ROW 107)).setRow w.heap.size X1.toArray).drew.setRow w.heap.size (qAR X1 ((i+1)*4) ((arr.toList.drop (off+i*4)).take ((n-i)*4))).toArray)→∃(ROW:Array Value) (G:Nat),n+1≤G∧G≤9223372036854775807∧ROW.size=G*4∧ROW.toList.take (i*4)=(arr.toList.drop off).take (i*4)∧
   e=.returned (.slice (some ⟨w.heap.size,0,none⟩) (n+1) G)∧
   w'=((w.drew.alloc (.cells ROW 107)).setRow w.heap.size (qAR ROW.toList (i*4) ((arv.toList.drop voff).take 4)).toArray).drew.setRow w.heap.size (qAR (qAR ROW.toList (i*4) ((arv.toList.drop voff).take 4)) ((i+1)*4) ((arr.toList.drop (off+i*4)).take ((n-i)*4))).toArray :=
  fun e w' h=>⟨ROW,G,hGn,hG63,hRs,hRt,h.1,by rw[←hX1];exact h.2⟩
 rw[←hX1]at hcpA
 clear hX1
 have hb2:((w.drew.alloc (.cells ROW 107)).setRow w.heap.size X1.toArray).drew.heap[b]?=some (.cells arr el (0,0)):=(qCJ _ _ _ b (by omega)).trans hb1
 have hg2:((w.drew.alloc (.cells ROW 107)).setRow w.heap.size X1.toArray).drew.heap[w.heap.size]?=some (.cells X1.toArray 107 (0,0)):=setRow_heap _ _ ROW _ 107 (0,0) hg1
 have hcpB:∀ty dc sc,(Builtin.copy_ #[36,36] ty #[.slice (some ⟨w.heap.size,(i+1)*4,none⟩) (n-i) dc,.slice (some ⟨b,off+i*4,none⟩) (n-i) sc]).run prog ((w.drew.alloc (.cells ROW 107)).setRow w.heap.size X1.toArray).drew =
   .ok (goInt (n-i:Nat)) (((w.drew.alloc (.cells ROW 107)).setRow w.heap.size X1.toArray).drew.setRow w.heap.size (qAR X1 ((i+1)*4) ((arr.toList.drop (off+i*4)).take ((n-i)*4))).toArray):=fun ty dc sc =>
  qIX T h36 hti (ty:=ty) (o:=(i+1)*4) (k:=n-i) (dLen:=n-i) (dCap:=dc) (m:=n-i) (c2:=sc) (A2:=some ⟨b,off+i*4,none⟩) (new:=(arr.toList.drop (off+i*4)).take ((n-i)*4)) hg2 (Nat.min_self _) (by rw[hsz];simp[hXl,hRs];omega)
   (by rw[hsz];exact qKK (sz:=4) hb2 (by omega)) (by rw[hsz];simp;omega) (fun v hv=>h1 v (by
    refine List.mem_of_mem_drop (i:=i*4) ?_
    rw[List.drop_take,List.drop_drop,show n*4-i*4=(n-i)*4 by omega]
    exact hv))
 have hcpB':∀ty dc sc,(Builtin.copy_ #[36,36] ty #[.slice (some ⟨w.heap.size,(i+1)*4,none⟩) (n-i) dc,.slice (some ⟨b,off+i*4,none⟩) (n-i) sc]).run prog ((w.alloc (.cells ROW 107)).drew.setRow w.heap.size X1.toArray).drew =
   .ok (goInt (n-i:Nat)) (((w.alloc (.cells ROW 107)).drew.setRow w.heap.size X1.toArray).drew.setRow w.heap.size (qAR X1 ((i+1)*4) ((arr.toList.drop (off+i*4)).take ((n-i)*4))).toArray):=hcpB
 clear hcpB
 have hi0:(0:Int)≤(i:Int)+1:=by omega
 have hin:i≤n:=by omega
 have hin1:(i:Int)≤(n:Int)+1:=by omega
 have hci:¬(c=i+1)∨True:=.inr trivial
 have hci0:¬(c=i):=by omega
 have hGi:¬(G=i):=by omega
 have hGi1:¬(G=i+1):=by omega
 have hic:i≤c:=by omega
 refine Calls.mono ?_ hfin
 go_enter func163,ntmps163
 go_wp2_with (first
  | (at_builtin;refine Lib.wpList_append_run _ rfl _ _ _ _ rfl _ _ rfl rfl _ _ (hrz _) ?_)
  | (refine wpList_copy_runI _ rfl _ _ 36 36 rfl _ _ rfl rfl (hcpA _ _) ?_))
 go_region_law_o (refine step_copy_runI rfl _ _ 36 36 rfl _ _ (by simp[Act.eval,Act.put]) (by simp[Act.eval,Act.put]) (hcpB' _ _ _) ?_)
 go_wp2
 all_goals (go_ret;exact⟨rfl,rfl⟩)
set_option maxHeartbeats 1000000 in
theorem qZB:qWG prog 163 4 40:=by
 intro w a n c i vb voff vc arv elv old fp hs hv hvo hv1 hvm hi hbig ho hn1
 have hvs:voff+4≤arv.size:=by omega
 have hnl:((arv.toList.drop voff).take 4).length=4:=by simp;omega
 obtain⟨s36,b36,z36,h36⟩:=qYu
 obtain⟨ti,hti,hsz,hby,z,hz,hzc⟩:=qW6
 have tS:prog.underlying 36=some (.slice 107):=by kernel_rfl
 have hdx:∀k,TypeDesc.slice 107≠.int k:=fun k h=>by cases h
 have hnew:=qKK (P:=prog) (k:=1) (m:=1) (sz:=4) (c:=vc) hv (by omega)
 rw[Nat.one_mul]at hnew
 have grow:∀(A:Option Addr) (n c:Nat) (old:List Value),c<n+1→2*(n+1)*40≤281474976710656→qKq prog w.heap 4 n (.slice A n c) old→old.length=n*4→
   Calls prog 163 #[.slice A n c,.int .i64 n,.slice (some ⟨vb,voff,none⟩) 1 vc] w fun e w'=>∃b' o' c' arr' el',e=.returned (.slice (some ⟨b',o',none⟩) (n+1) c')∧Chg fp w w'∧(b'∈fp∨w.heap.size≤b')∧b'<w'.heap.size∧
    w'.heap[b']?=some (.cells arr' el' (0,0))∧n+1≤c'∧c'≤qDp∧o'+c'*4≤arr'.size∧(arr'.toList.drop o').take ((n+1)*4)=old.take (n*4)++(arv.toList.drop voff).take 4++old.drop (n*4):=by
  intro A n c old hr hbig hold hol
  obtain⟨G,q1,q2,q3⟩:=AM.run_append_grow T (ty:=36) h36 hti tS hdx (w:=w) (A:=A) (A2:=some ⟨vb,voff,none⟩) (n:=n) (m:=1) (cap:=c) (c2:=vc) (zv:=z) (old:=old) (new:=(arv.toList.drop voff).take 4) hz hr (by unfold qDp;omega) (by rw[hby];omega) (by rw[hsz];exact hold) (by rw[hsz];exact hnew)
  have hq:∀ty,(Builtin.append_ #[36,36] ty #[.slice A n c,.slice (some ⟨vb,voff,none⟩) 1 vc]).run prog w=.ok (.slice (some ⟨w.heap.size,0,none⟩) (n+1) G) (w.drew.alloc (.cells (old.toArray++((arv.toList.drop voff).take 4).toArray++Builtin.zeroCells z.cells (G-(n+1))) 107)):=fun ty=>q3
  refine(qU7 (by omega) hq).mono ?_
  rintro e w' ⟨rfl,rfl⟩
  have hs2:(old.toArray++((arv.toList.drop voff).take 4).toArray++Builtin.zeroCells z.cells (G-(n+1))).size=G*4:=by
   simp[Builtin.zeroCells,hzc,hol]
   omega
  refine⟨w.heap.size,0,G,_,_,rfl,qMd _ _ _,.inr (Nat.le_refl _),?_,heap_alloc_new w.drew _,q1,q2,by rw[hs2];omega,?_⟩
  ·show w.heap.size<(w.heap.push _).size
   simp
  ·rw[List.drop_zero,Array.toList_append,Array.toList_append,List.take_of_length_le (Nat.le_of_eq hol),List.drop_of_length_le (Nat.le_of_eq hol),List.append_nil]
   exact List.take_left' (by simp[hol];omega)
 by_cases hin:i=n
 ·subst hin
  rcases hs with⟨rfl,rfl,rfl,rfl⟩|⟨b,off,arr,el,rfl,hb,hnc,hcm,hoff,hne,rfl,rfl⟩
  ·exact grow a 0 0 [] (by omega) hbig qGt rfl
  ·have hol:((arr.toList.drop off).take (i*4)).length=i*4:=by simp;omega
   by_cases hr:i+1≤c
   ·have hq:∀ty,(Builtin.append_ #[36,36] ty #[.slice (some ⟨b,off,none⟩) i c,.slice (some ⟨vb,voff,none⟩) 1 vc]).run prog w=.ok (.slice (some ⟨b,off,none⟩) (i+1) c) (w.setRow b (qAR arr.toList (off+i*4) ((arv.toList.drop voff).take 4)).toArray):=fun ty=>by
     have:=AM.run_append_fit T (ty:=ty) h36 hti tS hdx (w:=w) (bk:=b) (off:=off) (n:=i) (m:=1) (cap:=c) (c2:=vc) (A2:=some ⟨vb,voff,none⟩) (new:=(arv.toList.drop voff).take 4) hb hr (by rw[hsz];omega) (by rw[hsz];exact hnew) (by rw[hsz];omega) hn1
     rw[hsz]at this
     exact this
    refine(qU7 (by unfold qDp at hcm;omega) hq).mono ?_
    rintro e w' ⟨rfl,rfl⟩
    have hsl:(qAR arr.toList (off+i*4) ((arv.toList.drop voff).take 4)).toArray.size=arr.size:=by
     rw[List.size_toArray,qDc _ _ _ (by rw[hnl];simp;omega)];simp
    refine⟨b,off,c,_,el,rfl,qIe w b arr _ el (0,0) hb hsl,.inl (by simp),?_,setRow_heap _ _ arr _ el (0,0) hb,hr,hcm,by rw[hsl];exact hoff,?_⟩
    ·rw[qEv];exact(Array.getElem?_eq_some_iff.1 hb).1
    ·have:=qMJ arr.toList ((arv.toList.drop voff).take 4) off (i*4) (by simp;omega)
     rw[hnl,show i*4+4=(i+1)*4 by omega]at this
     rw[this,List.take_of_length_le (Nat.le_of_eq hol),List.drop_of_length_le (Nat.le_of_eq hol),List.append_nil]
   ·exact grow (some ⟨b,off,none⟩) i c _ (by omega) hbig (qKK (sz:=4) hb (by omega)) hol
 ·rcases hs with⟨rfl,_⟩|⟨b,off,arr,el,rfl,hb,hnc,hcm,hoff,hne,rfl,rfl⟩
  ·omega
  ·have hlt:i<n:=by omega
   have htl:((arr.toList.drop (off+i*4)).take ((n-i)*4))=((arr.toList.drop off).take (n*4)).drop (i*4):=by
    rw[List.drop_take,List.drop_drop,show n*4-i*4=(n-i)*4 by omega]
   have htn:((arr.toList.drop (off+i*4)).take ((n-i)*4)).length=(n-i)*4:=by simp;omega
   have htk:((arr.toList.drop off).take (n*4)).take (i*4)=(arr.toList.drop off).take (i*4):=by rw[List.take_take,Nat.min_eq_left (by omega)]
   have hblt:=(Array.getElem?_eq_some_iff.1 hb).1
   by_cases hr:n+1≤c
   ·refine(qTt hlt hr (by unfold qDp at hcm;exact hcm) hb hoff hv hvs (fun e=>hne e.symm) ho hn1).mono ?_
    rintro e w' ⟨rfl,rfl⟩
    have hb0:w.drew.heap[b]?=some (.cells arr el (0,0)):=hb
    have hX1:(qAR arr.toList (off+(i+1)*4) ((arr.toList.drop (off+i*4)).take ((n-i)*4))).toArray.size=arr.size:=by
     rw[List.size_toArray,qDc _ _ _ (by rw[htn];simp;omega)];simp
    have hb1:=setRow_heap w.drew b arr (qAR arr.toList (off+(i+1)*4) ((arr.toList.drop (off+i*4)).take ((n-i)*4))).toArray el (0,0) hb0
    have hX2:(qAR (qAR arr.toList (off+(i+1)*4) ((arr.toList.drop (off+i*4)).take ((n-i)*4))) (off+i*4) ((arv.toList.drop voff).take 4)).toArray.size=arr.size:=by
     rw[List.size_toArray,qDc _ _ _ (by rw[hnl,←List.size_toArray,hX1];omega),←List.size_toArray,hX1]
    refine⟨b,off,c,_,el,rfl,(qJB [b] w).trans ((qIe w.drew b arr _ el (0,0) hb0 hX1).trans (qIe _ b _ _ el (0,0) hb1 (hX2.trans hX1.symm)) fun x hx=>.inl hx) fun x hx=>.inl hx,.inl (by simp),?_,setRow_heap _ _ _ _ el (0,0) hb1,hr,hcm,by rw[hX2];exact hoff,?_⟩
    ·rw[qEv,qEv];exact hblt
    ·have:=qTN arr.toList ((arv.toList.drop voff).take 4) ((arr.toList.drop (off+i*4)).take ((n-i)*4)) off (i*4) (by rw[hnl,htn];simp;omega)
     rw[hnl,htn,show off+i*4+4=off+(i+1)*4 by omega,show i*4+4+(n-i)*4=(n+1)*4 by omega]at this
     rw[this,htk,htl]
   ·refine(qVZ hlt hnc (by omega) hbig hb hoff hv hvs ho hn1).mono ?_
    rintro e w' ⟨ROW,G,q1,q2,q3,q4,rfl,rfl⟩
    have hg1:(w.drew.alloc (.cells ROW 107)).heap[w.heap.size]?=some (.cells ROW 107 (0,0)):=heap_alloc_new w.drew _
    have hX1:(qAR ROW.toList (i*4) ((arv.toList.drop voff).take 4)).toArray.size=ROW.size:=by
     rw[List.size_toArray,qDc _ _ _ (by rw[hnl];simp;omega)];simp
    have hg2:((w.drew.alloc (.cells ROW 107)).setRow w.heap.size (qAR ROW.toList (i*4) ((arv.toList.drop voff).take 4)).toArray).drew.heap[w.heap.size]?=some (.cells (qAR ROW.toList (i*4) ((arv.toList.drop voff).take 4)).toArray 107 (0,0)):=setRow_heap _ _ ROW _ 107 (0,0) hg1
    have hX2:(qAR (qAR ROW.toList (i*4) ((arv.toList.drop voff).take 4)) ((i+1)*4) ((arr.toList.drop (off+i*4)).take ((n-i)*4))).toArray.size=ROW.size:=by
     rw[List.size_toArray,qDc _ _ _ (by rw[htn,←List.size_toArray,hX1];omega),←List.size_toArray,hX1]
    have hsz0:(w.drew.alloc (.cells ROW 107)).heap.size=w.heap.size+1:=by
     show (w.heap.push _).size=_
     simp
    refine⟨w.heap.size,0,G,_,107,rfl,((qMd [b] w _).trans ((qIe _ _ ROW _ 107 (0,0) hg1 hX1).trans ((qJB [w.heap.size] _).trans (qIe _ _ _ _ 107 (0,0) hg2 (hX2.trans hX1.symm)) fun x hx=>.inl hx) fun x hx=>.inl hx) fun x hx=>.inr (by simp at hx;omega)),.inr (Nat.le_refl _),?_,setRow_heap _ _ _ _ 107 (0,0) hg2,q1,by unfold qDp;exact q2,by rw[hX2];omega,?_⟩
    ·rw[qEv]
     show w.heap.size<((w.drew.alloc (.cells ROW 107)).setRow _ _).heap.size
     rw[qEv,hsz0]
     omega
    ·have h1:=qMJ (qAR ROW.toList (i*4) ((arv.toList.drop voff).take 4)) ((arr.toList.drop (off+i*4)).take ((n-i)*4)) 0 ((i+1)*4) (by rw[←List.size_toArray,hX1];omega)
     have h2:=qMJ ROW.toList ((arv.toList.drop voff).take 4) 0 (i*4) (by simp;omega)
     rw[htn,Nat.zero_add,List.drop_zero,List.drop_zero,show (i+1)*4+(n-i)*4=(n+1)*4 by omega]at h1
     rw[hnl,Nat.zero_add,List.drop_zero,List.drop_zero,show i*4+4=(i+1)*4 by omega,q4]at h2
     rw[List.drop_zero]
     rw[h2]at h1
     rw[h1,htk,htl]
end
def qDo (x:List Element) (i:Int) (v:List Element):Option (List Element):=(qAr (decide (0≤i)&&decide (i≤(x.length:Int))&&decide (v.length=1)&&qAf 40 (x.length+1))).bind fun _=>some (x.take i.toNat++v++x.drop i.toNat)
theorem qJg (x:List Element) (i:Int) (v:List Element) (r:List Element) (hH:qDo x i v=some r):qFk prog 163 [.w 4 (x.map ze5),.v (.int .i64 i),.w 4 (v.map ze5)] [.u,.u,.u] (.w 4 (r.map ze5)):=by
 obtain⟨u,hu,hr⟩:=zB hH
 cases zS hr
 exact qVM ⟨_,func163,rfl,by decide⟩ qZB (fun _=>rfl) (fun _=>rfl) x i v (qAQ hu)
def qGD (fl:Nat) (c:Code) (elements:List Element):Option (Code×Bool) :=
 (qDR c.limits).bind fun x1 =>
 (qBG fl (Code.mk elements x1 c.repeats c.bonus c.keeps c.fall)).bind fun x3 =>
 cond (!x3)
  (some ((Code.mk [] [] 0 0 0 0),false))
  (some ((Code.mk elements x1 c.repeats c.bonus c.keeps c.fall),true))
theorem qLu (fl:Nat) (c:Code) (elements:List Element) (r:(Code×Bool)) (hH:qGD fl c elements=some r):qFk prog 162 [.g (ze4 c),.w 4 (elements.map ze5)] [.u,.u] (.t [.g (qHx r.1),.v (.bool r.2)]):=by
 refine qR5 T func162 rfl (by decide) rfl rfl ?_
 intro L
 show AW _ _ _ (⟨[(0,.g (ze4 c)),(1,.R 1)],[(1,ro 4 ze5 elements)],17,[(1,L 1)]⟩:St)
 refine go ?_
 refine AO.x (bxs T 2) ?_
 refine AO.x (als T 3) (go ?_)
 refine AO.se T [.R 1,sv ze0 c.limits,c.repeats,c.bonus,c.keeps,c.fall] ?_
 refine go ?_
 obtain⟨x1,hx2,hH⟩:=zB hH
 refine go ?_
 refine AO.x (qAU rfl 4 rfl rfl rfl (qIB _ _ (hx2)) rfl rfl rfl) ?_
 refine AO.pu T ?_
 refine AO.se T [.R 1,.R 4,c.repeats,c.bonus,c.keeps,c.fall] ?_
 refine go ?_
 obtain⟨x3,hx4,hH⟩:=zB hH
 refine go ?_
 refine AO.w (zLV rfl rfl rfl (es:=[.g (ze4 (Code.mk elements x1 c.repeats c.bonus c.keeps c.fall))]) ⟨qDs (LendL.cons ((.rowR rfl (.map fun y=>.vs rfl))) (LendL.cons ((.rowR rfl (.map fun y=>.vs rfl))) (LendL.cons (.free rfl) (LendL.cons (.free rfl) (LendL.cons (.free rfl) (LendL.cons (.free rfl) LendL.nil)))))),trivial⟩ (qFb fl _ _ (hx4)) (qAJ _) rfl) (go ?_)
 refine AW.cH hH (fun _ hH=>?_) (fun _ hH=>?_)
 refine go ?_
 refine AO.se T [.w 0 [],.w 0 [],(0:Int),(0:Int),(0:Int),(0:Int)] ?_
 refine go ?_
 have hR:=zS hH;subst hR
 exact⟨trivial,rfl,_,[],[],rfl,zG (.c .u) (zG (.c .u) (zGn)),.t (zG (.g (zC .nil (zC .nil (zC .v (zC .v (zC .v (zC .v (zCn)))))))) (zG (.c .v) (zGn))),by decide⟩
 refine go ?_
 refine AO.se T [.R 1,.R 4,c.repeats,c.bonus,c.keeps,c.fall] ?_
 refine go ?_
 have hR:=zS hH;subst hR
 exact⟨trivial,rfl,_,[1,4],[],rfl,zG (.c .u) (zG (.c .u) (zGn)),.t (zG (.g (zC (.rowR rfl) (zC (.rowR rfl) (zC .v (zC .v (zC .v (zC .v (zCn)))))))) (zG (.c .v) (zGn))),by decide⟩
def qBq (c:Code) (x:Element):Nat→Int→Option Int
 |0,_=>none
 |k15+1,v21 =>
  (opt (decide (v21<(c.elements.length:Int))) default (qAT c.elements v21)).bind fun x23 =>
  cond (decide (v21<(c.elements.length:Int))&&(qMv x23.name x.name))
   (qBq c x k15 (w64 (v21+1)))
   (some v21)
def qFA (fl:Nat) (c:Code) (x:Element):Option (Code×Bool) :=
 (qBG fl c).bind fun x1 =>
 cond (!x1)
  (some ((Code.mk [] [] 0 0 0 0),false))
  ((qBq c x fl 0).bind fun v12 =>
  (qAr (qAf 40 c.elements.length)).bind fun u25 =>
  (qDo c.elements v12 [x]).bind fun x27 =>
  (qGD fl c x27).bind fun x29 =>
  some (x29.1,x29.2))
theorem qMa (fl:Nat) (c:Code) (x:Element) (r:(Code×Bool)) (hH:qFA fl c x=some r):qAC prog 117 [.g (ze4 c),.g (ze5 x)] (.t [.g (qHx r.1),.v (.bool r.2)]):=by
 refine fns T func117 ?_
 refine AW.q (AW.r (AO.x (bxs T 1) ?_))
 refine AO.x (bxs T 2) ?_
 refine AO.x (als T 3) ?_
 refine AO.pu T ?_
 refine AO.n (AW.q (AW.q ?_))
 obtain⟨x1,hx2,hH⟩:=zB hH
 refine AW.r (AO.pu T (d:=.g (ze4 c)) ?_)
 refine AO.w (cVs (qFb fl _ _ (hx2))) ?_
 refine AO.pu T ?_
 refine AO.n (AW.c (b:=(!x1)) rfl (fun hc=>?_) (fun hc=>?_))
 replace hH:=condT hc hH
 refine AW.q (AW.r (AO.pu T (d:=.g [.w 0 [],.w 0 [],(0:Int),(0:Int),(0:Int),(0:Int)]) ?_))
 refine AO.se T [.w 0 [],.w 0 [],(0:Int),(0:Int),(0:Int),(0:Int)] ?_
 refine AO.pu T ?_
 refine AO.n (AW.t ?_)
 have hR:=zS hH;subst hR
 exact retQ.i [] rfl (.t (zG (.g (zC .nil (zC .nil (zC .v (zC .v (zC .v (zC .v (zCn)))))))) (zG (.c .v) (zGn))))
 replace hH:=condF hc hH
 refine AW.k (AW.q (AW.r ?_))
 refine AO.pu T ?_
 refine AO.n ?_
 obtain⟨o13,hH,hK14⟩:=zB hH
 refine AW.seqJ (fun s:Int=>(⟨[(2,.p 1 0),(3,.p 2 0),(4,.p 3 0),(6,s)],[(1,.box (ze4 c)),(2,.box (ze5 x)),(3,.box [.w 0 [],.w 0 [],(0:Int),(0:Int),(0:Int),(0:Int)])],41,[]⟩:St)) (fun s=>s=o13) ?_ ?_
 refine AW.b (AW.loopS (fun s:Nat×Int=>(⟨[(2,.p 1 0),(3,.p 2 0),(4,.p 3 0),(6,s.2)],[(1,.box (ze4 c)),(2,.box (ze5 x)),(3,.box [.w 0 [],.w 0 [],(0:Int),(0:Int),(0:Int),(0:Int)])],41,[]⟩:St)) (fun s=>qBq c x s.1 s.2=some o13) (fun s=>s.1) (fl,0) hH ?_ ?_)
 exact Le.ct 0 0
 rintro⟨k15,v21⟩ hH
 replace hH:qBq c x k15 v21=some o13:=hH
 try dsimp only
 rcases k15 with _|k15
 cases (show none=some _ from hH)
 rw[qBq]at hH
 refine AW.q (AW.q ?_)
 obtain⟨x23,hx24,hH⟩:=zB hH
 refine AW.drawn 14 4 [] mix (by kernel_rfl) rfl ?_
 iterate 3 refine AD.pu T ?_
 refine AD.vv (qLn T) ?_
 iterate 2 refine AD.pu T ?_
 refine AD.pureG T [] rfl trivial rfl rfl ?_
 refine AD.pureG T [17] rfl ⟨fun h=>h,trivial⟩ rfl rfl ?_
 refine AD.pureG T [] rfl trivial rfl rfl ?_
 refine AD.guard [18,19] rfl ⟨fun h=>h,fun h=>h,trivial⟩ (fun hg=>zX T rfl rfl rfl rfl rfl (qEy hx24 hg) rfl) rfl ?_
 refine AD.pureG T [20] rfl ⟨fun h=>h,trivial⟩ rfl rfl ?_
 refine AD.pureG T [21] rfl ⟨fun h=>h,trivial⟩ rfl rfl ?_
 refine AD.pureG T [] rfl trivial rfl rfl ?_
 refine AD.pureG T [23] rfl ⟨fun h=>h,trivial⟩ rfl rfl ?_
 refine AD.nil (AO.g T [22,24] rfl ⟨fun h=>h,fun h=>h,trivial⟩ rfl rfl ?_)
 refine AO.w qYg ?_
 refine AO.n (AW.c (b:=(decide (v21<(c.elements.length:Int))&&(qMv x23.name x.name))) rfl (fun hc=>?_) (fun hc=>?_))
 replace hH:=condT hc hH
 refine AW.k (AW.b ?_)
 refine AW.r (AO.pu T ?_)
 refine AO.w aws ?_
 refine AO.pu T ?_
 refine AO.n ?_
 refine⟨(k15,w64 (v21+1)),hH,Nat.lt_succ_self _,?_⟩
 exact Le.ct 0 0
 replace hH:=condF hc hH
 refine AW.exit ?_
 refine⟨_,zS hH,?_⟩
 exact Le.ct 0 0
 rintro v12 hs
 subst hs
 replace hH:=hK14
 try dsimp only[qK9,qJO]at hH
 try dsimp only
 refine AW.q ?_
 obtain⟨u25,hx26,hH⟩:=zB hH
 obtain⟨x27,hx28,hH⟩:=zB hH
 obtain⟨x29,hx30,hH⟩:=zB hH
 refine AW.drawn 12 4 [] mix (by kernel_rfl) rfl ?_
 refine AD.p T (d:=.g (ze4 c)) rfl rfl rfl ?_
 refine AD.v (FStep.mk0 T rfl rfl rfl rfl rfl) ?_
 iterate 2 refine AD.pu T ?_
 refine AD.q (FStep.app_ws T rfl rfl rfl rfl rfl rfl rfl (by decide) (by decide) rfl rfl (fun _=>rfl) (qAQ (hx26)) rfl) (by simp[qAu]) (Nat.le_succ _) rfl ?_
 refine AD.pu T ?_
 refine AD.p T (d:=.g (ze5 x)) rfl rfl rfl ?_
 refine AD.q (FStep.mk T (f:=ze5) (l:=[x]) rfl rfl rfl rfl rfl rfl rfl rfl rfl (fun _=>rfl) rfl rfl rfl rfl) (by simp[qAu]) (Nat.le_succ _) rfl ?_
 refine AD.kk (FStep.callM rfl rfl rfl rfl (es:=[.w 4 (c.elements.map ze5),.v (.int .i64 v12),.w 4 ([x].map ze5)]) (outs:=[.u,.u,.u]) (ids:=[4,5]) (by exact zG (.c (.rowR rfl)) (zG (.c .v) (zG (.c (.rowR rfl)) (zGn)))) (by decide) (.inr (by exact(show ([]:List Nat).Nodup∧∀i∈([]:List Nat),i∈([4,5]:List Nat) from by decide))) (by rfl) (qJg _ _ _ _ (hx28)) rfl (by rfl) rfl) ?_
 refine AD.kk (FStep.callM rfl rfl rfl rfl (es:=[.g (ze4 c),.w 4 (x27.map ze5)]) (outs:=[.u,.u]) (ids:=[6]) (by exact zG (.g (zC .s (zC .s (zC .v (zC .v (zC .v (zC .v (zCn)))))))) (zG (.c (.rowR rfl)) (zGn))) (by decide) (.inr (by exact(show ([]:List Nat).Nodup∧∀i∈([]:List Nat),i∈([6]:List Nat) from by decide))) (by rfl) (qLu fl _ _ _ (hx30)) rfl (by rfl) rfl) ?_
 refine AD.p T (d:=.g [.R 7,.R 8,x29.1.repeats,x29.1.bonus,x29.1.keeps,x29.1.fall]) rfl rfl rfl ?_
 refine AD.pu T ?_
 refine AD.nil (AO.se T [.R 7,.R 8,x29.1.repeats,x29.1.bonus,x29.1.keeps,x29.1.fall] ?_)
 refine AO.pu T ?_
 refine AO.n (AW.t ?_)
 have hR:=zS hH;subst hR
 exact retQ.i [7,8] rfl (.t (zG (.g (zC (.rowR rfl) (zC (.rowR rfl) (zC .v (zC .v (zC .v (zC .v (zCn)))))))) (zG (.c .v) (zGn))))
def qBC (ok:Bool):Option ByteArray :=
 cond ok
  (some (⟨#[111,107]⟩:ByteArray))
  (some (⟨#[110,111]⟩:ByteArray))
theorem qB7 (ok:Bool) (r:ByteArray) (hH:qBC ok=some r):qAC prog 161 [.v (.bool ok)] (.v (.string r)):=by
 refine fns T func161 ?_
 refine go ?_
 refine AW.cH hH (fun _ hH=>?_) (fun _ hH=>?_)
 refine go ?_
 exact fin
 refine go ?_
 exact fin
def qAp (sA:ScriptState) (c:Code) (ok:Bool):Option (ScriptState×ByteArray) :=
 cond ok
  ((qBC ok).bind fun x1 =>
  some ((ScriptState.mk c sA.performance sA.factor sA.results),x1))
  ((qBC ok).bind fun x3 =>
  some (sA,x3))
theorem qEN (sA:ScriptState) (c:Code) (ok:Bool) (r:(ScriptState×ByteArray)) (hH:qAp sA c ok=some r):qFk prog 116 [.pn (qHm sA),.g (qHx c),.v (.bool ok)] [.pn (qHm r.1),.u,.u] (.v (.string r.2)):=by
 refine qFI T func116 rfl (by decide) rfl rfl [.p 1 0,.g [.R 4,.R 5,c.repeats,c.bonus,c.keeps,c.fall],.v (.bool ok)] [(5,ro 1 ze0 c.limits),(4,ro 4 ze5 c.elements),(1,.box (qH5 sA 2 3)),(3,ro 1 ze0 sA.code.limits),(2,ro 4 ze5 sA.code.elements)] 6 (by kernel_rfl) [5,4,1] rfl rfl ?_
 intro L
 show AW _ _ _ (⟨[(0,.p 1 0),(1,.g [.R 4,.R 5,c.repeats,c.bonus,c.keeps,c.fall]),(2,.v (.bool ok))],[(5,ro 1 ze0 c.limits),(4,ro 4 ze5 c.elements),(1,.box (qH5 sA 2 3)),(3,ro 1 ze0 sA.code.limits),(2,ro 4 ze5 sA.code.elements)],14,[(5,L 5),(4,L 4),(1,L 1)]⟩:St)
 refine go ?_
 refine AO.x (bxs T 6) (go ?_)
 refine AW.cH hH (fun _ hH=>?_) (fun _ hH=>?_)
 refine go ?_
 refine AO.se T [.R 4,.R 5,c.repeats,c.bonus,c.keeps,c.fall,sv ze1 sA.performance.items,sv ze3 sA.performance.marks.grades,sv ze3 sA.performance.marks.components,sA.performance.slips.falls,sA.performance.slips.seconds,sA.performance.slips.other,sA.factor,sv ze6 sA.results] ?_
 refine go ?_
 obtain⟨x1,hx2,hH⟩:=zB hH
 refine go ?_
 refine AO.w (cVs (qB7 _ _ (hx2))) (go ?_)
 exact qET
 refine go ?_
 obtain⟨x3,hx4,hH⟩:=zB hH
 refine go ?_
 refine AO.w (cVs (qB7 _ _ (hx4))) (go ?_)
 exact qET
def qAh (fl:Nat) (sA:ScriptState) (command:ByteArray) (l:List Int):Option (ScriptState×ByteArray) :=
 (qAr (qAf 40 sA.code.elements.length)).bind fun u1 =>
 (qGD fl sA.code sA.code.elements).bind fun x3 =>
 cond (decide (command=(⟨#[114,117,108,101,115]⟩:ByteArray)))
  ((qAT l 0).bind fun x6 =>
  (qAT l 1).bind fun x8 =>
  (qAT l 2).bind fun x10 =>
  (qAT l 3).bind fun x12 =>
  (qBG fl (Code.mk x3.1.elements x3.1.limits x6 x8 x10 x12)).bind fun x14 =>
  (qAp sA (Code.mk x3.1.elements x3.1.limits x6 x8 x10 x12) x14).bind fun x16 =>
  some (x16.1,x16.2))
  ((qAT l 0).bind fun x18 =>
  (qE2 x18).bind fun x20 =>
  cond (!x20)
   (some (sA,(⟨#[110,111]⟩:ByteArray)))
   ((qAT l 1).bind fun x22 =>
   (qAT x3.1.limits x18).bind fun x24 =>
   (qBG fl (Code.mk x3.1.elements (x3.1.limits.set x18.toNat x22) x3.1.repeats x3.1.bonus x3.1.keeps x3.1.fall)).bind fun x26 =>
   (qAp sA (Code.mk x3.1.elements (x3.1.limits.set x18.toNat x22) x3.1.repeats x3.1.bonus x3.1.keeps x3.1.fall) x26).bind fun x28 =>
   some (x28.1,x28.2)))
theorem qG0 (fl:Nat) (sA:ScriptState) (command:ByteArray) (l:List Int) (r:(ScriptState×ByteArray)) (hH:qAh fl sA command l=some r):qFk prog 118 [.pn (qHm sA),.v (.string command),.s (List.map ze0 l)] [.pn (qHm r.1),.u,.u] (.v (.string r.2)):=by
 refine qFI T func118 rfl (by decide) rfl rfl [.p 1 0,.v (.string command),sv ze0 l] [(1,.box (qH5 sA 2 3)),(3,ro 1 ze0 sA.code.limits),(2,ro 4 ze5 sA.code.elements)] 4 (by kernel_rfl) [1] rfl rfl ?_
 intro L
 show AW _ _ _ (⟨[(0,.p 1 0),(1,.v (.string command)),(2,sv ze0 l)],[(1,.box (qH5 sA 2 3)),(3,ro 1 ze0 sA.code.limits),(2,ro 4 ze5 sA.code.elements)],66,[(1,L 1)]⟩:St)
 refine go ?_
 obtain⟨u1,hx2,x3,hx4,hH⟩:=qAH hH
 refine AW.drawn 17 4 [] mix (by kernel_rfl) rfl ?_
 refine go ?_
 refine AD.v (FStep.mk0 T rfl rfl rfl rfl rfl) ?_
 refine go ?_
 refine AD.q (FStep.app_wv T rfl rfl rfl rfl rfl rfl rfl (by decide) rfl rfl rfl (fun _=>rfl) (qAQ (hx2)) rfl) (by simp[qAu]) (Nat.le_succ _) rfl ?_
 refine AD.kk (FStep.callGL rfl rfl rfl rfl rfl (e1:=.g (ze4 sA.code)) (qDs (LendL.cons ((.rowR rfl (.map fun y=>.vs rfl))) (LendL.cons ((.rowR rfl (.map fun y=>.vs rfl))) (LendL.cons (.free rfl) (LendL.cons (.free rfl) (LendL.cons (.free rfl) (LendL.cons (.free rfl) LendL.nil))))))) (qLu fl _ _ _ (hx4)) (qMO (zfl (.cons (qRu (zfl (.cons (qEZ (fun y=>(.cons (qAJ _) (.cons (qAJ _) (.cons (qAJ _) (.cons (qAJ _) .nil)))))) (.cons (qEZ (fun y=>(.cons (qAJ _) .nil))) (.cons (qAJ _) (.cons (qAJ _) (.cons (qAJ _) (.cons (qAJ _) .nil)))))))) (.cons (qAJ _) .nil)))) rfl rfl rfl) ?_
 refine go ?_
 refine AD.q (FStep.alloc T rfl rfl rfl rfl rfl rfl) (by simp[qAu]) (Nat.le_succ _) rfl ?_
 refine AD.kk (FStep.store_p T rfl rfl rfl rfl rfl rfl rfl rfl rfl rfl rfl) ?_
 refine go ?_
 refine AW.cH hH (fun _ hH=>?_) (fun _ hH=>?_)
 refine AW.q ?_
 obtain⟨x6,hx7,x8,hx9,x10,hx11,hH⟩:=qA9 hH
 obtain⟨x12,hx13,hH⟩:=zB hH
 refine AW.drawn 18 8 [7] mix (by kernel_rfl) rfl ?_
 refine go ?_
 refine AD.kk (FStep.store_p T rfl rfl rfl rfl rfl rfl rfl rfl rfl rfl rfl) ?_
 refine AD.pu T ?_
 refine AD.kk (FStep.store_p T rfl rfl rfl rfl rfl rfl rfl rfl rfl rfl rfl) ?_
 refine AD.pu T ?_
 refine AD.kk (FStep.store_p T rfl rfl rfl rfl rfl rfl rfl rfl rfl rfl rfl) ?_
 refine go ?_
 refine AO.se T [.R 5,.R 6,x6,x8,x10,x12] ?_
 refine AO.n (AW.le (Le.ct 0 0 (σ':=(⟨[(0,.p 1 0),(7,.p 7 0)],[(1,.box (qH5 sA 2 3)),(2,ro 4 ze5 sA.code.elements),(3,ro 1 ze0 sA.code.limits),(5,ro 4 ze5 x3.1.elements),(6,ro 1 ze0 x3.1.limits),(7,.box [.R 5,.R 6,x6,x8,x10,x12])],66,[(1,L 1)]⟩:St)) (hpin:=⟨⟨rfl,rfl⟩,trivial⟩)) ?_)
 refine AW.q ?_
 obtain⟨x14,hx15,x16,hx17,hH⟩:=qAH hH
 refine AW.drawn 4 8 [] mix (by kernel_rfl) rfl ?_
 refine go ?_
 refine AD.vv (zLV rfl rfl rfl (es:=[.g (ze4 (Code.mk x3.1.elements x3.1.limits x6 x8 x10 x12))]) ⟨qDs (LendL.cons ((.rowR rfl (.map fun y=>.vs rfl))) (LendL.cons ((.rowR rfl (.map fun y=>.vs rfl))) (LendL.cons (.free rfl) (LendL.cons (.free rfl) (LendL.cons (.free rfl) (LendL.cons (.free rfl) LendL.nil)))))),trivial⟩ (qFb fl _ _ (hx15)) (qAJ _) rfl) ?_
 refine AD.nil (AO.x (qAc (qH5 x16.1 8 9) [(9,ro 1 ze0 x16.1.code.limits),(8,ro 4 ze5 x16.1.code.elements)] 10 (by kernel_rfl) rfl 8 rfl rfl rfl rfl (es:=[.pn (qHm sA),.g (qHx (Code.mk x3.1.elements x3.1.limits x6 x8 x10 x12)),.v (.bool x14)]) (us:=[.u,.u]) (cs:=qHm x16.1) (ids:=[1,2,3,5,6]) (by exact zG (.pb rfl (zC (.rowR rfl) (zC (.rowR rfl) (zC .v (zC .v (zC .v (zC .v (zC .s (zC .s (zC .s (zC .v (zC .v (zC .v (zC .v (zC .s (zCn)))))))))))))))) (zG (.g (zC (.rowR rfl) (zC (.rowR rfl) (zC .v (zC .v (zC .v (zC .v (zCn)))))))) (zG (.c .v) (zGn)))) (by decide) (by decide) (qEN _ _ _ _ (hx17)) rfl rfl (by rfl) rfl) (go ?_))
 exact qET
 refine go ?_
 obtain⟨x18,hx19,x20,hx21,hH⟩:=qAH hH
 refine go ?_
 refine AO.w (cVs (qKR _ _ (hx21))) ?_
 refine gs2 ?_
 refine AW.le (Le.ct 0 0 (σ':=(⟨[(0,.p 1 0),(2,sv ze0 l),(7,.p 7 0),(51,.v (.bool (!x20)))],[(1,.box (qH5 sA 2 3)),(2,ro 4 ze5 sA.code.elements),(3,ro 1 ze0 sA.code.limits),(5,ro 4 ze5 x3.1.elements),(6,ro 1 ze0 x3.1.limits),(7,.box [.R 5,.R 6,x3.1.repeats,x3.1.bonus,x3.1.keeps,x3.1.fall])],66,[(1,L 1)]⟩:St)) (hpin:=⟨⟨rfl,rfl⟩,trivial⟩)) ?_
 refine AW.cH hH (fun _ hH=>?_) (fun _ hH=>?_)
 refine go ?_
 exact qET
 refine go ?_
 obtain⟨x22,hx23,x24,hx25,hH⟩:=qAH hH
 refine AW.drawn 8 10 [] mix (by kernel_rfl) rfl ?_
 refine go ?_
 refine AO.x (zSr T rfl rfl rfl rfl rfl (zgG (hx25)) rfl rfl rfl rfl (u':=x22) rfl rfl) (go ?_)
 obtain⟨x26,hx27,x28,hx29,hH⟩:=qAH hH
 refine AW.drawn 4 10 [] mix (by kernel_rfl) rfl ?_
 refine go ?_
 refine AD.vv (zLV rfl rfl rfl (es:=[.g (ze4 (Code.mk x3.1.elements (x3.1.limits.set x18.toNat x22) x3.1.repeats x3.1.bonus x3.1.keeps x3.1.fall))]) ⟨qDs (LendL.cons ((.rowR rfl (.map fun y=>.vs rfl))) (LendL.cons ((.rowR rfl (.map fun y=>.vs rfl))) (LendL.cons (.free rfl) (LendL.cons (.free rfl) (LendL.cons (.free rfl) (LendL.cons (.free rfl) LendL.nil)))))),trivial⟩ (qFb fl _ _ (hx27)) (qAJ _) rfl) ?_
 refine AD.nil (AO.x (qAc (qH5 x28.1 10 11) [(11,ro 1 ze0 x28.1.code.limits),(10,ro 4 ze5 x28.1.code.elements)] 12 (by kernel_rfl) rfl 10 rfl rfl rfl rfl (es:=[.pn (qHm sA),.g (qHx (Code.mk x3.1.elements (x3.1.limits.set x18.toNat x22) x3.1.repeats x3.1.bonus x3.1.keeps x3.1.fall)),.v (.bool x26)]) (us:=[.u,.u]) (cs:=qHm x28.1) (ids:=[1,2,3,5,6]) (by exact zG (.pb rfl (zC (.rowR rfl) (zC (.rowR rfl) (zC .v (zC .v (zC .v (zC .v (zC .s (zC .s (zC .s (zC .v (zC .v (zC .v (zC .v (zC .s (zCn)))))))))))))))) (zG (.g (zC (.rowR rfl) (zC (.rowR rfl) (zC .v (zC .v (zC .v (zC .v (zCn)))))))) (zG (.c .v) (zGn)))) (by decide) (by decide) (qEN _ _ _ _ (hx29)) rfl rfl (by rfl) rfl) (go ?_))
 exact qET
def qGd (m:Marks) (judge:Int):Option Bool :=
 (qDq m).bind fun x1 =>
 (opt x1 default (qAx m)).bind fun x3 =>
 (opt x1 default (qAM judge 0 (w64 (x3-1)))).bind fun x5 =>
 some (x1&&x5)
theorem qKj (m:Marks) (judge:Int) (r:Bool) (hH:qGd m judge=some r):qAC prog 226 [.g (qI2 m),judge] (.v (.bool r)):=by
 refine fns T func226 ?_
 refine go ?_
 refine AO.x (bxs T 1) (go ?_)
 obtain⟨x1,hx2,x3,hx4,x5,hx6,hH⟩:=qA9 hH
 refine go ?_
 refine AO.w (cVs (qIk _ _ (hx2))) ?_
 refine AO.pu T ?_
 refine AO.g0 T ?_
 refine AO.g T (d:=.g [sv ze3 m.grades,sv ze3 m.components]) [] rfl trivial rfl rfl ?_
 refine AO.d1 9 (fun hg=>cVs (qER _ _ (qEy hx4 hg))) ?_
 refine AO.d1 10 (fun hg=>aws) ?_
 refine AO.d2 8 11 (fun hg=>cVs (qAP _ _ _ _ (qEy hx6 hg))) ?_
 refine go ?_
 exact fin
def qGO (m:Marks):Option (Marks×Bool) :=
 (qDq m).bind fun x1 =>
 cond (!x1)
  (some ((Marks.mk [] []),false))
  (some (m,true))
theorem qLE (m:Marks) (r:(Marks×Bool)) (hH:qGO m=some r):qAC prog 227 [.g (qI2 m)] (.t [.g (qI2 r.1),.v (.bool r.2)]):=by
 refine fns T func227 ?_
 refine go ?_
 refine AO.x (bxs T 1) ?_
 refine AO.x (als T 2) (go ?_)
 obtain⟨x1,hx2,hH⟩:=zB hH
 refine go ?_
 refine AO.w (cVs (qIk _ _ (hx2))) (go ?_)
 refine AW.cH hH (fun _ hH=>?_) (fun _ hH=>?_)
 refine go ?_
 refine AO.se T [.w 0 [],.w 0 []] ?_
 refine go ?_
 exact fin
 refine go ?_
 refine AO.se T [sv ze3 m.grades,sv ze3 m.components] ?_
 refine go ?_
 exact fin
def qFy (m:Marks) (item:Int) (judge:Int) (grade:Int):Option (Marks×Bool) :=
 (qGd m judge).bind fun x1 =>
 (opt (!(!x1)) default (qAM item 0 (w64 ((m.grades.length:Int)-1)))).bind fun x3 =>
 cond ((!x1)||(!x3))
  (some ((Marks.mk [] []),false))
  ((qCo m).bind fun x5 =>
  (qAT x5.grades item).bind fun x7 =>
  (qAT x7 judge).bind fun x9 =>
  (qGO (Marks.mk (x5.grades.set item.toNat (x7.set judge.toNat grade)) x5.components)).bind fun x11 =>
  some (x11.1,x11.2))
theorem qOF (m:Marks) (item:Int) (judge:Int) (grade:Int) (r:(Marks×Bool)) (hH:qFy m item judge grade=some r):qAC prog 164 [.g (qI2 m),item,judge,grade] (.t [.g (qI2 r.1),.v (.bool r.2)]):=by
 refine fns T func164 ?_
 refine gs2 ?_
 refine AO.x (bxs T 1) ?_
 refine AO.x (als T 2) ?_
 refine gs4 ?_
 obtain⟨x1,hx2,x3,hx4,hH⟩:=qAH hH
 refine gs3 ?_
 refine AO.w (cVs (qKj _ _ _ (hx2))) ?_
 refine gs2 ?_
 refine AO.g0 T ?_
 refine AO.g0 T ?_
 refine AO.g1 T 17 ?_
 refine AO.d1 18 (fun hg=>qLn T) ?_
 refine AO.d1 19 (fun hg=>aws) ?_
 refine AO.d2 16 20 (fun hg=>cVs (qAP _ _ _ _ (qEy hx4 hg))) ?_
 refine AO.g1 T 21 ?_
 refine gs2 ?_
 refine AW.cH hH (fun _ hH=>?_) (fun _ hH=>?_)
 refine gs3 ?_
 refine AO.se T [.w 0 [],.w 0 []] ?_
 refine gs3 ?_
 exact fin
 refine gs2 ?_
 obtain⟨x5,hx6,hH⟩:=zB hH
 refine gs2 ?_
 refine AO.x (qAU rfl 3 rfl rfl rfl (qF3 _ _ (hx6)) rfl rfl rfl) ?_
 refine AO.x (als T 5) ?_
 refine AO.se T [.R 3,.R 4] ?_
 refine gs2 ?_
 obtain⟨x7,hx8,x9,hx10,hH⟩:=qAH hH
 refine AW.le (Le.openM 3 item.toNat 0 6 rfl (zgG (hx8)) rfl rfl) ?_
 refine gs4 ?_
 refine AO.w (qD5 T rfl rfl rfl rfl rfl rfl (hx8)) ?_
 refine AO.w (qCO T rfl rfl rfl rfl rfl) ?_
 refine gs3 ?_
 refine AO.x (zSr T rfl rfl rfl rfl rfl (zgG (hx10)) rfl rfl rfl rfl (u':=grade) rfl rfl) ?_
 refine AO.le (Le.closeM 3 item.toNat 0 6 rfl rfl (zgG (hx8)) rfl (u':=(x7.set judge.toNat grade)) rfl) ?_
 refine AO.n (AW.le (Le.ct 0 0 (σ':=(⟨[(8,.p 2 0),(10,.p 5 0)],[(2,.box [.w 0 [],.w 0 []]),(3,ro 1 ze8 (x5.grades.set item.toNat (x7.set judge.toNat grade))),(4,ro 1 ze8 x5.components),(5,.box [.R 3,.R 4])],39,[]⟩:St))) ?_)
 refine AW.q ?_
 obtain⟨x11,hx12,hH⟩:=zB hH
 refine AW.le (Le.fM 3 (g:=ze3) rfl (fun y=>qAk y)) ?_
 refine AW.le (Le.fM 4 (g:=ze3) rfl (fun y=>qAk y)) ?_
 refine gs2 ?_
 refine AO.w (cVs (qLE _ _ (hx12))) ?_
 refine gs2 ?_
 refine AO.se T [sv ze3 x11.1.grades,sv ze3 x11.1.components] ?_
 refine gs3 ?_
 exact fin
def qEM (m:Marks) (component:Int) (judge:Int) (mark:Int):Option (Marks×Bool) :=
 (qGd m judge).bind fun x1 =>
 (opt (!(!x1)) default (qAM component 0 2)).bind fun x3 =>
 cond ((!x1)||(!x3))
  (some ((Marks.mk [] []),false))
  ((qCo m).bind fun x5 =>
  (qAT x5.components component).bind fun x7 =>
  (qAT x7 judge).bind fun x9 =>
  (qGO (Marks.mk x5.grades (x5.components.set component.toNat (x7.set judge.toNat mark)))).bind fun x11 =>
  some (x11.1,x11.2))
theorem qLd (m:Marks) (component:Int) (judge:Int) (mark:Int) (r:(Marks×Bool)) (hH:qEM m component judge mark=some r):qAC prog 165 [.g (qI2 m),component,judge,mark] (.t [.g (qI2 r.1),.v (.bool r.2)]):=by
 refine fns T func165 ?_
 refine gs2 ?_
 refine AO.x (bxs T 1) ?_
 refine AO.x (als T 2) ?_
 refine gs4 ?_
 obtain⟨x1,hx2,x3,hx4,hH⟩:=qAH hH
 refine gs3 ?_
 refine AO.w (cVs (qKj _ _ _ (hx2))) ?_
 refine gs2 ?_
 refine AO.g0 T ?_
 refine AO.d1 16 (fun hg=>cVs (qAP _ _ _ _ (qEy hx4 hg))) ?_
 refine AO.g1 T 17 ?_
 refine gs2 ?_
 refine AW.cH hH (fun _ hH=>?_) (fun _ hH=>?_)
 refine gs3 ?_
 refine AO.se T [.w 0 [],.w 0 []] ?_
 refine gs3 ?_
 exact fin
 refine gs2 ?_
 obtain⟨x5,hx6,hH⟩:=zB hH
 refine gs2 ?_
 refine AO.x (qAU rfl 3 rfl rfl rfl (qF3 _ _ (hx6)) rfl rfl rfl) ?_
 refine AO.x (als T 5) ?_
 refine AO.se T [.R 3,.R 4] ?_
 refine gs2 ?_
 obtain⟨x7,hx8,x9,hx10,hH⟩:=qAH hH
 refine AW.le (Le.openM 4 component.toNat 0 6 rfl (zgG (hx8)) rfl rfl) ?_
 refine gs4 ?_
 refine AO.w (qD5 T rfl rfl rfl rfl rfl rfl (hx8)) ?_
 refine AO.w (qCO T rfl rfl rfl rfl rfl) ?_
 refine gs3 ?_
 refine AO.x (zSr T rfl rfl rfl rfl rfl (zgG (hx10)) rfl rfl rfl rfl (u':=mark) rfl rfl) ?_
 refine AO.le (Le.closeM 4 component.toNat 0 6 rfl rfl (zgG (hx8)) rfl (u':=(x7.set judge.toNat mark)) rfl) ?_
 refine AO.n (AW.le (Le.ct 0 0 (σ':=(⟨[(8,.p 2 0),(10,.p 5 0)],[(2,.box [.w 0 [],.w 0 []]),(3,ro 1 ze8 x5.grades),(4,ro 1 ze8 (x5.components.set component.toNat (x7.set judge.toNat mark))),(5,.box [.R 3,.R 4])],35,[]⟩:St))) ?_)
 refine AW.q ?_
 obtain⟨x11,hx12,hH⟩:=zB hH
 refine AW.le (Le.fM 3 (g:=ze3) rfl (fun y=>qAk y)) ?_
 refine AW.le (Le.fM 4 (g:=ze3) rfl (fun y=>qAk y)) ?_
 refine gs2 ?_
 refine AO.w (cVs (qLE _ _ (hx12))) ?_
 refine gs2 ?_
 refine AO.se T [sv ze3 x11.1.grades,sv ze3 x11.1.components] ?_
 refine gs3 ?_
 exact fin
def qAO (fl:Nat) (sA:ScriptState) (command:ByteArray) (l:List Int):Option (ScriptState×ByteArray) :=
 cond (decide (command=(⟨#[106,117,100,103,101,115]⟩:ByteArray)))
  ((qAT l 0).bind fun x2 =>
  (qAM x2 3 9).bind fun x4 =>
  cond x4
   ((qC1 fl (sA.performance.items.length:Int) x2).bind fun x6 =>
   cond x4
    ((qBC x4).bind fun x8 =>
    some ((ScriptState.mk sA.code (Performance.mk sA.performance.items x6 sA.performance.slips) sA.factor sA.results),x8))
    ((qBC x4).bind fun x10 =>
    some (sA,x10)))
   (cond x4
    ((qBC x4).bind fun x12 =>
    some ((ScriptState.mk sA.code (Performance.mk sA.performance.items (Marks.mk [] []) sA.performance.slips) sA.factor sA.results),x12))
    ((qBC x4).bind fun x14 =>
    some (sA,x14))))
  (cond (decide (command=(⟨#[103,114,97,100,101]⟩:ByteArray)))
   ((qAT l 0).bind fun x17 =>
   (qAT l 1).bind fun x19 =>
   (qAT l 2).bind fun x21 =>
   (qFy sA.performance.marks x17 x19 x21).bind fun x23 =>
   cond x23.2
    ((qBC x23.2).bind fun x25 =>
    some ((ScriptState.mk sA.code (Performance.mk sA.performance.items x23.1 sA.performance.slips) sA.factor sA.results),x25))
    ((qBC x23.2).bind fun x27 =>
    some (sA,x27)))
   ((qAT l 0).bind fun x29 =>
   (qAT l 1).bind fun x31 =>
   (qAT l 2).bind fun x33 =>
   (qEM sA.performance.marks x29 x31 x33).bind fun x35 =>
   cond x35.2
    ((qBC x35.2).bind fun x37 =>
    some ((ScriptState.mk sA.code (Performance.mk sA.performance.items x35.1 sA.performance.slips) sA.factor sA.results),x37))
    ((qBC x35.2).bind fun x39 =>
    some (sA,x39))))
theorem qEq (fl:Nat) (sA:ScriptState) (command:ByteArray) (l:List Int) (r:(ScriptState×ByteArray)) (hH:qAO fl sA command l=some r):qFk prog 119 [.pn (qHm sA),.v (.string command),.s (List.map ze0 l)] [.pn (qHm r.1),.u,.u] (.v (.string r.2)):=by
 refine qFI T func119 rfl (by decide) rfl rfl [.p 1 0,.v (.string command),.s (List.map ze0 l)] [(1,.box (qH5 sA 2 3)),(3,.row 1 (List.map ze0 sA.code.limits)),(2,.row 4 (List.map ze5 sA.code.elements))] 4 (by kernel_rfl) [1] rfl rfl ?_
 intro L
 show AW _ _ _ (⟨[(0,.p 1 0),(1,.v (.string command)),(2,.s (List.map ze0 l))],[(1,.box (qH5 sA 2 3)),(3,.row 1 (List.map ze0 sA.code.limits)),(2,.row 4 (List.map ze5 sA.code.elements))],74,[(1,L 1)]⟩:St)
 refine AW.q (AW.r (AO.pu T ?_))
 refine AO.n (AW.q (AW.r ?_))
 refine AO.pu T (d:=.g [.w 0 [],.w 0 []]) ?_
 refine AO.x (als T 4) ?_
 refine AO.se T [.w 0 [],.w 0 []] ?_
 refine AO.pu T ?_
 refine AO.n (AW.q (AW.q ?_))
 refine AW.r (AO.pu T ?_)
 refine AO.n (AW.b ?_)
 refine AW.q (AW.r (AO.p2 T ?_))
 refine AO.n (AW.c (b:=decide (command=(⟨#[106,117,100,103,101,115]⟩:ByteArray))) rfl (fun hc1=>?_) (fun hc1=>?_))
 replace hH:=condT hc1 hH
 refine AW.q ?_
 obtain⟨x2,hx3,hH⟩:=zB hH
 obtain⟨x4,hx5,hH⟩:=zB hH
 refine AW.r (AO.pu T ?_)
 refine AO.w (ixs T (hx3)) ?_
 refine AO.pu T ?_
 refine AO.w (cVs (qAP _ _ _ _ (hx5))) ?_
 refine AO.pu T ?_
 refine AO.n (AW.q (AW.r ?_))
 refine AO.pu T ?_
 refine AO.n (AW.c (b:=x4) rfl (fun hc=>?_) (fun hc=>?_))
 replace hH:=condT hc hH
 obtain⟨x6,hx7,hH⟩:=zB hH
 refine AW.drawn 9 5 [] mix (by kernel_rfl) rfl ?_
 iterate 5 refine AD.pu T ?_
 refine AD.vv (qLn T) ?_
 refine AD.pu T ?_
 refine AD.vv (ixs T (hx3)) ?_
 refine AD.pu T ?_
 refine AD.nil (AO.x (qAU rfl 5 rfl rfl rfl (qI7 fl _ _ _ (hx7)) rfl rfl rfl) ?_)
 refine AO.se T [.R 5,.R 6] ?_
 refine AO.n (AW.le (Le.ct 0 0 (σ':=(⟨[(0,.p 1 0),(7,.p 4 0),(8,.v (.bool x4))],[(1,.box (qH5 sA 2 3)),(2,.row 4 (List.map ze5 sA.code.elements)),(3,.row 1 (List.map ze0 sA.code.limits)),(4,.box [.R 5,.R 6]),(5,.row 1 (List.map ze8 x6.grades)),(6,.row 1 (List.map ze8 x6.components))],74,[(1,L 1)]⟩:St)) (hpin:=⟨⟨rfl,rfl⟩,trivial⟩)) ?_)
 refine AW.q (AW.q (AW.r ?_))
 refine AO.pu T ?_
 refine AO.n (AW.c (b:=x4) rfl (fun hc=>?_) (fun hc=>?_))
 replace hH:=condT hc hH
 refine AW.r (AO.pu T ?_)
 refine AO.pu T (d:=.g [.R 5,.R 6]) ?_
 iterate 3 refine AO.pu T ?_
 refine AO.se T [.R 2,.R 3,sA.code.repeats,sA.code.bonus,sA.code.keeps,sA.code.fall,.s (List.map ze1 sA.performance.items),.R 5,.R 6,sA.performance.slips.falls,sA.performance.slips.seconds,sA.performance.slips.other,sA.factor,.s (List.map ze6 sA.results)] ?_
 refine AO.n (AW.q ?_)
 obtain⟨x8,hx9,hH⟩:=zB hH
 refine AW.r (AO.pu T ?_)
 refine AO.w (cVs (qB7 _ _ (hx9))) ?_
 refine AO.pu T ?_
 refine AO.n (AW.le (Le.fM 6 (g:=ze3) rfl (fun y=>qAk y)) ?_)
 refine AW.le (Le.fM 5 (g:=ze3) rfl (fun y=>qAk y)) ?_
 refine AW.t ?_
 have hR:=zS hH;subst hR
 exact⟨trivial,rfl,_,[],[1,2,3],rfl,zG (.pb rfl (zC (.rowR rfl) (zC (.rowR rfl) (zC .v (zC .v (zC .v (zC .v (zC .s (zC .s (zC .s (zC .v (zC .v (zC .v (zC .v (zC .s (zCn)))))))))))))))) (zG (.c .u) (zG (.c .u) (zGn))),.c (.c .v),by decide⟩
 replace hH:=condF hc hH
 refine AW.k (AW.q ?_)
 obtain⟨x10,hx11,hH⟩:=zB hH
 refine AW.r (AO.pu T ?_)
 refine AO.w (cVs (qB7 _ _ (hx11))) ?_
 refine AO.pu T ?_
 refine AO.n (AW.t ?_)
 have hR:=zS hH;subst hR
 exact⟨trivial,rfl,_,[],[1,2,3],rfl,zG (.pb rfl (zC (.rowR rfl) (zC (.rowR rfl) (zC .v (zC .v (zC .v (zC .v (zC .s (zC .s (zC .s (zC .v (zC .v (zC .v (zC .v (zC .s (zCn)))))))))))))))) (zG (.c .u) (zG (.c .u) (zGn))),.c (.c .v),by decide⟩
 replace hH:=condF hc hH
 refine AW.k (AW.q (AW.q ?_))
 refine AW.r (AO.pu T ?_)
 refine AO.n (AW.c (b:=x4) rfl (fun hc=>?_) (fun hc=>?_))
 replace hH:=condT hc hH
 refine AW.r (AO.pu T ?_)
 refine AO.pu T (d:=.g [.w 0 [],.w 0 []]) ?_
 iterate 3 refine AO.pu T ?_
 refine AO.se T [.R 2,.R 3,sA.code.repeats,sA.code.bonus,sA.code.keeps,sA.code.fall,.s (List.map ze1 sA.performance.items),.w 0 [],.w 0 [],sA.performance.slips.falls,sA.performance.slips.seconds,sA.performance.slips.other,sA.factor,.s (List.map ze6 sA.results)] ?_
 refine AO.n (AW.q ?_)
 obtain⟨x12,hx13,hH⟩:=zB hH
 refine AW.r (AO.pu T ?_)
 refine AO.w (cVs (qB7 _ _ (hx13))) ?_
 refine AO.pu T ?_
 refine AO.n (AW.le (Le.ct 0 0 (σ':=(⟨[(6,.v (.string x12))],[(1,.box [.R 2,.R 3,sA.code.repeats,sA.code.bonus,sA.code.keeps,sA.code.fall,.s (List.map ze1 sA.performance.items),.w 0 [],.w 0 [],sA.performance.slips.falls,sA.performance.slips.seconds,sA.performance.slips.other,sA.factor,.s (List.map ze6 sA.results)]),(2,.row 4 (List.map ze5 sA.code.elements)),(3,.row 1 (List.map ze0 sA.code.limits))],74,[(1,L 1)]⟩:St)) (hpin:=⟨⟨rfl,rfl⟩,trivial⟩)) ?_)
 refine AW.le (Le.nilSBox 1 7 rfl rfl) ?_
 refine AW.le (Le.nilSBox 1 8 rfl rfl) ?_
 refine AW.t ?_
 have hR:=zS hH;subst hR
 exact⟨trivial,rfl,_,[],[1,2,3],rfl,zG (.pb rfl (zC (.rowR rfl) (zC (.rowR rfl) (zC .v (zC .v (zC .v (zC .v (zC .s (zC .s (zC .s (zC .v (zC .v (zC .v (zC .v (zC .s (zCn)))))))))))))))) (zG (.c .u) (zG (.c .u) (zGn))),.c (.c .v),by decide⟩
 replace hH:=condF hc hH
 refine AW.k (AW.q ?_)
 obtain⟨x14,hx15,hH⟩:=zB hH
 refine AW.r (AO.pu T ?_)
 refine AO.w (cVs (qB7 _ _ (hx15))) ?_
 refine AO.pu T ?_
 refine AO.n (AW.t ?_)
 have hR:=zS hH;subst hR
 exact⟨trivial,rfl,_,[],[1,2,3],rfl,zG (.pb rfl (zC (.rowR rfl) (zC (.rowR rfl) (zC .v (zC .v (zC .v (zC .v (zC .s (zC .s (zC .s (zC .v (zC .v (zC .v (zC .v (zC .s (zCn)))))))))))))))) (zG (.c .u) (zG (.c .u) (zGn))),.c (.c .v),by decide⟩
 replace hH:=condF hc1 hH
 refine AW.q (AW.r (AO.p2 T ?_))
 refine AO.n (AW.c (b:=decide (command=(⟨#[103,114,97,100,101]⟩:ByteArray))) rfl (fun hc16=>?_) (fun hc16=>?_))
 replace hH:=condT hc16 hH
 obtain⟨x17,hx18,hH⟩:=zB hH
 obtain⟨x19,hx20,hH⟩:=zB hH
 obtain⟨x21,hx22,hH⟩:=zB hH
 obtain⟨x23,hx24,hH⟩:=zB hH
 refine AW.drawn 19 7 [4] mix (by kernel_rfl) rfl ?_
 iterate 4 refine AD.pu T ?_
 refine AD.p T (d:=.g [.s (List.map ze3 sA.performance.marks.grades),.s (List.map ze3 sA.performance.marks.components)]) rfl rfl rfl ?_
 refine AD.pu T ?_
 refine AD.vv (ixs T (hx18)) ?_
 iterate 2 refine AD.pu T ?_
 refine AD.vv (ixs T (hx20)) ?_
 iterate 2 refine AD.pu T ?_
 refine AD.vv (ixs T (hx22)) ?_
 refine AD.pu T ?_
 refine AD.vv (cVs (qOF _ _ _ _ _ (hx24))) ?_
 refine AD.pu T ?_
 refine AD.p T (d:=.g [.s (List.map ze3 x23.1.grades),.s (List.map ze3 x23.1.components)]) rfl rfl rfl ?_
 refine AD.pu T ?_
 refine AD.kk (FStep.store_p T rfl rfl rfl rfl rfl rfl rfl rfl rfl rfl rfl) ?_
 refine AD.nil (AO.pu T ?_)
 refine AO.n (AW.le (Le.ct 0 0 (σ':=(⟨[(0,.p 1 0),(7,.p 4 0),(8,.v (.bool x23.2))],[(1,.box (qH5 sA 2 3)),(2,.row 4 (List.map ze5 sA.code.elements)),(3,.row 1 (List.map ze0 sA.code.limits)),(4,.box [.s (List.map ze3 x23.1.grades),.s (List.map ze3 x23.1.components)])],74,[(1,L 1)]⟩:St)) (hpin:=⟨⟨rfl,rfl⟩,trivial⟩)) ?_)
 refine AW.q (AW.q (AW.r ?_))
 refine AO.pu T ?_
 refine AO.n (AW.c (b:=x23.2) rfl (fun hc=>?_) (fun hc=>?_))
 replace hH:=condT hc hH
 refine AW.r (AO.pu T ?_)
 refine AO.pu T (d:=.g [.s (List.map ze3 x23.1.grades),.s (List.map ze3 x23.1.components)]) ?_
 iterate 3 refine AO.pu T ?_
 refine AO.se T [.R 2,.R 3,sA.code.repeats,sA.code.bonus,sA.code.keeps,sA.code.fall,.s (List.map ze1 sA.performance.items),.s (List.map ze3 x23.1.grades),.s (List.map ze3 x23.1.components),sA.performance.slips.falls,sA.performance.slips.seconds,sA.performance.slips.other,sA.factor,.s (List.map ze6 sA.results)] ?_
 refine AO.n (AW.q ?_)
 obtain⟨x25,hx26,hH⟩:=zB hH
 refine AW.r (AO.pu T ?_)
 refine AO.w (cVs (qB7 _ _ (hx26))) ?_
 refine AO.pu T ?_
 refine AO.n (AW.t ?_)
 have hR:=zS hH;subst hR
 exact⟨trivial,rfl,_,[],[1,2,3],rfl,zG (.pb rfl (zC (.rowR rfl) (zC (.rowR rfl) (zC .v (zC .v (zC .v (zC .v (zC .s (zC .s (zC .s (zC .v (zC .v (zC .v (zC .v (zC .s (zCn)))))))))))))))) (zG (.c .u) (zG (.c .u) (zGn))),.c (.c .v),by decide⟩
 replace hH:=condF hc hH
 refine AW.k (AW.q ?_)
 obtain⟨x27,hx28,hH⟩:=zB hH
 refine AW.r (AO.pu T ?_)
 refine AO.w (cVs (qB7 _ _ (hx28))) ?_
 refine AO.pu T ?_
 refine AO.n (AW.t ?_)
 have hR:=zS hH;subst hR
 exact⟨trivial,rfl,_,[],[1,2,3],rfl,zG (.pb rfl (zC (.rowR rfl) (zC (.rowR rfl) (zC .v (zC .v (zC .v (zC .v (zC .s (zC .s (zC .s (zC .v (zC .v (zC .v (zC .v (zC .s (zCn)))))))))))))))) (zG (.c .u) (zG (.c .u) (zGn))),.c (.c .v),by decide⟩
 replace hH:=condF hc16 hH
 obtain⟨x29,hx30,hH⟩:=zB hH
 obtain⟨x31,hx32,hH⟩:=zB hH
 obtain⟨x33,hx34,hH⟩:=zB hH
 obtain⟨x35,hx36,hH⟩:=zB hH
 refine AW.drawn 19 7 [4] mix (by kernel_rfl) rfl ?_
 iterate 4 refine AD.pu T ?_
 refine AD.p T (d:=.g [.s (List.map ze3 sA.performance.marks.grades),.s (List.map ze3 sA.performance.marks.components)]) rfl rfl rfl ?_
 refine AD.pu T ?_
 refine AD.vv (ixs T (hx30)) ?_
 iterate 2 refine AD.pu T ?_
 refine AD.vv (ixs T (hx32)) ?_
 iterate 2 refine AD.pu T ?_
 refine AD.vv (ixs T (hx34)) ?_
 refine AD.pu T ?_
 refine AD.vv (cVs (qLd _ _ _ _ _ (hx36))) ?_
 refine AD.pu T ?_
 refine AD.p T (d:=.g [.s (List.map ze3 x35.1.grades),.s (List.map ze3 x35.1.components)]) rfl rfl rfl ?_
 refine AD.pu T ?_
 refine AD.kk (FStep.store_p T rfl rfl rfl rfl rfl rfl rfl rfl rfl rfl rfl) ?_
 refine AD.nil (AO.pu T ?_)
 refine AO.n (AW.le (Le.ct 0 0 (σ':=(⟨[(0,.p 1 0),(7,.p 4 0),(8,.v (.bool x35.2))],[(1,.box (qH5 sA 2 3)),(2,.row 4 (List.map ze5 sA.code.elements)),(3,.row 1 (List.map ze0 sA.code.limits)),(4,.box [.s (List.map ze3 x35.1.grades),.s (List.map ze3 x35.1.components)])],74,[(1,L 1)]⟩:St)) (hpin:=⟨⟨rfl,rfl⟩,trivial⟩)) ?_)
 refine AW.q (AW.q (AW.r ?_))
 refine AO.pu T ?_
 refine AO.n (AW.c (b:=x35.2) rfl (fun hc=>?_) (fun hc=>?_))
 replace hH:=condT hc hH
 refine AW.r (AO.pu T ?_)
 refine AO.pu T (d:=.g [.s (List.map ze3 x35.1.grades),.s (List.map ze3 x35.1.components)]) ?_
 iterate 3 refine AO.pu T ?_
 refine AO.se T [.R 2,.R 3,sA.code.repeats,sA.code.bonus,sA.code.keeps,sA.code.fall,.s (List.map ze1 sA.performance.items),.s (List.map ze3 x35.1.grades),.s (List.map ze3 x35.1.components),sA.performance.slips.falls,sA.performance.slips.seconds,sA.performance.slips.other,sA.factor,.s (List.map ze6 sA.results)] ?_
 refine AO.n (AW.q ?_)
 obtain⟨x37,hx38,hH⟩:=zB hH
 refine AW.r (AO.pu T ?_)
 refine AO.w (cVs (qB7 _ _ (hx38))) ?_
 refine AO.pu T ?_
 refine AO.n (AW.t ?_)
 have hR:=zS hH;subst hR
 exact⟨trivial,rfl,_,[],[1,2,3],rfl,zG (.pb rfl (zC (.rowR rfl) (zC (.rowR rfl) (zC .v (zC .v (zC .v (zC .v (zC .s (zC .s (zC .s (zC .v (zC .v (zC .v (zC .v (zC .s (zCn)))))))))))))))) (zG (.c .u) (zG (.c .u) (zGn))),.c (.c .v),by decide⟩
 replace hH:=condF hc hH
 refine AW.k (AW.q ?_)
 obtain⟨x39,hx40,hH⟩:=zB hH
 refine AW.r (AO.pu T ?_)
 refine AO.w (cVs (qB7 _ _ (hx40))) ?_
 refine AO.pu T ?_
 refine AO.n (AW.t ?_)
 have hR:=zS hH;subst hR
 exact⟨trivial,rfl,_,[],[1,2,3],rfl,zG (.pb rfl (zC (.rowR rfl) (zC (.rowR rfl) (zC .v (zC .v (zC .v (zC .v (zC .s (zC .s (zC .s (zC .v (zC .v (zC .v (zC .v (zC .s (zCn)))))))))))))))) (zG (.c .u) (zG (.c .u) (zGn))),.c (.c .v),by decide⟩
def qFV (l:List Item) (item:Int) (name:Int):Option Bool :=
 (qAM item 0 (w64 ((l.length:Int)-1))).bind fun x1 =>
 (opt x1 default (qAT l item)).bind fun x3 =>
 (opt x1 default (qAM name 0 (w64 ((x3.names.length:Int)-1)))).bind fun x5 =>
 some (x1&&x5)
theorem qNU (l:List Item) (item:Int) (name:Int) (r:Bool) (hH:qFV l item name=some r):qAC prog 166 [.s (List.map ze1 l),item,name] (.v (.bool r)):=by
 refine fns T func166 ?_
 refine go ?_
 obtain⟨x1,hx2,x3,hx4,x5,hx6,hH⟩:=qA9 hH
 refine go ?_
 refine AO.w (cVs (qAP _ _ _ _ (hx2))) ?_
 refine AO.pu T ?_
 refine AO.g0 T ?_
 refine AO.g0 T ?_
 refine AO.g0 T ?_
 refine AO.d2 14 15 (fun hg=>ixs T (qEy hx4 hg)) ?_
 refine AO.g1 T 16 ?_
 refine AO.g1 T 17 ?_
 refine AO.d1 18 (fun hg=>qLn T) ?_
 refine AO.d1 19 (fun hg=>aws) ?_
 refine AO.d2 13 20 (fun hg=>cVs (qAP _ _ _ _ (qEy hx6 hg))) ?_
 refine go ?_
 exact fin
def qEA (l:List Item) (item:Int) (name:Int) (mark:Int):Option (List Item) :=
 (qFY l).bind fun x1 =>
 (qAT x1 item).bind fun x3 =>
 (qAT x3.marks name).bind fun x5 =>
 some (x1.set item.toNat (Item.mk x3.names (x3.marks.set name.toNat mark) x3.late))
theorem qKW (l:List Item) (item:Int) (name:Int) (mark:Int) (r:(List Item)) (hH:qEA l item name mark=some r):qAC prog 167 [.s (List.map ze1 l),item,name,mark] (.w 3 (r.map qCS)):=by
 refine fns T func167 ?_
 refine gs5 ?_
 obtain⟨x1,hx2,hH⟩:=zB hH
 refine gs2 ?_
 refine AO.x (qAU rfl 1 rfl rfl rfl (qHh _ _ (hx2)) rfl rfl rfl) ?_
 refine gs3 ?_
 obtain⟨x3,hx4,x5,hx6,hH⟩:=qAH hH
 refine AW.le (Le.openM 1 item.toNat 1 2 rfl (zgG (hx4)) rfl rfl) ?_
 refine gs3 ?_
 refine AO.w (qD5 T rfl rfl rfl rfl rfl rfl (hx4)) ?_
 refine AO.pu T ?_
 refine AO.w (qCO T rfl rfl rfl rfl rfl) ?_
 refine gs3 ?_
 refine AO.x (zSr T rfl rfl rfl rfl rfl (zgG (hx6)) rfl rfl rfl rfl (u':=mark) rfl rfl) ?_
 refine AO.le (Le.closeM 1 item.toNat 1 2 rfl rfl (zgG (hx4)) rfl (u':=(Item.mk x3.names (x3.marks.set name.toNat mark) x3.late)) rfl) ?_
 refine gs7 ?_
 exact fin
def qE9 (factor:Int):Option Bool :=
 (qAM factor 10 400).bind fun x1 =>
 some x1
theorem qKQ (factor:Int) (r:Bool) (hH:qE9 factor=some r):qAC prog 168 [factor] (.v (.bool r)):=by
 refine fns T func168 ?_
 refine go ?_
 obtain⟨x1,hx2,hH⟩:=zB hH
 refine go ?_
 refine AO.w (cVs (qAP _ _ _ _ (hx2))) (go ?_)
 exact fin
def qFq (i:Int) (n:Int):Option Bool :=
 some (decide ((w64 (2*i))≥n))
theorem qKS (i:Int) (n:Int) (r:Bool) (hH:qFq i n=some r):qAC prog 228 [i,n] (.v (.bool r)):=by
 refine fns T func228 ?_
 refine go ?_
 exact fin
def qDf (x1:(List Item)):Nat→List Item→Int→Option ((List Item))
 |0,_,_=>none
 |k3+1,v14,v15 =>
  cond (decide (v15<(x1.length:Int)))
   ((qFq v15 (v14.length:Int)).bind fun x17 =>
   (qAT v14 v15).bind fun x19 =>
   qDf x1 k3 (v14.set v15.toNat (Item.mk x19.names x19.marks x17)) (w64 (v15+1)))
   (some v14)
def qFw (fl:Nat) (l:List Item):Option (List Item) :=
 (qFY l).bind fun x1 =>
 qDf x1 fl x1 0
theorem qN2 (fl:Nat) (l:List Item) (r:(List Item)) (hH:qFw fl l=some r):qAC prog 169 [.s (List.map ze1 l)] (.w 3 (r.map qCS)):=by
 refine fns T func169 ?_
 refine go ?_
 obtain⟨x1,hx2,hH⟩:=zB hH
 refine go ?_
 refine AO.x (qAU rfl 1 rfl rfl rfl (qHh _ _ (hx2)) rfl rfl rfl) (go ?_)
 refine AW.loopS (fun s:Nat×(List Item)×Int=>(⟨[(3,.R 1),(8,(x1.length:Int)),(9,s.2.2)],[(1,ro 3 qCS s.2.1)],22,[]⟩:St)) (fun s=>qDf x1 s.1 s.2.1 s.2.2=some r) (fun s=>s.1) (fl,x1,0) hH ?_ ?_
 exact Le.ct 0 0
 rintro⟨k3,v14,v15⟩ hH
 try dsimp only at hH⊢
 rcases k3 with _|k3
 cases (show none=some _ from hH)
 rw[qDf]at hH
 refine go ?_
 refine AW.cH hH (fun _ hH=>?_) (fun _ hH=>?_)
 refine go ?_
 obtain⟨x17,hx18,x19,hx20,hH⟩:=qAH hH
 refine go ?_
 refine AO.w (cVs (qKS _ _ _ (hx18))) (go ?_)
 refine AO.x (zSr T rfl rfl rfl rfl rfl (zgG (hx20)) rfl rfl rfl rfl (u':=(Item.mk x19.names x19.marks x17)) rfl rfl) (go ?_)
 refine⟨(k3,(v14.set v15.toNat (Item.mk x19.names x19.marks x17)),w64 (v15+1)),hH,Nat.lt_succ_self _,?_⟩
 exact Le.ct 0 0
 refine go ?_
 exact fin
def qAI (fl:Nat) (sA:ScriptState) (command:ByteArray) (l:List Int):Option (ScriptState×ByteArray) :=
 cond (decide (command=(⟨#[99,97,108,108]⟩:ByteArray)))
  ((qAT l 0).bind fun x2 =>
  (qAT l 1).bind fun x4 =>
  (qFV sA.performance.items x2 x4).bind fun x6 =>
  cond (!x6)
   (some (sA,(⟨#[110,111]⟩:ByteArray)))
   ((qAT l 2).bind fun x8 =>
   (qEA sA.performance.items x2 x4 x8).bind fun x10 =>
   some ((ScriptState.mk sA.code (Performance.mk x10 sA.performance.marks sA.performance.slips) sA.factor sA.results),(⟨#[111,107]⟩:ByteArray))))
  (cond (decide (command=(⟨#[115,108,105,112,115]⟩:ByteArray)))
   ((qAT l 0).bind fun x13 =>
   (qAT l 1).bind fun x15 =>
   (qAT l 2).bind fun x17 =>
   (qEH (Slips.mk x13 x15 x17)).bind fun x19 =>
   cond (!x19)
    (some (sA,(⟨#[110,111]⟩:ByteArray)))
    (some ((ScriptState.mk sA.code (Performance.mk sA.performance.items sA.performance.marks (Slips.mk x13 x15 x17)) sA.factor sA.results),(⟨#[111,107]⟩:ByteArray))))
   (cond (decide (command=(⟨#[102,97,99,116,111,114]⟩:ByteArray)))
    ((qAT l 0).bind fun x22 =>
    (qE9 x22).bind fun x24 =>
    cond (!x24)
     (some (sA,(⟨#[110,111]⟩:ByteArray)))
     (some ((ScriptState.mk sA.code sA.performance x22 sA.results),(⟨#[111,107]⟩:ByteArray))))
    ((qFw fl sA.performance.items).bind fun x26 =>
    some ((ScriptState.mk sA.code (Performance.mk x26 sA.performance.marks sA.performance.slips) sA.factor sA.results),(⟨#[111,107]⟩:ByteArray)))))
theorem qCx (fl:Nat) (sA:ScriptState) (command:ByteArray) (l:List Int) (r:(ScriptState×ByteArray)) (hH:qAI fl sA command l=some r):qFk prog 120 [.pn (qHm sA),.v (.string command),.s (List.map ze0 l)] [.pn (qHm r.1),.u,.u] (.v (.string r.2)):=by
 refine qFI T func120 rfl (by decide) rfl rfl [.p 1 0,.v (.string command),sv ze0 l] [(1,.box (qH5 sA 2 3)),(3,ro 1 ze0 sA.code.limits),(2,ro 4 ze5 sA.code.elements)] 4 (by kernel_rfl) [1] rfl rfl ?_
 intro L
 show AW _ _ _ (⟨[(0,.p 1 0),(1,.v (.string command)),(2,sv ze0 l)],[(1,.box (qH5 sA 2 3)),(3,ro 1 ze0 sA.code.limits),(2,ro 4 ze5 sA.code.elements)],86,[(1,L 1)]⟩:St)
 refine go ?_
 refine AW.cH hH (fun _ hH=>?_) (fun _ hH=>?_)
 refine go ?_
 obtain⟨x2,hx3,x4,hx5,x6,hx7,hH⟩:=qA9 hH
 refine AW.drawn 11 4 [] mix (by kernel_rfl) rfl ?_
 refine go ?_
 refine AO.w (cVs (qNU _ _ _ _ (hx7))) (go ?_)
 refine AW.cH hH (fun _ hH=>?_) (fun hc hH=>?_)
 refine go ?_
 exact qET
 refine AW.k ?_
 obtain⟨x8,hx9,x10,hx11,hH⟩:=qAH hH
 refine AW.drawn 16 4 [] mix (by kernel_rfl) rfl ?_
 refine go ?_
 refine AD.q (FStep.call rfl rfl rfl rfl rfl (qKW _ _ _ _ _ (hx11)) rfl rfl) (qBD _ _) (qDe _ _) rfl ?_
 refine go ?_
 refine AO.se T [.R 2,.R 3,sA.code.repeats,sA.code.bonus,sA.code.keeps,sA.code.fall,.R 4,sv ze3 sA.performance.marks.grades,sv ze3 sA.performance.marks.components,sA.performance.slips.falls,sA.performance.slips.seconds,sA.performance.slips.other,sA.factor,sv ze6 sA.results] ?_
 refine AO.n (AW.le (Le.ct 0 0 (σ':=(⟨[],[(1,.box [.R 2,.R 3,sA.code.repeats,sA.code.bonus,sA.code.keeps,sA.code.fall,.R 4,sv ze3 sA.performance.marks.grades,sv ze3 sA.performance.marks.components,sA.performance.slips.falls,sA.performance.slips.seconds,sA.performance.slips.other,sA.factor,sv ze6 sA.results]),(2,ro 4 ze5 sA.code.elements),(3,ro 1 ze0 sA.code.limits),(4,ro 3 qCS x10)],86,[(1,L 1)]⟩:St)) (hpin:=⟨⟨rfl,rfl⟩,trivial⟩)) ?_)
 refine gs4 ?_
 refine AW.le (Le.fM 4 (g:=ze1) rfl (fun y=>qGp y)) ?_
 refine AW.t ?_
 exact qET
 refine go ?_
 refine AW.cH hH (fun _ hH=>?_) (fun _ hH=>?_)
 refine AW.q ?_
 obtain⟨x13,hx14,x15,hx16,x17,hx18,hH⟩:=qA9 hH
 refine AW.drawn 11 5 [] mix (by kernel_rfl) rfl ?_
 refine go ?_
 refine AD.q (FStep.alloc T rfl rfl rfl rfl rfl rfl) (by simp[qAu]) (Nat.le_succ _) rfl ?_
 refine AD.nil (AO.se T [x13,x15,x17] ?_)
 refine go ?_
 obtain⟨x19,hx20,hH⟩:=zB hH
 refine go ?_
 refine AO.w (cVs (qKU _ _ (hx20))) (go ?_)
 refine AW.cH hH (fun _ hH=>?_) (fun hc hH=>?_)
 refine go ?_
 exact qET
 refine go ?_
 refine AO.se T [.R 2,.R 3,sA.code.repeats,sA.code.bonus,sA.code.keeps,sA.code.fall,sv ze1 sA.performance.items,sv ze3 sA.performance.marks.grades,sv ze3 sA.performance.marks.components,x13,x15,x17,sA.factor,sv ze6 sA.results] ?_
 refine AO.n (AW.le (Le.ct 0 0 (σ':=(⟨[],[(1,.box [.R 2,.R 3,sA.code.repeats,sA.code.bonus,sA.code.keeps,sA.code.fall,sv ze1 sA.performance.items,sv ze3 sA.performance.marks.grades,sv ze3 sA.performance.marks.components,x13,x15,x17,sA.factor,sv ze6 sA.results]),(2,ro 4 ze5 sA.code.elements),(3,ro 1 ze0 sA.code.limits)],86,[(1,L 1)]⟩:St)) (hpin:=⟨⟨rfl,rfl⟩,trivial⟩)) ?_)
 refine go ?_
 exact qET
 refine go ?_
 refine AW.cH hH (fun _ hH=>?_) (fun _ hH=>?_)
 refine go ?_
 obtain⟨x22,hx23,x24,hx25,hH⟩:=qAH hH
 refine go ?_
 refine AO.w (cVs (qKQ _ _ (hx25))) (go ?_)
 refine AW.cH hH (fun _ hH=>?_) (fun _ hH=>?_)
 refine go ?_
 exact qET
 refine go ?_
 refine AO.se T [.R 2,.R 3,sA.code.repeats,sA.code.bonus,sA.code.keeps,sA.code.fall,sv ze1 sA.performance.items,sv ze3 sA.performance.marks.grades,sv ze3 sA.performance.marks.components,sA.performance.slips.falls,sA.performance.slips.seconds,sA.performance.slips.other,x22,sv ze6 sA.results] ?_
 refine go ?_
 exact qET
 obtain⟨x26,hx27,hH⟩:=zB hH
 refine go ?_
 refine AO.x (qAU rfl 6 rfl rfl rfl (qN2 fl _ _ (hx27)) rfl rfl rfl) (go ?_)
 refine AO.se T [.R 2,.R 3,sA.code.repeats,sA.code.bonus,sA.code.keeps,sA.code.fall,.R 6,sv ze3 sA.performance.marks.grades,sv ze3 sA.performance.marks.components,sA.performance.slips.falls,sA.performance.slips.seconds,sA.performance.slips.other,sA.factor,sv ze6 sA.results] ?_
 refine gs5 ?_
 refine AW.le (Le.fM 6 (g:=ze1) rfl (fun y=>qGp y)) ?_
 refine AW.t ?_
 exact qET
def qIf (skater:Int):Option Bool :=
 (qAM skater 1 999).bind fun x1 =>
 some x1
theorem qOA (skater:Int) (r:Bool) (hH:qIf skater=some r):qAC prog 101 [skater] (.v (.bool r)):=by
 refine fns T func101 ?_
 refine go ?_
 obtain⟨x1,hx2,hH⟩:=zB hH
 refine go ?_
 refine AO.w (cVs (qAP _ _ _ _ (hx2))) (go ?_)
 exact fin
def qCC (rA:Result):List Int→Nat→Option Bool
 | [],k1 =>
  (qIf rA.skater).bind fun x16 =>
  (opt x16 default (qAM (rA.scores.length:Int) 1 3)).bind fun x18 =>
  some (x16&&x18)
 |y2::ys3,k1 =>
  (qAM y2 (-1) 100000).bind fun x20 =>
  (opt ((!(!x20))&&decide ((k1:Int)>0)) default (qAT rA.scores (w64 ((k1:Int)-1)))).bind fun x22 =>
  cond ((!x20)||((decide ((k1:Int)>0)&&decide (x22<0))&&decide (y2≥0)))
   (some false)
   (qCC rA ys3 (k1+1))
def qIs (rA:Result):Option Bool :=
 qCC rA rA.scores 0
theorem qOB (rA:Result) (r:Bool) (hH:qIs rA=some r):qAC prog 72 [.g (ze6 rA)] (.v (.bool r)):=by
 refine fns T func72 ?_
 refine go ?_
 refine AO.x (bxs T 1) (go ?_)
 refine AW.loopS (fun s:Nat=>(⟨[(1,.p 1 0),(6,sv ze0 rA.scores),(7,(rA.scores.length:Int)),(8,(s:Int))],[(1,.box [rA.skater,sv ze0 rA.scores])],43,[]⟩:St)) (fun s=>s≤rA.scores.length∧qCC rA (rA.scores.drop s) s=some r) (fun s=>rA.scores.length-s) 0 ⟨Nat.zero_le _,hH⟩ ?_ ?_
 exact Le.ct 0 0
 rintro k1 ⟨hk,hH⟩
 try dsimp only at hH⊢
 refine AW.boundM (t:=6) (l:=rA.scores) rfl (fun hb5=>?_)
 rcases hd4:rA.scores.drop k1 with _|⟨y2,ys3⟩
 rw[hd4,qCC]at hH
 have hlt6:=qAF hd4
 refine go ?_
 obtain⟨x16,hx17,x18,hx19,hH⟩:=qAH hH
 refine go ?_
 refine AO.w (cVs (qOA _ _ (hx17))) ?_
 refine AO.pu T ?_
 refine AO.g0 T ?_
 refine AO.g1 T 38 ?_
 refine AO.d1 39 (fun hg=>qLn T) ?_
 refine AO.d1 40 (fun hg=>cVs (qAP _ _ _ _ (qEy hx19 hg))) ?_
 refine go ?_
 exact fin
 rw[hd4,qCC]at hH
 have hlt6:=qAG hd4
 refine go ?_
 obtain⟨x20,hx21,x22,hx23,hH⟩:=qAH hH
 refine go ?_
 refine AO.w (cVs (qAP _ _ _ _ (hx21))) (go ?_)
 refine AO.g0 T ?_
 refine AO.g1 T 17 ?_
 refine AO.g1 T 18 ?_
 refine AO.g0 T ?_
 refine AO.g1 T 20 ?_
 refine AO.g0 T ?_
 refine AO.d1 22 (fun hg=>aws) ?_
 refine AO.d2 21 23 (fun hg=>ixs T (qEy hx23 hg)) ?_
 refine AO.g1 T 24 ?_
 refine AO.g1 T 25 ?_
 refine AO.d [19] rfl ⟨fun h=>h,trivial⟩ (fun hg=>zN rfl rfl rfl (by rw[hg];exact Bool.true_and _)) rfl ?_
 refine AO.g1 T 27 ?_
 refine AO.g0 T ?_
 refine AO.g1 T 29 ?_
 refine AO.d [28] rfl ⟨fun h=>h,trivial⟩ (fun hg=>zN rfl rfl rfl (by rw[hg];exact Bool.true_and _)) rfl ?_
 refine gs2 ?_
 refine AW.le (Le.ct 0 0 (σ':=(⟨[(1,.p 1 0),(6,sv ze0 rA.scores),(7,(rA.scores.length:Int)),(8,(k1:Int)),(32,.v (.bool ((!x20)||((decide ((k1:Int)>0)&&decide (x22<0))&&decide (y2≥0)))))],[(1,.box [rA.skater,sv ze0 rA.scores])],43,[]⟩:St))) ?_
 refine AW.cH hH (fun _ hH=>?_) (fun _ hH=>?_)
 refine go ?_
 exact fin
 refine go ?_
 refine⟨k1+1,⟨hlt6,(zds hd4▸hH)⟩,qBz hlt6,?_⟩
 exact Le.ct 0 0
def qBX (y2:Result):List Result→Nat→Option (Except Bool Unit)
 | [],k80 =>
  some (.ok ())
 |y81::ys82,k80 =>
  cond (y81.skater==y2.skater)
   (some (.error false))
   (qBX y2 ys82 (k80+1))
def qBk (l:List Result):List Result→Nat→Option Bool
 | [],k1 =>
  some (decide ((l.length:Int)≤40))
 |y2::ys3,k1 =>
  ((qIs y2).bind fun x74 =>
  (opt (!(!x74)) default (qAT l 0)).bind fun x76 =>
  cond ((!x74)||((y2.scores.length:Int) != (x76.scores.length:Int)))
   (some (.error false))
   ((qFj l (k1:Int)).bind fun x78 =>
   qBX y2 x78 0)).bind fun o72=>qK9 o72 fun _ =>
  qBk l ys3 (k1+1)
def qF9 (l:List Result):Option Bool :=
 qBk l l 0
theorem qI8 (l:List Result) (r:Bool) (hH:qF9 l=some r):qAC prog 44 [.s (List.map ze6 l)] (.v (.bool r)):=by
 refine fns T func44 ?_
 iterate 12 refine gs ?_
 refine AW.loopS (fun s:Nat=>(⟨[(0,sv ze6 l),(7,sv ze6 l),(8,(l.length:Int)),(9,(s:Int))],[],46,[]⟩:St)) (fun s=>s≤l.length∧qBk l (l.drop s) s=some r) (fun s=>l.length-s) 0 ⟨Nat.zero_le _,hH⟩ ?_ ?_
 exact Le.ct 0 0
 rintro k1 ⟨hk,hH⟩
 try dsimp only at hH⊢
 refine AW.boundM (t:=0) (l:=l) rfl (fun hb5=>?_)
 rcases hd4:l.drop k1 with _|⟨y2,ys3⟩
 rw[hd4,qBk]at hH
 have hlt6:=qAF hd4
 iterate 15 refine gs ?_
 exact fin
 rw[hd4,qBk]at hH
 have hlt6:=qAG hd4
 refine gs7 ?_
 obtain⟨o72,hH,hK73⟩:=zB hH
 refine AW.seqJ (fun s:Unit=>(⟨[(0,sv ze6 l),(7,sv ze6 l),(8,(l.length:Int)),(9,(k1:Int))],[],46,[]⟩:St)) (fun s=>.ok s=o72) ?_ ?_
 refine gs6 ?_
 refine AO.x (als T 21) ?_
 refine AO.pu T ?_
 refine AO.se T [y2.skater,sv ze0 y2.scores] ?_
 refine gs3 ?_
 obtain⟨x74,hx75,x76,hx77,hH⟩:=qAH hH
 refine AW.drawn 12 22 [] mix (by kernel_rfl) rfl ?_
 refine gs ?_
 refine AD.vv (cVs (qOB _ _ (hx75))) ?_
 refine gs2 ?_
 refine AD.pureG T [] rfl trivial rfl rfl ?_
 refine AD.pureG T [18] rfl ⟨fun h=>h,trivial⟩ rfl rfl ?_
 refine AD.guard [19] rfl ⟨fun h=>h,trivial⟩ (fun hg=>qLn T) rfl ?_
 refine AD.pureG T [] rfl trivial rfl rfl ?_
 refine AD.guard [21] rfl ⟨fun h=>h,trivial⟩ (fun hg=>ixs T (qEy hx77 hg)) rfl ?_
 refine AD.pureG T [22] rfl ⟨fun h=>h,trivial⟩ rfl rfl ?_
 refine AD.pureG T [23] rfl ⟨fun h=>h,trivial⟩ rfl rfl ?_
 refine AD.guard [24] rfl ⟨fun h=>h,trivial⟩ (fun hg=>qLn T) rfl ?_
 refine AD.nil (AO.g2 T 20 25 ?_)
 refine gs2 ?_
 refine AW.cH hH (fun _ hH=>?_) (fun hc hH=>?_)
 refine gs5 ?_
 obtain rfl:=zS hH
 replace hH:=hK73
 exact fin
 refine gs2 ?_
 obtain⟨x78,hx79,hH⟩:=zB hH
 refine gs3 ?_
 refine AO.w (qEB T rfl rfl rfl rfl rfl (hx79) (fun _=>rfl)) ?_
 refine gs3 ?_
 refine AW.le (Le.ct 0 0 (σ':=(⟨[(0,sv ze6 l),(4,.p 21 0),(7,sv ze6 l),(8,(l.length:Int)),(9,(k1:Int)),(30,sv ze6 x78),(31,(x78.length:Int)),(32,(0:Int))],[(21,.box [y2.skater,sv ze0 y2.scores])],46,[]⟩:St))) ?_
 refine AW.b (AW.loopS (fun s:Nat=>(⟨[(0,sv ze6 l),(4,.p 21 0),(7,sv ze6 l),(8,(l.length:Int)),(9,(k1:Int)),(30,sv ze6 x78),(31,(x78.length:Int)),(32,(s:Int))],[(21,.box [y2.skater,sv ze0 y2.scores])],46,[]⟩:St)) (fun s=>s≤x78.length∧qBX y2 (x78.drop s) s=some o72) (fun s=>x78.length-s) 0 ⟨Nat.zero_le _,hH⟩ ?_ ?_)
 exact Le.ct 0 0
 rintro k80 ⟨hk,hH⟩
 try dsimp only at hH⊢
 refine AW.boundM (t:=30) (l:=x78) rfl (fun hb84=>?_)
 rcases hd83:x78.drop k80 with _|⟨y81,ys82⟩
 rw[hd83,qBX]at hH
 have hlt85:=qAF hd83
 refine gs7 ?_
 refine⟨_,zS hH,?_⟩
 exact Le.ct 0 0
 rw[hd83,qBX]at hH
 have hlt85:=qAG hd83
 iterate 13 refine gs ?_
 refine AO.x (als T 24) ?_
 refine AO.se T [y81.skater,sv ze0 y81.scores] ?_
 refine gs9 ?_
 refine AW.cH hH (fun _ hH=>?_) (fun _ hH=>?_)
 refine gs5 ?_
 obtain rfl:=zS hH
 replace hH:=hK73
 exact fin
 refine gs5 ?_
 refine⟨k80+1,⟨hlt85,(zds hd83▸hH)⟩,qBz hlt85,?_⟩
 exact Le.ct 0 0
 rintro _ hs
 subst hs
 replace hH:=hK73
 try dsimp only[qK9,qJO]at hH
 try dsimp only
 refine gs4 ?_
 refine⟨k1+1,⟨hlt6,(zds hd4▸hH)⟩,qBz hlt6,?_⟩
 exact Le.ct 0 0
def qCa:List Int→Nat→Int→Int→Option ((Int×Int))
 | [],k1,v9,v10 =>
  some (v9,v10)
 |y2::ys3,k1,v9,v10 =>
  cond (decide (y2≥0))
   (qCa ys3 (k1+1) (w64 (v9+y2)) (w64 (v10+1)))
   (qCa ys3 (k1+1) v9 v10)
def qHv (rA:Result):Option (Int×Int) :=
 qCa rA.scores 0 0 0
theorem qKk (rA:Result) (r:(Int×Int)) (hH:qHv rA=some r):qAC prog 277 [.g (ze6 rA)] (.t [.v (.int .i64 r.1),.v (.int .i64 r.2)]):=by
 refine fns T func277 ?_
 refine go ?_
 refine AO.x (bxs T 1) (go ?_)
 refine AW.loopS (fun s:Nat×Int×Int=>(⟨[(4,s.2.1),(5,s.2.2),(9,sv ze0 rA.scores),(10,(rA.scores.length:Int)),(11,(s.1:Int))],[],25,[]⟩:St)) (fun s=>s.1≤rA.scores.length∧qCa (rA.scores.drop s.1) s.1 s.2.1 s.2.2=some r) (fun s=>rA.scores.length-s.1) (0,0,0) ⟨Nat.zero_le _,hH⟩ ?_ ?_
 exact Le.ct 0 0
 rintro⟨k1,v9,v10⟩ ⟨hk,hH⟩
 try dsimp only at hH⊢
 refine AW.boundM (t:=9) (l:=rA.scores) rfl (fun hb5=>?_)
 rcases hd4:rA.scores.drop k1 with _|⟨y2,ys3⟩
 rw[hd4,qCa]at hH
 have hlt6:=qAF hd4
 refine go ?_
 exact fin
 rw[hd4,qCa]at hH
 have hlt6:=qAG hd4
 refine go ?_
 refine AW.cH hH (fun _ hH=>?_) (fun _ hH=>?_)
 refine go ?_
 refine⟨(k1+1,w64 (v9+y2),w64 (v10+1)),⟨hlt6,(zds hd4▸hH)⟩,qBz hlt6,?_⟩
 exact Le.ct 0 0
 refine go ?_
 refine⟨(k1+1,v9,v10),⟨hlt6,(zds hd4▸hH)⟩,qBz hlt6,?_⟩
 exact Le.ct 0 0
def qEd (n:Int):Option Int :=
 cond (decide (n>0))
  (some 1)
  (cond (decide (n<0))
   (some (-1))
   (some 0))
theorem qJR (n:Int) (r:Int) (hH:qEd n=some r):qAC prog 278 [n] (.v (.int .i64 r)):=by
 refine fns T func278 ?_
 refine go ?_
 refine AW.cH hH (fun _ hH=>?_) (fun hc hH=>?_)
 refine go ?_
 exact fin
 refine go ?_
 refine AW.cH hH (fun _ hH=>?_) (fun _ hH=>?_)
 refine go ?_
 exact fin
 refine go ?_
 exact fin
def qBv (a:Result) (b:Result):Nat→Int→Option Int
 |0,_=>none
 |k9+1,v23 =>
  cond (decide (v23≥0))
   ((qAT a.scores v23).bind fun x25 =>
   (qAT b.scores v23).bind fun x27 =>
   cond (x25 != x27)
    ((qEd (w64 (x25-x27))).bind fun x29 =>
    some x29)
    (qBv a b k9 (w64 (v23-1))))
   (some 0)
def qEf (fl:Nat) (a:Result) (b:Result):Option Int :=
 (qHv a).bind fun x1 =>
 (qHv b).bind fun x3 =>
 cond (x1.2 != x3.2)
  ((qEd (w64 (x1.2-x3.2))).bind fun x5 =>
  some x5)
  (cond (x1.1 != x3.1)
   ((qEd (w64 (x1.1-x3.1))).bind fun x7 =>
   some x7)
   (qBv a b fl (w64 ((a.scores.length:Int)-1))))
theorem qKe (fl:Nat) (a:Result) (b:Result) (r:Int) (hH:qEf fl a b=some r):qAC prog 230 [.g (ze6 a),.g (ze6 b)] (.v (.int .i64 r)):=by
 refine fns T func230 ?_
 refine go ?_
 refine AO.x (bxs T 1) ?_
 refine AO.x (bxs T 2) (go ?_)
 obtain⟨x1,hx2,hH⟩:=zB hH
 refine go ?_
 refine AO.w (cVs (qKk _ _ (hx2))) (go ?_)
 obtain⟨x3,hx4,hH⟩:=zB hH
 refine go ?_
 refine AO.w (cVs (qKk _ _ (hx4))) (go ?_)
 refine AW.cH hH (fun _ hH=>?_) (fun hc hH=>?_)
 refine AW.q ?_
 obtain⟨x5,hx6,hH⟩:=zB hH
 refine go ?_
 refine AO.w (cVs (qJR _ _ (hx6))) ?_
 refine gs2 ?_
 refine AW.le (Le.ct 0 0 (σ':=(⟨[(4,x5)],[],65,[]⟩:St))) ?_
 refine AW.t ?_
 exact fin
 refine go ?_
 refine AW.cH hH (fun _ hH=>?_) (fun hc hH=>?_)
 refine AW.q ?_
 obtain⟨x7,hx8,hH⟩:=zB hH
 refine go ?_
 refine AO.w (cVs (qJR _ _ (hx8))) ?_
 refine gs2 ?_
 refine AW.le (Le.ct 0 0 (σ':=(⟨[(4,x7)],[],65,[]⟩:St))) ?_
 refine AW.t ?_
 exact fin
 iterate 10 refine gs ?_
 refine AW.le (Le.ct 0 0 (σ':=(⟨[(2,.p 1 0),(3,.p 2 0),(9,w64 ((a.scores.length:Int)-1))],[(1,.box [a.skater,sv ze0 a.scores]),(2,.box [b.skater,sv ze0 b.scores])],65,[]⟩:St))) ?_
 refine AW.b (AW.loopS (fun s:Nat×Int=>(⟨[(2,.p 1 0),(3,.p 2 0),(9,s.2)],[(1,.box [a.skater,sv ze0 a.scores]),(2,.box [b.skater,sv ze0 b.scores])],65,[]⟩:St)) (fun s=>qBv a b s.1 s.2=some r) (fun s=>s.1) (fl,w64 ((a.scores.length:Int)-1)) hH ?_ ?_)
 exact Le.ct 0 0
 rintro⟨k9,v23⟩ hH
 try dsimp only at hH⊢
 rcases k9 with _|k9
 cases (show none=some _ from hH)
 rw[qBv]at hH
 refine go ?_
 refine AW.cH hH (fun hc hH=>?_) (fun _ hH=>?_)
 refine go ?_
 obtain⟨x25,hx26,x27,hx28,hH⟩:=qAH hH
 refine AW.drawn 10 3 [] mix (by kernel_rfl) rfl ?_
 refine go ?_
 refine AW.cH hH (fun _ hH=>?_) (fun hc hH=>?_)
 refine AW.q ?_
 obtain⟨x29,hx30,hH⟩:=zB hH
 refine AW.drawn 10 3 [] mix (by kernel_rfl) rfl ?_
 refine go ?_
 refine AO.w (cVs (qJR _ _ (hx30))) ?_
 refine gs2 ?_
 refine AW.le (Le.ct 0 0 (σ':=(⟨[(4,x29)],[],65,[]⟩:St))) ?_
 refine AW.t ?_
 exact fin
 refine go ?_
 refine⟨(k9,w64 (v23-1)),hH,Nat.lt_succ_self _,?_⟩
 exact Le.ct 0 0
 refine go ?_
 exact fin
def qCc (l:List Result) (i:Int) (fl:Nat):List Result→Nat→Int→Option Int
 | [],k1,v16 =>
  some v16
 |y2::ys3,k1,v16 =>
  (qAT l i).bind fun x18 =>
  (qEf fl y2 x18).bind fun x20 =>
  cond (decide (x20>0))
   (qCc l i fl ys3 (k1+1) (w64 (v16+1)))
   (qCc l i fl ys3 (k1+1) v16)
def qGb (fl:Nat) (l:List Result) (i:Int):Option Int :=
 qCc l i fl l 0 1
theorem qK5 (fl:Nat) (l:List Result) (i:Int) (r:Int) (hH:qGb fl l i=some r):qAC prog 174 [.s (List.map ze6 l),i] (.v (.int .i64 r)):=by
 refine fns T func174 ?_
 refine go ?_
 refine AW.loopS (fun s:Nat×Int=>(⟨[(0,sv ze6 l),(1,i),(5,s.2),(8,sv ze6 l),(9,(l.length:Int)),(10,(s.1:Int))],[],25,[]⟩:St)) (fun s=>s.1≤l.length∧qCc l i fl (l.drop s.1) s.1 s.2=some r) (fun s=>l.length-s.1) (0,1) ⟨Nat.zero_le _,hH⟩ ?_ ?_
 exact Le.ct 0 0
 rintro⟨k1,v16⟩ ⟨hk,hH⟩
 try dsimp only at hH⊢
 refine AW.boundM (t:=0) (l:=l) rfl (fun hb5=>?_)
 rcases hd4:l.drop k1 with _|⟨y2,ys3⟩
 rw[hd4,qCc]at hH
 have hlt6:=qAF hd4
 refine go ?_
 exact fin
 rw[hd4,qCc]at hH
 have hlt6:=qAG hd4
 refine go ?_
 refine AO.x (als T 3) ?_
 refine AO.se T [y2.skater,sv ze0 y2.scores] ?_
 refine go ?_
 obtain⟨x18,hx19,x20,hx21,hH⟩:=qAH hH
 refine AW.drawn 5 4 [] mix (by kernel_rfl) rfl ?_
 refine go ?_
 refine AO.w (cVs (qKe fl _ _ _ (hx21))) (go ?_)
 refine AW.cH hH (fun _ hH=>?_) (fun _ hH=>?_)
 refine go ?_
 refine⟨(k1+1,w64 (v16+1)),⟨hlt6,(zds hd4▸hH)⟩,qBz hlt6,?_⟩
 exact Le.ct 0 0
 refine go ?_
 refine⟨(k1+1,v16),⟨hlt6,(zds hd4▸hH)⟩,qBz hlt6,?_⟩
 exact Le.ct 0 0
def qA3 (l:List Result) (fl:Nat):List Result→Nat→List Int→Option (((List Int)×Bool))
 | [],k3,v18 =>
  some (v18,true)
 |y4::ys5,k3,v18 =>
  (qGb fl l (k3:Int)).bind fun x20 =>
  (qAr (qAf 8 (v18.length+([x20]).length))).bind fun u22 =>
  qA3 l fl ys5 (k3+1) (v18++[x20])
def qEO (fl:Nat) (l:List Result):Option ((List Int)×Bool) :=
 (qF9 l).bind fun x1 =>
 cond (!x1)
  (some ([],false))
  (qA3 l fl l 0 [])
theorem qJv (fl:Nat) (l:List Result) (r:((List Int)×Bool)) (hH:qEO fl l=some r):qAC prog 170 [.s (List.map ze6 l)] (.t [.w 1 (r.1.map ze0),.v (.bool r.2)]):=by
 refine fns T func170 ?_
 refine go ?_
 obtain⟨x1,hx2,hH⟩:=zB hH
 refine go ?_
 refine AO.w (cVs (qI8 _ _ (hx2))) (go ?_)
 refine AW.cH hH (fun _ hH=>?_) (fun _ hH=>?_)
 refine go ?_
 exact fin
 refine go ?_
 refine AO.x (qGF T rfl rfl rfl rfl) (go ?_)
 refine AW.loopS (fun s:Nat×(List Int)=>(⟨[(0,sv ze6 l),(4,.R 4),(11,(l.length:Int)),(12,(s.1:Int))],[(4,ro 1 ze0 s.2)],23,[]⟩:St)) (fun s=>s.1≤l.length∧qA3 l fl (l.drop s.1) s.1 s.2=some r) (fun s=>l.length-s.1) (0,[]) ⟨Nat.zero_le _,hH⟩ ?_ ?_
 refine Le.trans (Le.void 4 4 1 rfl rfl) ?_
 exact Le.ct 0 0
 rintro⟨k3,v18⟩ ⟨hk,hH⟩
 try dsimp only at hH⊢
 refine AW.boundM (t:=0) (l:=l) rfl (fun hb7=>?_)
 rcases hd6:l.drop k3 with _|⟨y4,ys5⟩
 rw[hd6,qA3]at hH
 have hlt8:=qAF hd6
 refine go ?_
 exact fin
 rw[hd6,qA3]at hH
 have hlt8:=qAG hd6
 refine go ?_
 obtain⟨x20,hx21,u22,hx23,hH⟩:=qAH hH
 refine go ?_
 refine AO.w (cVs (qK5 fl _ _ _ (hx21))) ?_
 refine AO.x (mks T 5 ze0 ([x20])) ?_
 refine AO.x (rvs T 6 (hfit:=by exact qAQ (hx23))) (go ?_)
 refine⟨(k3+1,(v18++[x20])),⟨hlt8,(zds hd6▸hH)⟩,qBz hlt8,?_⟩
 exact Le.ct 6 4
def qB3 (n:Int):Option ByteArray:=(qAr (decide (-9223372036854775808≤n)&&decide (n≤9223372036854775807))).bind fun _=>some ⟨(Go.Lib.itoa n).toArray⟩
theorem qHK (n:Int) (r:ByteArray) (hH:qB3 n=some r):qAC prog 173 [.v (.int .i64 n)] (.v (.string r)):=by
 obtain⟨u,hu,hr⟩:=zB hH
 cases zS hr
 exact qT4 ⟨_,func173,rfl,by decide⟩ (fun n h0 h1 w hG=>Tryz.strconv_Itoa n h0 h1 w (qXI (by kernel_rfl) hG)) n (qAQ hu)
section
open Go.Shelf Go.RowKit
set_option maxHeartbeats 2000000 in
set_option maxRecDepth 100000 in
theorem qKx {b:Nat} {v:Value} {w:World} (h2:w.heap[b]?=some (.cells #[.pointer none,v] 75 (0,0))) :
  Calls prog 77 #[.pointer (some ⟨b,0,none⟩)] w fun e w'=>e=.returned (.tuple #[])∧w'=w.setCell ⟨b,0,none⟩ (.pointer (some ⟨b,0,none⟩)):=by
 have c0:w.cell? ⟨b,0,none⟩=some (.pointer none):=by rw[Lib.cell_of_heap h2];rfl
 have f1:w.frozen? ⟨b,0,none⟩=false:=Lib.frozen_of_heap h2 0
 have hsh:w.shape? b=some (75,2):=by simp[World.shape?,h2]
 have tP:prog.underlying 73=some (.pointer 75):=by kernel_rfl
 have tX:prog.underlying 142=some .unsafePointer:=by kernel_rfl
 obtain⟨j,hj,hjs⟩:=Option.map_eq_some_iff.1 (show (prog.info? 75).map (·.size)=some 2 by kernel_rfl)
 go_enter func77,ntmps77
 go_wp2
 rw[Lib.run_to_unsafe w ⟨b,0,none⟩ tP tX hj (by rw[hjs];decide) hsh (Nat.zero_lt_succ 1)]
 simp only[Result.andThen]
 rw[Oper.upon_value]
 go_wp2
 rw[run_callFunc_extern func123 (by kernel_rfl) (by kernel_rfl) (by kernel_rfl) (e:=Extern.AbiNoEscape.same) (by kernel_rfl)]
 rw[Lib.run_noEscape]
 simp only[Result.andThen]
 rw[Oper.upon_value]
 go_wp2
 rw[Lib.run_from_unsafe w ⟨b,0,none⟩ tX tP hj hsh (by kernel_rfl)]
 simp only[Result.andThen]
 rw[Oper.upon_value]
 go_wp2
 go_end0
 exact⟨rfl,rfl⟩
set_option maxHeartbeats 2000000 in
set_option maxRecDepth 100000 in
theorem qTs {b:Nat} {fp:List Nat} {f0:Bool} {l:List UInt8} {w:World} {U:TypeId} (h:BldR w fp b f0 75 U l) (hnd:fp.Nodup) :
  Calls prog 77 #[.pointer (some ⟨b,0,none⟩)] w fun e w'=>e=.returned (.tuple #[])∧Chg [b] w w'∧∃v fr,w'.heap[b]?=some (.cells #[.pointer (some ⟨b,0,none⟩),v] 75 (0,0))∧fp=b::fr∧RowU w' fr U v l∧(f0=true→v=.slice none 0 0):=by
 obtain⟨p,v,fr,h1,h2,rfl,h4,h5⟩:=h
 rcases h1 with rfl|rfl
 ·refine(qKx h2).mono ?_
  rintro e w' ⟨rfl,rfl⟩
  refine⟨rfl,qJz _ _ _ _,v,fr,?_,rfl,h4.same fun k hk=>Below.heap_setCell _ _ _ _ (fun e=>(List.nodup_cons.1 hnd).1 (by have e':k=b:=e;rw[←e'];exact hk)),fun h=>(h5 h).2⟩
  simp[World.setCell,Array.getElem?_modify,h2]
 ·have c0:w.cell? ⟨b,0,none⟩=some (.pointer (some ⟨b,0,none⟩)):=by rw[Lib.cell_of_heap h2];rfl
  have tP:prog.underlying 73=some (.pointer 75):=by kernel_rfl
  obtain⟨j,hj,hjs⟩:=Option.map_eq_some_iff.1 (show (prog.info? 75).map (·.size)=some 2 by kernel_rfl)
  go_enter func77,ntmps77
  go_wp2
  rw[Lib.run_neq_ptr_same w _ tP hj]
  go_wp2
  go_end0
  exact⟨rfl,Chg.refl _ _,v,fr,h2,rfl,h4,fun h=>(h5 h).2⟩
set_option maxHeartbeats 2000000 in
set_option maxRecDepth 100000 in
theorem qAy:qX6 prog 47 75 5:=by
 refine⟨⟨_,func47,rfl,by decide⟩,fun w b fp l f0 s h hnd hlt hlen=>?_⟩
 obtain⟨i0,hi,hz0,hz1,hz2⟩:=info_parts (P:=prog) (e:=5) (z:=.int .u8 0) (size:=1) (bytes:=1) (by kernel_rfl)
 have tS:prog.underlying 55=some (.slice 5):=by kernel_rfl
 have tT:prog.underlying 9=some .string:=by kernel_rfl
 go_enter func47,ntmps47
 go_wp2_with (go_at_call 77;refine(qTs h hnd).mono ?_)
 rintro e w1 ⟨rfl,hx1,v,fr,hbk,hfp,hrow,_⟩
 subst hfp
 have c1:w1.cell? ⟨b,1,none⟩=some v:=by rw[Lib.cell_of_heap hbk];rfl
 go_wp2_with (at_builtin;refine qTJ rfl _ _ 55 9 rfl 5 i0 tS tT hi hz0 hz1 hz2 rfl hrow s rfl hlen ?_)
 intro v' w2 fr' hrow' hx2 hfr
 have hnb:b∉fr:=(List.nodup_cons.1 hnd).1
 have hb1:b<w1.heap.size:=by
  rcases Nat.lt_or_ge b w1.heap.size with h'|h'
  ·exact h'
  ·simp[Array.getElem?_eq_none h']at hbk
 have hb2:w2.heap[b]?=some (.cells #[.pointer (some ⟨b,0,none⟩),v] 75 (0,0)):=by rw[hx2.same b hb1 hnb];exact hbk
 have d1:w2.cell? ⟨b,1,none⟩=some v:=by rw[Lib.cell_of_heap hb2];rfl
 have f1:w2.frozen? ⟨b,1,none⟩=false:=Lib.frozen_of_heap hb2 1
 obtain⟨ao,n',cap,rfl⟩:∃ao n' cap,v'=.slice ao n' cap:=by
  rcases hrow' with⟨_,_,hv⟩|⟨_,_,_,_,_,hv,_⟩
  ·exact⟨_,_,_,hv⟩
  ·exact⟨_,_,_,hv⟩
 have hbf:b∉fr':=by
  rcases hfr with rfl|⟨rfl,_⟩
  ·exact hnb
  ·intro h;rw[List.mem_singleton]at h;omega
 go_wp2
 go_ret2
 refine⟨_,b::fr',rfl,?_,⟨.pointer (some ⟨b,0,none⟩),_,fr',.inr rfl,?_,rfl,hrow'.same fun k hk=>Below.heap_setCell _ _ _ _ (fun e=>hbf (by have e':k=b:=e;rw[←e'];exact hk)),fun h=>by cases h⟩,?_,?_⟩
 ·exact((Chg.trans (fp:=b::fr) ⟨hx1.size,fun i hi hn=>hx1.same i hi (fun h=>hn (by rw[List.mem_singleton.1 h];exact List.mem_cons_self)),hx1.shape,hx1.os,hx1.output,hx1.tape⟩ hx2 fun x hx=>.inl (List.mem_cons_of_mem _ hx)).trans (qJz _ _ _ _) fun x hx=>.inl (by rw[List.mem_singleton.1 hx];exact List.mem_cons_self))
 ·simp[World.setCell,Array.getElem?_modify,hb2]
 ·refine List.nodup_cons.2 ⟨hbf,?_⟩
  rcases hfr with rfl|⟨rfl,_⟩
  ·exact(List.nodup_cons.1 hnd).2
  ·simp
 ·have hs2:=hx2.size
  have hs1:=hx1.size
  intro k hk
  have hsz:(w2.setCell ⟨b,1,none⟩ (.slice ao n' cap)).heap.size=w2.heap.size:=by simp[World.setCell]
  rw[hsz]
  rcases List.mem_cons.1 hk with rfl|hk
  ·exact⟨by omega,.inl List.mem_cons_self⟩
  ·rcases hfr with rfl|⟨rfl,hlt2⟩
   ·exact⟨by have:=hlt k (List.mem_cons_of_mem _ hk);omega,.inl (List.mem_cons_of_mem _ hk)⟩
   ·rw[List.mem_singleton.1 hk]
    exact⟨hlt2,.inr hs1⟩
end
section
open Go.Shelf Go.RowKit
set_option maxHeartbeats 2000000 in
set_option maxRecDepth 1000000 in
theorem qVj {b n:Nat} {w:World} (hbk:w.heap[b]?=some (.cells #[.pointer (some ⟨b,0,none⟩),.slice none 0 0] 75 (0,0))) (hn0:0<n) (hn:n≤281474976710656) :
  Calls prog 332 #[.pointer (some ⟨b,0,none⟩),.int .i64 n] w fun e w'=>∃v,e=.returned v∧Chg [b] w w'∧BldR w' [b,w.heap.size] b false 75 5 []∧w.heap.size<w'.heap.size:=by
 have tS:prog.underlying 55=some (.slice 5):=by kernel_rfl
 obtain⟨cs,hrun,hle,hmax⟩:=Lib.run_makeNoZero (P:=prog) w.drew #[3] 55 5 tS n hn
 have hw:IntKind.i64.wrap (IntKind.i64.wrap 0+(n:Int))=n:=by
  rw[IntKind.wrap_i64,IntKind.wrap_i64]
  omega
 have hcall:(callFunc 352 #[.int .i64 (IntKind.i64.wrap (IntKind.i64.wrap 0+(n:Int)))]).run prog w.drew=.ok (.value (.slice (some ⟨w.drew.heap.size,0,none⟩) n cs.size)) (w.drew.drew.drew.alloc (.cells cs 5)):=by
  rw[hw,run_callFunc_extern func352 (by kernel_rfl) (by kernel_rfl) (by kernel_rfl) (e:=Extern.BytealgMakeNoZero.makeNoZero #[3] #[55]) (by kernel_rfl),hrun]
  rfl
 have hlt:b<w.heap.size:=by
  rcases Nat.lt_or_ge b w.heap.size with h'|h'
  ·exact h'
  ·simp[Array.getElem?_eq_none h']at hbk
 have c1:w.drew.cell? ⟨b,1,none⟩=some (.slice none 0 0):=by
  have:w.drew.heap[b]?=_:=hbk
  rw[Lib.cell_of_heap this];rfl
 have hb2:(w.alloc (.cells cs 5)).heap[b]?=some (.cells #[.pointer (some ⟨b,0,none⟩),.slice none 0 0] 75 (0,0)):=(Lib.alloc_old w _ b hlt).trans hbk
 have c2:(w.alloc (.cells cs 5)).cell? ⟨b,1,none⟩=some (.slice none 0 0):=by
  rw[Lib.cell_of_heap hb2];rfl
 have f2:(w.alloc (.cells cs 5)).frozen? ⟨b,1,none⟩=false:=Lib.frozen_of_heap hb2 1
 have hcopy:∀W:World,(Builtin.copy_ #[55,55] 3 #[.slice (some ⟨w.heap.size,0,none⟩) 0 cs.size,.slice none 0 0]).run prog W=.ok (goInt 0) W :=
  fun W=>run_copy_none W 55 55 3 5 _ _ 0 cs.size 0 0 tS (by kernel_rfl) rfl
 clear hw
 have mixed:prog.follows .mixedOrders=true:=by kernel_rfl
 go_enter func332,ntmps332
 go_wp2
 have hcs:cs.size≤9223372036854775807:=hmax (by unfold maxLen;omega)
 have hfin:Chg [b] w (((w.setCell ⟨b,1,none⟩ (.slice (some ⟨w.heap.size,0,none⟩) 0 cs.size)).alloc (.cells cs 5)).drew.drew.drew)∧BldR (((w.setCell ⟨b,1,none⟩ (.slice (some ⟨w.heap.size,0,none⟩) 0 cs.size)).alloc (.cells cs 5)).drew.drew.drew) [b,w.heap.size] b false 75 5 []∧w.heap.size<(((w.setCell ⟨b,1,none⟩ (.slice (some ⟨w.heap.size,0,none⟩) 0 cs.size)).alloc (.cells cs 5)).drew.drew.drew).heap.size:=by
  generalize hV:w.setCell ⟨b,1,none⟩ (.slice (some ⟨w.heap.size,0,none⟩) 0 cs.size)=V
  have hVs:V.heap.size=w.heap.size:=by
   rw[←hV]
   show (w.heap.modify _ _).size=_
   rw[Array.size_modify]
  have hVb:V.heap[b]?=some (.cells #[.pointer (some ⟨b,0,none⟩),.slice (some ⟨w.heap.size,0,none⟩) 0 cs.size] 75 (0,0)):=by
   rw[←hV];simp[World.setCell,Array.getElem?_modify,hbk]
  have hV1:Chg [b] w V:=by rw[←hV];exact qJz _ b 1 _
  have h0:Chg [b] V (V.alloc (.cells cs 5)) :=
   ⟨by show _≤(V.heap.push _).size;simp,fun k hk _=>Lib.alloc_old V _ k hk,fun k hk=>by simp only[World.shape?,Lib.alloc_old V _ k hk],rfl,rfl,rfl,Nat.le_refl _⟩
  have h1:=hV1.trans h0 fun x hx=>.inl hx
  have hs:(V.alloc (.cells cs 5)).heap.size=w.heap.size+1:=by
   show (V.heap.push _).size=_
   rw[Array.size_push,hVs]
  have hb3:=(Lib.alloc_old V (.cells cs 5) b (by rw[hVs];exact hlt)).trans hVb
  have hb4:(V.alloc (.cells cs 5)).heap[w.heap.size]?=some (.cells cs 5 (0,0)):=by rw[←hVs];exact heap_alloc_new V _
  generalize V.alloc (.cells cs 5)=W at *
  refine⟨h1.trans ((qJB [b] _).trans ((qJB [b] _).trans (qJB [b] _) fun x hx=>.inl hx) fun x hx=>.inl hx) fun x hx=>.inl hx,?_,by show _<W.heap.size;omega⟩
  show BldR W _ _ _ _ _ _
  exact⟨_,_,[w.heap.size],.inr rfl,hb3,rfl,.inr ⟨w.heap.size,cs.size,cs,rfl,by omega,rfl,hb4,by simp,hcs,rfl,by simp⟩,fun h=>by cases h⟩
 go_region_o
 all_goals (go_wp2;go_end0;exact⟨_,rfl,hfin⟩)
set_option maxHeartbeats 2000000 in
set_option maxRecDepth 1000000 in
theorem qHR:qXk prog 287 75 5:=by
 refine⟨⟨_,func287,rfl,by decide⟩,fun w b fp l n h hnd hlt hn=>?_⟩
 have tS:prog.underlying 55=some (.slice 5):=by kernel_rfl
 have mixed:prog.follows .mixedOrders=true:=by kernel_rfl
 have hl:l=[]∧∃b',fp=[b']:=by
  obtain⟨p,v,fr,h1,h2,rfl,h4,h5⟩:=h
  rcases h4 with⟨rfl,h4,_⟩|⟨g,cap,arr,rfl,hc0,hv,_⟩
  ·exact⟨h4,b,rfl⟩
  ·rw[(h5 rfl).2]at hv;cases hv
 obtain⟨rfl,b',hb'⟩:=hl
 go_enter func287,ntmps287
 obtain⟨p,v,fr,h1,h2,h3,h4,h5⟩:=h
 obtain⟨rfl,rfl⟩:=h5 rfl
 obtain⟨rfl,rfl⟩:b'=b∧fr=[]:=by
  rw[hb']at h3
  simpa [eq_comm]using h3
 subst hb'
 have hbk1:(w.setCell ⟨b',0,none⟩ (.pointer (some ⟨b',0,none⟩))).heap[b']?=some (.cells #[.pointer (some ⟨b',0,none⟩),.slice none 0 0] 75 (0,0)):=by
  simp[World.setCell,Array.getElem?_modify,h2]
 have c1':(w.setCell ⟨b',0,none⟩ (.pointer (some ⟨b',0,none⟩))).drew.cell? ⟨b',1,none⟩=some (.slice none 0 0):=by
  have:(w.setCell ⟨b',0,none⟩ (.pointer (some ⟨b',0,none⟩))).drew.heap[b']?=_:=hbk1
  rw[Lib.cell_of_heap this];rfl
 go_wp2_with (go_at_call 77;refine(qKx h2).mono ?_;rintro e w' ⟨rfl,rfl⟩)
 go_region_o
 all_goals go_wp2_with (go_at_call 332;refine(qVj (w:=(w.setCell ⟨b',0,none⟩ (.pointer (some ⟨b',0,none⟩))).drew) hbk1 (by omega) hn).mono ?_;rintro e w' ⟨v1,rfl,g1,g2,g3⟩)
 all_goals
  have hs:(w.setCell ⟨b',0,none⟩ (.pointer (some ⟨b',0,none⟩))).drew.heap.size=w.heap.size:=by
   show (w.heap.modify _ _).size=_
   rw[Array.size_modify]
  have hX:Chg [b'] w (w.setCell ⟨b',0,none⟩ (.pointer (some ⟨b',0,none⟩))).drew:=(qJz w b' 0 _).trans (qJB [b'] _) fun x hx=>.inl hx
  have hb0:b'<w.heap.size:=hlt b' (by simp)
  go_end0
  first
   |exact⟨_,_,rfl,hX.trans g1 fun x hx=>.inl hx,g2,by rw[hs];simp;omega,fun k hk=>by
     have hgs:=g1.size
     rw[hs]at hk g3 hgs
     rcases List.mem_cons.1 hk with rfl|hk
     ·exact⟨by omega,.inl (by simp)⟩
     ·rw[List.mem_singleton.1 hk];exact⟨g3,.inr (Nat.le_refl _)⟩⟩
   |exact⟨_,[b'],rfl,hX,⟨_,_,[],.inr rfl,hbk1,rfl,.inl ⟨rfl,rfl,rfl⟩,fun h=>by cases h⟩,by simp,fun k hk=>by
     rw[hs,List.mem_singleton.1 hk];exact⟨hb0,.inl (by simp)⟩⟩
end
theorem qGX:qWp prog 48 75 5:=qVz ⟨_,func48,rfl,by decide⟩ Tryz.lays169 Tryz.Builder_Extra_169
def qDV (sep:ByteArray):List ByteArray→Nat→ByteArray→Option ByteArray
 | [],k22,v37 =>
  some v37
 |y23::ys24,k22,v37 =>
  (qAr (Nat.ble (v37.size+sep.size) 140737488355328)).bind fun u39 =>
  (qAr (Nat.ble ((v37++sep).size+y23.size) 140737488355328)).bind fun u41 =>
  qDV sep ys24 (k22+1) ((v37++sep)++y23)
def qDN (elems:List ByteArray) (sep:ByteArray):List ByteArray→Nat→Int→Option ByteArray
 | [],k5,v12 =>
  (qAr (decide (0≤v12)&&decide (v12≤281474976710656))).bind fun u14 =>
  (qAT elems 0).bind fun x16 =>
  (qAr (Nat.ble ((⟨#[]⟩:ByteArray).size+x16.size) 140737488355328)).bind fun u18 =>
  (qC0 elems 1).bind fun x20 =>
  qDV sep x20 0 ((⟨#[]⟩:ByteArray)++x16)
 |y6::ys7,k5,v12 =>
  cond (decide ((y6.size:Int)>(w64 (9223372036854775807-v12))))
   (none)
   (qDN elems sep ys7 (k5+1) (w64 (v12+(y6.size:Int))))
def qDH (sep:ByteArray):List ByteArray→Nat→ByteArray→Option ByteArray
 | [],k60,v75 =>
  some v75
 |y61::ys62,k60,v75 =>
  (qAr (Nat.ble (v75.size+sep.size) 140737488355328)).bind fun u77 =>
  (qAr (Nat.ble ((v75++sep).size+y61.size) 140737488355328)).bind fun u79 =>
  qDH sep ys62 (k60+1) ((v75++sep)++y61)
def qDJ (elems:List ByteArray) (sep:ByteArray):List ByteArray→Nat→Int→Option ByteArray
 | [],k43,v50 =>
  (qAr (decide (0≤v50)&&decide (v50≤281474976710656))).bind fun u52 =>
  (qAT elems 0).bind fun x54 =>
  (qAr (Nat.ble ((⟨#[]⟩:ByteArray).size+x54.size) 140737488355328)).bind fun u56 =>
  (qC0 elems 1).bind fun x58 =>
  qDH sep x58 0 ((⟨#[]⟩:ByteArray)++x54)
 |y44::ys45,k43,v50 =>
  cond (decide ((y44.size:Int)>(w64 (9223372036854775807-v50))))
   (none)
   (qDJ elems sep ys45 (k43+1) (w64 (v50+(y44.size:Int))))
def qFa (elems:List ByteArray) (sep:ByteArray):Option ByteArray :=
 cond ((elems.length:Int)==0)
  (some (⟨#[]⟩:ByteArray))
  (cond ((elems.length:Int)==1)
   ((qAT elems 0).bind fun x1 =>
   some x1)
   (cond (decide ((sep.size:Int)>0))
    ((qAr ((w64 ((elems.length:Int)-1)) != 0)).bind fun u3 =>
    cond (decide ((sep.size:Int)≥(w64 ((9223372036854775807:Int).tdiv (w64 ((elems.length:Int)-1))))))
     (none)
     (qDN elems sep elems 0 (w64 (0+(w64 ((sep.size:Int)*(w64 ((elems.length:Int)-1))))))))
    (qDJ elems sep elems 0 0)))
theorem qO0 (elems:List ByteArray) (sep:ByteArray) (r:ByteArray) (hH:qFa elems sep=some r):qAC prog 233 [.s (List.map ze2 elems),.v (.string sep)] (.v (.string r)):=by
 refine fns T func233 ?_
 refine go ?_
 refine AW.cH hH (fun _ hH=>?_) (fun hc hH=>?_)
 refine go ?_
 exact fin
 refine go ?_
 refine AW.cH hH (fun _ hH=>?_) (fun hc hH=>?_)
 refine AW.q ?_
 obtain⟨x1,hx2,hH⟩:=zB hH
 refine go ?_
 exact fin
 refine go ?_
 refine AW.cH hH (fun hc hH=>?_) (fun hc hH=>?_)
 refine go ?_
 obtain⟨u3,hx4,hH⟩:=zB hH
 refine go ?_
 refine AO.w (qGu rfl rfl rfl (neZ (qAQ (hx4)))) (go ?_)
 refine AW.cH hH (fun _ hH=>?_) (fun hc hH=>?_)
 cases hH
 iterate 12 refine gs ?_
 refine AW.le (Le.ct 0 0 (σ':=(⟨[(0,sv ze2 elems),(1,.v (.string sep)),(5,w64 (0+(w64 ((sep.size:Int)*(w64 ((elems.length:Int)-1))))))],[],75,[]⟩:St))) ?_
 refine go ?_
 refine AW.loopS (fun s:Nat×Int=>(⟨[(0,sv ze2 elems),(1,.v (.string sep)),(5,s.2),(39,sv ze2 elems),(40,(elems.length:Int)),(41,(s.1:Int))],[],75,[]⟩:St)) (fun s=>s.1≤elems.length∧qDN elems sep (elems.drop s.1) s.1 s.2=some r) (fun s=>elems.length-s.1) (0,w64 (0+(w64 ((sep.size:Int)*(w64 ((elems.length:Int)-1)))))) ⟨Nat.zero_le _,hH⟩ ?_ ?_
 exact Le.ct 0 0
 rintro⟨k5,v12⟩ ⟨hk,hH⟩
 try dsimp only at hH⊢
 refine AW.boundM (t:=0) (l:=elems) rfl (fun hb9=>?_)
 rcases hd8:elems.drop k5 with _|⟨y6,ys7⟩
 rw[hd8,qDN]at hH
 have hlt10:=qAF hd8
 refine go ?_
 refine AO.x (qNk T true (U:=5) rfl 1 rfl rfl rfl rfl rfl) (go ?_)
 obtain⟨u14,hx15,hH⟩:=zB hH
 refine go ?_
 refine AO.x (qT7 rfl rfl rfl rfl (qAQ (hx15)) qHR rfl) (go ?_)
 obtain⟨x16,hx17,u18,hx19,hH⟩:=qAH hH
 refine go ?_
 refine AO.x (qM0 rfl rfl rfl rfl (qAQ (hx19)) qAy rfl) (go ?_)
 obtain⟨x20,hx21,hH⟩:=zB hH
 refine go ?_
 refine AO.w (qDW T rfl rfl rfl rfl rfl (hx21) (fun _=>rfl)) (go ?_)
 refine AW.loopS (fun s:Nat×ByteArray=>(⟨[(1,.v (.string sep)),(8,.p 1 0),(63,sv ze2 x20),(64,(x20.length:Int)),(65,(s.1:Int))],[(1,.bld false 75 5 s.2)],75,[]⟩:St)) (fun s=>s.1≤x20.length∧qDV sep (x20.drop s.1) s.1 s.2=some r) (fun s=>x20.length-s.1) (0,((⟨#[]⟩:ByteArray)++x16)) ⟨Nat.zero_le _,hH⟩ ?_ ?_
 exact Le.ct 0 0
 rintro⟨k22,v37⟩ ⟨hk,hH⟩
 try dsimp only at hH⊢
 refine AW.boundM (t:=63) (l:=x20) rfl (fun hb26=>?_)
 rcases hd25:x20.drop k22 with _|⟨y23,ys24⟩
 rw[hd25,qDV]at hH
 have hlt27:=qAF hd25
 refine go ?_
 refine AO.x (qUV rfl rfl rfl rfl qGX rfl) (go ?_)
 exact fin
 rw[hd25,qDV]at hH
 have hlt27:=qAG hd25
 refine go ?_
 obtain⟨u39,hx40,hH⟩:=zB hH
 refine go ?_
 refine AO.x (qM0 rfl rfl rfl rfl (qAQ (hx40)) qAy rfl) ?_
 refine AO.n ?_
 obtain⟨u41,hx42,hH⟩:=zB hH
 refine go ?_
 refine AO.x (qM0 rfl rfl rfl rfl (qAQ (hx42)) qAy rfl) (go ?_)
 refine⟨(k22+1,((v37++sep)++y23)),⟨hlt27,(zds hd25▸hH)⟩,qBz hlt27,?_⟩
 exact Le.ct 0 0
 rw[hd8,qDN]at hH
 have hlt10:=qAG hd8
 refine go ?_
 refine AW.cH hH (fun _ hH=>?_) (fun hc hH=>?_)
 cases hH
 refine go ?_
 refine⟨(k5+1,w64 (v12+(y6.size:Int))),⟨hlt10,(zds hd8▸hH)⟩,qBz hlt10,?_⟩
 exact Le.ct 0 0
 refine go ?_
 refine AW.loopS (fun s:Nat×Int=>(⟨[(0,sv ze2 elems),(1,.v (.string sep)),(5,s.2),(39,sv ze2 elems),(40,(elems.length:Int)),(41,(s.1:Int))],[],75,[]⟩:St)) (fun s=>s.1≤elems.length∧qDJ elems sep (elems.drop s.1) s.1 s.2=some r) (fun s=>elems.length-s.1) (0,0) ⟨Nat.zero_le _,hH⟩ ?_ ?_
 exact Le.ct 0 0
 rintro⟨k43,v50⟩ ⟨hk,hH⟩
 try dsimp only at hH⊢
 refine AW.boundM (t:=0) (l:=elems) rfl (fun hb47=>?_)
 rcases hd46:elems.drop k43 with _|⟨y44,ys45⟩
 rw[hd46,qDJ]at hH
 have hlt48:=qAF hd46
 refine go ?_
 refine AO.x (qNk T true (U:=5) rfl 2 rfl rfl rfl rfl rfl) (go ?_)
 obtain⟨u52,hx53,hH⟩:=zB hH
 refine go ?_
 refine AO.x (qT7 rfl rfl rfl rfl (qAQ (hx53)) qHR rfl) (go ?_)
 obtain⟨x54,hx55,u56,hx57,hH⟩:=qAH hH
 refine go ?_
 refine AO.x (qM0 rfl rfl rfl rfl (qAQ (hx57)) qAy rfl) (go ?_)
 obtain⟨x58,hx59,hH⟩:=zB hH
 refine go ?_
 refine AO.w (qDW T rfl rfl rfl rfl rfl (hx59) (fun _=>rfl)) (go ?_)
 refine AW.loopS (fun s:Nat×ByteArray=>(⟨[(1,.v (.string sep)),(8,.p 2 0),(63,sv ze2 x58),(64,(x58.length:Int)),(65,(s.1:Int))],[(2,.bld false 75 5 s.2)],75,[]⟩:St)) (fun s=>s.1≤x58.length∧qDH sep (x58.drop s.1) s.1 s.2=some r) (fun s=>x58.length-s.1) (0,((⟨#[]⟩:ByteArray)++x54)) ⟨Nat.zero_le _,hH⟩ ?_ ?_
 exact Le.ct 0 0
 rintro⟨k60,v75⟩ ⟨hk,hH⟩
 try dsimp only at hH⊢
 refine AW.boundM (t:=63) (l:=x58) rfl (fun hb64=>?_)
 rcases hd63:x58.drop k60 with _|⟨y61,ys62⟩
 rw[hd63,qDH]at hH
 have hlt65:=qAF hd63
 refine go ?_
 refine AO.x (qUV rfl rfl rfl rfl qGX rfl) (go ?_)
 exact fin
 rw[hd63,qDH]at hH
 have hlt65:=qAG hd63
 refine go ?_
 obtain⟨u77,hx78,hH⟩:=zB hH
 refine go ?_
 refine AO.x (qM0 rfl rfl rfl rfl (qAQ (hx78)) qAy rfl) ?_
 refine AO.n ?_
 obtain⟨u79,hx80,hH⟩:=zB hH
 refine go ?_
 refine AO.x (qM0 rfl rfl rfl rfl (qAQ (hx80)) qAy rfl) (go ?_)
 refine⟨(k60+1,((v75++sep)++y61)),⟨hlt65,(zds hd63▸hH)⟩,qBz hlt65,?_⟩
 exact Le.ct 0 0
 rw[hd46,qDJ]at hH
 have hlt48:=qAG hd46
 refine go ?_
 refine AW.cH hH (fun _ hH=>?_) (fun _ hH=>?_)
 cases hH
 refine go ?_
 refine⟨(k43+1,w64 (v50+(y44.size:Int))),⟨hlt48,(zds hd46▸hH)⟩,qBz hlt48,?_⟩
 exact Le.ct 0 0
def qBM:List Int→Nat→List ByteArray→Option ByteArray
 | [],k1,v16 =>
  (qFa v16 (⟨#[32]⟩:ByteArray)).bind fun x18 =>
  some x18
 |y2::ys3,k1,v16 =>
  (qB3 y2).bind fun x20 =>
  (qAr (qAf 16 (v16.length+([x20]).length))).bind fun u22 =>
  qBM ys3 (k1+1) (v16++[x20])
def qAw (l:List Int):Option ByteArray :=
 qBM l 0 []
theorem qFQ (l:List Int) (r:ByteArray) (hH:qAw l=some r):qAC prog 178 [.s (List.map ze0 l)] (.v (.string r)):=by
 refine fns T func178 ?_
 refine go ?_
 refine AO.x (qGF T rfl rfl rfl rfl) (go ?_)
 refine AW.loopS (fun s:Nat×(List ByteArray)=>(⟨[(3,.R 4),(7,sv ze0 l),(8,(l.length:Int)),(9,(s.1:Int))],[(4,ro 1 ze2 s.2)],21,[]⟩:St)) (fun s=>s.1≤l.length∧qBM (l.drop s.1) s.1 s.2=some r) (fun s=>l.length-s.1) (0,[]) ⟨Nat.zero_le _,hH⟩ ?_ ?_
 refine Le.trans (Le.void 3 4 1 rfl rfl) ?_
 exact Le.ct 0 0
 rintro⟨k1,v16⟩ ⟨hk,hH⟩
 try dsimp only at hH⊢
 refine AW.boundM (t:=7) (l:=l) rfl (fun hb5=>?_)
 rcases hd4:l.drop k1 with _|⟨y2,ys3⟩
 rw[hd4,qBM]at hH
 have hlt6:=qAF hd4
 refine go ?_
 obtain⟨x18,hx19,hH⟩:=zB hH
 refine go ?_
 refine AO.w (zLV rfl rfl rfl (es:=[sv ze2 v16,.v (.string (⟨#[32]⟩:ByteArray))]) ⟨(.rowR rfl (.map fun y=>.vs rfl)),.free rfl,trivial⟩ (qO0 _ _ _ (hx19)) (qAJ _) rfl) (go ?_)
 exact fin
 rw[hd4,qBM]at hH
 have hlt6:=qAG hd4
 refine go ?_
 obtain⟨x20,hx21,u22,hx23,hH⟩:=qAH hH
 refine go ?_
 refine AO.w (cVs (qHK _ _ (hx21))) ?_
 refine AO.x (mks T 5 ze2 ([x20])) ?_
 refine AO.x (rvs T 6 (hfit:=by exact qAQ (hx23))) (go ?_)
 refine⟨(k1+1,(v16++[x20])),⟨hlt6,(zds hd4▸hH)⟩,qBz hlt6,?_⟩
 exact Le.ct 6 4
def qCh (l:List Int):Option ByteArray :=
 cond ((l.length:Int)==0)
  (some (⟨#[110,111,110,101]⟩:ByteArray))
  ((qAw l).bind fun x1 =>
  some x1)
theorem qIj (l:List Int) (r:ByteArray) (hH:qCh l=some r):qAC prog 171 [.s (List.map ze0 l)] (.v (.string r)):=by
 refine fns T func171 ?_
 refine go ?_
 refine AW.cH hH (fun _ hH=>?_) (fun _ hH=>?_)
 refine go ?_
 exact fin
 refine go ?_
 obtain⟨x1,hx2,hH⟩:=zB hH
 refine go ?_
 refine AO.w (cVs (qFQ _ _ (hx2))) (go ?_)
 exact fin
def qAs (l:List Item) (k:Int):List Item→Nat→Int→Option Int
 | [],k3,v26 =>
  some v26
 |y4::ys5,k3,v26 =>
  (qAT y4.names 0).bind fun x28 =>
  (qAT l k).bind fun x30 =>
  (qAT x30.names 0).bind fun x32 =>
  (opt (decide (x28=x32)) default (qAT y4.marks 0)).bind fun x34 =>
  cond (decide (x28=x32)&&(x34 != 3))
   (qAs l k ys5 (k3+1) (w64 (v26+1)))
   (qAs l k ys5 (k3+1) v26)
def qIG (l:List Item) (k:Int):Option Int :=
 (qFj l k).bind fun x1 =>
 qAs l k x1 0 0
theorem qNI (l:List Item) (k:Int) (r:Int) (hH:qIG l k=some r):qAC prog 285 [.s (List.map ze1 l),k] (.v (.int .i64 r)):=by
 refine fns T func285 ?_
 refine go ?_
 obtain⟨x1,hx2,hH⟩:=zB hH
 refine go ?_
 refine AO.w (qEB T rfl rfl rfl rfl rfl (hx2) (fun _=>rfl)) (go ?_)
 refine AW.loopS (fun s:Nat×Int=>(⟨[(0,sv ze1 l),(1,k),(5,s.2),(10,sv ze1 x1),(11,(x1.length:Int)),(12,(s.1:Int))],[],39,[]⟩:St)) (fun s=>s.1≤x1.length∧qAs l k (x1.drop s.1) s.1 s.2=some r) (fun s=>x1.length-s.1) (0,0) ⟨Nat.zero_le _,hH⟩ ?_ ?_
 exact Le.ct 0 0
 rintro⟨k3,v26⟩ ⟨hk,hH⟩
 try dsimp only at hH⊢
 refine AW.boundM (t:=10) (l:=x1) rfl (fun hb7=>?_)
 rcases hd6:x1.drop k3 with _|⟨y4,ys5⟩
 rw[hd6,qAs]at hH
 have hlt8:=qAF hd6
 refine go ?_
 exact fin
 rw[hd6,qAs]at hH
 have hlt8:=qAG hd6
 refine go ?_
 refine AO.x (als T 3) ?_
 refine AO.se T [sv ze2 y4.names,sv ze0 y4.marks,.v (.bool y4.late)] ?_
 refine go ?_
 obtain⟨x28,hx29,x30,hx31,x32,hx33,hH⟩:=qA9 hH
 obtain⟨x34,hx35,hH⟩:=zB hH
 refine AW.drawn 11 4 [] mix (by kernel_rfl) rfl ?_
 refine go ?_
 refine AO.g0 T ?_
 refine AO.g1 T 29 ?_
 refine AO.d1 30 (fun hg=>ixs T (qEy hx35 hg)) ?_
 refine AO.g1 T 31 ?_
 refine AO.g1 T 32 ?_
 refine gs2 ?_
 refine AW.le (Le.ct 0 0 (σ':=(⟨[(0,sv ze1 l),(1,k),(5,v26),(10,sv ze1 x1),(11,(x1.length:Int)),(12,(k3:Int)),(34,.v (.bool (decide (x28=x32)&&(x34 != 3))))],[],39,[]⟩:St))) ?_
 refine AW.cH hH (fun _ hH=>?_) (fun _ hH=>?_)
 refine go ?_
 refine⟨(k3+1,w64 (v26+1)),⟨hlt8,(zds hd6▸hH)⟩,qBz hlt8,?_⟩
 exact Le.ct 0 0
 refine go ?_
 refine⟨(k3+1,v26),⟨hlt8,(zds hd6▸hH)⟩,qBz hlt8,?_⟩
 exact Le.ct 0 0
def qGc (c:Code) (x:Element) (mark:Int):Option Int :=
 cond (mark==1)
  ((qAr (100 != 0)).bind fun u1 =>
  some (w64 ((w64 (x.base*c.keeps)).tdiv 100)))
  (cond (mark==2)
   ((qAr (10 != 0)).bind fun u3 =>
   some (w64 ((w64 (x.base*9)).tdiv 10)))
   (cond (mark==3)
    (some 0)
    (some x.base)))
theorem qOk (c:Code) (x:Element) (mark:Int) (r:Int) (hH:qGc c x mark=some r):qAC prog 351 [.g (ze4 c),.g (ze5 x),mark] (.v (.int .i64 r)):=by
 refine fns T func351 ?_
 refine go ?_
 refine AO.x (bxs T 1) ?_
 refine AO.x (bxs T 2) (go ?_)
 refine AW.cH hH (fun _ hH=>?_) (fun hc hH=>?_)
 refine AW.q ?_
 obtain⟨u1,hx2,hH⟩:=zB hH
 refine go ?_
 refine AO.w (qGu rfl rfl rfl (neZ (qAQ (hx2)))) (go ?_)
 exact fin
 refine go ?_
 refine AW.cH hH (fun _ hH=>?_) (fun hc hH=>?_)
 refine AW.q ?_
 obtain⟨u3,hx4,hH⟩:=zB hH
 refine go ?_
 refine AO.w (qGu rfl rfl rfl (neZ (qAQ (hx4)))) (go ?_)
 exact fin
 refine go ?_
 refine AW.cH hH (fun _ hH=>?_) (fun _ hH=>?_)
 refine go ?_
 exact fin
 refine go ?_
 exact fin
def qD2 (c:Code) (it:Item):List ByteArray→Nat→List Int→Option ((List Int))
 | [],k1,v28 =>
  some v28
 |y2::ys3,k1,v28 =>
  (qCW c y2).bind fun x30 =>
  (qAT c.elements x30).bind fun x32 =>
  (qAT it.marks (k1:Int)).bind fun x34 =>
  (qGc c x32 x34).bind fun x36 =>
  (qAr (qAf 8 (v28.length+([x36]).length))).bind fun u38 =>
  qD2 c it ys3 (k1+1) (v28++[x36])
def qIZ (c:Code) (it:Item):Option (List Int) :=
 qD2 c it it.names 0 []
theorem qL4 (c:Code) (it:Item) (r:(List Int)) (hH:qIZ c it=some r):qAC prog 331 [.g (ze4 c),.g (ze1 it)] (.w 1 (r.map ze0)):=by
 refine fns T func331 ?_
 refine go ?_
 refine AO.x (bxs T 1) ?_
 refine AO.x (bxs T 2) (go ?_)
 refine AO.x (qGF T rfl rfl rfl rfl) (go ?_)
 refine AW.loopS (fun s:Nat×(List Int)=>(⟨[(2,.p 1 0),(3,.p 2 0),(5,.R 6),(10,sv ze2 it.names),(11,(it.names.length:Int)),(12,(s.1:Int))],[(1,.box (ze4 c)),(2,.box [sv ze2 it.names,sv ze0 it.marks,.v (.bool it.late)]),(6,ro 1 ze0 s.2)],36,[]⟩:St)) (fun s=>s.1≤it.names.length∧qD2 c it (it.names.drop s.1) s.1 s.2=some r) (fun s=>it.names.length-s.1) (0,[]) ⟨Nat.zero_le _,hH⟩ ?_ ?_
 refine Le.trans (Le.void 5 6 1 rfl rfl) ?_
 exact Le.ct 0 0
 rintro⟨k1,v28⟩ ⟨hk,hH⟩
 try dsimp only at hH⊢
 refine AW.boundM (t:=10) (l:=it.names) rfl (fun hb5=>?_)
 rcases hd4:it.names.drop k1 with _|⟨y2,ys3⟩
 rw[hd4,qD2]at hH
 have hlt6:=qAF hd4
 refine go ?_
 exact fin
 rw[hd4,qD2]at hH
 have hlt6:=qAG hd4
 refine go ?_
 obtain⟨x30,hx31,x32,hx33,x34,hx35,hH⟩:=qA9 hH
 obtain⟨x36,hx37,u38,hx39,hH⟩:=qAH hH
 refine AW.drawn 16 7 [] mix (by kernel_rfl) rfl ?_
 refine go ?_
 refine AD.vv (cVs (qFN _ _ _ (hx31))) ?_
 refine go ?_
 refine AD.vv (cVs (qOk _ _ _ _ (hx37))) ?_
 refine AD.q (FStep.mk T (f:=ze0) (l:=[x36]) rfl rfl rfl rfl rfl rfl rfl rfl rfl (fun _=>rfl) rfl rfl rfl rfl) (by simp[qAu]) (Nat.le_succ _) rfl ?_
 refine AD.nil (AO.x (rvs T 8 (hfit:=by exact qAQ (hx39))) ?_)
 refine gs2 ?_
 refine AW.le (Le.ct 0 0 (σ':=(⟨[(2,.p 1 0),(3,.p 2 0),(5,.R 8),(10,sv ze2 it.names),(11,(it.names.length:Int)),(12,(k1:Int))],[(1,.box (ze4 c)),(2,.box [sv ze2 it.names,sv ze0 it.marks,.v (.bool it.late)]),(8,ro 1 ze0 (v28++[x36]))],36,[]⟩:St))) ?_
 refine go ?_
 refine⟨(k1+1,(v28++[x36])),⟨hlt6,(zds hd4▸hH)⟩,qBz hlt6,?_⟩
 exact Le.ct 8 6
def qA8:List Int→Nat→Int→Option Int
 | [],k1,v8 =>
  some v8
 |y2::ys3,k1,v8 =>
  qA8 ys3 (k1+1) (w64 (v8+y2))
def qBA (l:List Int):Option Int :=
 qA8 l 0 0
theorem qFB (l:List Int) (r:Int) (hH:qBA l=some r):qAC prog 176 [.s (List.map ze0 l)] (.v (.int .i64 r)):=by
 refine fns T func176 ?_
 refine go ?_
 refine AW.loopS (fun s:Nat×Int=>(⟨[(3,s.2),(6,sv ze0 l),(7,(l.length:Int)),(8,(s.1:Int))],[],17,[]⟩:St)) (fun s=>s.1≤l.length∧qA8 (l.drop s.1) s.1 s.2=some r) (fun s=>l.length-s.1) (0,0) ⟨Nat.zero_le _,hH⟩ ?_ ?_
 exact Le.ct 0 0
 rintro⟨k1,v8⟩ ⟨hk,hH⟩
 try dsimp only at hH⊢
 refine AW.boundM (t:=6) (l:=l) rfl (fun hb5=>?_)
 rcases hd4:l.drop k1 with _|⟨y2,ys3⟩
 rw[hd4,qA8]at hH
 have hlt6:=qAF hd4
 refine go ?_
 exact fin
 rw[hd4,qA8]at hH
 have hlt6:=qAG hd4
 refine go ?_
 refine⟨(k1+1,w64 (v8+y2)),⟨hlt6,(zds hd4▸hH)⟩,qBz hlt6,?_⟩
 exact Le.ct 0 0
def qE1 (a:Int) (b:Int):Option Int :=
 (qAr (b != 0)).bind fun u1 =>
 cond (decide ((a.tmod b)<0))
  (some (w64 ((w64 (a.tdiv b))-1)))
  (some (w64 (a.tdiv b)))
theorem qIK (a:Int) (b:Int) (r:Int) (hH:qE1 a b=some r):qAC prog 294 [a,b] (.v (.int .i64 r)):=by
 refine fns T func294 ?_
 refine go ?_
 obtain⟨u1,hx2,hH⟩:=zB hH
 refine go ?_
 refine AO.w (qGu rfl rfl rfl (neZ (qAQ (hx2)))) (go ?_)
 refine AO.w (qQE rfl rfl rfl (neZ (qAQ (hx2)))) (go ?_)
 refine AW.cH hH (fun _ hH=>?_) (fun _ hH=>?_)
 refine go ?_
 exact fin
 refine go ?_
 exact fin
def qDS (a:Int) (b:Int):Option Int :=
 (qE1 (w64 ((w64 (2*a))+b)) (w64 (2*b))).bind fun x1 =>
 some x1
theorem qFW (a:Int) (b:Int) (r:Int) (hH:qDS a b=some r):qAC prog 289 [a,b] (.v (.int .i64 r)):=by
 refine fns T func289 ?_
 refine go ?_
 obtain⟨x1,hx2,hH⟩:=zB hH
 refine go ?_
 refine AO.w (cVs (qIK _ _ _ (hx2))) (go ?_)
 exact fin
def qHY (c:Code) (it:Item):Option Int :=
 (qIZ c it).bind fun x1 =>
 (qBA x1).bind fun x3 =>
 cond it.late
  ((qDS (w64 (x3*(w64 (100+c.bonus)))) 100).bind fun x5 =>
  some x5)
  (some x3)
theorem qNs (c:Code) (it:Item) (r:Int) (hH:qHY c it=some r):qAC prog 286 [.g (ze4 c),.g (ze1 it)] (.v (.int .i64 r)):=by
 refine fns T func286 ?_
 refine go ?_
 refine AO.x (bxs T 1) ?_
 refine AO.x (bxs T 2) (go ?_)
 obtain⟨x1,hx2,x3,hx4,hH⟩:=qAH hH
 refine go ?_
 refine AO.x (qAU rfl 3 rfl rfl rfl (qL4 _ _ _ (hx2)) rfl rfl rfl) ?_
 refine AO.w (zLV rfl rfl rfl (es:=[sv ze0 x1]) ⟨(.rowR rfl (.map fun y=>.vs rfl)),trivial⟩ (qFB _ _ (hx4)) (qAJ _) rfl) (go ?_)
 refine AW.cH hH (fun _ hH=>?_) (fun _ hH=>?_)
 obtain⟨x5,hx6,hH⟩:=zB hH
 refine go ?_
 refine AO.w (cVs (qFW _ _ _ (hx6))) (go ?_)
 exact fin
 refine go ?_
 exact fin
def qCg (c:Code) (l:List Item) (k:Int):Option Int :=
 (qIG l k).bind fun x1 =>
 (qAT l k).bind fun x3 =>
 (qHY c x3).bind fun x5 =>
 cond (decide (x1<c.repeats))
  (some x5)
  (cond (x1==c.repeats)
   ((qAr (10 != 0)).bind fun u7 =>
   some (w64 ((w64 (x5*7)).tdiv 10)))
   (some 0))
theorem qGj (c:Code) (l:List Item) (k:Int) (r:Int) (hH:qCg c l k=some r):qAC prog 232 [.g (ze4 c),.s (List.map ze1 l),k] (.v (.int .i64 r)):=by
 refine fns T func232 ?_
 refine go ?_
 refine AO.x (bxs T 1) (go ?_)
 obtain⟨x1,hx2,x3,hx4,x5,hx6,hH⟩:=qA9 hH
 refine AW.drawn 8 2 [] mix (by kernel_rfl) rfl ?_
 refine go ?_
 refine AD.vv (cVs (qNI _ _ _ (hx2))) ?_
 refine go ?_
 refine AO.w (cVs (qNs _ _ _ (hx6))) (go ?_)
 refine AW.cH hH (fun _ hH=>?_) (fun hc hH=>?_)
 refine go ?_
 exact fin
 refine go ?_
 refine AW.cH hH (fun _ hH=>?_) (fun _ hH=>?_)
 refine AW.q ?_
 obtain⟨u7,hx8,hH⟩:=zB hH
 refine go ?_
 refine AO.w (qGu rfl rfl rfl (neZ (qAQ (hx8)))) ?_
 refine gs2 ?_
 refine AW.le (Le.ct 0 0 (σ':=(⟨[(6,w64 ((w64 (x5*7)).tdiv 10))],[],32,[]⟩:St))) ?_
 refine AW.t ?_
 exact fin
 refine gs5 ?_
 refine AW.le (Le.ct 0 0 (σ':=(⟨[(6,(0:Int))],[],32,[]⟩:St))) ?_
 refine AW.t ?_
 exact fin
def qBH (x:List Int):Nat→Int→Int→Option Int
 |0,_,_=>none
 |k3+1,v10,v11 =>
  cond (decide (v11<(x.length:Int)))
   ((qAT x v11).bind fun x13 =>
   qBH x k3 (max v10 x13) (w64 (v11+1)))
   (some v10)
def qEU (fl:Nat) (x:List Int):Option Int :=
 cond (decide ((x.length:Int)<1))
  (none)
  ((qAT x 0).bind fun x1 =>
  qBH x fl x1 1)
theorem qJs (fl:Nat) (x:List Int) (r:Int) (hH:qEU fl x=some r):qAC prog 335 [.s (List.map ze0 x)] (.v (.int .i64 r)):=by
 refine fns T func335 ?_
 refine go ?_
 refine AW.cH hH (fun _ hH=>?_) (fun hc hH=>?_)
 cases hH
 refine go ?_
 obtain⟨x1,hx2,hH⟩:=zB hH
 refine go ?_
 refine AW.loopS (fun s:Nat×Int×Int=>(⟨[(0,sv ze0 x),(3,s.2.1),(4,s.2.2)],[],25,[]⟩:St)) (fun s=>qBH x s.1 s.2.1 s.2.2=some r) (fun s=>s.1) (fl,x1,1) hH ?_ ?_
 exact Le.ct 0 0
 rintro⟨k3,v10,v11⟩ hH
 try dsimp only at hH⊢
 rcases k3 with _|k3
 cases (show none=some _ from hH)
 rw[qBH]at hH
 refine go ?_
 refine AW.cH hH (fun _ hH=>?_) (fun _ hH=>?_)
 refine go ?_
 obtain⟨x13,hx14,hH⟩:=zB hH
 refine go ?_
 refine AO.w (qRM rfl rfl rfl) (go ?_)
 refine⟨(k3,(max v10 x13),w64 (v11+1)),hH,Nat.lt_succ_self _,?_⟩
 exact Le.ct 0 0
 refine go ?_
 exact fin
def qC6 (x:List Int):Nat→Int→Int→Option Int
 |0,_,_=>none
 |k3+1,v10,v11 =>
  cond (decide (v11<(x.length:Int)))
   ((qAT x v11).bind fun x13 =>
   qC6 x k3 (min v10 x13) (w64 (v11+1)))
   (some v10)
def qGg (fl:Nat) (x:List Int):Option Int :=
 cond (decide ((x.length:Int)<1))
  (none)
  ((qAT x 0).bind fun x1 =>
  qC6 x fl x1 1)
theorem qM2 (fl:Nat) (x:List Int) (r:Int) (hH:qGg fl x=some r):qAC prog 361 [.s (List.map ze0 x)] (.v (.int .i64 r)):=by
 refine fns T func361 ?_
 refine go ?_
 refine AW.cH hH (fun _ hH=>?_) (fun hc hH=>?_)
 cases hH
 refine go ?_
 obtain⟨x1,hx2,hH⟩:=zB hH
 refine go ?_
 refine AW.loopS (fun s:Nat×Int×Int=>(⟨[(0,sv ze0 x),(3,s.2.1),(4,s.2.2)],[],25,[]⟩:St)) (fun s=>qC6 x s.1 s.2.1 s.2.2=some r) (fun s=>s.1) (fl,x1,1) hH ?_ ?_
 exact Le.ct 0 0
 rintro⟨k3,v10,v11⟩ hH
 try dsimp only at hH⊢
 rcases k3 with _|k3
 cases (show none=some _ from hH)
 rw[qC6]at hH
 refine go ?_
 refine AW.cH hH (fun _ hH=>?_) (fun _ hH=>?_)
 refine go ?_
 obtain⟨x13,hx14,hH⟩:=zB hH
 refine go ?_
 refine AO.w (qSh rfl rfl rfl) (go ?_)
 refine⟨(k3,(min v10 x13),w64 (v11+1)),hH,Nat.lt_succ_self _,?_⟩
 exact Le.ct 0 0
 refine go ?_
 exact fin
def qFC (fl:Nat) (l:List Int):Option (Int×Int) :=
 cond (decide ((l.length:Int)<5))
  ((qBA l).bind fun x1 =>
  some (x1,(l.length:Int)))
  ((qBA l).bind fun x3 =>
  (qEU fl l).bind fun x5 =>
  (qGg fl l).bind fun x7 =>
  some (w64 ((w64 (x3-x5))-x7),w64 ((l.length:Int)-2)))
theorem qJE (fl:Nat) (l:List Int) (r:(Int×Int)) (hH:qFC fl l=some r):qAC prog 359 [.s (List.map ze0 l)] (.t [.v (.int .i64 r.1),.v (.int .i64 r.2)]):=by
 refine fns T func359 ?_
 refine go ?_
 refine AW.cH hH (fun _ hH=>?_) (fun _ hH=>?_)
 refine AW.q ?_
 obtain⟨x1,hx2,hH⟩:=zB hH
 refine go ?_
 refine AO.w (cVs (qFB _ _ (hx2))) (go ?_)
 exact fin
 refine go ?_
 obtain⟨x3,hx4,x5,hx6,x7,hx8,hH⟩:=qA9 hH
 refine go ?_
 refine AO.w (cVs (qFB _ _ (hx4))) ?_
 refine AO.pu T ?_
 refine AO.w (cVs (qJs fl _ _ (hx6))) (go ?_)
 refine AO.w (cVs (qM2 fl _ _ (hx8))) (go ?_)
 exact fin
def qHH (fl:Nat) (c:Code) (it:Item):Option Int :=
 (qIZ c it).bind fun x1 =>
 (qEU fl x1).bind fun x3 =>
 some x3
theorem qLw (fl:Nat) (c:Code) (it:Item) (r:Int) (hH:qHH fl c it=some r):qAC prog 293 [.g (ze4 c),.g (ze1 it)] (.v (.int .i64 r)):=by
 refine fns T func293 ?_
 refine go ?_
 refine AO.x (bxs T 1) ?_
 refine AO.x (bxs T 2) (go ?_)
 obtain⟨x1,hx2,x3,hx4,hH⟩:=qAH hH
 refine go ?_
 refine AO.x (qAU rfl 3 rfl rfl rfl (qL4 _ _ _ (hx2)) rfl rfl rfl) ?_
 refine AO.w (zLV rfl rfl rfl (es:=[sv ze0 x1]) ⟨(.rowR rfl (.map fun y=>.vs rfl)),trivial⟩ (qJs fl _ _ (hx4)) (qAJ _) rfl) (go ?_)
 exact fin
def qGf (fl:Nat) (c:Code) (l:List Item) (k:Int) (grades:List Int):Option Int :=
 (qCg c l k).bind fun x1 =>
 cond (x1==0)
  (some 0)
  ((qFC fl grades).bind fun x3 =>
  (qAT l k).bind fun x5 =>
  (qHH fl c x5).bind fun x7 =>
  (qDS (w64 (x3.1*x7)) (w64 (10*x3.2))).bind fun x9 =>
  some x9)
theorem qNL (fl:Nat) (c:Code) (l:List Item) (k:Int) (grades:List Int) (r:Int) (hH:qGf fl c l k grades=some r):qAC prog 353 [.g (ze4 c),.s (List.map ze1 l),k,.s (List.map ze0 grades)] (.v (.int .i64 r)):=by
 refine fns T func353 ?_
 refine go ?_
 refine AO.x (bxs T 1) (go ?_)
 obtain⟨x1,hx2,hH⟩:=zB hH
 refine go ?_
 refine AO.w (cVs (qGj _ _ _ _ (hx2))) (go ?_)
 refine AW.cH hH (fun _ hH=>?_) (fun _ hH=>?_)
 refine go ?_
 exact fin
 refine go ?_
 obtain⟨x3,hx4,hH⟩:=zB hH
 refine go ?_
 refine AO.w (cVs (qJE fl _ _ (hx4))) (go ?_)
 obtain⟨x5,hx6,x7,hx8,x9,hx10,hH⟩:=qA9 hH
 refine AW.drawn 10 2 [] mix (by kernel_rfl) rfl ?_
 refine go ?_
 refine AD.vv (cVs (qLw fl _ _ _ (hx8))) ?_
 refine AD.vv aws ?_
 refine AD.pu T ?_
 refine AD.vv aws ?_
 refine AD.nil (AO.w (cVs (qFW _ _ _ (hx10))) ?_)
 refine gs2 ?_
 refine AW.le (Le.ct 0 0 (σ':=(⟨[(8,x9)],[],32,[]⟩:St))) ?_
 refine AW.t ?_
 exact fin
def qH7 (fl:Nat) (c:Code) (l:List Item) (m:Marks) (k:Int):Option Int :=
 (qCg c l k).bind fun x1 =>
 (qAT m.grades k).bind fun x3 =>
 (qGf fl c l k x3).bind fun x5 =>
 some (w64 (x1+x5))
theorem qM7 (fl:Nat) (c:Code) (l:List Item) (m:Marks) (k:Int) (r:Int) (hH:qH7 fl c l m k=some r):qAC prog 333 [.g (ze4 c),.s (List.map ze1 l),.g (qI2 m),k] (.v (.int .i64 r)):=by
 refine fns T func333 ?_
 refine go ?_
 refine AO.x (bxs T 1) ?_
 refine AO.x (bxs T 2) (go ?_)
 obtain⟨x1,hx2,x3,hx4,x5,hx6,hH⟩:=qA9 hH
 refine AW.drawn 12 3 [] mix (by kernel_rfl) rfl ?_
 refine go ?_
 refine AD.vv (cVs (qGj _ _ _ _ (hx2))) ?_
 refine go ?_
 refine AO.w (cVs (qNL fl _ _ _ _ _ (hx6))) (go ?_)
 exact fin
def qBn (c:Code) (l:List Item) (m:Marks) (fl:Nat):List Item→Nat→List Int→Option ((List Int))
 | [],k1,v16 =>
  some v16
 |y2::ys3,k1,v16 =>
  (qH7 fl c l m (k1:Int)).bind fun x18 =>
  (qAr (qAf 8 (v16.length+([x18]).length))).bind fun u20 =>
  qBn c l m fl ys3 (k1+1) (v16++[x18])
def qHd (fl:Nat) (c:Code) (l:List Item) (m:Marks):Option (List Int) :=
 qBn c l m fl l 0 []
theorem qMe (fl:Nat) (c:Code) (l:List Item) (m:Marks) (r:(List Int)) (hH:qHd fl c l m=some r):qAC prog 288 [.g (ze4 c),.s (List.map ze1 l),.g (qI2 m)] (.w 1 (r.map ze0)):=by
 refine fns T func288 ?_
 refine go ?_
 refine AO.x (bxs T 1) ?_
 refine AO.x (bxs T 2) (go ?_)
 refine AO.x (qGF T rfl rfl rfl rfl) (go ?_)
 refine AW.loopS (fun s:Nat×(List Int)=>(⟨[(1,sv ze1 l),(3,.p 1 0),(5,.p 2 0),(7,.R 6),(11,(l.length:Int)),(12,(s.1:Int))],[(1,.box (ze4 c)),(2,.box [sv ze3 m.grades,sv ze3 m.components]),(6,ro 1 ze0 s.2)],25,[]⟩:St)) (fun s=>s.1≤l.length∧qBn c l m fl (l.drop s.1) s.1 s.2=some r) (fun s=>l.length-s.1) (0,[]) ⟨Nat.zero_le _,hH⟩ ?_ ?_
 refine Le.trans (Le.void 7 6 1 rfl rfl) ?_
 exact Le.ct 0 0
 rintro⟨k1,v16⟩ ⟨hk,hH⟩
 try dsimp only at hH⊢
 refine AW.boundM (t:=1) (l:=l) rfl (fun hb5=>?_)
 rcases hd4:l.drop k1 with _|⟨y2,ys3⟩
 rw[hd4,qBn]at hH
 have hlt6:=qAF hd4
 refine go ?_
 exact fin
 rw[hd4,qBn]at hH
 have hlt6:=qAG hd4
 refine go ?_
 obtain⟨x18,hx19,u20,hx21,hH⟩:=qAH hH
 refine go ?_
 refine AO.w (cVs (qM7 fl _ _ _ _ _ (hx19))) ?_
 refine AO.x (mks T 7 ze0 ([x18])) ?_
 refine AO.x (rvs T 8 (hfit:=by exact qAQ (hx21))) (go ?_)
 refine⟨(k1+1,(v16++[x18])),⟨hlt6,(zds hd4▸hH)⟩,qBz hlt6,?_⟩
 exact Le.ct 8 6
def qFs (fl:Nat) (c:Code) (p:Performance):Option Int :=
 (qHd fl c p.items p.marks).bind fun x1 =>
 (qBA x1).bind fun x3 =>
 some x3
theorem qKa (fl:Nat) (c:Code) (p:Performance) (r:Int) (hH:qFs fl c p=some r):qAC prog 234 [.g (ze4 c),.g (qGw p)] (.v (.int .i64 r)):=by
 refine fns T func234 ?_
 refine go ?_
 refine AO.x (bxs T 1) ?_
 refine AO.x (bxs T 2) (go ?_)
 obtain⟨x1,hx2,x3,hx4,hH⟩:=qAH hH
 refine go ?_
 refine AO.x (qAU rfl 3 rfl rfl rfl (qMe fl _ _ _ _ (hx2)) rfl rfl rfl) ?_
 refine AO.w (zLV rfl rfl rfl (es:=[sv ze0 x1]) ⟨(.rowR rfl (.map fun y=>.vs rfl)),trivial⟩ (qFB _ _ (hx4)) (qAJ _) rfl) (go ?_)
 exact fin
def qEo (fl:Nat) (marks:List Int):Option Int :=
 (qFC fl marks).bind fun x1 =>
 (qDS x1.1 x1.2).bind fun x3 =>
 some x3
theorem qKc (fl:Nat) (marks:List Int) (r:Int) (hH:qEo fl marks=some r):qAC prog 354 [.s (List.map ze0 marks)] (.v (.int .i64 r)):=by
 refine fns T func354 ?_
 refine go ?_
 obtain⟨x1,hx2,hH⟩:=zB hH
 refine go ?_
 refine AO.w (cVs (qJE fl _ _ (hx2))) (go ?_)
 obtain⟨x3,hx4,hH⟩:=zB hH
 refine go ?_
 refine AO.w (cVs (qFW _ _ _ (hx4))) (go ?_)
 exact fin
def qA7 (fl:Nat):List (List Int)→Nat→List Int→Option ((List Int))
 | [],k1,v16 =>
  some v16
 |y2::ys3,k1,v16 =>
  (qEo fl y2).bind fun x18 =>
  (qAr (qAf 8 (v16.length+([x18]).length))).bind fun u20 =>
  qA7 fl ys3 (k1+1) (v16++[x18])
def qCz (fl:Nat) (m:Marks):Option (List Int) :=
 qA7 fl m.components 0 []
theorem qFJ (fl:Nat) (m:Marks) (r:(List Int)) (hH:qCz fl m=some r):qAC prog 334 [.g (qI2 m)] (.w 1 (r.map ze0)):=by
 refine fns T func334 ?_
 refine go ?_
 refine AO.x (bxs T 1) (go ?_)
 refine AO.x (qGF T rfl rfl rfl rfl) (go ?_)
 refine AW.loopS (fun s:Nat×(List Int)=>(⟨[(3,.R 5),(8,sv ze3 m.components),(9,(m.components.length:Int)),(10,(s.1:Int))],[(5,ro 1 ze0 s.2)],21,[]⟩:St)) (fun s=>s.1≤m.components.length∧qA7 fl (m.components.drop s.1) s.1 s.2=some r) (fun s=>m.components.length-s.1) (0,[]) ⟨Nat.zero_le _,hH⟩ ?_ ?_
 refine Le.trans (Le.void 3 5 1 rfl rfl) ?_
 exact Le.ct 0 0
 rintro⟨k1,v16⟩ ⟨hk,hH⟩
 try dsimp only at hH⊢
 refine AW.boundM (t:=8) (l:=m.components) rfl (fun hb5=>?_)
 rcases hd4:m.components.drop k1 with _|⟨y2,ys3⟩
 rw[hd4,qA7]at hH
 have hlt6:=qAF hd4
 refine go ?_
 exact fin
 rw[hd4,qA7]at hH
 have hlt6:=qAG hd4
 refine go ?_
 obtain⟨x18,hx19,u20,hx21,hH⟩:=qAH hH
 refine go ?_
 refine AO.w (cVs (qKc fl _ _ (hx19))) ?_
 refine AO.x (mks T 6 ze0 ([x18])) ?_
 refine AO.x (rvs T 7 (hfit:=by exact qAQ (hx21))) (go ?_)
 refine⟨(k1+1,(v16++[x18])),⟨hlt6,(zds hd4▸hH)⟩,qBz hlt6,?_⟩
 exact Le.ct 7 5
def qCR:List Int→Nat→Int→Option Int
 | [],k3,v10 =>
  some v10
 |y4::ys5,k3,v10 =>
  qCR ys5 (k3+1) (w64 (v10+(min y4 950)))
def qCK:List Int→Nat→Int→Option Int
 | [],k14,v21 =>
  some v21
 |y15::ys16,k14,v21 =>
  qCK ys16 (k14+1) (w64 (v21+(min y15 900)))
def qCI:List Int→Nat→Int→Option Int
 | [],k25,v32 =>
  some v32
 |y26::ys27,k25,v32 =>
  qCI ys27 (k25+1) (w64 (v32+(min y26 1000)))
def qGh (fl:Nat) (m:Marks) (falls:Int):Option Int :=
 cond (falls==1)
  ((qCz fl m).bind fun x1 =>
  qCR x1 0 0)
  (cond (decide (falls>1))
   ((qCz fl m).bind fun x12 =>
   qCK x12 0 0)
   ((qCz fl m).bind fun x23 =>
   qCI x23 0 0))
theorem qNK (fl:Nat) (m:Marks) (falls:Int) (r:Int) (hH:qGh fl m falls=some r):qAC prog 290 [.g (qI2 m),falls] (.v (.int .i64 r)):=by
 refine fns T func290 ?_
 refine go ?_
 refine AO.x (bxs T 1) (go ?_)
 refine AW.cH hH (fun _ hH=>?_) (fun hc hH=>?_)
 refine go ?_
 obtain⟨x1,hx2,hH⟩:=zB hH
 refine go ?_
 refine AO.x (qAU rfl 2 rfl rfl rfl (qFJ fl _ _ (hx2)) rfl rfl rfl) (go ?_)
 refine AW.loopS (fun s:Nat×Int=>(⟨[(5,(950:Int)),(6,s.2),(16,.R 2),(17,(x1.length:Int)),(18,(s.1:Int))],[(2,ro 1 ze0 x1)],29,[]⟩:St)) (fun s=>s.1≤x1.length∧qCR (x1.drop s.1) s.1 s.2=some r) (fun s=>x1.length-s.1) (0,0) ⟨Nat.zero_le _,hH⟩ ?_ ?_
 exact Le.ct 0 0
 rintro⟨k3,v10⟩ ⟨hk,hH⟩
 try dsimp only at hH⊢
 refine AW.boundR (id:=2) (l:=x1) rfl (fun hb7=>?_)
 rcases hd6:x1.drop k3 with _|⟨y4,ys5⟩
 rw[hd6,qCR]at hH
 have hlt8:=qAF hd6
 refine go ?_
 exact fin
 rw[hd6,qCR]at hH
 have hlt8:=qAG hd6
 refine go ?_
 refine AO.w (zLr T rfl rfl rfl rfl (zgG (zgD hd6)) rfl rfl rfl) (go ?_)
 refine AO.w (qSh rfl rfl rfl) (go ?_)
 refine⟨(k3+1,w64 (v10+(min y4 950))),⟨hlt8,(zds hd6▸hH)⟩,qBz hlt8,?_⟩
 exact Le.ct 0 0
 refine go ?_
 refine AW.cH hH (fun _ hH=>?_) (fun _ hH=>?_)
 refine go ?_
 obtain⟨x12,hx13,hH⟩:=zB hH
 refine go ?_
 refine AO.x (qAU rfl 3 rfl rfl rfl (qFJ fl _ _ (hx13)) rfl rfl rfl) (go ?_)
 refine AW.loopS (fun s:Nat×Int=>(⟨[(5,(900:Int)),(6,s.2),(16,.R 3),(17,(x12.length:Int)),(18,(s.1:Int))],[(3,ro 1 ze0 x12)],29,[]⟩:St)) (fun s=>s.1≤x12.length∧qCK (x12.drop s.1) s.1 s.2=some r) (fun s=>x12.length-s.1) (0,0) ⟨Nat.zero_le _,hH⟩ ?_ ?_
 exact Le.ct 0 0
 rintro⟨k14,v21⟩ ⟨hk,hH⟩
 try dsimp only at hH⊢
 refine AW.boundR (id:=3) (l:=x12) rfl (fun hb18=>?_)
 rcases hd17:x12.drop k14 with _|⟨y15,ys16⟩
 rw[hd17,qCK]at hH
 have hlt19:=qAF hd17
 refine go ?_
 exact fin
 rw[hd17,qCK]at hH
 have hlt19:=qAG hd17
 refine go ?_
 refine AO.w (zLr T rfl rfl rfl rfl (zgG (zgD hd17)) rfl rfl rfl) (go ?_)
 refine AO.w (qSh rfl rfl rfl) (go ?_)
 refine⟨(k14+1,w64 (v21+(min y15 900))),⟨hlt19,(zds hd17▸hH)⟩,qBz hlt19,?_⟩
 exact Le.ct 0 0
 refine go ?_
 obtain⟨x23,hx24,hH⟩:=zB hH
 refine go ?_
 refine AO.x (qAU rfl 4 rfl rfl rfl (qFJ fl _ _ (hx24)) rfl rfl rfl) (go ?_)
 refine AW.loopS (fun s:Nat×Int=>(⟨[(5,(1000:Int)),(6,s.2),(16,.R 4),(17,(x23.length:Int)),(18,(s.1:Int))],[(4,ro 1 ze0 x23)],29,[]⟩:St)) (fun s=>s.1≤x23.length∧qCI (x23.drop s.1) s.1 s.2=some r) (fun s=>x23.length-s.1) (0,0) ⟨Nat.zero_le _,hH⟩ ?_ ?_
 exact Le.ct 0 0
 rintro⟨k25,v32⟩ ⟨hk,hH⟩
 try dsimp only at hH⊢
 refine AW.boundR (id:=4) (l:=x23) rfl (fun hb29=>?_)
 rcases hd28:x23.drop k25 with _|⟨y26,ys27⟩
 rw[hd28,qCI]at hH
 have hlt30:=qAF hd28
 refine go ?_
 exact fin
 rw[hd28,qCI]at hH
 have hlt30:=qAG hd28
 refine go ?_
 refine AO.w (zLr T rfl rfl rfl rfl (zgG (zgD hd28)) rfl rfl rfl) (go ?_)
 refine AO.w (qSh rfl rfl rfl) (go ?_)
 refine⟨(k25+1,w64 (v32+(min y26 1000))),⟨hlt30,(zds hd28▸hH)⟩,qBz hlt30,?_⟩
 exact Le.ct 0 0
def qFm (fl:Nat) (m:Marks) (factor:Int) (falls:Int):Option Int :=
 (qGh fl m falls).bind fun x1 =>
 (qDS (w64 (x1*factor)) 100).bind fun x3 =>
 some x3
theorem qMF (fl:Nat) (m:Marks) (factor:Int) (falls:Int) (r:Int) (hH:qFm fl m factor falls=some r):qAC prog 235 [.g (qI2 m),factor,falls] (.v (.int .i64 r)):=by
 refine fns T func235 ?_
 refine go ?_
 refine AO.x (bxs T 1) (go ?_)
 obtain⟨x1,hx2,x3,hx4,hH⟩:=qAH hH
 refine go ?_
 refine AO.w (cVs (qNK fl _ _ _ (hx2))) (go ?_)
 refine AO.w (cVs (qFW _ _ _ (hx4))) (go ?_)
 exact fin
def qGI (fall:Int) (falls:Int):Option Int :=
 some (w64 (fall*(w64 ((w64 (falls+(max (w64 (falls-2)) 0)))+(max (w64 (falls-4)) 0)))))
theorem qKv (fall:Int) (falls:Int) (r:Int) (hH:qGI fall falls=some r):qAC prog 291 [fall,falls] (.v (.int .i64 r)):=by
 refine fns T func291 ?_
 refine go ?_
 refine AO.w (qRM rfl rfl rfl) (go ?_)
 refine AO.w (qRM rfl rfl rfl) (go ?_)
 exact fin
def qGK (seconds:Int):Option Int :=
 (qAr (5 != 0)).bind fun u1 =>
 some (w64 ((w64 ((w64 (seconds+4)).tdiv 5))*100))
theorem qLC (seconds:Int) (r:Int) (hH:qGK seconds=some r):qAC prog 292 [seconds] (.v (.int .i64 r)):=by
 refine fns T func292 ?_
 refine go ?_
 obtain⟨u1,hx2,hH⟩:=zB hH
 refine go ?_
 refine AO.w (qGu rfl rfl rfl (neZ (qAQ (hx2)))) (go ?_)
 exact fin
def qGA (c:Code) (sA:Slips):Option (List Int) :=
 (qGI c.fall sA.falls).bind fun x1 =>
 (qGK sA.seconds).bind fun x3 =>
 some [x1,x3,sA.other]
theorem qMc (c:Code) (sA:Slips) (r:(List Int)) (hH:qGA c sA=some r):qAC prog 236 [.g (ze4 c),.g (qOV sA)] (.w 1 (r.map ze0)):=by
 refine fns T func236 ?_
 refine go ?_
 refine AO.x (bxs T 1) ?_
 refine AO.x (bxs T 2) (go ?_)
 obtain⟨x1,hx2,x3,hx4,hH⟩:=qAH hH
 refine AW.drawn 10 3 [] mix (by kernel_rfl) rfl ?_
 refine go ?_
 refine AD.vv (cVs (qKv _ _ _ (hx2))) ?_
 refine go ?_
 refine AD.vv (cVs (qLC _ _ (hx4))) ?_
 refine go ?_
 refine AO.x (mks T 3 ze0 ([x1,x3,sA.other])) (go ?_)
 exact fin
def qFf (fl:Nat) (c:Code) (p:Performance) (factor:Int):Option (List Int) :=
 (qFs fl c p).bind fun x1 =>
 (qFm fl p.marks factor p.slips.falls).bind fun x3 =>
 (qGA c p.slips).bind fun x5 =>
 (qBA x5).bind fun x7 =>
 some [x1,x3,x7,(max (w64 ((w64 (x1+x3))-x7)) 0)]
theorem qKt (fl:Nat) (c:Code) (p:Performance) (factor:Int) (r:(List Int)) (hH:qFf fl c p factor=some r):qAC prog 179 [.g (ze4 c),.g (qGw p),factor] (.w 1 (r.map ze0)):=by
 refine fns T func179 ?_
 refine go ?_
 refine AO.x (bxs T 1) ?_
 refine AO.x (bxs T 2) (go ?_)
 obtain⟨x1,hx2,x3,hx4,x5,hx6,hH⟩:=qA9 hH
 obtain⟨x7,hx8,hH⟩:=zB hH
 refine AW.drawn 13 3 [] mix (by kernel_rfl) rfl ?_
 refine go ?_
 refine AD.vv (cVs (qKa fl _ _ _ (hx2))) ?_
 refine go ?_
 refine AD.vv (cVs (qMF fl _ _ _ _ (hx4))) ?_
 refine go ?_
 refine AO.x (qAU rfl 3 rfl rfl rfl (qMc _ _ _ (hx6)) rfl rfl rfl) ?_
 refine AO.w (zLV rfl rfl rfl (es:=[sv ze0 x5]) ⟨(.rowR rfl (.map fun y=>.vs rfl)),trivial⟩ (qFB _ _ (hx8)) (qAJ _) rfl) (go ?_)
 refine AO.w (qRM rfl rfl rfl) ?_
 refine AO.x (mks T 4 ze0 ([x1,x3,x7,(max (w64 ((w64 (x1+x3))-x7)) 0)])) ?_
 refine gs2 ?_
 refine AW.le (Le.ct 0 0 (σ':=(⟨[(6,.R 4)],[(4,ro 1 ze0 [x1,x3,x7,(max (w64 ((w64 (x1+x3))-x7)) 0)])],35,[]⟩:St))) ?_
 refine AW.t ?_
 exact fin
def qBP (fl:Nat) (c:Code) (p:Performance) (factor:Int):Option Int :=
 (qFf fl c p factor).bind fun x1 =>
 (qAT x1 3).bind fun x3 =>
 some x3
theorem qDj (fl:Nat) (c:Code) (p:Performance) (factor:Int) (r:Int) (hH:qBP fl c p factor=some r):qAC prog 172 [.g (ze4 c),.g (qGw p),factor] (.v (.int .i64 r)):=by
 refine fns T func172 ?_
 refine go ?_
 refine AO.x (bxs T 1) ?_
 refine AO.x (bxs T 2) (go ?_)
 obtain⟨x1,hx2,x3,hx4,hH⟩:=qAH hH
 refine go ?_
 refine AO.x (qAU rfl 3 rfl rfl rfl (qKt fl _ _ _ _ (hx2)) rfl rfl rfl) (go ?_)
 refine AO.w (zLr T rfl rfl rfl rfl (zgG (hx4)) rfl rfl rfl) (go ?_)
 exact fin
def qA5 (fl:Nat) (sA:ScriptState) (command:ByteArray) (l:List Int):Option (ScriptState×ByteArray) :=
 cond (decide (command=(⟨#[112,108,97,99,101,115]⟩:ByteArray)))
  ((qEO fl sA.results).bind fun x2 =>
  (qCh x2.1).bind fun x4 =>
  some (sA,x4))
  ((qBP fl sA.code sA.performance sA.factor).bind fun x6 =>
  (qAr (qAf 32 sA.results.length)).bind fun u8 =>
  (qAT l 0).bind fun x10 =>
  (qAr (qAf 32 (sA.results.length+([(Result.mk x10 [x6])]).length))).bind fun u12 =>
  (qF9 (sA.results++[(Result.mk x10 [x6])])).bind fun x14 =>
  cond (!x14)
   (some (sA,(⟨#[110,111]⟩:ByteArray)))
   ((qGb fl (sA.results++[(Result.mk x10 [x6])]) (w64 ((((sA.results++[(Result.mk x10 [x6])])).length:Int)-1))).bind fun x16 =>
   (qB3 x16).bind fun x18 =>
   some ((ScriptState.mk sA.code sA.performance sA.factor (sA.results++[(Result.mk x10 [x6])])),x18)))
theorem qG3 (fl:Nat) (sA:ScriptState) (command:ByteArray) (l:List Int) (r:(ScriptState×ByteArray)) (hH:qA5 fl sA command l=some r):qFk prog 121 [.pn (qHm sA),.v (.string command),.s (List.map ze0 l)] [.pn (qHm r.1),.u,.u] (.v (.string r.2)):=by
 refine qFI T func121 rfl (by decide) rfl rfl [.p 1 0,.v (.string command),sv ze0 l] [(1,.box (qH5 sA 2 3)),(3,ro 1 ze0 sA.code.limits),(2,ro 4 ze5 sA.code.elements)] 4 (by kernel_rfl) [1] rfl rfl ?_
 intro L
 show AW _ _ _ (⟨[(0,.p 1 0),(1,.v (.string command)),(2,sv ze0 l)],[(1,.box (qH5 sA 2 3)),(3,ro 1 ze0 sA.code.limits),(2,ro 4 ze5 sA.code.elements)],63,[(1,L 1)]⟩:St)
 refine go ?_
 refine AW.cH hH (fun _ hH=>?_) (fun _ hH=>?_)
 refine AW.q ?_
 obtain⟨x2,hx3,hH⟩:=zB hH
 refine go ?_
 refine AO.x (qAU rfl 4 rfl rfl rfl (qJv fl _ _ (hx3)) rfl rfl rfl) (go ?_)
 obtain⟨x4,hx5,hH⟩:=zB hH
 refine go ?_
 refine AO.w (zLV rfl rfl rfl (es:=[sv ze0 x2.1]) ⟨(.rowR rfl (.map fun y=>.vs rfl)),trivial⟩ (qIj _ _ (hx5)) (qAJ _) rfl) (go ?_)
 exact qET
 refine go ?_
 obtain⟨x6,hx7,hH⟩:=zB hH
 refine AW.drawn 12 5 [] mix (by kernel_rfl) rfl ?_
 refine go ?_
 refine AO.w (zLV rfl rfl rfl (es:=[.g (ze4 sA.code),.g (qGw sA.performance),sA.factor]) ⟨qDs (LendL.cons ((.rowR rfl (.map fun y=>.vs rfl))) (LendL.cons ((.rowR rfl (.map fun y=>.vs rfl))) (LendL.cons (.free rfl) (LendL.cons (.free rfl) (LendL.cons (.free rfl) (LendL.cons (.free rfl) LendL.nil)))))),.free rfl,.free rfl,trivial⟩ (qDj fl _ _ _ _ (hx7)) (qAJ _) rfl) (go ?_)
 obtain⟨u8,hx9,x10,hx11,u12,hx13,hH⟩:=qA9 hH
 refine AW.drawn 13 5 [] mix (by kernel_rfl) rfl ?_
 refine AD.v (FStep.mk0 T rfl rfl rfl rfl rfl) ?_
 refine go ?_
 refine AD.q (FStep.app_ws T rfl rfl rfl rfl rfl rfl rfl (by decide) (by decide) rfl rfl (fun _=>rfl) (qAQ (hx9)) rfl) (by simp[qAu]) (Nat.le_succ _) rfl ?_
 refine go ?_
 refine AD.vv (qX8 T rfl rfl rfl rfl rfl rfl (f:=ze0) (l:=[x6]) rfl rfl (fun _=>rfl) rfl rfl rfl) ?_
 refine go ?_
 refine AD.q (FStep.mk T (f:=ze6) (l:=[(Result.mk x10 [x6])]) rfl rfl rfl rfl rfl rfl rfl rfl rfl (fun _=>rfl) rfl rfl rfl rfl) (by simp[qAu]) (Nat.le_succ _) rfl ?_
 refine AD.nil (AO.x (rvs T 7 (hfit:=by exact qAQ (hx13))) ?_)
 refine gs2 ?_
 refine AW.le (Le.ct 0 0 (σ':=(⟨[(0,.p 1 0),(10,.R 7)],[(1,.box (qH5 sA 2 3)),(2,ro 4 ze5 sA.code.elements),(3,ro 1 ze0 sA.code.limits),(7,ro 2 ze6 (sA.results++[(Result.mk x10 [x6])]))],63,[(1,L 1)]⟩:St)) (hpin:=⟨⟨rfl,rfl⟩,trivial⟩)) ?_
 refine go ?_
 obtain⟨x14,hx15,hH⟩:=zB hH
 refine go ?_
 refine AO.w (zLV rfl rfl rfl (es:=[sv ze6 (sA.results++[(Result.mk x10 [x6])])]) ⟨(.rowR rfl (.map fun y=>.vs rfl)),trivial⟩ (qI8 _ _ (hx15)) (qAJ _) rfl) (go ?_)
 refine AW.cH hH (fun _ hH=>?_) (fun _ hH=>?_)
 refine go ?_
 exact qET
 refine go ?_
 refine AO.se T [.R 2,.R 3,sA.code.repeats,sA.code.bonus,sA.code.keeps,sA.code.fall,sv ze1 sA.performance.items,sv ze3 sA.performance.marks.grades,sv ze3 sA.performance.marks.components,sA.performance.slips.falls,sA.performance.slips.seconds,sA.performance.slips.other,sA.factor,.R 7] ?_
 refine go ?_
 obtain⟨x16,hx17,x18,hx19,hH⟩:=qAH hH
 refine go ?_
 refine AO.w (zLV rfl rfl rfl (es:=[sv ze6 (sA.results++[(Result.mk x10 [x6])]),w64 ((((sA.results++[(Result.mk x10 [x6])])).length:Int)-1)]) ⟨(.rowR rfl (.map fun y=>.vs rfl)),.free rfl,trivial⟩ (qK5 fl _ _ _ (hx17)) (qAJ _) rfl) ?_
 refine AO.w (cVs (qHK _ _ (hx19))) ?_
 refine gs2 ?_
 refine AW.le (Le.fM 7 (g:=ze6) rfl (fun y=>.vs rfl)) ?_
 refine AW.t ?_
 exact qET
def qAl (f:Item→Option Bool):List Item→Nat→Option Int
 | [],k1 =>
  some (-1)
 |y2::ys3,k1 =>
  (f y2).bind fun x12 =>
  cond x12
   (some (k1:Int))
   (qAl f ys3 (k1+1))
def qHP (sA:List Item) (f:Item→Option Bool):Option Int :=
 qAl f sA 0
theorem qJY (sA:List Item) (f_f:Nat) (f_c:List D) (f_k:f_c.all D.capOk=true) (f:Item→Option Bool) (f_h:∀(a0:Item) (q:Bool),f a0=some q→qAC prog f_f ([.g (ze1 a0)]++f_c) (.v (.bool q))) (r:Int) (hH:qHP sA f=some r):qAC prog 327 [.s (List.map ze1 sA),.f f_f f_c] (.v (.int .i64 r)):=by
 have f_r:=qKi f_k
 refine fns T func327 ?_
 refine go ?_
 refine AW.loopS (fun s:Nat=>(⟨[(0,sv ze1 sA),(1,.f f_f f_c),(7,(sA.length:Int)),(8,(s:Int))],[],19,[]⟩:St)) (fun s=>s≤sA.length∧qAl f (sA.drop s) s=some r) (fun s=>sA.length-s) 0 ⟨Nat.zero_le _,hH⟩ ?_ ?_
 exact Le.cut 0 0 rfl ⟨⟨_,rfl,rfl⟩,⟨_,rfl,qQB f_r⟩,⟨_,rfl,rfl⟩,⟨_,rfl,rfl⟩,trivial⟩ (by repeat' (first|exact trivial|refine⟨⟨_,rfl,rfl⟩,?_⟩)) (qJQ (qMz rfl (qMz (qLP f_r) (qMz rfl (qMz rfl qWc)))) rfl)
 rintro k1 ⟨hk,hH⟩
 try dsimp only at hH⊢
 refine AW.boundM (t:=0) (l:=sA) rfl (fun hb5=>?_)
 rcases hd4:sA.drop k1 with _|⟨y2,ys3⟩
 rw[hd4,qAl]at hH
 have hlt6:=qAF hd4
 refine go ?_
 exact fin
 rw[hd4,qAl]at hH
 have hlt6:=qAG hd4
 refine go ?_
 obtain⟨x12,hx13,hH⟩:=zB hH
 refine go ?_
 refine AO.w (zV rfl rfl rfl (qJQ rfl (qM6 f_r)) (f_h _ _ (hx13)) rfl) ?_
 refine AO.n (AW.cH hH (fun _ hH=>?_) (fun _ hH=>?_))
 refine go ?_
 exact fin
 refine go ?_
 refine⟨k1+1,⟨hlt6,(zds hd4▸hH)⟩,qBz hlt6,?_⟩
 exact Le.cut 0 0 rfl ⟨⟨_,rfl,rfl⟩,⟨_,rfl,qQB f_r⟩,⟨_,rfl,rfl⟩,⟨_,rfl,rfl⟩,trivial⟩ (by repeat' (first|exact trivial|refine⟨⟨_,rfl,rfl⟩,?_⟩)) (qJQ (qMz rfl (qMz (qLP f_r) (qMz rfl (qMz rfl qWc)))) rfl)
def qGH (sA:List Item) (f:Item→Option Bool):Option Bool :=
 (qHP sA f).bind fun x1 =>
 some (decide (x1≥0))
theorem qIx (sA:List Item) (f_f:Nat) (f_c:List D) (f_k:f_c.all D.capOk=true) (f:Item→Option Bool) (f_h:∀(a0:Item) (q:Bool),f a0=some q→qAC prog f_f ([.g (ze1 a0)]++f_c) (.v (.bool q))) (r:Bool) (hH:qGH sA f=some r):qAC prog 279 [.s (List.map ze1 sA),.f f_f f_c] (.v (.bool r)):=by
 have f_r:=qKi f_k
 refine fns T func279 ?_
 refine go ?_
 obtain⟨x1,hx2,hH⟩:=zB hH
 refine go ?_
 refine AO.w (zV rfl rfl rfl (qJQ (qMz rfl (qMz f_r qWc)) rfl) (qJY _ f_f f_c f_k f f_h _ (hx2)) rfl) (go ?_)
 exact fin
def qCG (it:Item):Option Bool :=
 (qCD it.marks 0 0).bind fun x1 =>
 some (!x1)
theorem qLh (it:Item) (r:Bool) (hH:qCG it=some r):qAC prog 280 [.g (ze1 it)] (.v (.bool r)):=by
 refine fns T func280 ?_
 refine go ?_
 refine AO.x (bxs T 1) (go ?_)
 obtain⟨x1,hx2,hH⟩:=zB hH
 refine go ?_
 refine AO.w (cVs (qF6 _ _ _ _ (hx2))) (go ?_)
 exact fin
def qC5 (it:Item):Option Bool :=
 some (decide ((it.names.length:Int)>1))
theorem qHT (it:Item) (r:Bool) (hH:qC5 it=some r):qAC prog 328 [.g (ze1 it)] (.v (.bool r)):=by
 refine fns T func328 ?_
 refine go ?_
 refine AO.x (bxs T 1) (go ?_)
 exact fin
def qBI (c:Code) (y2:Item):List ByteArray→Nat→Option (Except Bool Unit)
 | [],k134 =>
  some (.ok ())
 |y135::ys136,k134 =>
  (qCW c y135).bind fun x153 =>
  (qC5 y2).bind fun x155 =>
  (opt (x155&&(!(decide (x153<0)))) default (qAT c.elements x153)).bind fun x157 =>
  cond (x155&&(decide (x153<0)||(x157.family != 0)))
   (some (.error false))
   (qBI c y2 ys136 (k134+1))
def qA2 (c:Code):List Item→Nat→Option Bool
 | [],k1 =>
  some true
 |y2::ys3,k1 =>
  (qBI c y2 y2.names 0).bind fun o132=>qK9 o132 fun _ =>
  qA2 c ys3 (k1+1)
def qIN (c:Code) (l:List Item):Option Bool :=
 qA2 c l 0
theorem qKh (c:Code) (l:List Item) (r:Bool) (hH:qIN c l=some r):qAC prog 281 [.g (ze4 c),.s (List.map ze1 l)] (.v (.bool r)):=by
 refine fns T func281 ?_
 refine gs2 ?_
 refine AO.x (bxs T 1) ?_
 iterate 10 refine gs ?_
 refine AW.loopS (fun s:Nat=>(⟨[(2,.p 1 0),(10,sv ze1 l),(11,(l.length:Int)),(12,(s:Int))],[(1,.box (ze4 c))],43,[]⟩:St)) (fun s=>s≤l.length∧qA2 c (l.drop s) s=some r) (fun s=>l.length-s) 0 ⟨Nat.zero_le _,hH⟩ ?_ ?_
 exact Le.ct 0 0
 rintro k1 ⟨hk,hH⟩
 try dsimp only at hH⊢
 refine AW.boundM (t:=10) (l:=l) rfl (fun hb5=>?_)
 rcases hd4:l.drop k1 with _|⟨y2,ys3⟩
 rw[hd4,qA2]at hH
 have hlt6:=qAF hd4
 iterate 12 refine gs ?_
 exact fin
 rw[hd4,qA2]at hH
 have hlt6:=qAG hd4
 refine gs7 ?_
 obtain⟨o132,hH,hK133⟩:=zB hH
 refine AW.seqJ (fun s:Unit=>(⟨[(2,.p 1 0),(10,sv ze1 l),(11,(l.length:Int)),(12,(k1:Int))],[(1,.box (ze4 c))],43,[]⟩:St)) (fun s=>.ok s=o132) ?_ ?_
 refine gs5 ?_
 refine AO.x (als T 7) ?_
 refine AO.se T [sv ze2 y2.names,sv ze0 y2.marks,.v (.bool y2.late)] ?_
 refine gs9 ?_
 refine AW.loopS (fun s:Nat=>(⟨[(2,.p 1 0),(6,.p 7 0),(10,sv ze1 l),(11,(l.length:Int)),(12,(k1:Int)),(17,sv ze2 y2.names),(18,(y2.names.length:Int)),(19,(s:Int))],[(1,.box (ze4 c)),(7,.box [sv ze2 y2.names,sv ze0 y2.marks,.v (.bool y2.late)])],43,[]⟩:St)) (fun s=>s≤y2.names.length∧qBI c y2 (y2.names.drop s) s=some o132) (fun s=>y2.names.length-s) 0 ⟨Nat.zero_le _,hH⟩ ?_ ?_
 exact Le.ct 0 0
 rintro k134 ⟨hk,hH⟩
 try dsimp only at hH⊢
 refine AW.boundM (t:=17) (l:=y2.names) rfl (fun hb138=>?_)
 rcases hd137:y2.names.drop k134 with _|⟨y135,ys136⟩
 rw[hd137,qBI]at hH
 have hlt139:=qAF hd137
 refine gs7 ?_
 refine⟨_,zS hH,?_⟩
 exact Le.ct 0 0
 rw[hd137,qBI]at hH
 have hlt139:=qAG hd137
 iterate 16 refine gs ?_
 obtain⟨x153,hx154,hH⟩:=zB hH
 refine gs3 ?_
 refine AO.w (cVs (qFN _ _ _ (hx154))) ?_
 refine gs3 ?_
 obtain⟨x155,hx156,x157,hx158,hH⟩:=qAH hH
 refine gs2 ?_
 refine AO.w (cVs (qHT _ _ (hx156))) ?_
 refine AO.pu T ?_
 refine AO.g0 T ?_
 refine AO.g1 T 29 ?_
 refine AO.g1 T 30 ?_
 refine AO.g0 T ?_
 refine AO.g1 T 32 ?_
 refine AO.g0 T ?_
 refine AO.d2 33 34 (fun hg=>ixs T (qEy hx158 hg)) ?_
 refine AO.g1 T 35 ?_
 refine AO.g1 T 36 ?_
 refine AO.g1 T 37 ?_
 refine AO.d [31] rfl ⟨fun h=>h,trivial⟩ (fun hg=>zO rfl rfl rfl (by rw[hg];exact Bool.true_and _)) rfl ?_
 refine gs2 ?_
 refine AW.cH hH (fun _ hH=>?_) (fun _ hH=>?_)
 refine gs4 ?_
 refine AW.le (Le.ct 0 0 (σ':=(⟨[(4,.v (.bool false))],[],43,[]⟩:St))) ?_
 refine AW.t ?_
 obtain rfl:=zS hH
 replace hH:=hK133
 exact fin
 refine gs5 ?_
 refine⟨k134+1,⟨hlt139,(zds hd137▸hH)⟩,qBz hlt139,?_⟩
 exact Le.ct 0 0
 rintro _ hs
 subst hs
 replace hH:=hK133
 try dsimp only[qK9,qJO]at hH
 try dsimp only
 refine gs4 ?_
 refine⟨k1+1,⟨hlt6,(zds hd4▸hH)⟩,qBz hlt6,?_⟩
 exact Le.ct 0 0
def qAo:List Item→Nat→Int→Int→Option Bool
 | [],k1,v13,v14 =>
  some (decide (v13≤3)&&decide (v14≤1))
 |y2::ys3,k1,v13,v14 =>
  (qC5 y2).bind fun x16 =>
  cond x16
   (cond ((y2.names.length:Int)==3)
    (qAo ys3 (k1+1) (w64 (v13+1)) (w64 (v14+1)))
    (qAo ys3 (k1+1) (w64 (v13+1)) v14))
   (cond ((y2.names.length:Int)==3)
    (qAo ys3 (k1+1) v13 (w64 (v14+1)))
    (qAo ys3 (k1+1) v13 v14))
def qI4 (l:List Item):Option Bool :=
 qAo l 0 0 0
theorem qML (l:List Item) (r:Bool) (hH:qI4 l=some r):qAC prog 282 [.s (List.map ze1 l)] (.v (.bool r)):=by
 refine fns T func282 ?_
 refine go ?_
 refine AW.loopS (fun s:Nat×Int×Int=>(⟨[(3,s.2.1),(4,s.2.2),(7,sv ze1 l),(8,(l.length:Int)),(9,(s.1:Int))],[],30,[]⟩:St)) (fun s=>s.1≤l.length∧qAo (l.drop s.1) s.1 s.2.1 s.2.2=some r) (fun s=>l.length-s.1) (0,0,0) ⟨Nat.zero_le _,hH⟩ ?_ ?_
 exact Le.ct 0 0
 rintro⟨k1,v13,v14⟩ ⟨hk,hH⟩
 try dsimp only at hH⊢
 refine AW.boundM (t:=7) (l:=l) rfl (fun hb5=>?_)
 rcases hd4:l.drop k1 with _|⟨y2,ys3⟩
 rw[hd4,qAo]at hH
 have hlt6:=qAF hd4
 refine go ?_
 refine AO.g0 T ?_
 refine AO.g1 T 27 ?_
 refine go ?_
 exact fin
 rw[hd4,qAo]at hH
 have hlt6:=qAG hd4
 refine go ?_
 refine AO.x (als T 3) ?_
 refine AO.se T [sv ze2 y2.names,sv ze0 y2.marks,.v (.bool y2.late)] ?_
 refine go ?_
 obtain⟨x16,hx17,hH⟩:=zB hH
 refine go ?_
 refine AO.w (cVs (qHT _ _ (hx17))) ?_
 refine AO.n (AW.cH hH (fun hc hH=>?_) (fun hc hH=>?_))
 refine go ?_
 refine AW.cH hH (fun _ hH=>?_) (fun hc hH=>?_)
 refine go ?_
 refine⟨(k1+1,w64 (v13+1),w64 (v14+1)),⟨hlt6,(zds hd4▸hH)⟩,qBz hlt6,?_⟩
 exact Le.ct 0 0
 refine go ?_
 refine⟨(k1+1,w64 (v13+1),v14),⟨hlt6,(zds hd4▸hH)⟩,qBz hlt6,?_⟩
 exact Le.ct 0 0
 refine go ?_
 refine AW.cH hH (fun _ hH=>?_) (fun _ hH=>?_)
 refine go ?_
 refine⟨(k1+1,v13,w64 (v14+1)),⟨hlt6,(zds hd4▸hH)⟩,qBz hlt6,?_⟩
 exact Le.ct 0 0
 refine go ?_
 refine⟨(k1+1,v13,v14),⟨hlt6,(zds hd4▸hH)⟩,qBz hlt6,?_⟩
 exact Le.ct 0 0
def qHE (c:Code) (it:Item):Option Int :=
 (qAT it.names 0).bind fun x1 =>
 (qCW c x1).bind fun x3 =>
 cond (decide (x3<0))
  (some (-1))
  ((qAT c.elements x3).bind fun x5 =>
  some x5.family)
theorem qNz (c:Code) (it:Item) (r:Int) (hH:qHE c it=some r):qAC prog 350 [.g (ze4 c),.g (ze1 it)] (.v (.int .i64 r)):=by
 refine fns T func350 ?_
 refine go ?_
 refine AO.x (bxs T 1) ?_
 refine AO.x (bxs T 2) (go ?_)
 obtain⟨x1,hx2,x3,hx4,hH⟩:=qAH hH
 refine AW.drawn 5 3 [] mix (by kernel_rfl) rfl ?_
 refine go ?_
 refine AO.w (cVs (qFN _ _ _ (hx4))) (go ?_)
 refine AW.cH hH (fun _ hH=>?_) (fun _ hH=>?_)
 refine go ?_
 exact fin
 refine go ?_
 obtain⟨x5,hx6,hH⟩:=zB hH
 refine go ?_
 exact fin
def qAz (c:Code):List Item→Nat→List Int→Option ((List Int))
 | [],k3,v18 =>
  some v18
 |y4::ys5,k3,v18 =>
  (qHE c y4).bind fun x20 =>
  cond (decide (x20≥0))
   ((qAT v18 x20).bind fun x22 =>
   qAz c ys5 (k3+1) (v18.set x20.toNat (w64 (x22+1))))
   (qAz c ys5 (k3+1) v18)
def qIy (c:Code) (l:List Item):Option (List Int) :=
 (qAr (decide (0≤5)&&qAf 8 (5:Int).toNat)).bind fun u1 =>
 qAz c l 0 (List.replicate (5:Int).toNat (0:Int))
theorem qLj (c:Code) (l:List Item) (r:(List Int)) (hH:qIy c l=some r):qAC prog 329 [.g (ze4 c),.s (List.map ze1 l)] (.w 1 (r.map ze0)):=by
 refine fns T func329 ?_
 refine gs2 ?_
 refine AO.x (bxs T 1) ?_
 refine gs3 ?_
 obtain⟨u1,hx2,hH⟩:=zB hH
 refine AW.r (AO.x (qMI T rfl 2 rfl rfl rfl rfl rfl (f:=ze0) (zo:=0) (by repeat constructor) (by decide) rfl rfl (Bool.and_eq_true_iff.1 (qAQ (hx2))).1 (Bool.and_eq_true_iff.1 (qAQ (hx2))).2 rfl rfl) ?_)
 iterate 10 refine gs ?_
 refine AW.loopS (fun s:Nat×(List Int)=>(⟨[(2,.p 1 0),(5,.R 2),(10,sv ze1 l),(11,(l.length:Int)),(12,(s.1:Int))],[(1,.box (ze4 c)),(2,ro 1 ze0 s.2)],29,[]⟩:St)) (fun s=>s.1≤l.length∧qAz c (l.drop s.1) s.1 s.2=some r) (fun s=>l.length-s.1) (0,(List.replicate (5:Int).toNat (0:Int))) ⟨Nat.zero_le _,hH⟩ ?_ ?_
 exact Le.ct 0 0
 rintro⟨k3,v18⟩ ⟨hk,hH⟩
 try dsimp only at hH⊢
 refine AW.boundM (t:=10) (l:=l) rfl (fun hb7=>?_)
 rcases hd6:l.drop k3 with _|⟨y4,ys5⟩
 rw[hd6,qAz]at hH
 have hlt8:=qAF hd6
 iterate 13 refine gs ?_
 exact fin
 rw[hd6,qAz]at hH
 have hlt8:=qAG hd6
 iterate 13 refine gs ?_
 refine AO.x (als T 5) ?_
 refine AO.se T [sv ze2 y4.names,sv ze0 y4.marks,.v (.bool y4.late)] ?_
 refine gs2 ?_
 obtain⟨x20,hx21,hH⟩:=zB hH
 refine gs3 ?_
 refine AO.w (cVs (qNz _ _ _ (hx21))) ?_
 refine gs7 ?_
 refine AW.cH hH (fun _ hH=>?_) (fun _ hH=>?_)
 obtain⟨x22,hx23,hH⟩:=zB hH
 refine gs4 ?_
 refine AO.w (zLr T rfl rfl rfl rfl (zgG (hx23)) rfl rfl rfl) ?_
 refine gs2 ?_
 refine AO.x (zSr T rfl rfl rfl rfl rfl (zgG (hx23)) rfl rfl rfl rfl (u':=w64 (x22+1)) rfl rfl) ?_
 refine gs5 ?_
 refine⟨(k3+1,(v18.set x20.toNat (w64 (x22+1)))),⟨hlt8,(zds hd6▸hH)⟩,qBz hlt8,?_⟩
 exact Le.ct 0 0
 refine gs5 ?_
 refine⟨(k3+1,v18),⟨hlt8,(zds hd6▸hH)⟩,qBz hlt8,?_⟩
 exact Le.ct 0 0
def qBY (c:Code):List Int→Nat→Option Bool
 | [],k3 =>
  some true
 |y4::ys5,k3 =>
  (qAT c.limits (k3:Int)).bind fun x14 =>
  cond (decide (y4>x14))
   (some false)
   (qBY c ys5 (k3+1))
def qJo (c:Code) (l:List Item):Option Bool :=
 (qIy c l).bind fun x1 =>
 qBY c x1 0
theorem qMx (c:Code) (l:List Item) (r:Bool) (hH:qJo c l=some r):qAC prog 283 [.g (ze4 c),.s (List.map ze1 l)] (.v (.bool r)):=by
 refine fns T func283 ?_
 refine go ?_
 refine AO.x (bxs T 1) (go ?_)
 obtain⟨x1,hx2,hH⟩:=zB hH
 refine go ?_
 refine AO.x (qAU rfl 2 rfl rfl rfl (qLj _ _ _ (hx2)) rfl rfl rfl) (go ?_)
 refine AW.loopS (fun s:Nat=>(⟨[(2,.p 1 0),(9,.R 2),(10,(x1.length:Int)),(11,(s:Int))],[(1,.box (ze4 c)),(2,ro 1 ze0 x1)],24,[]⟩:St)) (fun s=>s≤x1.length∧qBY c (x1.drop s) s=some r) (fun s=>x1.length-s) 0 ⟨Nat.zero_le _,hH⟩ ?_ ?_
 exact Le.ct 0 0
 rintro k3 ⟨hk,hH⟩
 try dsimp only at hH⊢
 refine AW.boundR (id:=2) (l:=x1) rfl (fun hb7=>?_)
 rcases hd6:x1.drop k3 with _|⟨y4,ys5⟩
 rw[hd6,qBY]at hH
 have hlt8:=qAF hd6
 refine go ?_
 exact fin
 rw[hd6,qBY]at hH
 have hlt8:=qAG hd6
 refine go ?_
 refine AO.w (zLr T rfl rfl rfl rfl (zgG (zgD hd6)) rfl rfl rfl) (go ?_)
 obtain⟨x14,hx15,hH⟩:=zB hH
 refine go ?_
 refine AW.cH hH (fun _ hH=>?_) (fun _ hH=>?_)
 refine go ?_
 exact fin
 refine go ?_
 refine⟨k3+1,⟨hlt8,(zds hd6▸hH)⟩,qBz hlt8,?_⟩
 exact Le.ct 0 0
def qCB (name:ByteArray) (y2:Item):List ByteArray→Nat→Int→Int→Option (Int×Int)
 | [],k104,v116,v117 =>
  some (v116,v117)
 |y105::ys106,k104,v116,v117 =>
  cond (!decide (y105=name))
   (qCB name y2 ys106 (k104+1) v116 v117)
   ((qC5 y2).bind fun x119 =>
   cond x119
    (qCB name y2 ys106 (k104+1) (w64 (v116+1)) (w64 (v117+1)))
    (qCB name y2 ys106 (k104+1) (w64 (v116+1)) v117))
def qDO (name:ByteArray):List Item→Nat→Int→Int→Option ((Int×Int))
 | [],k1,v81,v82 =>
  some (v81,v82)
 |y2::ys3,k1,v81,v82 =>
  (qCB name y2 y2.names 0 v81 v82).bind fun (v100,v101) =>
  qDO name ys3 (k1+1) v100 v101
def qJT (l:List Item) (name:ByteArray):Option (Int×Int) :=
 qDO name l 0 0 0
theorem qOq (l:List Item) (name:ByteArray) (r:(Int×Int)) (hH:qJT l name=some r):qAC prog 330 [.s (List.map ze1 l),.v (.string name)] (.t [.v (.int .i64 r.1),.v (.int .i64 r.2)]):=by
 refine fns T func330 ?_
 iterate 18 refine gs ?_
 refine AW.loopS (fun s:Nat×Int×Int=>(⟨[(1,.v (.string name)),(6,s.2.1),(7,s.2.2),(12,sv ze1 l),(13,(l.length:Int)),(14,(s.1:Int))],[],38,[]⟩:St)) (fun s=>s.1≤l.length∧qDO name (l.drop s.1) s.1 s.2.1 s.2.2=some r) (fun s=>l.length-s.1) (0,0,0) ⟨Nat.zero_le _,hH⟩ ?_ ?_
 exact Le.ct 0 0
 rintro⟨k1,v81,v82⟩ ⟨hk,hH⟩
 try dsimp only at hH⊢
 refine AW.boundM (t:=12) (l:=l) rfl (fun hb5=>?_)
 rcases hd4:l.drop k1 with _|⟨y2,ys3⟩
 rw[hd4,qDO]at hH
 have hlt6:=qAF hd4
 iterate 15 refine gs ?_
 exact fin
 rw[hd4,qDO]at hH
 have hlt6:=qAG hd4
 refine gs7 ?_
 obtain⟨o102,hH,hK103⟩:=zB hH
 refine AW.seqJ (fun s:Int×Int=>(⟨[(1,.v (.string name)),(6,s.1),(7,s.2),(12,sv ze1 l),(13,(l.length:Int)),(14,(k1:Int))],[],38,[]⟩:St)) (fun s=>s=o102) ?_ ?_
 refine gs5 ?_
 refine AO.x (als T 6) ?_
 refine AO.se T [sv ze2 y2.names,sv ze0 y2.marks,.v (.bool y2.late)] ?_
 refine gs9 ?_
 refine AW.loopS (fun s:Nat×Int×Int=>(⟨[(1,.v (.string name)),(6,s.2.1),(7,s.2.2),(9,.p 6 0),(12,sv ze1 l),(13,(l.length:Int)),(14,(k1:Int)),(19,sv ze2 y2.names),(20,(y2.names.length:Int)),(21,(s.1:Int))],[(6,.box [sv ze2 y2.names,sv ze0 y2.marks,.v (.bool y2.late)])],38,[]⟩:St)) (fun s=>s.1≤y2.names.length∧qCB name y2 (y2.names.drop s.1) s.1 s.2.1 s.2.2=some o102) (fun s=>y2.names.length-s.1) (0,v81,v82) ⟨Nat.zero_le _,hH⟩ ?_ ?_
 exact Le.ct 0 0
 rintro⟨k104,v116,v117⟩ ⟨hk,hH⟩
 try dsimp only at hH⊢
 refine AW.boundM (t:=19) (l:=y2.names) rfl (fun hb108=>?_)
 rcases hd107:y2.names.drop k104 with _|⟨y105,ys106⟩
 rw[hd107,qCB]at hH
 have hlt109:=qAF hd107
 refine gs7 ?_
 refine⟨_,zS hH,?_⟩
 exact Le.ct 0 0
 rw[hd107,qCB]at hH
 have hlt109:=qAG hd107
 iterate 22 refine gs ?_
 refine AW.cH hH (fun _ hH=>?_) (fun hc hH=>?_)
 refine gs5 ?_
 refine⟨(k104+1,v116,v117),⟨hlt109,(zds hd107▸hH)⟩,qBz hlt109,?_⟩
 exact Le.ct 0 0
 refine gs8 ?_
 obtain⟨x119,hx120,hH⟩:=zB hH
 refine gs2 ?_
 refine AO.w (cVs (qHT _ _ (hx120))) ?_
 refine AO.n (AW.cH hH (fun _ hH=>?_) (fun _ hH=>?_))
 refine gs9 ?_
 refine⟨(k104+1,w64 (v116+1),w64 (v117+1)),⟨hlt109,(zds hd107▸hH)⟩,qBz hlt109,?_⟩
 exact Le.ct 0 0
 refine gs5 ?_
 refine⟨(k104+1,w64 (v116+1),v117),⟨hlt109,(zds hd107▸hH)⟩,qBz hlt109,?_⟩
 exact Le.ct 0 0
 rintro⟨v100,v101⟩ hs
 subst hs
 replace hH:=hK103
 try dsimp only[qK9,qJO]at hH
 try dsimp only
 refine gs4 ?_
 refine⟨(k1+1,v100,v101),⟨hlt6,(zds hd4▸hH)⟩,qBz hlt6,?_⟩
 exact Le.ct 0 0
def qBe (c:Code) (l:List Item):List ByteArray→Nat→Option (Except Bool Unit)
 | [],k74 =>
  some (.ok ())
 |y75::ys76,k74 =>
  (qJT l y75).bind fun x85 =>
  cond (decide (x85.1>c.repeats)||(decide (x85.1>1)&&(x85.2==0)))
   (some (.error false))
   (qBe c l ys76 (k74+1))
def qBL (c:Code) (l:List Item):List Item→Nat→Option Bool
 | [],k1 =>
  some true
 |y2::ys3,k1 =>
  (qBe c l y2.names 0).bind fun o72=>qK9 o72 fun _ =>
  qBL c l ys3 (k1+1)
def qJD (c:Code) (l:List Item):Option Bool :=
 qBL c l l 0
theorem qMN (c:Code) (l:List Item) (r:Bool) (hH:qJD c l=some r):qAC prog 284 [.g (ze4 c),.s (List.map ze1 l)] (.v (.bool r)):=by
 refine fns T func284 ?_
 refine gs2 ?_
 refine AO.x (bxs T 1) ?_
 iterate 10 refine gs ?_
 refine AW.loopS (fun s:Nat=>(⟨[(1,sv ze1 l),(2,.p 1 0),(11,sv ze1 l),(12,(l.length:Int)),(13,(s:Int))],[(1,.box (ze4 c))],44,[]⟩:St)) (fun s=>s≤l.length∧qBL c l (l.drop s) s=some r) (fun s=>l.length-s) 0 ⟨Nat.zero_le _,hH⟩ ?_ ?_
 exact Le.ct 0 0
 rintro k1 ⟨hk,hH⟩
 try dsimp only at hH⊢
 refine AW.boundM (t:=1) (l:=l) rfl (fun hb5=>?_)
 rcases hd4:l.drop k1 with _|⟨y2,ys3⟩
 rw[hd4,qBL]at hH
 have hlt6:=qAF hd4
 iterate 12 refine gs ?_
 exact fin
 rw[hd4,qBL]at hH
 have hlt6:=qAG hd4
 refine gs7 ?_
 obtain⟨o72,hH,hK73⟩:=zB hH
 refine AW.seqJ (fun s:Unit=>(⟨[(1,sv ze1 l),(2,.p 1 0),(11,sv ze1 l),(12,(l.length:Int)),(13,(k1:Int))],[(1,.box (ze4 c))],44,[]⟩:St)) (fun s=>.ok s=o72) ?_ ?_
 refine gs5 ?_
 refine AO.x (als T 7) ?_
 refine AO.se T [sv ze2 y2.names,sv ze0 y2.marks,.v (.bool y2.late)] ?_
 refine gs9 ?_
 refine AW.loopS (fun s:Nat=>(⟨[(1,sv ze1 l),(2,.p 1 0),(11,sv ze1 l),(12,(l.length:Int)),(13,(k1:Int)),(18,sv ze2 y2.names),(19,(y2.names.length:Int)),(20,(s:Int))],[(1,.box (ze4 c))],44,[]⟩:St)) (fun s=>s≤y2.names.length∧qBe c l (y2.names.drop s) s=some o72) (fun s=>y2.names.length-s) 0 ⟨Nat.zero_le _,hH⟩ ?_ ?_
 exact Le.ct 0 0
 rintro k74 ⟨hk,hH⟩
 try dsimp only at hH⊢
 refine AW.boundM (t:=18) (l:=y2.names) rfl (fun hb78=>?_)
 rcases hd77:y2.names.drop k74 with _|⟨y75,ys76⟩
 rw[hd77,qBe]at hH
 have hlt79:=qAF hd77
 refine gs7 ?_
 refine⟨_,zS hH,?_⟩
 exact Le.ct 0 0
 rw[hd77,qBe]at hH
 have hlt79:=qAG hd77
 iterate 16 refine gs ?_
 obtain⟨x85,hx86,hH⟩:=zB hH
 refine gs3 ?_
 refine AO.w (cVs (qOq _ _ _ (hx86))) ?_
 iterate 13 refine gs ?_
 refine AO.g0 T ?_
 refine AO.g1 T 35 ?_
 refine AO.g1 T 36 ?_
 refine AO.g0 T ?_
 refine AO.g1 T 38 ?_
 refine AO.d [37] rfl ⟨fun h=>h,trivial⟩ (fun hg=>zN rfl rfl rfl (by rw[hg];exact Bool.true_and _)) rfl ?_
 refine gs2 ?_
 refine AW.le (Le.ct 0 0 (σ':=(⟨[(1,sv ze1 l),(2,.p 1 0),(11,sv ze1 l),(12,(l.length:Int)),(13,(k1:Int)),(18,sv ze2 y2.names),(19,(y2.names.length:Int)),(20,(k74:Int)),(41,.v (.bool (decide (x85.1>c.repeats)||(decide (x85.1>1)&&(x85.2==0)))))],[(1,.box (ze4 c))],44,[]⟩:St))) ?_
 refine AW.cH hH (fun _ hH=>?_) (fun _ hH=>?_)
 refine gs5 ?_
 obtain rfl:=zS hH
 replace hH:=hK73
 exact fin
 refine gs5 ?_
 refine⟨k74+1,⟨hlt79,(zds hd77▸hH)⟩,qBz hlt79,?_⟩
 exact Le.ct 0 0
 rintro _ hs
 subst hs
 replace hH:=hK73
 try dsimp only[qK9,qJO]at hH
 try dsimp only
 refine gs4 ?_
 refine⟨k1+1,⟨hlt6,(zds hd4▸hH)⟩,qBz hlt6,?_⟩
 exact Le.ct 0 0
def qCL (l:List Item):List Item→Nat→Option Bool
 | [],k13 =>
  some true
 |y14::ys15,k13 =>
  (qFq (k13:Int) (l.length:Int)).bind fun x24 =>
  cond (!(y14.late==x24))
   (some false)
   (qCL l ys15 (k13+1))
def qIH (c:Code) (l:List Item) (rule:Int):Option Bool :=
 cond (rule==1)
  (some (decide ((l.length:Int)>0)))
  (cond (rule==2)
   ((qDv c l).bind fun x1 =>
   some x1)
   (cond (rule==3)
    ((qGH l (fun a0=>qCG a0 )).bind fun x3 =>
    some (!x3))
    (cond (rule==4)
     ((qIN c l).bind fun x5 =>
     some x5)
     (cond (rule==5)
      ((qI4 l).bind fun x7 =>
      some x7)
      (cond (rule==6)
       ((qJo c l).bind fun x9 =>
       some x9)
       (cond (rule==7)
        ((qJD c l).bind fun x11 =>
        some x11)
        (qCL l l 0)))))))
theorem qM1 (c:Code) (l:List Item) (rule:Int) (r:Bool) (hH:qIH c l rule=some r):qAC prog 231 [.g (ze4 c),.s (List.map ze1 l),rule] (.v (.bool r)):=by
 refine fns T func231 ?_
 refine gs2 ?_
 refine AO.x (bxs T 1) ?_
 iterate 13 refine gs ?_
 refine AW.cH hH (fun _ hH=>?_) (fun hc hH=>?_)
 refine gs8 ?_
 exact fin
 refine gs5 ?_
 refine AW.cH hH (fun _ hH=>?_) (fun hc hH=>?_)
 refine AW.q ?_
 obtain⟨x1,hx2,hH⟩:=zB hH
 refine gs3 ?_
 refine AO.w (cVs (qLH _ _ _ (hx2))) ?_
 refine gs3 ?_
 exact fin
 refine gs5 ?_
 refine AW.cH hH (fun _ hH=>?_) (fun hc hH=>?_)
 refine AW.q ?_
 obtain⟨x3,hx4,hH⟩:=zB hH
 refine gs2 ?_
 refine AO.w (cVs (qIx _ 280 [] rfl (fun a0=>qCG a0 ) (fun a0 q h=>qLh a0  q h) _ (hx4))) ?_
 refine gs4 ?_
 exact fin
 refine gs5 ?_
 refine AW.cH hH (fun _ hH=>?_) (fun hc hH=>?_)
 refine AW.q ?_
 obtain⟨x5,hx6,hH⟩:=zB hH
 refine gs3 ?_
 refine AO.w (cVs (qKh _ _ _ (hx6))) ?_
 refine gs3 ?_
 exact fin
 refine gs5 ?_
 refine AW.cH hH (fun _ hH=>?_) (fun hc hH=>?_)
 refine AW.q ?_
 obtain⟨x7,hx8,hH⟩:=zB hH
 refine gs2 ?_
 refine AO.w (cVs (qML _ _ (hx8))) ?_
 refine gs3 ?_
 exact fin
 refine gs5 ?_
 refine AW.cH hH (fun _ hH=>?_) (fun hc hH=>?_)
 refine AW.q ?_
 obtain⟨x9,hx10,hH⟩:=zB hH
 refine gs3 ?_
 refine AO.w (cVs (qMx _ _ _ (hx10))) ?_
 refine gs3 ?_
 exact fin
 refine gs5 ?_
 refine AW.cH hH (fun _ hH=>?_) (fun hc hH=>?_)
 refine AW.q ?_
 obtain⟨x11,hx12,hH⟩:=zB hH
 refine gs3 ?_
 refine AO.w (cVs (qMN _ _ _ (hx12))) ?_
 refine gs3 ?_
 exact fin
 refine gs9 ?_
 refine AW.loopS (fun s:Nat=>(⟨[(1,sv ze1 l),(44,sv ze1 l),(45,(l.length:Int)),(46,(s:Int))],[],59,[]⟩:St)) (fun s=>s≤l.length∧qCL l (l.drop s) s=some r) (fun s=>l.length-s) 0 ⟨Nat.zero_le _,hH⟩ ?_ ?_
 exact Le.ct 0 0
 rintro k13 ⟨hk,hH⟩
 try dsimp only at hH⊢
 refine AW.boundM (t:=1) (l:=l) rfl (fun hb17=>?_)
 rcases hd16:l.drop k13 with _|⟨y14,ys15⟩
 rw[hd16,qCL]at hH
 have hlt18:=qAF hd16
 iterate 12 refine gs ?_
 exact fin
 rw[hd16,qCL]at hH
 have hlt18:=qAG hd16
 iterate 14 refine gs ?_
 refine AO.x (als T 4) ?_
 refine AO.pu T ?_
 refine AO.se T [sv ze2 y14.names,sv ze0 y14.marks,.v (.bool y14.late)] ?_
 refine gs2 ?_
 obtain⟨x24,hx25,hH⟩:=zB hH
 refine AW.drawn 6 5 [] mix (by kernel_rfl) rfl ?_
 refine gs5 ?_
 refine AD.vv (cVs (qKS _ _ _ (hx25))) ?_
 refine gs3 ?_
 refine AW.cH hH (fun _ hH=>?_) (fun _ hH=>?_)
 refine gs5 ?_
 exact fin
 refine gs5 ?_
 refine⟨k13+1,⟨hlt18,(zds hd16▸hH)⟩,qBz hlt18,?_⟩
 exact Le.ct 0 0
def qBa (c:Code) (l:List Item):Nat→List Int→Int→Option (((List Int)×Bool))
 |0,_,_=>none
 |k5+1,v16,v17 =>
  cond (decide (v17≤8))
   ((qIH c l v17).bind fun x19 =>
   cond (!x19)
    ((qAr (qAf 8 (v16.length+([v17]).length))).bind fun u21 =>
    qBa c l k5 (v16++[v17]) (w64 (v17+1)))
    (qBa c l k5 v16 (w64 (v17+1))))
   (some (v16,true))
def qEV (fl:Nat) (c:Code) (l:List Item):Option ((List Int)×Bool) :=
 (qBG fl c).bind fun x1 =>
 (opt (!(!x1)) default (qE4 fl l)).bind fun x3 =>
 cond ((!x1)||(!x3))
  (some ([],false))
  (qBa c l fl [] 1)
theorem qMK (fl:Nat) (c:Code) (l:List Item) (r:((List Int)×Bool)) (hH:qEV fl c l=some r):qAC prog 175 [.g (ze4 c),.s (List.map ze1 l)] (.t [.w 1 (r.1.map ze0),.v (.bool r.2)]):=by
 refine fns T func175 ?_
 refine go ?_
 refine AO.x (bxs T 1) (go ?_)
 obtain⟨x1,hx2,x3,hx4,hH⟩:=qAH hH
 refine go ?_
 refine AO.w (cVs (qFb fl _ _ (hx2))) (go ?_)
 refine AO.g0 T ?_
 refine AO.d1 12 (fun hg=>cVs (qKX fl _ _ (qEy hx4 hg))) ?_
 refine AO.g1 T 13 ?_
 refine go ?_
 refine AW.cH hH (fun _ hH=>?_) (fun hc hH=>?_)
 refine go ?_
 exact fin
 refine go ?_
 refine AO.x (qGF T rfl rfl rfl rfl) (go ?_)
 refine AW.loopS (fun s:Nat×(List Int)×Int=>(⟨[(1,sv ze1 l),(2,.p 1 0),(6,.R 5),(7,s.2.2)],[(1,.box (ze4 c)),(5,ro 1 ze0 s.2.1)],31,[]⟩:St)) (fun s=>qBa c l s.1 s.2.1 s.2.2=some r) (fun s=>s.1) (fl,[],1) hH ?_ ?_
 refine Le.trans (Le.void 6 5 1 rfl rfl) ?_
 exact Le.ct 0 0
 rintro⟨k5,v16,v17⟩ hH
 try dsimp only at hH⊢
 rcases k5 with _|k5
 cases (show none=some _ from hH)
 rw[qBa]at hH
 refine go ?_
 refine AW.cH hH (fun hc hH=>?_) (fun _ hH=>?_)
 refine go ?_
 obtain⟨x19,hx20,hH⟩:=zB hH
 refine go ?_
 refine AO.w (cVs (qM1 _ _ _ _ (hx20))) (go ?_)
 refine AW.cH hH (fun _ hH=>?_) (fun hc hH=>?_)
 obtain⟨u21,hx22,hH⟩:=zB hH
 refine go ?_
 refine AO.x (mks T 6 ze0 ([v17])) ?_
 refine AO.x (rvs T 7 (hfit:=by exact qAQ (hx22))) (go ?_)
 refine⟨(k5,(v16++[v17]),w64 (v17+1)),hH,Nat.lt_succ_self _,?_⟩
 exact Le.ct 7 5
 refine go ?_
 refine⟨(k5,v16,w64 (v17+1)),hH,Nat.lt_succ_self _,?_⟩
 exact Le.ct 0 0
 refine go ?_
 exact fin
def qBl (c:Code) (l:List Item):List Item→Nat→List Int→Option ((List Int))
 | [],k1,v16 =>
  some v16
 |y2::ys3,k1,v16 =>
  (qCg c l (k1:Int)).bind fun x18 =>
  (qAr (qAf 8 (v16.length+([x18]).length))).bind fun u20 =>
  qBl c l ys3 (k1+1) (v16++[x18])
def qGB (c:Code) (l:List Item):Option (List Int) :=
 qBl c l l 0 []
theorem qMy (c:Code) (l:List Item) (r:(List Int)) (hH:qGB c l=some r):qAC prog 177 [.g (ze4 c),.s (List.map ze1 l)] (.w 1 (r.map ze0)):=by
 refine fns T func177 ?_
 refine go ?_
 refine AO.x (bxs T 1) (go ?_)
 refine AO.x (qGF T rfl rfl rfl rfl) (go ?_)
 refine AW.loopS (fun s:Nat×(List Int)=>(⟨[(1,sv ze1 l),(2,.p 1 0),(5,.R 5),(9,(l.length:Int)),(10,(s.1:Int))],[(1,.box (ze4 c)),(5,ro 1 ze0 s.2)],22,[]⟩:St)) (fun s=>s.1≤l.length∧qBl c l (l.drop s.1) s.1 s.2=some r) (fun s=>l.length-s.1) (0,[]) ⟨Nat.zero_le _,hH⟩ ?_ ?_
 refine Le.trans (Le.void 5 5 1 rfl rfl) ?_
 exact Le.ct 0 0
 rintro⟨k1,v16⟩ ⟨hk,hH⟩
 try dsimp only at hH⊢
 refine AW.boundM (t:=1) (l:=l) rfl (fun hb5=>?_)
 rcases hd4:l.drop k1 with _|⟨y2,ys3⟩
 rw[hd4,qBl]at hH
 have hlt6:=qAF hd4
 refine go ?_
 exact fin
 rw[hd4,qBl]at hH
 have hlt6:=qAG hd4
 refine go ?_
 obtain⟨x18,hx19,u20,hx21,hH⟩:=qAH hH
 refine go ?_
 refine AO.w (cVs (qGj _ _ _ _ (hx19))) ?_
 refine AO.x (mks T 6 ze0 ([x18])) ?_
 refine AO.x (rvs T 7 (hfit:=by exact qAQ (hx21))) (go ?_)
 refine⟨(k1+1,(v16++[x18])),⟨hlt6,(zds hd4▸hH)⟩,qBz hlt6,?_⟩
 exact Le.ct 7 5
def qE8 (fl:Nat) (c:Code) (p:Performance) (factor:Int):Option Bool :=
 (qBj fl c p).bind fun x1 =>
 (opt x1 default (qE9 factor)).bind fun x3 =>
 some (x1&&x3)
theorem qH9 (fl:Nat) (c:Code) (p:Performance) (factor:Int) (r:Bool) (hH:qE8 fl c p factor=some r):qAC prog 237 [.g (ze4 c),.g (qGw p),factor] (.v (.bool r)):=by
 refine fns T func237 ?_
 refine go ?_
 refine AO.x (bxs T 1) ?_
 refine AO.x (bxs T 2) (go ?_)
 obtain⟨x1,hx2,x3,hx4,hH⟩:=qAH hH
 refine go ?_
 refine AO.w (cVs (qH4 fl _ _ _ (hx2))) ?_
 refine AO.pu T ?_
 refine AO.g0 T ?_
 refine AO.d1 11 (fun hg=>cVs (qKQ _ _ (qEy hx4 hg))) ?_
 refine go ?_
 exact fin
def qGM (p:Performance):Option Int :=
 (qAx p.marks).bind fun x1 =>
 cond (decide (x1≥5))
  (some (w64 (x1-2)))
  (some x1)
theorem qK6 (p:Performance) (r:Int) (hH:qGM p=some r):qAC prog 240 [.g (qGw p)] (.v (.int .i64 r)):=by
 refine fns T func240 ?_
 refine go ?_
 refine AO.x (bxs T 1) (go ?_)
 obtain⟨x1,hx2,hH⟩:=zB hH
 refine go ?_
 refine AO.w (cVs (qER _ _ (hx2))) (go ?_)
 refine AW.cH hH (fun _ hH=>?_) (fun _ hH=>?_)
 refine go ?_
 exact fin
 refine go ?_
 exact fin
def qES (a:Int) (b:Int) (mode:Int):Option Int :=
 cond (mode==(-1))
  ((qE1 a b).bind fun x1 =>
  some x1)
  (cond (mode==1)
   ((qE1 (w64 (-a)) b).bind fun x3 =>
   some (w64 (-x3)))
   ((qDS a b).bind fun x5 =>
   some x5))
theorem qHe (a:Int) (b:Int) (mode:Int) (r:Int) (hH:qES a b mode=some r):qAC prog 239 [a,b,mode] (.v (.int .i64 r)):=by
 refine fns T func239 ?_
 refine go ?_
 refine AW.cH hH (fun _ hH=>?_) (fun hc hH=>?_)
 refine AW.q ?_
 obtain⟨x1,hx2,hH⟩:=zB hH
 refine go ?_
 refine AO.w (cVs (qIK _ _ _ (hx2))) (go ?_)
 exact fin
 refine go ?_
 refine AW.cH hH (fun _ hH=>?_) (fun _ hH=>?_)
 refine AW.q ?_
 obtain⟨x3,hx4,hH⟩:=zB hH
 refine go ?_
 refine AO.w (qOt rfl rfl) ?_
 refine AO.pu T ?_
 refine AO.w (cVs (qIK _ _ _ (hx4))) ?_
 refine AO.w (qOt rfl rfl) (go ?_)
 exact fin
 refine go ?_
 obtain⟨x5,hx6,hH⟩:=zB hH
 refine go ?_
 refine AO.w (cVs (qFW _ _ _ (hx6))) (go ?_)
 exact fin
def qGo (fl:Nat) (c:Code) (p:Performance) (k:Int):Option Int :=
 (qCg c p.items k).bind fun x1 =>
 cond (x1==0)
  (some 0)
  ((qAT p.items k).bind fun x3 =>
  (qHH fl c x3).bind fun x5 =>
  (qGM p).bind fun x7 =>
  (qES x5 x7 1).bind fun x9 =>
  some x9)
theorem qNY (fl:Nat) (c:Code) (p:Performance) (k:Int) (r:Int) (hH:qGo fl c p k=some r):qAC prog 238 [.g (ze4 c),.g (qGw p),k] (.v (.int .i64 r)):=by
 refine fns T func238 ?_
 refine go ?_
 refine AO.x (bxs T 1) ?_
 refine AO.x (bxs T 2) (go ?_)
 obtain⟨x1,hx2,hH⟩:=zB hH
 refine go ?_
 refine AO.w (cVs (qGj _ _ _ _ (hx2))) (go ?_)
 refine AW.cH hH (fun _ hH=>?_) (fun _ hH=>?_)
 refine go ?_
 exact fin
 refine go ?_
 obtain⟨x3,hx4,x5,hx6,x7,hx8,hH⟩:=qA9 hH
 obtain⟨x9,hx10,hH⟩:=zB hH
 refine AW.drawn 8 3 [] mix (by kernel_rfl) rfl ?_
 refine go ?_
 refine AD.vv (cVs (qLw fl _ _ _ (hx6))) ?_
 refine go ?_
 refine AO.w (cVs (qK6 _ _ (hx8))) ?_
 refine AO.w (cVs (qHe _ _ _ _ (hx10))) (go ?_)
 exact fin
def qBV (c:Code) (p:Performance) (factor:Int) (fl:Nat):List Item→Nat→Int→Option ((Int×Bool))
 | [],k3,v14 =>
  (qGM p).bind fun x16 =>
  (qES 1000 x16 1).bind fun x18 =>
  (qES (w64 ((w64 (factor*3))*x18)) 100 1).bind fun x20 =>
  some (w64 (v14+x20),true)
 |y4::ys5,k3,v14 =>
  (qGo fl c p (k3:Int)).bind fun x22 =>
  qBV c p factor fl ys5 (k3+1) (w64 (v14+x22))
def qED (fl:Nat) (c:Code) (p:Performance) (factor:Int):Option (Int×Bool) :=
 (qE8 fl c p factor).bind fun x1 =>
 cond (!x1)
  (some (0,false))
  (qBV c p factor fl p.items 0 0)
theorem qLk (fl:Nat) (c:Code) (p:Performance) (factor:Int) (r:(Int×Bool)) (hH:qED fl c p factor=some r):qAC prog 180 [.g (ze4 c),.g (qGw p),factor] (.t [.v (.int .i64 r.1),.v (.bool r.2)]):=by
 refine fns T func180 ?_
 refine go ?_
 refine AO.x (bxs T 1) ?_
 refine AO.x (bxs T 2) (go ?_)
 obtain⟨x1,hx2,hH⟩:=zB hH
 refine go ?_
 refine AO.w (cVs (qH9 fl _ _ _ _ (hx2))) (go ?_)
 refine AW.cH hH (fun _ hH=>?_) (fun _ hH=>?_)
 refine go ?_
 exact fin
 refine go ?_
 refine AW.loopS (fun s:Nat×Int=>(⟨[(2,factor),(3,.p 1 0),(4,.p 2 0),(8,s.2),(17,(p.items.length:Int)),(18,(s.1:Int))],[(1,.box (ze4 c)),(2,.box (qGw p))],37,[]⟩:St)) (fun s=>s.1≤p.items.length∧qBV c p factor fl (p.items.drop s.1) s.1 s.2=some r) (fun s=>p.items.length-s.1) (0,0) ⟨Nat.zero_le _,hH⟩ ?_ ?_
 exact Le.ct 0 0
 rintro⟨k3,v14⟩ ⟨hk,hH⟩
 try dsimp only at hH⊢
 refine AW.boundBox (id:=2) (j:=0) (l:=p.items) rfl rfl (fun hb7=>?_)
 rcases hd6:p.items.drop k3 with _|⟨y4,ys5⟩
 rw[hd6,qBV]at hH
 have hlt8:=qAF hd6
 refine go ?_
 obtain⟨x16,hx17,x18,hx19,x20,hx21,hH⟩:=qA9 hH
 refine go ?_
 refine AO.w (cVs (qK6 _ _ (hx17))) ?_
 refine AO.w (cVs (qHe _ _ _ _ (hx19))) ?_
 refine AO.w aws ?_
 refine AO.w (cVs (qHe _ _ _ _ (hx21))) (go ?_)
 exact fin
 rw[hd6,qBV]at hH
 have hlt8:=qAG hd6
 refine go ?_
 obtain⟨x22,hx23,hH⟩:=zB hH
 refine go ?_
 refine AO.w (cVs (qNY fl _ _ _ _ (hx23))) (go ?_)
 refine⟨(k3+1,w64 (v14+x22)),⟨hlt8,(zds hd6▸hH)⟩,qBz hlt8,?_⟩
 exact Le.ct 0 0
def qIt (fl:Nat) (c:Code) (p:Performance) (factor:Int) (judge:Int):Option Bool :=
 (qE8 fl c p factor).bind fun x1 =>
 (opt x1 default (qAx p.marks)).bind fun x3 =>
 (opt x1 default (qAM judge 0 (w64 (x3-1)))).bind fun x5 =>
 some (x1&&x5)
theorem qNr (fl:Nat) (c:Code) (p:Performance) (factor:Int) (judge:Int) (r:Bool) (hH:qIt fl c p factor judge=some r):qAC prog 241 [.g (ze4 c),.g (qGw p),factor,judge] (.v (.bool r)):=by
 refine fns T func241 ?_
 refine go ?_
 refine AO.x (bxs T 1) ?_
 refine AO.x (bxs T 2) (go ?_)
 obtain⟨x1,hx2,x3,hx4,x5,hx6,hH⟩:=qA9 hH
 refine go ?_
 refine AO.w (cVs (qH9 fl _ _ _ _ (hx2))) ?_
 refine AO.pu T ?_
 refine AO.g0 T ?_
 refine AO.g0 T ?_
 refine AO.g T (d:=.g [sv ze3 p.marks.grades,sv ze3 p.marks.components]) [15] rfl ⟨fun h=>h,trivial⟩ rfl rfl ?_
 refine AO.d1 16 (fun hg=>cVs (qER _ _ (qEy hx4 hg))) ?_
 refine AO.d1 17 (fun hg=>aws) ?_
 refine AO.d2 14 18 (fun hg=>cVs (qAP _ _ _ _ (qEy hx6 hg))) ?_
 refine go ?_
 exact fin
def qCt (judge:Int) (mark:Int) (x1:Marks) (v16:List (List Int)):Nat→List (List Int)→List (List Int)→Int→Option Marks
 |0,_,_,_=>none
 |k23+1,v35,v36,v37 =>
  cond (decide (v37<(x1.components.length:Int)))
   ((qAT v36 v37).bind fun x39 =>
   (qAT x39 judge).bind fun x41 =>
   qCt judge mark x1 v16 k23 (v36.set v37.toNat (x39.set judge.toNat mark)) (v36.set v37.toNat (x39.set judge.toNat mark)) (w64 (v37+1)))
   (some (Marks.mk v16 v36))
def qDg (judge:Int) (grade:Int) (mark:Int) (fl:Nat) (x1:Marks):Nat→List (List Int)→List (List Int)→Int→Option Marks
 |0,_,_,_=>none
 |k3+1,v15,v16,v17 =>
  cond (decide (v17<(x1.grades.length:Int)))
   ((qAT v16 v17).bind fun x19 =>
   (qAT x19 judge).bind fun x21 =>
   qDg judge grade mark fl x1 k3 (v16.set v17.toNat (x19.set judge.toNat grade)) (v16.set v17.toNat (x19.set judge.toNat grade)) (w64 (v17+1)))
   (qCt judge mark x1 v16 fl x1.components x1.components 0)
def qFv (fl:Nat) (m:Marks) (judge:Int) (grade:Int) (mark:Int):Option Marks :=
 (qCo m).bind fun x1 =>
 qDg judge grade mark fl x1 fl x1.grades x1.grades 0
theorem qKT (fl:Nat) (m:Marks) (judge:Int) (grade:Int) (mark:Int) (r:Marks) (hH:qFv fl m judge grade mark=some r):qAC prog 295 [.g (qI2 m),judge,grade,mark] (.g (qIr r)):=by
 refine fns T func295 ?_
 refine gs2 ?_
 refine AO.x (bxs T 1) ?_
 refine AO.x (als T 2) ?_
 refine gs2 ?_
 obtain⟨x1,hx2,hH⟩:=zB hH
 refine gs2 ?_
 refine AO.x (qAU rfl 3 rfl rfl rfl (qF3 _ _ (hx2)) rfl rfl rfl) ?_
 refine AO.x (als T 5) ?_
 refine AO.se T [.R 3,.R 4] ?_
 iterate 10 refine gs ?_
 refine AW.loopS (fun s:Nat×(List (List Int))×(List (List Int))×Int=>(⟨[(1,judge),(2,grade),(3,mark),(8,.p 2 0),(9,.p 5 0),(17,.R 3),(18,(x1.grades.length:Int)),(19,s.2.2.2)],[(2,.box [.w 0 [],.w 0 []]),(3,ro 1 ze8 s.2.2.1),(4,ro 1 ze8 x1.components),(5,.box [.R 3,.R 4])],41,[]⟩:St)) (fun s=>qDg judge grade mark fl x1 s.1 s.2.1 s.2.2.1 s.2.2.2=some r) (fun s=>s.1) (fl,x1.grades,x1.grades,0) hH ?_ ?_
 exact Le.ct 0 0
 rintro⟨k3,v15,v16,v17⟩ hH
 try dsimp only at hH⊢
 rcases k3 with _|k3
 cases (show none=some _ from hH)
 rw[qDg]at hH
 refine gs5 ?_
 refine AW.cH hH (fun _ hH=>?_) (fun hc hH=>?_)
 refine gs4 ?_
 obtain⟨x19,hx20,hH⟩:=zB hH
 refine AW.le (Le.openM 3 v17.toNat 0 8 rfl (zgG (hx20)) rfl rfl) ?_
 refine AW.r (AO.w (qD5 T rfl rfl rfl rfl rfl rfl (hx20)) ?_)
 refine AO.w (qCO T rfl rfl rfl rfl rfl) ?_
 refine gs2 ?_
 obtain⟨x21,hx22,hH⟩:=zB hH
 refine gs5 ?_
 refine AO.x (zSr T rfl rfl rfl rfl rfl (zgG (hx22)) rfl rfl rfl rfl (u':=grade) rfl rfl) ?_
 refine AO.le (Le.closeM 3 v17.toNat 0 8 rfl rfl (zgG (hx20)) rfl (u':=(x19.set judge.toNat grade)) rfl) ?_
 refine gs5 ?_
 refine⟨(k3,(v16.set v17.toNat (x19.set judge.toNat grade)),(v16.set v17.toNat (x19.set judge.toNat grade)),w64 (v17+1)),hH,Nat.lt_succ_self _,?_⟩
 exact Le.ct 0 0
 iterate 10 refine gs ?_
 refine AW.loopS (fun s:Nat×(List (List Int))×(List (List Int))×Int=>(⟨[(1,judge),(3,mark),(8,.p 2 0),(9,.p 5 0),(29,.R 4),(30,(x1.components.length:Int)),(31,s.2.2.2)],[(2,.box [.w 0 [],.w 0 []]),(3,ro 1 ze8 v16),(4,ro 1 ze8 s.2.2.1),(5,.box [.R 3,.R 4])],41,[]⟩:St)) (fun s=>qCt judge mark x1 v16 s.1 s.2.1 s.2.2.1 s.2.2.2=some r) (fun s=>s.1) (fl,x1.components,x1.components,0) hH ?_ ?_
 exact Le.ct 0 0
 rintro⟨k23,v35,v36,v37⟩ hH
 try dsimp only at hH⊢
 rcases k23 with _|k23
 cases (show none=some _ from hH)
 rw[qCt]at hH
 refine gs5 ?_
 refine AW.cH hH (fun _ hH=>?_) (fun _ hH=>?_)
 refine gs4 ?_
 obtain⟨x39,hx40,hH⟩:=zB hH
 refine AW.le (Le.openM 4 v37.toNat 0 11 rfl (zgG (hx40)) rfl rfl) ?_
 refine AW.r (AO.w (qD5 T rfl rfl rfl rfl rfl rfl (hx40)) ?_)
 refine AO.w (qCO T rfl rfl rfl rfl rfl) ?_
 refine gs2 ?_
 obtain⟨x41,hx42,hH⟩:=zB hH
 refine gs5 ?_
 refine AO.x (zSr T rfl rfl rfl rfl rfl (zgG (hx42)) rfl rfl rfl rfl (u':=mark) rfl rfl) ?_
 refine AO.le (Le.closeM 4 v37.toNat 0 11 rfl rfl (zgG (hx40)) rfl (u':=(x39.set judge.toNat mark)) rfl) ?_
 refine gs5 ?_
 refine⟨(k23,(v36.set v37.toNat (x39.set judge.toNat mark)),(v36.set v37.toNat (x39.set judge.toNat mark)),w64 (v37+1)),hH,Nat.lt_succ_self _,?_⟩
 exact Le.ct 0 0
 refine gs4 ?_
 refine AO.se T [.R 3,.R 4] ?_
 refine gs2 ?_
 exact fin
def qEJ (fl:Nat) (c:Code) (p:Performance) (factor:Int) (judge:Int):Option (Int×Int) :=
 (qFv fl p.marks judge (-5) 0).bind fun x1 =>
 (qFv fl p.marks judge 5 1000).bind fun x3 =>
 (qBP fl c (Performance.mk p.items x1 p.slips) factor).bind fun x5 =>
 (qBP fl c (Performance.mk p.items x3 p.slips) factor).bind fun x7 =>
 some (x5,x7)
theorem qLg (fl:Nat) (c:Code) (p:Performance) (factor:Int) (judge:Int) (r:(Int×Int)) (hH:qEJ fl c p factor judge=some r):qAC prog 242 [.g (ze4 c),.g (qGw p),factor,judge] (.t [.v (.int .i64 r.1),.v (.int .i64 r.2)]):=by
 refine fns T func242 ?_
 refine go ?_
 refine AO.x (bxs T 1) ?_
 refine AO.x (bxs T 2) (go ?_)
 refine AW.drawn 5 3 [] mix (by kernel_rfl) rfl ?_
 refine go ?_
 refine AD.q (FStep.alloc T rfl rfl rfl rfl rfl rfl) (by simp[qAu]) (Nat.le_succ _) rfl ?_
 refine AD.q (FStep.alloc T rfl rfl rfl rfl rfl rfl) (by simp[qAu]) (Nat.le_succ _) rfl ?_
 refine AD.kk (FStep.store_p T rfl rfl rfl rfl rfl rfl rfl rfl rfl rfl rfl) ?_
 refine AD.nil (AO.se T [sv ze1 p.items,sv ze3 p.marks.grades,sv ze3 p.marks.components,p.slips.falls,p.slips.seconds,p.slips.other] ?_)
 refine AO.n (AW.le (Le.ct 0 0 (σ':=(⟨[(2,factor),(3,judge),(4,.p 1 0),(5,.p 2 0),(10,.p 3 0),(11,.p 4 0)],[(1,.box (ze4 c)),(2,.box (qGw p)),(3,.box (qGw p)),(4,.box (qGw p))],32,[]⟩:St))) ?_)
 refine AW.q ?_
 obtain⟨x1,hx2,hH⟩:=zB hH
 refine go ?_
 refine AO.x (qAU rfl 5 rfl rfl rfl (qKT fl _ _ _ _ _ (hx2)) rfl rfl rfl) ?_
 refine AO.pu T ?_
 refine AO.se T [sv ze1 p.items,.R 5,.R 6,p.slips.falls,p.slips.seconds,p.slips.other] ?_
 refine go ?_
 obtain⟨x3,hx4,hH⟩:=zB hH
 refine go ?_
 refine AO.x (qAU rfl 7 rfl rfl rfl (qKT fl _ _ _ _ _ (hx4)) rfl rfl rfl) ?_
 refine AO.pu T ?_
 refine AO.se T [sv ze1 p.items,.R 7,.R 8,p.slips.falls,p.slips.seconds,p.slips.other] ?_
 refine AO.n (AW.le (Le.ct 0 0 (σ':=(⟨[(2,factor),(4,.p 1 0),(10,.p 3 0),(11,.p 4 0)],[(1,.box (ze4 c)),(3,.box [sv ze1 p.items,.R 5,.R 6,p.slips.falls,p.slips.seconds,p.slips.other]),(4,.box [sv ze1 p.items,.R 7,.R 8,p.slips.falls,p.slips.seconds,p.slips.other]),(5,ro 1 ze8 x1.grades),(6,ro 1 ze8 x1.components),(7,ro 1 ze8 x3.grades),(8,ro 1 ze8 x3.components)],32,[]⟩:St))) ?_)
 refine AW.q ?_
 obtain⟨x5,hx6,x7,hx8,hH⟩:=qAH hH
 refine AW.drawn 7 9 [] mix (by kernel_rfl) rfl ?_
 refine go ?_
 refine AD.vv (zLV rfl rfl rfl (es:=[.g (ze4 c),.g (qGw (Performance.mk p.items x1 p.slips)),factor]) ⟨.free rfl,qDs (LendL.cons (.free rfl) (LendL.cons ((.rowR rfl (.map fun y=>qAk y))) (LendL.cons ((.rowR rfl (.map fun y=>qAk y))) (LendL.cons (.free rfl) (LendL.cons (.free rfl) (LendL.cons (.free rfl) LendL.nil)))))),.free rfl,trivial⟩ (qDj fl _ _ _ _ (hx6)) (qAJ _) rfl) ?_
 refine go ?_
 refine AO.w (zLV rfl rfl rfl (es:=[.g (ze4 c),.g (qGw (Performance.mk p.items x3 p.slips)),factor]) ⟨.free rfl,qDs (LendL.cons (.free rfl) (LendL.cons ((.rowR rfl (.map fun y=>qAk y))) (LendL.cons ((.rowR rfl (.map fun y=>qAk y))) (LendL.cons (.free rfl) (LendL.cons (.free rfl) (LendL.cons (.free rfl) LendL.nil)))))),.free rfl,trivial⟩ (qDj fl _ _ _ _ (hx8)) (qAJ _) rfl) ?_
 refine gs3 ?_
 refine AW.le (Le.ct 0 0 (σ':=(⟨[(8,x5),(9,x7)],[],32,[]⟩:St))) ?_
 refine AW.t ?_
 exact fin
def qFT (fl:Nat) (c:Code) (p:Performance) (factor:Int) (judge:Int):Option (Int×Int×Bool) :=
 (qIt fl c p factor judge).bind fun x1 =>
 cond (!x1)
  (some (0,0,false))
  ((qEJ fl c p factor judge).bind fun x3 =>
  some (x3.1,x3.2,true))
theorem qLb (fl:Nat) (c:Code) (p:Performance) (factor:Int) (judge:Int) (r:(Int×Int×Bool)) (hH:qFT fl c p factor judge=some r):qAC prog 181 [.g (ze4 c),.g (qGw p),factor,judge] (.t [.v (.int .i64 r.1),.v (.int .i64 r.2.1),.v (.bool r.2.2)]):=by
 refine fns T func181 ?_
 refine go ?_
 refine AO.x (bxs T 1) ?_
 refine AO.x (bxs T 2) (go ?_)
 obtain⟨x1,hx2,hH⟩:=zB hH
 refine go ?_
 refine AO.w (cVs (qNr fl _ _ _ _ _ (hx2))) (go ?_)
 refine AW.cH hH (fun _ hH=>?_) (fun _ hH=>?_)
 refine go ?_
 exact fin
 refine go ?_
 obtain⟨x3,hx4,hH⟩:=zB hH
 refine go ?_
 refine AO.w (cVs (qLg fl _ _ _ _ _ (hx4))) ?_
 iterate 14 refine gs ?_
 refine AW.le (Le.ct 0 0 (σ':=(⟨[(8,x3.1),(9,x3.2),(10,.v (.bool true))],[],29,[]⟩:St))) ?_
 refine AW.t ?_
 exact fin
def qBm (k1:Nat) (k434:Nat) (y435:Int):Nat→List (List Int)→Int→Option (List (List Int))
 |0,_,_=>none
 |k507+1,v514,v515 =>
  cond (decide (v515≤3))
   (cond (v515 != y435)
    ((qAr (qAf 24 (v514.length+([[(k1:Int),(k434:Int),v515]]).length))).bind fun u517 =>
    qBm k1 k434 y435 k507 (v514++[[(k1:Int),(k434:Int),v515]]) (w64 (v515+1)))
    (qBm k1 k434 y435 k507 v514 (w64 (v515+1))))
   (some v514)
def qBs (fl:Nat) (k1:Nat):List Int→Nat→List (List Int)→Option (List (List Int))
 | [],k434,v491 =>
  some v491
 |y435::ys436,k434,v491 =>
  (qBm k1 k434 y435 fl v491 0).bind fun v504 =>
  qBs fl k1 ys436 (k434+1) v504
def qBr (fl:Nat):List Item→Nat→List (List Int)→Option ((List (List Int)))
 | [],k1,v346 =>
  some v346
 |y2::ys3,k1,v346 =>
  (qBs fl k1 y2.marks 0 v346).bind fun v431 =>
  qBr fl ys3 (k1+1) v431
def qHg (fl:Nat) (l:List Item):Option (List (List Int)) :=
 qBr fl l 0 []
theorem qMt (fl:Nat) (l:List Item) (r:(List (List Int))) (hH:qHg fl l=some r):qAC prog 243 [.s (List.map ze1 l)] (.w 1 (r.map ze3)):=by
 refine fns T func243 ?_
 refine gs6 ?_
 refine AO.x (qGF T rfl rfl rfl rfl) ?_
 iterate 10 refine gs ?_
 refine AW.loopS (fun s:Nat×(List (List Int))=>(⟨[(3,.R 7),(10,sv ze1 l),(11,(l.length:Int)),(12,(s.1:Int))],[(7,ro 1 ze3 s.2)],42,[]⟩:St)) (fun s=>s.1≤l.length∧qBr fl (l.drop s.1) s.1 s.2=some r) (fun s=>l.length-s.1) (0,[]) ⟨Nat.zero_le _,hH⟩ ?_ ?_
 refine Le.trans (Le.void 3 7 1 rfl rfl) ?_
 exact Le.ct 0 0
 rintro⟨k1,v346⟩ ⟨hk,hH⟩
 try dsimp only at hH⊢
 refine AW.boundM (t:=10) (l:=l) rfl (fun hb5=>?_)
 rcases hd4:l.drop k1 with _|⟨y2,ys3⟩
 rw[hd4,qBr]at hH
 have hlt6:=qAF hd4
 iterate 13 refine gs ?_
 exact fin
 rw[hd4,qBr]at hH
 have hlt6:=qAG hd4
 refine gs7 ?_
 obtain⟨o432,hH,hK433⟩:=zB hH
 refine AW.seqJ (fun s:List (List Int)=>(⟨[(3,.R 7),(10,sv ze1 l),(11,(l.length:Int)),(12,(k1:Int))],[(7,ro 1 ze3 s)],42,[]⟩:St)) (fun s=>s=o432) ?_ ?_
 refine gs6 ?_
 refine AO.x (als T 276) ?_
 refine AO.pu T ?_
 refine AO.se T [sv ze2 y2.names,sv ze0 y2.marks,.v (.bool y2.late)] ?_
 refine gs9 ?_
 refine AW.loopS (fun s:Nat×(List (List Int))=>(⟨[(3,.R 7),(4,(k1:Int)),(10,sv ze1 l),(11,(l.length:Int)),(12,(k1:Int)),(18,sv ze0 y2.marks),(19,(y2.marks.length:Int)),(20,(s.1:Int))],[(7,ro 1 ze3 s.2)],42,[]⟩:St)) (fun s=>s.1≤y2.marks.length∧qBs fl k1 (y2.marks.drop s.1) s.1 s.2=some o432) (fun s=>y2.marks.length-s.1) (0,v346) ⟨Nat.zero_le _,hH⟩ ?_ ?_
 exact Le.ct 0 0
 rintro⟨k434,v491⟩ ⟨hk,hH⟩
 try dsimp only at hH⊢
 refine AW.boundM (t:=18) (l:=y2.marks) rfl (fun hb438=>?_)
 rcases hd437:y2.marks.drop k434 with _|⟨y435,ys436⟩
 rw[hd437,qBs]at hH
 have hlt439:=qAF hd437
 refine gs7 ?_
 refine⟨_,zS hH,?_⟩
 exact Le.ct 0 0
 rw[hd437,qBs]at hH
 have hlt439:=qAG hd437
 refine gs7 ?_
 obtain⟨o505,hH,hK506⟩:=zB hH
 refine AW.seqJ (fun s:List (List Int)=>(⟨[(3,.R 7),(4,(k1:Int)),(10,sv ze1 l),(11,(l.length:Int)),(12,(k1:Int)),(18,sv ze0 y2.marks),(19,(y2.marks.length:Int)),(20,(k434:Int))],[(7,ro 1 ze3 s)],42,[]⟩:St)) (fun s=>s=o505) ?_ ?_
 iterate 14 refine gs ?_
 refine AW.loopS (fun s:Nat×(List (List Int))×Int=>(⟨[(3,.R 7),(4,(k1:Int)),(6,(k434:Int)),(7,y435),(8,s.2.2),(10,sv ze1 l),(11,(l.length:Int)),(12,(k1:Int)),(18,sv ze0 y2.marks),(19,(y2.marks.length:Int)),(20,(k434:Int))],[(7,ro 1 ze3 s.2.1)],42,[]⟩:St)) (fun s=>qBm k1 k434 y435 s.1 s.2.1 s.2.2=some o505) (fun s=>s.1) (fl,v491,0) hH ?_ ?_
 exact Le.ct 0 0
 rintro⟨k507,v514,v515⟩ hH
 try dsimp only at hH⊢
 rcases k507 with _|k507
 cases (show none=some _ from hH)
 rw[qBm]at hH
 refine gs6 ?_
 refine AW.cH hH (fun hc hH=>?_) (fun _ hH=>?_)
 refine gs9 ?_
 refine AW.cH hH (fun _ hH=>?_) (fun hc hH=>?_)
 obtain⟨u517,hx518,hH⟩:=zB hH
 refine gs5 ?_
 refine AO.x (mks T 328 ze0 ([(k1:Int),(k434:Int),v515])) ?_
 refine AO.le (Le.fM 328 (g:=ze0) rfl (fun y=>.vs rfl)) ?_
 refine AO.x (mks T 329 ze3 ([[(k1:Int),(k434:Int),v515]])) ?_
 refine AO.x (rvs T 330 (hfit:=by exact qAQ (hx518))) ?_
 refine gs7 ?_
 refine⟨(k507,(v514++[[(k1:Int),(k434:Int),v515]]),w64 (v515+1)),hH,Nat.lt_succ_self _,?_⟩
 exact Le.ct 330 7
 refine gs6 ?_
 refine⟨(k507,v514,w64 (v515+1)),hH,Nat.lt_succ_self _,?_⟩
 exact Le.ct 0 0
 refine AW.exit ?_
 refine⟨_,zS hH,?_⟩
 exact Le.ct 0 0
 rintro v504 hs
 subst hs
 replace hH:=hK506
 try dsimp only[qK9,qJO]at hH
 try dsimp only
 refine gs4 ?_
 refine⟨(k434+1,v504),⟨hlt439,(zds hd437▸hH)⟩,qBz hlt439,?_⟩
 exact Le.ct 0 0
 rintro v431 hs
 subst hs
 replace hH:=hK433
 try dsimp only[qK9,qJO]at hH
 try dsimp only
 refine gs4 ?_
 refine⟨(k1+1,v431),⟨hlt6,(zds hd4▸hH)⟩,qBz hlt6,?_⟩
 exact Le.ct 0 0
end Go.Proofs.YtkidpkmpnbibmaaGreatDoor

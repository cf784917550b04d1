/- The walk, part 1: what each function reached by the law FnEvents computes. No condition. -/
import Derived.Test.YtegdphhfimaieabGreatAm3
import Derived.Test.YtegdphhfimaieabGreatShelf
import Derived.Test.YtegdphhfimaieabGreatProg
set_option maxRecDepth 4000
set_option maxHeartbeats 1000000
set_option linter.unusedVariables false
set_option linter.unusedSimpArgs false
set_option linter.unusedSectionVars false

namespace Go.Proofs.YtegdphhfimaieabGreat
open Go.AM
def teL:List (Option TI):=[
 none,
 none,
 some ⟨.int .i64,1,8,some (.int .i64 0)⟩,
 some ⟨.int .i64,1,8,some (.int .i64 0)⟩,
 some ⟨.bool,1,1,some (.bool false)⟩,
 some ⟨.int .u8,1,1,some (.int .u8 0)⟩,
 some ⟨.int .u8,1,1,some (.int .u8 0)⟩,
 some ⟨.struct [(0,2),(1,3),(2,4),(3,6)],4,24,some (.agg #[.int .i64 0,.int .i64 0,.bool false,.int .u8 0])⟩,
 some ⟨.struct [(0,2),(1,3),(2,4),(3,6)],4,24,some (.agg #[.int .i64 0,.int .i64 0,.bool false,.int .u8 0])⟩,
 some ⟨.str,1,16,some (.string ⟨#[]⟩)⟩,
 some ⟨.str,1,16,some (.string ⟨#[]⟩)⟩,
 some ⟨.str,1,16,some (.string ⟨#[]⟩)⟩,
 some ⟨.int .u64,1,8,some (.int .u64 0)⟩,
 some ⟨.struct [(0,9),(1,12)],2,24,some (.agg #[.string ⟨#[]⟩,.int .u64 0])⟩,
 some ⟨.struct [(0,9),(1,12)],2,24,some (.agg #[.string ⟨#[]⟩,.int .u64 0])⟩,
 some ⟨.ptr 164,1,8,some (.pointer none)⟩,
 some ⟨.ptr 167,1,8,some (.pointer none)⟩,
 some ⟨.ptr 175,1,8,some (.pointer none)⟩,
 some ⟨.struct [(0,17)],1,8,some (.agg #[.pointer none])⟩,
 some ⟨.struct [(0,17)],1,8,some (.agg #[.pointer none])⟩,
 none,
 some ⟨.int .i32,1,4,some (.int .i32 0)⟩,
 some ⟨.slice 5,1,24,some (.slice none 0 0)⟩,
 none,
 some ⟨.slice 46,1,24,some (.slice none 0 0)⟩,
 some ⟨.slice 3,1,24,some (.slice none 0 0)⟩,
 some ⟨.slice 44,1,24,some (.slice none 0 0)⟩,
 some ⟨.struct [(0,3),(1,3),(2,3),(3,24),(4,25),(5,3),(6,25),(7,26)],8,128,some (.agg #[.int .i64 0,.int .i64 0,.int .i64 0,.slice none 0 0,.slice none 0 0,.int .i64 0,.slice none 0 0,.slice none 0 0])⟩,
 some ⟨.struct [(0,3),(1,3),(2,3),(3,24),(4,25),(5,3),(6,25),(7,26)],8,128,some (.agg #[.int .i64 0,.int .i64 0,.int .i64 0,.slice none 0 0,.slice none 0 0,.int .i64 0,.slice none 0 0,.slice none 0 0])⟩,
 none,
 none,
 none,
 none,
 none,
 none,
 none,
 none,
 none,
 none,
 none,
 none,
 none,
 none,
 some ⟨.struct [(0,3),(1,25)],2,32,some (.agg #[.int .i64 0,.slice none 0 0])⟩,
 some ⟨.struct [(0,3),(1,25)],2,32,some (.agg #[.int .i64 0,.slice none 0 0])⟩,
 some ⟨.struct [(0,3),(1,3)],2,16,some (.agg #[.int .i64 0,.int .i64 0])⟩,
 some ⟨.struct [(0,3),(1,3)],2,16,some (.agg #[.int .i64 0,.int .i64 0])⟩,
 none,
 none,
 none,
 some ⟨.slice 69,1,24,some (.slice none 0 0)⟩,
 none,
 none,
 none,
 none,
 none,
 none,
 none,
 none,
 none,
 none,
 none,
 none,
 none,
 none,
 none,
 none,
 none,
 some ⟨.struct [(0,3),(1,3),(2,3)],3,24,some (.agg #[.int .i64 0,.int .i64 0,.int .i64 0])⟩,
 some ⟨.struct [(0,3),(1,3),(2,3)],3,24,some (.agg #[.int .i64 0,.int .i64 0,.int .i64 0])⟩,
 none,
 none,
 none,
 none,
 none,
 some ⟨.ptr 78,1,8,some (.pointer none)⟩,
 some ⟨.int .u64,1,8,some (.int .u64 0)⟩,
 some ⟨.struct [(0,22),(1,3),(2,76)],3,40,some (.agg #[.slice none 0 0,.int .i64 0,.int .u64 0])⟩,
 some ⟨.struct [(0,22),(1,3),(2,76)],3,40,some (.agg #[.slice none 0 0,.int .i64 0,.int .u64 0])⟩,
 none,
 none,
 none,
 none,
 none,
 none,
 none,
 none,
 none,
 none,
 none,
 none,
 none,
 none,
 none,
 none,
 none,
 none,
 none,
 none,
 none,
 none,
 none,
 some ⟨.int .u64,1,8,some (.int .u64 0)⟩,
 some ⟨.ptr 69,1,8,some (.pointer none)⟩,
 none,
 none,
 none,
 none,
 none,
 none,
 none,
 none,
 some ⟨.slice 25,1,24,some (.slice none 0 0)⟩,
 none,
 none,
 none,
 none,
 none,
 none,
 none,
 none,
 none,
 some ⟨.int .i64,1,8,some (.int .i64 0)⟩,
 none,
 none,
 none,
 none,
 none,
 none,
 some ⟨.int .u32,1,4,some (.int .u32 0)⟩,
 none,
 none,
 none,
 none,
 some ⟨.int .u64,1,8,some (.int .u64 0)⟩,
 none,
 none,
 none,
 some ⟨.ptr 3,1,8,some (.pointer none)⟩,
 none,
 none,
 none,
 none,
 none,
 none,
 none,
 none,
 none,
 some ⟨.ptr 134,1,8,some (.pointer none)⟩,
 none,
 none,
 none,
 none,
 none,
 none,
 none,
 none,
 none,
 none,
 none,
 none,
 none,
 none,
 some ⟨.struct [(0,17),(1,17),(2,17),(3,9)],4,40,some (.agg #[.pointer none,.pointer none,.pointer none,.string ⟨#[]⟩])⟩,
 some ⟨.struct [(0,17),(1,17),(2,17),(3,9)],4,40,some (.agg #[.pointer none,.pointer none,.pointer none,.string ⟨#[]⟩])⟩,
 some ⟨.array 0 16,0,0,some (.agg #[])⟩,
 some ⟨.struct [(0,165)],0,0,some (.agg #[])⟩,
 some ⟨.struct [(0,165)],0,0,some (.agg #[])⟩,
 some ⟨.int .u8,1,1,some (.int .u8 0)⟩,
 some ⟨.int .u8,1,1,some (.int .u8 0)⟩,
 none,
 some ⟨.ptr 5,1,8,some (.pointer none)⟩,
 some ⟨.int .i32,1,4,some (.int .i32 0)⟩,
 some ⟨.int .i32,1,4,some (.int .i32 0)⟩,
 some ⟨.struct [(0,12),(1,12),(2,129),(3,168),(4,5),(5,5),(6,169),(7,170),(8,171),(9,172),(10,173)],11,48,some (.agg #[.int .u64 0,.int .u64 0,.int .u32 0,.int .u8 0,.int .u8 0,.int .u8 0,.int .u8 0,.nilFunc,.pointer none,.int .i32 0,.int .i32 0])⟩,
 some ⟨.struct [(0,12),(1,12),(2,129),(3,168),(4,5),(5,5),(6,169),(7,170),(8,171),(9,172),(10,173)],11,48,some (.agg #[.int .u64 0,.int .u64 0,.int .u32 0,.int .u8 0,.int .u8 0,.int .u8 0,.int .u8 0,.nilFunc,.pointer none,.int .i32 0,.int .i32 0])⟩,
 none]
def te:TE:=teOf teL
theorem T:TEok Tryz.prog te:=TEok_of (by kernel_rfl)
theorem mix:Tryz.prog.follows .mixedOrders=true:=by kernel_rfl

def ze0 (x:Int):List D:=[.v (.int .i64 x)]
def encBool (x:Bool):List D:=[.v (.bool x)]
def encStr (x:ByteArray):List D:=[.v (.string x)]
def ze5 (x:Int):List D:=[.v (.int .u8 x)]
def encInt_u64 (x:Int):List D:=[.v (.int .u64 x)]
def encInt_i32 (x:Int):List D:=[.v (.int .i32 x)]
def ze12 (x:List Int):List D:=[.s (x.map ze0)]
def ze11 (x:List Int):List D:=[.w 1 (x.map ze0)]
theorem frzLInt (x:List Int):FrzL (ze11 x) (ze12 x):=.cons (.map fun y=>.vs rfl) .nil
structure Entrant where
  skater:Int
  rank:Int
  deriving Inhabited,DecidableEq
def ze1 (x:Entrant):List D:=[.v (.int .i64 x.skater),.v (.int .i64 x.rank)]
def encLEntrant (x:List Entrant):List D:=[.s (x.map ze1)]
def encLEntrantO (x:List Entrant):List D:=[.w 2 (x.map ze1)]
theorem frzLEntrant (x:List Entrant):FrzL (encLEntrantO x) (encLEntrant x):=.cons (.map fun y=>.vs rfl) .nil
structure Result where
  skater:Int
  scores:List Int
  deriving Inhabited,DecidableEq
def ze2 (x:Result):List D:=[.v (.int .i64 x.skater),.s (x.scores.map ze0)]
def ze6 (x:Result):List D:=[.v (.int .i64 x.skater),.w 1 (x.scores.map ze0)]
theorem frzResult (x:Result):FrzL (ze6 x) (ze2 x):=.cons (.vs rfl) (.cons (.map fun y=>.vs rfl) (.nil))
structure Event where
  segments:Int
  size:Int
  key:Int
  entrants:List Entrant
  gone:List Int
  segment:Int
  order:List Int
  results:List Result
  deriving Inhabited,DecidableEq
def ze4 (x:Event):List D:=[.v (.int .i64 x.segments),.v (.int .i64 x.size),.v (.int .i64 x.key),.s (x.entrants.map ze1),.s (x.gone.map ze0),.v (.int .i64 x.segment),.s (x.order.map ze0),.s (x.results.map ze2)]
def ze10 (x:Event):List D:=[.v (.int .i64 x.segments),.v (.int .i64 x.size),.v (.int .i64 x.key),.w 2 (x.entrants.map ze1),.w 1 (x.gone.map ze0),.v (.int .i64 x.segment),.w 1 (x.order.map ze0),.w 2 (x.results.map ze6)]
theorem frzEvent (x:Event):FrzL (ze10 x) (ze4 x):=.cons (.vs rfl) (.cons (.vs rfl) (.cons (.vs rfl) (.cons (.map fun y=>.vs rfl) (.cons (.map fun y=>.vs rfl) (.cons (.vs rfl) (.cons (.map fun y=>.vs rfl) (.cons (.map fun y=>frzResult y) (.nil))))))))
def encEventH (x:Event):List D:=[.v (.int .i64 x.segments),.v (.int .i64 x.size),.v (.int .i64 x.key),.w 2 (x.entrants.map ze1),.w 1 (x.gone.map ze0),.v (.int .i64 x.segment),.w 1 (x.order.map ze0),.w 2 (x.results.map ze2)]
theorem frzHEvent (x:Event):FrzL (encEventH x) (ze4 x):=.cons (.vs rfl) (.cons (.vs rfl) (.cons (.vs rfl) (.cons (.map fun y=>.vs rfl) (.cons (.map fun y=>.vs rfl) (.cons (.vs rfl) (.cons (.map fun y=>.vs rfl) (.cons (.map fun y=>.vs rfl) (.nil))))))))
structure Step where
  kind:Int
  skater:Int
  number:Int
  deriving Inhabited,DecidableEq
def ze7 (x:Step):List D:=[.v (.int .i64 x.kind),.v (.int .i64 x.skater),.v (.int .i64 x.number)]
structure L1Cur where
  code:List Int
  at':Int
  seed:Int
  deriving Inhabited,DecidableEq
def ze3 (x:L1Cur):List D:=[.s (x.code.map ze5),.v (.int .i64 x.at'),.v (.int .u64 x.seed)]
def encL1CurO (x:L1Cur):List D:=[.w 1 (x.code.map ze5),.v (.int .i64 x.at'),.v (.int .u64 x.seed)]
theorem frzL1Cur (x:L1Cur):FrzL (encL1CurO x) (ze3 x):=.cons (.map fun y=>.vs rfl) (.cons (.vs rfl) (.cons (.vs rfl) (.nil)))
theorem ekTEntrant:ekT Tryz.prog 46=some [.i .i64,.i .i64]:=by kernel_rfl
theorem eqVEntrant (x y:Entrant):eqV (ze1 x) (ze1 y)=decide (x=y):=by
  cases x;cases y
  rw [Bool.eq_iff_iff]
  simp [ze1,eqV,eqE]

def laws_big_p (code:List Int) (more:List Int):Option Bool :=
 some (decide ((code.length:Int) > 1048576) || decide ((more.length:Int) > (w64 (1048576 - (code.length:Int)))))
theorem laws_big_ok (code:List Int) (more:List Int) (r:Bool) (hH:laws_big_p code more=some r):SpecR Tryz.prog 5 [.s (List.map ze5 code),.s (List.map ze5 more)] (.v (.bool r)):=by
 refine zFn T Tryz.func5 rfl (by decide) rfl ?_
 refine AW.q (AW.r (AO.pu T ?_))
 refine AO.n (AW.q (AW.r ?_))
 refine AO.pu T ?_
 refine AO.v rfl rfl (zL T rfl rfl rfl) ?_
 iterate 2 refine AO.pu T ?_
 refine AO.g T [] rfl trivial rfl rfl ?_
 refine AO.d [9] rfl ⟨fun h=>h,trivial⟩ (fun hg=>zL T rfl rfl rfl) rfl ?_
 refine AO.g T [] rfl trivial rfl rfl ?_
 refine AO.d [11] rfl ⟨fun h=>h,trivial⟩ (fun hg=>zL T rfl rfl rfl) rfl ?_
 refine AO.d [12] rfl ⟨fun h=>h,trivial⟩ (fun hg=>zW rfl rfl rfl rfl) rfl ?_
 refine AO.g T [10,13] rfl ⟨fun h=>h,fun h=>h,trivial⟩ rfl rfl ?_
 refine AO.v rfl rfl (zO rfl rfl rfl rfl) ?_
 refine AO.pu T ?_
 refine AO.n (AW.t ?_)
 have hR:=zS hH;subst hR
 exact retQ.i [] rfl (.c (.c .v))

def spec_l1Cur_next_p (c:L1Cur):Option (L1Cur × Int) :=
 cond (decide (c.at' < (c.code.length:Int)))
  ((getI c.code c.at').bind fun x1 =>
  cond (decide ((w64 (c.at'+1)) ≤ (c.code.length:Int)))
   (some ((L1Cur.mk c.code (w64 (c.at'+1)) (IntKind.wrap .u64 ((IntKind.wrap .u64 ((IntKind.wrap .u64 (c.seed * 6364136223846793005))+(IntKind.wrap .u64 (IntKind.wrap .i64 x1))))+1442695040888963407))),IntKind.wrap .i64 x1))
   (some ((L1Cur.mk c.code (w64 (c.at'+1)) (IntKind.wrap .u64 ((IntKind.wrap .u64 ((IntKind.wrap .u64 (c.seed * 6364136223846793005))+(IntKind.wrap .u64 (IntKind.wrap .i64 x1))))+1442695040888963407))),IntKind.wrap .i64 (IntKind.wrap .u64 ((BitVec.ofInt 64 ((IntKind.wrap .u64 ((IntKind.wrap .u64 ((IntKind.wrap .u64 (c.seed * 6364136223846793005))+(IntKind.wrap .u64 (IntKind.wrap .i64 x1))))+1442695040888963407)).fdiv (2 ^ 40)) &&& BitVec.ofInt 64 255).toNat:Int)))))
  (cond (decide ((w64 (c.at'+1)) ≤ (c.code.length:Int)))
   (some ((L1Cur.mk c.code (w64 (c.at'+1)) (IntKind.wrap .u64 ((IntKind.wrap .u64 ((IntKind.wrap .u64 (c.seed * 6364136223846793005))+(IntKind.wrap .u64 0)))+1442695040888963407))),0))
   (some ((L1Cur.mk c.code (w64 (c.at'+1)) (IntKind.wrap .u64 ((IntKind.wrap .u64 ((IntKind.wrap .u64 (c.seed * 6364136223846793005))+(IntKind.wrap .u64 0)))+1442695040888963407))),IntKind.wrap .i64 (IntKind.wrap .u64 ((BitVec.ofInt 64 ((IntKind.wrap .u64 ((IntKind.wrap .u64 ((IntKind.wrap .u64 (c.seed * 6364136223846793005))+(IntKind.wrap .u64 0)))+1442695040888963407)).fdiv (2 ^ 40)) &&& BitVec.ofInt 64 255).toNat:Int)))))
theorem spec_l1Cur_next_ok (c:L1Cur) (r:(L1Cur × Int)) (hH:spec_l1Cur_next_p c=some r):SpecM Tryz.prog 103 [.pw (ze3 c)] [.pw (ze3 r.1)] (.v (.int .i64 r.2)):=by
 refine fn_okM T Tryz.func103 rfl (by decide) rfl rfl ?_
 intro L
 show AW _ _ _ (⟨[(0,.p 1 0)],[(1,.box [.s (List.map ze5 c.code),c.at',.v (.int .u64 c.seed)])],62,[(1,L 1)]⟩:St)
 refine AW.q (AW.r (AO.pu T ?_))
 refine AO.n (AW.q (AW.r ?_))
 refine AO.pu T ?_
 refine AO.n ?_
 iterate 2 refine AW.q ?_
 refine AW.drawn 9 2 [] mix (by kernel_rfl) rfl ?_
 iterate 8 refine AD.p T rfl rfl rfl ?_
 refine AD.w rfl rfl (zL T rfl rfl rfl) ?_
 refine AD.nil (AO.pu T ?_)
 refine AO.n (AW.c (b:=decide (c.at' < (c.code.length:Int))) rfl (fun hc=>?_) (fun hc=>?_))
 replace hH:=condT hc hH
 obtain ⟨x1,hx2,hH⟩:=zB hH
 refine AW.drawn 8 2 [] mix (by kernel_rfl) rfl ?_
 iterate 8 refine AD.p T rfl rfl rfl ?_
 refine AD.nil (AO.v rfl rfl (zX T rfl rfl rfl rfl rfl (hx2) rfl) ?_)
 refine AO.pu T ?_
 refine AO.v rfl rfl (convw_ok T rfl rfl rfl rfl) ?_
 refine AO.pu T ?_
 refine AO.n (AW.le (Le.ct 0 0 (σ':=(⟨[(0,.p 1 0),(3,(IntKind.wrap .i64 x1:Int))],[(1,.box [.s (List.map ze5 c.code),c.at',.v (.int .u64 c.seed)])],62,[(1,L 1)]⟩:St)) (hpin:=⟨⟨rfl,rfl⟩,trivial⟩)) ?_)
 refine AW.q (AW.r ?_)
 iterate 4 refine AO.pu T ?_
 refine AO.v rfl rfl (zW rfl rfl rfl rfl) ?_
 iterate 2 refine AO.pu T ?_
 refine AO.se T [.s (List.map ze5 c.code),w64 (c.at'+1),.v (.int .u64 c.seed)] ?_
 refine AO.n (AW.q (AW.r ?_))
 iterate 5 refine AO.pu T ?_
 refine AO.v rfl rfl (zW rfl rfl rfl rfl) ?_
 refine AO.pu T ?_
 refine AO.v rfl rfl (convw_ok T rfl rfl rfl rfl) ?_
 iterate 2 refine AO.v rfl rfl (zW rfl rfl rfl rfl) ?_
 iterate 2 refine AO.pu T ?_
 refine AO.se T [.s (List.map ze5 c.code),w64 (c.at'+1),.v (.int .u64 (IntKind.wrap .u64 ((IntKind.wrap .u64 ((IntKind.wrap .u64 (c.seed * 6364136223846793005))+(IntKind.wrap .u64 (IntKind.wrap .i64 x1))))+1442695040888963407)))] ?_
 refine AO.n ?_
 iterate 2 refine AW.q ?_
 refine AW.drawn 9 2 [] mix (by kernel_rfl) rfl ?_
 iterate 8 refine AD.p T rfl rfl rfl ?_
 refine AD.w rfl rfl (zL T rfl rfl rfl) ?_
 refine AD.nil (AO.pu T ?_)
 refine AO.n (AW.le (Le.ct 0 0 (σ':=(⟨[(0,.p 1 0),(3,(IntKind.wrap .i64 x1:Int)),(53,.v (.bool (decide ((w64 (c.at'+1)) ≤ (c.code.length:Int)))))],[(1,.box [.s (List.map ze5 c.code),w64 (c.at'+1),.v (.int .u64 (IntKind.wrap .u64 ((IntKind.wrap .u64 ((IntKind.wrap .u64 (c.seed * 6364136223846793005))+(IntKind.wrap .u64 (IntKind.wrap .i64 x1))))+1442695040888963407)))])],62,[(1,L 1)]⟩:St)) (hpin:=⟨⟨rfl,rfl⟩,trivial⟩)) ?_)
 refine AW.c (b:=decide ((w64 (c.at'+1)) ≤ (c.code.length:Int))) rfl (fun hc=>?_) (fun hc=>?_)
 replace hH:=condT hc hH
 refine AW.q (AW.r ?_)
 iterate 2 refine AO.pu T ?_
 refine AO.n (AW.t ?_)
 have hR:=zS hH;subst hR
 exact ⟨trivial,rfl,_,[],[1],rfl,zG (.c (.box rfl rfl)) (zGn),.c (.c .v),by decide⟩
 replace hH:=condF hc hH
 refine AW.k (AW.q (AW.r ?_))
 iterate 4 refine AO.pu T ?_
 refine AO.v rfl rfl (shr_ok rfl rfl rfl rfl rfl) ?_
 refine AO.v rfl rfl (and_ok rfl rfl rfl) ?_
 refine AO.v rfl rfl (convw_ok T rfl rfl rfl rfl) ?_
 refine AO.pu T ?_
 refine AO.n (AW.t ?_)
 have hR:=zS hH;subst hR
 exact ⟨trivial,rfl,_,[],[1],rfl,zG (.c (.box rfl rfl)) (zGn),.c (.c .v),by decide⟩
 replace hH:=condF hc hH
 refine AW.k (AW.q (AW.r ?_))
 iterate 4 refine AO.pu T ?_
 refine AO.v rfl rfl (zW rfl rfl rfl rfl) ?_
 iterate 2 refine AO.pu T ?_
 refine AO.se T [.s (List.map ze5 c.code),w64 (c.at'+1),.v (.int .u64 c.seed)] ?_
 refine AO.n (AW.q (AW.r ?_))
 iterate 5 refine AO.pu T ?_
 refine AO.v rfl rfl (zW rfl rfl rfl rfl) ?_
 refine AO.pu T ?_
 refine AO.v rfl rfl (convw_ok T rfl rfl rfl rfl) ?_
 iterate 2 refine AO.v rfl rfl (zW rfl rfl rfl rfl) ?_
 iterate 2 refine AO.pu T ?_
 refine AO.se T [.s (List.map ze5 c.code),w64 (c.at'+1),.v (.int .u64 (IntKind.wrap .u64 ((IntKind.wrap .u64 ((IntKind.wrap .u64 (c.seed * 6364136223846793005))+(IntKind.wrap .u64 0)))+1442695040888963407)))] ?_
 refine AO.n (AW.le (Le.ct 0 0 (σ':=(⟨[(0,.p 1 0),(3,(0:Int))],[(1,.box [.s (List.map ze5 c.code),w64 (c.at'+1),.v (.int .u64 (IntKind.wrap .u64 ((IntKind.wrap .u64 ((IntKind.wrap .u64 (c.seed * 6364136223846793005))+(IntKind.wrap .u64 0)))+1442695040888963407)))])],62,[(1,L 1)]⟩:St)) (hpin:=⟨⟨rfl,rfl⟩,trivial⟩)) ?_)
 iterate 2 refine AW.q ?_
 refine AW.drawn 9 2 [] mix (by kernel_rfl) rfl ?_
 iterate 8 refine AD.p T rfl rfl rfl ?_
 refine AD.w rfl rfl (zL T rfl rfl rfl) ?_
 refine AD.nil (AO.pu T ?_)
 refine AO.n (AW.c (b:=decide ((w64 (c.at'+1)) ≤ (c.code.length:Int))) rfl (fun hc=>?_) (fun hc=>?_))
 replace hH:=condT hc hH
 refine AW.q (AW.r ?_)
 iterate 2 refine AO.pu T ?_
 refine AO.n (AW.t ?_)
 have hR:=zS hH;subst hR
 exact ⟨trivial,rfl,_,[],[1],rfl,zG (.c (.box rfl rfl)) (zGn),.c (.c .v),by decide⟩
 replace hH:=condF hc hH
 refine AW.k (AW.q (AW.r ?_))
 iterate 4 refine AO.pu T ?_
 refine AO.v rfl rfl (shr_ok rfl rfl rfl rfl rfl) ?_
 refine AO.v rfl rfl (and_ok rfl rfl rfl) ?_
 refine AO.v rfl rfl (convw_ok T rfl rfl rfl rfl) ?_
 refine AO.pu T ?_
 refine AO.n (AW.t ?_)
 have hR:=zS hH;subst hR
 exact ⟨trivial,rfl,_,[],[1],rfl,zG (.c (.box rfl rfl)) (zGn),.c (.c .v),by decide⟩

def spec_l1Cur_pick_p (c:L1Cur) (n:Int):Option (L1Cur × Int) :=
 cond (decide (n ≤ 1))
  (some (c,0))
  ((spec_l1Cur_next_p c).bind fun x1 =>
  cond (decide (n > 200))
   ((spec_l1Cur_next_p (L1Cur.mk x1.1.code x1.1.at' x1.1.seed)).bind fun x3 =>
   (need (n != 0)).bind fun u5 =>
   some ((L1Cur.mk x3.1.code x3.1.at' x3.1.seed),((w64 ((w64 (x1.2 * 256))+x3.2)).tmod n)))
   ((need (n != 0)).bind fun u7 =>
   some ((L1Cur.mk x1.1.code x1.1.at' x1.1.seed),(x1.2.tmod n))))
theorem spec_l1Cur_pick_ok (c:L1Cur) (n:Int) (r:(L1Cur × Int)) (hH:spec_l1Cur_pick_p c n=some r):SpecM Tryz.prog 62 [.pw (ze3 c),n] [.pw (ze3 r.1),.u] (.v (.int .i64 r.2)):=by
 refine fn_okM T Tryz.func62 rfl (by decide) rfl rfl ?_
 intro L
 show AW _ _ _ (⟨[(0,.p 1 0),(1,n)],[(1,.box [.s (List.map ze5 c.code),c.at',.v (.int .u64 c.seed)])],20,[(1,L 1)]⟩:St)
 refine AW.q (AW.r (AO.pu T ?_))
 refine AO.n ?_
 iterate 2 refine AW.q ?_
 refine AW.r ?_
 iterate 2 refine AO.pu T ?_
 refine AO.n (AW.c (b:=decide (n ≤ 1)) rfl (fun hc=>?_) (fun hc=>?_))
 replace hH:=condT hc hH
 refine AW.q (AW.r (AO.pu T ?_))
 refine AO.n (AW.t ?_)
 have hR:=zS hH;subst hR
 exact ⟨trivial,rfl,_,[],[1],rfl,zG (.c (.box rfl rfl)) (zG (.c .u) (zGn)),.c (.c .v),by decide⟩
 replace hH:=condF hc hH
 refine AW.k (AW.q ?_)
 obtain ⟨x1,hx2,hH⟩:=zB hH
 refine AW.r (AO.pu T ?_)
 refine AO.s rfl (zM rfl 2 rfl rfl (es:=[.pw (ze3 c)]) (outs:=[.pw (ze3 x1.1)]) (ids:=[1]) (by exact zG (.c (.box rfl rfl)) (zGn)) (by decide) (.inl (by rfl)) (by rfl) (spec_l1Cur_next_ok _ _ (hx2)) rfl (by rfl) rfl) ?_
 refine AO.pu T ?_
 refine AO.n ?_
 iterate 2 refine AW.q ?_
 refine AW.r ?_
 iterate 2 refine AO.pu T ?_
 refine AO.n (AW.c (b:=decide (n > 200)) rfl (fun hc=>?_) (fun hc=>?_))
 replace hH:=condT hc hH
 obtain ⟨x3,hx4,hH⟩:=zB hH
 refine AW.r (AO.pu T ?_)
 refine AO.v rfl rfl (zW rfl rfl rfl rfl) ?_
 refine AO.pu T ?_
 refine AO.s rfl (zM rfl 2 rfl rfl (es:=[.pw (ze3 (L1Cur.mk x1.1.code x1.1.at' x1.1.seed))]) (outs:=[.pw (ze3 x3.1)]) (ids:=[1]) (by exact zG (.c (.box rfl rfl)) (zGn)) (by decide) (.inl (by rfl)) (by rfl) (spec_l1Cur_next_ok _ _ (hx4)) rfl (by rfl) rfl) ?_
 refine AO.v rfl rfl (zW rfl rfl rfl rfl) ?_
 refine AO.pu T ?_
 refine AO.n (AW.q ?_)
 obtain ⟨u5,hx6,hH⟩:=zB hH
 refine AW.r ?_
 iterate 2 refine AO.pu T ?_
 refine AO.v rfl rfl (rem_ok rfl rfl rfl (neZ (needT (hx6)))) ?_
 refine AO.pu T ?_
 refine AO.n (AW.t ?_)
 have hR:=zS hH;subst hR
 exact ⟨trivial,rfl,_,[],[1],rfl,zG (.c (.box rfl rfl)) (zG (.c .u) (zGn)),.c (.c .v),by decide⟩
 replace hH:=condF hc hH
 refine AW.k (AW.q ?_)
 obtain ⟨u7,hx8,hH⟩:=zB hH
 refine AW.r ?_
 iterate 2 refine AO.pu T ?_
 refine AO.v rfl rfl (rem_ok rfl rfl rfl (neZ (needT (hx8)))) ?_
 refine AO.pu T ?_
 refine AO.n (AW.t ?_)
 have hR:=zS hH;subst hR
 exact ⟨trivial,rfl,_,[],[1],rfl,zG (.c (.box rfl rfl)) (zG (.c .u) (zGn)),.c (.c .v),by decide⟩

def spec_l1Cur_among_p (c:L1Cur) (list:List Int):Option (L1Cur × Int) :=
 (spec_l1Cur_pick_p c (list.length:Int)).bind fun x1 =>
 (getI list x1.2).bind fun x3 =>
 some ((L1Cur.mk x1.1.code x1.1.at' x1.1.seed),x3)
theorem spec_l1Cur_among_ok (c:L1Cur) (list:List Int) (r:(L1Cur × Int)) (hH:spec_l1Cur_among_p c list=some r):SpecM Tryz.prog 59 [.pw (ze3 c),.s (List.map ze0 list)] [.pw (ze3 r.1),.u] (.v (.int .i64 r.2)):=by
 refine fn_okM T Tryz.func59 rfl (by decide) rfl rfl ?_
 intro L
 show AW _ _ _ (⟨[(0,.p 1 0),(1,.s (List.map ze0 list))],[(1,.box [.s (List.map ze5 c.code),c.at',.v (.int .u64 c.seed)])],12,[(1,L 1)]⟩:St)
 refine AW.q (AW.r (AO.pu T ?_))
 refine AO.n (AW.q ?_)
 obtain ⟨x1,hx2,hH⟩:=zB hH
 obtain ⟨x3,hx4,hH⟩:=zB hH
 refine AW.r ?_
 iterate 3 refine AO.pu T ?_
 refine AO.v rfl rfl (zL T rfl rfl rfl) ?_
 refine AO.s rfl (zM rfl 2 rfl rfl (es:=[.pw (ze3 c),.v (.int .i64 (list.length:Int))]) (outs:=[.pw (ze3 x1.1),.u]) (ids:=[1]) (by exact zG (.c (.box rfl rfl)) (zG (.c .v) (zGn))) (by decide) (.inl (by rfl)) (by rfl) (spec_l1Cur_pick_ok _ _ _ (hx2)) rfl (by rfl) rfl) ?_
 refine AO.v rfl rfl (zX T rfl rfl rfl rfl rfl (hx4) rfl) ?_
 iterate 2 refine AO.pu T ?_
 refine AO.n (AW.t ?_)
 have hR:=zS hH;subst hR
 exact ⟨trivial,rfl,_,[],[1],rfl,zG (.c (.box rfl rfl)) (zG (.c .u) (zGn)),.c (.c .v),by decide⟩

def spec_l1Cur_one_p (c:L1Cur) (n:Int):Option (L1Cur × Bool) :=
 (spec_l1Cur_pick_p c n).bind fun x1 =>
 some ((L1Cur.mk x1.1.code x1.1.at' x1.1.seed),(x1.2 == 0))
theorem spec_l1Cur_one_ok (c:L1Cur) (n:Int) (r:(L1Cur × Bool)) (hH:spec_l1Cur_one_p c n=some r):SpecM Tryz.prog 61 [.pw (ze3 c),n] [.pw (ze3 r.1),.u] (.v (.bool r.2)):=by
 refine fn_okM T Tryz.func61 rfl (by decide) rfl rfl ?_
 intro L
 show AW _ _ _ (⟨[(0,.p 1 0),(1,n)],[(1,.box [.s (List.map ze5 c.code),c.at',.v (.int .u64 c.seed)])],9,[(1,L 1)]⟩:St)
 refine AW.q (AW.r (AO.pu T ?_))
 refine AO.n (AW.q ?_)
 obtain ⟨x1,hx2,hH⟩:=zB hH
 refine AW.r ?_
 iterate 2 refine AO.pu T ?_
 refine AO.s rfl (zM rfl 2 rfl rfl (es:=[.pw (ze3 c),.v (.int .i64 n)]) (outs:=[.pw (ze3 x1.1),.u]) (ids:=[1]) (by exact zG (.c (.box rfl rfl)) (zG (.c .v) (zGn))) (by decide) (.inl (by rfl)) (by rfl) (spec_l1Cur_pick_ok _ _ _ (hx2)) rfl (by rfl) rfl) ?_
 iterate 2 refine AO.pu T ?_
 refine AO.n (AW.t ?_)
 have hR:=zS hH;subst hR
 exact ⟨trivial,rfl,_,[],[1],rfl,zG (.c (.box rfl rfl)) (zG (.c .u) (zGn)),.c (.c .v),by decide⟩

def spec_l1Cur_steps_l3:Nat→List Int→Int→Int→List Step→Int→Option ((List Int) × Int × Int × (List Step))
 | 0,_,_,_,_,_=>none
 | k324+1,v354,v355,v356,v357,v358 =>
  cond (decide (v358 > 0))
   ((spec_l1Cur_pick_p (L1Cur.mk v354 v355 v356) 60000).bind fun x360 =>
   (spec_l1Cur_among_p (L1Cur.mk x360.1.code x360.1.at' x360.1.seed) [5000,6000,6000,7000,x360.2]).bind fun x362 =>
   (spec_l1Cur_one_p (L1Cur.mk x362.1.code x362.1.at' x362.1.seed) 6).bind fun x364 =>
   cond x364.2
    ((spec_l1Cur_pick_p (L1Cur.mk x364.1.code x364.1.at' x364.1.seed) 20).bind fun x366 =>
    (need (fitsB 24 (v357.length+([(Step.mk 2 (w64 (3+x366.2)) 0)]).length))).bind fun u368 =>
    spec_l1Cur_steps_l3 k324 x366.1.code x366.1.at' x366.1.seed (v357++[(Step.mk 2 (w64 (3+x366.2)) 0)]) (w64 (v358 - 1)))
    ((need (fitsB 24 (v357.length+([(Step.mk 4 0 x362.2)]).length))).bind fun u370 =>
    spec_l1Cur_steps_l3 k324 x364.1.code x364.1.at' x364.1.seed (v357++[(Step.mk 4 0 x362.2)]) (w64 (v358 - 1))))
   (some (v354,v355,v356,v357))
def spec_l1Cur_steps_l2 (fuel:Nat):Nat→List Int→Int→Int→List Step→Int→Option ((L1Cur × (List Step)))
 | 0,_,_,_,_,_=>none
 | k35+1,v257,v258,v259,v260,v261 =>
  cond (decide (v261 > 0))
   (((need (fitsB 24 (v260.length+([(Step.mk 3 0 0)]).length))).bind fun u320 =>
   (spec_l1Cur_pick_p (L1Cur.mk v257 v258 v259) 8).bind fun x322 =>
   spec_l1Cur_steps_l3 fuel x322.1.code x322.1.at' x322.1.seed (v260++[(Step.mk 3 0 0)]) x322.2).bind fun (v314,v315,v316,v317) =>
   spec_l1Cur_steps_l2 fuel k35 v314 v315 v316 v317 (w64 (v261 - 1)))
   (cond (decide ((v260.length:Int) > 0))
    ((spec_l1Cur_pick_p (L1Cur.mk v257 v258 v259) (v260.length:Int)).bind fun x372 =>
    (getI v260 x372.2).bind fun x374 =>
    (spec_l1Cur_pick_p (L1Cur.mk x372.1.code x372.1.at' x372.1.seed) 24).bind fun x376 =>
    cond (x376.2 == 0)
     ((spec_l1Cur_among_p (L1Cur.mk x376.1.code x376.1.at' x376.1.seed) ([0,1,4,5]:List Int)).bind fun x378 =>
     some ((L1Cur.mk x378.1.code x378.1.at' x378.1.seed),(v260.set x372.2.toNat (Step.mk x378.2 x374.skater x374.number))))
     (cond (x376.2 == 1)
      ((spec_l1Cur_among_p (L1Cur.mk x376.1.code x376.1.at' x376.1.seed) ([(-1),100000,100001]:List Int)).bind fun x380 =>
      some ((L1Cur.mk x380.1.code x380.1.at' x380.1.seed),(v260.set x372.2.toNat (Step.mk x374.kind x374.skater x380.2))))
      (some ((L1Cur.mk x376.1.code x376.1.at' x376.1.seed),v260))))
    (some ((L1Cur.mk v257 v258 v259),v260)))
def spec_l1Cur_steps_l1 (fuel:Nat):Nat→List Int→Int→Int→List Step→Int→Option ((L1Cur × (List Step)))
 | 0,_,_,_,_,_=>none
 | k3+1,v21,v22,v23,v24,v25 =>
  cond (decide (v25 > 0))
   ((spec_l1Cur_pick_p (L1Cur.mk v21 v22 v23) 3).bind fun x27 =>
   (spec_l1Cur_among_p (L1Cur.mk x27.1.code x27.1.at' x27.1.seed) [0,0,v25]).bind fun x29 =>
   (need (fitsB 24 (v24.length+([(Step.mk 1 (w64 ((w64 (3 * v25))+x27.2)) x29.2)]).length))).bind fun u31 =>
   spec_l1Cur_steps_l1 fuel k3 x29.1.code x29.1.at' x29.1.seed (v24++[(Step.mk 1 (w64 ((w64 (3 * v25))+x27.2)) x29.2)]) (w64 (v25 - 1)))
   ((spec_l1Cur_pick_p (L1Cur.mk v21 v22 v23) 4).bind fun x33 =>
   spec_l1Cur_steps_l2 fuel fuel x33.1.code x33.1.at' x33.1.seed v24 x33.2)
def spec_l1Cur_steps_p (fuel:Nat) (c:L1Cur):Option (L1Cur × (List Step)) :=
 (spec_l1Cur_pick_p c 7).bind fun x1 =>
 spec_l1Cur_steps_l1 fuel fuel x1.1.code x1.1.at' x1.1.seed [] x1.2
theorem spec_l1Cur_steps_ok (fuel:Nat) (c:L1Cur) (r:(L1Cur × (List Step))) (hH:spec_l1Cur_steps_p fuel c=some r):SpecM Tryz.prog 68 [.pw (ze3 c)] [.pw (ze3 r.1)] (.w 3 (r.2.map ze7)):=by
 refine fn_okM T Tryz.func68 rfl (by decide) rfl rfl ?_
 intro L
 show AW _ _ _ (⟨[(0,.p 1 0)],[(1,.box [.s (List.map ze5 c.code),c.at',.v (.int .u64 c.seed)])],88,[(1,L 1)]⟩:St)
 refine AW.q (AW.r (AO.pu T ?_))
 refine AO.n (AW.q (AW.r ?_))
 refine AO.pu T ?_
 refine AO.n ?_
 iterate 2 refine AW.q ?_
 obtain ⟨x1,hx2,hH⟩:=zB hH
 refine AW.r (AO.pu T ?_)
 refine AO.s rfl (zM rfl 2 rfl rfl (es:=[.pw (ze3 c),.v (.int .i64 7)]) (outs:=[.pw (ze3 x1.1),.u]) (ids:=[1]) (by exact zG (.c (.box rfl rfl)) (zG (.c .v) (zGn))) (by decide) (.inl (by rfl)) (by rfl) (spec_l1Cur_pick_ok _ _ _ (hx2)) rfl (by rfl) rfl) ?_
 refine AO.pu T ?_
 refine AO.n (AW.b ?_)
 refine AW.loopS (fun s:Nat × (List Int) × Int × Int × (List Step) × Int=>(⟨[(0,.p 1 0),(3,.R 7),(4,s.2.2.2.2.2)],[(1,.box [.s (List.map ze5 s.2.1),s.2.2.1,.v (.int .u64 s.2.2.2.1)]),(7,.row 3 (List.map ze7 s.2.2.2.2.1))],88,[(1,L 1)]⟩:St)) (fun s=>spec_l1Cur_steps_l1 fuel s.1 s.2.1 s.2.2.1 s.2.2.2.1 s.2.2.2.2.1 s.2.2.2.2.2=some r) (fun s=>s.1) (fuel,x1.1.code,x1.1.at',x1.1.seed,[],x1.2) hH ?_ ?_
 refine Le.trans (Le.void 3 7 3 rfl rfl) ?_
 exact Le.ct 0 0 (hpin:=⟨⟨rfl,rfl⟩,trivial⟩)
 rintro ⟨k3,v21,v22,v23,v24,v25⟩ hH
 replace hH:spec_l1Cur_steps_l1 fuel k3 v21 v22 v23 v24 v25=some r:=hH
 try dsimp only
 rcases k3 with _ | k3
 cases (show none=some _ from hH)
 rw [spec_l1Cur_steps_l1] at hH
 iterate 2 refine AW.q ?_
 refine AW.r ?_
 iterate 2 refine AO.pu T ?_
 refine AO.n (AW.c (b:=decide (v25 > 0)) rfl (fun hc=>?_) (fun hc=>?_))
 replace hH:=condT hc hH
 refine AW.k (AW.q ?_)
 refine AW.b ?_
 obtain ⟨x27,hx28,hH⟩:=zB hH
 obtain ⟨x29,hx30,hH⟩:=zB hH
 obtain ⟨u31,hx32,hH⟩:=zB hH
 refine AW.r ?_
 iterate 2 refine AO.pu T ?_
 refine AO.v rfl rfl (zW rfl rfl rfl rfl) ?_
 refine AO.pu T ?_
 refine AO.s rfl (zM rfl 8 rfl rfl (es:=[.pw (ze3 (L1Cur.mk v21 v22 v23)),.v (.int .i64 3)]) (outs:=[.pw (ze3 x27.1),.u]) (ids:=[1]) (by exact zG (.c (.box rfl rfl)) (zG (.c .v) (zGn))) (by decide) (.inl (by rfl)) (by rfl) (spec_l1Cur_pick_ok _ _ _ (hx28)) rfl (by rfl) rfl) ?_
 refine AO.v rfl rfl (zW rfl rfl rfl rfl) ?_
 iterate 2 refine AO.pu T ?_
 refine AO.s rfl (mk_map_ok T rfl 8 rfl rfl rfl rfl rfl (f:=ze0) (l:=[0,0,v25]) rfl rfl (fun _=>rfl) rfl rfl rfl rfl rfl) ?_
 refine AO.le (Le.fM 8 (g:=ze0) rfl (fun y=>.vs rfl)) ?_
 refine AO.s rfl (zM rfl 9 rfl rfl (es:=[.pw (ze3 (L1Cur.mk x27.1.code x27.1.at' x27.1.seed)),.s ([0,0,v25].map ze0)]) (outs:=[.pw (ze3 x29.1),.u]) (ids:=[1]) (by exact zG (.c (.box rfl rfl)) (zG (.c .s) (zGn))) (by decide) (.inl (by rfl)) (by rfl) (spec_l1Cur_among_ok _ _ _ (hx30)) rfl (by rfl) rfl) ?_
 refine AO.pu T (d:=.g [(1:Int),w64 ((w64 (3 * v25))+x27.2),x29.2]) ?_
 refine AO.s rfl (mk_map_ok T rfl 9 rfl rfl rfl rfl rfl (f:=ze7) (l:=[(Step.mk 1 (w64 ((w64 (3 * v25))+x27.2)) x29.2)]) rfl rfl (fun _=>rfl) rfl rfl rfl rfl rfl) ?_
 refine AO.s rfl (zAr T rfl 10 rfl rfl rfl rfl rfl (by decide) rfl rfl rfl rfl (fun _=>rfl) (needT (hx32)) rfl rfl) ?_
 refine AO.pu T ?_
 refine AO.n (AW.r ?_)
 refine AO.pu T ?_
 refine AO.v rfl rfl (zW rfl rfl rfl rfl) ?_
 refine AO.pu T ?_
 refine AO.n ?_
 refine ⟨(k3,x29.1.code,x29.1.at',x29.1.seed,(v24++[(Step.mk 1 (w64 ((w64 (3 * v25))+x27.2)) x29.2)]),w64 (v25 - 1)),hH,Nat.lt_succ_self _,?_⟩
 exact Le.ct 10 7 (hpin:=⟨⟨rfl,rfl⟩,trivial⟩)
 replace hH:=condF hc hH
 refine AW.exit ?_
 iterate 2 refine AW.q ?_
 obtain ⟨x33,hx34,hH⟩:=zB hH
 refine AW.r (AO.pu T ?_)
 refine AO.s rfl (zM rfl 11 rfl rfl (es:=[.pw (ze3 (L1Cur.mk v21 v22 v23)),.v (.int .i64 4)]) (outs:=[.pw (ze3 x33.1),.u]) (ids:=[1]) (by exact zG (.c (.box rfl rfl)) (zG (.c .v) (zGn))) (by decide) (.inl (by rfl)) (by rfl) (spec_l1Cur_pick_ok _ _ _ (hx34)) rfl (by rfl) rfl) ?_
 refine AO.pu T ?_
 refine AO.n (AW.b ?_)
 refine AW.loopS (fun s:Nat × (List Int) × Int × Int × (List Step) × Int=>(⟨[(0,.p 1 0),(3,.R 7),(5,s.2.2.2.2.2)],[(1,.box [.s (List.map ze5 s.2.1),s.2.2.1,.v (.int .u64 s.2.2.2.1)]),(7,.row 3 (List.map ze7 s.2.2.2.2.1))],88,[(1,L 1)]⟩:St)) (fun s=>spec_l1Cur_steps_l2 fuel s.1 s.2.1 s.2.2.1 s.2.2.2.1 s.2.2.2.2.1 s.2.2.2.2.2=some r) (fun s=>s.1) (fuel,x33.1.code,x33.1.at',x33.1.seed,v24,x33.2) hH ?_ ?_
 exact Le.ct 0 0 (hpin:=⟨⟨rfl,rfl⟩,trivial⟩)
 rintro ⟨k35,v257,v258,v259,v260,v261⟩ hH
 replace hH:spec_l1Cur_steps_l2 fuel k35 v257 v258 v259 v260 v261=some r:=hH
 try dsimp only
 rcases k35 with _ | k35
 cases (show none=some _ from hH)
 rw [spec_l1Cur_steps_l2] at hH
 iterate 2 refine AW.q ?_
 refine AW.r ?_
 iterate 2 refine AO.pu T ?_
 refine AO.n (AW.c (b:=decide (v261 > 0)) rfl (fun hc=>?_) (fun hc=>?_))
 replace hH:=condT hc hH
 refine AW.k ?_
 obtain ⟨o318,hH,hK319⟩:=zB hH
 refine AW.seqJ (fun s:(List Int) × Int × Int × (List Step)=>(⟨[(0,.p 1 0),(3,.R 92),(5,v261)],[(1,.box [.s (List.map ze5 s.1),s.2.1,.v (.int .u64 s.2.2.1)]),(92,.row 3 (List.map ze7 s.2.2.2))],88,[(1,L 1)]⟩:St)) (fun s=>s=o318) ?_ ?_
 refine AW.b (AW.q ?_)
 obtain ⟨u320,hx321,hH⟩:=zB hH
 refine AW.r (AO.pu T ?_)
 refine AO.pu T (d:=.g [(3:Int),(0:Int),(0:Int)]) ?_
 refine AO.s rfl (mk_map_ok T rfl 111 rfl rfl rfl rfl rfl (f:=ze7) (l:=[(Step.mk 3 0 0)]) rfl rfl (fun _=>rfl) rfl rfl rfl rfl rfl) ?_
 refine AO.s rfl (zAr T rfl 112 rfl rfl rfl rfl rfl (by decide) rfl rfl rfl rfl (fun _=>rfl) (needT (hx321)) rfl rfl) ?_
 refine AO.pu T ?_
 refine AO.n (AW.q ?_)
 obtain ⟨x322,hx323,hH⟩:=zB hH
 refine AW.r (AO.pu T ?_)
 refine AO.s rfl (zM rfl 113 rfl rfl (es:=[.pw (ze3 (L1Cur.mk v257 v258 v259)),.v (.int .i64 8)]) (outs:=[.pw (ze3 x322.1),.u]) (ids:=[1]) (by exact zG (.c (.box rfl rfl)) (zG (.c .v) (zGn))) (by decide) (.inl (by rfl)) (by rfl) (spec_l1Cur_pick_ok _ _ _ (hx323)) rfl (by rfl) rfl) ?_
 refine AO.pu T ?_
 refine AO.n (AW.b ?_)
 refine AW.loopS (fun s:Nat × (List Int) × Int × Int × (List Step) × Int=>(⟨[(0,.p 1 0),(3,.R 112),(5,v261),(6,s.2.2.2.2.2)],[(1,.box [.s (List.map ze5 s.2.1),s.2.2.1,.v (.int .u64 s.2.2.2.1)]),(112,.row 3 (List.map ze7 s.2.2.2.2.1))],88,[(1,L 1)]⟩:St)) (fun s=>spec_l1Cur_steps_l3 s.1 s.2.1 s.2.2.1 s.2.2.2.1 s.2.2.2.2.1 s.2.2.2.2.2=some o318) (fun s=>s.1) (fuel,x322.1.code,x322.1.at',x322.1.seed,(v260++[(Step.mk 3 0 0)]),x322.2) hH ?_ ?_
 exact Le.ct 0 0 (hpin:=⟨⟨rfl,rfl⟩,trivial⟩)
 rintro ⟨k324,v354,v355,v356,v357,v358⟩ hH
 replace hH:spec_l1Cur_steps_l3 k324 v354 v355 v356 v357 v358=some o318:=hH
 try dsimp only
 rcases k324 with _ | k324
 cases (show none=some _ from hH)
 rw [spec_l1Cur_steps_l3] at hH
 iterate 2 refine AW.q ?_
 refine AW.r ?_
 iterate 2 refine AO.pu T ?_
 refine AO.n (AW.c (b:=decide (v358 > 0)) rfl (fun hc=>?_) (fun hc=>?_))
 replace hH:=condT hc hH
 refine AW.k (AW.q ?_)
 refine AW.b (AW.q ?_)
 obtain ⟨x360,hx361,hH⟩:=zB hH
 obtain ⟨x362,hx363,hH⟩:=zB hH
 refine AW.r ?_
 iterate 2 refine AO.pu T ?_
 refine AO.s rfl (zM rfl 125 rfl rfl (es:=[.pw (ze3 (L1Cur.mk v354 v355 v356)),.v (.int .i64 60000)]) (outs:=[.pw (ze3 x360.1),.u]) (ids:=[1]) (by exact zG (.c (.box rfl rfl)) (zG (.c .v) (zGn))) (by decide) (.inl (by rfl)) (by rfl) (spec_l1Cur_pick_ok _ _ _ (hx361)) rfl (by rfl) rfl) ?_
 refine AO.s rfl (mk_map_ok T rfl 125 rfl rfl rfl rfl rfl (f:=ze0) (l:=[5000,6000,6000,7000,x360.2]) rfl rfl (fun _=>rfl) rfl rfl rfl rfl rfl) ?_
 refine AO.le (Le.fM 125 (g:=ze0) rfl (fun y=>.vs rfl)) ?_
 refine AO.s rfl (zM rfl 126 rfl rfl (es:=[.pw (ze3 (L1Cur.mk x360.1.code x360.1.at' x360.1.seed)),.s ([5000,6000,6000,7000,x360.2].map ze0)]) (outs:=[.pw (ze3 x362.1),.u]) (ids:=[1]) (by exact zG (.c (.box rfl rfl)) (zG (.c .s) (zGn))) (by decide) (.inl (by rfl)) (by rfl) (spec_l1Cur_among_ok _ _ _ (hx363)) rfl (by rfl) rfl) ?_
 refine AO.pu T (d:=.g [(4:Int),(0:Int),x362.2]) ?_
 refine AO.s rfl (zA T rfl 126 rfl rfl rfl rfl rfl) ?_
 refine AO.se T [(4:Int),(0:Int),x362.2] ?_
 refine AO.n ?_
 iterate 2 refine AW.q ?_
 obtain ⟨x364,hx365,hH⟩:=zB hH
 refine AW.r (AO.pu T ?_)
 refine AO.s rfl (zM rfl 127 rfl rfl (es:=[.pw (ze3 (L1Cur.mk x362.1.code x362.1.at' x362.1.seed)),.v (.int .i64 6)]) (outs:=[.pw (ze3 x364.1),.u]) (ids:=[1]) (by exact zG (.c (.box rfl rfl)) (zG (.c .v) (zGn))) (by decide) (.inl (by rfl)) (by rfl) (spec_l1Cur_one_ok _ _ _ (hx365)) rfl (by rfl) rfl) ?_
 refine AO.n (AW.c (b:=x364.2) rfl (fun hc=>?_) (fun hc=>?_))
 replace hH:=condT hc hH
 obtain ⟨x366,hx367,hH⟩:=zB hH
 refine AW.r (AO.pu T ?_)
 refine AO.s rfl (zM rfl 127 rfl rfl (es:=[.pw (ze3 (L1Cur.mk x364.1.code x364.1.at' x364.1.seed)),.v (.int .i64 20)]) (outs:=[.pw (ze3 x366.1),.u]) (ids:=[1]) (by exact zG (.c (.box rfl rfl)) (zG (.c .v) (zGn))) (by decide) (.inl (by rfl)) (by rfl) (spec_l1Cur_pick_ok _ _ _ (hx367)) rfl (by rfl) rfl) ?_
 refine AO.v rfl rfl (zW rfl rfl rfl rfl) ?_
 refine AO.pu T (d:=.g [(2:Int),w64 (3+x366.2),(0:Int)]) ?_
 refine AO.se T [(2:Int),w64 (3+x366.2),(0:Int)] ?_
 refine AO.n ?_
 obtain ⟨u368,hx369,hH⟩:=zB hH
 refine AW.r (AO.pu T ?_)
 refine AO.pu T (d:=.g [(2:Int),w64 (3+x366.2),(0:Int)]) ?_
 refine AO.s rfl (mk_map_ok T rfl 127 rfl rfl rfl rfl rfl (f:=ze7) (l:=[(Step.mk 2 (w64 (3+x366.2)) 0)]) rfl rfl (fun _=>rfl) rfl rfl rfl rfl rfl) ?_
 refine AO.s rfl (zAr T rfl 128 rfl rfl rfl rfl rfl (by decide) rfl rfl rfl rfl (fun _=>rfl) (needT (hx369)) rfl rfl) ?_
 refine AO.pu T ?_
 refine AO.n (AW.r ?_)
 refine AO.pu T ?_
 refine AO.v rfl rfl (zW rfl rfl rfl rfl) ?_
 refine AO.pu T ?_
 refine AO.n ?_
 refine ⟨(k324,x366.1.code,x366.1.at',x366.1.seed,(v357++[(Step.mk 2 (w64 (3+x366.2)) 0)]),w64 (v358 - 1)),hH,Nat.lt_succ_self _,?_⟩
 exact Le.ct 128 112 (hpin:=⟨⟨rfl,rfl⟩,trivial⟩)
 replace hH:=condF hc hH
 refine AW.k ?_
 obtain ⟨u370,hx371,hH⟩:=zB hH
 refine AW.r (AO.pu T ?_)
 refine AO.pu T (d:=.g [(4:Int),(0:Int),x362.2]) ?_
 refine AO.s rfl (mk_map_ok T rfl 129 rfl rfl rfl rfl rfl (f:=ze7) (l:=[(Step.mk 4 0 x362.2)]) rfl rfl (fun _=>rfl) rfl rfl rfl rfl rfl) ?_
 refine AO.s rfl (zAr T rfl 130 rfl rfl rfl rfl rfl (by decide) rfl rfl rfl rfl (fun _=>rfl) (needT (hx371)) rfl rfl) ?_
 refine AO.pu T ?_
 refine AO.n (AW.r ?_)
 refine AO.pu T ?_
 refine AO.v rfl rfl (zW rfl rfl rfl rfl) ?_
 refine AO.pu T ?_
 refine AO.n ?_
 refine ⟨(k324,x364.1.code,x364.1.at',x364.1.seed,(v357++[(Step.mk 4 0 x362.2)]),w64 (v358 - 1)),hH,Nat.lt_succ_self _,?_⟩
 exact Le.ct 130 112 (hpin:=⟨⟨rfl,rfl⟩,trivial⟩)
 replace hH:=condF hc hH
 refine AW.exit ?_
 refine ⟨_,zS hH,?_⟩
 exact Le.ct 112 92 (hpin:=⟨⟨rfl,rfl⟩,trivial⟩)
 rintro ⟨v314,v315,v316,v317⟩ hs
 subst hs
 replace hH:=hK319
 try dsimp only [flow,flowE] at hH
 try dsimp only
 refine AW.r (AO.pu T ?_)
 refine AO.v rfl rfl (zW rfl rfl rfl rfl) ?_
 refine AO.pu T ?_
 refine AO.n ?_
 refine ⟨(k35,v314,v315,v316,v317,w64 (v261 - 1)),hH,Nat.lt_succ_self _,?_⟩
 exact Le.ct 92 7 (hpin:=⟨⟨rfl,rfl⟩,trivial⟩)
 replace hH:=condF hc hH
 refine AW.exit ?_
 iterate 2 refine AW.q ?_
 refine AW.r (AO.pu T ?_)
 refine AO.v rfl rfl (len_row_ok T rfl rfl rfl rfl) ?_
 refine AO.pu T ?_
 refine AO.n (AW.c (b:=decide ((v260.length:Int) > 0)) rfl (fun hc=>?_) (fun hc=>?_))
 replace hH:=condT hc hH
 refine AW.q ?_
 obtain ⟨x372,hx373,hH⟩:=zB hH
 obtain ⟨x374,hx375,hH⟩:=zB hH
 refine AW.r ?_
 iterate 3 refine AO.pu T ?_
 refine AO.v rfl rfl (len_row_ok T rfl rfl rfl rfl) ?_
 refine AO.s rfl (zM rfl 131 rfl rfl (es:=[.pw (ze3 (L1Cur.mk v257 v258 v259)),.v (.int .i64 (v260.length:Int))]) (outs:=[.pw (ze3 x372.1),.u]) (ids:=[1]) (by exact zG (.c (.box rfl rfl)) (zG (.c .v) (zGn))) (by decide) (.inl (by rfl)) (by rfl) (spec_l1Cur_pick_ok _ _ _ (hx373)) rfl (by rfl) rfl) ?_
 refine AO.v rfl rfl (zXr T rfl rfl rfl rfl rfl rfl (hx375)) ?_
 refine AO.pu T ?_
 refine AO.n (AW.q ?_)
 obtain ⟨x376,hx377,hH⟩:=zB hH
 refine AW.r (AO.pu T ?_)
 refine AO.s rfl (zM rfl 131 rfl rfl (es:=[.pw (ze3 (L1Cur.mk x372.1.code x372.1.at' x372.1.seed)),.v (.int .i64 24)]) (outs:=[.pw (ze3 x376.1),.u]) (ids:=[1]) (by exact zG (.c (.box rfl rfl)) (zG (.c .v) (zGn))) (by decide) (.inl (by rfl)) (by rfl) (spec_l1Cur_pick_ok _ _ _ (hx377)) rfl (by rfl) rfl) ?_
 refine AO.n (AW.b ?_)
 refine AW.q (AW.r ?_)
 iterate 2 refine AO.pu T ?_
 refine AO.n (AW.c (b:=(x376.2 == 0)) rfl (fun hc=>?_) (fun hc=>?_))
 replace hH:=condT hc hH
 obtain ⟨x378,hx379,hH⟩:=zB hH
 refine AW.r ?_
 iterate 2 refine AO.pu T ?_
 refine AO.s rfl (mk_map_ok T rfl 131 rfl rfl rfl rfl rfl (f:=ze0) (l:=([0,1,4,5]:List Int)) rfl rfl (fun _=>rfl) rfl rfl rfl rfl rfl) ?_
 refine AO.le (Le.fM 131 (g:=ze0) rfl (fun y=>.vs rfl)) ?_
 refine AO.s rfl (zM rfl 132 rfl rfl (es:=[.pw (ze3 (L1Cur.mk x376.1.code x376.1.at' x376.1.seed)),.s (([0,1,4,5]:List Int).map ze0)]) (outs:=[.pw (ze3 x378.1),.u]) (ids:=[1]) (by exact zG (.c (.box rfl rfl)) (zG (.c .s) (zGn))) (by decide) (.inl (by rfl)) (by rfl) (spec_l1Cur_among_ok _ _ _ (hx379)) rfl (by rfl) rfl) ?_
 iterate 2 refine AO.pu T ?_
 refine AO.s rfl (zSr T rfl rfl rfl rfl rfl (zgG (hx375)) rfl rfl rfl rfl (u':=(Step.mk x378.2 x374.skater x374.number)) rfl rfl) ?_
 refine AO.n (AW.q (AW.r ?_))
 iterate 2 refine AO.pu T ?_
 refine AO.n (AW.le (Le.ct 0 0 (σ':=(⟨[(2,.R 7)],[(1,.box [.s (List.map ze5 x378.1.code),x378.1.at',.v (.int .u64 x378.1.seed)]),(7,.row 3 (List.map ze7 (v260.set x372.2.toNat (Step.mk x378.2 x374.skater x374.number))))],88,[(1,L 1)]⟩:St)) (hpin:=⟨⟨rfl,rfl⟩,trivial⟩)) ?_)
 refine AW.t ?_
 have hR:=zS hH;subst hR
 exact ⟨trivial,rfl,_,[7],[1],rfl,zG (.c (.box rfl rfl)) (zGn),.c (.c (.rowR rfl)),by decide⟩
 replace hH:=condF hc hH
 refine AW.q (AW.r ?_)
 iterate 2 refine AO.pu T ?_
 refine AO.n (AW.c (b:=(x376.2 == 1)) rfl (fun hc=>?_) (fun hc=>?_))
 replace hH:=condT hc hH
 obtain ⟨x380,hx381,hH⟩:=zB hH
 refine AW.r ?_
 iterate 2 refine AO.pu T ?_
 refine AO.s rfl (mk_map_ok T rfl 132 rfl rfl rfl rfl rfl (f:=ze0) (l:=([(-1),100000,100001]:List Int)) rfl rfl (fun _=>rfl) rfl rfl rfl rfl rfl) ?_
 refine AO.le (Le.fM 132 (g:=ze0) rfl (fun y=>.vs rfl)) ?_
 refine AO.s rfl (zM rfl 133 rfl rfl (es:=[.pw (ze3 (L1Cur.mk x376.1.code x376.1.at' x376.1.seed)),.s (([(-1),100000,100001]:List Int).map ze0)]) (outs:=[.pw (ze3 x380.1),.u]) (ids:=[1]) (by exact zG (.c (.box rfl rfl)) (zG (.c .s) (zGn))) (by decide) (.inl (by rfl)) (by rfl) (spec_l1Cur_among_ok _ _ _ (hx381)) rfl (by rfl) rfl) ?_
 iterate 2 refine AO.pu T ?_
 refine AO.s rfl (zSr T rfl rfl rfl rfl rfl (zgG (hx375)) rfl rfl rfl rfl (u':=(Step.mk x374.kind x374.skater x380.2)) rfl rfl) ?_
 refine AO.n (AW.le (Le.ct 0 0 (σ':=(⟨[(3,.R 7)],[(1,.box [.s (List.map ze5 x380.1.code),x380.1.at',.v (.int .u64 x380.1.seed)]),(7,.row 3 (List.map ze7 (v260.set x372.2.toNat (Step.mk x374.kind x374.skater x380.2))))],88,[(1,L 1)]⟩:St)) (hpin:=⟨⟨rfl,rfl⟩,trivial⟩)) ?_)
 refine AW.q (AW.r ?_)
 iterate 2 refine AO.pu T ?_
 refine AO.n (AW.t ?_)
 have hR:=zS hH;subst hR
 exact ⟨trivial,rfl,_,[7],[1],rfl,zG (.c (.box rfl rfl)) (zGn),.c (.c (.rowR rfl)),by decide⟩
 replace hH:=condF hc hH
 refine AW.k (AW.q (AW.r ?_))
 iterate 2 refine AO.pu T ?_
 refine AO.n (AW.t ?_)
 have hR:=zS hH;subst hR
 exact ⟨trivial,rfl,_,[7],[1],rfl,zG (.c (.box rfl rfl)) (zGn),.c (.c (.rowR rfl)),by decide⟩
 replace hH:=condF hc hH
 refine AW.k (AW.q (AW.r ?_))
 iterate 2 refine AO.pu T ?_
 refine AO.n (AW.t ?_)
 have hR:=zS hH;subst hR
 exact ⟨trivial,rfl,_,[7],[1],rfl,zG (.c (.box rfl rfl)) (zGn),.c (.c (.rowR rfl)),by decide⟩

def spec_l1Own_p (l:List Int):Option (List Int) :=
 (need (fitsB 8 l.length)).bind fun u1 =>
 some l
theorem spec_l1Own_ok (l:List Int) (r:(List Int)) (hH:spec_l1Own_p l=some r):SpecR Tryz.prog 107 [.s (List.map ze0 l)] (.w 1 (r.map ze0)):=by
 refine zFn T Tryz.func107 rfl (by decide) rfl ?_
 refine AW.q (AW.r (AO.pu T ?_))
 refine AO.n (AW.q ?_)
 obtain ⟨u1,hx2,hH⟩:=zB hH
 refine AW.r (AO.s rfl (mk0_ok T rfl rfl rfl rfl) ?_)
 refine AO.pu T ?_
 refine AO.s rfl (app_ws_map T rfl 1 rfl rfl rfl rfl rfl (by decide) (by decide) rfl rfl (fun _=>rfl) (needT (hx2)) rfl rfl) ?_
 refine AO.pu T ?_
 refine AO.n (AW.t ?_)
 have hR:=zS hH;subst hR
 exact retQ.i [1] rfl (.c (.c (.rowR rfl)))

def spec_evOwn_l1 (e:Event) (x3:(List Int)) (x5:(List Int)):List Result→Nat→List Result→Option Event
 | [],k7,v22 =>
  some (Event.mk e.segments e.size e.key e.entrants x3 e.segment x5 v22)
 | y8::ys9,k7,v22 =>
  (spec_l1Own_p y8.scores).bind fun x24 =>
  (need (fitsB 32 (v22.length+([(Result.mk y8.skater x24)]).length))).bind fun u26 =>
  spec_evOwn_l1 e x3 x5 ys9 (k7+1) (v22++[(Result.mk y8.skater x24)])
def spec_evOwn_p (e:Event):Option Event :=
 (need (fitsB 16 e.entrants.length)).bind fun u1 =>
 (spec_l1Own_p e.gone).bind fun x3 =>
 (spec_l1Own_p e.order).bind fun x5 =>
 spec_evOwn_l1 e x3 x5 e.results 0 []
theorem spec_evOwn_ok (e:Event) (r:Event) (hH:spec_evOwn_p e=some r):SpecR Tryz.prog 70 [.g (ze4 e)] (.g (ze10 r)):=by
 refine zFn T Tryz.func70 rfl (by decide) rfl ?_
 refine AW.q (AW.r (AO.s rfl (zBx T rfl 1 rfl rfl rfl rfl) ?_))
 refine AO.s rfl (zA T rfl 2 rfl rfl rfl rfl rfl) ?_
 refine AO.n (AW.q ?_)
 obtain ⟨u1,hx2,hH⟩:=zB hH
 obtain ⟨x3,hx4,hH⟩:=zB hH
 obtain ⟨x5,hx6,hH⟩:=zB hH
 refine AW.drawn 20 3 [] mix (by kernel_rfl) rfl ?_
 iterate 6 refine AD.p T rfl rfl rfl ?_
 refine AD.v (FStep.mk0 T rfl rfl rfl rfl rfl) ?_
 iterate 2 refine AD.p T rfl rfl rfl ?_
 refine AD.q (FStep.app_ws T rfl rfl rfl rfl rfl rfl rfl (by decide) (by decide) rfl rfl (fun _=>rfl) (needT (hx2)) rfl) (by simp [namesIn]) (Nat.le_succ _) rfl ?_
 iterate 2 refine AD.p T rfl rfl rfl ?_
 refine AD.q (FStep.call rfl rfl rfl rfl rfl (spec_l1Own_ok _ _ (hx4)) rfl rfl) (impT_names _ _) (impT_le _ _) rfl ?_
 iterate 4 refine AD.p T rfl rfl rfl ?_
 refine AD.q (FStep.call rfl rfl rfl rfl rfl (spec_l1Own_ok _ _ (hx6)) rfl rfl) (impT_names _ _) (impT_le _ _) rfl ?_
 refine AD.pured T (d:=.g [e.segments,e.size,e.key,.R 3,.R 4,e.segment,.R 5,.w 0 []]) rfl rfl rfl rfl ?_
 refine AD.q (FStep.alloc T rfl rfl rfl rfl rfl rfl) (by simp [namesIn]) (Nat.le_succ _) rfl ?_
 refine AD.nil (AO.se T [e.segments,e.size,e.key,.R 3,.R 4,e.segment,.R 5,.w 0 []] ?_)
 refine AO.n ?_
 iterate 2 refine AW.q ?_
 refine AW.r ?_
 iterate 2 refine AO.pu T ?_
 refine AO.v rfl rfl (zL T rfl rfl rfl) ?_
 refine AO.pu T ?_
 refine AO.n (AW.le (Le.ct 0 0 (σ':=(⟨[(2,.p 2 0),(3,.p 6 0),(26,.s (List.map ze2 e.results)),(27,(e.results.length:Int)),(28,(0:Int))],[(2,.box [(0:Int),(0:Int),(0:Int),.w 0 [],.w 0 [],(0:Int),.w 0 [],.w 0 []]),(3,.row 2 (List.map ze1 e.entrants)),(4,.row 1 (List.map ze0 x3)),(5,.row 1 (List.map ze0 x5)),(6,.box [e.segments,e.size,e.key,.R 3,.R 4,e.segment,.R 5,.w 0 []])],45,[]⟩:St))) ?_)
 refine AW.b (AW.loopS (fun s:Nat × (List Result)=>(⟨[(2,.p 2 0),(3,.p 6 0),(26,.s (List.map ze2 e.results)),(27,(e.results.length:Int)),(28,(s.1:Int))],[(2,.box [(0:Int),(0:Int),(0:Int),.w 0 [],.w 0 [],(0:Int),.w 0 [],.w 0 []]),(3,.row 2 (List.map ze1 e.entrants)),(4,.row 1 (List.map ze0 x3)),(5,.row 1 (List.map ze0 x5)),(6,.box [e.segments,e.size,e.key,.R 3,.R 4,e.segment,.R 5,.R 14]),(14,.row 2 (List.map ze6 s.2))],45,[]⟩:St)) (fun s=>s.1 ≤ e.results.length∧spec_evOwn_l1 e x3 x5 (e.results.drop s.1) s.1 s.2=some r) (fun s=>e.results.length - s.1) (0,[]) ⟨Nat.zero_le _,hH⟩ ?_ ?_)
 refine Le.trans (Le.voidBox 6 7 14 2 rfl rfl rfl rfl) ?_
 exact Le.ct 0 0
 rintro ⟨k7,v22⟩ ⟨hk,hH⟩
 replace hH:spec_evOwn_l1 e x3 x5 (e.results.drop k7) k7 v22=some r:=hH
 try dsimp only
 refine AW.boundM (t:=26) (l:=e.results) rfl (fun hb11=>?_)
 rcases hd10:e.results.drop k7 with _ | ⟨y8,ys9⟩
 rw [hd10,spec_evOwn_l1] at hH
 have hlt12:=drop_ge hd10
 refine AW.q (AW.r (AO.pu T ?_))
 refine AO.n (AW.q (AW.condF' (b:=decide ((k7:Int) < (e.results.length:Int))) rfl (rngF hlt12) ?_))
 refine AW.exit (AW.q (AW.r ?_))
 refine AO.pu T (d:=.g [e.segments,e.size,e.key,.R 3,.R 4,e.segment,.R 5,.R 14]) ?_
 refine AO.se T [e.segments,e.size,e.key,.R 3,.R 4,e.segment,.R 5,.R 14] ?_
 refine AO.n (AW.t ?_)
 have hR:=zS hH;subst hR
 exact retQ.i [3,4,5,14] rfl (.c (.g (zC .v (zC .v (zC .v (zC (.rowR rfl) (zC (.rowR rfl) (zC .v (zC (.rowR rfl) (zC (.rowR rfl) (zCn)))))))))))
 rw [hd10,spec_evOwn_l1] at hH
 have hlt12:=drop_lt hd10
 refine AW.q (AW.r (AO.pu T ?_))
 refine AO.n (AW.q (AW.condT' (b:=decide ((k7:Int) < (e.results.length:Int))) rfl (rngT hlt12) ?_))
 refine AW.k (AW.q ?_)
 refine AW.b (AW.q (AW.r ?_))
 refine AO.v rfl rfl (zX T rfl rfl rfl rfl rfl (zgD hd10) rfl) ?_
 refine AO.pu T (d:=.g [y8.skater,.s (List.map ze0 y8.scores)]) ?_
 refine AO.s rfl (zA T rfl 15 rfl rfl rfl rfl rfl) ?_
 refine AO.se T [y8.skater,.s (List.map ze0 y8.scores)] ?_
 refine AO.n ?_
 obtain ⟨x24,hx25,hH⟩:=zB hH
 obtain ⟨u26,hx27,hH⟩:=zB hH
 refine AW.drawn 9 16 [] mix (by kernel_rfl) rfl ?_
 iterate 6 refine AD.p T rfl rfl rfl ?_
 refine AD.q (FStep.call rfl rfl rfl rfl rfl (spec_l1Own_ok _ _ (hx25)) rfl rfl) (impT_names _ _) (impT_le _ _) rfl ?_
 refine AD.pured T (d:=.g [y8.skater,.R 16]) rfl rfl rfl rfl ?_
 refine AD.k rfl rfl (FStep.mk_o T rfl rfl rfl rfl rfl rfl rfl rfl (f:=ze6) (l:=[(Result.mk y8.skater x24)]) (ids:=[16]) rfl rfl (fun _=>rfl) (by exact zC .v (zC (.rowR rfl) (zCn))) (by decide) rfl rfl rfl rfl) rfl rfl rfl ?_
 refine AD.nil (AO.s rfl (app_rr_map T rfl 18 rfl rfl rfl rfl rfl (by decide) rfl rfl rfl rfl rfl (needT (hx27)) rfl rfl) ?_)
 refine AO.pu T ?_
 refine AO.se T [e.segments,e.size,e.key,.R 3,.R 4,e.segment,.R 5,.R 18] ?_
 refine AO.n (AW.r ?_)
 refine AO.v rfl rfl (zR rfl rfl rfl rfl (zK hlt12 hb11)) ?_
 refine AO.pu T ?_
 refine AO.n ?_
 refine ⟨(k7+1,(v22++[(Result.mk y8.skater x24)])),⟨Nat.succ_le_of_lt hlt12,(by rw [zds hd10];exact hH)⟩,(by have:=hlt12;dsimp only;omega),?_⟩
 exact Le.ct 18 14

def spec_l1In_p (n:Int) (lo:Int) (hi:Int):Option Bool :=
 some (decide (n ≥ lo) && decide (n ≤ hi))
theorem spec_l1In_ok (n:Int) (lo:Int) (hi:Int) (r:Bool) (hH:spec_l1In_p n lo hi=some r):SpecR Tryz.prog 119 [n,lo,hi] (.v (.bool r)):=by
 refine zFn T Tryz.func119 rfl (by decide) rfl ?_
 refine AW.q (AW.r (AO.pu T ?_))
 refine AO.n (AW.q (AW.r ?_))
 iterate 4 refine AO.pu T ?_
 iterate 2 refine AO.g T [] rfl trivial rfl rfl ?_
 refine AO.g T [11,12] rfl ⟨fun h=>h,fun h=>h,trivial⟩ rfl rfl ?_
 refine AO.v rfl rfl (zN rfl rfl rfl rfl) ?_
 refine AO.pu T ?_
 refine AO.n (AW.t ?_)
 have hR:=zS hH;subst hR
 exact retQ.i [] rfl (.c (.c .v))

def spec_l1Has_l1 (n:Int):List Int→Nat→Option Bool
 | [],k1 =>
  some false
 | y2::ys3,k1 =>
  cond (y2 == n)
   (some true)
   (spec_l1Has_l1 n ys3 (k1+1))
def spec_l1Has_p (l:List Int) (n:Int):Option Bool :=
 spec_l1Has_l1 n l 0
theorem spec_l1Has_ok (l:List Int) (n:Int) (r:Bool) (hH:spec_l1Has_p l n=some r):SpecR Tryz.prog 86 [.s (List.map ze0 l),n] (.v (.bool r)):=by
 refine zFn T Tryz.func86 rfl (by decide) rfl ?_
 refine AW.q (AW.r (AO.pu T ?_))
 refine AO.n ?_
 iterate 2 refine AW.q ?_
 refine AW.r (AO.pu T ?_)
 refine AO.v rfl rfl (zL T rfl rfl rfl) ?_
 refine AO.pu T ?_
 refine AO.n (AW.b ?_)
 refine AW.loopS (fun s:Nat=>(⟨[(1,n),(7,.s (List.map ze0 l)),(8,(l.length:Int)),(9,(s:Int))],[],17,[]⟩:St)) (fun s=>s ≤ l.length∧spec_l1Has_l1 n (l.drop s) s=some r) (fun s=>l.length - s) 0 ⟨Nat.zero_le _,hH⟩ ?_ ?_
 exact Le.ct 0 0
 rintro k1 ⟨hk,hH⟩
 replace hH:spec_l1Has_l1 n (l.drop k1) k1=some r:=hH
 try dsimp only
 refine AW.boundM (t:=7) (l:=l) rfl (fun hb5=>?_)
 rcases hd4:l.drop k1 with _ | ⟨y2,ys3⟩
 rw [hd4,spec_l1Has_l1] at hH
 have hlt6:=drop_ge hd4
 refine AW.q (AW.r (AO.pu T ?_))
 refine AO.n (AW.q (AW.condF' (b:=decide ((k1:Int) < (l.length:Int))) rfl (rngF hlt6) ?_))
 refine AW.exit (AW.q (AW.r ?_))
 refine AO.pu T ?_
 refine AO.n (AW.t ?_)
 have hR:=zS hH;subst hR
 exact retQ.i [] rfl (.c (.c .v))
 rw [hd4,spec_l1Has_l1] at hH
 have hlt6:=drop_lt hd4
 refine AW.q (AW.r (AO.pu T ?_))
 refine AO.n (AW.q (AW.condT' (b:=decide ((k1:Int) < (l.length:Int))) rfl (rngT hlt6) ?_))
 refine AW.k (AW.q ?_)
 refine AW.b (AW.q (AW.r ?_))
 refine AO.v rfl rfl (zX T rfl rfl rfl rfl rfl (zgD hd4) rfl) ?_
 iterate 2 refine AO.pu T ?_
 refine AO.n (AW.q (AW.r ?_))
 iterate 3 refine AO.pu T ?_
 refine AO.n (AW.c (b:=(y2 == n)) rfl (fun hc=>?_) (fun hc=>?_))
 replace hH:=condT hc hH
 refine AW.q (AW.r (AO.pu T ?_))
 refine AO.n (AW.t ?_)
 have hR:=zS hH;subst hR
 exact retQ.i [] rfl (.c (.c .v))
 replace hH:=condF hc hH
 refine AW.k (AW.r ?_)
 refine AO.v rfl rfl (zR rfl rfl rfl rfl (zK hlt6 hb5)) ?_
 refine AO.pu T ?_
 refine AO.n ?_
 refine ⟨k1+1,⟨Nat.succ_le_of_lt hlt6,(by rw [zds hd4];exact hH)⟩,(by have:=hlt6;dsimp only;omega),?_⟩
 exact Le.ct 0 0

def spec_soEntrants_l1 (l:List Entrant):List Entrant→Nat→List Int→List Int→Option Bool
 | [],k1,v33,v34 =>
  some (decide ((l.length:Int) ≤ 40))
 | y2::ys3,k1,v33,v34 =>
  (spec_l1In_p y2.skater 1 999).bind fun x36 =>
  (opt (!(!x36)) default (spec_l1In_p y2.rank 0 999)).bind fun x38 =>
  (opt (!((!x36) || (!x38))) default (spec_l1Has_p v33 y2.skater)).bind fun x40 =>
  (opt ((!(((!x36) || (!x38)) || x40)) && decide (y2.rank > 0)) default (spec_l1Has_p v34 y2.rank)).bind fun x42 =>
  cond ((((!x36) || (!x38)) || x40) || (decide (y2.rank > 0) && x42))
   (some false)
   ((need (fitsB 8 (v33.length+([y2.skater]).length))).bind fun u44 =>
   (need (fitsB 8 (v34.length+([y2.rank]).length))).bind fun u46 =>
   spec_soEntrants_l1 l ys3 (k1+1) (v33++[y2.skater]) (v34++[y2.rank]))
def spec_soEntrants_p (l:List Entrant):Option Bool :=
 spec_soEntrants_l1 l l 0 [] []
theorem spec_soEntrants_ok (l:List Entrant) (r:Bool) (hH:spec_soEntrants_p l=some r):SpecR Tryz.prog 104 [.s (List.map ze1 l)] (.v (.bool r)):=by
 refine zFn T Tryz.func104 rfl (by decide) rfl ?_
 refine AW.q (AW.r (AO.pu T ?_))
 refine AO.n (AW.q (AW.r ?_))
 iterate 2 refine AO.pu T ?_
 refine AO.n ?_
 iterate 2 refine AW.q ?_
 refine AW.r (AO.pu T ?_)
 refine AO.v rfl rfl (zL T rfl rfl rfl) ?_
 refine AO.pu T ?_
 refine AO.n (AW.b ?_)
 refine AW.loopS (fun s:Nat × (List Int) × (List Int)=>(⟨[(0,.s (List.map ze1 l)),(3,.R 8),(4,.R 10),(7,.s (List.map ze1 l)),(8,(l.length:Int)),(9,(s.1:Int))],[(8,.row 1 (List.map ze0 s.2.1)),(10,.row 1 (List.map ze0 s.2.2))],54,[]⟩:St)) (fun s=>s.1 ≤ l.length∧spec_soEntrants_l1 l (l.drop s.1) s.1 s.2.1 s.2.2=some r) (fun s=>l.length - s.1) (0,[],[]) ⟨Nat.zero_le _,hH⟩ ?_ ?_
 refine Le.trans (Le.void 3 8 1 rfl rfl) ?_
 refine Le.trans (Le.void 4 10 1 rfl rfl) ?_
 exact Le.ct 0 0
 rintro ⟨k1,v33,v34⟩ ⟨hk,hH⟩
 replace hH:spec_soEntrants_l1 l (l.drop k1) k1 v33 v34=some r:=hH
 try dsimp only
 refine AW.boundM (t:=0) (l:=l) rfl (fun hb5=>?_)
 rcases hd4:l.drop k1 with _ | ⟨y2,ys3⟩
 rw [hd4,spec_soEntrants_l1] at hH
 have hlt6:=drop_ge hd4
 refine AW.q (AW.r (AO.pu T ?_))
 refine AO.n (AW.q (AW.condF' (b:=decide ((k1:Int) < (l.length:Int))) rfl (rngF hlt6) ?_))
 refine AW.exit (AW.q (AW.r ?_))
 refine AO.pu T ?_
 refine AO.v rfl rfl (zL T rfl rfl rfl) ?_
 iterate 2 refine AO.pu T ?_
 refine AO.n (AW.t ?_)
 have hR:=zS hH;subst hR
 exact retQ.i [] rfl (.c (.c .v))
 rw [hd4,spec_soEntrants_l1] at hH
 have hlt6:=drop_lt hd4
 refine AW.q (AW.r (AO.pu T ?_))
 refine AO.n (AW.q (AW.condT' (b:=decide ((k1:Int) < (l.length:Int))) rfl (rngT hlt6) ?_))
 refine AW.k (AW.q ?_)
 refine AW.b (AW.q (AW.r ?_))
 refine AO.v rfl rfl (zX T rfl rfl rfl rfl rfl (zgD hd4) rfl) ?_
 refine AO.pu T (d:=.g [y2.skater,y2.rank]) ?_
 refine AO.s rfl (zA T rfl 11 rfl rfl rfl rfl rfl) ?_
 refine AO.se T [y2.skater,y2.rank] ?_
 refine AO.n ?_
 iterate 2 refine AW.q ?_
 obtain ⟨x36,hx37,hH⟩:=zB hH
 obtain ⟨x38,hx39,hH⟩:=zB hH
 obtain ⟨x40,hx41,hH⟩:=zB hH
 obtain ⟨x42,hx43,hH⟩:=zB hH
 refine AW.r ?_
 iterate 2 refine AO.pu T ?_
 refine AO.v rfl rfl (zV rfl rfl rfl rfl (spec_l1In_ok _ _ _ _ (hx37)) rfl) ?_
 iterate 2 refine AO.pu T ?_
 refine AO.g T [] rfl trivial rfl rfl ?_
 refine AO.g T [18] rfl ⟨fun h=>h,trivial⟩ rfl rfl ?_
 refine AO.d [19] rfl ⟨fun h=>h,trivial⟩ (fun hg=>zV rfl rfl rfl rfl (spec_l1In_ok _ _ _ _ (optT hx39 hg)) rfl) rfl ?_
 refine AO.g T [20] rfl ⟨fun h=>h,trivial⟩ rfl rfl ?_
 refine AO.v rfl rfl (zO rfl rfl rfl rfl) ?_
 refine AO.pu T ?_
 iterate 2 refine AO.g T [] rfl trivial rfl rfl ?_
 refine AO.g T [25] rfl ⟨fun h=>h,trivial⟩ rfl rfl ?_
 refine AO.d [24,26] rfl ⟨fun h=>h,fun h=>h,trivial⟩ (fun hg=>zLV rfl rfl rfl (es:=[.s (List.map ze0 v33),y2.skater]) ⟨(.rowR rfl (.map fun y=>.vs rfl)),.free rfl,trivial⟩ (spec_l1Has_ok _ _ _ (optT hx41 hg)) (zfree_v _) rfl) rfl ?_
 refine AO.v rfl rfl (zO rfl rfl rfl rfl) ?_
 refine AO.pu T ?_
 refine AO.g T [] rfl trivial rfl rfl ?_
 refine AO.g T [30] rfl ⟨fun h=>h,trivial⟩ rfl rfl ?_
 refine AO.g T [31] rfl ⟨fun h=>h,trivial⟩ rfl rfl ?_
 refine AO.g T [32] rfl ⟨fun h=>h,trivial⟩ rfl rfl ?_
 iterate 2 refine AO.g T [] rfl trivial rfl rfl ?_
 refine AO.g T [35] rfl ⟨fun h=>h,trivial⟩ rfl rfl ?_
 refine AO.d [34,36] rfl ⟨fun h=>h,fun h=>h,trivial⟩ (fun hg=>zLV rfl rfl rfl (es:=[.s (List.map ze0 v34),y2.rank]) ⟨(.rowR rfl (.map fun y=>.vs rfl)),.free rfl,trivial⟩ (spec_l1Has_ok _ _ _ (optT hx43 hg)) (zfree_v _) rfl) rfl ?_
 refine AO.d [33] rfl ⟨fun h=>h,trivial⟩ (fun hg=>zN rfl rfl rfl (by rw [hg];exact Bool.true_and _)) rfl ?_
 refine AO.v rfl rfl (zO rfl rfl rfl rfl) ?_
 refine AO.n (AW.le (Le.ct 0 0 (σ':=(⟨[(0,.s (List.map ze1 l)),(3,.R 8),(4,.R 10),(6,.p 11 0),(7,.s (List.map ze1 l)),(8,(l.length:Int)),(9,(k1:Int)),(39,.v (.bool ((((!x36) || (!x38)) || x40) || (decide (y2.rank > 0) && x42))))],[(8,.row 1 (List.map ze0 v33)),(10,.row 1 (List.map ze0 v34)),(11,.box [y2.skater,y2.rank])],54,[]⟩:St))) ?_)
 refine AW.c (b:=((((!x36) || (!x38)) || x40) || (decide (y2.rank > 0) && x42))) rfl (fun hc=>?_) (fun hc=>?_)
 replace hH:=condT hc hH
 refine AW.q (AW.r (AO.pu T ?_))
 refine AO.n (AW.t ?_)
 have hR:=zS hH;subst hR
 exact retQ.i [] rfl (.c (.c .v))
 replace hH:=condF hc hH
 refine AW.k (AW.q ?_)
 obtain ⟨u44,hx45,hH⟩:=zB hH
 refine AW.r ?_
 iterate 3 refine AO.pu T ?_
 refine AO.s rfl (mk_map_ok T rfl 12 rfl rfl rfl rfl rfl (f:=ze0) (l:=[y2.skater]) rfl rfl (fun _=>rfl) rfl rfl rfl rfl rfl) ?_
 refine AO.s rfl (zAr T rfl 13 rfl rfl rfl rfl rfl (by decide) rfl rfl rfl rfl (fun _=>rfl) (needT (hx45)) rfl rfl) ?_
 refine AO.pu T ?_
 refine AO.n ?_
 obtain ⟨u46,hx47,hH⟩:=zB hH
 refine AW.r ?_
 iterate 3 refine AO.pu T ?_
 refine AO.s rfl (mk_map_ok T rfl 14 rfl rfl rfl rfl rfl (f:=ze0) (l:=[y2.rank]) rfl rfl (fun _=>rfl) rfl rfl rfl rfl rfl) ?_
 refine AO.s rfl (zAr T rfl 15 rfl rfl rfl rfl rfl (by decide) rfl rfl rfl rfl (fun _=>rfl) (needT (hx47)) rfl rfl) ?_
 refine AO.pu T ?_
 refine AO.n (AW.r ?_)
 refine AO.v rfl rfl (zR rfl rfl rfl rfl (zK hlt6 hb5)) ?_
 refine AO.pu T ?_
 refine AO.n ?_
 refine ⟨(k1+1,(v33++[y2.skater]),(v34++[y2.rank])),⟨Nat.succ_le_of_lt hlt6,(by rw [zds hd4];exact hH)⟩,(by have:=hlt6;dsimp only;omega),?_⟩
 refine Le.trans (Le.ct 13 8 (σ':=(⟨[(0,.s (List.map ze1 l)),(3,.R 8),(4,.R 15),(7,.s (List.map ze1 l)),(8,(l.length:Int)),(9,((k1+1:Nat):Int))],[(8,.row 1 (List.map ze0 (v33++[y2.skater]))),(15,.row 1 (List.map ze0 (v34++[y2.rank])))],54,[]⟩:St))) ?_
 exact Le.ct 15 10

def spec_evEnter_l1 (e:Event) (x:Entrant) (x1:Event):Nat→List Int→Int→Option ((Event × Bool))
 | 0,_,_=>none
 | k7+1,v14,v15 =>
  cond (decide (v15 < e.segments))
   ((need (fitsB 8 (v14.length+(([(-1)]:List Int)).length))).bind fun u17 =>
   spec_evEnter_l1 e x x1 k7 (v14++([(-1)]:List Int)) (w64 (v15+1)))
   ((need (fitsB 32 (x1.results.length+([(Result.mk x.skater v14)]).length))).bind fun u19 =>
   some ((Event.mk x1.segments x1.size x1.key (x1.entrants++[x]) x1.gone x1.segment x1.order (x1.results++[(Result.mk x.skater v14)])),true))
def spec_evEnter_p (fuel:Nat) (e:Event) (x:Entrant):Option (Event × Bool) :=
 (spec_evOwn_p e).bind fun x1 =>
 (need (fitsB 16 (x1.entrants.length+([x]).length))).bind fun u3 =>
 (opt (!(decide (e.segment > 0) || decide ((e.order.length:Int) > 0))) default (spec_soEntrants_p (x1.entrants++[x]))).bind fun x5 =>
 cond ((decide (e.segment > 0) || decide ((e.order.length:Int) > 0)) || (!x5))
  (some ((Event.mk 0 0 0 [] [] 0 [] []),false))
  (spec_evEnter_l1 e x x1 fuel [] 0)
theorem spec_evEnter_ok (fuel:Nat) (e:Event) (x:Entrant) (r:(Event × Bool)) (hH:spec_evEnter_p fuel e x=some r):SpecR Tryz.prog 63 [.g (ze4 e),.g (ze1 x)] (.t [.g (ze10 r.1),.v (.bool r.2)]):=by
 refine zFn T Tryz.func63 rfl (by decide) rfl ?_
 refine AW.q (AW.r (AO.s rfl (zBx T rfl 1 rfl rfl rfl rfl) ?_))
 refine AO.s rfl (zBx T rfl 2 rfl rfl rfl rfl) ?_
 refine AO.s rfl (zA T rfl 3 rfl rfl rfl rfl rfl) ?_
 refine AO.pu T ?_
 refine AO.n (AW.q ?_)
 obtain ⟨x1,hx2,hH⟩:=zB hH
 refine AW.r (AO.pu T (d:=.g [e.segments,e.size,e.key,.s (List.map ze1 e.entrants),.s (List.map ze0 e.gone),e.segment,.s (List.map ze0 e.order),.s (List.map ze2 e.results)]) ?_)
 refine AO.s rfl (call_ok rfl 4 rfl rfl rfl (spec_evOwn_ok _ _ (hx2)) rfl rfl rfl) ?_
 refine AO.s rfl (zA T rfl 8 rfl rfl rfl rfl rfl) ?_
 refine AO.se T [x1.segments,x1.size,x1.key,.R 4,.R 5,x1.segment,.R 6,.R 7] ?_
 refine AO.n (AW.q ?_)
 obtain ⟨u3,hx4,hH⟩:=zB hH
 refine AW.r ?_
 iterate 2 refine AO.pu T ?_
 refine AO.pu T (d:=.g [x.skater,x.rank]) ?_
 refine AO.s rfl (mk_map_ok T rfl 9 rfl rfl rfl rfl rfl (f:=ze1) (l:=[x]) rfl rfl (fun _=>rfl) rfl rfl rfl rfl rfl) ?_
 refine AO.s rfl (zAr T rfl 10 rfl rfl rfl rfl rfl (by decide) rfl rfl rfl rfl (fun _=>rfl) (needT (hx4)) rfl rfl) ?_
 refine AO.pu T ?_
 refine AO.se T [x1.segments,x1.size,x1.key,.R 10,.R 5,x1.segment,.R 6,.R 7] ?_
 refine AO.n ?_
 iterate 2 refine AW.q ?_
 obtain ⟨x5,hx6,hH⟩:=zB hH
 refine AW.r ?_
 iterate 4 refine AO.pu T ?_
 refine AO.g T [] rfl trivial rfl rfl ?_
 refine AO.g T [21] rfl ⟨fun h=>h,trivial⟩ rfl rfl ?_
 refine AO.d [22] rfl ⟨fun h=>h,trivial⟩ (fun hg=>zL T rfl rfl rfl) rfl ?_
 refine AO.g T [23] rfl ⟨fun h=>h,trivial⟩ rfl rfl ?_
 refine AO.v rfl rfl (zO rfl rfl rfl rfl) ?_
 refine AO.pu T ?_
 refine AO.g T [] rfl trivial rfl rfl ?_
 refine AO.g T [27] rfl ⟨fun h=>h,trivial⟩ rfl rfl ?_
 refine AO.d [28] rfl ⟨fun h=>h,trivial⟩ (fun hg=>zLV rfl rfl rfl (es:=[.s (List.map ze1 (x1.entrants++[x]))]) ⟨(.rowR rfl (.map fun y=>.vs rfl)),trivial⟩ (spec_soEntrants_ok _ _ (optT hx6 hg)) (zfree_v _) rfl) rfl ?_
 refine AO.g T [29] rfl ⟨fun h=>h,trivial⟩ rfl rfl ?_
 refine AO.v rfl rfl (zO rfl rfl rfl rfl) ?_
 refine AO.n (AW.le (Le.ct 0 0 (σ':=(⟨[(2,.p 1 0),(3,.p 2 0),(4,.p 3 0),(6,.p 8 0),(31,.v (.bool ((decide (e.segment > 0) || decide ((e.order.length:Int) > 0)) || (!x5))))],[(1,.box [e.segments,e.size,e.key,.s (List.map ze1 e.entrants),.s (List.map ze0 e.gone),e.segment,.s (List.map ze0 e.order),.s (List.map ze2 e.results)]),(2,.box [x.skater,x.rank]),(3,.box [(0:Int),(0:Int),(0:Int),.w 0 [],.w 0 [],(0:Int),.w 0 [],.w 0 []]),(5,.row 1 (List.map ze0 x1.gone)),(6,.row 1 (List.map ze0 x1.order)),(7,.row 2 (List.map ze6 x1.results)),(8,.box [x1.segments,x1.size,x1.key,.R 10,.R 5,x1.segment,.R 6,.R 7]),(10,.row 2 (List.map ze1 (x1.entrants++[x])))],54,[]⟩:St))) ?_)
 refine AW.c (b:=((decide (e.segment > 0) || decide ((e.order.length:Int) > 0)) || (!x5))) rfl (fun hc=>?_) (fun hc=>?_)
 replace hH:=condT hc hH
 refine AW.q (AW.r (AO.pu T (d:=.g [(0:Int),(0:Int),(0:Int),.w 0 [],.w 0 [],(0:Int),.w 0 [],.w 0 []]) ?_))
 refine AO.se T [(0:Int),(0:Int),(0:Int),.w 0 [],.w 0 [],(0:Int),.w 0 [],.w 0 []] ?_
 refine AO.pu T ?_
 refine AO.n (AW.t ?_)
 have hR:=zS hH;subst hR
 exact retQ.i [] rfl (.t (zG (.g (zC .v (zC .v (zC .v (zC .nil (zC .nil (zC .v (zC .nil (zC .nil (zCn)))))))))) (zG (.c .v) (zGn))))
 replace hH:=condF hc hH
 refine AW.k (AW.q (AW.r ?_))
 iterate 2 refine AO.pu T ?_
 refine AO.pu T (d:=.g [x.skater,.w 0 []]) ?_
 refine AO.s rfl (zA T rfl 11 rfl rfl rfl rfl rfl) ?_
 refine AO.se T [x.skater,.w 0 []] ?_
 refine AO.n ?_
 iterate 2 refine AW.q ?_
 refine AW.r (AO.pu T ?_)
 refine AO.n (AW.b ?_)
 refine AW.loopS (fun s:Nat × (List Int) × Int=>(⟨[(2,.p 1 0),(4,.p 3 0),(6,.p 8 0),(7,.p 11 0),(8,s.2.2)],[(1,.box [e.segments,e.size,e.key,.s (List.map ze1 e.entrants),.s (List.map ze0 e.gone),e.segment,.s (List.map ze0 e.order),.s (List.map ze2 e.results)]),(3,.box [(0:Int),(0:Int),(0:Int),.w 0 [],.w 0 [],(0:Int),.w 0 [],.w 0 []]),(5,.row 1 (List.map ze0 x1.gone)),(6,.row 1 (List.map ze0 x1.order)),(7,.row 2 (List.map ze6 x1.results)),(8,.box [x1.segments,x1.size,x1.key,.R 10,.R 5,x1.segment,.R 6,.R 7]),(10,.row 2 (List.map ze1 (x1.entrants++[x]))),(11,.box [x.skater,.R 15]),(15,.row 1 (List.map ze0 s.2.1))],54,[]⟩:St)) (fun s=>spec_evEnter_l1 e x x1 s.1 s.2.1 s.2.2=some r) (fun s=>s.1) (fuel,[],0) hH ?_ ?_
 refine Le.trans (Le.voidBox 11 1 15 1 rfl rfl rfl rfl) ?_
 exact Le.ct 0 0
 rintro ⟨k7,v14,v15⟩ hH
 replace hH:spec_evEnter_l1 e x x1 k7 v14 v15=some r:=hH
 try dsimp only
 rcases k7 with _ | k7
 cases (show none=some _ from hH)
 rw [spec_evEnter_l1] at hH
 iterate 2 refine AW.q ?_
 refine AW.r ?_
 iterate 4 refine AO.pu T ?_
 refine AO.n (AW.c (b:=decide (v15 < e.segments)) rfl (fun hc=>?_) (fun hc=>?_))
 replace hH:=condT hc hH
 refine AW.k (AW.q ?_)
 refine AW.b ?_
 obtain ⟨u17,hx18,hH⟩:=zB hH
 refine AW.r ?_
 iterate 2 refine AO.pu T ?_
 refine AO.s rfl (mk_map_ok T rfl 16 rfl rfl rfl rfl rfl (f:=ze0) (l:=([(-1)]:List Int)) rfl rfl (fun _=>rfl) rfl rfl rfl rfl rfl) ?_
 refine AO.s rfl (zAr T rfl 17 rfl rfl rfl rfl rfl (by decide) rfl rfl rfl rfl (fun _=>rfl) (needT (hx18)) rfl rfl) ?_
 refine AO.pu T ?_
 refine AO.se T [x.skater,.R 17] ?_
 refine AO.n (AW.r ?_)
 refine AO.pu T ?_
 refine AO.v rfl rfl (zW rfl rfl rfl rfl) ?_
 refine AO.pu T ?_
 refine AO.n ?_
 refine ⟨(k7,(v14++([(-1)]:List Int)),w64 (v15+1)),hH,Nat.lt_succ_self _,?_⟩
 exact Le.ct 17 15
 replace hH:=condF hc hH
 refine AW.exit (AW.q ?_)
 obtain ⟨u19,hx20,hH⟩:=zB hH
 refine AW.r ?_
 iterate 2 refine AO.pu T ?_
 refine AO.pu T (d:=.g [x.skater,.R 15]) ?_
 refine AO.s rfl (mk_o_ok T rfl 18 rfl rfl rfl rfl rfl rfl (f:=ze6) (l:=[(Result.mk x.skater v14)]) (ids:=[15]) rfl rfl (fun _=>rfl) (by exact zC .v (zC (.rowR rfl) (zCn))) (by decide) rfl rfl rfl rfl rfl) ?_
 refine AO.s rfl (app_rr_map T rfl 19 rfl rfl rfl rfl rfl (by decide) rfl rfl rfl rfl rfl (needT (hx20)) rfl rfl) ?_
 refine AO.pu T ?_
 refine AO.se T [x1.segments,x1.size,x1.key,.R 10,.R 5,x1.segment,.R 6,.R 19] ?_
 refine AO.n (AW.q (AW.r ?_))
 refine AO.pu T (d:=.g [x1.segments,x1.size,x1.key,.R 10,.R 5,x1.segment,.R 6,.R 19]) ?_
 refine AO.se T [x1.segments,x1.size,x1.key,.R 10,.R 5,x1.segment,.R 6,.R 19] ?_
 refine AO.pu T ?_
 refine AO.n (AW.t ?_)
 have hR:=zS hH;subst hR
 exact retQ.i [10,5,6,19] rfl (.t (zG (.g (zC .v (zC .v (zC .v (zC (.rowR rfl) (zC (.rowR rfl) (zC .v (zC (.rowR rfl) (zC (.rowR rfl) (zCn)))))))))) (zG (.c .v) (zGn))))

def spec_evThere_l1 (e:Event):List Entrant→Nat→List Entrant→Option ((List Entrant))
 | [],k1,v16 =>
  some v16
 | y2::ys3,k1,v16 =>
  (spec_l1Has_p e.gone y2.skater).bind fun x18 =>
  cond (!x18)
   ((need (fitsB 16 (v16.length+([y2]).length))).bind fun u20 =>
   spec_evThere_l1 e ys3 (k1+1) (v16++[y2]))
   (spec_evThere_l1 e ys3 (k1+1) v16)
def spec_evThere_p (e:Event):Option (List Entrant) :=
 spec_evThere_l1 e e.entrants 0 []
theorem spec_evThere_ok (e:Event) (r:(List Entrant)) (hH:spec_evThere_p e=some r):SpecR Tryz.prog 43 [.g (ze4 e)] (.w 2 (r.map ze1)):=by
 refine zFn T Tryz.func43 rfl (by decide) rfl ?_
 refine AW.q (AW.r (AO.s rfl (zBx T rfl 1 rfl rfl rfl rfl) ?_))
 refine AO.pu T ?_
 refine AO.n (AW.q (AW.r ?_))
 refine AO.pu T ?_
 refine AO.n ?_
 iterate 2 refine AW.q ?_
 refine AW.r ?_
 iterate 2 refine AO.pu T ?_
 refine AO.v rfl rfl (zL T rfl rfl rfl) ?_
 refine AO.pu T ?_
 refine AO.n (AW.b ?_)
 refine AW.loopS (fun s:Nat × (List Entrant)=>(⟨[(1,.p 1 0),(3,.R 7),(7,.s (List.map ze1 e.entrants)),(8,(e.entrants.length:Int)),(9,(s.1:Int))],[(1,.box [e.segments,e.size,e.key,.s (List.map ze1 e.entrants),.s (List.map ze0 e.gone),e.segment,.s (List.map ze0 e.order),.s (List.map ze2 e.results)]),(7,.row 2 (List.map ze1 s.2))],25,[]⟩:St)) (fun s=>s.1 ≤ e.entrants.length∧spec_evThere_l1 e (e.entrants.drop s.1) s.1 s.2=some r) (fun s=>e.entrants.length - s.1) (0,[]) ⟨Nat.zero_le _,hH⟩ ?_ ?_
 refine Le.trans (Le.void 3 7 2 rfl rfl) ?_
 exact Le.ct 0 0
 rintro ⟨k1,v16⟩ ⟨hk,hH⟩
 replace hH:spec_evThere_l1 e (e.entrants.drop k1) k1 v16=some r:=hH
 try dsimp only
 refine AW.boundM (t:=7) (l:=e.entrants) rfl (fun hb5=>?_)
 rcases hd4:e.entrants.drop k1 with _ | ⟨y2,ys3⟩
 rw [hd4,spec_evThere_l1] at hH
 have hlt6:=drop_ge hd4
 refine AW.q (AW.r (AO.pu T ?_))
 refine AO.n (AW.q (AW.condF' (b:=decide ((k1:Int) < (e.entrants.length:Int))) rfl (rngF hlt6) ?_))
 refine AW.exit (AW.q (AW.r ?_))
 iterate 2 refine AO.pu T ?_
 refine AO.n (AW.t ?_)
 have hR:=zS hH;subst hR
 exact retQ.i [7] rfl (.c (.c (.rowR rfl)))
 rw [hd4,spec_evThere_l1] at hH
 have hlt6:=drop_lt hd4
 refine AW.q (AW.r (AO.pu T ?_))
 refine AO.n (AW.q (AW.condT' (b:=decide ((k1:Int) < (e.entrants.length:Int))) rfl (rngT hlt6) ?_))
 refine AW.k (AW.q ?_)
 refine AW.b (AW.q (AW.r ?_))
 refine AO.v rfl rfl (zX T rfl rfl rfl rfl rfl (zgD hd4) rfl) ?_
 refine AO.pu T (d:=.g [y2.skater,y2.rank]) ?_
 refine AO.s rfl (zA T rfl 8 rfl rfl rfl rfl rfl) ?_
 refine AO.se T [y2.skater,y2.rank] ?_
 refine AO.n (AW.q ?_)
 obtain ⟨x18,hx19,hH⟩:=zB hH
 refine AW.r ?_
 iterate 4 refine AO.pu T ?_
 refine AO.v rfl rfl (zV rfl rfl rfl rfl (spec_l1Has_ok _ _ _ (hx19)) rfl) ?_
 refine AO.pu T ?_
 refine AO.n (AW.c (b:=(!x18)) rfl (fun hc=>?_) (fun hc=>?_))
 replace hH:=condT hc hH
 obtain ⟨u20,hx21,hH⟩:=zB hH
 refine AW.r (AO.pu T ?_)
 refine AO.pu T (d:=.g [y2.skater,y2.rank]) ?_
 refine AO.s rfl (mk_map_ok T rfl 9 rfl rfl rfl rfl rfl (f:=ze1) (l:=[y2]) rfl rfl (fun _=>rfl) rfl rfl rfl rfl rfl) ?_
 refine AO.s rfl (zAr T rfl 10 rfl rfl rfl rfl rfl (by decide) rfl rfl rfl rfl (fun _=>rfl) (needT (hx21)) rfl rfl) ?_
 refine AO.pu T ?_
 refine AO.n (AW.r ?_)
 refine AO.v rfl rfl (zR rfl rfl rfl rfl (zK hlt6 hb5)) ?_
 refine AO.pu T ?_
 refine AO.n ?_
 refine ⟨(k1+1,(v16++[y2])),⟨Nat.succ_le_of_lt hlt6,(by rw [zds hd4];exact hH)⟩,(by have:=hlt6;dsimp only;omega),?_⟩
 exact Le.ct 10 7
 replace hH:=condF hc hH
 refine AW.k (AW.r ?_)
 refine AO.v rfl rfl (zR rfl rfl rfl rfl (zK hlt6 hb5)) ?_
 refine AO.pu T ?_
 refine AO.n ?_
 refine ⟨(k1+1,v16),⟨Nat.succ_le_of_lt hlt6,(by rw [zds hd4];exact hH)⟩,(by have:=hlt6;dsimp only;omega),?_⟩
 exact Le.ct 0 0

def spec_l1Put_l1 (l:List Int) (n:Int):Nat→Int→Option Int
 | 0,_=>none
 | k13+1,v19 =>
  (opt (decide (v19 < (l.length:Int))) default (getI l v19)).bind fun x21 =>
  cond (decide (v19 < (l.length:Int)) && decide (x21 < n))
   (spec_l1Put_l1 l n k13 (w64 (v19+1)))
   (some v19)
def spec_l1Put_p (fuel:Nat) (l:List Int) (n:Int):Option (List Int) :=
 (spec_l1Put_l1 l n fuel 0).bind fun v10 =>
 (opt (decide (v10 < (l.length:Int))) default (getI l v10)).bind fun x23 =>
 cond (decide (v10 < (l.length:Int)) && (x23 == n))
  (some l)
  ((sliceHi l v10).bind fun x25 =>
  (need (fitsB 8 x25.length)).bind fun u27 =>
  (need (fitsB 8 (x25.length+([n]).length))).bind fun u29 =>
  (sliceLo l v10).bind fun x31 =>
  (need (fitsB 8 (((x25++[n])).length+x31.length))).bind fun u33 =>
  some ((x25++[n])++x31))
theorem spec_l1Put_ok (fuel:Nat) (l:List Int) (n:Int) (r:(List Int)) (hH:spec_l1Put_p fuel l n=some r):SpecR Tryz.prog 100 [.s (List.map ze0 l),n] (.s (r.map ze0)):=by
 refine zFn T Tryz.func100 rfl (by decide) rfl ?_
 refine AW.q (AW.r (AO.pu T ?_))
 refine AO.n (AW.q (AW.r ?_))
 refine AO.pu T ?_
 refine AO.n ?_
 obtain ⟨o11,hH,hK12⟩:=zB hH
 refine AW.seqJ (fun s:Int=>(⟨[(0,.s (List.map ze0 l)),(1,n),(5,s)],[],48,[]⟩:St)) (fun s=>s=o11) ?_ ?_
 refine AW.b (AW.loopS (fun s:Nat × Int=>(⟨[(0,.s (List.map ze0 l)),(1,n),(5,s.2)],[],48,[]⟩:St)) (fun s=>spec_l1Put_l1 l n s.1 s.2=some o11) (fun s=>s.1) (fuel,0) hH ?_ ?_)
 exact Le.ct 0 0
 rintro ⟨k13,v19⟩ hH
 replace hH:spec_l1Put_l1 l n k13 v19=some o11:=hH
 try dsimp only
 rcases k13 with _ | k13
 cases (show none=some _ from hH)
 rw [spec_l1Put_l1] at hH
 iterate 2 refine AW.q ?_
 obtain ⟨x21,hx22,hH⟩:=zB hH
 refine AW.r ?_
 iterate 2 refine AO.pu T ?_
 refine AO.v rfl rfl (zL T rfl rfl rfl) ?_
 iterate 2 refine AO.pu T ?_
 iterate 2 refine AO.g T [] rfl trivial rfl rfl ?_
 refine AO.d [12,13] rfl ⟨fun h=>h,fun h=>h,trivial⟩ (fun hg=>zX T rfl rfl rfl rfl rfl (optT hx22 hg) rfl) rfl ?_
 refine AO.g T [14] rfl ⟨fun h=>h,trivial⟩ rfl rfl ?_
 refine AO.g T [] rfl trivial rfl rfl ?_
 refine AO.g T [15,16] rfl ⟨fun h=>h,fun h=>h,trivial⟩ rfl rfl ?_
 refine AO.v rfl rfl (zN rfl rfl rfl rfl) ?_
 refine AO.n (AW.c (b:=(decide (v19 < (l.length:Int)) && decide (x21 < n))) rfl (fun hc=>?_) (fun hc=>?_))
 replace hH:=condT hc hH
 refine AW.k (AW.b ?_)
 refine AW.r (AO.pu T ?_)
 refine AO.v rfl rfl (zW rfl rfl rfl rfl) ?_
 refine AO.pu T ?_
 refine AO.n ?_
 refine ⟨(k13,w64 (v19+1)),hH,Nat.lt_succ_self _,?_⟩
 exact Le.ct 0 0
 replace hH:=condF hc hH
 refine AW.exit ?_
 refine ⟨_,zS hH,?_⟩
 exact Le.ct 0 0
 rintro v10 hs
 subst hs
 replace hH:=hK12
 try dsimp only [flow,flowE] at hH
 try dsimp only
 iterate 2 refine AW.q ?_
 obtain ⟨x23,hx24,hH⟩:=zB hH
 refine AW.r ?_
 iterate 2 refine AO.pu T ?_
 refine AO.v rfl rfl (zL T rfl rfl rfl) ?_
 iterate 2 refine AO.pu T ?_
 iterate 2 refine AO.g T [] rfl trivial rfl rfl ?_
 refine AO.d [26,27] rfl ⟨fun h=>h,fun h=>h,trivial⟩ (fun hg=>zX T rfl rfl rfl rfl rfl (optT hx24 hg) rfl) rfl ?_
 refine AO.g T [28] rfl ⟨fun h=>h,trivial⟩ rfl rfl ?_
 refine AO.g T [] rfl trivial rfl rfl ?_
 refine AO.g T [29,30] rfl ⟨fun h=>h,fun h=>h,trivial⟩ rfl rfl ?_
 refine AO.v rfl rfl (zN rfl rfl rfl rfl) ?_
 refine AO.n (AW.c (b:=(decide (v10 < (l.length:Int)) && (x23 == n))) rfl (fun hc=>?_) (fun hc=>?_))
 replace hH:=condT hc hH
 refine AW.q (AW.r ?_)
 iterate 2 refine AO.pu T ?_
 refine AO.n (AW.t ?_)
 have hR:=zS hH;subst hR
 exact retQ.i [] rfl (.c (.c .s))
 replace hH:=condF hc hH
 refine AW.k (AW.q ?_)
 obtain ⟨x25,hx26,hH⟩:=zB hH
 obtain ⟨u27,hx28,hH⟩:=zB hH
 refine AW.r (AO.s rfl (mk0_ok T rfl rfl rfl rfl) ?_)
 iterate 2 refine AO.pu T ?_
 refine AO.v rfl rfl (slice_hi_map_ok T rfl rfl rfl rfl rfl (hx26) (fun _=>rfl)) ?_
 refine AO.s rfl (app_ws_map T rfl 1 rfl rfl rfl rfl rfl (by decide) (by decide) rfl rfl (fun _=>rfl) (needT (hx28)) rfl rfl) ?_
 refine AO.pu T ?_
 refine AO.n (AW.q ?_)
 obtain ⟨u29,hx30,hH⟩:=zB hH
 refine AW.r ?_
 iterate 2 refine AO.pu T ?_
 refine AO.s rfl (mk_map_ok T rfl 2 rfl rfl rfl rfl rfl (f:=ze0) (l:=[n]) rfl rfl (fun _=>rfl) rfl rfl rfl rfl rfl) ?_
 refine AO.s rfl (zAr T rfl 3 rfl rfl rfl rfl rfl (by decide) rfl rfl rfl rfl (fun _=>rfl) (needT (hx30)) rfl rfl) ?_
 refine AO.pu T ?_
 refine AO.n (AW.q ?_)
 obtain ⟨x31,hx32,hH⟩:=zB hH
 obtain ⟨u33,hx34,hH⟩:=zB hH
 refine AW.r ?_
 iterate 3 refine AO.pu T ?_
 refine AO.v rfl rfl (slice_lo_map_ok T rfl rfl rfl rfl rfl (hx32) (fun _=>rfl)) ?_
 refine AO.s rfl (app_rs_map T rfl 4 rfl rfl rfl rfl rfl (by decide) (by decide) rfl rfl rfl (fun _=>rfl) (needT (hx34)) rfl rfl) ?_
 refine AO.pu T ?_
 refine AO.n (AW.le (Le.ct 0 0 (σ':=(⟨[(4,.R 4)],[(4,.row 1 (List.map ze0 ((x25++[n])++x31)))],48,[]⟩:St))) ?_)
 refine AW.le (Le.fM 4 (g:=ze0) rfl (fun y=>.vs rfl)) ?_
 refine AW.t ?_
 have hR:=zS hH;subst hR
 exact retQ.i [] rfl (.c (.c .s))

def spec_rkTotal_l1:List Int→Nat→Int→Int→Option ((Int × Int))
 | [],k1,v9,v10 =>
  some (v9,v10)
 | y2::ys3,k1,v9,v10 =>
  cond (decide (y2 ≥ 0))
   (spec_rkTotal_l1 ys3 (k1+1) (w64 (v9+y2)) (w64 (v10+1)))
   (spec_rkTotal_l1 ys3 (k1+1) v9 v10)
def spec_rkTotal_p (rA:Result):Option (Int × Int) :=
 spec_rkTotal_l1 rA.scores 0 0 0
theorem spec_rkTotal_ok (rA:Result) (r:(Int × Int)) (hH:spec_rkTotal_p rA=some r):SpecR Tryz.prog 151 [.g (ze2 rA)] (.t [.v (.int .i64 r.1),.v (.int .i64 r.2)]):=by
 refine zFn T Tryz.func151 rfl (by decide) rfl ?_
 refine AW.q (AW.r (AO.s rfl (zBx T rfl 1 rfl rfl rfl rfl) ?_))
 iterate 2 refine AO.pu T ?_
 refine AO.n (AW.q (AW.r ?_))
 iterate 2 refine AO.pu T ?_
 refine AO.n ?_
 iterate 2 refine AW.q ?_
 refine AW.r ?_
 iterate 2 refine AO.pu T ?_
 refine AO.v rfl rfl (zL T rfl rfl rfl) ?_
 refine AO.pu T ?_
 refine AO.n (AW.b ?_)
 refine AW.loopS (fun s:Nat × Int × Int=>(⟨[(4,s.2.1),(5,s.2.2),(9,.s (List.map ze0 rA.scores)),(10,(rA.scores.length:Int)),(11,(s.1:Int))],[],25,[]⟩:St)) (fun s=>s.1 ≤ rA.scores.length∧spec_rkTotal_l1 (rA.scores.drop s.1) s.1 s.2.1 s.2.2=some r) (fun s=>rA.scores.length - s.1) (0,0,0) ⟨Nat.zero_le _,hH⟩ ?_ ?_
 exact Le.ct 0 0
 rintro ⟨k1,v9,v10⟩ ⟨hk,hH⟩
 replace hH:spec_rkTotal_l1 (rA.scores.drop k1) k1 v9 v10=some r:=hH
 try dsimp only
 refine AW.boundM (t:=9) (l:=rA.scores) rfl (fun hb5=>?_)
 rcases hd4:rA.scores.drop k1 with _ | ⟨y2,ys3⟩
 rw [hd4,spec_rkTotal_l1] at hH
 have hlt6:=drop_ge hd4
 refine AW.q (AW.r (AO.pu T ?_))
 refine AO.n (AW.q (AW.condF' (b:=decide ((k1:Int) < (rA.scores.length:Int))) rfl (rngF hlt6) ?_))
 refine AW.exit (AW.q (AW.r ?_))
 iterate 4 refine AO.pu T ?_
 refine AO.n (AW.t ?_)
 have hR:=zS hH;subst hR
 exact retQ.i [] rfl (.t (zG (.c .v) (zG (.c .v) (zGn))))
 rw [hd4,spec_rkTotal_l1] at hH
 have hlt6:=drop_lt hd4
 refine AW.q (AW.r (AO.pu T ?_))
 refine AO.n (AW.q (AW.condT' (b:=decide ((k1:Int) < (rA.scores.length:Int))) rfl (rngT hlt6) ?_))
 refine AW.k (AW.q ?_)
 refine AW.b (AW.q (AW.r ?_))
 refine AO.v rfl rfl (zX T rfl rfl rfl rfl rfl (zgD hd4) rfl) ?_
 iterate 2 refine AO.pu T ?_
 refine AO.n (AW.q (AW.r ?_))
 iterate 2 refine AO.pu T ?_
 refine AO.n (AW.c (b:=decide (y2 ≥ 0)) rfl (fun hc=>?_) (fun hc=>?_))
 replace hH:=condT hc hH
 refine AW.q (AW.r ?_)
 iterate 2 refine AO.pu T ?_
 refine AO.v rfl rfl (zW rfl rfl rfl rfl) ?_
 refine AO.pu T ?_
 refine AO.n (AW.r ?_)
 refine AO.pu T ?_
 refine AO.v rfl rfl (zW rfl rfl rfl rfl) ?_
 refine AO.pu T ?_
 refine AO.n (AW.r ?_)
 refine AO.v rfl rfl (zR rfl rfl rfl rfl (zK hlt6 hb5)) ?_
 refine AO.pu T ?_
 refine AO.n ?_
 refine ⟨(k1+1,w64 (v9+y2),w64 (v10+1)),⟨Nat.succ_le_of_lt hlt6,(by rw [zds hd4];exact hH)⟩,(by have:=hlt6;dsimp only;omega),?_⟩
 exact Le.ct 0 0
 replace hH:=condF hc hH
 refine AW.k (AW.r ?_)
 refine AO.v rfl rfl (zR rfl rfl rfl rfl (zK hlt6 hb5)) ?_
 refine AO.pu T ?_
 refine AO.n ?_
 refine ⟨(k1+1,v9,v10),⟨Nat.succ_le_of_lt hlt6,(by rw [zds hd4];exact hH)⟩,(by have:=hlt6;dsimp only;omega),?_⟩
 exact Le.ct 0 0

def spec_evScores_p (rA:Result):Option Int :=
 (spec_rkTotal_p rA).bind fun x1 =>
 some x1.2
theorem spec_evScores_ok (rA:Result) (r:Int) (hH:spec_evScores_p rA=some r):SpecR Tryz.prog 123 [.g (ze2 rA)] (.v (.int .i64 r)):=by
 refine zFn T Tryz.func123 rfl (by decide) rfl ?_
 refine AW.q (AW.r (AO.s rfl (zBx T rfl 1 rfl rfl rfl rfl) ?_))
 refine AO.pu T ?_
 refine AO.n (AW.q ?_)
 obtain ⟨x1,hx2,hH⟩:=zB hH
 refine AW.r (AO.pu T (d:=.g [rA.skater,.s (List.map ze0 rA.scores)]) ?_)
 refine AO.v rfl rfl (zV rfl rfl rfl rfl (spec_rkTotal_ok _ _ (hx2)) rfl) ?_
 iterate 5 refine AO.pu T ?_
 refine AO.n (AW.q (AW.r ?_))
 iterate 2 refine AO.pu T ?_
 refine AO.n (AW.t ?_)
 have hR:=zS hH;subst hR
 exact retQ.i [] rfl (.c (.c .v))

def spec_evHas_l1 (e:Event) (skater:Int):List Result→Nat→Option Bool
 | [],k1 =>
  some false
 | y2::ys3,k1 =>
  cond (y2.skater == skater)
   ((spec_evScores_p y2).bind fun x12 =>
   some (decide (x12 > e.segment)))
   (spec_evHas_l1 e skater ys3 (k1+1))
def spec_evHas_p (e:Event) (skater:Int):Option Bool :=
 spec_evHas_l1 e skater e.results 0
theorem spec_evHas_ok (e:Event) (skater:Int) (r:Bool) (hH:spec_evHas_p e skater=some r):SpecR Tryz.prog 85 [.g (ze4 e),skater] (.v (.bool r)):=by
 refine zFn T Tryz.func85 rfl (by decide) rfl ?_
 refine AW.q (AW.r (AO.s rfl (zBx T rfl 1 rfl rfl rfl rfl) ?_))
 refine AO.pu T ?_
 refine AO.n ?_
 iterate 2 refine AW.q ?_
 refine AW.r ?_
 iterate 2 refine AO.pu T ?_
 refine AO.v rfl rfl (zL T rfl rfl rfl) ?_
 refine AO.pu T ?_
 refine AO.n (AW.b ?_)
 refine AW.loopS (fun s:Nat=>(⟨[(1,skater),(2,.p 1 0),(8,.s (List.map ze2 e.results)),(9,(e.results.length:Int)),(10,(s:Int))],[(1,.box [e.segments,e.size,e.key,.s (List.map ze1 e.entrants),.s (List.map ze0 e.gone),e.segment,.s (List.map ze0 e.order),.s (List.map ze2 e.results)])],24,[]⟩:St)) (fun s=>s ≤ e.results.length∧spec_evHas_l1 e skater (e.results.drop s) s=some r) (fun s=>e.results.length - s) 0 ⟨Nat.zero_le _,hH⟩ ?_ ?_
 exact Le.ct 0 0
 rintro k1 ⟨hk,hH⟩
 replace hH:spec_evHas_l1 e skater (e.results.drop k1) k1=some r:=hH
 try dsimp only
 refine AW.boundM (t:=8) (l:=e.results) rfl (fun hb5=>?_)
 rcases hd4:e.results.drop k1 with _ | ⟨y2,ys3⟩
 rw [hd4,spec_evHas_l1] at hH
 have hlt6:=drop_ge hd4
 refine AW.q (AW.r (AO.pu T ?_))
 refine AO.n (AW.q (AW.condF' (b:=decide ((k1:Int) < (e.results.length:Int))) rfl (rngF hlt6) ?_))
 refine AW.exit (AW.q (AW.r ?_))
 refine AO.pu T ?_
 refine AO.n (AW.t ?_)
 have hR:=zS hH;subst hR
 exact retQ.i [] rfl (.c (.c .v))
 rw [hd4,spec_evHas_l1] at hH
 have hlt6:=drop_lt hd4
 refine AW.q (AW.r (AO.pu T ?_))
 refine AO.n (AW.q (AW.condT' (b:=decide ((k1:Int) < (e.results.length:Int))) rfl (rngT hlt6) ?_))
 refine AW.k (AW.q ?_)
 refine AW.b (AW.q (AW.r ?_))
 refine AO.v rfl rfl (zX T rfl rfl rfl rfl rfl (zgD hd4) rfl) ?_
 refine AO.pu T (d:=.g [y2.skater,.s (List.map ze0 y2.scores)]) ?_
 refine AO.s rfl (zA T rfl 4 rfl rfl rfl rfl rfl) ?_
 refine AO.se T [y2.skater,.s (List.map ze0 y2.scores)] ?_
 refine AO.n (AW.q (AW.r ?_))
 iterate 4 refine AO.pu T ?_
 refine AO.n (AW.c (b:=(y2.skater == skater)) rfl (fun hc=>?_) (fun hc=>?_))
 replace hH:=condT hc hH
 refine AW.q ?_
 obtain ⟨x12,hx13,hH⟩:=zB hH
 refine AW.drawn 4 5 [] mix (by kernel_rfl) rfl ?_
 refine AD.p T (d:=.g [y2.skater,.s (List.map ze0 y2.scores)]) rfl rfl rfl ?_
 refine AD.w rfl rfl (zV rfl rfl rfl rfl (spec_evScores_ok _ _ (hx13)) rfl) ?_
 iterate 2 refine AD.p T rfl rfl rfl ?_
 refine AD.nil ?_
 iterate 2 refine AO.pu T ?_
 refine AO.n (AW.t ?_)
 have hR:=zS hH;subst hR
 exact retQ.i [] rfl (.c (.c .v))
 replace hH:=condF hc hH
 refine AW.k (AW.r ?_)
 refine AO.v rfl rfl (zR rfl rfl rfl rfl (zK hlt6 hb5)) ?_
 refine AO.pu T ?_
 refine AO.n ?_
 refine ⟨k1+1,⟨Nat.succ_le_of_lt hlt6,(by rw [zds hd4];exact hH)⟩,(by have:=hlt6;dsimp only;omega),?_⟩
 exact Le.ct 0 0

def spec_paWithout_l1 (gone:Int):List Int→Nat→List Int→Option ((List Int))
 | [],k1,v12 =>
  some v12
 | y2::ys3,k1,v12 =>
  cond (y2 != gone)
   ((need (fitsB 8 (v12.length+([y2]).length))).bind fun u14 =>
   spec_paWithout_l1 gone ys3 (k1+1) (v12++[y2]))
   (spec_paWithout_l1 gone ys3 (k1+1) v12)
def spec_paWithout_p (l:List Int) (gone:Int):Option (List Int) :=
 spec_paWithout_l1 gone l 0 []
theorem spec_paWithout_ok (l:List Int) (gone:Int) (r:(List Int)) (hH:spec_paWithout_p l gone=some r):SpecR Tryz.prog 147 [.s (List.map ze0 l),gone] (.w 1 (r.map ze0)):=by
 refine zFn T Tryz.func147 rfl (by decide) rfl ?_
 refine AW.q (AW.r (AO.pu T ?_))
 refine AO.n (AW.q (AW.r ?_))
 refine AO.pu T ?_
 refine AO.n ?_
 iterate 2 refine AW.q ?_
 refine AW.r (AO.pu T ?_)
 refine AO.v rfl rfl (zL T rfl rfl rfl) ?_
 refine AO.pu T ?_
 refine AO.n (AW.b ?_)
 refine AW.loopS (fun s:Nat × (List Int)=>(⟨[(1,gone),(5,.R 4),(8,.s (List.map ze0 l)),(9,(l.length:Int)),(10,(s.1:Int))],[(4,.row 1 (List.map ze0 s.2))],23,[]⟩:St)) (fun s=>s.1 ≤ l.length∧spec_paWithout_l1 gone (l.drop s.1) s.1 s.2=some r) (fun s=>l.length - s.1) (0,[]) ⟨Nat.zero_le _,hH⟩ ?_ ?_
 refine Le.trans (Le.void 5 4 1 rfl rfl) ?_
 exact Le.ct 0 0
 rintro ⟨k1,v12⟩ ⟨hk,hH⟩
 replace hH:spec_paWithout_l1 gone (l.drop k1) k1 v12=some r:=hH
 try dsimp only
 refine AW.boundM (t:=8) (l:=l) rfl (fun hb5=>?_)
 rcases hd4:l.drop k1 with _ | ⟨y2,ys3⟩
 rw [hd4,spec_paWithout_l1] at hH
 have hlt6:=drop_ge hd4
 refine AW.q (AW.r (AO.pu T ?_))
 refine AO.n (AW.q (AW.condF' (b:=decide ((k1:Int) < (l.length:Int))) rfl (rngF hlt6) ?_))
 refine AW.exit (AW.q (AW.r ?_))
 iterate 2 refine AO.pu T ?_
 refine AO.n (AW.t ?_)
 have hR:=zS hH;subst hR
 exact retQ.i [4] rfl (.c (.c (.rowR rfl)))
 rw [hd4,spec_paWithout_l1] at hH
 have hlt6:=drop_lt hd4
 refine AW.q (AW.r (AO.pu T ?_))
 refine AO.n (AW.q (AW.condT' (b:=decide ((k1:Int) < (l.length:Int))) rfl (rngT hlt6) ?_))
 refine AW.k (AW.q ?_)
 refine AW.b (AW.q (AW.r ?_))
 refine AO.v rfl rfl (zX T rfl rfl rfl rfl rfl (zgD hd4) rfl) ?_
 iterate 2 refine AO.pu T ?_
 refine AO.n (AW.q (AW.r ?_))
 iterate 3 refine AO.pu T ?_
 refine AO.n (AW.c (b:=(y2 != gone)) rfl (fun hc=>?_) (fun hc=>?_))
 replace hH:=condT hc hH
 obtain ⟨u14,hx15,hH⟩:=zB hH
 refine AW.r ?_
 iterate 2 refine AO.pu T ?_
 refine AO.s rfl (mk_map_ok T rfl 5 rfl rfl rfl rfl rfl (f:=ze0) (l:=[y2]) rfl rfl (fun _=>rfl) rfl rfl rfl rfl rfl) ?_
 refine AO.s rfl (zAr T rfl 6 rfl rfl rfl rfl rfl (by decide) rfl rfl rfl rfl (fun _=>rfl) (needT (hx15)) rfl rfl) ?_
 refine AO.pu T ?_
 refine AO.n (AW.r ?_)
 refine AO.v rfl rfl (zR rfl rfl rfl rfl (zK hlt6 hb5)) ?_
 refine AO.pu T ?_
 refine AO.n ?_
 refine ⟨(k1+1,(v12++[y2])),⟨Nat.succ_le_of_lt hlt6,(by rw [zds hd4];exact hH)⟩,(by have:=hlt6;dsimp only;omega),?_⟩
 exact Le.ct 6 4
 replace hH:=condF hc hH
 refine AW.k (AW.r ?_)
 refine AO.v rfl rfl (zR rfl rfl rfl rfl (zK hlt6 hb5)) ?_
 refine AO.pu T ?_
 refine AO.n ?_
 refine ⟨(k1+1,v12),⟨Nat.succ_le_of_lt hlt6,(by rw [zds hd4];exact hH)⟩,(by have:=hlt6;dsimp only;omega),?_⟩
 exact Le.ct 0 0

def spec_evEnd_p (e:Event):Option Event :=
 (opt (decide ((e.order.length:Int) > 0)) default (getI e.order (w64 ((e.order.length:Int) - 1)))).bind fun x1 =>
 (opt (decide ((e.order.length:Int) > 0)) default (spec_evHas_p e x1)).bind fun x3 =>
 cond (decide ((e.order.length:Int) > 0) && x3)
  (some (Event.mk e.segments e.size e.key e.entrants e.gone (w64 (e.segment+1)) [] e.results))
  (some e)
theorem spec_evEnd_ok (e:Event) (r:Event) (hH:spec_evEnd_p e=some r):SpecR Tryz.prog 148 [.g (ze4 e)] (.g (ze4 r)):=by
 refine zFn T Tryz.func148 rfl (by decide) rfl ?_
 refine AW.q (AW.r (AO.s rfl (zBx T rfl 1 rfl rfl rfl rfl) ?_))
 refine AO.s rfl (zA T rfl 2 rfl rfl rfl rfl rfl) ?_
 refine AO.n ?_
 iterate 2 refine AW.q ?_
 obtain ⟨x1,hx2,hH⟩:=zB hH
 obtain ⟨x3,hx4,hH⟩:=zB hH
 refine AW.drawn 14 3 [] mix (by kernel_rfl) rfl ?_
 iterate 2 refine AD.p T rfl rfl rfl ?_
 refine AD.w rfl rfl (zL T rfl rfl rfl) ?_
 iterate 2 refine AD.p T rfl rfl rfl ?_
 refine AD.pureG T (d:=.g [e.segments,e.size,e.key,.s (List.map ze1 e.entrants),.s (List.map ze0 e.gone),e.segment,.s (List.map ze0 e.order),.s (List.map ze2 e.results)]) [] rfl trivial rfl rfl ?_
 refine AD.pureG T [] rfl trivial rfl rfl ?_
 refine AD.pureG T [9] rfl ⟨fun h=>h,trivial⟩ rfl rfl ?_
 refine AD.pureG T [] rfl trivial rfl rfl ?_
 refine AD.pureG T [11] rfl ⟨fun h=>h,trivial⟩ rfl rfl ?_
 refine AD.guard [12] rfl ⟨fun h=>h,trivial⟩ (fun hg=>zL T rfl rfl rfl) rfl ?_
 refine AD.guard [13] rfl ⟨fun h=>h,trivial⟩ (fun hg=>zW rfl rfl rfl rfl) rfl ?_
 refine AD.guard [10,14] rfl ⟨fun h=>h,fun h=>h,trivial⟩ (fun hg=>zX T rfl rfl rfl rfl rfl (optT hx2 hg) rfl) rfl ?_
 refine AD.pureG T [15] rfl ⟨fun h=>h,trivial⟩ rfl rfl ?_
 refine AD.nil (AO.d [8,16] rfl ⟨fun h=>h,fun h=>h,trivial⟩ (fun hg=>zV rfl rfl rfl rfl (spec_evHas_ok _ _ _ (optT hx4 hg)) rfl) rfl ?_)
 refine AO.v rfl rfl (zN rfl rfl rfl rfl) ?_
 refine AO.n (AW.c (b:=(decide ((e.order.length:Int) > 0) && x3)) rfl (fun hc=>?_) (fun hc=>?_))
 replace hH:=condT hc hH
 refine AW.q (AW.r ?_)
 iterate 2 refine AO.pu T ?_
 refine AO.v rfl rfl (zW rfl rfl rfl rfl) ?_
 refine AO.pu T ?_
 refine AO.se T [e.segments,e.size,e.key,.s (List.map ze1 e.entrants),.s (List.map ze0 e.gone),w64 (e.segment+1),.s (List.map ze0 e.order),.s (List.map ze2 e.results)] ?_
 refine AO.n (AW.r ?_)
 refine AO.pu T ?_
 refine AO.se T [e.segments,e.size,e.key,.s (List.map ze1 e.entrants),.s (List.map ze0 e.gone),w64 (e.segment+1),.w 0 [],.s (List.map ze2 e.results)] ?_
 refine AO.n (AW.le (Le.ct 0 0 (σ':=(⟨[(1,.p 1 0),(2,.p 2 0)],[(1,.box [e.segments,e.size,e.key,.s (List.map ze1 e.entrants),.s (List.map ze0 e.gone),w64 (e.segment+1),.w 0 [],.s (List.map ze2 e.results)]),(2,.box [(0:Int),(0:Int),(0:Int),.w 0 [],.w 0 [],(0:Int),.w 0 [],.w 0 []])],25,[]⟩:St))) ?_)
 refine AW.q (AW.r (AO.pu T (d:=.g [e.segments,e.size,e.key,.s (List.map ze1 e.entrants),.s (List.map ze0 e.gone),w64 (e.segment+1),.w 0 [],.s (List.map ze2 e.results)]) ?_))
 refine AO.se T [e.segments,e.size,e.key,.s (List.map ze1 e.entrants),.s (List.map ze0 e.gone),w64 (e.segment+1),.w 0 [],.s (List.map ze2 e.results)] ?_
 refine AO.n (AW.t ?_)
 have hR:=zS hH;subst hR
 exact retQ.i [] rfl (.c (.g (zC .v (zC .v (zC .v (zC .s (zC .s (zC .v (zC .nilS (zC .s (zCn)))))))))))
 replace hH:=condF hc hH
 refine AW.k (AW.q (AW.r ?_))
 refine AO.pu T (d:=.g [e.segments,e.size,e.key,.s (List.map ze1 e.entrants),.s (List.map ze0 e.gone),e.segment,.s (List.map ze0 e.order),.s (List.map ze2 e.results)]) ?_
 refine AO.se T [e.segments,e.size,e.key,.s (List.map ze1 e.entrants),.s (List.map ze0 e.gone),e.segment,.s (List.map ze0 e.order),.s (List.map ze2 e.results)] ?_
 refine AO.n (AW.t ?_)
 have hR:=zS hH;subst hR
 exact retQ.i [] rfl (.c (.g (zC .v (zC .v (zC .v (zC .s (zC .s (zC .v (zC .s (zC .s (zCn)))))))))))

def spec_evLeave_l1 (e:Event) (skater:Int) (fuel:Nat):List Entrant→Nat→Bool→Option ((Event × Bool))
 | [],k3,v10 =>
  cond (!v10)
   (some ((Event.mk 0 0 0 [] [] 0 [] []),false))
   ((spec_evOwn_p e).bind fun x12 =>
   (spec_l1Put_p fuel x12.gone skater).bind fun x14 =>
   (spec_evHas_p e skater).bind fun x16 =>
   cond (!x16)
    ((spec_paWithout_p x12.order skater).bind fun x18 =>
    (spec_evEnd_p (Event.mk x12.segments x12.size x12.key x12.entrants x14 x12.segment x18 x12.results)).bind fun x20 =>
    some (x20,true))
    ((spec_evEnd_p (Event.mk x12.segments x12.size x12.key x12.entrants x14 x12.segment x12.order x12.results)).bind fun x22 =>
    some (x22,true)))
 | y4::ys5,k3,v10 =>
  spec_evLeave_l1 e skater fuel ys5 (k3+1) (v10 || (y4.skater == skater))
def spec_evLeave_p (fuel:Nat) (e:Event) (skater:Int):Option (Event × Bool) :=
 (spec_evThere_p e).bind fun x1 =>
 spec_evLeave_l1 e skater fuel x1 0 false
theorem spec_evLeave_ok (fuel:Nat) (e:Event) (skater:Int) (r:(Event × Bool)) (hH:spec_evLeave_p fuel e skater=some r):SpecR Tryz.prog 108 [.g (ze4 e),skater] (.t [.g (ze4 r.1),.v (.bool r.2)]):=by
 refine zFn T Tryz.func108 rfl (by decide) rfl ?_
 refine AW.q (AW.r (AO.s rfl (zBx T rfl 1 rfl rfl rfl rfl) ?_))
 refine AO.s rfl (zA T rfl 2 rfl rfl rfl rfl rfl) ?_
 refine AO.pu T ?_
 refine AO.n (AW.q (AW.r ?_))
 refine AO.pu T ?_
 refine AO.n ?_
 iterate 2 refine AW.q ?_
 obtain ⟨x1,hx2,hH⟩:=zB hH
 refine AW.r (AO.pu T (d:=.g [e.segments,e.size,e.key,.s (List.map ze1 e.entrants),.s (List.map ze0 e.gone),e.segment,.s (List.map ze0 e.order),.s (List.map ze2 e.results)]) ?_)
 refine AO.s rfl (call_ok rfl 3 rfl rfl rfl (spec_evThere_ok _ _ (hx2)) rfl rfl rfl) ?_
 refine AO.v rfl rfl (len_row_ok T rfl rfl rfl rfl) ?_
 refine AO.pu T ?_
 refine AO.n (AW.b ?_)
 refine AW.loopS (fun s:Nat × Bool=>(⟨[(1,skater),(2,.p 1 0),(4,.p 2 0),(6,.v (.bool s.2)),(11,.R 3),(12,(x1.length:Int)),(13,(s.1:Int))],[(1,.box [e.segments,e.size,e.key,.s (List.map ze1 e.entrants),.s (List.map ze0 e.gone),e.segment,.s (List.map ze0 e.order),.s (List.map ze2 e.results)]),(2,.box [(0:Int),(0:Int),(0:Int),.w 0 [],.w 0 [],(0:Int),.w 0 [],.w 0 []]),(3,.row 2 (List.map ze1 x1))],46,[]⟩:St)) (fun s=>s.1 ≤ x1.length∧spec_evLeave_l1 e skater fuel (x1.drop s.1) s.1 s.2=some r) (fun s=>x1.length - s.1) (0,false) ⟨Nat.zero_le _,hH⟩ ?_ ?_
 exact Le.ct 0 0
 rintro ⟨k3,v10⟩ ⟨hk,hH⟩
 replace hH:spec_evLeave_l1 e skater fuel (x1.drop k3) k3 v10=some r:=hH
 try dsimp only
 refine AW.boundR (id:=3) (l:=x1) rfl (fun hb7=>?_)
 rcases hd6:x1.drop k3 with _ | ⟨y4,ys5⟩
 rw [hd6,spec_evLeave_l1] at hH
 have hlt8:=drop_ge hd6
 refine AW.q (AW.r (AO.pu T ?_))
 refine AO.n (AW.q (AW.condF' (b:=decide ((k3:Int) < (x1.length:Int))) rfl (rngF hlt8) ?_))
 refine AW.exit ?_
 iterate 2 refine AW.q ?_
 refine AW.r ?_
 iterate 2 refine AO.pu T ?_
 refine AO.n (AW.c (b:=(!v10)) rfl (fun hc=>?_) (fun hc=>?_))
 replace hH:=condT hc hH
 refine AW.q (AW.r (AO.pu T (d:=.g [(0:Int),(0:Int),(0:Int),.w 0 [],.w 0 [],(0:Int),.w 0 [],.w 0 []]) ?_))
 refine AO.se T [(0:Int),(0:Int),(0:Int),.w 0 [],.w 0 [],(0:Int),.w 0 [],.w 0 []] ?_
 refine AO.pu T ?_
 refine AO.n (AW.t ?_)
 have hR:=zS hH;subst hR
 exact retQ.i [] rfl (.t (zG (.g (zC .v (zC .v (zC .v (zC .nilS (zC .nilS (zC .v (zC .nilS (zC .nilS (zCn)))))))))) (zG (.c .v) (zGn))))
 replace hH:=condF hc hH
 refine AW.k (AW.q ?_)
 obtain ⟨x12,hx13,hH⟩:=zB hH
 refine AW.r (AO.pu T (d:=.g [e.segments,e.size,e.key,.s (List.map ze1 e.entrants),.s (List.map ze0 e.gone),e.segment,.s (List.map ze0 e.order),.s (List.map ze2 e.results)]) ?_)
 refine AO.s rfl (call_ok rfl 6 rfl rfl rfl (spec_evOwn_ok _ _ (hx13)) rfl rfl rfl) ?_
 refine AO.s rfl (zA T rfl 10 rfl rfl rfl rfl rfl) ?_
 refine AO.se T [x12.segments,x12.size,x12.key,.R 6,.R 7,x12.segment,.R 8,.R 9] ?_
 refine AO.n (AW.q ?_)
 obtain ⟨x14,hx15,hH⟩:=zB hH
 refine AW.le (Le.fM 7 (g:=ze0) rfl (fun y=>.vs rfl)) ?_
 refine AW.r ?_
 iterate 3 refine AO.pu T ?_
 refine AO.v rfl rfl (zV rfl rfl rfl rfl (spec_l1Put_ok fuel _ _ _ (hx15)) rfl) ?_
 refine AO.pu T ?_
 refine AO.se T [x12.segments,x12.size,x12.key,.R 6,.s (List.map ze0 x14),x12.segment,.R 8,.R 9] ?_
 refine AO.n ?_
 iterate 2 refine AW.q ?_
 obtain ⟨x16,hx17,hH⟩:=zB hH
 refine AW.r (AO.pu T (d:=.g [e.segments,e.size,e.key,.s (List.map ze1 e.entrants),.s (List.map ze0 e.gone),e.segment,.s (List.map ze0 e.order),.s (List.map ze2 e.results)]) ?_)
 refine AO.pu T ?_
 refine AO.v rfl rfl (zV rfl rfl rfl rfl (spec_evHas_ok _ _ _ (hx17)) rfl) ?_
 refine AO.pu T ?_
 refine AO.n (AW.c (b:=(!x16)) rfl (fun hc=>?_) (fun hc=>?_))
 replace hH:=condT hc hH
 obtain ⟨x18,hx19,hH⟩:=zB hH
 refine AW.r ?_
 iterate 3 refine AO.pu T ?_
 refine AO.s rfl (callL_ok rfl 11 rfl rfl (es:=[.s (List.map ze0 x12.order),skater]) (by exact ⟨(.rowR rfl (.map fun y=>.vs rfl)),.free rfl,trivial⟩) (spec_paWithout_ok _ _ _ (hx19)) (zfree_map (fun y=>(.cons (zfree_v _) .nil))) rfl rfl rfl) ?_
 refine AO.pu T ?_
 refine AO.se T [x12.segments,x12.size,x12.key,.R 6,.s (List.map ze0 x14),x12.segment,.R 11,.R 9] ?_
 refine AO.n (AW.q ?_)
 obtain ⟨x20,hx21,hH⟩:=zB hH
 refine AW.le (Le.fM 6 (g:=ze1) rfl (fun y=>.vs rfl)) ?_
 refine AW.le (Le.fM 9 (g:=ze2) rfl (fun y=>frzResult y)) ?_
 refine AW.le (Le.fM 11 (g:=ze0) rfl (fun y=>.vs rfl)) ?_
 refine AW.r (AO.pu T (d:=.g [x12.segments,x12.size,x12.key,.s (List.map ze1 x12.entrants),.s (List.map ze0 x14),x12.segment,.s (List.map ze0 x18),.s (List.map ze2 x12.results)]) ?_)
 refine AO.v rfl rfl (zV rfl rfl rfl rfl (spec_evEnd_ok _ _ (hx21)) rfl) ?_
 refine AO.se T [x20.segments,x20.size,x20.key,.s (List.map ze1 x20.entrants),.s (List.map ze0 x20.gone),x20.segment,.s (List.map ze0 x20.order),.s (List.map ze2 x20.results)] ?_
 refine AO.pu T ?_
 refine AO.n (AW.le (Le.ct 0 0 (σ':=(⟨[(4,.p 2 0),(5,.v (.bool true))],[(2,.box [x20.segments,x20.size,x20.key,.s (List.map ze1 x20.entrants),.s (List.map ze0 x20.gone),x20.segment,.s (List.map ze0 x20.order),.s (List.map ze2 x20.results)])],46,[]⟩:St))) ?_)
 refine AW.t ?_
 have hR:=zS hH;subst hR
 exact retQ.i [] rfl (.t (zG (.g (zC .v (zC .v (zC .v (zC .s (zC .s (zC .v (zC .s (zC .s (zCn)))))))))) (zG (.c .v) (zGn))))
 replace hH:=condF hc hH
 refine AW.k (AW.q ?_)
 obtain ⟨x22,hx23,hH⟩:=zB hH
 refine AW.le (Le.fM 6 (g:=ze1) rfl (fun y=>.vs rfl)) ?_
 refine AW.le (Le.fM 8 (g:=ze0) rfl (fun y=>.vs rfl)) ?_
 refine AW.le (Le.fM 9 (g:=ze2) rfl (fun y=>frzResult y)) ?_
 refine AW.r (AO.pu T (d:=.g [x12.segments,x12.size,x12.key,.s (List.map ze1 x12.entrants),.s (List.map ze0 x14),x12.segment,.s (List.map ze0 x12.order),.s (List.map ze2 x12.results)]) ?_)
 refine AO.v rfl rfl (zV rfl rfl rfl rfl (spec_evEnd_ok _ _ (hx23)) rfl) ?_
 refine AO.se T [x22.segments,x22.size,x22.key,.s (List.map ze1 x22.entrants),.s (List.map ze0 x22.gone),x22.segment,.s (List.map ze0 x22.order),.s (List.map ze2 x22.results)] ?_
 refine AO.pu T ?_
 refine AO.n (AW.t ?_)
 have hR:=zS hH;subst hR
 exact retQ.i [] rfl (.t (zG (.g (zC .v (zC .v (zC .v (zC .s (zC .s (zC .v (zC .s (zC .s (zCn)))))))))) (zG (.c .v) (zGn))))
 rw [hd6,spec_evLeave_l1] at hH
 have hlt8:=drop_lt hd6
 refine AW.q (AW.r (AO.pu T ?_))
 refine AO.n (AW.q (AW.condT' (b:=decide ((k3:Int) < (x1.length:Int))) rfl (rngT hlt8) ?_))
 refine AW.k (AW.q ?_)
 refine AW.b (AW.q (AW.r ?_))
 refine AO.v rfl rfl (zXr T rfl rfl rfl rfl rfl rfl (zgD hd6)) ?_
 refine AO.v rfl rfl (zLr T rfl rfl rfl rfl (zgG (zgD hd6)) rfl rfl rfl) ?_
 refine AO.s rfl (zA T rfl 12 rfl rfl rfl rfl rfl) ?_
 refine AO.se T [y4.skater,y4.rank] ?_
 refine AO.n (AW.r ?_)
 iterate 2 refine AO.pu T ?_
 refine AO.g T [] rfl trivial rfl rfl ?_
 refine AO.g T [19] rfl ⟨fun h=>h,trivial⟩ rfl rfl ?_
 refine AO.g T [] rfl trivial rfl rfl ?_
 refine AO.g T [20,21] rfl ⟨fun h=>h,fun h=>h,trivial⟩ rfl rfl ?_
 refine AO.v rfl rfl (zO rfl rfl rfl rfl) ?_
 refine AO.pu T ?_
 refine AO.n (AW.r ?_)
 refine AO.v rfl rfl (zR rfl rfl rfl rfl (zK hlt8 hb7)) ?_
 refine AO.pu T ?_
 refine AO.n ?_
 refine ⟨(k3+1,(v10 || (y4.skater == skater))),⟨Nat.succ_le_of_lt hlt8,(by rw [zds hd6];exact hH)⟩,(by have:=hlt8;dsimp only;omega),?_⟩
 exact Le.ct 0 0

def spec_l1All_l1 (lo:Int) (hi:Int):List Int→Nat→Option Bool
 | [],k1 =>
  some true
 | y2::ys3,k1 =>
  (spec_l1In_p y2 lo hi).bind fun x12 =>
  cond (!x12)
   (some false)
   (spec_l1All_l1 lo hi ys3 (k1+1))
def spec_l1All_p (l:List Int) (lo:Int) (hi:Int):Option Bool :=
 spec_l1All_l1 lo hi l 0
theorem spec_l1All_ok (l:List Int) (lo:Int) (hi:Int) (r:Bool) (hH:spec_l1All_p l lo hi=some r):SpecR Tryz.prog 127 [.s (List.map ze0 l),lo,hi] (.v (.bool r)):=by
 refine zFn T Tryz.func127 rfl (by decide) rfl ?_
 refine AW.q (AW.r (AO.pu T ?_))
 refine AO.n ?_
 iterate 2 refine AW.q ?_
 refine AW.r (AO.pu T ?_)
 refine AO.v rfl rfl (zL T rfl rfl rfl) ?_
 refine AO.pu T ?_
 refine AO.n (AW.b ?_)
 refine AW.loopS (fun s:Nat=>(⟨[(1,lo),(2,hi),(9,.s (List.map ze0 l)),(10,(l.length:Int)),(11,(s:Int))],[],21,[]⟩:St)) (fun s=>s ≤ l.length∧spec_l1All_l1 lo hi (l.drop s) s=some r) (fun s=>l.length - s) 0 ⟨Nat.zero_le _,hH⟩ ?_ ?_
 exact Le.ct 0 0
 rintro k1 ⟨hk,hH⟩
 replace hH:spec_l1All_l1 lo hi (l.drop k1) k1=some r:=hH
 try dsimp only
 refine AW.boundM (t:=9) (l:=l) rfl (fun hb5=>?_)
 rcases hd4:l.drop k1 with _ | ⟨y2,ys3⟩
 rw [hd4,spec_l1All_l1] at hH
 have hlt6:=drop_ge hd4
 refine AW.q (AW.r (AO.pu T ?_))
 refine AO.n (AW.q (AW.condF' (b:=decide ((k1:Int) < (l.length:Int))) rfl (rngF hlt6) ?_))
 refine AW.exit (AW.q (AW.r ?_))
 refine AO.pu T ?_
 refine AO.n (AW.t ?_)
 have hR:=zS hH;subst hR
 exact retQ.i [] rfl (.c (.c .v))
 rw [hd4,spec_l1All_l1] at hH
 have hlt6:=drop_lt hd4
 refine AW.q (AW.r (AO.pu T ?_))
 refine AO.n (AW.q (AW.condT' (b:=decide ((k1:Int) < (l.length:Int))) rfl (rngT hlt6) ?_))
 refine AW.k (AW.q ?_)
 refine AW.b (AW.q (AW.r ?_))
 refine AO.v rfl rfl (zX T rfl rfl rfl rfl rfl (zgD hd4) rfl) ?_
 iterate 2 refine AO.pu T ?_
 refine AO.n (AW.q ?_)
 obtain ⟨x12,hx13,hH⟩:=zB hH
 refine AW.r ?_
 iterate 3 refine AO.pu T ?_
 refine AO.v rfl rfl (zV rfl rfl rfl rfl (spec_l1In_ok _ _ _ _ (hx13)) rfl) ?_
 refine AO.pu T ?_
 refine AO.n (AW.c (b:=(!x12)) rfl (fun hc=>?_) (fun hc=>?_))
 replace hH:=condT hc hH
 refine AW.q (AW.r (AO.pu T ?_))
 refine AO.n (AW.t ?_)
 have hR:=zS hH;subst hR
 exact retQ.i [] rfl (.c (.c .v))
 replace hH:=condF hc hH
 refine AW.k (AW.r ?_)
 refine AO.v rfl rfl (zR rfl rfl rfl rfl (zK hlt6 hb5)) ?_
 refine AO.pu T ?_
 refine AO.n ?_
 refine ⟨k1+1,⟨Nat.succ_le_of_lt hlt6,(by rw [zds hd4];exact hH)⟩,(by have:=hlt6;dsimp only;omega),?_⟩
 exact Le.ct 0 0

def spec_dwKeys_p (keys:List Int) (most:Int):Option Bool :=
 (opt (decide ((keys.length:Int) ≤ most)) default (spec_l1All_p keys 0 1000000000)).bind fun x1 =>
 some (decide ((keys.length:Int) ≤ most) && x1)
theorem spec_dwKeys_ok (keys:List Int) (most:Int) (r:Bool) (hH:spec_dwKeys_p keys most=some r):SpecR Tryz.prog 124 [.s (List.map ze0 keys),most] (.v (.bool r)):=by
 refine zFn T Tryz.func124 rfl (by decide) rfl ?_
 refine AW.q (AW.r (AO.pu T ?_))
 refine AO.n (AW.q ?_)
 obtain ⟨x1,hx2,hH⟩:=zB hH
 refine AW.r (AO.pu T ?_)
 refine AO.v rfl rfl (zL T rfl rfl rfl) ?_
 iterate 3 refine AO.pu T ?_
 refine AO.g T [] rfl trivial rfl rfl ?_
 refine AO.d [10] rfl ⟨fun h=>h,trivial⟩ (fun hg=>zV rfl rfl rfl rfl (spec_l1All_ok _ _ _ _ (optT hx2 hg)) rfl) rfl ?_
 refine AO.v rfl rfl (zN rfl rfl rfl rfl) ?_
 refine AO.pu T ?_
 refine AO.n (AW.t ?_)
 have hR:=zS hH;subst hR
 exact retQ.i [] rfl (.c (.c .v))

def spec_soSize_p (size:Int):Option Bool :=
 (spec_l1In_p size 1 8).bind fun x1 =>
 some x1
theorem spec_soSize_ok (size:Int) (r:Bool) (hH:spec_soSize_p size=some r):SpecR Tryz.prog 120 [size] (.v (.bool r)):=by
 refine zFn T Tryz.func120 rfl (by decide) rfl ?_
 refine AW.q (AW.r (AO.pu T ?_))
 refine AO.n (AW.q ?_)
 obtain ⟨x1,hx2,hH⟩:=zB hH
 refine AW.r (AO.pu T ?_)
 refine AO.v rfl rfl (zV rfl rfl rfl rfl (spec_l1In_ok _ _ _ _ (hx2)) rfl) ?_
 refine AO.pu T ?_
 refine AO.n (AW.t ?_)
 have hR:=zS hH;subst hR
 exact retQ.i [] rfl (.c (.c .v))

def spec_soBehind_p (a:Entrant) (b:Entrant):Option Bool :=
 cond ((a.rank == 0) && (b.rank == 0))
  (some (decide (a.skater > b.skater)))
  (cond ((a.rank == 0) || (b.rank == 0))
   (some (a.rank == 0))
   (some (decide (a.rank > b.rank))))
theorem spec_soBehind_ok (a:Entrant) (b:Entrant) (r:Bool) (hH:spec_soBehind_p a b=some r):SpecR Tryz.prog 172 [.g (ze1 a),.g (ze1 b)] (.v (.bool r)):=by
 refine zFn T Tryz.func172 rfl (by decide) rfl ?_
 refine AW.q (AW.r (AO.s rfl (zBx T rfl 1 rfl rfl rfl rfl) ?_))
 refine AO.s rfl (zBx T rfl 2 rfl rfl rfl rfl) ?_
 refine AO.pu T ?_
 refine AO.n (AW.q (AW.b ?_))
 refine AW.q (AW.r ?_)
 iterate 4 refine AO.pu T ?_
 refine AO.g T [] rfl trivial rfl rfl ?_
 refine AO.g T [10] rfl ⟨fun h=>h,trivial⟩ rfl rfl ?_
 refine AO.g T [11] rfl ⟨fun h=>h,trivial⟩ rfl rfl ?_
 refine AO.v rfl rfl (zN rfl rfl rfl rfl) ?_
 refine AO.pu T ?_
 refine AO.n (AW.c (b:=((a.rank == 0) && (b.rank == 0))) rfl (fun hc=>?_) (fun hc=>?_))
 replace hH:=condT hc hH
 refine AW.q (AW.r ?_)
 iterate 6 refine AO.pu T ?_
 refine AO.n (AW.t ?_)
 have hR:=zS hH;subst hR
 exact retQ.i [] rfl (.c (.c .v))
 replace hH:=condF hc hH
 refine AW.q (AW.r ?_)
 iterate 4 refine AO.pu T ?_
 refine AO.g T [] rfl trivial rfl rfl ?_
 refine AO.g T [24] rfl ⟨fun h=>h,trivial⟩ rfl rfl ?_
 refine AO.g T [25] rfl ⟨fun h=>h,trivial⟩ rfl rfl ?_
 refine AO.v rfl rfl (zO rfl rfl rfl rfl) ?_
 refine AO.pu T ?_
 refine AO.n (AW.c (b:=((a.rank == 0) || (b.rank == 0))) rfl (fun hc=>?_) (fun hc=>?_))
 replace hH:=condT hc hH
 refine AW.q (AW.r ?_)
 iterate 4 refine AO.pu T ?_
 refine AO.n (AW.le (Le.ct 0 0 (σ':=(⟨[(4,.v (.bool (a.rank == 0)))],[],36,[]⟩:St))) ?_)
 refine AW.t ?_
 have hR:=zS hH;subst hR
 exact retQ.i [] rfl (.c (.c .v))
 replace hH:=condF hc hH
 refine AW.k (AW.q (AW.r ?_))
 iterate 6 refine AO.pu T ?_
 refine AO.n (AW.le (Le.ct 0 0 (σ':=(⟨[(4,.v (.bool (decide (a.rank > b.rank))))],[],36,[]⟩:St))) ?_)
 refine AW.t ?_
 have hR:=zS hH;subst hR
 exact retQ.i [] rfl (.c (.c .v))

def spec_soSorted_l2 (y2:Entrant) (v153:List Entrant):Nat→Int→Option Int
 | 0,_=>none
 | k219+1,v229 =>
  (opt (decide (v229 > 0)) default (getI v153 (w64 (v229 - 1)))).bind fun x231 =>
  (opt (decide (v229 > 0)) default (spec_soBehind_p y2 x231)).bind fun x233 =>
  cond (decide (v229 > 0) && x233)
   (spec_soSorted_l2 y2 v153 k219 (w64 (v229 - 1)))
   (some v229)
def spec_soSorted_l1 (fuel:Nat):List Entrant→Nat→List Entrant→Option ((List Entrant))
 | [],k1,v153 =>
  some v153
 | y2::ys3,k1,v153 =>
  ((spec_soSorted_l2 y2 v153 fuel (v153.length:Int)).bind fun v216 =>
  (sliceHi v153 v216).bind fun x235 =>
  (need (fitsB 16 x235.length)).bind fun u237 =>
  (need (fitsB 16 (x235.length+([y2]).length))).bind fun u239 =>
  (sliceLo v153 v216).bind fun x241 =>
  (need (fitsB 16 (((x235++[y2])).length+x241.length))).bind fun u243 =>
  some ((x235++[y2])++x241)).bind fun v198 =>
  spec_soSorted_l1 fuel ys3 (k1+1) v198
def spec_soSorted_p (fuel:Nat) (l:List Entrant):Option (List Entrant) :=
 spec_soSorted_l1 fuel l 0 []
theorem spec_soSorted_ok (fuel:Nat) (l:List Entrant) (r:(List Entrant)) (hH:spec_soSorted_p fuel l=some r):SpecR Tryz.prog 153 [.s (List.map ze1 l)] (.w 2 (r.map ze1)):=by
 refine zFn T Tryz.func153 rfl (by decide) rfl ?_
 refine AW.q (AW.r (AO.pu T ?_))
 refine AO.n (AW.q (AW.r ?_))
 refine AO.pu T ?_
 refine AO.n ?_
 iterate 2 refine AW.q ?_
 refine AW.r (AO.pu T ?_)
 refine AO.v rfl rfl (zL T rfl rfl rfl) ?_
 refine AO.pu T ?_
 refine AO.n (AW.b ?_)
 refine AW.loopS (fun s:Nat × (List Entrant)=>(⟨[(3,.R 15),(7,.s (List.map ze1 l)),(8,(l.length:Int)),(9,(s.1:Int))],[(15,.row 2 (List.map ze1 s.2))],42,[]⟩:St)) (fun s=>s.1 ≤ l.length∧spec_soSorted_l1 fuel (l.drop s.1) s.1 s.2=some r) (fun s=>l.length - s.1) (0,[]) ⟨Nat.zero_le _,hH⟩ ?_ ?_
 refine Le.trans (Le.void 3 15 2 rfl rfl) ?_
 exact Le.ct 0 0
 rintro ⟨k1,v153⟩ ⟨hk,hH⟩
 replace hH:spec_soSorted_l1 fuel (l.drop k1) k1 v153=some r:=hH
 try dsimp only
 refine AW.boundM (t:=7) (l:=l) rfl (fun hb5=>?_)
 rcases hd4:l.drop k1 with _ | ⟨y2,ys3⟩
 rw [hd4,spec_soSorted_l1] at hH
 have hlt6:=drop_ge hd4
 refine AW.q (AW.r (AO.pu T ?_))
 refine AO.n (AW.q (AW.condF' (b:=decide ((k1:Int) < (l.length:Int))) rfl (rngF hlt6) ?_))
 refine AW.exit (AW.q (AW.r ?_))
 iterate 2 refine AO.pu T ?_
 refine AO.n (AW.t ?_)
 have hR:=zS hH;subst hR
 exact retQ.i [15] rfl (.c (.c (.rowR rfl)))
 rw [hd4,spec_soSorted_l1] at hH
 have hlt6:=drop_lt hd4
 refine AW.q (AW.r (AO.pu T ?_))
 refine AO.n (AW.q (AW.condT' (b:=decide ((k1:Int) < (l.length:Int))) rfl (rngT hlt6) ?_))
 refine AW.k ?_
 obtain ⟨o199,hH,hK200⟩:=zB hH
 refine AW.seqJ (fun s:List Entrant=>(⟨[(3,.R 25),(7,.s (List.map ze1 l)),(8,(l.length:Int)),(9,(k1:Int))],[(25,.row 2 (List.map ze1 s))],42,[]⟩:St)) (fun s=>s=o199) ?_ ?_
 refine AW.b (AW.q (AW.r ?_))
 refine AO.v rfl rfl (zX T rfl rfl rfl rfl rfl (zgD hd4) rfl) ?_
 refine AO.pu T (d:=.g [y2.skater,y2.rank]) ?_
 refine AO.s rfl (zA T rfl 26 rfl rfl rfl rfl rfl) ?_
 refine AO.se T [y2.skater,y2.rank] ?_
 refine AO.n (AW.q (AW.r ?_))
 refine AO.pu T ?_
 refine AO.v rfl rfl (len_row_ok T rfl rfl rfl rfl) ?_
 refine AO.pu T ?_
 refine AO.n ?_
 obtain ⟨o217,hH,hK218⟩:=zB hH
 refine AW.seqJ (fun s:Int=>(⟨[(3,.R 15),(5,.p 26 0),(6,s),(7,.s (List.map ze1 l)),(8,(l.length:Int)),(9,(k1:Int))],[(15,.row 2 (List.map ze1 v153)),(26,.box [y2.skater,y2.rank])],42,[]⟩:St)) (fun s=>s=o217) ?_ ?_
 refine AW.b (AW.loopS (fun s:Nat × Int=>(⟨[(3,.R 15),(5,.p 26 0),(6,s.2),(7,.s (List.map ze1 l)),(8,(l.length:Int)),(9,(k1:Int))],[(15,.row 2 (List.map ze1 v153)),(26,.box [y2.skater,y2.rank])],42,[]⟩:St)) (fun s=>spec_soSorted_l2 y2 v153 s.1 s.2=some o217) (fun s=>s.1) (fuel,(v153.length:Int)) hH ?_ ?_)
 exact Le.ct 0 0
 rintro ⟨k219,v229⟩ hH
 replace hH:spec_soSorted_l2 y2 v153 k219 v229=some o217:=hH
 try dsimp only
 rcases k219 with _ | k219
 cases (show none=some _ from hH)
 rw [spec_soSorted_l2] at hH
 iterate 2 refine AW.q ?_
 obtain ⟨x231,hx232,hH⟩:=zB hH
 obtain ⟨x233,hx234,hH⟩:=zB hH
 refine AW.drawn 9 27 [] mix (by kernel_rfl) rfl ?_
 iterate 3 refine AD.p T rfl rfl rfl ?_
 refine AD.pureG T (d:=.g [y2.skater,y2.rank]) [] rfl trivial rfl rfl ?_
 iterate 2 refine AD.pureG T [] rfl trivial rfl rfl ?_
 refine AD.guard [20] rfl ⟨fun h=>h,trivial⟩ (fun hg=>zW rfl rfl rfl rfl) rfl ?_
 refine AD.guard [19,21] rfl ⟨fun h=>h,fun h=>h,trivial⟩ (fun hg=>zXr T rfl rfl rfl rfl rfl rfl (optT hx232 hg)) rfl ?_
 refine AD.guard [22] rfl ⟨fun h=>h,trivial⟩ (fun hg=>zLr T rfl rfl rfl rfl (zgG (optT hx232 hg)) rfl rfl rfl) rfl ?_
 refine AD.nil (AO.d [18,23] rfl ⟨fun h=>h,fun h=>h,trivial⟩ (fun hg=>zV rfl rfl rfl rfl (spec_soBehind_ok _ _ _ (optT hx234 hg)) rfl) rfl ?_)
 refine AO.v rfl rfl (zN rfl rfl rfl rfl) ?_
 refine AO.n (AW.c (b:=(decide (v229 > 0) && x233)) rfl (fun hc=>?_) (fun hc=>?_))
 replace hH:=condT hc hH
 refine AW.k (AW.b ?_)
 refine AW.r (AO.pu T ?_)
 refine AO.v rfl rfl (zW rfl rfl rfl rfl) ?_
 refine AO.pu T ?_
 refine AO.n ?_
 refine ⟨(k219,w64 (v229 - 1)),hH,Nat.lt_succ_self _,?_⟩
 exact Le.ct 0 0
 replace hH:=condF hc hH
 refine AW.exit ?_
 refine ⟨_,zS hH,?_⟩
 exact Le.ct 0 0
 rintro v216 hs
 subst hs
 replace hH:=hK218
 try dsimp only [flow,flowE] at hH
 try dsimp only
 obtain ⟨x235,hx236,hH⟩:=zB hH
 obtain ⟨u237,hx238,hH⟩:=zB hH
 obtain ⟨u239,hx240,hH⟩:=zB hH
 obtain ⟨x241,hx242,hH⟩:=zB hH
 obtain ⟨u243,hx244,hH⟩:=zB hH
 refine AW.le (Le.fM 15 (g:=ze1) rfl (fun y=>.vs rfl)) ?_
 refine AW.drawn 11 27 [] mix (by kernel_rfl) rfl ?_
 refine AD.v (FStep.mk0 T rfl rfl rfl rfl rfl) ?_
 iterate 2 refine AD.p T rfl rfl rfl ?_
 refine AD.w rfl rfl (slice_hi_map_ok T rfl rfl rfl rfl rfl (hx236) (fun _=>rfl)) ?_
 refine AD.q (FStep.app_ws T rfl rfl rfl rfl rfl rfl rfl (by decide) (by decide) rfl rfl (fun _=>rfl) (needT (hx238)) rfl) (by simp [namesIn]) (Nat.le_succ _) rfl ?_
 refine AD.p T (d:=.g [y2.skater,y2.rank]) rfl rfl rfl ?_
 refine AD.q (FStep.mk T (f:=ze1) (l:=[y2]) rfl rfl rfl rfl rfl rfl rfl rfl rfl (fun _=>rfl) rfl rfl rfl rfl) (by simp [namesIn]) (Nat.le_succ _) rfl ?_
 refine AD.k rfl rfl (FStep.app_rv T rfl rfl rfl rfl rfl rfl rfl (by decide) rfl rfl rfl rfl (fun _=>rfl) (needT (hx240)) rfl) rfl rfl rfl ?_
 iterate 2 refine AD.p T rfl rfl rfl ?_
 refine AD.w rfl rfl (slice_lo_map_ok T rfl rfl rfl rfl rfl (hx242) (fun _=>rfl)) ?_
 refine AD.nil (AO.s rfl (app_rs_map T rfl 30 rfl rfl rfl rfl rfl (by decide) (by decide) rfl rfl rfl (fun _=>rfl) (needT (hx244)) rfl rfl) ?_)
 refine AO.pu T ?_
 refine AO.n ?_
 refine ⟨_,zS hH,?_⟩
 exact Le.ct 30 25
 rintro v198 hs
 subst hs
 replace hH:=hK200
 try dsimp only [flow,flowE] at hH
 try dsimp only
 refine AW.r (AO.v rfl rfl (zR rfl rfl rfl rfl (zK hlt6 hb5)) ?_)
 refine AO.pu T ?_
 refine AO.n ?_
 refine ⟨(k1+1,v198),⟨Nat.succ_le_of_lt hlt6,(by rw [zds hd4];exact hH)⟩,(by have:=hlt6;dsimp only;omega),?_⟩
 exact Le.ct 25 15

def spec_dwSizes_l1 (n:Int) (groups:Int):Nat→List Int→Int→Option ((List Int))
 | 0,_,_=>none
 | k1+1,v16,v17 =>
  cond (decide (v17 < groups))
   ((need (groups != 0)).bind fun u19 =>
   cond (decide (v17 < (n.tmod groups)))
    ((need (fitsB 8 (v16.length+([w64 ((w64 (n.tdiv groups))+1)]).length))).bind fun u21 =>
    spec_dwSizes_l1 n groups k1 (v16++[w64 ((w64 (n.tdiv groups))+1)]) (w64 (v17+1)))
    ((need (fitsB 8 (v16.length+([w64 (n.tdiv groups)]).length))).bind fun u23 =>
    spec_dwSizes_l1 n groups k1 (v16++[w64 (n.tdiv groups)]) (w64 (v17+1))))
   (some v16)
def spec_dwSizes_p (fuel:Nat) (n:Int) (groups:Int):Option (List Int) :=
 spec_dwSizes_l1 n groups fuel [] 0
theorem spec_dwSizes_ok (fuel:Nat) (n:Int) (groups:Int) (r:(List Int)) (hH:spec_dwSizes_p fuel n groups=some r):SpecR Tryz.prog 154 [n,groups] (.w 1 (r.map ze0)):=by
 refine zFn T Tryz.func154 rfl (by decide) rfl ?_
 refine AW.q (AW.r (AO.pu T ?_))
 refine AO.n (AW.q (AW.r ?_))
 refine AO.pu T ?_
 refine AO.n ?_
 iterate 2 refine AW.q ?_
 refine AW.r (AO.pu T ?_)
 refine AO.n (AW.b ?_)
 refine AW.loopS (fun s:Nat × (List Int) × Int=>(⟨[(0,n),(1,groups),(5,.R 6),(6,s.2.2)],[(6,.row 1 (List.map ze0 s.2.1))],28,[]⟩:St)) (fun s=>spec_dwSizes_l1 n groups s.1 s.2.1 s.2.2=some r) (fun s=>s.1) (fuel,[],0) hH ?_ ?_
 refine Le.trans (Le.void 5 6 1 rfl rfl) ?_
 exact Le.ct 0 0
 rintro ⟨k1,v16,v17⟩ hH
 replace hH:spec_dwSizes_l1 n groups k1 v16 v17=some r:=hH
 try dsimp only
 rcases k1 with _ | k1
 cases (show none=some _ from hH)
 rw [spec_dwSizes_l1] at hH
 iterate 2 refine AW.q ?_
 refine AW.r ?_
 iterate 3 refine AO.pu T ?_
 refine AO.n (AW.c (b:=decide (v17 < groups)) rfl (fun hc=>?_) (fun hc=>?_))
 replace hH:=condT hc hH
 refine AW.k (AW.q ?_)
 refine AW.b (AW.q ?_)
 obtain ⟨u19,hx20,hH⟩:=zB hH
 refine AW.r ?_
 iterate 2 refine AO.pu T ?_
 refine AO.v rfl rfl (quow_ok rfl rfl rfl (neZ (needT (hx20)))) ?_
 refine AO.pu T ?_
 refine AO.n ?_
 iterate 2 refine AW.q ?_
 refine AW.r ?_
 iterate 3 refine AO.pu T ?_
 refine AO.v rfl rfl (rem_ok rfl rfl rfl (neZ (needT (hx20)))) ?_
 refine AO.pu T ?_
 refine AO.n (AW.c (b:=decide (v17 < (n.tmod groups))) rfl (fun hc=>?_) (fun hc=>?_))
 replace hH:=condT hc hH
 refine AW.r (AO.pu T ?_)
 refine AO.v rfl rfl (zW rfl rfl rfl rfl) ?_
 refine AO.pu T ?_
 refine AO.n ?_
 obtain ⟨u21,hx22,hH⟩:=zB hH
 refine AW.r ?_
 iterate 2 refine AO.pu T ?_
 refine AO.s rfl (mk_map_ok T rfl 9 rfl rfl rfl rfl rfl (f:=ze0) (l:=[w64 ((w64 (n.tdiv groups))+1)]) rfl rfl (fun _=>rfl) rfl rfl rfl rfl rfl) ?_
 refine AO.s rfl (zAr T rfl 10 rfl rfl rfl rfl rfl (by decide) rfl rfl rfl rfl (fun _=>rfl) (needT (hx22)) rfl rfl) ?_
 refine AO.pu T ?_
 refine AO.n (AW.r ?_)
 refine AO.pu T ?_
 refine AO.v rfl rfl (zW rfl rfl rfl rfl) ?_
 refine AO.pu T ?_
 refine AO.n ?_
 refine ⟨(k1,(v16++[w64 ((w64 (n.tdiv groups))+1)]),w64 (v17+1)),hH,Nat.lt_succ_self _,?_⟩
 exact Le.ct 10 6
 replace hH:=condF hc hH
 refine AW.k ?_
 obtain ⟨u23,hx24,hH⟩:=zB hH
 refine AW.r ?_
 iterate 2 refine AO.pu T ?_
 refine AO.s rfl (mk_map_ok T rfl 11 rfl rfl rfl rfl rfl (f:=ze0) (l:=[w64 (n.tdiv groups)]) rfl rfl (fun _=>rfl) rfl rfl rfl rfl rfl) ?_
 refine AO.s rfl (zAr T rfl 12 rfl rfl rfl rfl rfl (by decide) rfl rfl rfl rfl (fun _=>rfl) (needT (hx24)) rfl rfl) ?_
 refine AO.pu T ?_
 refine AO.n (AW.r ?_)
 refine AO.pu T ?_
 refine AO.v rfl rfl (zW rfl rfl rfl rfl) ?_
 refine AO.pu T ?_
 refine AO.n ?_
 refine ⟨(k1,(v16++[w64 (n.tdiv groups)]),w64 (v17+1)),hH,Nat.lt_succ_self _,?_⟩
 exact Le.ct 12 6
 replace hH:=condF hc hH
 refine AW.exit (AW.q (AW.r ?_))
 iterate 2 refine AO.pu T ?_
 refine AO.n (AW.t ?_)
 have hR:=zS hH;subst hR
 exact retQ.i [6] rfl (.c (.c (.rowR rfl)))

def spec_soGroups_l2 (fuel:Nat) (y8:Int) (v103:List Entrant) (v104:List (List Int)):List Entrant→Nat→List Int→Option ((List Entrant) × (List (List Int)))
 | [],k132,v143 =>
  (need (fitsB 24 (v104.length+([v143]).length))).bind fun u145 =>
  (sliceLo v103 y8).bind fun x147 =>
  some (x147,(v104++[v143]))
 | y133::ys134,k132,v143 =>
  (spec_l1Put_p fuel v143 y133.skater).bind fun x149 =>
  spec_soGroups_l2 fuel y8 v103 v104 ys134 (k132+1) x149
def spec_soGroups_l1 (fuel:Nat):List Int→Nat→List Entrant→List (List Int)→Option (((List (List Int)) × Bool))
 | [],k7,v103,v104 =>
  some (v104,true)
 | y8::ys9,k7,v103,v104 =>
  ((sliceHi v103 y8).bind fun x130 =>
  spec_soGroups_l2 fuel y8 v103 v104 x130 0 []).bind fun (v126,v127) =>
  spec_soGroups_l1 fuel ys9 (k7+1) v126 v127
def spec_soGroups_p (fuel:Nat) (l:List Entrant) (size:Int):Option ((List (List Int)) × Bool) :=
 (need (size != 0)).bind fun u1 =>
 cond ((w64 ((w64 ((w64 ((l.length:Int)+size)) - 1)).tdiv size)) == 0)
  (some ([],true))
  (cond (decide ((w64 ((w64 ((w64 ((l.length:Int)+size)) - 1)).tdiv size)) > 8))
   (some ([],false))
   ((spec_soSorted_p fuel l).bind fun x3 =>
   (spec_dwSizes_p fuel (l.length:Int) (w64 ((w64 ((w64 ((l.length:Int)+size)) - 1)).tdiv size))).bind fun x5 =>
   spec_soGroups_l1 fuel x5 0 x3 []))
theorem spec_soGroups_ok (fuel:Nat) (l:List Entrant) (size:Int) (r:((List (List Int)) × Bool)) (hH:spec_soGroups_p fuel l size=some r):SpecR Tryz.prog 125 [.s (List.map ze1 l),size] (.t [.w 1 (r.1.map ze12),.v (.bool r.2)]):=by
 refine zFn T Tryz.func125 rfl (by decide) rfl ?_
 refine AW.q (AW.r ?_)
 iterate 2 refine AO.pu T ?_
 refine AO.n (AW.q ?_)
 obtain ⟨u1,hx2,hH⟩:=zB hH
 refine AW.r (AO.pu T ?_)
 refine AO.v rfl rfl (zL T rfl rfl rfl) ?_
 refine AO.pu T ?_
 iterate 2 refine AO.v rfl rfl (zW rfl rfl rfl rfl) ?_
 refine AO.pu T ?_
 refine AO.v rfl rfl (quow_ok rfl rfl rfl (neZ (needT (hx2)))) ?_
 refine AO.pu T ?_
 refine AO.n ?_
 iterate 2 refine AW.q ?_
 refine AW.r ?_
 iterate 2 refine AO.pu T ?_
 refine AO.n (AW.c (b:=((w64 ((w64 ((w64 ((l.length:Int)+size)) - 1)).tdiv size)) == 0)) rfl (fun hc=>?_) (fun hc=>?_))
 replace hH:=condT hc hH
 refine AW.q (AW.r ?_)
 iterate 2 refine AO.pu T ?_
 refine AO.n (AW.t ?_)
 have hR:=zS hH;subst hR
 exact retQ.i [] rfl (.t (zG (.c .nil) (zG (.c .v) (zGn))))
 replace hH:=condF hc hH
 refine AW.k ?_
 iterate 2 refine AW.q ?_
 refine AW.r ?_
 iterate 2 refine AO.pu T ?_
 refine AO.n (AW.c (b:=decide ((w64 ((w64 ((w64 ((l.length:Int)+size)) - 1)).tdiv size)) > 8)) rfl (fun hc=>?_) (fun hc=>?_))
 replace hH:=condT hc hH
 refine AW.q (AW.r ?_)
 iterate 2 refine AO.pu T ?_
 refine AO.n (AW.t ?_)
 have hR:=zS hH;subst hR
 exact retQ.i [] rfl (.t (zG (.c .nil) (zG (.c .v) (zGn))))
 replace hH:=condF hc hH
 refine AW.k (AW.q ?_)
 obtain ⟨x3,hx4,hH⟩:=zB hH
 refine AW.r (AO.pu T ?_)
 refine AO.s rfl (call_ok rfl 1 rfl rfl rfl (spec_soSorted_ok fuel _ _ (hx4)) rfl rfl rfl) ?_
 refine AO.pu T ?_
 refine AO.n (AW.q (AW.r ?_))
 refine AO.pu T ?_
 refine AO.n ?_
 iterate 2 refine AW.q ?_
 obtain ⟨x5,hx6,hH⟩:=zB hH
 refine AW.r (AO.pu T ?_)
 refine AO.v rfl rfl (zL T rfl rfl rfl) ?_
 refine AO.pu T ?_
 refine AO.s rfl (call_ok rfl 2 rfl rfl rfl (spec_dwSizes_ok fuel _ _ _ (hx6)) rfl rfl rfl) ?_
 refine AO.v rfl rfl (len_row_ok T rfl rfl rfl rfl) ?_
 refine AO.pu T ?_
 refine AO.n (AW.le (Le.ct 0 0 (σ':=(⟨[(7,.R 1),(8,.w 0 []),(30,.R 2),(31,(x5.length:Int)),(32,(0:Int))],[(1,.row 2 (List.map ze1 x3)),(2,.row 1 (List.map ze0 x5))],58,[]⟩:St))) ?_)
 refine AW.b (AW.loopS (fun s:Nat × (List Entrant) × (List (List Int))=>(⟨[(7,.s (List.map ze1 s.2.1)),(8,.R 16),(30,.R 2),(31,(x5.length:Int)),(32,(s.1:Int))],[(2,.row 1 (List.map ze0 x5)),(16,.row 1 (List.map ze12 s.2.2))],58,[]⟩:St)) (fun s=>s.1 ≤ x5.length∧spec_soGroups_l1 fuel (x5.drop s.1) s.1 s.2.1 s.2.2=some r) (fun s=>x5.length - s.1) (0,x3,[]) ⟨Nat.zero_le _,hH⟩ ?_ ?_)
 refine Le.trans (Le.fM 1 (g:=ze1) rfl (fun y=>.vs rfl)) ?_
 refine Le.trans (Le.void 8 16 1 rfl rfl) ?_
 exact Le.ct 0 0
 rintro ⟨k7,v103,v104⟩ ⟨hk,hH⟩
 replace hH:spec_soGroups_l1 fuel (x5.drop k7) k7 v103 v104=some r:=hH
 try dsimp only
 refine AW.boundR (id:=2) (l:=x5) rfl (fun hb11=>?_)
 rcases hd10:x5.drop k7 with _ | ⟨y8,ys9⟩
 rw [hd10,spec_soGroups_l1] at hH
 have hlt12:=drop_ge hd10
 refine AW.q (AW.r (AO.pu T ?_))
 refine AO.n (AW.q (AW.condF' (b:=decide ((k7:Int) < (x5.length:Int))) rfl (rngF hlt12) ?_))
 refine AW.exit (AW.q (AW.r ?_))
 iterate 3 refine AO.pu T ?_
 refine AO.n (AW.t ?_)
 have hR:=zS hH;subst hR
 exact retQ.i [16] rfl (.t (zG (.c (.rowR rfl)) (zG (.c .v) (zGn))))
 rw [hd10,spec_soGroups_l1] at hH
 have hlt12:=drop_lt hd10
 refine AW.q (AW.r (AO.pu T ?_))
 refine AO.n (AW.q (AW.condT' (b:=decide ((k7:Int) < (x5.length:Int))) rfl (rngT hlt12) ?_))
 refine AW.k ?_
 obtain ⟨o128,hH,hK129⟩:=zB hH
 refine AW.seqJ (fun s:(List Entrant) × (List (List Int))=>(⟨[(7,.s (List.map ze1 s.1)),(8,.R 26),(30,.R 2),(31,(x5.length:Int)),(32,(k7:Int))],[(2,.row 1 (List.map ze0 x5)),(26,.row 1 (List.map ze12 s.2))],58,[]⟩:St)) (fun s=>s=o128) ?_ ?_
 refine AW.b (AW.q (AW.r ?_))
 refine AO.v rfl rfl (zXr T rfl rfl rfl rfl rfl rfl (zgD hd10)) ?_
 refine AO.v rfl rfl (zLr T rfl rfl rfl rfl (zgG (zgD hd10)) rfl rfl rfl) ?_
 refine AO.pu T ?_
 refine AO.n (AW.q (AW.r ?_))
 refine AO.pu T ?_
 refine AO.n ?_
 iterate 2 refine AW.q ?_
 obtain ⟨x130,hx131,hH⟩:=zB hH
 refine AW.r ?_
 iterate 2 refine AO.pu T ?_
 refine AO.v rfl rfl (slice_hi_map_ok T rfl rfl rfl rfl rfl (hx131) (fun _=>rfl)) ?_
 refine AO.v rfl rfl (zL T rfl rfl rfl) ?_
 refine AO.pu T ?_
 refine AO.n (AW.b ?_)
 refine AW.loopS (fun s:Nat × (List Int)=>(⟨[(7,.s (List.map ze1 v103)),(8,.R 16),(10,y8),(11,.s (List.map ze0 s.2)),(30,.R 2),(31,(x5.length:Int)),(32,(k7:Int)),(38,.s (List.map ze1 x130)),(39,(x130.length:Int)),(40,(s.1:Int))],[(2,.row 1 (List.map ze0 x5)),(16,.row 1 (List.map ze12 v104))],58,[]⟩:St)) (fun s=>s.1 ≤ x130.length∧spec_soGroups_l2 fuel y8 v103 v104 (x130.drop s.1) s.1 s.2=some o128) (fun s=>x130.length - s.1) (0,[]) ⟨Nat.zero_le _,hH⟩ ?_ ?_
 refine Le.trans (Le.nilS 11 rfl) ?_
 exact Le.ct 0 0
 rintro ⟨k132,v143⟩ ⟨hk,hH⟩
 replace hH:spec_soGroups_l2 fuel y8 v103 v104 (x130.drop k132) k132 v143=some o128:=hH
 try dsimp only
 refine AW.boundM (t:=38) (l:=x130) rfl (fun hb136=>?_)
 rcases hd135:x130.drop k132 with _ | ⟨y133,ys134⟩
 rw [hd135,spec_soGroups_l2] at hH
 have hlt137:=drop_ge hd135
 refine AW.q (AW.r (AO.pu T ?_))
 refine AO.n (AW.q (AW.condF' (b:=decide ((k132:Int) < (x130.length:Int))) rfl (rngF hlt137) ?_))
 refine AW.exit (AW.q ?_)
 obtain ⟨u145,hx146,hH⟩:=zB hH
 refine AW.r ?_
 iterate 2 refine AO.pu T ?_
 refine AO.s rfl (mk_map_ok T rfl 30 rfl rfl rfl rfl rfl (f:=ze12) (l:=[v143]) rfl rfl (fun _=>rfl) rfl rfl rfl rfl rfl) ?_
 refine AO.s rfl (zAr T rfl 31 rfl rfl rfl rfl rfl (by decide) rfl rfl rfl rfl (fun _=>rfl) (needT (hx146)) rfl rfl) ?_
 refine AO.pu T ?_
 refine AO.n ?_
 obtain ⟨x147,hx148,hH⟩:=zB hH
 refine AW.r ?_
 iterate 2 refine AO.pu T ?_
 refine AO.v rfl rfl (slice_lo_map_ok T rfl rfl rfl rfl rfl (hx148) (fun _=>rfl)) ?_
 refine AO.pu T ?_
 refine AO.n ?_
 refine ⟨_,zS hH,?_⟩
 exact Le.ct 31 26
 rw [hd135,spec_soGroups_l2] at hH
 have hlt137:=drop_lt hd135
 refine AW.q (AW.r (AO.pu T ?_))
 refine AO.n (AW.q (AW.condT' (b:=decide ((k132:Int) < (x130.length:Int))) rfl (rngT hlt137) ?_))
 refine AW.k (AW.q ?_)
 refine AW.b (AW.q (AW.r ?_))
 refine AO.v rfl rfl (zX T rfl rfl rfl rfl rfl (zgD hd135) rfl) ?_
 refine AO.pu T (d:=.g [y133.skater,y133.rank]) ?_
 refine AO.s rfl (zA T rfl 32 rfl rfl rfl rfl rfl) ?_
 refine AO.se T [y133.skater,y133.rank] ?_
 refine AO.n ?_
 obtain ⟨x149,hx150,hH⟩:=zB hH
 refine AW.r ?_
 iterate 3 refine AO.pu T ?_
 refine AO.v rfl rfl (zV rfl rfl rfl rfl (spec_l1Put_ok fuel _ _ _ (hx150)) rfl) ?_
 refine AO.pu T ?_
 refine AO.n (AW.r ?_)
 refine AO.v rfl rfl (zR rfl rfl rfl rfl (zK hlt137 hb136)) ?_
 refine AO.pu T ?_
 refine AO.n ?_
 refine ⟨(k132+1,x149),⟨Nat.succ_le_of_lt hlt137,(by rw [zds hd135];exact hH)⟩,(by have:=hlt137;dsimp only;omega),?_⟩
 exact Le.ct 0 0
 rintro ⟨v126,v127⟩ hs
 subst hs
 replace hH:=hK129
 try dsimp only [flow,flowE] at hH
 try dsimp only
 refine AW.r (AO.v rfl rfl (zR rfl rfl rfl rfl (zK hlt12 hb11)) ?_)
 refine AO.pu T ?_
 refine AO.n ?_
 refine ⟨(k7+1,v126,v127),⟨Nat.succ_le_of_lt hlt12,(by rw [zds hd10];exact hH)⟩,(by have:=hlt12;dsimp only;omega),?_⟩
 exact Le.ct 26 16

def spec_dwMix_l1 (x1:(List Int)):Nat→Int→Int→Option Int
 | 0,_,_=>none
 | k5+1,v20,v21 =>
  cond (decide (v21 < (((x1++([4,1]:List Int))).length:Int)))
   ((getI (x1++([4,1]:List Int)) v21).bind fun x23 =>
   (need (1000003 != 0)).bind fun u25 =>
   (need (16 != 0)).bind fun u27 =>
   spec_dwMix_l1 x1 k5 ((w64 (((w64 ((w64 ((w64 (29 * v20))+x23))+13)).tmod 1000003) * (w64 ((w64 (((w64 ((w64 ((w64 (29 * v20))+x23))+13)).tmod 1000003).tdiv 16))+5)))).tmod 1000003) (w64 (v21+1)))
   (some v20)
def spec_dwMix_p (fuel:Nat) (keys:List Int):Option Int :=
 (spec_l1Own_p keys).bind fun x1 =>
 (need (fitsB 8 (x1.length+(([4,1]:List Int)).length))).bind fun u3 =>
 spec_dwMix_l1 x1 fuel (w64 (5231+(keys.length:Int))) 0
theorem spec_dwMix_ok (fuel:Nat) (keys:List Int) (r:Int) (hH:spec_dwMix_p fuel keys=some r):SpecR Tryz.prog 182 [.s (List.map ze0 keys)] (.v (.int .i64 r)):=by
 refine zFn T Tryz.func182 rfl (by decide) rfl ?_
 refine AW.q (AW.r (AO.pu T ?_))
 refine AO.n (AW.q (AW.r ?_))
 refine AO.pu T ?_
 refine AO.v rfl rfl (zL T rfl rfl rfl) ?_
 refine AO.v rfl rfl (zW rfl rfl rfl rfl) ?_
 refine AO.pu T ?_
 refine AO.n ?_
 iterate 2 refine AW.q ?_
 obtain ⟨x1,hx2,hH⟩:=zB hH
 obtain ⟨u3,hx4,hH⟩:=zB hH
 refine AW.r (AO.pu T ?_)
 refine AO.s rfl (call_ok rfl 1 rfl rfl rfl (spec_l1Own_ok _ _ (hx2)) rfl rfl rfl) ?_
 refine AO.s rfl (mk_map_ok T rfl 2 rfl rfl rfl rfl rfl (f:=ze0) (l:=([4,1]:List Int)) rfl rfl (fun _=>rfl) rfl rfl rfl rfl rfl) ?_
 refine AO.s rfl (zAr T rfl 3 rfl rfl rfl rfl rfl (by decide) rfl rfl rfl rfl (fun _=>rfl) (needT (hx4)) rfl rfl) ?_
 refine AO.v rfl rfl (len_row_ok T rfl rfl rfl rfl) ?_
 refine AO.pu T ?_
 refine AO.n (AW.b ?_)
 refine AW.loopS (fun s:Nat × Int × Int=>(⟨[(3,s.2.1),(12,.R 3),(13,(((x1++([4,1]:List Int))).length:Int)),(14,s.2.2)],[(3,.row 1 (List.map ze0 (x1++([4,1]:List Int))))],32,[]⟩:St)) (fun s=>spec_dwMix_l1 x1 s.1 s.2.1 s.2.2=some r) (fun s=>s.1) (fuel,w64 (5231+(keys.length:Int)),0) hH ?_ ?_
 exact Le.ct 0 0
 rintro ⟨k5,v20,v21⟩ hH
 replace hH:spec_dwMix_l1 x1 k5 v20 v21=some r:=hH
 try dsimp only
 rcases k5 with _ | k5
 cases (show none=some _ from hH)
 rw [spec_dwMix_l1] at hH
 refine AW.q (AW.r (AO.pu T ?_))
 refine AO.n (AW.q (AW.c (b:=decide (v21 < (((x1++([4,1]:List Int))).length:Int))) rfl (fun hc=>?_) (fun hc=>?_)))
 replace hH:=condT hc hH
 refine AW.k (AW.q ?_)
 refine AW.b (AW.q ?_)
 obtain ⟨x23,hx24,hH⟩:=zB hH
 refine AW.r (AO.v rfl rfl (zXr T rfl rfl rfl rfl rfl rfl (hx24)) ?_)
 refine AO.v rfl rfl (zLr T rfl rfl rfl rfl (zgG (hx24)) rfl rfl rfl) ?_
 refine AO.pu T ?_
 refine AO.n (AW.q ?_)
 obtain ⟨u25,hx26,hH⟩:=zB hH
 refine AW.r (AO.pu T ?_)
 refine AO.v rfl rfl (zW rfl rfl rfl rfl) ?_
 refine AO.pu T ?_
 iterate 2 refine AO.v rfl rfl (zW rfl rfl rfl rfl) ?_
 refine AO.v rfl rfl (rem_ok rfl rfl rfl (neZ (needT (hx26)))) ?_
 refine AO.pu T ?_
 refine AO.n ?_
 obtain ⟨u27,hx28,hH⟩:=zB hH
 refine AW.r ?_
 iterate 2 refine AO.pu T ?_
 refine AO.v rfl rfl (quow_ok rfl rfl rfl (neZ (needT (hx28)))) ?_
 iterate 2 refine AO.v rfl rfl (zW rfl rfl rfl rfl) ?_
 refine AO.v rfl rfl (rem_ok rfl rfl rfl (neZ (needT (hx26)))) ?_
 refine AO.pu T ?_
 refine AO.n (AW.r ?_)
 refine AO.v rfl rfl (zW rfl rfl rfl rfl) ?_
 refine AO.pu T ?_
 refine AO.n ?_
 refine ⟨(k5,((w64 (((w64 ((w64 ((w64 (29 * v20))+x23))+13)).tmod 1000003) * (w64 ((w64 (((w64 ((w64 ((w64 (29 * v20))+x23))+13)).tmod 1000003).tdiv 16))+5)))).tmod 1000003),w64 (v21+1)),hH,Nat.lt_succ_self _,?_⟩
 exact Le.ct 0 0
 replace hH:=condF hc hH
 refine AW.exit (AW.q (AW.r ?_))
 iterate 2 refine AO.pu T ?_
 refine AO.n (AW.t ?_)
 have hR:=zS hH;subst hR
 exact retQ.i [] rfl (.c (.c .v))

def spec_dwBelow_p (fuel:Nat) (keys:List Int) (n:Int):Option Int :=
 (spec_l1Own_p keys).bind fun x1 =>
 (need (fitsB 8 (x1.length+([n]).length))).bind fun u3 =>
 (spec_dwMix_p fuel (x1++[n])).bind fun x5 =>
 (need (n != 0)).bind fun u7 =>
 some (x5.tmod n)
theorem spec_dwBelow_ok (fuel:Nat) (keys:List Int) (n:Int) (r:Int) (hH:spec_dwBelow_p fuel keys n=some r):SpecR Tryz.prog 173 [.s (List.map ze0 keys),n] (.v (.int .i64 r)):=by
 refine zFn T Tryz.func173 rfl (by decide) rfl ?_
 refine AW.q (AW.r (AO.pu T ?_))
 refine AO.n (AW.q ?_)
 obtain ⟨x1,hx2,hH⟩:=zB hH
 obtain ⟨u3,hx4,hH⟩:=zB hH
 obtain ⟨x5,hx6,hH⟩:=zB hH
 obtain ⟨u7,hx8,hH⟩:=zB hH
 refine AW.r (AO.pu T ?_)
 refine AO.s rfl (call_ok rfl 1 rfl rfl rfl (spec_l1Own_ok _ _ (hx2)) rfl rfl rfl) ?_
 refine AO.pu T ?_
 refine AO.s rfl (mk_map_ok T rfl 2 rfl rfl rfl rfl rfl (f:=ze0) (l:=[n]) rfl rfl (fun _=>rfl) rfl rfl rfl rfl rfl) ?_
 refine AO.s rfl (zAr T rfl 3 rfl rfl rfl rfl rfl (by decide) rfl rfl rfl rfl (fun _=>rfl) (needT (hx4)) rfl rfl) ?_
 refine AO.v rfl rfl (zLV rfl rfl rfl (es:=[.s (List.map ze0 (x1++[n]))]) ⟨(.rowR rfl (.map fun y=>.vs rfl)),trivial⟩ (spec_dwMix_ok fuel _ _ (hx6)) (zfree_v _) rfl) ?_
 refine AO.pu T ?_
 refine AO.v rfl rfl (rem_ok rfl rfl rfl (neZ (needT (hx8)))) ?_
 refine AO.pu T ?_
 refine AO.n (AW.t ?_)
 have hR:=zS hH;subst hR
 exact retQ.i [] rfl (.c (.c .v))

def spec_dwShuffle_l2 (keys:List Int) (fuel:Nat):Nat→List Int→Int→Option ((List Int))
 | 0,_,_=>none
 | k13+1,v40,v41 =>
  cond (decide (v41 ≥ 1))
   ((spec_l1Own_p keys).bind fun x43 =>
   (need (fitsB 8 (x43.length+([v41]).length))).bind fun u45 =>
   (spec_dwBelow_p fuel (x43++[v41]) (w64 (v41+1))).bind fun x47 =>
   (getI v40 v41).bind fun x49 =>
   (getI v40 x47).bind fun x51 =>
   (getI (v40.set v41.toNat x51) x47).bind fun x53 =>
   spec_dwShuffle_l2 keys fuel k13 ((v40.set v41.toNat x51).set x47.toNat x49) (w64 (v41 - 1)))
   (some v40)
def spec_dwShuffle_l1 (keys:List Int) (n:Int) (fuel:Nat):Nat→List Int→Int→Option ((List Int))
 | 0,_,_=>none
 | k1+1,v8,v9 =>
  cond (decide (v9 < n))
   ((need (fitsB 8 (v8.length+([v9]).length))).bind fun u11 =>
   spec_dwShuffle_l1 keys n fuel k1 (v8++[v9]) (w64 (v9+1)))
   (spec_dwShuffle_l2 keys fuel fuel v8 (w64 (n - 1)))
def spec_dwShuffle_p (fuel:Nat) (keys:List Int) (n:Int):Option (List Int) :=
 spec_dwShuffle_l1 keys n fuel fuel [] 0
theorem spec_dwShuffle_ok (fuel:Nat) (keys:List Int) (n:Int) (r:(List Int)) (hH:spec_dwShuffle_p fuel keys n=some r):SpecR Tryz.prog 155 [.s (List.map ze0 keys),n] (.w 1 (r.map ze0)):=by
 refine zFn T Tryz.func155 rfl (by decide) rfl ?_
 refine AW.q (AW.r (AO.pu T ?_))
 refine AO.n (AW.q (AW.r ?_))
 refine AO.pu T ?_
 refine AO.n ?_
 iterate 2 refine AW.q ?_
 refine AW.r (AO.pu T ?_)
 refine AO.n (AW.b ?_)
 refine AW.loopS (fun s:Nat × (List Int) × Int=>(⟨[(0,.s (List.map ze0 keys)),(1,n),(5,.R 4),(6,s.2.2)],[(4,.row 1 (List.map ze0 s.2.1))],49,[]⟩:St)) (fun s=>spec_dwShuffle_l1 keys n fuel s.1 s.2.1 s.2.2=some r) (fun s=>s.1) (fuel,[],0) hH ?_ ?_
 refine Le.trans (Le.void 5 4 1 rfl rfl) ?_
 exact Le.ct 0 0
 rintro ⟨k1,v8,v9⟩ hH
 replace hH:spec_dwShuffle_l1 keys n fuel k1 v8 v9=some r:=hH
 try dsimp only
 rcases k1 with _ | k1
 cases (show none=some _ from hH)
 rw [spec_dwShuffle_l1] at hH
 iterate 2 refine AW.q ?_
 refine AW.r ?_
 iterate 3 refine AO.pu T ?_
 refine AO.n (AW.c (b:=decide (v9 < n)) rfl (fun hc=>?_) (fun hc=>?_))
 replace hH:=condT hc hH
 refine AW.k (AW.q ?_)
 refine AW.b ?_
 obtain ⟨u11,hx12,hH⟩:=zB hH
 refine AW.r ?_
 iterate 2 refine AO.pu T ?_
 refine AO.s rfl (mk_map_ok T rfl 5 rfl rfl rfl rfl rfl (f:=ze0) (l:=[v9]) rfl rfl (fun _=>rfl) rfl rfl rfl rfl rfl) ?_
 refine AO.s rfl (zAr T rfl 6 rfl rfl rfl rfl rfl (by decide) rfl rfl rfl rfl (fun _=>rfl) (needT (hx12)) rfl rfl) ?_
 refine AO.pu T ?_
 refine AO.n (AW.r ?_)
 refine AO.pu T ?_
 refine AO.v rfl rfl (zW rfl rfl rfl rfl) ?_
 refine AO.pu T ?_
 refine AO.n ?_
 refine ⟨(k1,(v8++[v9]),w64 (v9+1)),hH,Nat.lt_succ_self _,?_⟩
 exact Le.ct 6 4
 replace hH:=condF hc hH
 refine AW.exit ?_
 iterate 2 refine AW.q ?_
 refine AW.r (AO.pu T ?_)
 refine AO.v rfl rfl (zW rfl rfl rfl rfl) ?_
 refine AO.pu T ?_
 refine AO.n (AW.b ?_)
 refine AW.loopS (fun s:Nat × (List Int) × Int=>(⟨[(0,.s (List.map ze0 keys)),(5,.R 4),(7,s.2.2)],[(4,.row 1 (List.map ze0 s.2.1))],49,[]⟩:St)) (fun s=>spec_dwShuffle_l2 keys fuel s.1 s.2.1 s.2.2=some r) (fun s=>s.1) (fuel,v8,w64 (n - 1)) hH ?_ ?_
 exact Le.ct 0 0
 rintro ⟨k13,v40,v41⟩ hH
 replace hH:spec_dwShuffle_l2 keys fuel k13 v40 v41=some r:=hH
 try dsimp only
 rcases k13 with _ | k13
 cases (show none=some _ from hH)
 rw [spec_dwShuffle_l2] at hH
 iterate 2 refine AW.q ?_
 refine AW.r ?_
 iterate 2 refine AO.pu T ?_
 refine AO.n (AW.c (b:=decide (v41 ≥ 1)) rfl (fun hc=>?_) (fun hc=>?_))
 replace hH:=condT hc hH
 refine AW.k (AW.q ?_)
 refine AW.b (AW.q ?_)
 obtain ⟨x43,hx44,hH⟩:=zB hH
 obtain ⟨u45,hx46,hH⟩:=zB hH
 obtain ⟨x47,hx48,hH⟩:=zB hH
 refine AW.r (AO.pu T ?_)
 refine AO.s rfl (call_ok rfl 13 rfl rfl rfl (spec_l1Own_ok _ _ (hx44)) rfl rfl rfl) ?_
 refine AO.pu T ?_
 refine AO.s rfl (mk_map_ok T rfl 14 rfl rfl rfl rfl rfl (f:=ze0) (l:=[v41]) rfl rfl (fun _=>rfl) rfl rfl rfl rfl rfl) ?_
 refine AO.s rfl (zAr T rfl 15 rfl rfl rfl rfl rfl (by decide) rfl rfl rfl rfl (fun _=>rfl) (needT (hx46)) rfl rfl) ?_
 refine AO.pu T ?_
 refine AO.v rfl rfl (zW rfl rfl rfl rfl) ?_
 refine AO.v rfl rfl (zLV rfl rfl rfl (es:=[.s (List.map ze0 (x43++[v41])),w64 (v41+1)]) ⟨(.rowR rfl (.map fun y=>.vs rfl)),.free rfl,trivial⟩ (spec_dwBelow_ok fuel _ _ _ (hx48)) (zfree_v _) rfl) ?_
 refine AO.pu T ?_
 refine AO.n (AW.q ?_)
 obtain ⟨x49,hx50,hH⟩:=zB hH
 refine AW.r ?_
 iterate 2 refine AO.pu T ?_
 refine AO.v rfl rfl (zXr T rfl rfl rfl rfl rfl rfl (hx50)) ?_
 refine AO.v rfl rfl (zLr T rfl rfl rfl rfl (zgG (hx50)) rfl rfl rfl) ?_
 refine AO.pu T ?_
 refine AO.n (AW.q ?_)
 obtain ⟨x51,hx52,hH⟩:=zB hH
 refine AW.r ?_
 iterate 4 refine AO.pu T ?_
 refine AO.v rfl rfl (zXr T rfl rfl rfl rfl rfl rfl (hx52)) ?_
 refine AO.v rfl rfl (zLr T rfl rfl rfl rfl (zgG (hx52)) rfl rfl rfl) ?_
 refine AO.v rfl rfl (zXr T rfl rfl rfl rfl rfl rfl (hx50)) ?_
 refine AO.s rfl (zSr T rfl rfl rfl rfl rfl (zgG (hx50)) rfl rfl rfl rfl (u':=x51) rfl rfl) ?_
 refine AO.n (AW.le (Le.ct 0 0 (σ':=(⟨[(0,.s (List.map ze0 keys)),(5,.R 4),(7,v41),(8,x47),(9,x49)],[(4,.row 1 (List.map ze0 (v40.set v41.toNat x51)))],49,[]⟩:St))) ?_)
 obtain ⟨x53,hx54,hH⟩:=zB hH
 refine AW.r ?_
 iterate 3 refine AO.pu T ?_
 refine AO.v rfl rfl (zXr T rfl rfl rfl rfl rfl rfl (hx54)) ?_
 refine AO.s rfl (zSr T rfl rfl rfl rfl rfl (zgG (hx54)) rfl rfl rfl rfl (u':=x49) rfl rfl) ?_
 refine AO.n (AW.r ?_)
 refine AO.pu T ?_
 refine AO.v rfl rfl (zW rfl rfl rfl rfl) ?_
 refine AO.pu T ?_
 refine AO.n ?_
 refine ⟨(k13,((v40.set v41.toNat x51).set x47.toNat x49),w64 (v41 - 1)),hH,Nat.lt_succ_self _,?_⟩
 exact Le.ct 0 0
 replace hH:=condF hc hH
 refine AW.exit (AW.q (AW.r ?_))
 iterate 2 refine AO.pu T ?_
 refine AO.n (AW.t ?_)
 have hR:=zS hH;subst hR
 exact retQ.i [4] rfl (.c (.c (.rowR rfl)))

def spec_dwNumbers_l1 (l:List Int):List Int→Nat→List Int→Option ((List Int))
 | [],k3,v18 =>
  some v18
 | y4::ys5,k3,v18 =>
  (getI l y4).bind fun x20 =>
  (need (fitsB 8 (v18.length+([x20]).length))).bind fun u22 =>
  spec_dwNumbers_l1 l ys5 (k3+1) (v18++[x20])
def spec_dwNumbers_p (fuel:Nat) (keys:List Int) (l:List Int):Option (List Int) :=
 (spec_dwShuffle_p fuel keys (l.length:Int)).bind fun x1 =>
 spec_dwNumbers_l1 l x1 0 []
theorem spec_dwNumbers_ok (fuel:Nat) (keys:List Int) (l:List Int) (r:(List Int)) (hH:spec_dwNumbers_p fuel keys l=some r):SpecR Tryz.prog 126 [.s (List.map ze0 keys),.s (List.map ze0 l)] (.w 1 (r.map ze0)):=by
 refine zFn T Tryz.func126 rfl (by decide) rfl ?_
 refine AW.q (AW.r (AO.pu T ?_))
 refine AO.n (AW.q (AW.r ?_))
 refine AO.pu T ?_
 refine AO.n ?_
 iterate 2 refine AW.q ?_
 obtain ⟨x1,hx2,hH⟩:=zB hH
 refine AW.r ?_
 iterate 2 refine AO.pu T ?_
 refine AO.v rfl rfl (zL T rfl rfl rfl) ?_
 refine AO.s rfl (call_ok rfl 1 rfl rfl rfl (spec_dwShuffle_ok fuel _ _ _ (hx2)) rfl rfl rfl) ?_
 refine AO.v rfl rfl (len_row_ok T rfl rfl rfl rfl) ?_
 refine AO.pu T ?_
 refine AO.n (AW.b ?_)
 refine AW.loopS (fun s:Nat × (List Int)=>(⟨[(1,.s (List.map ze0 l)),(5,.R 5),(11,.R 1),(12,(x1.length:Int)),(13,(s.1:Int))],[(1,.row 1 (List.map ze0 x1)),(5,.row 1 (List.map ze0 s.2))],26,[]⟩:St)) (fun s=>s.1 ≤ x1.length∧spec_dwNumbers_l1 l (x1.drop s.1) s.1 s.2=some r) (fun s=>x1.length - s.1) (0,[]) ⟨Nat.zero_le _,hH⟩ ?_ ?_
 refine Le.trans (Le.void 5 5 1 rfl rfl) ?_
 exact Le.ct 0 0
 rintro ⟨k3,v18⟩ ⟨hk,hH⟩
 replace hH:spec_dwNumbers_l1 l (x1.drop k3) k3 v18=some r:=hH
 try dsimp only
 refine AW.boundR (id:=1) (l:=x1) rfl (fun hb7=>?_)
 rcases hd6:x1.drop k3 with _ | ⟨y4,ys5⟩
 rw [hd6,spec_dwNumbers_l1] at hH
 have hlt8:=drop_ge hd6
 refine AW.q (AW.r (AO.pu T ?_))
 refine AO.n (AW.q (AW.condF' (b:=decide ((k3:Int) < (x1.length:Int))) rfl (rngF hlt8) ?_))
 refine AW.exit (AW.q (AW.r ?_))
 iterate 2 refine AO.pu T ?_
 refine AO.n (AW.t ?_)
 have hR:=zS hH;subst hR
 exact retQ.i [5] rfl (.c (.c (.rowR rfl)))
 rw [hd6,spec_dwNumbers_l1] at hH
 have hlt8:=drop_lt hd6
 refine AW.q (AW.r (AO.pu T ?_))
 refine AO.n (AW.q (AW.condT' (b:=decide ((k3:Int) < (x1.length:Int))) rfl (rngT hlt8) ?_))
 refine AW.k (AW.q ?_)
 refine AW.b (AW.q (AW.r ?_))
 refine AO.v rfl rfl (zXr T rfl rfl rfl rfl rfl rfl (zgD hd6)) ?_
 refine AO.v rfl rfl (zLr T rfl rfl rfl rfl (zgG (zgD hd6)) rfl rfl rfl) ?_
 refine AO.pu T ?_
 refine AO.n ?_
 obtain ⟨x20,hx21,hH⟩:=zB hH
 obtain ⟨u22,hx23,hH⟩:=zB hH
 refine AW.r ?_
 iterate 3 refine AO.pu T ?_
 refine AO.v rfl rfl (zX T rfl rfl rfl rfl rfl (hx21) rfl) ?_
 refine AO.pu T ?_
 refine AO.s rfl (mk_map_ok T rfl 6 rfl rfl rfl rfl rfl (f:=ze0) (l:=[x20]) rfl rfl (fun _=>rfl) rfl rfl rfl rfl rfl) ?_
 refine AO.s rfl (zAr T rfl 7 rfl rfl rfl rfl rfl (by decide) rfl rfl rfl rfl (fun _=>rfl) (needT (hx23)) rfl rfl) ?_
 refine AO.pu T ?_
 refine AO.n (AW.r ?_)
 refine AO.v rfl rfl (zR rfl rfl rfl rfl (zK hlt8 hb7)) ?_
 refine AO.pu T ?_
 refine AO.n ?_
 refine ⟨(k3+1,(v18++[x20])),⟨Nat.succ_le_of_lt hlt8,(by rw [zds hd6];exact hH)⟩,(by have:=hlt8;dsimp only;omega),?_⟩
 exact Le.ct 7 5

def spec_StartOrder_l1 (keys:List Int) (fuel:Nat) (x7:((List (List Int)) × Bool)):List (List Int)→Nat→List Int→Option (((List Int) × Bool))
 | [],k9,v32 =>
  some (v32,x7.2)
 | y10::ys11,k9,v32 =>
  (spec_l1Own_p keys).bind fun x34 =>
  (need (fitsB 8 (x34.length+([(k9:Int)]).length))).bind fun u36 =>
  (spec_dwNumbers_p fuel (x34++[(k9:Int)]) y10).bind fun x38 =>
  (need (fitsB 8 (v32.length+x38.length))).bind fun u40 =>
  spec_StartOrder_l1 keys fuel x7 ys11 (k9+1) (v32++x38)
def spec_StartOrder_p (fuel:Nat) (keys:List Int) (l:List Entrant) (size:Int):Option ((List Int) × Bool) :=
 (spec_dwKeys_p keys 4).bind fun x1 =>
 (opt (!(!x1)) default (spec_soEntrants_p l)).bind fun x3 =>
 (opt (!((!x1) || (!x3))) default (spec_soSize_p size)).bind fun x5 =>
 cond (((!x1) || (!x3)) || (!x5))
  (some ([],false))
  ((spec_soGroups_p fuel l size).bind fun x7 =>
  spec_StartOrder_l1 keys fuel x7 x7.1 0 [])
theorem spec_StartOrder_ok (fuel:Nat) (keys:List Int) (l:List Entrant) (size:Int) (r:((List Int) × Bool)) (hH:spec_StartOrder_p fuel keys l size=some r):SpecR Tryz.prog 87 [.s (List.map ze0 keys),.s (List.map ze1 l),size] (.t [.w 1 (r.1.map ze0),.v (.bool r.2)]):=by
 refine zFn T Tryz.func87 rfl (by decide) rfl ?_
 refine AW.q (AW.r ?_)
 iterate 2 refine AO.pu T ?_
 refine AO.n ?_
 iterate 2 refine AW.q ?_
 obtain ⟨x1,hx2,hH⟩:=zB hH
 obtain ⟨x3,hx4,hH⟩:=zB hH
 obtain ⟨x5,hx6,hH⟩:=zB hH
 refine AW.r (AO.pu T ?_)
 refine AO.v rfl rfl (zV rfl rfl rfl rfl (spec_dwKeys_ok _ _ _ (hx2)) rfl) ?_
 iterate 2 refine AO.pu T ?_
 refine AO.g T [] rfl trivial rfl rfl ?_
 refine AO.d [17] rfl ⟨fun h=>h,trivial⟩ (fun hg=>zV rfl rfl rfl rfl (spec_soEntrants_ok _ _ (optT hx4 hg)) rfl) rfl ?_
 refine AO.g T [18] rfl ⟨fun h=>h,trivial⟩ rfl rfl ?_
 refine AO.v rfl rfl (zO rfl rfl rfl rfl) ?_
 refine AO.pu T ?_
 refine AO.g T [] rfl trivial rfl rfl ?_
 refine AO.d [22] rfl ⟨fun h=>h,trivial⟩ (fun hg=>zV rfl rfl rfl rfl (spec_soSize_ok _ _ (optT hx6 hg)) rfl) rfl ?_
 refine AO.g T [23] rfl ⟨fun h=>h,trivial⟩ rfl rfl ?_
 refine AO.v rfl rfl (zO rfl rfl rfl rfl) ?_
 refine AO.n (AW.c (b:=(((!x1) || (!x3)) || (!x5))) rfl (fun hc=>?_) (fun hc=>?_))
 replace hH:=condT hc hH
 refine AW.q (AW.r ?_)
 iterate 2 refine AO.pu T ?_
 refine AO.n (AW.t ?_)
 have hR:=zS hH;subst hR
 exact retQ.i [] rfl (.t (zG (.c .nil) (zG (.c .v) (zGn))))
 replace hH:=condF hc hH
 refine AW.k (AW.q ?_)
 obtain ⟨x7,hx8,hH⟩:=zB hH
 refine AW.r ?_
 iterate 2 refine AO.pu T ?_
 refine AO.s rfl (call_ok rfl 1 rfl rfl rfl (spec_soGroups_ok fuel _ _ _ (hx8)) rfl rfl rfl) ?_
 iterate 5 refine AO.pu T ?_
 refine AO.n (AW.q (AW.r ?_))
 refine AO.pu T ?_
 refine AO.n (AW.le (Le.ct 0 0 (σ':=(⟨[(0,.s (List.map ze0 keys)),(8,.R 1),(9,.v (.bool x7.2)),(10,.w 0 [])],[(1,.row 1 (List.map ze12 x7.1))],51,[]⟩:St))) ?_)
 iterate 2 refine AW.q ?_
 refine AW.r (AO.pu T ?_)
 refine AO.v rfl rfl (len_row_ok T rfl rfl rfl rfl) ?_
 refine AO.pu T ?_
 refine AO.n (AW.b ?_)
 refine AW.loopS (fun s:Nat × (List Int)=>(⟨[(0,.s (List.map ze0 keys)),(9,.v (.bool x7.2)),(10,.R 11),(32,.R 1),(33,(x7.1.length:Int)),(34,(s.1:Int))],[(1,.row 1 (List.map ze12 x7.1)),(11,.row 1 (List.map ze0 s.2))],51,[]⟩:St)) (fun s=>s.1 ≤ x7.1.length∧spec_StartOrder_l1 keys fuel x7 (x7.1.drop s.1) s.1 s.2=some r) (fun s=>x7.1.length - s.1) (0,[]) ⟨Nat.zero_le _,hH⟩ ?_ ?_
 refine Le.trans (Le.void 10 11 1 rfl rfl) ?_
 exact Le.ct 0 0
 rintro ⟨k9,v32⟩ ⟨hk,hH⟩
 replace hH:spec_StartOrder_l1 keys fuel x7 (x7.1.drop k9) k9 v32=some r:=hH
 try dsimp only
 refine AW.boundR (id:=1) (l:=x7.1) rfl (fun hb13=>?_)
 rcases hd12:x7.1.drop k9 with _ | ⟨y10,ys11⟩
 rw [hd12,spec_StartOrder_l1] at hH
 have hlt14:=drop_ge hd12
 refine AW.q (AW.r (AO.pu T ?_))
 refine AO.n (AW.q (AW.condF' (b:=decide ((k9:Int) < (x7.1.length:Int))) rfl (rngF hlt14) ?_))
 refine AW.exit (AW.q (AW.r ?_))
 iterate 4 refine AO.pu T ?_
 refine AO.n (AW.t ?_)
 have hR:=zS hH;subst hR
 exact retQ.i [11] rfl (.t (zG (.c (.rowR rfl)) (zG (.c .v) (zGn))))
 rw [hd12,spec_StartOrder_l1] at hH
 have hlt14:=drop_lt hd12
 refine AW.q (AW.r (AO.pu T ?_))
 refine AO.n (AW.q (AW.condT' (b:=decide ((k9:Int) < (x7.1.length:Int))) rfl (rngT hlt14) ?_))
 refine AW.k (AW.q ?_)
 refine AW.b (AW.q (AW.r ?_))
 refine AO.pu T ?_
 refine AO.v rfl rfl (zXr T rfl rfl rfl rfl rfl rfl (zgD hd12)) ?_
 refine AO.v rfl rfl (zLr T rfl rfl rfl rfl (zgG (zgD hd12)) rfl rfl rfl) ?_
 iterate 2 refine AO.pu T ?_
 refine AO.n ?_
 obtain ⟨x34,hx35,hH⟩:=zB hH
 obtain ⟨u36,hx37,hH⟩:=zB hH
 obtain ⟨x38,hx39,hH⟩:=zB hH
 obtain ⟨u40,hx41,hH⟩:=zB hH
 refine AW.r ?_
 iterate 2 refine AO.pu T ?_
 refine AO.s rfl (call_ok rfl 12 rfl rfl rfl (spec_l1Own_ok _ _ (hx35)) rfl rfl rfl) ?_
 refine AO.pu T ?_
 refine AO.s rfl (mk_map_ok T rfl 13 rfl rfl rfl rfl rfl (f:=ze0) (l:=[(k9:Int)]) rfl rfl (fun _=>rfl) rfl rfl rfl rfl rfl) ?_
 refine AO.s rfl (zAr T rfl 14 rfl rfl rfl rfl rfl (by decide) rfl rfl rfl rfl (fun _=>rfl) (needT (hx37)) rfl rfl) ?_
 refine AO.pu T ?_
 refine AO.s rfl (callL_ok rfl 15 rfl rfl (es:=[.s (List.map ze0 (x34++[(k9:Int)])),.s (List.map ze0 y10)]) (by exact ⟨(.rowR rfl (.map fun y=>.vs rfl)),.free rfl,trivial⟩) (spec_dwNumbers_ok fuel _ _ _ (hx39)) (zfree_map (fun y=>(.cons (zfree_v _) .nil))) rfl rfl rfl) ?_
 refine AO.s rfl (zAr T rfl 16 rfl rfl rfl rfl rfl (by decide) rfl rfl rfl rfl (fun _=>rfl) (needT (hx41)) rfl rfl) ?_
 refine AO.pu T ?_
 refine AO.n (AW.r ?_)
 refine AO.v rfl rfl (zR rfl rfl rfl rfl (zK hlt14 hb13)) ?_
 refine AO.pu T ?_
 refine AO.n ?_
 refine ⟨(k9+1,(v32++x38)),⟨Nat.succ_le_of_lt hlt14,(by rw [zds hd12];exact hH)⟩,(by have:=hlt14;dsimp only;omega),?_⟩
 exact Le.ct 16 11

def spec_evIf_p (e:Event) (ok:Bool):Option (Event × Bool) :=
 cond (!ok)
  (some ((Event.mk 0 0 0 [] [] 0 [] []),false))
  (some (e,true))
theorem spec_evIf_ok (e:Event) (ok:Bool) (r:(Event × Bool)) (hH:spec_evIf_p e ok=some r):SpecR Tryz.prog 88 [.g (ze4 e),.v (.bool ok)] (.t [.g (ze4 r.1),.v (.bool r.2)]):=by
 refine zFn T Tryz.func88 rfl (by decide) rfl ?_
 refine AW.q (AW.r (AO.s rfl (zBx T rfl 1 rfl rfl rfl rfl) ?_))
 refine AO.s rfl (zA T rfl 2 rfl rfl rfl rfl rfl) ?_
 refine AO.pu T ?_
 refine AO.n ?_
 iterate 2 refine AW.q ?_
 refine AW.r ?_
 iterate 2 refine AO.pu T ?_
 refine AO.n (AW.c (b:=(!ok)) rfl (fun hc=>?_) (fun hc=>?_))
 replace hH:=condT hc hH
 refine AW.q (AW.r (AO.pu T (d:=.g [(0:Int),(0:Int),(0:Int),.w 0 [],.w 0 [],(0:Int),.w 0 [],.w 0 []]) ?_))
 refine AO.se T [(0:Int),(0:Int),(0:Int),.w 0 [],.w 0 [],(0:Int),.w 0 [],.w 0 []] ?_
 refine AO.pu T ?_
 refine AO.n (AW.t ?_)
 have hR:=zS hH;subst hR
 exact retQ.i [] rfl (.t (zG (.g (zC .v (zC .v (zC .v (zC .nilS (zC .nilS (zC .v (zC .nilS (zC .nilS (zCn)))))))))) (zG (.c .v) (zGn))))
 replace hH:=condF hc hH
 refine AW.k (AW.q (AW.r ?_))
 refine AO.pu T (d:=.g [e.segments,e.size,e.key,.s (List.map ze1 e.entrants),.s (List.map ze0 e.gone),e.segment,.s (List.map ze0 e.order),.s (List.map ze2 e.results)]) ?_
 refine AO.se T [e.segments,e.size,e.key,.s (List.map ze1 e.entrants),.s (List.map ze0 e.gone),e.segment,.s (List.map ze0 e.order),.s (List.map ze2 e.results)] ?_
 refine AO.pu T ?_
 refine AO.n (AW.t ?_)
 have hR:=zS hH;subst hR
 exact retQ.i [] rfl (.t (zG (.g (zC .v (zC .v (zC .v (zC .s (zC .s (zC .v (zC .s (zC .s (zCn)))))))))) (zG (.c .v) (zGn))))

def spec_l1Sign_p (n:Int):Option Int :=
 cond (decide (n > 0))
  (some 1)
  (cond (decide (n < 0))
   (some (-1))
   (some 0))
theorem spec_l1Sign_ok (n:Int) (r:Int) (hH:spec_l1Sign_p n=some r):SpecR Tryz.prog 152 [n] (.v (.int .i64 r)):=by
 refine zFn T Tryz.func152 rfl (by decide) rfl ?_
 refine AW.q (AW.r (AO.pu T ?_))
 refine AO.n (AW.q (AW.b ?_))
 refine AW.q (AW.r ?_)
 iterate 3 refine AO.pu T ?_
 refine AO.n (AW.c (b:=decide (n > 0)) rfl (fun hc=>?_) (fun hc=>?_))
 replace hH:=condT hc hH
 refine AW.q (AW.r (AO.pu T ?_))
 refine AO.n (AW.t ?_)
 have hR:=zS hH;subst hR
 exact retQ.i [] rfl (.c (.c .v))
 replace hH:=condF hc hH
 refine AW.q (AW.r ?_)
 iterate 3 refine AO.pu T ?_
 refine AO.n (AW.c (b:=decide (n < 0)) rfl (fun hc=>?_) (fun hc=>?_))
 replace hH:=condT hc hH
 refine AW.q (AW.r (AO.pu T ?_))
 refine AO.n (AW.t ?_)
 have hR:=zS hH;subst hR
 exact retQ.i [] rfl (.c (.c .v))
 replace hH:=condF hc hH
 refine AW.k (AW.q (AW.r ?_))
 refine AO.pu T ?_
 refine AO.n (AW.t ?_)
 have hR:=zS hH;subst hR
 exact retQ.i [] rfl (.c (.c .v))

def spec_rkCompare_l1 (a:Result) (b:Result):Nat→Int→Option Int
 | 0,_=>none
 | k9+1,v23 =>
  cond (decide (v23 ≥ 0))
   ((getI a.scores v23).bind fun x25 =>
   (getI b.scores v23).bind fun x27 =>
   cond (x25 != x27)
    ((spec_l1Sign_p (w64 (x25 - x27))).bind fun x29 =>
    some x29)
    (spec_rkCompare_l1 a b k9 (w64 (v23 - 1))))
   (some 0)
def spec_rkCompare_p (fuel:Nat) (a:Result) (b:Result):Option Int :=
 (spec_rkTotal_p a).bind fun x1 =>
 (spec_rkTotal_p b).bind fun x3 =>
 cond (x1.2 != x3.2)
  ((spec_l1Sign_p (w64 (x1.2 - x3.2))).bind fun x5 =>
  some x5)
  (cond (x1.1 != x3.1)
   ((spec_l1Sign_p (w64 (x1.1 - x3.1))).bind fun x7 =>
   some x7)
   (spec_rkCompare_l1 a b fuel (w64 ((a.scores.length:Int) - 1))))
theorem spec_rkCompare_ok (fuel:Nat) (a:Result) (b:Result) (r:Int) (hH:spec_rkCompare_p fuel a b=some r):SpecR Tryz.prog 115 [.g (ze2 a),.g (ze2 b)] (.v (.int .i64 r)):=by
 refine zFn T Tryz.func115 rfl (by decide) rfl ?_
 refine AW.q (AW.r (AO.s rfl (zBx T rfl 1 rfl rfl rfl rfl) ?_))
 refine AO.s rfl (zBx T rfl 2 rfl rfl rfl rfl) ?_
 refine AO.pu T ?_
 refine AO.n (AW.q ?_)
 obtain ⟨x1,hx2,hH⟩:=zB hH
 refine AW.r (AO.pu T (d:=.g [a.skater,.s (List.map ze0 a.scores)]) ?_)
 refine AO.v rfl rfl (zV rfl rfl rfl rfl (spec_rkTotal_ok _ _ (hx2)) rfl) ?_
 iterate 5 refine AO.pu T ?_
 refine AO.n (AW.q ?_)
 obtain ⟨x3,hx4,hH⟩:=zB hH
 refine AW.r (AO.pu T (d:=.g [b.skater,.s (List.map ze0 b.scores)]) ?_)
 refine AO.v rfl rfl (zV rfl rfl rfl rfl (spec_rkTotal_ok _ _ (hx4)) rfl) ?_
 iterate 5 refine AO.pu T ?_
 refine AO.n ?_
 iterate 2 refine AW.q ?_
 refine AW.r ?_
 iterate 3 refine AO.pu T ?_
 refine AO.n (AW.c (b:=(x1.2 != x3.2)) rfl (fun hc=>?_) (fun hc=>?_))
 replace hH:=condT hc hH
 refine AW.q ?_
 obtain ⟨x5,hx6,hH⟩:=zB hH
 refine AW.r ?_
 iterate 2 refine AO.pu T ?_
 refine AO.v rfl rfl (zW rfl rfl rfl rfl) ?_
 refine AO.v rfl rfl (zV rfl rfl rfl rfl (spec_l1Sign_ok _ _ (hx6)) rfl) ?_
 refine AO.pu T ?_
 refine AO.n (AW.le (Le.ct 0 0 (σ':=(⟨[(4,x5)],[],65,[]⟩:St))) ?_)
 refine AW.t ?_
 have hR:=zS hH;subst hR
 exact retQ.i [] rfl (.c (.c .v))
 replace hH:=condF hc hH
 refine AW.k ?_
 iterate 2 refine AW.q ?_
 refine AW.r ?_
 iterate 3 refine AO.pu T ?_
 refine AO.n (AW.c (b:=(x1.1 != x3.1)) rfl (fun hc=>?_) (fun hc=>?_))
 replace hH:=condT hc hH
 refine AW.q ?_
 obtain ⟨x7,hx8,hH⟩:=zB hH
 refine AW.r ?_
 iterate 2 refine AO.pu T ?_
 refine AO.v rfl rfl (zW rfl rfl rfl rfl) ?_
 refine AO.v rfl rfl (zV rfl rfl rfl rfl (spec_l1Sign_ok _ _ (hx8)) rfl) ?_
 refine AO.pu T ?_
 refine AO.n (AW.le (Le.ct 0 0 (σ':=(⟨[(4,x7)],[],65,[]⟩:St))) ?_)
 refine AW.t ?_
 have hR:=zS hH;subst hR
 exact retQ.i [] rfl (.c (.c .v))
 replace hH:=condF hc hH
 refine AW.k ?_
 iterate 2 refine AW.q ?_
 refine AW.r ?_
 iterate 2 refine AO.pu T ?_
 refine AO.v rfl rfl (zL T rfl rfl rfl) ?_
 refine AO.v rfl rfl (zW rfl rfl rfl rfl) ?_
 refine AO.pu T ?_
 refine AO.n (AW.le (Le.ct 0 0 (σ':=(⟨[(2,.p 1 0),(3,.p 2 0),(9,w64 ((a.scores.length:Int) - 1))],[(1,.box [a.skater,.s (List.map ze0 a.scores)]),(2,.box [b.skater,.s (List.map ze0 b.scores)])],65,[]⟩:St))) ?_)
 refine AW.b (AW.loopS (fun s:Nat × Int=>(⟨[(2,.p 1 0),(3,.p 2 0),(9,s.2)],[(1,.box [a.skater,.s (List.map ze0 a.scores)]),(2,.box [b.skater,.s (List.map ze0 b.scores)])],65,[]⟩:St)) (fun s=>spec_rkCompare_l1 a b s.1 s.2=some r) (fun s=>s.1) (fuel,w64 ((a.scores.length:Int) - 1)) hH ?_ ?_)
 exact Le.ct 0 0
 rintro ⟨k9,v23⟩ hH
 replace hH:spec_rkCompare_l1 a b k9 v23=some r:=hH
 try dsimp only
 rcases k9 with _ | k9
 cases (show none=some _ from hH)
 rw [spec_rkCompare_l1] at hH
 iterate 2 refine AW.q ?_
 refine AW.r ?_
 iterate 2 refine AO.pu T ?_
 refine AO.n (AW.c (b:=decide (v23 ≥ 0)) rfl (fun hc=>?_) (fun hc=>?_))
 replace hH:=condT hc hH
 refine AW.k (AW.q ?_)
 refine AW.b (AW.q ?_)
 obtain ⟨x25,hx26,hH⟩:=zB hH
 obtain ⟨x27,hx28,hH⟩:=zB hH
 refine AW.drawn 10 3 [] mix (by kernel_rfl) rfl ?_
 iterate 3 refine AD.p T rfl rfl rfl ?_
 refine AD.w rfl rfl (zX T rfl rfl rfl rfl rfl (hx26) rfl) ?_
 iterate 4 refine AD.p T rfl rfl rfl ?_
 refine AD.w rfl rfl (zX T rfl rfl rfl rfl rfl (hx28) rfl) ?_
 refine AD.p T rfl rfl rfl ?_
 refine AD.nil (AO.pu T ?_)
 refine AO.n (AW.c (b:=(x25 != x27)) rfl (fun hc=>?_) (fun hc=>?_))
 replace hH:=condT hc hH
 refine AW.q ?_
 obtain ⟨x29,hx30,hH⟩:=zB hH
 refine AW.drawn 10 3 [] mix (by kernel_rfl) rfl ?_
 iterate 3 refine AD.p T rfl rfl rfl ?_
 refine AD.w rfl rfl (zX T rfl rfl rfl rfl rfl (hx26) rfl) ?_
 iterate 4 refine AD.p T rfl rfl rfl ?_
 refine AD.w rfl rfl (zX T rfl rfl rfl rfl rfl (hx28) rfl) ?_
 refine AD.p T rfl rfl rfl ?_
 refine AD.nil (AO.v rfl rfl (zW rfl rfl rfl rfl) ?_)
 refine AO.v rfl rfl (zV rfl rfl rfl rfl (spec_l1Sign_ok _ _ (hx30)) rfl) ?_
 refine AO.pu T ?_
 refine AO.n (AW.le (Le.ct 0 0 (σ':=(⟨[(4,x29)],[],65,[]⟩:St))) ?_)
 refine AW.t ?_
 have hR:=zS hH;subst hR
 exact retQ.i [] rfl (.c (.c .v))
 replace hH:=condF hc hH
 refine AW.k (AW.r ?_)
 refine AO.pu T ?_
 refine AO.v rfl rfl (zW rfl rfl rfl rfl) ?_
 refine AO.pu T ?_
 refine AO.n ?_
 refine ⟨(k9,w64 (v23 - 1)),hH,Nat.lt_succ_self _,?_⟩
 exact Le.ct 0 0
 replace hH:=condF hc hH
 refine AW.exit (AW.q (AW.r ?_))
 refine AO.pu T ?_
 refine AO.n (AW.t ?_)
 have hR:=zS hH;subst hR
 exact retQ.i [] rfl (.c (.c .v))

def spec_rkPlace_l1 (l:List Result) (i:Int) (fuel:Nat):List Result→Nat→Int→Option Int
 | [],k1,v16 =>
  some v16
 | y2::ys3,k1,v16 =>
  (getI l i).bind fun x18 =>
  (spec_rkCompare_p fuel y2 x18).bind fun x20 =>
  cond (decide (x20 > 0))
   (spec_rkPlace_l1 l i fuel ys3 (k1+1) (w64 (v16+1)))
   (spec_rkPlace_l1 l i fuel ys3 (k1+1) v16)
def spec_rkPlace_p (fuel:Nat) (l:List Result) (i:Int):Option Int :=
 spec_rkPlace_l1 l i fuel l 0 1
theorem spec_rkPlace_ok (fuel:Nat) (l:List Result) (i:Int) (r:Int) (hH:spec_rkPlace_p fuel l i=some r):SpecR Tryz.prog 76 [.s (List.map ze2 l),i] (.v (.int .i64 r)):=by
 refine zFn T Tryz.func76 rfl (by decide) rfl ?_
 refine AW.q (AW.r (AO.pu T ?_))
 refine AO.n (AW.q (AW.r ?_))
 refine AO.pu T ?_
 refine AO.n ?_
 iterate 2 refine AW.q ?_
 refine AW.r (AO.pu T ?_)
 refine AO.v rfl rfl (zL T rfl rfl rfl) ?_
 refine AO.pu T ?_
 refine AO.n (AW.b ?_)
 refine AW.loopS (fun s:Nat × Int=>(⟨[(0,.s (List.map ze2 l)),(1,i),(5,s.2),(8,.s (List.map ze2 l)),(9,(l.length:Int)),(10,(s.1:Int))],[],25,[]⟩:St)) (fun s=>s.1 ≤ l.length∧spec_rkPlace_l1 l i fuel (l.drop s.1) s.1 s.2=some r) (fun s=>l.length - s.1) (0,1) ⟨Nat.zero_le _,hH⟩ ?_ ?_
 exact Le.ct 0 0
 rintro ⟨k1,v16⟩ ⟨hk,hH⟩
 replace hH:spec_rkPlace_l1 l i fuel (l.drop k1) k1 v16=some r:=hH
 try dsimp only
 refine AW.boundM (t:=0) (l:=l) rfl (fun hb5=>?_)
 rcases hd4:l.drop k1 with _ | ⟨y2,ys3⟩
 rw [hd4,spec_rkPlace_l1] at hH
 have hlt6:=drop_ge hd4
 refine AW.q (AW.r (AO.pu T ?_))
 refine AO.n (AW.q (AW.condF' (b:=decide ((k1:Int) < (l.length:Int))) rfl (rngF hlt6) ?_))
 refine AW.exit (AW.q (AW.r ?_))
 iterate 2 refine AO.pu T ?_
 refine AO.n (AW.t ?_)
 have hR:=zS hH;subst hR
 exact retQ.i [] rfl (.c (.c .v))
 rw [hd4,spec_rkPlace_l1] at hH
 have hlt6:=drop_lt hd4
 refine AW.q (AW.r (AO.pu T ?_))
 refine AO.n (AW.q (AW.condT' (b:=decide ((k1:Int) < (l.length:Int))) rfl (rngT hlt6) ?_))
 refine AW.k (AW.q ?_)
 refine AW.b (AW.q (AW.r ?_))
 refine AO.v rfl rfl (zX T rfl rfl rfl rfl rfl (zgD hd4) rfl) ?_
 refine AO.pu T (d:=.g [y2.skater,.s (List.map ze0 y2.scores)]) ?_
 refine AO.s rfl (zA T rfl 3 rfl rfl rfl rfl rfl) ?_
 refine AO.se T [y2.skater,.s (List.map ze0 y2.scores)] ?_
 refine AO.n (AW.q ?_)
 obtain ⟨x18,hx19,hH⟩:=zB hH
 obtain ⟨x20,hx21,hH⟩:=zB hH
 refine AW.drawn 5 4 [] mix (by kernel_rfl) rfl ?_
 refine AD.p T (d:=.g [y2.skater,.s (List.map ze0 y2.scores)]) rfl rfl rfl ?_
 iterate 2 refine AD.p T rfl rfl rfl ?_
 refine AD.w rfl rfl (zX T rfl rfl rfl rfl rfl (hx19) rfl) ?_
 refine AD.p T (d:=.g [x18.skater,.s (List.map ze0 x18.scores)]) rfl rfl rfl ?_
 refine AD.nil (AO.v rfl rfl (zV rfl rfl rfl rfl (spec_rkCompare_ok fuel _ _ _ (hx21)) rfl) ?_)
 refine AO.pu T ?_
 refine AO.n (AW.c (b:=decide (x20 > 0)) rfl (fun hc=>?_) (fun hc=>?_))
 replace hH:=condT hc hH
 refine AW.r (AO.pu T ?_)
 refine AO.v rfl rfl (zW rfl rfl rfl rfl) ?_
 refine AO.pu T ?_
 refine AO.n (AW.r ?_)
 refine AO.v rfl rfl (zR rfl rfl rfl rfl (zK hlt6 hb5)) ?_
 refine AO.pu T ?_
 refine AO.n ?_
 refine ⟨(k1+1,w64 (v16+1)),⟨Nat.succ_le_of_lt hlt6,(by rw [zds hd4];exact hH)⟩,(by have:=hlt6;dsimp only;omega),?_⟩
 exact Le.ct 0 0
 replace hH:=condF hc hH
 refine AW.k (AW.r ?_)
 refine AO.v rfl rfl (zR rfl rfl rfl rfl (zK hlt6 hb5)) ?_
 refine AO.pu T ?_
 refine AO.n ?_
 refine ⟨(k1+1,v16),⟨Nat.succ_le_of_lt hlt6,(by rw [zds hd4];exact hH)⟩,(by have:=hlt6;dsimp only;omega),?_⟩
 exact Le.ct 0 0

def spec_rkPlaces_l1 (l:List Result) (fuel:Nat):List Result→Nat→List Int→Option ((List Int))
 | [],k1,v16 =>
  some v16
 | y2::ys3,k1,v16 =>
  (spec_rkPlace_p fuel l (k1:Int)).bind fun x18 =>
  (need (fitsB 8 (v16.length+([x18]).length))).bind fun u20 =>
  spec_rkPlaces_l1 l fuel ys3 (k1+1) (v16++[x18])
def spec_rkPlaces_p (fuel:Nat) (l:List Result):Option (List Int) :=
 spec_rkPlaces_l1 l fuel l 0 []
theorem spec_rkPlaces_ok (fuel:Nat) (l:List Result) (r:(List Int)) (hH:spec_rkPlaces_p fuel l=some r):SpecR Tryz.prog 89 [.s (List.map ze2 l)] (.w 1 (r.map ze0)):=by
 refine zFn T Tryz.func89 rfl (by decide) rfl ?_
 refine AW.q (AW.r (AO.pu T ?_))
 refine AO.n (AW.q (AW.r ?_))
 refine AO.pu T ?_
 refine AO.n ?_
 iterate 2 refine AW.q ?_
 refine AW.r (AO.pu T ?_)
 refine AO.v rfl rfl (zL T rfl rfl rfl) ?_
 refine AO.pu T ?_
 refine AO.n (AW.b ?_)
 refine AW.loopS (fun s:Nat × (List Int)=>(⟨[(0,.s (List.map ze2 l)),(3,.R 4),(6,(l.length:Int)),(7,(s.1:Int))],[(4,.row 1 (List.map ze0 s.2))],18,[]⟩:St)) (fun s=>s.1 ≤ l.length∧spec_rkPlaces_l1 l fuel (l.drop s.1) s.1 s.2=some r) (fun s=>l.length - s.1) (0,[]) ⟨Nat.zero_le _,hH⟩ ?_ ?_
 refine Le.trans (Le.void 3 4 1 rfl rfl) ?_
 exact Le.ct 0 0
 rintro ⟨k1,v16⟩ ⟨hk,hH⟩
 replace hH:spec_rkPlaces_l1 l fuel (l.drop k1) k1 v16=some r:=hH
 try dsimp only
 refine AW.boundM (t:=0) (l:=l) rfl (fun hb5=>?_)
 rcases hd4:l.drop k1 with _ | ⟨y2,ys3⟩
 rw [hd4,spec_rkPlaces_l1] at hH
 have hlt6:=drop_ge hd4
 refine AW.q (AW.r (AO.pu T ?_))
 refine AO.n (AW.q (AW.condF' (b:=decide ((k1:Int) < (l.length:Int))) rfl (rngF hlt6) ?_))
 refine AW.exit (AW.q (AW.r ?_))
 iterate 2 refine AO.pu T ?_
 refine AO.n (AW.t ?_)
 have hR:=zS hH;subst hR
 exact retQ.i [4] rfl (.c (.c (.rowR rfl)))
 rw [hd4,spec_rkPlaces_l1] at hH
 have hlt6:=drop_lt hd4
 refine AW.q (AW.r (AO.pu T ?_))
 refine AO.n (AW.q (AW.condT' (b:=decide ((k1:Int) < (l.length:Int))) rfl (rngT hlt6) ?_))
 refine AW.k (AW.q ?_)
 refine AW.b (AW.q (AW.r ?_))
 iterate 2 refine AO.pu T ?_
 refine AO.n ?_
 obtain ⟨x18,hx19,hH⟩:=zB hH
 obtain ⟨u20,hx21,hH⟩:=zB hH
 refine AW.r ?_
 iterate 3 refine AO.pu T ?_
 refine AO.v rfl rfl (zV rfl rfl rfl rfl (spec_rkPlace_ok fuel _ _ _ (hx19)) rfl) ?_
 refine AO.s rfl (mk_map_ok T rfl 5 rfl rfl rfl rfl rfl (f:=ze0) (l:=[x18]) rfl rfl (fun _=>rfl) rfl rfl rfl rfl rfl) ?_
 refine AO.s rfl (zAr T rfl 6 rfl rfl rfl rfl rfl (by decide) rfl rfl rfl rfl (fun _=>rfl) (needT (hx21)) rfl rfl) ?_
 refine AO.pu T ?_
 refine AO.n (AW.r ?_)
 refine AO.v rfl rfl (zR rfl rfl rfl rfl (zK hlt6 hb5)) ?_
 refine AO.pu T ?_
 refine AO.n ?_
 refine ⟨(k1+1,(v16++[x18])),⟨Nat.succ_le_of_lt hlt6,(by rw [zds hd4];exact hH)⟩,(by have:=hlt6;dsimp only;omega),?_⟩
 exact Le.ct 6 4

def spec_soOrder_l1 (order:List Int):List Int→Nat→Option Bool
 | [],k1 =>
  some (decide ((order.length:Int) ≤ 40))
 | y2::ys3,k1 =>
  (spec_l1In_p y2 1 999).bind fun x20 =>
  (opt (!(!x20)) default (sliceHi order (k1:Int))).bind fun x22 =>
  (opt (!(!x20)) default (spec_l1Has_p x22 y2)).bind fun x24 =>
  cond ((!x20) || x24)
   (some false)
   (spec_soOrder_l1 order ys3 (k1+1))
def spec_soOrder_p (order:List Int):Option Bool :=
 spec_soOrder_l1 order order 0
theorem spec_soOrder_ok (order:List Int) (r:Bool) (hH:spec_soOrder_p order=some r):SpecR Tryz.prog 122 [.s (List.map ze0 order)] (.v (.bool r)):=by
 refine zFn T Tryz.func122 rfl (by decide) rfl ?_
 refine AW.q (AW.r (AO.pu T ?_))
 refine AO.n ?_
 iterate 2 refine AW.q ?_
 refine AW.r (AO.pu T ?_)
 refine AO.v rfl rfl (zL T rfl rfl rfl) ?_
 refine AO.pu T ?_
 refine AO.n (AW.b ?_)
 refine AW.loopS (fun s:Nat=>(⟨[(0,.s (List.map ze0 order)),(5,.s (List.map ze0 order)),(6,(order.length:Int)),(7,(s:Int))],[],26,[]⟩:St)) (fun s=>s ≤ order.length∧spec_soOrder_l1 order (order.drop s) s=some r) (fun s=>order.length - s) 0 ⟨Nat.zero_le _,hH⟩ ?_ ?_
 exact Le.ct 0 0
 rintro k1 ⟨hk,hH⟩
 replace hH:spec_soOrder_l1 order (order.drop k1) k1=some r:=hH
 try dsimp only
 refine AW.boundM (t:=0) (l:=order) rfl (fun hb5=>?_)
 rcases hd4:order.drop k1 with _ | ⟨y2,ys3⟩
 rw [hd4,spec_soOrder_l1] at hH
 have hlt6:=drop_ge hd4
 refine AW.q (AW.r (AO.pu T ?_))
 refine AO.n (AW.q (AW.condF' (b:=decide ((k1:Int) < (order.length:Int))) rfl (rngF hlt6) ?_))
 refine AW.exit (AW.q (AW.r ?_))
 refine AO.pu T ?_
 refine AO.v rfl rfl (zL T rfl rfl rfl) ?_
 iterate 2 refine AO.pu T ?_
 refine AO.n (AW.t ?_)
 have hR:=zS hH;subst hR
 exact retQ.i [] rfl (.c (.c .v))
 rw [hd4,spec_soOrder_l1] at hH
 have hlt6:=drop_lt hd4
 refine AW.q (AW.r (AO.pu T ?_))
 refine AO.n (AW.q (AW.condT' (b:=decide ((k1:Int) < (order.length:Int))) rfl (rngT hlt6) ?_))
 refine AW.k (AW.q ?_)
 refine AW.b (AW.q (AW.r ?_))
 refine AO.pu T ?_
 refine AO.v rfl rfl (zX T rfl rfl rfl rfl rfl (zgD hd4) rfl) ?_
 iterate 3 refine AO.pu T ?_
 refine AO.n (AW.q ?_)
 obtain ⟨x20,hx21,hH⟩:=zB hH
 obtain ⟨x22,hx23,hH⟩:=zB hH
 obtain ⟨x24,hx25,hH⟩:=zB hH
 refine AW.r (AO.pu T ?_)
 refine AO.v rfl rfl (zV rfl rfl rfl rfl (spec_l1In_ok _ _ _ _ (hx21)) rfl) ?_
 iterate 2 refine AO.pu T ?_
 iterate 2 refine AO.g T [] rfl trivial rfl rfl ?_
 refine AO.d [16,17] rfl ⟨fun h=>h,fun h=>h,trivial⟩ (fun hg=>slice_hi_map_ok T rfl rfl rfl rfl rfl (optT hx23 hg) (fun _=>rfl)) rfl ?_
 refine AO.g T [] rfl trivial rfl rfl ?_
 refine AO.d [18,19] rfl ⟨fun h=>h,fun h=>h,trivial⟩ (fun hg=>zV rfl rfl rfl rfl (spec_l1Has_ok _ _ _ (optT hx25 hg)) rfl) rfl ?_
 refine AO.v rfl rfl (zO rfl rfl rfl rfl) ?_
 refine AO.n (AW.c (b:=((!x20) || x24)) rfl (fun hc=>?_) (fun hc=>?_))
 replace hH:=condT hc hH
 refine AW.q (AW.r (AO.pu T ?_))
 refine AO.n (AW.t ?_)
 have hR:=zS hH;subst hR
 exact retQ.i [] rfl (.c (.c .v))
 replace hH:=condF hc hH
 refine AW.k (AW.r ?_)
 refine AO.v rfl rfl (zR rfl rfl rfl rfl (zK hlt6 hb5)) ?_
 refine AO.pu T ?_
 refine AO.n ?_
 refine ⟨k1+1,⟨Nat.succ_le_of_lt hlt6,(by rw [zds hd4];exact hH)⟩,(by have:=hlt6;dsimp only;omega),?_⟩
 exact Le.ct 0 0

def spec_soFalling_l2 (keys:List Int) (places:List Int) (fuel:Nat) (v122:List Int) (v123:Int):List Int→Nat→List Int→Option (List Int)
 | [],k156,v171 =>
  (spec_l1Own_p keys).bind fun x173 =>
  (need (fitsB 8 (x173.length+([90,v123]).length))).bind fun u175 =>
  (spec_dwNumbers_p fuel (x173++[90,v123]) v171).bind fun x177 =>
  (need (fitsB 8 (v122.length+x177.length))).bind fun u179 =>
  some (v122++x177)
 | y157::ys158,k156,v171 =>
  (getI places (k156:Int)).bind fun x181 =>
  cond (x181 == v123)
   ((need (fitsB 8 (v171.length+([y157]).length))).bind fun u183 =>
   spec_soFalling_l2 keys places fuel v122 v123 ys158 (k156+1) (v171++[y157]))
   (spec_soFalling_l2 keys places fuel v122 v123 ys158 (k156+1) v171)
def spec_soFalling_l1 (keys:List Int) (skaters:List Int) (places:List Int) (fuel:Nat):Nat→List Int→Int→Option ((List Int))
 | 0,_,_=>none
 | k1+1,v122,v123 =>
  cond (decide (v123 ≥ 1))
   ((spec_soFalling_l2 keys places fuel v122 v123 skaters 0 []).bind fun v153 =>
   spec_soFalling_l1 keys skaters places fuel k1 v153 (w64 (v123 - 1)))
   (some v122)
def spec_soFalling_p (fuel:Nat) (keys:List Int) (skaters:List Int) (places:List Int):Option (List Int) :=
 spec_soFalling_l1 keys skaters places fuel fuel [] 99
theorem spec_soFalling_ok (fuel:Nat) (keys:List Int) (skaters:List Int) (places:List Int) (r:(List Int)) (hH:spec_soFalling_p fuel keys skaters places=some r):SpecR Tryz.prog 128 [.s (List.map ze0 keys),.s (List.map ze0 skaters),.s (List.map ze0 places)] (.w 1 (r.map ze0)):=by
 refine zFn T Tryz.func128 rfl (by decide) rfl ?_
 refine AW.q (AW.r (AO.pu T ?_))
 refine AO.n (AW.q (AW.r ?_))
 refine AO.pu T ?_
 refine AO.n ?_
 iterate 2 refine AW.q ?_
 refine AW.r (AO.pu T ?_)
 refine AO.n (AW.b ?_)
 refine AW.loopS (fun s:Nat × (List Int) × Int=>(⟨[(0,.s (List.map ze0 keys)),(1,.s (List.map ze0 skaters)),(2,.s (List.map ze0 places)),(7,.R 31),(8,s.2.2)],[(31,.row 1 (List.map ze0 s.2.1))],44,[]⟩:St)) (fun s=>spec_soFalling_l1 keys skaters places fuel s.1 s.2.1 s.2.2=some r) (fun s=>s.1) (fuel,[],99) hH ?_ ?_
 refine Le.trans (Le.void 7 31 1 rfl rfl) ?_
 exact Le.ct 0 0
 rintro ⟨k1,v122,v123⟩ hH
 replace hH:spec_soFalling_l1 keys skaters places fuel k1 v122 v123=some r:=hH
 try dsimp only
 rcases k1 with _ | k1
 cases (show none=some _ from hH)
 rw [spec_soFalling_l1] at hH
 iterate 2 refine AW.q ?_
 refine AW.r ?_
 iterate 2 refine AO.pu T ?_
 refine AO.n (AW.c (b:=decide (v123 ≥ 1)) rfl (fun hc=>?_) (fun hc=>?_))
 replace hH:=condT hc hH
 refine AW.k ?_
 obtain ⟨o154,hH,hK155⟩:=zB hH
 refine AW.seqJ (fun s:List Int=>(⟨[(0,.s (List.map ze0 keys)),(1,.s (List.map ze0 skaters)),(2,.s (List.map ze0 places)),(7,.R 53),(8,v123)],[(53,.row 1 (List.map ze0 s))],44,[]⟩:St)) (fun s=>s=o154) ?_ ?_
 refine AW.b (AW.q (AW.r ?_))
 refine AO.pu T ?_
 refine AO.n ?_
 iterate 2 refine AW.q ?_
 refine AW.r (AO.pu T ?_)
 refine AO.v rfl rfl (zL T rfl rfl rfl) ?_
 refine AO.pu T ?_
 refine AO.n (AW.b ?_)
 refine AW.loopS (fun s:Nat × (List Int)=>(⟨[(0,.s (List.map ze0 keys)),(1,.s (List.map ze0 skaters)),(2,.s (List.map ze0 places)),(7,.R 31),(8,v123),(9,.R 59),(16,.s (List.map ze0 skaters)),(17,(skaters.length:Int)),(18,(s.1:Int))],[(31,.row 1 (List.map ze0 v122)),(59,.row 1 (List.map ze0 s.2))],44,[]⟩:St)) (fun s=>s.1 ≤ skaters.length∧spec_soFalling_l2 keys places fuel v122 v123 (skaters.drop s.1) s.1 s.2=some o154) (fun s=>skaters.length - s.1) (0,[]) ⟨Nat.zero_le _,hH⟩ ?_ ?_
 refine Le.trans (Le.void 9 59 1 rfl rfl) ?_
 exact Le.ct 0 0
 rintro ⟨k156,v171⟩ ⟨hk,hH⟩
 replace hH:spec_soFalling_l2 keys places fuel v122 v123 (skaters.drop k156) k156 v171=some o154:=hH
 try dsimp only
 refine AW.boundM (t:=1) (l:=skaters) rfl (fun hb160=>?_)
 rcases hd159:skaters.drop k156 with _ | ⟨y157,ys158⟩
 rw [hd159,spec_soFalling_l2] at hH
 have hlt161:=drop_ge hd159
 refine AW.q (AW.r (AO.pu T ?_))
 refine AO.n (AW.q (AW.condF' (b:=decide ((k156:Int) < (skaters.length:Int))) rfl (rngF hlt161) ?_))
 refine AW.exit ?_
 obtain ⟨x173,hx174,hH⟩:=zB hH
 obtain ⟨u175,hx176,hH⟩:=zB hH
 obtain ⟨x177,hx178,hH⟩:=zB hH
 obtain ⟨u179,hx180,hH⟩:=zB hH
 refine AW.r ?_
 iterate 2 refine AO.pu T ?_
 refine AO.s rfl (call_ok rfl 60 rfl rfl rfl (spec_l1Own_ok _ _ (hx174)) rfl rfl rfl) ?_
 refine AO.pu T ?_
 refine AO.s rfl (mk_map_ok T rfl 61 rfl rfl rfl rfl rfl (f:=ze0) (l:=[90,v123]) rfl rfl (fun _=>rfl) rfl rfl rfl rfl rfl) ?_
 refine AO.s rfl (zAr T rfl 62 rfl rfl rfl rfl rfl (by decide) rfl rfl rfl rfl (fun _=>rfl) (needT (hx176)) rfl rfl) ?_
 refine AO.pu T ?_
 refine AO.s rfl (callL_ok rfl 63 rfl rfl (es:=[.s (List.map ze0 (x173++[90,v123])),.s (List.map ze0 v171)]) (by exact ⟨(.rowR rfl (.map fun y=>.vs rfl)),(.rowR rfl (.map fun y=>.vs rfl)),trivial⟩) (spec_dwNumbers_ok fuel _ _ _ (hx178)) (zfree_map (fun y=>(.cons (zfree_v _) .nil))) rfl rfl rfl) ?_
 refine AO.s rfl (zAr T rfl 64 rfl rfl rfl rfl rfl (by decide) rfl rfl rfl rfl (fun _=>rfl) (needT (hx180)) rfl rfl) ?_
 refine AO.pu T ?_
 refine AO.n ?_
 refine ⟨_,zS hH,?_⟩
 exact Le.ct 64 53
 rw [hd159,spec_soFalling_l2] at hH
 have hlt161:=drop_lt hd159
 refine AW.q (AW.r (AO.pu T ?_))
 refine AO.n (AW.q (AW.condT' (b:=decide ((k156:Int) < (skaters.length:Int))) rfl (rngT hlt161) ?_))
 refine AW.k (AW.q ?_)
 refine AW.b (AW.q (AW.r ?_))
 refine AO.pu T ?_
 refine AO.v rfl rfl (zX T rfl rfl rfl rfl rfl (zgD hd159) rfl) ?_
 iterate 3 refine AO.pu T ?_
 refine AO.n (AW.q ?_)
 obtain ⟨x181,hx182,hH⟩:=zB hH
 refine AW.r ?_
 iterate 2 refine AO.pu T ?_
 refine AO.v rfl rfl (zX T rfl rfl rfl rfl rfl (hx182) rfl) ?_
 iterate 3 refine AO.pu T ?_
 refine AO.n (AW.c (b:=(x181 == v123)) rfl (fun hc=>?_) (fun hc=>?_))
 replace hH:=condT hc hH
 obtain ⟨u183,hx184,hH⟩:=zB hH
 refine AW.r ?_
 iterate 2 refine AO.pu T ?_
 refine AO.s rfl (mk_map_ok T rfl 65 rfl rfl rfl rfl rfl (f:=ze0) (l:=[y157]) rfl rfl (fun _=>rfl) rfl rfl rfl rfl rfl) ?_
 refine AO.s rfl (zAr T rfl 66 rfl rfl rfl rfl rfl (by decide) rfl rfl rfl rfl (fun _=>rfl) (needT (hx184)) rfl rfl) ?_
 refine AO.pu T ?_
 refine AO.n (AW.r ?_)
 refine AO.v rfl rfl (zR rfl rfl rfl rfl (zK hlt161 hb160)) ?_
 refine AO.pu T ?_
 refine AO.n ?_
 refine ⟨(k156+1,(v171++[y157])),⟨Nat.succ_le_of_lt hlt161,(by rw [zds hd159];exact hH)⟩,(by have:=hlt161;dsimp only;omega),?_⟩
 exact Le.ct 66 59
 replace hH:=condF hc hH
 refine AW.k (AW.r ?_)
 refine AO.v rfl rfl (zR rfl rfl rfl rfl (zK hlt161 hb160)) ?_
 refine AO.pu T ?_
 refine AO.n ?_
 refine ⟨(k156+1,v171),⟨Nat.succ_le_of_lt hlt161,(by rw [zds hd159];exact hH)⟩,(by have:=hlt161;dsimp only;omega),?_⟩
 exact Le.ct 0 0
 rintro v153 hs
 subst hs
 replace hH:=hK155
 try dsimp only [flow,flowE] at hH
 try dsimp only
 refine AW.r (AO.pu T ?_)
 refine AO.v rfl rfl (zW rfl rfl rfl rfl) ?_
 refine AO.pu T ?_
 refine AO.n ?_
 refine ⟨(k1,v153,w64 (v123 - 1)),hH,Nat.lt_succ_self _,?_⟩
 exact Le.ct 53 31
 replace hH:=condF hc hH
 refine AW.exit (AW.q (AW.r ?_))
 iterate 2 refine AO.pu T ?_
 refine AO.n (AW.t ?_)
 have hR:=zS hH;subst hR
 exact retQ.i [31] rfl (.c (.c (.rowR rfl)))

def spec_OrderByPlaces_l1 (keys:List Int) (size:Int) (fuel:Nat) (x9:(List Int)):Nat→List Int→List Int→Int→Option (((List Int) × Bool))
 | 0,_,_,_=>none
 | k13+1,v65,v66,v67 =>
  cond (decide ((v65.length:Int) > 0))
   (cond ((v67 == 0) && decide (((x9.length:Int).tmod size) > 0))
    ((spec_l1Own_p keys).bind fun x69 =>
    (need (fitsB 8 (x69.length+([v67]).length))).bind fun u71 =>
    (sliceHi v65 ((x9.length:Int).tmod size)).bind fun x73 =>
    (spec_dwNumbers_p fuel (x69++[v67]) x73).bind fun x75 =>
    (need (fitsB 8 (v66.length+x75.length))).bind fun u77 =>
    (sliceLo v65 ((x9.length:Int).tmod size)).bind fun x79 =>
    spec_OrderByPlaces_l1 keys size fuel x9 k13 x79 (v66++x75) (w64 (v67+1)))
    ((spec_l1Own_p keys).bind fun x81 =>
    (need (fitsB 8 (x81.length+([v67]).length))).bind fun u83 =>
    (sliceHi v65 size).bind fun x85 =>
    (spec_dwNumbers_p fuel (x81++[v67]) x85).bind fun x87 =>
    (need (fitsB 8 (v66.length+x87.length))).bind fun u89 =>
    (sliceLo v65 size).bind fun x91 =>
    spec_OrderByPlaces_l1 keys size fuel x9 k13 x91 (v66++x87) (w64 (v67+1))))
   (some (v66,true))
def spec_OrderByPlaces_p (fuel:Nat) (keys:List Int) (skaters:List Int) (places:List Int) (size:Int):Option ((List Int) × Bool) :=
 (spec_dwKeys_p keys 4).bind fun x1 =>
 (opt (!(!x1)) default (spec_soOrder_p skaters)).bind fun x3 =>
 (opt (!(((!x1) || (!x3)) || ((places.length:Int) != (skaters.length:Int)))) default (spec_l1All_p places 1 99)).bind fun x5 =>
 (opt (!((((!x1) || (!x3)) || ((places.length:Int) != (skaters.length:Int))) || (!x5))) default (spec_soSize_p size)).bind fun x7 =>
 cond (((((!x1) || (!x3)) || ((places.length:Int) != (skaters.length:Int))) || (!x5)) || (!x7))
  (some ([],false))
  ((spec_soFalling_p fuel keys skaters places).bind fun x9 =>
  (need (size != 0)).bind fun u11 =>
  spec_OrderByPlaces_l1 keys size fuel x9 fuel x9 [] 0)
theorem spec_OrderByPlaces_ok (fuel:Nat) (keys:List Int) (skaters:List Int) (places:List Int) (size:Int) (r:((List Int) × Bool)) (hH:spec_OrderByPlaces_p fuel keys skaters places size=some r):SpecR Tryz.prog 90 [.s (List.map ze0 keys),.s (List.map ze0 skaters),.s (List.map ze0 places),size] (.t [.w 1 (r.1.map ze0),.v (.bool r.2)]):=by
 refine zFn T Tryz.func90 rfl (by decide) rfl ?_
 refine AW.q (AW.r ?_)
 iterate 2 refine AO.pu T ?_
 refine AO.n ?_
 iterate 2 refine AW.q ?_
 obtain ⟨x1,hx2,hH⟩:=zB hH
 obtain ⟨x3,hx4,hH⟩:=zB hH
 obtain ⟨x5,hx6,hH⟩:=zB hH
 obtain ⟨x7,hx8,hH⟩:=zB hH
 refine AW.r (AO.pu T ?_)
 refine AO.v rfl rfl (zV rfl rfl rfl rfl (spec_dwKeys_ok _ _ _ (hx2)) rfl) ?_
 iterate 2 refine AO.pu T ?_
 refine AO.g T [] rfl trivial rfl rfl ?_
 refine AO.d [19] rfl ⟨fun h=>h,trivial⟩ (fun hg=>zV rfl rfl rfl rfl (spec_soOrder_ok _ _ (optT hx4 hg)) rfl) rfl ?_
 refine AO.g T [20] rfl ⟨fun h=>h,trivial⟩ rfl rfl ?_
 refine AO.v rfl rfl (zO rfl rfl rfl rfl) ?_
 refine AO.pu T ?_
 refine AO.g T [] rfl trivial rfl rfl ?_
 refine AO.d [24] rfl ⟨fun h=>h,trivial⟩ (fun hg=>zL T rfl rfl rfl) rfl ?_
 refine AO.g T [] rfl trivial rfl rfl ?_
 refine AO.d [26] rfl ⟨fun h=>h,trivial⟩ (fun hg=>zL T rfl rfl rfl) rfl ?_
 refine AO.g T [25,27] rfl ⟨fun h=>h,fun h=>h,trivial⟩ rfl rfl ?_
 refine AO.v rfl rfl (zO rfl rfl rfl rfl) ?_
 refine AO.pu T ?_
 refine AO.g T [] rfl trivial rfl rfl ?_
 refine AO.d [31] rfl ⟨fun h=>h,trivial⟩ (fun hg=>zV rfl rfl rfl rfl (spec_l1All_ok _ _ _ _ (optT hx6 hg)) rfl) rfl ?_
 refine AO.g T [32] rfl ⟨fun h=>h,trivial⟩ rfl rfl ?_
 refine AO.v rfl rfl (zO rfl rfl rfl rfl) ?_
 refine AO.pu T ?_
 refine AO.g T [] rfl trivial rfl rfl ?_
 refine AO.d [36] rfl ⟨fun h=>h,trivial⟩ (fun hg=>zV rfl rfl rfl rfl (spec_soSize_ok _ _ (optT hx8 hg)) rfl) rfl ?_
 refine AO.g T [37] rfl ⟨fun h=>h,trivial⟩ rfl rfl ?_
 refine AO.v rfl rfl (zO rfl rfl rfl rfl) ?_
 refine AO.n (AW.le (Le.ct 0 0 (σ':=(⟨[(0,.s (List.map ze0 keys)),(1,.s (List.map ze0 skaters)),(2,.s (List.map ze0 places)),(3,size),(39,.v (.bool (((((!x1) || (!x3)) || ((places.length:Int) != (skaters.length:Int))) || (!x5)) || (!x7))))],[],76,[]⟩:St))) ?_)
 refine AW.c (b:=(((((!x1) || (!x3)) || ((places.length:Int) != (skaters.length:Int))) || (!x5)) || (!x7))) rfl (fun hc=>?_) (fun hc=>?_)
 replace hH:=condT hc hH
 refine AW.q (AW.r ?_)
 iterate 2 refine AO.pu T ?_
 refine AO.n (AW.t ?_)
 have hR:=zS hH;subst hR
 exact retQ.i [] rfl (.t (zG (.c .nil) (zG (.c .v) (zGn))))
 replace hH:=condF hc hH
 refine AW.k (AW.q ?_)
 obtain ⟨x9,hx10,hH⟩:=zB hH
 refine AW.r ?_
 iterate 3 refine AO.pu T ?_
 refine AO.s rfl (call_ok rfl 1 rfl rfl rfl (spec_soFalling_ok fuel _ _ _ _ (hx10)) rfl rfl rfl) ?_
 refine AO.pu T ?_
 refine AO.n (AW.q (AW.r ?_))
 refine AO.pu T ?_
 refine AO.n (AW.q ?_)
 obtain ⟨u11,hx12,hH⟩:=zB hH
 refine AW.r (AO.pu T ?_)
 refine AO.v rfl rfl (len_row_ok T rfl rfl rfl rfl) ?_
 refine AO.pu T ?_
 refine AO.v rfl rfl (rem_ok rfl rfl rfl (neZ (needT (hx12)))) ?_
 refine AO.pu T ?_
 refine AO.n ?_
 iterate 2 refine AW.q ?_
 refine AW.r (AO.pu T ?_)
 refine AO.n (AW.b ?_)
 refine AW.loopS (fun s:Nat × (List Int) × (List Int) × Int=>(⟨[(0,.s (List.map ze0 keys)),(3,size),(10,.s (List.map ze0 s.2.1)),(11,.R 16),(12,((x9.length:Int).tmod size:Int)),(13,s.2.2.2)],[(16,.row 1 (List.map ze0 s.2.2.1))],76,[]⟩:St)) (fun s=>spec_OrderByPlaces_l1 keys size fuel x9 s.1 s.2.1 s.2.2.1 s.2.2.2=some r) (fun s=>s.1) (fuel,x9,[],0) hH ?_ ?_
 refine Le.trans (Le.fM 1 (g:=ze0) rfl (fun y=>.vs rfl)) ?_
 refine Le.trans (Le.void 11 16 1 rfl rfl) ?_
 exact Le.ct 0 0
 rintro ⟨k13,v65,v66,v67⟩ hH
 replace hH:spec_OrderByPlaces_l1 keys size fuel x9 k13 v65 v66 v67=some r:=hH
 try dsimp only
 rcases k13 with _ | k13
 cases (show none=some _ from hH)
 rw [spec_OrderByPlaces_l1] at hH
 iterate 2 refine AW.q ?_
 refine AW.r (AO.pu T ?_)
 refine AO.v rfl rfl (zL T rfl rfl rfl) ?_
 refine AO.pu T ?_
 refine AO.n (AW.c (b:=decide ((v65.length:Int) > 0)) rfl (fun hc=>?_) (fun hc=>?_))
 replace hH:=condT hc hH
 refine AW.k (AW.q ?_)
 refine AW.b (AW.q (AW.r ?_))
 iterate 2 refine AO.pu T ?_
 refine AO.n ?_
 iterate 2 refine AW.q ?_
 refine AW.r ?_
 iterate 3 refine AO.pu T ?_
 refine AO.g T [] rfl trivial rfl rfl ?_
 refine AO.g T [57] rfl ⟨fun h=>h,trivial⟩ rfl rfl ?_
 refine AO.v rfl rfl (zN rfl rfl rfl rfl) ?_
 refine AO.n (AW.c (b:=((v67 == 0) && decide (((x9.length:Int).tmod size) > 0))) rfl (fun hc=>?_) (fun hc=>?_))
 replace hH:=condT hc hH
 refine AW.r ?_
 iterate 2 refine AO.pu T ?_
 refine AO.n (AW.q ?_)
 obtain ⟨x69,hx70,hH⟩:=zB hH
 obtain ⟨u71,hx72,hH⟩:=zB hH
 obtain ⟨x73,hx74,hH⟩:=zB hH
 obtain ⟨x75,hx76,hH⟩:=zB hH
 obtain ⟨u77,hx78,hH⟩:=zB hH
 refine AW.drawn 10 22 [] mix (by kernel_rfl) rfl ?_
 iterate 2 refine AD.p T rfl rfl rfl ?_
 refine AD.q (FStep.call rfl rfl rfl rfl rfl (spec_l1Own_ok _ _ (hx70)) rfl rfl) (impT_names _ _) (impT_le _ _) rfl ?_
 refine AD.p T rfl rfl rfl ?_
 refine AD.q (FStep.mk T (f:=ze0) (l:=[v67]) rfl rfl rfl rfl rfl rfl rfl rfl rfl (fun _=>rfl) rfl rfl rfl rfl) (by simp [namesIn]) (Nat.le_succ _) rfl ?_
 refine AD.k rfl rfl (FStep.app_rv T rfl rfl rfl rfl rfl rfl rfl (by decide) rfl rfl rfl rfl (fun _=>rfl) (needT (hx72)) rfl) rfl rfl rfl ?_
 iterate 2 refine AD.p T rfl rfl rfl ?_
 refine AD.w rfl rfl (slice_hi_map_ok T rfl rfl rfl rfl rfl (hx74) (fun _=>rfl)) ?_
 refine AD.qd rfl (FStep.callL rfl rfl rfl rfl (es:=[.s (List.map ze0 (x69++[v67])),.s (List.map ze0 x73)]) ⟨(.rowR rfl (.map fun y=>.vs rfl)),.free rfl,trivial⟩ (spec_dwNumbers_ok fuel _ _ _ (hx76)) (zfree_map (fun y=>(.cons (zfree_v _) .nil))) rfl rfl) (impT_names _ _) (impT_le _ _) rfl ?_
 refine AD.nil (AO.s rfl (zAr T rfl 26 rfl rfl rfl rfl rfl (by decide) rfl rfl rfl rfl (fun _=>rfl) (needT (hx78)) rfl rfl) ?_)
 refine AO.pu T ?_
 refine AO.n (AW.le (Le.ct 0 0 (σ':=(⟨[(0,.s (List.map ze0 keys)),(3,size),(10,.s (List.map ze0 v65)),(11,.R 26),(12,((x9.length:Int).tmod size:Int)),(13,v67),(14,((x9.length:Int).tmod size:Int))],[(26,.row 1 (List.map ze0 (v66++x75)))],76,[]⟩:St))) ?_)
 obtain ⟨x79,hx80,hH⟩:=zB hH
 refine AW.r ?_
 iterate 2 refine AO.pu T ?_
 refine AO.v rfl rfl (slice_lo_map_ok T rfl rfl rfl rfl rfl (hx80) (fun _=>rfl)) ?_
 refine AO.pu T ?_
 refine AO.n (AW.r ?_)
 refine AO.pu T ?_
 refine AO.v rfl rfl (zW rfl rfl rfl rfl) ?_
 refine AO.pu T ?_
 refine AO.n ?_
 refine ⟨(k13,x79,(v66++x75),w64 (v67+1)),hH,Nat.lt_succ_self _,?_⟩
 exact Le.ct 26 16
 replace hH:=condF hc hH
 refine AW.k (AW.q ?_)
 obtain ⟨x81,hx82,hH⟩:=zB hH
 obtain ⟨u83,hx84,hH⟩:=zB hH
 obtain ⟨x85,hx86,hH⟩:=zB hH
 obtain ⟨x87,hx88,hH⟩:=zB hH
 obtain ⟨u89,hx90,hH⟩:=zB hH
 refine AW.drawn 10 27 [] mix (by kernel_rfl) rfl ?_
 iterate 2 refine AD.p T rfl rfl rfl ?_
 refine AD.q (FStep.call rfl rfl rfl rfl rfl (spec_l1Own_ok _ _ (hx82)) rfl rfl) (impT_names _ _) (impT_le _ _) rfl ?_
 refine AD.p T rfl rfl rfl ?_
 refine AD.q (FStep.mk T (f:=ze0) (l:=[v67]) rfl rfl rfl rfl rfl rfl rfl rfl rfl (fun _=>rfl) rfl rfl rfl rfl) (by simp [namesIn]) (Nat.le_succ _) rfl ?_
 refine AD.k rfl rfl (FStep.app_rv T rfl rfl rfl rfl rfl rfl rfl (by decide) rfl rfl rfl rfl (fun _=>rfl) (needT (hx84)) rfl) rfl rfl rfl ?_
 iterate 2 refine AD.p T rfl rfl rfl ?_
 refine AD.w rfl rfl (slice_hi_map_ok T rfl rfl rfl rfl rfl (hx86) (fun _=>rfl)) ?_
 refine AD.qd rfl (FStep.callL rfl rfl rfl rfl (es:=[.s (List.map ze0 (x81++[v67])),.s (List.map ze0 x85)]) ⟨(.rowR rfl (.map fun y=>.vs rfl)),.free rfl,trivial⟩ (spec_dwNumbers_ok fuel _ _ _ (hx88)) (zfree_map (fun y=>(.cons (zfree_v _) .nil))) rfl rfl) (impT_names _ _) (impT_le _ _) rfl ?_
 refine AD.nil (AO.s rfl (zAr T rfl 31 rfl rfl rfl rfl rfl (by decide) rfl rfl rfl rfl (fun _=>rfl) (needT (hx90)) rfl rfl) ?_)
 refine AO.pu T ?_
 refine AO.n ?_
 obtain ⟨x91,hx92,hH⟩:=zB hH
 refine AW.r ?_
 iterate 2 refine AO.pu T ?_
 refine AO.v rfl rfl (slice_lo_map_ok T rfl rfl rfl rfl rfl (hx92) (fun _=>rfl)) ?_
 refine AO.pu T ?_
 refine AO.n (AW.le (Le.ct 0 0 (σ':=(⟨[(0,.s (List.map ze0 keys)),(3,size),(10,.s (List.map ze0 x91)),(11,.R 31),(12,((x9.length:Int).tmod size:Int)),(13,v67)],[(31,.row 1 (List.map ze0 (v66++x87)))],76,[]⟩:St))) ?_)
 refine AW.r (AO.pu T ?_)
 refine AO.v rfl rfl (zW rfl rfl rfl rfl) ?_
 refine AO.pu T ?_
 refine AO.n ?_
 refine ⟨(k13,x91,(v66++x87),w64 (v67+1)),hH,Nat.lt_succ_self _,?_⟩
 exact Le.ct 31 16
 replace hH:=condF hc hH
 refine AW.exit (AW.q (AW.r ?_))
 iterate 3 refine AO.pu T ?_
 refine AO.n (AW.t ?_)
 have hR:=zS hH;subst hR
 exact retQ.i [16] rfl (.t (zG (.c (.rowR rfl)) (zG (.c .v) (zGn))))

def spec_evDraw_l1 (e:Event) (fuel:Nat) (x3:Event):List Int→Nat→List Int→List Int→Option ((Event × Bool))
 | [],k11,v35,v36 =>
  (spec_OrderByPlaces_p fuel [e.key,e.segment] v35 v36 e.size).bind fun x38 =>
  (spec_evIf_p (Event.mk x3.segments x3.size x3.key x3.entrants x3.gone x3.segment x38.1 x3.results) x38.2).bind fun x40 =>
  some ((Event.mk x40.1.segments x40.1.size x40.1.key x40.1.entrants x40.1.gone x40.1.segment x40.1.order x40.1.results),x40.2)
 | y12::ys13,k11,v35,v36 =>
  (getI e.results (k11:Int)).bind fun x42 =>
  (spec_l1Has_p e.gone x42.skater).bind fun x44 =>
  cond (!x44)
   ((need (fitsB 8 (v35.length+([x42.skater]).length))).bind fun u46 =>
   (need (fitsB 8 (v36.length+([y12]).length))).bind fun u48 =>
   spec_evDraw_l1 e fuel x3 ys13 (k11+1) (v35++[x42.skater]) (v36++[y12]))
   (spec_evDraw_l1 e fuel x3 ys13 (k11+1) v35 v36)
def spec_evDraw_p (fuel:Nat) (e:Event):Option (Event × Bool) :=
 (spec_evThere_p e).bind fun x1 =>
 cond (decide ((e.order.length:Int) > 0) || ((x1.length:Int) == 0))
  (some ((Event.mk 0 0 0 [] [] 0 [] []),false))
  ((spec_evOwn_p e).bind fun x3 =>
  cond (e.segment == 0)
   ((spec_StartOrder_p fuel [e.key,0] x1 e.size).bind fun x5 =>
   (spec_evIf_p (Event.mk x3.segments x3.size x3.key x3.entrants x3.gone x3.segment x5.1 x3.results) x5.2).bind fun x7 =>
   some ((Event.mk x7.1.segments x7.1.size x7.1.key x7.1.entrants x7.1.gone x7.1.segment x7.1.order x7.1.results),x7.2))
   ((spec_rkPlaces_p fuel e.results).bind fun x9 =>
   spec_evDraw_l1 e fuel x3 x9 0 [] []))
theorem spec_evDraw_ok (fuel:Nat) (e:Event) (r:(Event × Bool)) (hH:spec_evDraw_p fuel e=some r):SpecR Tryz.prog 44 [.g (ze4 e)] (.t [.g (ze4 r.1),.v (.bool r.2)]):=by
 refine zFn T Tryz.func44 rfl (by decide) rfl ?_
 refine AW.q (AW.r (AO.s rfl (zBx T rfl 1 rfl rfl rfl rfl) ?_))
 refine AO.s rfl (zA T rfl 2 rfl rfl rfl rfl rfl) ?_
 refine AO.pu T ?_
 refine AO.n (AW.q ?_)
 obtain ⟨x1,hx2,hH⟩:=zB hH
 refine AW.r (AO.pu T (d:=.g [e.segments,e.size,e.key,.s (List.map ze1 e.entrants),.s (List.map ze0 e.gone),e.segment,.s (List.map ze0 e.order),.s (List.map ze2 e.results)]) ?_)
 refine AO.s rfl (call_ok rfl 3 rfl rfl rfl (spec_evThere_ok _ _ (hx2)) rfl rfl rfl) ?_
 refine AO.pu T ?_
 refine AO.n ?_
 iterate 2 refine AW.q ?_
 refine AW.r ?_
 iterate 2 refine AO.pu T ?_
 refine AO.v rfl rfl (zL T rfl rfl rfl) ?_
 iterate 2 refine AO.pu T ?_
 refine AO.g T [] rfl trivial rfl rfl ?_
 refine AO.d [22] rfl ⟨fun h=>h,trivial⟩ (fun hg=>len_row_ok T rfl rfl rfl rfl) rfl ?_
 refine AO.g T [23] rfl ⟨fun h=>h,trivial⟩ rfl rfl ?_
 refine AO.v rfl rfl (zO rfl rfl rfl rfl) ?_
 refine AO.n (AW.c (b:=(decide ((e.order.length:Int) > 0) || ((x1.length:Int) == 0))) rfl (fun hc=>?_) (fun hc=>?_))
 replace hH:=condT hc hH
 refine AW.q (AW.r (AO.pu T (d:=.g [(0:Int),(0:Int),(0:Int),.w 0 [],.w 0 [],(0:Int),.w 0 [],.w 0 []]) ?_))
 refine AO.se T [(0:Int),(0:Int),(0:Int),.w 0 [],.w 0 [],(0:Int),.w 0 [],.w 0 []] ?_
 refine AO.pu T ?_
 refine AO.n (AW.t ?_)
 have hR:=zS hH;subst hR
 exact retQ.i [] rfl (.t (zG (.g (zC .v (zC .v (zC .v (zC .nilS (zC .nilS (zC .v (zC .nilS (zC .nilS (zCn)))))))))) (zG (.c .v) (zGn))))
 replace hH:=condF hc hH
 refine AW.k (AW.q ?_)
 obtain ⟨x3,hx4,hH⟩:=zB hH
 refine AW.r (AO.pu T (d:=.g [e.segments,e.size,e.key,.s (List.map ze1 e.entrants),.s (List.map ze0 e.gone),e.segment,.s (List.map ze0 e.order),.s (List.map ze2 e.results)]) ?_)
 refine AO.s rfl (call_ok rfl 4 rfl rfl rfl (spec_evOwn_ok _ _ (hx4)) rfl rfl rfl) ?_
 refine AO.s rfl (zA T rfl 8 rfl rfl rfl rfl rfl) ?_
 refine AO.se T [x3.segments,x3.size,x3.key,.R 4,.R 5,x3.segment,.R 6,.R 7] ?_
 refine AO.n ?_
 iterate 2 refine AW.q ?_
 refine AW.r ?_
 iterate 3 refine AO.pu T ?_
 refine AO.n (AW.c (b:=(e.segment == 0)) rfl (fun hc=>?_) (fun hc=>?_))
 replace hH:=condT hc hH
 refine AW.q ?_
 obtain ⟨x5,hx6,hH⟩:=zB hH
 refine AW.r ?_
 iterate 2 refine AO.pu T ?_
 refine AO.s rfl (mk_map_ok T rfl 9 rfl rfl rfl rfl rfl (f:=ze0) (l:=[e.key,0]) rfl rfl (fun _=>rfl) rfl rfl rfl rfl rfl) ?_
 iterate 3 refine AO.pu T ?_
 refine AO.s rfl (callL_ok rfl 10 rfl rfl (es:=[.s (List.map ze0 [e.key,0]),.s (List.map ze1 x1),e.size]) (by exact ⟨(.rowR rfl (.map fun y=>.vs rfl)),(.rowR rfl (.map fun y=>.vs rfl)),.free rfl,trivial⟩) (spec_StartOrder_ok fuel _ _ _ _ (hx6)) (zfree_t (zfl (.cons (zfree_map (fun y=>(.cons (zfree_v _) .nil))) (.cons (zfree_v _) .nil)))) rfl rfl rfl) ?_
 iterate 5 refine AO.pu T ?_
 refine AO.n (AW.le (Le.ct 0 0 (σ':=(⟨[(2,.p 2 0),(5,.p 8 0),(6,.R 10),(7,.v (.bool x5.2))],[(2,.box [(0:Int),(0:Int),(0:Int),.w 0 [],.w 0 [],(0:Int),.w 0 [],.w 0 []]),(4,.row 2 (List.map ze1 x3.entrants)),(5,.row 1 (List.map ze0 x3.gone)),(6,.row 1 (List.map ze0 x3.order)),(7,.row 2 (List.map ze6 x3.results)),(8,.box [x3.segments,x3.size,x3.key,.R 4,.R 5,x3.segment,.R 6,.R 7]),(10,.row 1 (List.map ze0 x5.1))],98,[]⟩:St))) ?_)
 refine AW.q (AW.r ?_)
 iterate 2 refine AO.pu T ?_
 refine AO.se T [x3.segments,x3.size,x3.key,.R 4,.R 5,x3.segment,.R 10,.R 7] ?_
 refine AO.n (AW.q ?_)
 obtain ⟨x7,hx8,hH⟩:=zB hH
 refine AW.le (Le.fM 4 (g:=ze1) rfl (fun y=>.vs rfl)) ?_
 refine AW.le (Le.fM 5 (g:=ze0) rfl (fun y=>.vs rfl)) ?_
 refine AW.le (Le.fM 7 (g:=ze2) rfl (fun y=>frzResult y)) ?_
 refine AW.le (Le.fM 10 (g:=ze0) rfl (fun y=>.vs rfl)) ?_
 refine AW.r (AO.pu T (d:=.g [x3.segments,x3.size,x3.key,.s (List.map ze1 x3.entrants),.s (List.map ze0 x3.gone),x3.segment,.s (List.map ze0 x5.1),.s (List.map ze2 x3.results)]) ?_)
 refine AO.pu T ?_
 refine AO.v rfl rfl (zV rfl rfl rfl rfl (spec_evIf_ok _ _ _ (hx8)) rfl) ?_
 refine AO.pu T (d:=.g [x7.1.segments,x7.1.size,x7.1.key,.s (List.map ze1 x7.1.entrants),.s (List.map ze0 x7.1.gone),x7.1.segment,.s (List.map ze0 x7.1.order),.s (List.map ze2 x7.1.results)]) ?_
 refine AO.pu T ?_
 refine AO.se T [x7.1.segments,x7.1.size,x7.1.key,.s (List.map ze1 x7.1.entrants),.s (List.map ze0 x7.1.gone),x7.1.segment,.s (List.map ze0 x7.1.order),.s (List.map ze2 x7.1.results)] ?_
 refine AO.pu T ?_
 refine AO.n (AW.t ?_)
 have hR:=zS hH;subst hR
 exact retQ.i [] rfl (.t (zG (.g (zC .v (zC .v (zC .v (zC .s (zC .s (zC .v (zC .s (zC .s (zCn)))))))))) (zG (.c .v) (zGn))))
 replace hH:=condF hc hH
 refine AW.k (AW.q (AW.r ?_))
 iterate 2 refine AO.pu T ?_
 refine AO.n (AW.le (Le.ct 0 0 (σ':=(⟨[(1,.p 1 0),(2,.p 2 0),(5,.p 8 0),(8,.w 0 []),(9,.w 0 [])],[(1,.box [e.segments,e.size,e.key,.s (List.map ze1 e.entrants),.s (List.map ze0 e.gone),e.segment,.s (List.map ze0 e.order),.s (List.map ze2 e.results)]),(2,.box [(0:Int),(0:Int),(0:Int),.w 0 [],.w 0 [],(0:Int),.w 0 [],.w 0 []]),(4,.row 2 (List.map ze1 x3.entrants)),(5,.row 1 (List.map ze0 x3.gone)),(6,.row 1 (List.map ze0 x3.order)),(7,.row 2 (List.map ze6 x3.results)),(8,.box [x3.segments,x3.size,x3.key,.R 4,.R 5,x3.segment,.R 6,.R 7])],98,[]⟩:St))) ?_)
 iterate 2 refine AW.q ?_
 obtain ⟨x9,hx10,hH⟩:=zB hH
 refine AW.r ?_
 iterate 2 refine AO.pu T ?_
 refine AO.s rfl (call_ok rfl 11 rfl rfl rfl (spec_rkPlaces_ok fuel _ _ (hx10)) rfl rfl rfl) ?_
 refine AO.v rfl rfl (len_row_ok T rfl rfl rfl rfl) ?_
 refine AO.pu T ?_
 refine AO.n (AW.b ?_)
 refine AW.loopS (fun s:Nat × (List Int) × (List Int)=>(⟨[(1,.p 1 0),(2,.p 2 0),(5,.p 8 0),(8,.R 17),(9,.R 19),(51,.R 11),(52,(x9.length:Int)),(53,(s.1:Int))],[(1,.box [e.segments,e.size,e.key,.s (List.map ze1 e.entrants),.s (List.map ze0 e.gone),e.segment,.s (List.map ze0 e.order),.s (List.map ze2 e.results)]),(2,.box [(0:Int),(0:Int),(0:Int),.w 0 [],.w 0 [],(0:Int),.w 0 [],.w 0 []]),(4,.row 2 (List.map ze1 x3.entrants)),(5,.row 1 (List.map ze0 x3.gone)),(6,.row 1 (List.map ze0 x3.order)),(7,.row 2 (List.map ze6 x3.results)),(8,.box [x3.segments,x3.size,x3.key,.R 4,.R 5,x3.segment,.R 6,.R 7]),(11,.row 1 (List.map ze0 x9)),(17,.row 1 (List.map ze0 s.2.1)),(19,.row 1 (List.map ze0 s.2.2))],98,[]⟩:St)) (fun s=>s.1 ≤ x9.length∧spec_evDraw_l1 e fuel x3 (x9.drop s.1) s.1 s.2.1 s.2.2=some r) (fun s=>x9.length - s.1) (0,[],[]) ⟨Nat.zero_le _,hH⟩ ?_ ?_
 refine Le.trans (Le.void 8 17 1 rfl rfl) ?_
 refine Le.trans (Le.void 9 19 1 rfl rfl) ?_
 exact Le.ct 0 0
 rintro ⟨k11,v35,v36⟩ ⟨hk,hH⟩
 replace hH:spec_evDraw_l1 e fuel x3 (x9.drop k11) k11 v35 v36=some r:=hH
 try dsimp only
 refine AW.boundR (id:=11) (l:=x9) rfl (fun hb15=>?_)
 rcases hd14:x9.drop k11 with _ | ⟨y12,ys13⟩
 rw [hd14,spec_evDraw_l1] at hH
 have hlt16:=drop_ge hd14
 refine AW.q (AW.r (AO.pu T ?_))
 refine AO.n (AW.q (AW.condF' (b:=decide ((k11:Int) < (x9.length:Int))) rfl (rngF hlt16) ?_))
 refine AW.exit (AW.q ?_)
 obtain ⟨x38,hx39,hH⟩:=zB hH
 refine AW.r ?_
 iterate 4 refine AO.pu T ?_
 refine AO.s rfl (mk_map_ok T rfl 20 rfl rfl rfl rfl rfl (f:=ze0) (l:=[e.key,e.segment]) rfl rfl (fun _=>rfl) rfl rfl rfl rfl rfl) ?_
 iterate 4 refine AO.pu T ?_
 refine AO.s rfl (callL_ok rfl 21 rfl rfl (es:=[.s (List.map ze0 [e.key,e.segment]),.s (List.map ze0 v35),.s (List.map ze0 v36),e.size]) (by exact ⟨(.rowR rfl (.map fun y=>.vs rfl)),(.rowR rfl (.map fun y=>.vs rfl)),(.rowR rfl (.map fun y=>.vs rfl)),.free rfl,trivial⟩) (spec_OrderByPlaces_ok fuel _ _ _ _ _ (hx39)) (zfree_t (zfl (.cons (zfree_map (fun y=>(.cons (zfree_v _) .nil))) (.cons (zfree_v _) .nil)))) rfl rfl rfl) ?_
 iterate 5 refine AO.pu T ?_
 refine AO.n (AW.q (AW.r ?_))
 iterate 2 refine AO.pu T ?_
 refine AO.se T [x3.segments,x3.size,x3.key,.R 4,.R 5,x3.segment,.R 21,.R 7] ?_
 refine AO.n (AW.q ?_)
 obtain ⟨x40,hx41,hH⟩:=zB hH
 refine AW.le (Le.fM 4 (g:=ze1) rfl (fun y=>.vs rfl)) ?_
 refine AW.le (Le.fM 5 (g:=ze0) rfl (fun y=>.vs rfl)) ?_
 refine AW.le (Le.fM 7 (g:=ze2) rfl (fun y=>frzResult y)) ?_
 refine AW.le (Le.fM 21 (g:=ze0) rfl (fun y=>.vs rfl)) ?_
 refine AW.r (AO.pu T (d:=.g [x3.segments,x3.size,x3.key,.s (List.map ze1 x3.entrants),.s (List.map ze0 x3.gone),x3.segment,.s (List.map ze0 x38.1),.s (List.map ze2 x3.results)]) ?_)
 refine AO.pu T ?_
 refine AO.v rfl rfl (zV rfl rfl rfl rfl (spec_evIf_ok _ _ _ (hx41)) rfl) ?_
 refine AO.pu T (d:=.g [x40.1.segments,x40.1.size,x40.1.key,.s (List.map ze1 x40.1.entrants),.s (List.map ze0 x40.1.gone),x40.1.segment,.s (List.map ze0 x40.1.order),.s (List.map ze2 x40.1.results)]) ?_
 refine AO.pu T ?_
 refine AO.se T [x40.1.segments,x40.1.size,x40.1.key,.s (List.map ze1 x40.1.entrants),.s (List.map ze0 x40.1.gone),x40.1.segment,.s (List.map ze0 x40.1.order),.s (List.map ze2 x40.1.results)] ?_
 refine AO.pu T ?_
 refine AO.n (AW.le (Le.ct 0 0 (σ':=(⟨[(2,.p 2 0),(3,.v (.bool x40.2))],[(2,.box [x40.1.segments,x40.1.size,x40.1.key,.s (List.map ze1 x40.1.entrants),.s (List.map ze0 x40.1.gone),x40.1.segment,.s (List.map ze0 x40.1.order),.s (List.map ze2 x40.1.results)])],98,[]⟩:St))) ?_)
 refine AW.t ?_
 have hR:=zS hH;subst hR
 exact retQ.i [] rfl (.t (zG (.g (zC .v (zC .v (zC .v (zC .s (zC .s (zC .v (zC .s (zC .s (zCn)))))))))) (zG (.c .v) (zGn))))
 rw [hd14,spec_evDraw_l1] at hH
 have hlt16:=drop_lt hd14
 refine AW.q (AW.r (AO.pu T ?_))
 refine AO.n (AW.q (AW.condT' (b:=decide ((k11:Int) < (x9.length:Int))) rfl (rngT hlt16) ?_))
 refine AW.k (AW.q ?_)
 refine AW.b (AW.q (AW.r ?_))
 refine AO.pu T ?_
 refine AO.v rfl rfl (zXr T rfl rfl rfl rfl rfl rfl (zgD hd14)) ?_
 refine AO.v rfl rfl (zLr T rfl rfl rfl rfl (zgG (zgD hd14)) rfl rfl rfl) ?_
 iterate 2 refine AO.pu T ?_
 refine AO.n (AW.q ?_)
 obtain ⟨x42,hx43,hH⟩:=zB hH
 refine AW.r ?_
 iterate 3 refine AO.pu T ?_
 refine AO.v rfl rfl (zX T rfl rfl rfl rfl rfl (hx43) rfl) ?_
 iterate 3 refine AO.pu T ?_
 refine AO.n (AW.q ?_)
 obtain ⟨x44,hx45,hH⟩:=zB hH
 refine AW.r ?_
 iterate 3 refine AO.pu T ?_
 refine AO.v rfl rfl (zV rfl rfl rfl rfl (spec_l1Has_ok _ _ _ (hx45)) rfl) ?_
 refine AO.pu T ?_
 refine AO.n (AW.c (b:=(!x44)) rfl (fun hc=>?_) (fun hc=>?_))
 replace hH:=condT hc hH
 refine AW.q ?_
 obtain ⟨u46,hx47,hH⟩:=zB hH
 refine AW.r ?_
 iterate 2 refine AO.pu T ?_
 refine AO.s rfl (mk_map_ok T rfl 22 rfl rfl rfl rfl rfl (f:=ze0) (l:=[x42.skater]) rfl rfl (fun _=>rfl) rfl rfl rfl rfl rfl) ?_
 refine AO.s rfl (zAr T rfl 23 rfl rfl rfl rfl rfl (by decide) rfl rfl rfl rfl (fun _=>rfl) (needT (hx47)) rfl rfl) ?_
 refine AO.pu T ?_
 refine AO.n ?_
 obtain ⟨u48,hx49,hH⟩:=zB hH
 refine AW.r ?_
 iterate 2 refine AO.pu T ?_
 refine AO.s rfl (mk_map_ok T rfl 24 rfl rfl rfl rfl rfl (f:=ze0) (l:=[y12]) rfl rfl (fun _=>rfl) rfl rfl rfl rfl rfl) ?_
 refine AO.s rfl (zAr T rfl 25 rfl rfl rfl rfl rfl (by decide) rfl rfl rfl rfl (fun _=>rfl) (needT (hx49)) rfl rfl) ?_
 refine AO.pu T ?_
 refine AO.n (AW.le (Le.ct 0 0 (σ':=(⟨[(1,.p 1 0),(2,.p 2 0),(5,.p 8 0),(8,.R 23),(9,.R 25),(51,.R 11),(52,(x9.length:Int)),(53,(k11:Int))],[(1,.box [e.segments,e.size,e.key,.s (List.map ze1 e.entrants),.s (List.map ze0 e.gone),e.segment,.s (List.map ze0 e.order),.s (List.map ze2 e.results)]),(2,.box [(0:Int),(0:Int),(0:Int),.w 0 [],.w 0 [],(0:Int),.w 0 [],.w 0 []]),(4,.row 2 (List.map ze1 x3.entrants)),(5,.row 1 (List.map ze0 x3.gone)),(6,.row 1 (List.map ze0 x3.order)),(7,.row 2 (List.map ze6 x3.results)),(8,.box [x3.segments,x3.size,x3.key,.R 4,.R 5,x3.segment,.R 6,.R 7]),(11,.row 1 (List.map ze0 x9)),(23,.row 1 (List.map ze0 (v35++[x42.skater]))),(25,.row 1 (List.map ze0 (v36++[y12])))],98,[]⟩:St))) ?_)
 refine AW.r (AO.v rfl rfl (zR rfl rfl rfl rfl (zK hlt16 hb15)) ?_)
 refine AO.pu T ?_
 refine AO.n ?_
 refine ⟨(k11+1,(v35++[x42.skater]),(v36++[y12])),⟨Nat.succ_le_of_lt hlt16,(by rw [zds hd14];exact hH)⟩,(by have:=hlt16;dsimp only;omega),?_⟩
 refine Le.trans (Le.ct 23 17 (σ':=(⟨[(1,.p 1 0),(2,.p 2 0),(5,.p 8 0),(8,.R 17),(9,.R 25),(51,.R 11),(52,(x9.length:Int)),(53,((k11+1:Nat):Int))],[(1,.box [e.segments,e.size,e.key,.s (List.map ze1 e.entrants),.s (List.map ze0 e.gone),e.segment,.s (List.map ze0 e.order),.s (List.map ze2 e.results)]),(2,.box [(0:Int),(0:Int),(0:Int),.w 0 [],.w 0 [],(0:Int),.w 0 [],.w 0 []]),(4,.row 2 (List.map ze1 x3.entrants)),(5,.row 1 (List.map ze0 x3.gone)),(6,.row 1 (List.map ze0 x3.order)),(7,.row 2 (List.map ze6 x3.results)),(8,.box [x3.segments,x3.size,x3.key,.R 4,.R 5,x3.segment,.R 6,.R 7]),(11,.row 1 (List.map ze0 x9)),(17,.row 1 (List.map ze0 (v35++[x42.skater]))),(25,.row 1 (List.map ze0 (v36++[y12])))],98,[]⟩:St))) ?_
 exact Le.ct 25 19
 replace hH:=condF hc hH
 refine AW.k (AW.r ?_)
 refine AO.v rfl rfl (zR rfl rfl rfl rfl (zK hlt16 hb15)) ?_
 refine AO.pu T ?_
 refine AO.n ?_
 refine ⟨(k11+1,v35,v36),⟨Nat.succ_le_of_lt hlt16,(by rw [zds hd14];exact hH)⟩,(by have:=hlt16;dsimp only;omega),?_⟩
 exact Le.ct 0 0

end Go.Proofs.YtegdphhfimaieabGreat

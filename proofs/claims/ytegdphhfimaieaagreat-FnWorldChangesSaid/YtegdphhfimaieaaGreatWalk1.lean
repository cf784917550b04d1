/- The walk, part 1: what each function reached by the law FnWorldChanges computes. No condition. -/
import Derived.Test.YtegdphhfimaieaaGreatAm3
import Derived.Test.YtegdphhfimaieaaGreatShelf
import Derived.Test.YtegdphhfimaieaaGreatProg
set_option maxRecDepth 4000
set_option maxHeartbeats 1000000
set_option linter.unusedVariables false
set_option linter.unusedSimpArgs false
set_option linter.unusedSectionVars false

namespace Go.Proofs.YtegdphhfimaieaaGreat
open Go.AM
def teL:List (Option TI):=[
  none,
  none,
  some ⟨.int .i64,1,8,some (.int .i64 0)⟩,
  some ⟨.int .i64,1,8,some (.int .i64 0)⟩,
  some ⟨.bool,1,1,some (.bool false)⟩,
  some ⟨.int .u8,1,1,some (.int .u8 0)⟩,
  some ⟨.int .u8,1,1,some (.int .u8 0)⟩,
  some ⟨.struct [(0,2),(1,3),(2,4),(3,6)],4,24,some (.agg #[.int .i64 0,.int .i64 0,.bool false,.int .u8 0])⟩,
  some ⟨.struct [(0,2),(1,3),(2,4),(3,6)],4,24,some (.agg #[.int .i64 0,.int .i64 0,.bool false,.int .u8 0])⟩,
  some ⟨.str,1,16,some (.string ⟨#[]⟩)⟩,
  some ⟨.str,1,16,some (.string ⟨#[]⟩)⟩,
  some ⟨.str,1,16,some (.string ⟨#[]⟩)⟩,
  some ⟨.int .u64,1,8,some (.int .u64 0)⟩,
  some ⟨.struct [(0,9),(1,12)],2,24,some (.agg #[.string ⟨#[]⟩,.int .u64 0])⟩,
  some ⟨.struct [(0,9),(1,12)],2,24,some (.agg #[.string ⟨#[]⟩,.int .u64 0])⟩,
  some ⟨.ptr 160,1,8,some (.pointer none)⟩,
  some ⟨.ptr 163,1,8,some (.pointer none)⟩,
  some ⟨.ptr 171,1,8,some (.pointer none)⟩,
  some ⟨.struct [(0,17)],1,8,some (.agg #[.pointer none])⟩,
  some ⟨.struct [(0,17)],1,8,some (.agg #[.pointer none])⟩,
  none,
  some ⟨.int .i32,1,4,some (.int .i32 0)⟩,
  some ⟨.slice 5,1,24,some (.slice none 0 0)⟩,
  none,
  some ⟨.slice 59,1,24,some (.slice none 0 0)⟩,
  some ⟨.slice 3,1,24,some (.slice none 0 0)⟩,
  some ⟨.struct [(0,24),(1,25)],2,48,some (.agg #[.slice none 0 0,.slice none 0 0])⟩,
  some ⟨.struct [(0,24),(1,25)],2,48,some (.agg #[.slice none 0 0,.slice none 0 0])⟩,
  none,
  some ⟨.slice 35,1,24,some (.slice none 0 0)⟩,
  none,
  none,
  none,
  none,
  some ⟨.struct [(0,3),(1,3),(2,3)],3,24,some (.agg #[.int .i64 0,.int .i64 0,.int .i64 0])⟩,
  some ⟨.struct [(0,3),(1,3),(2,3)],3,24,some (.agg #[.int .i64 0,.int .i64 0,.int .i64 0])⟩,
  none,
  none,
  none,
  none,
  none,
  none,
  none,
  none,
  none,
  some ⟨.struct [(0,3),(1,3),(2,3)],3,24,some (.agg #[.int .i64 0,.int .i64 0,.int .i64 0])⟩,
  some ⟨.struct [(0,3),(1,3),(2,3)],3,24,some (.agg #[.int .i64 0,.int .i64 0,.int .i64 0])⟩,
  none,
  none,
  none,
  none,
  none,
  some ⟨.slice 25,1,24,some (.slice none 0 0)⟩,
  none,
  none,
  none,
  none,
  some ⟨.slice 91,1,24,some (.slice none 0 0)⟩,
  some ⟨.struct [(0,3),(1,57)],2,32,some (.agg #[.int .i64 0,.slice none 0 0])⟩,
  some ⟨.struct [(0,3),(1,57)],2,32,some (.agg #[.int .i64 0,.slice none 0 0])⟩,
  none,
  none,
  some ⟨.slice 96,1,24,some (.slice none 0 0)⟩,
  none,
  none,
  none,
  none,
  none,
  none,
  none,
  none,
  none,
  none,
  none,
  none,
  none,
  none,
  none,
  some ⟨.ptr 81,1,8,some (.pointer none)⟩,
  some ⟨.int .u64,1,8,some (.int .u64 0)⟩,
  some ⟨.struct [(0,22),(1,3),(2,79)],3,40,some (.agg #[.slice none 0 0,.int .i64 0,.int .u64 0])⟩,
  some ⟨.struct [(0,22),(1,3),(2,79)],3,40,some (.agg #[.slice none 0 0,.int .i64 0,.int .u64 0])⟩,
  none,
  none,
  none,
  none,
  none,
  none,
  none,
  none,
  some ⟨.struct [(0,3),(1,25),(2,25)],3,56,some (.agg #[.int .i64 0,.slice none 0 0,.slice none 0 0])⟩,
  some ⟨.struct [(0,3),(1,25),(2,25)],3,56,some (.agg #[.int .i64 0,.slice none 0 0,.slice none 0 0])⟩,
  none,
  none,
  none,
  some ⟨.struct [(0,3),(1,3)],2,16,some (.agg #[.int .i64 0,.int .i64 0])⟩,
  some ⟨.struct [(0,3),(1,3)],2,16,some (.agg #[.int .i64 0,.int .i64 0])⟩,
  none,
  none,
  none,
  some ⟨.slice 46,1,24,some (.slice none 0 0)⟩,
  none,
  none,
  none,
  none,
  none,
  none,
  none,
  none,
  none,
  none,
  none,
  none,
  none,
  none,
  none,
  none,
  none,
  none,
  none,
  none,
  some ⟨.int .u64,1,8,some (.int .u64 0)⟩,
  none,
  some ⟨.ptr 91,1,8,some (.pointer none)⟩,
  none,
  none,
  none,
  none,
  none,
  none,
  some ⟨.int .i64,1,8,some (.int .i64 0)⟩,
  none,
  none,
  none,
  none,
  none,
  none,
  some ⟨.int .u32,1,4,some (.int .u32 0)⟩,
  none,
  some ⟨.ptr 46,1,8,some (.pointer none)⟩,
  none,
  some ⟨.int .u64,1,8,some (.int .u64 0)⟩,
  none,
  none,
  none,
  some ⟨.ptr 3,1,8,some (.pointer none)⟩,
  none,
  none,
  none,
  none,
  none,
  none,
  some ⟨.ptr 141,1,8,some (.pointer none)⟩,
  none,
  none,
  none,
  none,
  none,
  none,
  some ⟨.struct [(0,17),(1,17),(2,17),(3,9)],4,40,some (.agg #[.pointer none,.pointer none,.pointer none,.string ⟨#[]⟩])⟩,
  some ⟨.struct [(0,17),(1,17),(2,17),(3,9)],4,40,some (.agg #[.pointer none,.pointer none,.pointer none,.string ⟨#[]⟩])⟩,
  some ⟨.array 0 16,0,0,some (.agg #[])⟩,
  some ⟨.struct [(0,161)],0,0,some (.agg #[])⟩,
  some ⟨.struct [(0,161)],0,0,some (.agg #[])⟩,
  some ⟨.int .u8,1,1,some (.int .u8 0)⟩,
  some ⟨.int .u8,1,1,some (.int .u8 0)⟩,
  none,
  some ⟨.ptr 5,1,8,some (.pointer none)⟩,
  some ⟨.int .i32,1,4,some (.int .i32 0)⟩,
  some ⟨.int .i32,1,4,some (.int .i32 0)⟩,
  some ⟨.struct [(0,12),(1,12),(2,137),(3,164),(4,5),(5,5),(6,165),(7,166),(8,167),(9,168),(10,169)],11,48,some (.agg #[.int .u64 0,.int .u64 0,.int .u32 0,.int .u8 0,.int .u8 0,.int .u8 0,.int .u8 0,.nilFunc,.pointer none,.int .i32 0,.int .i32 0])⟩,
  some ⟨.struct [(0,12),(1,12),(2,137),(3,164),(4,5),(5,5),(6,165),(7,166),(8,167),(9,168),(10,169)],11,48,some (.agg #[.int .u64 0,.int .u64 0,.int .u32 0,.int .u8 0,.int .u8 0,.int .u8 0,.int .u8 0,.nilFunc,.pointer none,.int .i32 0,.int .i32 0])⟩,
  none]
def te:TE:=teOf teL
theorem T:TEok Tryz.prog te:=TEok_of (by kernel_rfl)
theorem mix:Tryz.prog.follows .mixedOrders=true:=by kernel_rfl

def encInt (x:Int):List D:=[.v (.int .i64 x)]
def encBool (x:Bool):List D:=[.v (.bool x)]
def encStr (x:ByteArray):List D:=[.v (.string x)]
def encInt_u8 (x:Int):List D:=[.v (.int .u8 x)]
def encInt_u64 (x:Int):List D:=[.v (.int .u64 x)]
def encInt_i32 (x:Int):List D:=[.v (.int .i32 x)]
structure Entry where
  event:Int
  skater:Int
  points:Int
  deriving Inhabited,DecidableEq
def encEntry (x:Entry):List D:=[.v (.int .i64 x.event),.v (.int .i64 x.skater),.v (.int .i64 x.points)]
def encLEntry (x:List Entry):List D:=[.s (x.map encEntry)]
def encLEntryO (x:List Entry):List D:=[.w 3 (x.map encEntry)]
theorem frzLEntry (x:List Entry):FrzL (encLEntryO x) (encLEntry x):=.cons (.map fun y=>.vs rfl) .nil
def encLInt (x:List Int):List D:=[.s (x.map encInt)]
def encLIntO (x:List Int):List D:=[.w 1 (x.map encInt)]
theorem frzLInt (x:List Int):FrzL (encLIntO x) (encLInt x):=.cons (.map fun y=>.vs rfl) .nil
structure Line where
  skater:Int
  events:List Int
  points:List Int
  deriving Inhabited,DecidableEq
def encLine (x:Line):List D:=[.v (.int .i64 x.skater),.s (x.events.map encInt),.s (x.points.map encInt)]
def encLineO (x:Line):List D:=[.v (.int .i64 x.skater),.w 1 (x.events.map encInt),.w 1 (x.points.map encInt)]
theorem frzLine (x:Line):FrzL (encLineO x) (encLine x):=.cons (.vs rfl) (.cons (.map fun y=>.vs rfl) (.cons (.map fun y=>.vs rfl) (.nil)))
structure Season where
  best:Int
  lines:List Line
  deriving Inhabited,DecidableEq
def encSeason (x:Season):List D:=[.v (.int .i64 x.best),.s (x.lines.map encLine)]
def encSeasonO (x:Season):List D:=[.v (.int .i64 x.best),.w 3 (x.lines.map encLineO)]
theorem frzSeason (x:Season):FrzL (encSeasonO x) (encSeason x):=.cons (.vs rfl) (.cons (.map fun y=>frzLine y) (.nil))
def encSeasonH (x:Season):List D:=[.v (.int .i64 x.best),.w 3 (x.lines.map encLine)]
theorem frzHSeason (x:Season):FrzL (encSeasonH x) (encSeason x):=.cons (.vs rfl) (.cons (.map fun y=>.vs rfl) (.nil))
structure World where
  seasons:List Season
  weights:List Int
  deriving Inhabited,DecidableEq
def encWorld (x:World):List D:=[.s (x.seasons.map encSeason),.s (x.weights.map encInt)]
def encWorldO (x:World):List D:=[.w 2 (x.seasons.map encSeasonO),.w 1 (x.weights.map encInt)]
theorem frzWorld (x:World):FrzL (encWorldO x) (encWorld x):=.cons (.map fun y=>frzSeason y) (.cons (.map fun y=>.vs rfl) (.nil))
def encWorldH (x:World):List D:=[.w 2 (x.seasons.map encSeason),.w 1 (x.weights.map encInt)]
theorem frzHWorld (x:World):FrzL (encWorldH x) (encWorld x):=.cons (.map fun y=>.vs rfl) (.cons (.map fun y=>.vs rfl) (.nil))
structure L1Cur where
  code:List Int
  at':Int
  seed:Int
  deriving Inhabited,DecidableEq
def encL1Cur (x:L1Cur):List D:=[.s (x.code.map encInt_u8),.v (.int .i64 x.at'),.v (.int .u64 x.seed)]
def encL1CurO (x:L1Cur):List D:=[.w 1 (x.code.map encInt_u8),.v (.int .i64 x.at'),.v (.int .u64 x.seed)]
theorem frzL1Cur (x:L1Cur):FrzL (encL1CurO x) (encL1Cur x):=.cons (.map fun y=>.vs rfl) (.cons (.vs rfl) (.cons (.vs rfl) (.nil)))
structure Rank where
  skater:Int
  total:Int
  place:Int
  deriving Inhabited,DecidableEq
def encRank (x:Rank):List D:=[.v (.int .i64 x.skater),.v (.int .i64 x.total),.v (.int .i64 x.place)]
structure Entrant where
  skater:Int
  rank:Int
  deriving Inhabited,DecidableEq
def encEntrant (x:Entrant):List D:=[.v (.int .i64 x.skater),.v (.int .i64 x.rank)]
theorem ekTEntrant:ekT Tryz.prog 96=some [.i .i64,.i .i64]:=by kernel_rfl
theorem eqVEntrant (x y:Entrant):eqV (encEntrant x) (encEntrant y)=decide (x=y):=by
  cases x;cases y
  rw [Bool.eq_iff_iff]
  simp [encEntrant,eqV,eqE]

def laws_big_p (code:List Int) (more:List Int):Option Bool :=
  some (decide ((code.length:Int) > 1048576) || decide ((more.length:Int) > (w64 (1048576 - (code.length:Int)))))
theorem laws_big_ok (code:List Int) (more:List Int) (r:Bool) (hH:laws_big_p code more=some r):SpecR Tryz.prog 5 [.s (List.map encInt_u8 code),.s (List.map encInt_u8 more)] (.v (.bool r)):=by
 refine fn_ok T Tryz.func5 rfl (by decide) rfl ?_
 refine AW.seq (AW.region (AO.pu T ?_))
 refine AO.nil (AW.seq (AW.region ?_))
 refine AO.pu T ?_
 refine AO.val rfl rfl (len_map_ok T rfl rfl rfl) ?_
 iterate 2 refine AO.pu T ?_
 refine AO.pureG T [] rfl trivial rfl rfl ?_
 refine AO.guard [9] rfl ⟨fun h=>h,trivial⟩ (fun hg=>len_map_ok T rfl rfl rfl) rfl ?_
 refine AO.pureG T [] rfl trivial rfl rfl ?_
 refine AO.guard [11] rfl ⟨fun h=>h,trivial⟩ (fun hg=>len_map_ok T rfl rfl rfl) rfl ?_
 refine AO.guard [12] rfl ⟨fun h=>h,trivial⟩ (fun hg=>arw_ok rfl rfl rfl rfl) rfl ?_
 refine AO.pureG T [10,13] rfl ⟨fun h=>h,fun h=>h,trivial⟩ rfl rfl ?_
 refine AO.val rfl rfl (pick_or rfl rfl rfl rfl) ?_
 refine AO.pu T ?_
 refine AO.nil (AW.ret ?_)
 have hR:=someE hH;subst hR
 exact retQ.i [] rfl (.c (.c .v))

def spec_l1Cur_next_p (c:L1Cur):Option (L1Cur × Int) :=
  cond (decide (c.at' < (c.code.length:Int)))
    ((getI c.code c.at').bind fun x1 =>
    cond (decide ((w64 (c.at'+1)) ≤ (c.code.length:Int)))
      (some ((L1Cur.mk c.code (w64 (c.at'+1)) (IntKind.wrap .u64 ((IntKind.wrap .u64 ((IntKind.wrap .u64 (c.seed * 6364136223846793005))+(IntKind.wrap .u64 (IntKind.wrap .i64 x1))))+1442695040888963407))),IntKind.wrap .i64 x1))
      (some ((L1Cur.mk c.code (w64 (c.at'+1)) (IntKind.wrap .u64 ((IntKind.wrap .u64 ((IntKind.wrap .u64 (c.seed * 6364136223846793005))+(IntKind.wrap .u64 (IntKind.wrap .i64 x1))))+1442695040888963407))),IntKind.wrap .i64 (IntKind.wrap .u64 ((BitVec.ofInt 64 ((IntKind.wrap .u64 ((IntKind.wrap .u64 ((IntKind.wrap .u64 (c.seed * 6364136223846793005))+(IntKind.wrap .u64 (IntKind.wrap .i64 x1))))+1442695040888963407)).fdiv (2 ^ 40)) &&& BitVec.ofInt 64 255).toNat:Int)))))
    (cond (decide ((w64 (c.at'+1)) ≤ (c.code.length:Int)))
      (some ((L1Cur.mk c.code (w64 (c.at'+1)) (IntKind.wrap .u64 ((IntKind.wrap .u64 ((IntKind.wrap .u64 (c.seed * 6364136223846793005))+(IntKind.wrap .u64 0)))+1442695040888963407))),0))
      (some ((L1Cur.mk c.code (w64 (c.at'+1)) (IntKind.wrap .u64 ((IntKind.wrap .u64 ((IntKind.wrap .u64 (c.seed * 6364136223846793005))+(IntKind.wrap .u64 0)))+1442695040888963407))),IntKind.wrap .i64 (IntKind.wrap .u64 ((BitVec.ofInt 64 ((IntKind.wrap .u64 ((IntKind.wrap .u64 ((IntKind.wrap .u64 (c.seed * 6364136223846793005))+(IntKind.wrap .u64 0)))+1442695040888963407)).fdiv (2 ^ 40)) &&& BitVec.ofInt 64 255).toNat:Int)))))
theorem spec_l1Cur_next_ok (c:L1Cur) (r:(L1Cur × Int)) (hH:spec_l1Cur_next_p c=some r):SpecM Tryz.prog 91 [.pw (encL1Cur c)] [.pw (encL1Cur r.1)] (.v (.int .i64 r.2)):=by
 refine fn_okM T Tryz.func91 rfl (by decide) rfl rfl ?_
 intro L
 show AW _ _ _ (⟨[(0,.p 1 0)],[(1,.box [.s (List.map encInt_u8 c.code),c.at',.v (.int .u64 c.seed)])],62,[(1,L 1)]⟩:St)
 refine AW.seq (AW.region (AO.pu T ?_))
 refine AO.nil (AW.seq (AW.region ?_))
 refine AO.pu T ?_
 refine AO.nil ?_
 iterate 2 refine AW.seq ?_
 refine AW.drawn 9 2 [] mix (by kernel_rfl) rfl ?_
 iterate 8 refine AD.pure T rfl rfl rfl ?_
 refine AD.val rfl rfl (len_map_ok T rfl rfl rfl) ?_
 refine AD.nil (AO.pu T ?_)
 refine AO.nil (AW.cond (b:=decide (c.at' < (c.code.length:Int))) rfl (fun hc=>?_) (fun hc=>?_))
 replace hH:=condT hc hH
 obtain ⟨x1,hx2,hH⟩:=bindE hH
 refine AW.drawn 8 2 [] mix (by kernel_rfl) rfl ?_
 iterate 8 refine AD.pure T rfl rfl rfl ?_
 refine AD.nil (AO.val rfl rfl (ix_map_ok T rfl rfl rfl rfl rfl (hx2) rfl) ?_)
 refine AO.pu T ?_
 refine AO.val rfl rfl (convw_ok T rfl rfl rfl rfl) ?_
 refine AO.pu T ?_
 refine AO.nil (AW.le (Le.ct 0 0 (σ':=(⟨[(0,.p 1 0),(3,(IntKind.wrap .i64 x1:Int))],[(1,.box [.s (List.map encInt_u8 c.code),c.at',.v (.int .u64 c.seed)])],62,[(1,L 1)]⟩:St)) (hpin:=⟨⟨rfl,rfl⟩,trivial⟩)) ?_)
 refine AW.seq (AW.region ?_)
 iterate 4 refine AO.pu T ?_
 refine AO.val rfl rfl (arw_ok rfl rfl rfl rfl) ?_
 iterate 2 refine AO.pu T ?_
 refine AO.se T [.s (List.map encInt_u8 c.code),w64 (c.at'+1),.v (.int .u64 c.seed)] ?_
 refine AO.nil (AW.seq (AW.region ?_))
 iterate 5 refine AO.pu T ?_
 refine AO.val rfl rfl (arw_ok rfl rfl rfl rfl) ?_
 refine AO.pu T ?_
 refine AO.val rfl rfl (convw_ok T rfl rfl rfl rfl) ?_
 iterate 2 refine AO.val rfl rfl (arw_ok rfl rfl rfl rfl) ?_
 iterate 2 refine AO.pu T ?_
 refine AO.se T [.s (List.map encInt_u8 c.code),w64 (c.at'+1),.v (.int .u64 (IntKind.wrap .u64 ((IntKind.wrap .u64 ((IntKind.wrap .u64 (c.seed * 6364136223846793005))+(IntKind.wrap .u64 (IntKind.wrap .i64 x1))))+1442695040888963407)))] ?_
 refine AO.nil ?_
 iterate 2 refine AW.seq ?_
 refine AW.drawn 9 2 [] mix (by kernel_rfl) rfl ?_
 iterate 8 refine AD.pure T rfl rfl rfl ?_
 refine AD.val rfl rfl (len_map_ok T rfl rfl rfl) ?_
 refine AD.nil (AO.pu T ?_)
 refine AO.nil (AW.le (Le.ct 0 0 (σ':=(⟨[(0,.p 1 0),(3,(IntKind.wrap .i64 x1:Int)),(53,.v (.bool (decide ((w64 (c.at'+1)) ≤ (c.code.length:Int)))))],[(1,.box [.s (List.map encInt_u8 c.code),w64 (c.at'+1),.v (.int .u64 (IntKind.wrap .u64 ((IntKind.wrap .u64 ((IntKind.wrap .u64 (c.seed * 6364136223846793005))+(IntKind.wrap .u64 (IntKind.wrap .i64 x1))))+1442695040888963407)))])],62,[(1,L 1)]⟩:St)) (hpin:=⟨⟨rfl,rfl⟩,trivial⟩)) ?_)
 refine AW.cond (b:=decide ((w64 (c.at'+1)) ≤ (c.code.length:Int))) rfl (fun hc=>?_) (fun hc=>?_)
 replace hH:=condT hc hH
 refine AW.seq (AW.region ?_)
 iterate 2 refine AO.pu T ?_
 refine AO.nil (AW.ret ?_)
 have hR:=someE hH;subst hR
 exact ⟨trivial,rfl,_,[],[1],rfl,expLG_cons (.c (.box rfl rfl)) (expLG_nil),.c (.c .v),by decide⟩
 replace hH:=condF hc hH
 refine AW.skip (AW.seq (AW.region ?_))
 iterate 4 refine AO.pu T ?_
 refine AO.val rfl rfl (shr_ok rfl rfl rfl rfl rfl) ?_
 refine AO.val rfl rfl (and_ok rfl rfl rfl) ?_
 refine AO.val rfl rfl (convw_ok T rfl rfl rfl rfl) ?_
 refine AO.pu T ?_
 refine AO.nil (AW.ret ?_)
 have hR:=someE hH;subst hR
 exact ⟨trivial,rfl,_,[],[1],rfl,expLG_cons (.c (.box rfl rfl)) (expLG_nil),.c (.c .v),by decide⟩
 replace hH:=condF hc hH
 refine AW.skip (AW.seq (AW.region ?_))
 iterate 4 refine AO.pu T ?_
 refine AO.val rfl rfl (arw_ok rfl rfl rfl rfl) ?_
 iterate 2 refine AO.pu T ?_
 refine AO.se T [.s (List.map encInt_u8 c.code),w64 (c.at'+1),.v (.int .u64 c.seed)] ?_
 refine AO.nil (AW.seq (AW.region ?_))
 iterate 5 refine AO.pu T ?_
 refine AO.val rfl rfl (arw_ok rfl rfl rfl rfl) ?_
 refine AO.pu T ?_
 refine AO.val rfl rfl (convw_ok T rfl rfl rfl rfl) ?_
 iterate 2 refine AO.val rfl rfl (arw_ok rfl rfl rfl rfl) ?_
 iterate 2 refine AO.pu T ?_
 refine AO.se T [.s (List.map encInt_u8 c.code),w64 (c.at'+1),.v (.int .u64 (IntKind.wrap .u64 ((IntKind.wrap .u64 ((IntKind.wrap .u64 (c.seed * 6364136223846793005))+(IntKind.wrap .u64 0)))+1442695040888963407)))] ?_
 refine AO.nil (AW.le (Le.ct 0 0 (σ':=(⟨[(0,.p 1 0),(3,(0:Int))],[(1,.box [.s (List.map encInt_u8 c.code),w64 (c.at'+1),.v (.int .u64 (IntKind.wrap .u64 ((IntKind.wrap .u64 ((IntKind.wrap .u64 (c.seed * 6364136223846793005))+(IntKind.wrap .u64 0)))+1442695040888963407)))])],62,[(1,L 1)]⟩:St)) (hpin:=⟨⟨rfl,rfl⟩,trivial⟩)) ?_)
 iterate 2 refine AW.seq ?_
 refine AW.drawn 9 2 [] mix (by kernel_rfl) rfl ?_
 iterate 8 refine AD.pure T rfl rfl rfl ?_
 refine AD.val rfl rfl (len_map_ok T rfl rfl rfl) ?_
 refine AD.nil (AO.pu T ?_)
 refine AO.nil (AW.cond (b:=decide ((w64 (c.at'+1)) ≤ (c.code.length:Int))) rfl (fun hc=>?_) (fun hc=>?_))
 replace hH:=condT hc hH
 refine AW.seq (AW.region ?_)
 iterate 2 refine AO.pu T ?_
 refine AO.nil (AW.ret ?_)
 have hR:=someE hH;subst hR
 exact ⟨trivial,rfl,_,[],[1],rfl,expLG_cons (.c (.box rfl rfl)) (expLG_nil),.c (.c .v),by decide⟩
 replace hH:=condF hc hH
 refine AW.skip (AW.seq (AW.region ?_))
 iterate 4 refine AO.pu T ?_
 refine AO.val rfl rfl (shr_ok rfl rfl rfl rfl rfl) ?_
 refine AO.val rfl rfl (and_ok rfl rfl rfl) ?_
 refine AO.val rfl rfl (convw_ok T rfl rfl rfl rfl) ?_
 refine AO.pu T ?_
 refine AO.nil (AW.ret ?_)
 have hR:=someE hH;subst hR
 exact ⟨trivial,rfl,_,[],[1],rfl,expLG_cons (.c (.box rfl rfl)) (expLG_nil),.c (.c .v),by decide⟩

def spec_l1Cur_pick_p (c:L1Cur) (n:Int):Option (L1Cur × Int) :=
  cond (decide (n ≤ 1))
    (some (c,0))
    ((spec_l1Cur_next_p c).bind fun x1 =>
    cond (decide (n > 200))
      ((spec_l1Cur_next_p (L1Cur.mk x1.1.code x1.1.at' x1.1.seed)).bind fun x3 =>
      (need (n != 0)).bind fun u5 =>
      some ((L1Cur.mk x3.1.code x3.1.at' x3.1.seed),((w64 ((w64 (x1.2 * 256))+x3.2)).tmod n)))
      ((need (n != 0)).bind fun u7 =>
      some ((L1Cur.mk x1.1.code x1.1.at' x1.1.seed),(x1.2.tmod n))))
theorem spec_l1Cur_pick_ok (c:L1Cur) (n:Int) (r:(L1Cur × Int)) (hH:spec_l1Cur_pick_p c n=some r):SpecM Tryz.prog 58 [.pw (encL1Cur c),n] [.pw (encL1Cur r.1),.u] (.v (.int .i64 r.2)):=by
 refine fn_okM T Tryz.func58 rfl (by decide) rfl rfl ?_
 intro L
 show AW _ _ _ (⟨[(0,.p 1 0),(1,n)],[(1,.box [.s (List.map encInt_u8 c.code),c.at',.v (.int .u64 c.seed)])],20,[(1,L 1)]⟩:St)
 refine AW.seq (AW.region (AO.pu T ?_))
 refine AO.nil ?_
 iterate 2 refine AW.seq ?_
 refine AW.region ?_
 iterate 2 refine AO.pu T ?_
 refine AO.nil (AW.cond (b:=decide (n ≤ 1)) rfl (fun hc=>?_) (fun hc=>?_))
 replace hH:=condT hc hH
 refine AW.seq (AW.region (AO.pu T ?_))
 refine AO.nil (AW.ret ?_)
 have hR:=someE hH;subst hR
 exact ⟨trivial,rfl,_,[],[1],rfl,expLG_cons (.c (.box rfl rfl)) (expLG_cons (.c .u) (expLG_nil)),.c (.c .v),by decide⟩
 replace hH:=condF hc hH
 refine AW.skip (AW.seq ?_)
 obtain ⟨x1,hx2,hH⟩:=bindE hH
 refine AW.region (AO.pu T ?_)
 refine AO.step rfl (callM_ok rfl 2 rfl rfl (es:=[.pw (encL1Cur c)]) (outs:=[.pw (encL1Cur x1.1)]) (ids:=[1]) (by exact expLG_cons (.c (.box rfl rfl)) (expLG_nil)) (by decide) (.inl (by rfl)) (by rfl) (spec_l1Cur_next_ok _ _ (hx2)) rfl (by rfl) rfl) ?_
 refine AO.pu T ?_
 refine AO.nil ?_
 iterate 2 refine AW.seq ?_
 refine AW.region ?_
 iterate 2 refine AO.pu T ?_
 refine AO.nil (AW.cond (b:=decide (n > 200)) rfl (fun hc=>?_) (fun hc=>?_))
 replace hH:=condT hc hH
 obtain ⟨x3,hx4,hH⟩:=bindE hH
 refine AW.region (AO.pu T ?_)
 refine AO.val rfl rfl (arw_ok rfl rfl rfl rfl) ?_
 refine AO.pu T ?_
 refine AO.step rfl (callM_ok rfl 2 rfl rfl (es:=[.pw (encL1Cur (L1Cur.mk x1.1.code x1.1.at' x1.1.seed))]) (outs:=[.pw (encL1Cur x3.1)]) (ids:=[1]) (by exact expLG_cons (.c (.box rfl rfl)) (expLG_nil)) (by decide) (.inl (by rfl)) (by rfl) (spec_l1Cur_next_ok _ _ (hx4)) rfl (by rfl) rfl) ?_
 refine AO.val rfl rfl (arw_ok rfl rfl rfl rfl) ?_
 refine AO.pu T ?_
 refine AO.nil (AW.seq ?_)
 obtain ⟨u5,hx6,hH⟩:=bindE hH
 refine AW.region ?_
 iterate 2 refine AO.pu T ?_
 refine AO.val rfl rfl (rem_ok rfl rfl rfl (neZ (needT (hx6)))) ?_
 refine AO.pu T ?_
 refine AO.nil (AW.ret ?_)
 have hR:=someE hH;subst hR
 exact ⟨trivial,rfl,_,[],[1],rfl,expLG_cons (.c (.box rfl rfl)) (expLG_cons (.c .u) (expLG_nil)),.c (.c .v),by decide⟩
 replace hH:=condF hc hH
 refine AW.skip (AW.seq ?_)
 obtain ⟨u7,hx8,hH⟩:=bindE hH
 refine AW.region ?_
 iterate 2 refine AO.pu T ?_
 refine AO.val rfl rfl (rem_ok rfl rfl rfl (neZ (needT (hx8)))) ?_
 refine AO.pu T ?_
 refine AO.nil (AW.ret ?_)
 have hR:=someE hH;subst hR
 exact ⟨trivial,rfl,_,[],[1],rfl,expLG_cons (.c (.box rfl rfl)) (expLG_cons (.c .u) (expLG_nil)),.c (.c .v),by decide⟩

def spec_l1Cur_among_p (c:L1Cur) (list:List Int):Option (L1Cur × Int) :=
  (spec_l1Cur_pick_p c (list.length:Int)).bind fun x1 =>
  (getI list x1.2).bind fun x3 =>
  some ((L1Cur.mk x1.1.code x1.1.at' x1.1.seed),x3)
theorem spec_l1Cur_among_ok (c:L1Cur) (list:List Int) (r:(L1Cur × Int)) (hH:spec_l1Cur_among_p c list=some r):SpecM Tryz.prog 55 [.pw (encL1Cur c),.s (List.map encInt list)] [.pw (encL1Cur r.1),.u] (.v (.int .i64 r.2)):=by
 refine fn_okM T Tryz.func55 rfl (by decide) rfl rfl ?_
 intro L
 show AW _ _ _ (⟨[(0,.p 1 0),(1,.s (List.map encInt list))],[(1,.box [.s (List.map encInt_u8 c.code),c.at',.v (.int .u64 c.seed)])],12,[(1,L 1)]⟩:St)
 refine AW.seq (AW.region (AO.pu T ?_))
 refine AO.nil (AW.seq ?_)
 obtain ⟨x1,hx2,hH⟩:=bindE hH
 obtain ⟨x3,hx4,hH⟩:=bindE hH
 refine AW.region ?_
 iterate 3 refine AO.pu T ?_
 refine AO.val rfl rfl (len_map_ok T rfl rfl rfl) ?_
 refine AO.step rfl (callM_ok rfl 2 rfl rfl (es:=[.pw (encL1Cur c),.v (.int .i64 (list.length:Int))]) (outs:=[.pw (encL1Cur x1.1),.u]) (ids:=[1]) (by exact expLG_cons (.c (.box rfl rfl)) (expLG_cons (.c .v) (expLG_nil))) (by decide) (.inl (by rfl)) (by rfl) (spec_l1Cur_pick_ok _ _ _ (hx2)) rfl (by rfl) rfl) ?_
 refine AO.val rfl rfl (ix_map_ok T rfl rfl rfl rfl rfl (hx4) rfl) ?_
 iterate 2 refine AO.pu T ?_
 refine AO.nil (AW.ret ?_)
 have hR:=someE hH;subst hR
 exact ⟨trivial,rfl,_,[],[1],rfl,expLG_cons (.c (.box rfl rfl)) (expLG_cons (.c .u) (expLG_nil)),.c (.c .v),by decide⟩

def spec_l1In_p (n:Int) (lo:Int) (hi:Int):Option Bool :=
  some (decide (n ≥ lo) && decide (n ≤ hi))
theorem spec_l1In_ok (n:Int) (lo:Int) (hi:Int) (r:Bool) (hH:spec_l1In_p n lo hi=some r):SpecR Tryz.prog 48 [n,lo,hi] (.v (.bool r)):=by
 refine fn_ok T Tryz.func48 rfl (by decide) rfl ?_
 refine AW.seq (AW.region (AO.pu T ?_))
 refine AO.nil (AW.seq (AW.region ?_))
 iterate 4 refine AO.pu T ?_
 iterate 2 refine AO.pureG T [] rfl trivial rfl rfl ?_
 refine AO.pureG T [11,12] rfl ⟨fun h=>h,fun h=>h,trivial⟩ rfl rfl ?_
 refine AO.val rfl rfl (pick_and rfl rfl rfl rfl) ?_
 refine AO.pu T ?_
 refine AO.nil (AW.ret ?_)
 have hR:=someE hH;subst hR
 exact retQ.i [] rfl (.c (.c .v))

def spec_seEntry_p (e:Entry):Option Bool :=
  (spec_l1In_p e.event 1 99).bind fun x1 =>
  (opt x1 default (spec_l1In_p e.skater 1 999)).bind fun x3 =>
  (opt (x1 && x3) default (spec_l1In_p e.points 0 100000)).bind fun x5 =>
  some ((x1 && x3) && x5)
theorem spec_seEntry_ok (e:Entry) (r:Bool) (hH:spec_seEntry_p e=some r):SpecR Tryz.prog 93 [.g (encEntry e)] (.v (.bool r)):=by
 refine fn_ok T Tryz.func93 rfl (by decide) rfl ?_
 refine AW.seq (AW.region (AO.step rfl (box_ok T rfl 1 rfl rfl rfl rfl) ?_))
 refine AO.pu T ?_
 refine AO.nil (AW.seq ?_)
 obtain ⟨x1,hx2,hH⟩:=bindE hH
 obtain ⟨x3,hx4,hH⟩:=bindE hH
 obtain ⟨x5,hx6,hH⟩:=bindE hH
 refine AW.region ?_
 iterate 2 refine AO.pu T ?_
 refine AO.val rfl rfl (callV_ok rfl rfl rfl rfl (spec_l1In_ok _ _ _ _ (hx2)) rfl) ?_
 refine AO.pu T ?_
 refine AO.pureG T [] rfl trivial rfl rfl ?_
 refine AO.pureG T [7] rfl ⟨fun h=>h,trivial⟩ rfl rfl ?_
 refine AO.guard [8] rfl ⟨fun h=>h,trivial⟩ (fun hg=>callV_ok rfl rfl rfl rfl (spec_l1In_ok _ _ _ _ (optT hx4 hg)) rfl) rfl ?_
 refine AO.val rfl rfl (pick_and rfl rfl rfl rfl) ?_
 refine AO.pu T ?_
 refine AO.pureG T [] rfl trivial rfl rfl ?_
 refine AO.pureG T [12] rfl ⟨fun h=>h,trivial⟩ rfl rfl ?_
 refine AO.guard [13] rfl ⟨fun h=>h,trivial⟩ (fun hg=>callV_ok rfl rfl rfl rfl (spec_l1In_ok _ _ _ _ (optT hx6 hg)) rfl) rfl ?_
 refine AO.val rfl rfl (pick_and rfl rfl rfl rfl) ?_
 refine AO.pu T ?_
 refine AO.nil (AW.ret ?_)
 have hR:=someE hH;subst hR
 exact retQ.i [] rfl (.c (.c .v))

def spec_seEntries_l2 (y2:Entry):List Entry→Nat→Option (Except Bool Unit)
  | [],k68 =>
    some (.ok ())
  | y69::ys70,k68 =>
    cond ((y69.event == y2.event) && (y69.skater == y2.skater))
      (some (.error false))
      (spec_seEntries_l2 y2 ys70 (k68+1))
def spec_seEntries_l1 (l:List Entry):List Entry→Nat→Option Bool
  | [],k1 =>
    some (decide ((l.length:Int) ≤ 80))
  | y2::ys3,k1 =>
    ((spec_seEntry_p y2).bind fun x64 =>
    cond (!x64)
      (some (.error false))
      ((sliceHi l (k1:Int)).bind fun x66 =>
      spec_seEntries_l2 y2 x66 0)).bind fun o62=>flow o62 fun _ =>
    spec_seEntries_l1 l ys3 (k1+1)
def spec_seEntries_p (l:List Entry):Option Bool :=
  spec_seEntries_l1 l l 0
theorem spec_seEntries_ok (l:List Entry) (r:Bool) (hH:spec_seEntries_p l=some r):SpecR Tryz.prog 108 [.s (List.map encEntry l)] (.v (.bool r)):=by
 refine fn_ok T Tryz.func108 rfl (by decide) rfl ?_
 refine AW.seq (AW.region (AO.pu T ?_))
 refine AO.nil ?_
 iterate 2 refine AW.seq ?_
 refine AW.region (AO.pu T ?_)
 refine AO.val rfl rfl (len_map_ok T rfl rfl rfl) ?_
 refine AO.pu T ?_
 refine AO.nil (AW.block ?_)
 refine AW.loopS (fun s:Nat=>(⟨[(0,.s (List.map encEntry l)),(7,.s (List.map encEntry l)),(8,(l.length:Int)),(9,(s:Int))],[],42,[]⟩:St)) (fun s=>s ≤ l.length∧spec_seEntries_l1 l (l.drop s) s=some r) (fun s=>l.length - s) 0 ⟨Nat.zero_le _,hH⟩ ?_ ?_
 exact Le.ct 0 0
 rintro k1 ⟨hk,hH⟩
 replace hH:spec_seEntries_l1 l (l.drop k1) k1=some r:=hH
 try dsimp only
 refine AW.boundM (t:=0) (l:=l) rfl (fun hb5=>?_)
 rcases hd4:l.drop k1 with _ | ⟨y2,ys3⟩
 rw [hd4,spec_seEntries_l1] at hH
 have hlt6:=drop_ge hd4
 refine AW.seq (AW.region (AO.pu T ?_))
 refine AO.nil (AW.seq (AW.condF' (b:=decide ((k1:Int) < (l.length:Int))) rfl (rngF hlt6) ?_))
 refine AW.exit (AW.seq (AW.region ?_))
 refine AO.pu T ?_
 refine AO.val rfl rfl (len_map_ok T rfl rfl rfl) ?_
 iterate 2 refine AO.pu T ?_
 refine AO.nil (AW.ret ?_)
 have hR:=someE hH;subst hR
 exact retQ.i [] rfl (.c (.c .v))
 rw [hd4,spec_seEntries_l1] at hH
 have hlt6:=drop_lt hd4
 refine AW.seq (AW.region (AO.pu T ?_))
 refine AO.nil (AW.seq (AW.condT' (b:=decide ((k1:Int) < (l.length:Int))) rfl (rngT hlt6) ?_))
 refine AW.skip ?_
 obtain ⟨o62,hH,hK63⟩:=bindE hH
 refine AW.seqJ (fun s:Unit=>(⟨[(0,.s (List.map encEntry l)),(7,.s (List.map encEntry l)),(8,(l.length:Int)),(9,(k1:Int))],[],42,[]⟩:St)) (fun s=>.ok s=o62) ?_ ?_
 refine AW.block (AW.seq (AW.region ?_))
 refine AO.pu T ?_
 refine AO.val rfl rfl (ix_map_ok T rfl rfl rfl rfl rfl (getI_drop hd4) rfl) ?_
 refine AO.pu T (d:=.g [y2.event,y2.skater,y2.points]) ?_
 refine AO.step rfl (alloc_ok T rfl 21 rfl rfl rfl rfl rfl) ?_
 refine AO.pu T ?_
 refine AO.se T [y2.event,y2.skater,y2.points] ?_
 refine AO.nil ?_
 iterate 2 refine AW.seq ?_
 obtain ⟨x64,hx65,hH⟩:=bindE hH
 refine AW.region (AO.pu T (d:=.g [y2.event,y2.skater,y2.points]) ?_)
 refine AO.val rfl rfl (callV_ok rfl rfl rfl rfl (spec_seEntry_ok _ _ (hx65)) rfl) ?_
 refine AO.pu T ?_
 refine AO.nil (AW.cond (b:=(!x64)) rfl (fun hc=>?_) (fun hc=>?_))
 replace hH:=condT hc hH
 refine AW.seq (AW.region (AO.pu T ?_))
 refine AO.nil (AW.ret ?_)
 obtain rfl:=someE hH
 replace hH:=hK63
 have hR:=someE hH;subst hR
 exact retQ.i [] rfl (.c (.c .v))
 replace hH:=condF hc hH
 refine AW.skip (AW.seq ?_)
 obtain ⟨x66,hx67,hH⟩:=bindE hH
 refine AW.region ?_
 iterate 2 refine AO.pu T ?_
 refine AO.val rfl rfl (slice_hi_map_ok T rfl rfl rfl rfl rfl (hx67) (fun _=>rfl)) ?_
 refine AO.val rfl rfl (len_map_ok T rfl rfl rfl) ?_
 refine AO.pu T ?_
 refine AO.nil (AW.block ?_)
 refine AW.loopS (fun s:Nat=>(⟨[(0,.s (List.map encEntry l)),(4,.p 21 0),(7,.s (List.map encEntry l)),(8,(l.length:Int)),(9,(k1:Int)),(19,.s (List.map encEntry x66)),(20,(x66.length:Int)),(21,(s:Int))],[(21,.box [y2.event,y2.skater,y2.points])],42,[]⟩:St)) (fun s=>s ≤ x66.length∧spec_seEntries_l2 y2 (x66.drop s) s=some o62) (fun s=>x66.length - s) 0 ⟨Nat.zero_le _,hH⟩ ?_ ?_
 exact Le.ct 0 0
 rintro k68 ⟨hk,hH⟩
 replace hH:spec_seEntries_l2 y2 (x66.drop k68) k68=some o62:=hH
 try dsimp only
 refine AW.boundM (t:=19) (l:=x66) rfl (fun hb72=>?_)
 rcases hd71:x66.drop k68 with _ | ⟨y69,ys70⟩
 rw [hd71,spec_seEntries_l2] at hH
 have hlt73:=drop_ge hd71
 refine AW.seq (AW.region (AO.pu T ?_))
 refine AO.nil (AW.seq (AW.condF' (b:=decide ((k68:Int) < (x66.length:Int))) rfl (rngF hlt73) ?_))
 refine AW.exit ?_
 refine ⟨_,someE hH,?_⟩
 exact Le.ct 0 0
 rw [hd71,spec_seEntries_l2] at hH
 have hlt73:=drop_lt hd71
 refine AW.seq (AW.region (AO.pu T ?_))
 refine AO.nil (AW.seq (AW.condT' (b:=decide ((k68:Int) < (x66.length:Int))) rfl (rngT hlt73) ?_))
 refine AW.skip (AW.seq ?_)
 refine AW.block (AW.seq (AW.region ?_))
 refine AO.val rfl rfl (ix_map_ok T rfl rfl rfl rfl rfl (getI_drop hd71) rfl) ?_
 refine AO.pu T (d:=.g [y69.event,y69.skater,y69.points]) ?_
 refine AO.step rfl (alloc_ok T rfl 24 rfl rfl rfl rfl rfl) ?_
 refine AO.se T [y69.event,y69.skater,y69.points] ?_
 refine AO.nil (AW.seq (AW.region ?_))
 iterate 6 refine AO.pu T ?_
 refine AO.pureG T [] rfl trivial rfl rfl ?_
 refine AO.pureG T [31] rfl ⟨fun h=>h,trivial⟩ rfl rfl ?_
 refine AO.pureG T [] rfl trivial rfl rfl ?_
 refine AO.pureG T [33] rfl ⟨fun h=>h,trivial⟩ rfl rfl ?_
 refine AO.pureG T [32,34] rfl ⟨fun h=>h,fun h=>h,trivial⟩ rfl rfl ?_
 refine AO.val rfl rfl (pick_and rfl rfl rfl rfl) ?_
 refine AO.nil (AW.cond (b:=((y69.event == y2.event) && (y69.skater == y2.skater))) rfl (fun hc=>?_) (fun hc=>?_))
 replace hH:=condT hc hH
 refine AW.seq (AW.region (AO.pu T ?_))
 refine AO.nil (AW.ret ?_)
 obtain rfl:=someE hH
 replace hH:=hK63
 have hR:=someE hH;subst hR
 exact retQ.i [] rfl (.c (.c .v))
 replace hH:=condF hc hH
 refine AW.skip (AW.region ?_)
 refine AO.val rfl rfl (ar_ok rfl rfl rfl rfl (inI_succ hlt73 hb72)) ?_
 refine AO.pu T ?_
 refine AO.nil ?_
 refine ⟨k68+1,⟨Nat.succ_le_of_lt hlt73,(by rw [drop_succ_of hd71];exact hH)⟩,(by have:=hlt73;dsimp only;omega),?_⟩
 exact Le.ct 0 0
 rintro _ hs
 subst hs
 replace hH:=hK63
 try dsimp only [flow,flowE] at hH
 try dsimp only
 refine AW.region (AO.val rfl rfl (ar_ok rfl rfl rfl rfl (inI_succ hlt6 hb5)) ?_)
 refine AO.pu T ?_
 refine AO.nil ?_
 refine ⟨k1+1,⟨Nat.succ_le_of_lt hlt6,(by rw [drop_succ_of hd4];exact hH)⟩,(by have:=hlt6;dsimp only;omega),?_⟩
 exact Le.ct 0 0

def spec_l1Cur_one_p (c:L1Cur) (n:Int):Option (L1Cur × Bool) :=
  (spec_l1Cur_pick_p c n).bind fun x1 =>
  some ((L1Cur.mk x1.1.code x1.1.at' x1.1.seed),(x1.2 == 0))
theorem spec_l1Cur_one_ok (c:L1Cur) (n:Int) (r:(L1Cur × Bool)) (hH:spec_l1Cur_one_p c n=some r):SpecM Tryz.prog 73 [.pw (encL1Cur c),n] [.pw (encL1Cur r.1),.u] (.v (.bool r.2)):=by
 refine fn_okM T Tryz.func73 rfl (by decide) rfl rfl ?_
 intro L
 show AW _ _ _ (⟨[(0,.p 1 0),(1,n)],[(1,.box [.s (List.map encInt_u8 c.code),c.at',.v (.int .u64 c.seed)])],9,[(1,L 1)]⟩:St)
 refine AW.seq (AW.region (AO.pu T ?_))
 refine AO.nil (AW.seq ?_)
 obtain ⟨x1,hx2,hH⟩:=bindE hH
 refine AW.region ?_
 iterate 2 refine AO.pu T ?_
 refine AO.step rfl (callM_ok rfl 2 rfl rfl (es:=[.pw (encL1Cur c),.v (.int .i64 n)]) (outs:=[.pw (encL1Cur x1.1),.u]) (ids:=[1]) (by exact expLG_cons (.c (.box rfl rfl)) (expLG_cons (.c .v) (expLG_nil))) (by decide) (.inl (by rfl)) (by rfl) (spec_l1Cur_pick_ok _ _ _ (hx2)) rfl (by rfl) rfl) ?_
 iterate 2 refine AO.pu T ?_
 refine AO.nil (AW.ret ?_)
 have hR:=someE hH;subst hR
 exact ⟨trivial,rfl,_,[],[1],rfl,expLG_cons (.c (.box rfl rfl)) (expLG_cons (.c .u) (expLG_nil)),.c (.c .v),by decide⟩

def spec_l1Cur_entries_l2 (x67:(L1Cur × Int)):Nat→List Entry→Option ((L1Cur × (List Entry)))
  | 0,_=>none
  | k69+1,v79 =>
    cond (decide ((v79.length:Int) < (w64 (80+x67.2))))
      ((need (9 != 0)).bind fun u81 =>
      (need (fitsB 24 (v79.length+([(Entry.mk (w64 (1+((v79.length:Int).tmod 9))) (w64 (1+(w64 ((v79.length:Int).tdiv 9)))) (w64 (10 * (v79.length:Int))))]).length))).bind fun u83 =>
      spec_l1Cur_entries_l2 x67 k69 (v79++[(Entry.mk (w64 (1+((v79.length:Int).tmod 9))) (w64 (1+(w64 ((v79.length:Int).tdiv 9)))) (w64 (10 * (v79.length:Int))))]))
      (some ((L1Cur.mk x67.1.code x67.1.at' x67.1.seed),v79))
def spec_l1Cur_entries_l3 (x89:(L1Cur × Int)):Nat→List Entry→Option ((L1Cur × (List Entry)))
  | 0,_=>none
  | k91+1,v101 =>
    cond (decide ((v101.length:Int) < (w64 (80+x89.2))))
      ((need (9 != 0)).bind fun u103 =>
      (need (fitsB 24 (v101.length+([(Entry.mk (w64 (1+((v101.length:Int).tmod 9))) (w64 (1+(w64 ((v101.length:Int).tdiv 9)))) (w64 (10 * (v101.length:Int))))]).length))).bind fun u105 =>
      spec_l1Cur_entries_l3 x89 k91 (v101++[(Entry.mk (w64 (1+((v101.length:Int).tmod 9))) (w64 (1+(w64 ((v101.length:Int).tdiv 9)))) (w64 (10 * (v101.length:Int))))]))
      (some ((L1Cur.mk x89.1.code x89.1.at' x89.1.seed),v101))
def spec_l1Cur_entries_l4 (x111:(L1Cur × Int)):Nat→List Entry→Option ((L1Cur × (List Entry)))
  | 0,_=>none
  | k113+1,v123 =>
    cond (decide ((v123.length:Int) < (w64 (80+x111.2))))
      ((need (9 != 0)).bind fun u125 =>
      (need (fitsB 24 (v123.length+([(Entry.mk (w64 (1+((v123.length:Int).tmod 9))) (w64 (1+(w64 ((v123.length:Int).tdiv 9)))) (w64 (10 * (v123.length:Int))))]).length))).bind fun u127 =>
      spec_l1Cur_entries_l4 x111 k113 (v123++[(Entry.mk (w64 (1+((v123.length:Int).tmod 9))) (w64 (1+(w64 ((v123.length:Int).tdiv 9)))) (w64 (10 * (v123.length:Int))))]))
      (some ((L1Cur.mk x111.1.code x111.1.at' x111.1.seed),v123))
def spec_l1Cur_entries_l5 (x131:(L1Cur × Int)):Nat→List Entry→Option ((L1Cur × (List Entry)))
  | 0,_=>none
  | k133+1,v143 =>
    cond (decide ((v143.length:Int) < (w64 (80+x131.2))))
      ((need (9 != 0)).bind fun u145 =>
      (need (fitsB 24 (v143.length+([(Entry.mk (w64 (1+((v143.length:Int).tmod 9))) (w64 (1+(w64 ((v143.length:Int).tdiv 9)))) (w64 (10 * (v143.length:Int))))]).length))).bind fun u147 =>
      spec_l1Cur_entries_l5 x131 k133 (v143++[(Entry.mk (w64 (1+((v143.length:Int).tmod 9))) (w64 (1+(w64 ((v143.length:Int).tdiv 9)))) (w64 (10 * (v143.length:Int))))]))
      (some ((L1Cur.mk x131.1.code x131.1.at' x131.1.seed),v143))
def spec_l1Cur_entries_l6 (x151:(L1Cur × Int)):Nat→List Entry→Option ((L1Cur × (List Entry)))
  | 0,_=>none
  | k153+1,v163 =>
    cond (decide ((v163.length:Int) < (w64 (80+x151.2))))
      ((need (9 != 0)).bind fun u165 =>
      (need (fitsB 24 (v163.length+([(Entry.mk (w64 (1+((v163.length:Int).tmod 9))) (w64 (1+(w64 ((v163.length:Int).tdiv 9)))) (w64 (10 * (v163.length:Int))))]).length))).bind fun u167 =>
      spec_l1Cur_entries_l6 x151 k153 (v163++[(Entry.mk (w64 (1+((v163.length:Int).tmod 9))) (w64 (1+(w64 ((v163.length:Int).tdiv 9)))) (w64 (10 * (v163.length:Int))))]))
      (some ((L1Cur.mk x151.1.code x151.1.at' x151.1.seed),v163))
def spec_l1Cur_entries_l1 (fuel:Nat):Nat→List Int→Int→Int→List Entry→Int→Option ((L1Cur × (List Entry)))
  | 0,_,_,_,_,_=>none
  | k3+1,v37,v38,v39,v40,v41 =>
    cond (decide (v41 > 0))
      ((spec_l1Cur_pick_p (L1Cur.mk v37 v38 v39) 6).bind fun x43 =>
      (spec_l1Cur_pick_p (L1Cur.mk x43.1.code x43.1.at' x43.1.seed) 5).bind fun x45 =>
      (spec_l1Cur_pick_p (L1Cur.mk x45.1.code x45.1.at' x45.1.seed) 900).bind fun x47 =>
      (spec_l1Cur_among_p (L1Cur.mk x47.1.code x47.1.at' x47.1.seed) [0,100,100,250,400,1000,x47.2]).bind fun x49 =>
      (need (fitsB 24 (v40.length+([(Entry.mk (w64 (1+x43.2)) (w64 (1+x45.2)) x49.2)]).length))).bind fun u51 =>
      (spec_seEntries_p (v40++[(Entry.mk (w64 (1+x43.2)) (w64 (1+x45.2)) x49.2)])).bind fun x53 =>
      (opt (!x53) ((L1Cur.mk x49.1.code x49.1.at' x49.1.seed),default) (spec_l1Cur_one_p (L1Cur.mk x49.1.code x49.1.at' x49.1.seed) 24)).bind fun x55 =>
      cond (x53 || x55.2)
        (spec_l1Cur_entries_l1 fuel k3 x55.1.code x55.1.at' x55.1.seed (v40++[(Entry.mk (w64 (1+x43.2)) (w64 (1+x45.2)) x49.2)]) (w64 (v41 - 1)))
        (spec_l1Cur_entries_l1 fuel k3 x55.1.code x55.1.at' x55.1.seed v40 (w64 (v41 - 1))))
      (cond (decide ((v40.length:Int) > 0))
        ((spec_l1Cur_pick_p (L1Cur.mk v37 v38 v39) (v40.length:Int)).bind fun x57 =>
        (getI v40 x57.2).bind fun x59 =>
        (spec_l1Cur_pick_p (L1Cur.mk x57.1.code x57.1.at' x57.1.seed) 30).bind fun x61 =>
        cond (x61.2 == 0)
          ((spec_l1Cur_among_p (L1Cur.mk x61.1.code x61.1.at' x61.1.seed) ([0,99,100]:List Int)).bind fun x63 =>
          (spec_l1Cur_one_p (L1Cur.mk x63.1.code x63.1.at' x63.1.seed) 30).bind fun x65 =>
          cond x65.2
            ((spec_l1Cur_pick_p (L1Cur.mk x65.1.code x65.1.at' x65.1.seed) 2).bind fun x67 =>
            spec_l1Cur_entries_l2 x67 fuel [])
            (some ((L1Cur.mk x65.1.code x65.1.at' x65.1.seed),(v40.set x57.2.toNat (Entry.mk x63.2 x59.skater x59.points)))))
          (cond (x61.2 == 1)
            ((spec_l1Cur_among_p (L1Cur.mk x61.1.code x61.1.at' x61.1.seed) ([0,999,1000]:List Int)).bind fun x85 =>
            (spec_l1Cur_one_p (L1Cur.mk x85.1.code x85.1.at' x85.1.seed) 30).bind fun x87 =>
            cond x87.2
              ((spec_l1Cur_pick_p (L1Cur.mk x87.1.code x87.1.at' x87.1.seed) 2).bind fun x89 =>
              spec_l1Cur_entries_l3 x89 fuel [])
              (some ((L1Cur.mk x87.1.code x87.1.at' x87.1.seed),(v40.set x57.2.toNat (Entry.mk x59.event x85.2 x59.points)))))
            (cond (x61.2 == 2)
              ((spec_l1Cur_among_p (L1Cur.mk x61.1.code x61.1.at' x61.1.seed) ([(-1),100000,100001]:List Int)).bind fun x107 =>
              (spec_l1Cur_one_p (L1Cur.mk x107.1.code x107.1.at' x107.1.seed) 30).bind fun x109 =>
              cond x109.2
                ((spec_l1Cur_pick_p (L1Cur.mk x109.1.code x109.1.at' x109.1.seed) 2).bind fun x111 =>
                spec_l1Cur_entries_l4 x111 fuel [])
                (some ((L1Cur.mk x109.1.code x109.1.at' x109.1.seed),(v40.set x57.2.toNat (Entry.mk x59.event x59.skater x107.2)))))
              ((spec_l1Cur_one_p (L1Cur.mk x61.1.code x61.1.at' x61.1.seed) 30).bind fun x129 =>
              cond x129.2
                ((spec_l1Cur_pick_p (L1Cur.mk x129.1.code x129.1.at' x129.1.seed) 2).bind fun x131 =>
                spec_l1Cur_entries_l5 x131 fuel [])
                (some ((L1Cur.mk x129.1.code x129.1.at' x129.1.seed),v40))))))
        ((spec_l1Cur_one_p (L1Cur.mk v37 v38 v39) 30).bind fun x149 =>
        cond x149.2
          ((spec_l1Cur_pick_p (L1Cur.mk x149.1.code x149.1.at' x149.1.seed) 2).bind fun x151 =>
          spec_l1Cur_entries_l6 x151 fuel [])
          (some ((L1Cur.mk x149.1.code x149.1.at' x149.1.seed),v40))))
def spec_l1Cur_entries_p (fuel:Nat) (c:L1Cur):Option (L1Cur × (List Entry)) :=
  (spec_l1Cur_pick_p c 14).bind fun x1 =>
  spec_l1Cur_entries_l1 fuel fuel x1.1.code x1.1.at' x1.1.seed [] x1.2
theorem spec_l1Cur_entries_ok (fuel:Nat) (c:L1Cur) (r:(L1Cur × (List Entry))) (hH:spec_l1Cur_entries_p fuel c=some r):SpecM Tryz.prog 107 [.pw (encL1Cur c)] [.pw (encL1Cur r.1)] (.w 3 (r.2.map encEntry)):=by
 refine fn_okM T Tryz.func107 rfl (by decide) rfl rfl ?_
 intro L
 show AW _ _ _ (⟨[(0,.p 1 0)],[(1,.box [.s (List.map encInt_u8 c.code),c.at',.v (.int .u64 c.seed)])],98,[(1,L 1)]⟩:St)
 refine AW.seq (AW.region (AO.pu T ?_))
 refine AO.nil (AW.seq (AW.region ?_))
 refine AO.pu T ?_
 refine AO.nil ?_
 iterate 2 refine AW.seq ?_
 obtain ⟨x1,hx2,hH⟩:=bindE hH
 refine AW.region (AO.pu T ?_)
 refine AO.step rfl (callM_ok rfl 2 rfl rfl (es:=[.pw (encL1Cur c),.v (.int .i64 14)]) (outs:=[.pw (encL1Cur x1.1),.u]) (ids:=[1]) (by exact expLG_cons (.c (.box rfl rfl)) (expLG_cons (.c .v) (expLG_nil))) (by decide) (.inl (by rfl)) (by rfl) (spec_l1Cur_pick_ok _ _ _ (hx2)) rfl (by rfl) rfl) ?_
 refine AO.pu T ?_
 refine AO.nil (AW.block ?_)
 refine AW.loopS (fun s:Nat × (List Int) × Int × Int × (List Entry) × Int=>(⟨[(0,.p 1 0),(3,.R 9),(4,s.2.2.2.2.2)],[(1,.box [.s (List.map encInt_u8 s.2.1),s.2.2.1,.v (.int .u64 s.2.2.2.1)]),(9,.row 3 (List.map encEntry s.2.2.2.2.1))],98,[(1,L 1)]⟩:St)) (fun s=>spec_l1Cur_entries_l1 fuel s.1 s.2.1 s.2.2.1 s.2.2.2.1 s.2.2.2.2.1 s.2.2.2.2.2=some r) (fun s=>s.1) (fuel,x1.1.code,x1.1.at',x1.1.seed,[],x1.2) hH ?_ ?_
 refine Le.trans (Le.void 3 9 3 rfl rfl) ?_
 exact Le.ct 0 0 (hpin:=⟨⟨rfl,rfl⟩,trivial⟩)
 rintro ⟨k3,v37,v38,v39,v40,v41⟩ hH
 replace hH:spec_l1Cur_entries_l1 fuel k3 v37 v38 v39 v40 v41=some r:=hH
 try dsimp only
 rcases k3 with _ | k3
 cases (show none=some _ from hH)
 rw [spec_l1Cur_entries_l1] at hH
 iterate 2 refine AW.seq ?_
 refine AW.region ?_
 iterate 2 refine AO.pu T ?_
 refine AO.nil (AW.cond (b:=decide (v41 > 0)) rfl (fun hc=>?_) (fun hc=>?_))
 replace hH:=condT hc hH
 refine AW.skip (AW.seq ?_)
 refine AW.block (AW.seq ?_)
 obtain ⟨x43,hx44,hH⟩:=bindE hH
 obtain ⟨x45,hx46,hH⟩:=bindE hH
 obtain ⟨x47,hx48,hH⟩:=bindE hH
 obtain ⟨x49,hx50,hH⟩:=bindE hH
 refine AW.region (AO.pu T ?_)
 refine AO.step rfl (callM_ok rfl 10 rfl rfl (es:=[.pw (encL1Cur (L1Cur.mk v37 v38 v39)),.v (.int .i64 6)]) (outs:=[.pw (encL1Cur x43.1),.u]) (ids:=[1]) (by exact expLG_cons (.c (.box rfl rfl)) (expLG_cons (.c .v) (expLG_nil))) (by decide) (.inl (by rfl)) (by rfl) (spec_l1Cur_pick_ok _ _ _ (hx44)) rfl (by rfl) rfl) ?_
 refine AO.val rfl rfl (arw_ok rfl rfl rfl rfl) ?_
 refine AO.pu T ?_
 refine AO.step rfl (callM_ok rfl 10 rfl rfl (es:=[.pw (encL1Cur (L1Cur.mk x43.1.code x43.1.at' x43.1.seed)),.v (.int .i64 5)]) (outs:=[.pw (encL1Cur x45.1),.u]) (ids:=[1]) (by exact expLG_cons (.c (.box rfl rfl)) (expLG_cons (.c .v) (expLG_nil))) (by decide) (.inl (by rfl)) (by rfl) (spec_l1Cur_pick_ok _ _ _ (hx46)) rfl (by rfl) rfl) ?_
 refine AO.val rfl rfl (arw_ok rfl rfl rfl rfl) ?_
 iterate 2 refine AO.pu T ?_
 refine AO.step rfl (callM_ok rfl 10 rfl rfl (es:=[.pw (encL1Cur (L1Cur.mk x45.1.code x45.1.at' x45.1.seed)),.v (.int .i64 900)]) (outs:=[.pw (encL1Cur x47.1),.u]) (ids:=[1]) (by exact expLG_cons (.c (.box rfl rfl)) (expLG_cons (.c .v) (expLG_nil))) (by decide) (.inl (by rfl)) (by rfl) (spec_l1Cur_pick_ok _ _ _ (hx48)) rfl (by rfl) rfl) ?_
 refine AO.step rfl (mk_map_ok T rfl 10 rfl rfl rfl rfl rfl (f:=encInt) (l:=[0,100,100,250,400,1000,x47.2]) rfl rfl (fun _=>rfl) rfl rfl rfl rfl rfl) ?_
 refine AO.le (Le.freezeM 10 (g:=encInt) rfl (fun y=>.vs rfl)) ?_
 refine AO.step rfl (callM_ok rfl 11 rfl rfl (es:=[.pw (encL1Cur (L1Cur.mk x47.1.code x47.1.at' x47.1.seed)),.s ([0,100,100,250,400,1000,x47.2].map encInt)]) (outs:=[.pw (encL1Cur x49.1),.u]) (ids:=[1]) (by exact expLG_cons (.c (.box rfl rfl)) (expLG_cons (.c .s) (expLG_nil))) (by decide) (.inl (by rfl)) (by rfl) (spec_l1Cur_among_ok _ _ _ (hx50)) rfl (by rfl) rfl) ?_
 refine AO.pu T (d:=.g [w64 (1+x43.2),w64 (1+x45.2),x49.2]) ?_
 refine AO.step rfl (alloc_ok T rfl 11 rfl rfl rfl rfl rfl) ?_
 refine AO.se T [w64 (1+x43.2),w64 (1+x45.2),x49.2] ?_
 refine AO.nil (AW.seq ?_)
 obtain ⟨u51,hx52,hH⟩:=bindE hH
 refine AW.region (AO.pu T ?_)
 refine AO.pu T (d:=.g [w64 (1+x43.2),w64 (1+x45.2),x49.2]) ?_
 refine AO.step rfl (mk_map_ok T rfl 12 rfl rfl rfl rfl rfl (f:=encEntry) (l:=[(Entry.mk (w64 (1+x43.2)) (w64 (1+x45.2)) x49.2)]) rfl rfl (fun _=>rfl) rfl rfl rfl rfl rfl) ?_
 refine AO.step2 rfl (app_fork_ok T rfl 13 rfl rfl rfl rfl rfl (by decide) rfl rfl rfl rfl (fun _=>rfl) rfl (needT (hx52)) rfl rfl) ?_ ?_
 refine AO.le (Le.ct 0 0 (σ':=(⟨[(0,.p 1 0),(3,.r 13 0 v40.length),(4,v41),(30,.R 13)],[(1,.box [.s (List.map encInt_u8 x49.1.code),x49.1.at',.v (.int .u64 x49.1.seed)]),(13,.row 3 (List.map encEntry (v40++[(Entry.mk (w64 (1+x43.2)) (w64 (1+x45.2)) x49.2)])))],98,[(1,L 1)]⟩:St)) (hpin:=⟨⟨rfl,rfl⟩,trivial⟩)) ?_
 refine AO.pu T ?_
 refine AO.nil (AW.seq ?_)
 obtain ⟨x53,hx54,hH⟩:=bindE hH
 obtain ⟨x55,hx56,hH⟩:=bindE hH
 refine AW.region (AO.pu T ?_)
 refine AO.val rfl rfl (callLV_ok rfl rfl rfl (es:=[.s (List.map encEntry (v40++[(Entry.mk (w64 (1+x43.2)) (w64 (1+x45.2)) x49.2)]))]) ⟨(.rowR rfl (.map fun y=>.vs rfl)),trivial⟩ (spec_seEntries_ok _ _ (hx54)) (zfree_v _) rfl) ?_
 refine AO.pu T ?_
 refine AO.pureG T [] rfl trivial rfl rfl ?_
 refine AO.guardP (id:=1) (cs':=[.s (List.map encInt_u8 x55.1.code),x55.1.at',.v (.int .u64 x55.1.seed)]) (r:=.v (.bool x55.2)) [34] rfl ⟨fun h=>h,trivial⟩ (fun hg=>callM_ok rfl 14 rfl rfl (es:=[.pw (encL1Cur (L1Cur.mk x49.1.code x49.1.at' x49.1.seed)),.v (.int .i64 24)]) (outs:=[.pw (encL1Cur x55.1),.u]) (ids:=[1]) (by exact expLG_cons (.c (.box rfl rfl)) (expLG_cons (.c .v) (expLG_nil))) (by decide) (.inl (by rfl)) (by rfl) (spec_l1Cur_one_ok _ _ _ (optT hx56 hg)) rfl (by rfl) rfl) rfl (fun hg=>by have q:=optF hx56 hg;subst q;rfl) rfl ?_
 refine AO.val rfl rfl (pick_or rfl rfl rfl rfl) ?_
 refine AO.nil (AW.le (Le.ct 0 0 (σ':=(⟨[(0,.p 1 0),(3,.r 13 0 v40.length),(4,v41),(6,.R 13),(36,.v (.bool (x53 || x55.2)))],[(1,.box [.s (List.map encInt_u8 x55.1.code),x55.1.at',.v (.int .u64 x55.1.seed)]),(13,.row 3 (List.map encEntry (v40++[(Entry.mk (w64 (1+x43.2)) (w64 (1+x45.2)) x49.2)])))],98,[(1,L 1)]⟩:St)) (hpin:=⟨⟨rfl,rfl⟩,trivial⟩)) ?_)
 refine AW.cond (b:=(x53 || x55.2)) rfl (fun hc=>?_) (fun hc=>?_)
 replace hH:=condT hc hH
 refine AW.region ?_
 iterate 2 refine AO.pu T ?_
 refine AO.nil (AW.region ?_)
 refine AO.pu T ?_
 refine AO.val rfl rfl (arw_ok rfl rfl rfl rfl) ?_
 refine AO.pu T ?_
 refine AO.nil ?_
 refine ⟨(k3,x55.1.code,x55.1.at',x55.1.seed,(v40++[(Entry.mk (w64 (1+x43.2)) (w64 (1+x45.2)) x49.2)]),w64 (v41 - 1)),hH,Nat.lt_succ_self _,?_⟩
 exact Le.ct 13 9 (hpin:=⟨⟨rfl,rfl⟩,trivial⟩)
 replace hH:=condF hc hH
 refine AW.skip (AW.region ?_)
 refine AO.pu T ?_
 refine AO.val rfl rfl (arw_ok rfl rfl rfl rfl) ?_
 refine AO.pu T ?_
 refine AO.nil ?_
 refine ⟨(k3,x55.1.code,x55.1.at',x55.1.seed,v40,w64 (v41 - 1)),hH,Nat.lt_succ_self _,?_⟩
 refine Le.trans (Le.shrink 3 13 14 (l':=v40) rfl rfl (fun _=>rfl) (by simp) (by simp) rfl) ?_
 exact Le.ct 14 9 (hpin:=⟨⟨rfl,rfl⟩,trivial⟩)
 refine AO.le (Le.ct 0 0 (σ':=(⟨[(0,.p 1 0),(3,.R 9),(4,v41),(30,.R 13)],[(1,.box [.s (List.map encInt_u8 x49.1.code),x49.1.at',.v (.int .u64 x49.1.seed)]),(9,.row 3 (List.map encEntry v40)),(13,.row 3 (List.map encEntry (v40++[(Entry.mk (w64 (1+x43.2)) (w64 (1+x45.2)) x49.2)])))],98,[(1,L 1)]⟩:St)) (hpin:=⟨⟨rfl,rfl⟩,trivial⟩)) ?_
 refine AO.pu T ?_
 refine AO.nil (AW.seq ?_)
 obtain ⟨x53,hx54,hH⟩:=bindE hH
 obtain ⟨x55,hx56,hH⟩:=bindE hH
 refine AW.region (AO.pu T ?_)
 refine AO.val rfl rfl (callLV_ok rfl rfl rfl (es:=[.s (List.map encEntry (v40++[(Entry.mk (w64 (1+x43.2)) (w64 (1+x45.2)) x49.2)]))]) ⟨(.rowR rfl (.map fun y=>.vs rfl)),trivial⟩ (spec_seEntries_ok _ _ (hx54)) (zfree_v _) rfl) ?_
 refine AO.pu T ?_
 refine AO.pureG T [] rfl trivial rfl rfl ?_
 refine AO.guardP (id:=1) (cs':=[.s (List.map encInt_u8 x55.1.code),x55.1.at',.v (.int .u64 x55.1.seed)]) (r:=.v (.bool x55.2)) [34] rfl ⟨fun h=>h,trivial⟩ (fun hg=>callM_ok rfl 14 rfl rfl (es:=[.pw (encL1Cur (L1Cur.mk x49.1.code x49.1.at' x49.1.seed)),.v (.int .i64 24)]) (outs:=[.pw (encL1Cur x55.1),.u]) (ids:=[1]) (by exact expLG_cons (.c (.box rfl rfl)) (expLG_cons (.c .v) (expLG_nil))) (by decide) (.inl (by rfl)) (by rfl) (spec_l1Cur_one_ok _ _ _ (optT hx56 hg)) rfl (by rfl) rfl) rfl (fun hg=>by have q:=optF hx56 hg;subst q;rfl) rfl ?_
 refine AO.val rfl rfl (pick_or rfl rfl rfl rfl) ?_
 refine AO.nil (AW.le (Le.ct 0 0 (σ':=(⟨[(0,.p 1 0),(3,.R 9),(4,v41),(6,.R 13),(36,.v (.bool (x53 || x55.2)))],[(1,.box [.s (List.map encInt_u8 x55.1.code),x55.1.at',.v (.int .u64 x55.1.seed)]),(9,.row 3 (List.map encEntry v40)),(13,.row 3 (List.map encEntry (v40++[(Entry.mk (w64 (1+x43.2)) (w64 (1+x45.2)) x49.2)])))],98,[(1,L 1)]⟩:St)) (hpin:=⟨⟨rfl,rfl⟩,trivial⟩)) ?_)
 refine AW.cond (b:=(x53 || x55.2)) rfl (fun hc=>?_) (fun hc=>?_)
 replace hH:=condT hc hH
 refine AW.region ?_
 iterate 2 refine AO.pu T ?_
 refine AO.nil (AW.region ?_)
 refine AO.pu T ?_
 refine AO.val rfl rfl (arw_ok rfl rfl rfl rfl) ?_
 refine AO.pu T ?_
 refine AO.nil ?_
 refine ⟨(k3,x55.1.code,x55.1.at',x55.1.seed,(v40++[(Entry.mk (w64 (1+x43.2)) (w64 (1+x45.2)) x49.2)]),w64 (v41 - 1)),hH,Nat.lt_succ_self _,?_⟩
 exact Le.ct 13 9 (hpin:=⟨⟨rfl,rfl⟩,trivial⟩)
 replace hH:=condF hc hH
 refine AW.skip (AW.region ?_)
 refine AO.pu T ?_
 refine AO.val rfl rfl (arw_ok rfl rfl rfl rfl) ?_
 refine AO.pu T ?_
 refine AO.nil ?_
 refine ⟨(k3,x55.1.code,x55.1.at',x55.1.seed,v40,w64 (v41 - 1)),hH,Nat.lt_succ_self _,?_⟩
 exact Le.ct 0 0 (hpin:=⟨⟨rfl,rfl⟩,trivial⟩)
 replace hH:=condF hc hH
 refine AW.exit ?_
 iterate 2 refine AW.seq ?_
 refine AW.region (AO.pu T ?_)
 refine AO.val rfl rfl (len_row_ok T rfl rfl rfl rfl) ?_
 refine AO.pu T ?_
 refine AO.nil (AW.cond (b:=decide ((v40.length:Int) > 0)) rfl (fun hc=>?_) (fun hc=>?_))
 replace hH:=condT hc hH
 refine AW.seq ?_
 obtain ⟨x57,hx58,hH⟩:=bindE hH
 obtain ⟨x59,hx60,hH⟩:=bindE hH
 refine AW.region ?_
 iterate 3 refine AO.pu T ?_
 refine AO.val rfl rfl (len_row_ok T rfl rfl rfl rfl) ?_
 refine AO.step rfl (callM_ok rfl 14 rfl rfl (es:=[.pw (encL1Cur (L1Cur.mk v37 v38 v39)),.v (.int .i64 (v40.length:Int))]) (outs:=[.pw (encL1Cur x57.1),.u]) (ids:=[1]) (by exact expLG_cons (.c (.box rfl rfl)) (expLG_cons (.c .v) (expLG_nil))) (by decide) (.inl (by rfl)) (by rfl) (spec_l1Cur_pick_ok _ _ _ (hx58)) rfl (by rfl) rfl) ?_
 refine AO.val rfl rfl (ix_row_ok T rfl rfl rfl rfl rfl rfl (hx60)) ?_
 refine AO.pu T ?_
 refine AO.nil (AW.seq ?_)
 obtain ⟨x61,hx62,hH⟩:=bindE hH
 refine AW.region (AO.pu T ?_)
 refine AO.step rfl (callM_ok rfl 14 rfl rfl (es:=[.pw (encL1Cur (L1Cur.mk x57.1.code x57.1.at' x57.1.seed)),.v (.int .i64 30)]) (outs:=[.pw (encL1Cur x61.1),.u]) (ids:=[1]) (by exact expLG_cons (.c (.box rfl rfl)) (expLG_cons (.c .v) (expLG_nil))) (by decide) (.inl (by rfl)) (by rfl) (spec_l1Cur_pick_ok _ _ _ (hx62)) rfl (by rfl) rfl) ?_
 refine AO.nil (AW.block ?_)
 refine AW.seq (AW.region ?_)
 iterate 2 refine AO.pu T ?_
 refine AO.nil (AW.cond (b:=(x61.2 == 0)) rfl (fun hc=>?_) (fun hc=>?_))
 replace hH:=condT hc hH
 obtain ⟨x63,hx64,hH⟩:=bindE hH
 refine AW.region ?_
 iterate 2 refine AO.pu T ?_
 refine AO.step rfl (mk_map_ok T rfl 14 rfl rfl rfl rfl rfl (f:=encInt) (l:=([0,99,100]:List Int)) rfl rfl (fun _=>rfl) rfl rfl rfl rfl rfl) ?_
 refine AO.le (Le.freezeM 14 (g:=encInt) rfl (fun y=>.vs rfl)) ?_
 refine AO.step rfl (callM_ok rfl 15 rfl rfl (es:=[.pw (encL1Cur (L1Cur.mk x61.1.code x61.1.at' x61.1.seed)),.s (([0,99,100]:List Int).map encInt)]) (outs:=[.pw (encL1Cur x63.1),.u]) (ids:=[1]) (by exact expLG_cons (.c (.box rfl rfl)) (expLG_cons (.c .s) (expLG_nil))) (by decide) (.inl (by rfl)) (by rfl) (spec_l1Cur_among_ok _ _ _ (hx64)) rfl (by rfl) rfl) ?_
 iterate 2 refine AO.pu T ?_
 refine AO.step rfl (store_row_ok T rfl rfl rfl rfl rfl (getI_get (hx60)) rfl rfl rfl rfl (u':=(Entry.mk x63.2 x59.skater x59.points)) rfl rfl) ?_
 refine AO.nil ?_
 iterate 2 refine AW.seq ?_
 obtain ⟨x65,hx66,hH⟩:=bindE hH
 refine AW.region (AO.pu T ?_)
 refine AO.step rfl (callM_ok rfl 15 rfl rfl (es:=[.pw (encL1Cur (L1Cur.mk x63.1.code x63.1.at' x63.1.seed)),.v (.int .i64 30)]) (outs:=[.pw (encL1Cur x65.1),.u]) (ids:=[1]) (by exact expLG_cons (.c (.box rfl rfl)) (expLG_cons (.c .v) (expLG_nil))) (by decide) (.inl (by rfl)) (by rfl) (spec_l1Cur_one_ok _ _ _ (hx66)) rfl (by rfl) rfl) ?_
 refine AO.nil (AW.le (Le.ct 0 0 (σ':=(⟨[(0,.p 1 0),(3,.R 9),(74,.v (.bool x65.2))],[(1,.box [.s (List.map encInt_u8 x65.1.code),x65.1.at',.v (.int .u64 x65.1.seed)]),(9,.row 3 (List.map encEntry (v40.set x57.2.toNat (Entry.mk x63.2 x59.skater x59.points))))],98,[(1,L 1)]⟩:St)) (hpin:=⟨⟨rfl,rfl⟩,trivial⟩)) ?_)
 refine AW.cond (b:=x65.2) rfl (fun hc=>?_) (fun hc=>?_)
 replace hH:=condT hc hH
 refine AW.seq (AW.region (AO.pu T ?_))
 refine AO.nil (AW.seq ?_)
 obtain ⟨x67,hx68,hH⟩:=bindE hH
 refine AW.region (AO.pu T ?_)
 refine AO.step rfl (callM_ok rfl 15 rfl rfl (es:=[.pw (encL1Cur (L1Cur.mk x65.1.code x65.1.at' x65.1.seed)),.v (.int .i64 2)]) (outs:=[.pw (encL1Cur x67.1),.u]) (ids:=[1]) (by exact expLG_cons (.c (.box rfl rfl)) (expLG_cons (.c .v) (expLG_nil))) (by decide) (.inl (by rfl)) (by rfl) (spec_l1Cur_pick_ok _ _ _ (hx68)) rfl (by rfl) rfl) ?_
 refine AO.val rfl rfl (arw_ok rfl rfl rfl rfl) ?_
 refine AO.pu T ?_
 refine AO.nil (AW.block ?_)
 refine AW.loopS (fun s:Nat × (List Entry)=>(⟨[(3,.R 18),(8,w64 (80+x67.2))],[(1,.box [.s (List.map encInt_u8 x67.1.code),x67.1.at',.v (.int .u64 x67.1.seed)]),(18,.row 3 (List.map encEntry s.2))],98,[(1,L 1)]⟩:St)) (fun s=>spec_l1Cur_entries_l2 x67 s.1 s.2=some r) (fun s=>s.1) (fuel,[]) hH ?_ ?_
 refine Le.trans (Le.void 3 18 3 rfl rfl) ?_
 exact Le.ct 0 0 (hpin:=⟨⟨rfl,rfl⟩,trivial⟩)
 rintro ⟨k69,v79⟩ hH
 replace hH:spec_l1Cur_entries_l2 x67 k69 v79=some r:=hH
 try dsimp only
 rcases k69 with _ | k69
 cases (show none=some _ from hH)
 rw [spec_l1Cur_entries_l2] at hH
 iterate 2 refine AW.seq ?_
 refine AW.region (AO.pu T ?_)
 refine AO.val rfl rfl (len_row_ok T rfl rfl rfl rfl) ?_
 iterate 2 refine AO.pu T ?_
 refine AO.nil (AW.cond (b:=decide ((v79.length:Int) < (w64 (80+x67.2)))) rfl (fun hc=>?_) (fun hc=>?_))
 replace hH:=condT hc hH
 refine AW.skip (AW.block ?_)
 obtain ⟨u81,hx82,hH⟩:=bindE hH
 obtain ⟨u83,hx84,hH⟩:=bindE hH
 refine AW.region ?_
 iterate 2 refine AO.pu T ?_
 refine AO.val rfl rfl (len_row_ok T rfl rfl rfl rfl) ?_
 refine AO.val rfl rfl (rem_ok rfl rfl rfl (neZ (needT (hx82)))) ?_
 refine AO.val rfl rfl (arw_ok rfl rfl rfl rfl) ?_
 refine AO.pu T ?_
 refine AO.val rfl rfl (len_row_ok T rfl rfl rfl rfl) ?_
 refine AO.val rfl rfl (quow_ok rfl rfl rfl (neZ (needT (hx82)))) ?_
 refine AO.val rfl rfl (arw_ok rfl rfl rfl rfl) ?_
 refine AO.pu T ?_
 refine AO.val rfl rfl (len_row_ok T rfl rfl rfl rfl) ?_
 refine AO.val rfl rfl (arw_ok rfl rfl rfl rfl) ?_
 refine AO.pu T (d:=.g [w64 (1+((v79.length:Int).tmod 9)),w64 (1+(w64 ((v79.length:Int).tdiv 9))),w64 (10 * (v79.length:Int))]) ?_
 refine AO.step rfl (mk_map_ok T rfl 19 rfl rfl rfl rfl rfl (f:=encEntry) (l:=[(Entry.mk (w64 (1+((v79.length:Int).tmod 9))) (w64 (1+(w64 ((v79.length:Int).tdiv 9)))) (w64 (10 * (v79.length:Int))))]) rfl rfl (fun _=>rfl) rfl rfl rfl rfl rfl) ?_
 refine AO.step rfl (app_rv_map T rfl 20 rfl rfl rfl rfl rfl (by decide) rfl rfl rfl rfl (fun _=>rfl) (needT (hx84)) rfl rfl) ?_
 refine AO.pu T ?_
 refine AO.nil ?_
 refine ⟨(k69,(v79++[(Entry.mk (w64 (1+((v79.length:Int).tmod 9))) (w64 (1+(w64 ((v79.length:Int).tdiv 9)))) (w64 (10 * (v79.length:Int))))])),hH,Nat.lt_succ_self _,?_⟩
 exact Le.ct 20 18 (hpin:=⟨⟨rfl,rfl⟩,trivial⟩)
 replace hH:=condF hc hH
 refine AW.exit (AW.seq (AW.region ?_))
 iterate 2 refine AO.pu T ?_
 refine AO.nil (AW.ret ?_)
 have hR:=someE hH;subst hR
 exact ⟨trivial,rfl,_,[18],[1],rfl,expLG_cons (.c (.box rfl rfl)) (expLG_nil),.c (.c (.rowR rfl)),by decide⟩
 replace hH:=condF hc hH
 refine AW.skip (AW.seq (AW.region ?_))
 iterate 2 refine AO.pu T ?_
 refine AO.nil (AW.ret ?_)
 have hR:=someE hH;subst hR
 exact ⟨trivial,rfl,_,[9],[1],rfl,expLG_cons (.c (.box rfl rfl)) (expLG_nil),.c (.c (.rowR rfl)),by decide⟩
 replace hH:=condF hc hH
 refine AW.seq (AW.region ?_)
 iterate 2 refine AO.pu T ?_
 refine AO.nil (AW.cond (b:=(x61.2 == 1)) rfl (fun hc=>?_) (fun hc=>?_))
 replace hH:=condT hc hH
 obtain ⟨x85,hx86,hH⟩:=bindE hH
 refine AW.region ?_
 iterate 2 refine AO.pu T ?_
 refine AO.step rfl (mk_map_ok T rfl 21 rfl rfl rfl rfl rfl (f:=encInt) (l:=([0,999,1000]:List Int)) rfl rfl (fun _=>rfl) rfl rfl rfl rfl rfl) ?_
 refine AO.le (Le.freezeM 21 (g:=encInt) rfl (fun y=>.vs rfl)) ?_
 refine AO.step rfl (callM_ok rfl 22 rfl rfl (es:=[.pw (encL1Cur (L1Cur.mk x61.1.code x61.1.at' x61.1.seed)),.s (([0,999,1000]:List Int).map encInt)]) (outs:=[.pw (encL1Cur x85.1),.u]) (ids:=[1]) (by exact expLG_cons (.c (.box rfl rfl)) (expLG_cons (.c .s) (expLG_nil))) (by decide) (.inl (by rfl)) (by rfl) (spec_l1Cur_among_ok _ _ _ (hx86)) rfl (by rfl) rfl) ?_
 iterate 2 refine AO.pu T ?_
 refine AO.step rfl (store_row_ok T rfl rfl rfl rfl rfl (getI_get (hx60)) rfl rfl rfl rfl (u':=(Entry.mk x59.event x85.2 x59.points)) rfl rfl) ?_
 refine AO.nil (AW.le (Le.ct 0 0 (σ':=(⟨[(0,.p 1 0),(3,.R 9)],[(1,.box [.s (List.map encInt_u8 x85.1.code),x85.1.at',.v (.int .u64 x85.1.seed)]),(9,.row 3 (List.map encEntry (v40.set x57.2.toNat (Entry.mk x59.event x85.2 x59.points))))],98,[(1,L 1)]⟩:St)) (hpin:=⟨⟨rfl,rfl⟩,trivial⟩)) ?_)
 iterate 2 refine AW.seq ?_
 obtain ⟨x87,hx88,hH⟩:=bindE hH
 refine AW.region (AO.pu T ?_)
 refine AO.step rfl (callM_ok rfl 22 rfl rfl (es:=[.pw (encL1Cur (L1Cur.mk x85.1.code x85.1.at' x85.1.seed)),.v (.int .i64 30)]) (outs:=[.pw (encL1Cur x87.1),.u]) (ids:=[1]) (by exact expLG_cons (.c (.box rfl rfl)) (expLG_cons (.c .v) (expLG_nil))) (by decide) (.inl (by rfl)) (by rfl) (spec_l1Cur_one_ok _ _ _ (hx88)) rfl (by rfl) rfl) ?_
 refine AO.nil (AW.cond (b:=x87.2) rfl (fun hc=>?_) (fun hc=>?_))
 replace hH:=condT hc hH
 refine AW.seq (AW.region (AO.pu T ?_))
 refine AO.nil (AW.seq ?_)
 obtain ⟨x89,hx90,hH⟩:=bindE hH
 refine AW.region (AO.pu T ?_)
 refine AO.step rfl (callM_ok rfl 22 rfl rfl (es:=[.pw (encL1Cur (L1Cur.mk x87.1.code x87.1.at' x87.1.seed)),.v (.int .i64 2)]) (outs:=[.pw (encL1Cur x89.1),.u]) (ids:=[1]) (by exact expLG_cons (.c (.box rfl rfl)) (expLG_cons (.c .v) (expLG_nil))) (by decide) (.inl (by rfl)) (by rfl) (spec_l1Cur_pick_ok _ _ _ (hx90)) rfl (by rfl) rfl) ?_
 refine AO.val rfl rfl (arw_ok rfl rfl rfl rfl) ?_
 refine AO.pu T ?_
 refine AO.nil (AW.block ?_)
 refine AW.loopS (fun s:Nat × (List Entry)=>(⟨[(3,.R 25),(8,w64 (80+x89.2))],[(1,.box [.s (List.map encInt_u8 x89.1.code),x89.1.at',.v (.int .u64 x89.1.seed)]),(25,.row 3 (List.map encEntry s.2))],98,[(1,L 1)]⟩:St)) (fun s=>spec_l1Cur_entries_l3 x89 s.1 s.2=some r) (fun s=>s.1) (fuel,[]) hH ?_ ?_
 refine Le.trans (Le.void 3 25 3 rfl rfl) ?_
 exact Le.ct 0 0 (hpin:=⟨⟨rfl,rfl⟩,trivial⟩)
 rintro ⟨k91,v101⟩ hH
 replace hH:spec_l1Cur_entries_l3 x89 k91 v101=some r:=hH
 try dsimp only
 rcases k91 with _ | k91
 cases (show none=some _ from hH)
 rw [spec_l1Cur_entries_l3] at hH
 iterate 2 refine AW.seq ?_
 refine AW.region (AO.pu T ?_)
 refine AO.val rfl rfl (len_row_ok T rfl rfl rfl rfl) ?_
 iterate 2 refine AO.pu T ?_
 refine AO.nil (AW.cond (b:=decide ((v101.length:Int) < (w64 (80+x89.2)))) rfl (fun hc=>?_) (fun hc=>?_))
 replace hH:=condT hc hH
 refine AW.skip (AW.block ?_)
 obtain ⟨u103,hx104,hH⟩:=bindE hH
 obtain ⟨u105,hx106,hH⟩:=bindE hH
 refine AW.region ?_
 iterate 2 refine AO.pu T ?_
 refine AO.val rfl rfl (len_row_ok T rfl rfl rfl rfl) ?_
 refine AO.val rfl rfl (rem_ok rfl rfl rfl (neZ (needT (hx104)))) ?_
 refine AO.val rfl rfl (arw_ok rfl rfl rfl rfl) ?_
 refine AO.pu T ?_
 refine AO.val rfl rfl (len_row_ok T rfl rfl rfl rfl) ?_
 refine AO.val rfl rfl (quow_ok rfl rfl rfl (neZ (needT (hx104)))) ?_
 refine AO.val rfl rfl (arw_ok rfl rfl rfl rfl) ?_
 refine AO.pu T ?_
 refine AO.val rfl rfl (len_row_ok T rfl rfl rfl rfl) ?_
 refine AO.val rfl rfl (arw_ok rfl rfl rfl rfl) ?_
 refine AO.pu T (d:=.g [w64 (1+((v101.length:Int).tmod 9)),w64 (1+(w64 ((v101.length:Int).tdiv 9))),w64 (10 * (v101.length:Int))]) ?_
 refine AO.step rfl (mk_map_ok T rfl 26 rfl rfl rfl rfl rfl (f:=encEntry) (l:=[(Entry.mk (w64 (1+((v101.length:Int).tmod 9))) (w64 (1+(w64 ((v101.length:Int).tdiv 9)))) (w64 (10 * (v101.length:Int))))]) rfl rfl (fun _=>rfl) rfl rfl rfl rfl rfl) ?_
 refine AO.step rfl (app_rv_map T rfl 27 rfl rfl rfl rfl rfl (by decide) rfl rfl rfl rfl (fun _=>rfl) (needT (hx106)) rfl rfl) ?_
 refine AO.pu T ?_
 refine AO.nil ?_
 refine ⟨(k91,(v101++[(Entry.mk (w64 (1+((v101.length:Int).tmod 9))) (w64 (1+(w64 ((v101.length:Int).tdiv 9)))) (w64 (10 * (v101.length:Int))))])),hH,Nat.lt_succ_self _,?_⟩
 exact Le.ct 27 25 (hpin:=⟨⟨rfl,rfl⟩,trivial⟩)
 replace hH:=condF hc hH
 refine AW.exit (AW.seq (AW.region ?_))
 iterate 2 refine AO.pu T ?_
 refine AO.nil (AW.ret ?_)
 have hR:=someE hH;subst hR
 exact ⟨trivial,rfl,_,[25],[1],rfl,expLG_cons (.c (.box rfl rfl)) (expLG_nil),.c (.c (.rowR rfl)),by decide⟩
 replace hH:=condF hc hH
 refine AW.skip (AW.seq (AW.region ?_))
 iterate 2 refine AO.pu T ?_
 refine AO.nil (AW.ret ?_)
 have hR:=someE hH;subst hR
 exact ⟨trivial,rfl,_,[9],[1],rfl,expLG_cons (.c (.box rfl rfl)) (expLG_nil),.c (.c (.rowR rfl)),by decide⟩
 replace hH:=condF hc hH
 refine AW.seq (AW.region ?_)
 iterate 2 refine AO.pu T ?_
 refine AO.nil (AW.cond (b:=(x61.2 == 2)) rfl (fun hc=>?_) (fun hc=>?_))
 replace hH:=condT hc hH
 obtain ⟨x107,hx108,hH⟩:=bindE hH
 refine AW.region ?_
 iterate 2 refine AO.pu T ?_
 refine AO.step rfl (mk_map_ok T rfl 28 rfl rfl rfl rfl rfl (f:=encInt) (l:=([(-1),100000,100001]:List Int)) rfl rfl (fun _=>rfl) rfl rfl rfl rfl rfl) ?_
 refine AO.le (Le.freezeM 28 (g:=encInt) rfl (fun y=>.vs rfl)) ?_
 refine AO.step rfl (callM_ok rfl 29 rfl rfl (es:=[.pw (encL1Cur (L1Cur.mk x61.1.code x61.1.at' x61.1.seed)),.s (([(-1),100000,100001]:List Int).map encInt)]) (outs:=[.pw (encL1Cur x107.1),.u]) (ids:=[1]) (by exact expLG_cons (.c (.box rfl rfl)) (expLG_cons (.c .s) (expLG_nil))) (by decide) (.inl (by rfl)) (by rfl) (spec_l1Cur_among_ok _ _ _ (hx108)) rfl (by rfl) rfl) ?_
 iterate 2 refine AO.pu T ?_
 refine AO.step rfl (store_row_ok T rfl rfl rfl rfl rfl (getI_get (hx60)) rfl rfl rfl rfl (u':=(Entry.mk x59.event x59.skater x107.2)) rfl rfl) ?_
 refine AO.nil (AW.le (Le.ct 0 0 (σ':=(⟨[(0,.p 1 0),(3,.R 9)],[(1,.box [.s (List.map encInt_u8 x107.1.code),x107.1.at',.v (.int .u64 x107.1.seed)]),(9,.row 3 (List.map encEntry (v40.set x57.2.toNat (Entry.mk x59.event x59.skater x107.2))))],98,[(1,L 1)]⟩:St)) (hpin:=⟨⟨rfl,rfl⟩,trivial⟩)) ?_)
 iterate 2 refine AW.seq ?_
 obtain ⟨x109,hx110,hH⟩:=bindE hH
 refine AW.region (AO.pu T ?_)
 refine AO.step rfl (callM_ok rfl 29 rfl rfl (es:=[.pw (encL1Cur (L1Cur.mk x107.1.code x107.1.at' x107.1.seed)),.v (.int .i64 30)]) (outs:=[.pw (encL1Cur x109.1),.u]) (ids:=[1]) (by exact expLG_cons (.c (.box rfl rfl)) (expLG_cons (.c .v) (expLG_nil))) (by decide) (.inl (by rfl)) (by rfl) (spec_l1Cur_one_ok _ _ _ (hx110)) rfl (by rfl) rfl) ?_
 refine AO.nil (AW.cond (b:=x109.2) rfl (fun hc=>?_) (fun hc=>?_))
 replace hH:=condT hc hH
 refine AW.seq (AW.region (AO.pu T ?_))
 refine AO.nil (AW.seq ?_)
 obtain ⟨x111,hx112,hH⟩:=bindE hH
 refine AW.region (AO.pu T ?_)
 refine AO.step rfl (callM_ok rfl 29 rfl rfl (es:=[.pw (encL1Cur (L1Cur.mk x109.1.code x109.1.at' x109.1.seed)),.v (.int .i64 2)]) (outs:=[.pw (encL1Cur x111.1),.u]) (ids:=[1]) (by exact expLG_cons (.c (.box rfl rfl)) (expLG_cons (.c .v) (expLG_nil))) (by decide) (.inl (by rfl)) (by rfl) (spec_l1Cur_pick_ok _ _ _ (hx112)) rfl (by rfl) rfl) ?_
 refine AO.val rfl rfl (arw_ok rfl rfl rfl rfl) ?_
 refine AO.pu T ?_
 refine AO.nil (AW.block ?_)
 refine AW.loopS (fun s:Nat × (List Entry)=>(⟨[(3,.R 32),(8,w64 (80+x111.2))],[(1,.box [.s (List.map encInt_u8 x111.1.code),x111.1.at',.v (.int .u64 x111.1.seed)]),(32,.row 3 (List.map encEntry s.2))],98,[(1,L 1)]⟩:St)) (fun s=>spec_l1Cur_entries_l4 x111 s.1 s.2=some r) (fun s=>s.1) (fuel,[]) hH ?_ ?_
 refine Le.trans (Le.void 3 32 3 rfl rfl) ?_
 exact Le.ct 0 0 (hpin:=⟨⟨rfl,rfl⟩,trivial⟩)
 rintro ⟨k113,v123⟩ hH
 replace hH:spec_l1Cur_entries_l4 x111 k113 v123=some r:=hH
 try dsimp only
 rcases k113 with _ | k113
 cases (show none=some _ from hH)
 rw [spec_l1Cur_entries_l4] at hH
 iterate 2 refine AW.seq ?_
 refine AW.region (AO.pu T ?_)
 refine AO.val rfl rfl (len_row_ok T rfl rfl rfl rfl) ?_
 iterate 2 refine AO.pu T ?_
 refine AO.nil (AW.cond (b:=decide ((v123.length:Int) < (w64 (80+x111.2)))) rfl (fun hc=>?_) (fun hc=>?_))
 replace hH:=condT hc hH
 refine AW.skip (AW.block ?_)
 obtain ⟨u125,hx126,hH⟩:=bindE hH
 obtain ⟨u127,hx128,hH⟩:=bindE hH
 refine AW.region ?_
 iterate 2 refine AO.pu T ?_
 refine AO.val rfl rfl (len_row_ok T rfl rfl rfl rfl) ?_
 refine AO.val rfl rfl (rem_ok rfl rfl rfl (neZ (needT (hx126)))) ?_
 refine AO.val rfl rfl (arw_ok rfl rfl rfl rfl) ?_
 refine AO.pu T ?_
 refine AO.val rfl rfl (len_row_ok T rfl rfl rfl rfl) ?_
 refine AO.val rfl rfl (quow_ok rfl rfl rfl (neZ (needT (hx126)))) ?_
 refine AO.val rfl rfl (arw_ok rfl rfl rfl rfl) ?_
 refine AO.pu T ?_
 refine AO.val rfl rfl (len_row_ok T rfl rfl rfl rfl) ?_
 refine AO.val rfl rfl (arw_ok rfl rfl rfl rfl) ?_
 refine AO.pu T (d:=.g [w64 (1+((v123.length:Int).tmod 9)),w64 (1+(w64 ((v123.length:Int).tdiv 9))),w64 (10 * (v123.length:Int))]) ?_
 refine AO.step rfl (mk_map_ok T rfl 33 rfl rfl rfl rfl rfl (f:=encEntry) (l:=[(Entry.mk (w64 (1+((v123.length:Int).tmod 9))) (w64 (1+(w64 ((v123.length:Int).tdiv 9)))) (w64 (10 * (v123.length:Int))))]) rfl rfl (fun _=>rfl) rfl rfl rfl rfl rfl) ?_
 refine AO.step rfl (app_rv_map T rfl 34 rfl rfl rfl rfl rfl (by decide) rfl rfl rfl rfl (fun _=>rfl) (needT (hx128)) rfl rfl) ?_
 refine AO.pu T ?_
 refine AO.nil ?_
 refine ⟨(k113,(v123++[(Entry.mk (w64 (1+((v123.length:Int).tmod 9))) (w64 (1+(w64 ((v123.length:Int).tdiv 9)))) (w64 (10 * (v123.length:Int))))])),hH,Nat.lt_succ_self _,?_⟩
 exact Le.ct 34 32 (hpin:=⟨⟨rfl,rfl⟩,trivial⟩)
 replace hH:=condF hc hH
 refine AW.exit (AW.seq (AW.region ?_))
 iterate 2 refine AO.pu T ?_
 refine AO.nil (AW.ret ?_)
 have hR:=someE hH;subst hR
 exact ⟨trivial,rfl,_,[32],[1],rfl,expLG_cons (.c (.box rfl rfl)) (expLG_nil),.c (.c (.rowR rfl)),by decide⟩
 replace hH:=condF hc hH
 refine AW.skip (AW.seq (AW.region ?_))
 iterate 2 refine AO.pu T ?_
 refine AO.nil (AW.ret ?_)
 have hR:=someE hH;subst hR
 exact ⟨trivial,rfl,_,[9],[1],rfl,expLG_cons (.c (.box rfl rfl)) (expLG_nil),.c (.c (.rowR rfl)),by decide⟩
 replace hH:=condF hc hH
 refine AW.skip ?_
 iterate 2 refine AW.seq ?_
 obtain ⟨x129,hx130,hH⟩:=bindE hH
 refine AW.region (AO.pu T ?_)
 refine AO.step rfl (callM_ok rfl 35 rfl rfl (es:=[.pw (encL1Cur (L1Cur.mk x61.1.code x61.1.at' x61.1.seed)),.v (.int .i64 30)]) (outs:=[.pw (encL1Cur x129.1),.u]) (ids:=[1]) (by exact expLG_cons (.c (.box rfl rfl)) (expLG_cons (.c .v) (expLG_nil))) (by decide) (.inl (by rfl)) (by rfl) (spec_l1Cur_one_ok _ _ _ (hx130)) rfl (by rfl) rfl) ?_
 refine AO.nil (AW.cond (b:=x129.2) rfl (fun hc=>?_) (fun hc=>?_))
 replace hH:=condT hc hH
 refine AW.seq (AW.region (AO.pu T ?_))
 refine AO.nil (AW.seq ?_)
 obtain ⟨x131,hx132,hH⟩:=bindE hH
 refine AW.region (AO.pu T ?_)
 refine AO.step rfl (callM_ok rfl 35 rfl rfl (es:=[.pw (encL1Cur (L1Cur.mk x129.1.code x129.1.at' x129.1.seed)),.v (.int .i64 2)]) (outs:=[.pw (encL1Cur x131.1),.u]) (ids:=[1]) (by exact expLG_cons (.c (.box rfl rfl)) (expLG_cons (.c .v) (expLG_nil))) (by decide) (.inl (by rfl)) (by rfl) (spec_l1Cur_pick_ok _ _ _ (hx132)) rfl (by rfl) rfl) ?_
 refine AO.val rfl rfl (arw_ok rfl rfl rfl rfl) ?_
 refine AO.pu T ?_
 refine AO.nil (AW.le (Le.ct 0 0 (σ':=(⟨[(3,.w 0 []),(8,w64 (80+x131.2))],[(1,.box [.s (List.map encInt_u8 x131.1.code),x131.1.at',.v (.int .u64 x131.1.seed)])],98,[(1,L 1)]⟩:St)) (hpin:=⟨⟨rfl,rfl⟩,trivial⟩)) ?_)
 refine AW.block (AW.loopS (fun s:Nat × (List Entry)=>(⟨[(3,.R 38),(8,w64 (80+x131.2))],[(1,.box [.s (List.map encInt_u8 x131.1.code),x131.1.at',.v (.int .u64 x131.1.seed)]),(38,.row 3 (List.map encEntry s.2))],98,[(1,L 1)]⟩:St)) (fun s=>spec_l1Cur_entries_l5 x131 s.1 s.2=some r) (fun s=>s.1) (fuel,[]) hH ?_ ?_)
 refine Le.trans (Le.void 3 38 3 rfl rfl) ?_
 exact Le.ct 0 0 (hpin:=⟨⟨rfl,rfl⟩,trivial⟩)
 rintro ⟨k133,v143⟩ hH
 replace hH:spec_l1Cur_entries_l5 x131 k133 v143=some r:=hH
 try dsimp only
 rcases k133 with _ | k133
 cases (show none=some _ from hH)
 rw [spec_l1Cur_entries_l5] at hH
 iterate 2 refine AW.seq ?_
 refine AW.region (AO.pu T ?_)
 refine AO.val rfl rfl (len_row_ok T rfl rfl rfl rfl) ?_
 iterate 2 refine AO.pu T ?_
 refine AO.nil (AW.cond (b:=decide ((v143.length:Int) < (w64 (80+x131.2)))) rfl (fun hc=>?_) (fun hc=>?_))
 replace hH:=condT hc hH
 refine AW.skip (AW.block ?_)
 obtain ⟨u145,hx146,hH⟩:=bindE hH
 obtain ⟨u147,hx148,hH⟩:=bindE hH
 refine AW.region ?_
 iterate 2 refine AO.pu T ?_
 refine AO.val rfl rfl (len_row_ok T rfl rfl rfl rfl) ?_
 refine AO.val rfl rfl (rem_ok rfl rfl rfl (neZ (needT (hx146)))) ?_
 refine AO.val rfl rfl (arw_ok rfl rfl rfl rfl) ?_
 refine AO.pu T ?_
 refine AO.val rfl rfl (len_row_ok T rfl rfl rfl rfl) ?_
 refine AO.val rfl rfl (quow_ok rfl rfl rfl (neZ (needT (hx146)))) ?_
 refine AO.val rfl rfl (arw_ok rfl rfl rfl rfl) ?_
 refine AO.pu T ?_
 refine AO.val rfl rfl (len_row_ok T rfl rfl rfl rfl) ?_
 refine AO.val rfl rfl (arw_ok rfl rfl rfl rfl) ?_
 refine AO.pu T (d:=.g [w64 (1+((v143.length:Int).tmod 9)),w64 (1+(w64 ((v143.length:Int).tdiv 9))),w64 (10 * (v143.length:Int))]) ?_
 refine AO.step rfl (mk_map_ok T rfl 39 rfl rfl rfl rfl rfl (f:=encEntry) (l:=[(Entry.mk (w64 (1+((v143.length:Int).tmod 9))) (w64 (1+(w64 ((v143.length:Int).tdiv 9)))) (w64 (10 * (v143.length:Int))))]) rfl rfl (fun _=>rfl) rfl rfl rfl rfl rfl) ?_
 refine AO.step rfl (app_rv_map T rfl 40 rfl rfl rfl rfl rfl (by decide) rfl rfl rfl rfl (fun _=>rfl) (needT (hx148)) rfl rfl) ?_
 refine AO.pu T ?_
 refine AO.nil ?_
 refine ⟨(k133,(v143++[(Entry.mk (w64 (1+((v143.length:Int).tmod 9))) (w64 (1+(w64 ((v143.length:Int).tdiv 9)))) (w64 (10 * (v143.length:Int))))])),hH,Nat.lt_succ_self _,?_⟩
 exact Le.ct 40 38 (hpin:=⟨⟨rfl,rfl⟩,trivial⟩)
 replace hH:=condF hc hH
 refine AW.exit (AW.seq (AW.region ?_))
 iterate 2 refine AO.pu T ?_
 refine AO.nil (AW.ret ?_)
 have hR:=someE hH;subst hR
 exact ⟨trivial,rfl,_,[38],[1],rfl,expLG_cons (.c (.box rfl rfl)) (expLG_nil),.c (.c (.rowR rfl)),by decide⟩
 replace hH:=condF hc hH
 refine AW.skip (AW.seq (AW.region ?_))
 iterate 2 refine AO.pu T ?_
 refine AO.nil (AW.le (Le.ct 0 0 (σ':=(⟨[(2,.R 9)],[(1,.box [.s (List.map encInt_u8 x129.1.code),x129.1.at',.v (.int .u64 x129.1.seed)]),(9,.row 3 (List.map encEntry v40))],98,[(1,L 1)]⟩:St)) (hpin:=⟨⟨rfl,rfl⟩,trivial⟩)) ?_)
 refine AW.ret ?_
 have hR:=someE hH;subst hR
 exact ⟨trivial,rfl,_,[9],[1],rfl,expLG_cons (.c (.box rfl rfl)) (expLG_nil),.c (.c (.rowR rfl)),by decide⟩
 replace hH:=condF hc hH
 refine AW.skip ?_
 iterate 2 refine AW.seq ?_
 obtain ⟨x149,hx150,hH⟩:=bindE hH
 refine AW.region (AO.pu T ?_)
 refine AO.step rfl (callM_ok rfl 41 rfl rfl (es:=[.pw (encL1Cur (L1Cur.mk v37 v38 v39)),.v (.int .i64 30)]) (outs:=[.pw (encL1Cur x149.1),.u]) (ids:=[1]) (by exact expLG_cons (.c (.box rfl rfl)) (expLG_cons (.c .v) (expLG_nil))) (by decide) (.inl (by rfl)) (by rfl) (spec_l1Cur_one_ok _ _ _ (hx150)) rfl (by rfl) rfl) ?_
 refine AO.nil (AW.cond (b:=x149.2) rfl (fun hc=>?_) (fun hc=>?_))
 replace hH:=condT hc hH
 refine AW.seq (AW.region (AO.pu T ?_))
 refine AO.nil (AW.seq ?_)
 obtain ⟨x151,hx152,hH⟩:=bindE hH
 refine AW.region (AO.pu T ?_)
 refine AO.step rfl (callM_ok rfl 41 rfl rfl (es:=[.pw (encL1Cur (L1Cur.mk x149.1.code x149.1.at' x149.1.seed)),.v (.int .i64 2)]) (outs:=[.pw (encL1Cur x151.1),.u]) (ids:=[1]) (by exact expLG_cons (.c (.box rfl rfl)) (expLG_cons (.c .v) (expLG_nil))) (by decide) (.inl (by rfl)) (by rfl) (spec_l1Cur_pick_ok _ _ _ (hx152)) rfl (by rfl) rfl) ?_
 refine AO.val rfl rfl (arw_ok rfl rfl rfl rfl) ?_
 refine AO.pu T ?_
 refine AO.nil (AW.block ?_)
 refine AW.loopS (fun s:Nat × (List Entry)=>(⟨[(3,.R 44),(8,w64 (80+x151.2))],[(1,.box [.s (List.map encInt_u8 x151.1.code),x151.1.at',.v (.int .u64 x151.1.seed)]),(44,.row 3 (List.map encEntry s.2))],98,[(1,L 1)]⟩:St)) (fun s=>spec_l1Cur_entries_l6 x151 s.1 s.2=some r) (fun s=>s.1) (fuel,[]) hH ?_ ?_
 refine Le.trans (Le.void 3 44 3 rfl rfl) ?_
 exact Le.ct 0 0 (hpin:=⟨⟨rfl,rfl⟩,trivial⟩)
 rintro ⟨k153,v163⟩ hH
 replace hH:spec_l1Cur_entries_l6 x151 k153 v163=some r:=hH
 try dsimp only
 rcases k153 with _ | k153
 cases (show none=some _ from hH)
 rw [spec_l1Cur_entries_l6] at hH
 iterate 2 refine AW.seq ?_
 refine AW.region (AO.pu T ?_)
 refine AO.val rfl rfl (len_row_ok T rfl rfl rfl rfl) ?_
 iterate 2 refine AO.pu T ?_
 refine AO.nil (AW.cond (b:=decide ((v163.length:Int) < (w64 (80+x151.2)))) rfl (fun hc=>?_) (fun hc=>?_))
 replace hH:=condT hc hH
 refine AW.skip (AW.block ?_)
 obtain ⟨u165,hx166,hH⟩:=bindE hH
 obtain ⟨u167,hx168,hH⟩:=bindE hH
 refine AW.region ?_
 iterate 2 refine AO.pu T ?_
 refine AO.val rfl rfl (len_row_ok T rfl rfl rfl rfl) ?_
 refine AO.val rfl rfl (rem_ok rfl rfl rfl (neZ (needT (hx166)))) ?_
 refine AO.val rfl rfl (arw_ok rfl rfl rfl rfl) ?_
 refine AO.pu T ?_
 refine AO.val rfl rfl (len_row_ok T rfl rfl rfl rfl) ?_
 refine AO.val rfl rfl (quow_ok rfl rfl rfl (neZ (needT (hx166)))) ?_
 refine AO.val rfl rfl (arw_ok rfl rfl rfl rfl) ?_
 refine AO.pu T ?_
 refine AO.val rfl rfl (len_row_ok T rfl rfl rfl rfl) ?_
 refine AO.val rfl rfl (arw_ok rfl rfl rfl rfl) ?_
 refine AO.pu T (d:=.g [w64 (1+((v163.length:Int).tmod 9)),w64 (1+(w64 ((v163.length:Int).tdiv 9))),w64 (10 * (v163.length:Int))]) ?_
 refine AO.step rfl (mk_map_ok T rfl 45 rfl rfl rfl rfl rfl (f:=encEntry) (l:=[(Entry.mk (w64 (1+((v163.length:Int).tmod 9))) (w64 (1+(w64 ((v163.length:Int).tdiv 9)))) (w64 (10 * (v163.length:Int))))]) rfl rfl (fun _=>rfl) rfl rfl rfl rfl rfl) ?_
 refine AO.step rfl (app_rv_map T rfl 46 rfl rfl rfl rfl rfl (by decide) rfl rfl rfl rfl (fun _=>rfl) (needT (hx168)) rfl rfl) ?_
 refine AO.pu T ?_
 refine AO.nil ?_
 refine ⟨(k153,(v163++[(Entry.mk (w64 (1+((v163.length:Int).tmod 9))) (w64 (1+(w64 ((v163.length:Int).tdiv 9)))) (w64 (10 * (v163.length:Int))))])),hH,Nat.lt_succ_self _,?_⟩
 exact Le.ct 46 44 (hpin:=⟨⟨rfl,rfl⟩,trivial⟩)
 replace hH:=condF hc hH
 refine AW.exit (AW.seq (AW.region ?_))
 iterate 2 refine AO.pu T ?_
 refine AO.nil (AW.ret ?_)
 have hR:=someE hH;subst hR
 exact ⟨trivial,rfl,_,[44],[1],rfl,expLG_cons (.c (.box rfl rfl)) (expLG_nil),.c (.c (.rowR rfl)),by decide⟩
 replace hH:=condF hc hH
 refine AW.skip (AW.seq (AW.region ?_))
 iterate 2 refine AO.pu T ?_
 refine AO.nil (AW.ret ?_)
 have hR:=someE hH;subst hR
 exact ⟨trivial,rfl,_,[9],[1],rfl,expLG_cons (.c (.box rfl rfl)) (expLG_nil),.c (.c (.rowR rfl)),by decide⟩

def spec_l1Own_p (l:List Int):Option (List Int) :=
  (need (fitsB 8 l.length)).bind fun u1 =>
  some l
theorem spec_l1Own_ok (l:List Int) (r:(List Int)) (hH:spec_l1Own_p l=some r):SpecR Tryz.prog 66 [.s (List.map encInt l)] (.w 1 (r.map encInt)):=by
 refine fn_ok T Tryz.func66 rfl (by decide) rfl ?_
 refine AW.seq (AW.region (AO.pu T ?_))
 refine AO.nil (AW.seq ?_)
 obtain ⟨u1,hx2,hH⟩:=bindE hH
 refine AW.region (AO.step rfl (mk0_ok T rfl rfl rfl rfl) ?_)
 refine AO.pu T ?_
 refine AO.step rfl (app_ws_map T rfl 1 rfl rfl rfl rfl rfl (by decide) (by decide) rfl rfl (fun _=>rfl) (needT (hx2)) rfl rfl) ?_
 refine AO.pu T ?_
 refine AO.nil (AW.ret ?_)
 have hR:=someE hH;subst hR
 exact retQ.i [1] rfl (.c (.c (.rowR rfl)))

def spec_seOwn_l1 (sA:Season):List Line→Nat→List Line→Option Season
  | [],k1,v20 =>
    some (Season.mk sA.best v20)
  | y2::ys3,k1,v20 =>
    (spec_l1Own_p y2.events).bind fun x22 =>
    (spec_l1Own_p y2.points).bind fun x24 =>
    (need (fitsB 56 (v20.length+([(Line.mk y2.skater x22 x24)]).length))).bind fun u26 =>
    spec_seOwn_l1 sA ys3 (k1+1) (v20++[(Line.mk y2.skater x22 x24)])
def spec_seOwn_p (sA:Season):Option Season :=
  spec_seOwn_l1 sA sA.lines 0 []
theorem spec_seOwn_ok (sA:Season) (r:Season) (hH:spec_seOwn_p sA=some r):SpecR Tryz.prog 95 [.g (encSeason sA)] (.g (encSeasonO r)):=by
 refine fn_ok T Tryz.func95 rfl (by decide) rfl ?_
 refine AW.seq (AW.region (AO.step rfl (box_ok T rfl 1 rfl rfl rfl rfl) ?_))
 refine AO.step rfl (alloc_ok T rfl 2 rfl rfl rfl rfl rfl) ?_
 refine AO.nil (AW.seq (AW.region ?_))
 iterate 2 refine AO.pu T ?_
 refine AO.pu T (d:=.g [sA.best,.w 0 []]) ?_
 refine AO.step rfl (alloc_ok T rfl 3 rfl rfl rfl rfl rfl) ?_
 refine AO.se T [sA.best,.w 0 []] ?_
 refine AO.nil ?_
 iterate 2 refine AW.seq ?_
 refine AW.region ?_
 iterate 2 refine AO.pu T ?_
 refine AO.val rfl rfl (len_map_ok T rfl rfl rfl) ?_
 refine AO.pu T ?_
 refine AO.nil (AW.block ?_)
 refine AW.loopS (fun s:Nat × (List Line)=>(⟨[(2,.p 2 0),(3,.p 3 0),(10,.s (List.map encLine sA.lines)),(11,(sA.lines.length:Int)),(12,(s.1:Int))],[(2,.box [(0:Int),.w 0 []]),(3,.box [sA.best,.R 13]),(13,.row 3 (List.map encLineO s.2))],32,[]⟩:St)) (fun s=>s.1 ≤ sA.lines.length∧spec_seOwn_l1 sA (sA.lines.drop s.1) s.1 s.2=some r) (fun s=>sA.lines.length - s.1) (0,[]) ⟨Nat.zero_le _,hH⟩ ?_ ?_
 refine Le.trans (Le.voidBox 3 1 13 3 rfl rfl rfl rfl) ?_
 exact Le.ct 0 0
 rintro ⟨k1,v20⟩ ⟨hk,hH⟩
 replace hH:spec_seOwn_l1 sA (sA.lines.drop k1) k1 v20=some r:=hH
 try dsimp only
 refine AW.boundM (t:=10) (l:=sA.lines) rfl (fun hb5=>?_)
 rcases hd4:sA.lines.drop k1 with _ | ⟨y2,ys3⟩
 rw [hd4,spec_seOwn_l1] at hH
 have hlt6:=drop_ge hd4
 refine AW.seq (AW.region (AO.pu T ?_))
 refine AO.nil (AW.seq (AW.condF' (b:=decide ((k1:Int) < (sA.lines.length:Int))) rfl (rngF hlt6) ?_))
 refine AW.exit (AW.seq (AW.region ?_))
 refine AO.pu T (d:=.g [sA.best,.R 13]) ?_
 refine AO.se T [sA.best,.R 13] ?_
 refine AO.nil (AW.ret ?_)
 have hR:=someE hH;subst hR
 exact retQ.i [13] rfl (.c (.g (expLC_cons .v (expLC_cons (.rowR rfl) (expLC_nil)))))
 rw [hd4,spec_seOwn_l1] at hH
 have hlt6:=drop_lt hd4
 refine AW.seq (AW.region (AO.pu T ?_))
 refine AO.nil (AW.seq (AW.condT' (b:=decide ((k1:Int) < (sA.lines.length:Int))) rfl (rngT hlt6) ?_))
 refine AW.skip (AW.seq ?_)
 refine AW.block (AW.seq (AW.region ?_))
 refine AO.val rfl rfl (ix_map_ok T rfl rfl rfl rfl rfl (getI_drop hd4) rfl) ?_
 refine AO.pu T (d:=.g [y2.skater,.s (List.map encInt y2.events),.s (List.map encInt y2.points)]) ?_
 refine AO.step rfl (alloc_ok T rfl 14 rfl rfl rfl rfl rfl) ?_
 refine AO.se T [y2.skater,.s (List.map encInt y2.events),.s (List.map encInt y2.points)] ?_
 refine AO.nil ?_
 obtain ⟨x22,hx23,hH⟩:=bindE hH
 obtain ⟨x24,hx25,hH⟩:=bindE hH
 obtain ⟨u26,hx27,hH⟩:=bindE hH
 refine AW.drawn 12 15 [] mix (by kernel_rfl) rfl ?_
 iterate 6 refine AD.pure T rfl rfl rfl ?_
 refine AD.q (FStep.call rfl rfl rfl rfl rfl (spec_l1Own_ok _ _ (hx23)) rfl rfl) (impT_names _ _) (impT_le _ _) rfl ?_
 iterate 2 refine AD.pure T rfl rfl rfl ?_
 refine AD.q (FStep.call rfl rfl rfl rfl rfl (spec_l1Own_ok _ _ (hx25)) rfl rfl) (impT_names _ _) (impT_le _ _) rfl ?_
 refine AD.pured T (d:=.g [y2.skater,.R 15,.R 16]) rfl rfl rfl rfl ?_
 refine AD.k rfl rfl (FStep.mk_o T rfl rfl rfl rfl rfl rfl rfl rfl (f:=encLineO) (l:=[(Line.mk y2.skater x22 x24)]) (ids:=[15,16]) rfl rfl (fun _=>rfl) (by exact expLC_cons .v (expLC_cons (.rowR rfl) (expLC_cons (.rowR rfl) (expLC_nil)))) (by decide) rfl rfl rfl rfl) rfl rfl rfl ?_
 refine AD.nil (AO.step rfl (app_rr_map T rfl 18 rfl rfl rfl rfl rfl (by decide) rfl rfl rfl rfl rfl (needT (hx27)) rfl rfl) ?_)
 refine AO.pu T ?_
 refine AO.se T [sA.best,.R 18] ?_
 refine AO.nil (AW.region ?_)
 refine AO.val rfl rfl (ar_ok rfl rfl rfl rfl (inI_succ hlt6 hb5)) ?_
 refine AO.pu T ?_
 refine AO.nil ?_
 refine ⟨(k1+1,(v20++[(Line.mk y2.skater x22 x24)])),⟨Nat.succ_le_of_lt hlt6,(by rw [drop_succ_of hd4];exact hH)⟩,(by have:=hlt6;dsimp only;omega),?_⟩
 exact Le.ct 18 13

def spec_seIndex_l1 (sA:Season) (skater:Int):Nat→Int→Option Int
  | 0,_=>none
  | k13+1,v19 =>
    (opt (decide (v19 < (sA.lines.length:Int))) default (getI sA.lines v19)).bind fun x21 =>
    cond (decide (v19 < (sA.lines.length:Int)) && decide (x21.skater < skater))
      (spec_seIndex_l1 sA skater k13 (w64 (v19+1)))
      (some v19)
def spec_seIndex_p (fuel:Nat) (sA:Season) (skater:Int):Option Int :=
  (spec_seIndex_l1 sA skater fuel 0).bind fun v10 =>
  some v10
theorem spec_seIndex_ok (fuel:Nat) (sA:Season) (skater:Int) (r:Int) (hH:spec_seIndex_p fuel sA skater=some r):SpecR Tryz.prog 102 [.g (encSeason sA),skater] (.v (.int .i64 r)):=by
 refine fn_ok T Tryz.func102 rfl (by decide) rfl ?_
 refine AW.seq (AW.region (AO.step rfl (box_ok T rfl 1 rfl rfl rfl rfl) ?_))
 refine AO.pu T ?_
 refine AO.nil (AW.seq (AW.region ?_))
 refine AO.pu T ?_
 refine AO.nil ?_
 obtain ⟨o11,hH,hK12⟩:=bindE hH
 refine AW.seqJ (fun s:Int=>(⟨[(5,s)],[],24,[]⟩:St)) (fun s=>s=o11) ?_ ?_
 refine AW.block (AW.loopS (fun s:Nat × Int=>(⟨[(1,skater),(2,.p 1 0),(5,s.2)],[(1,.box [sA.best,.s (List.map encLine sA.lines)])],24,[]⟩:St)) (fun s=>spec_seIndex_l1 sA skater s.1 s.2=some o11) (fun s=>s.1) (fuel,0) hH ?_ ?_)
 exact Le.ct 0 0
 rintro ⟨k13,v19⟩ hH
 replace hH:spec_seIndex_l1 sA skater k13 v19=some o11:=hH
 try dsimp only
 rcases k13 with _ | k13
 cases (show none=some _ from hH)
 rw [spec_seIndex_l1] at hH
 iterate 2 refine AW.seq ?_
 obtain ⟨x21,hx22,hH⟩:=bindE hH
 refine AW.region ?_
 iterate 3 refine AO.pu T ?_
 refine AO.val rfl rfl (len_map_ok T rfl rfl rfl) ?_
 iterate 2 refine AO.pu T ?_
 refine AO.pureG T [] rfl trivial rfl rfl ?_
 refine AO.pureG T [12] rfl ⟨fun h=>h,trivial⟩ rfl rfl ?_
 refine AO.pureG T [] rfl trivial rfl rfl ?_
 refine AO.guard [13,14] rfl ⟨fun h=>h,fun h=>h,trivial⟩ (fun hg=>ix_map_ok T rfl rfl rfl rfl rfl (optT hx22 hg) rfl) rfl ?_
 refine AO.pureG T [15] rfl ⟨fun h=>h,trivial⟩ rfl rfl ?_
 refine AO.pureG T [16] rfl ⟨fun h=>h,trivial⟩ rfl rfl ?_
 refine AO.pureG T [] rfl trivial rfl rfl ?_
 refine AO.pureG T [17,18] rfl ⟨fun h=>h,fun h=>h,trivial⟩ rfl rfl ?_
 refine AO.val rfl rfl (pick_and rfl rfl rfl rfl) ?_
 refine AO.nil (AW.cond (b:=(decide (v19 < (sA.lines.length:Int)) && decide (x21.skater < skater))) rfl (fun hc=>?_) (fun hc=>?_))
 replace hH:=condT hc hH
 refine AW.skip (AW.block ?_)
 refine AW.region (AO.pu T ?_)
 refine AO.val rfl rfl (arw_ok rfl rfl rfl rfl) ?_
 refine AO.pu T ?_
 refine AO.nil ?_
 refine ⟨(k13,w64 (v19+1)),hH,Nat.lt_succ_self _,?_⟩
 exact Le.ct 0 0
 replace hH:=condF hc hH
 refine AW.exit ?_
 refine ⟨_,someE hH,?_⟩
 exact Le.ct 0 0
 rintro v10 hs
 subst hs
 replace hH:=hK12
 try dsimp only [flow,flowE] at hH
 try dsimp only
 refine AW.seq (AW.region ?_)
 iterate 2 refine AO.pu T ?_
 refine AO.nil (AW.ret ?_)
 have hR:=someE hH;subst hR
 exact retQ.i [] rfl (.c (.c .v))

def spec_seHas_p (fuel:Nat) (sA:Season) (skater:Int):Option Int :=
  (spec_seIndex_p fuel sA skater).bind fun x1 =>
  (opt (!(x1 == (sA.lines.length:Int))) default (getI sA.lines x1)).bind fun x3 =>
  cond ((x1 == (sA.lines.length:Int)) || (x3.skater != skater))
    (some (-1))
    (some x1)
theorem spec_seHas_ok (fuel:Nat) (sA:Season) (skater:Int) (r:Int) (hH:spec_seHas_p fuel sA skater=some r):SpecR Tryz.prog 85 [.g (encSeason sA),skater] (.v (.int .i64 r)):=by
 refine fn_ok T Tryz.func85 rfl (by decide) rfl ?_
 refine AW.seq (AW.region (AO.step rfl (box_ok T rfl 1 rfl rfl rfl rfl) ?_))
 refine AO.pu T ?_
 refine AO.nil (AW.seq ?_)
 obtain ⟨x1,hx2,hH⟩:=bindE hH
 refine AW.region (AO.pu T (d:=.g [sA.best,.s (List.map encLine sA.lines)]) ?_)
 refine AO.pu T ?_
 refine AO.val rfl rfl (callV_ok rfl rfl rfl rfl (spec_seIndex_ok fuel _ _ _ (hx2)) rfl) ?_
 refine AO.pu T ?_
 refine AO.nil ?_
 iterate 2 refine AW.seq ?_
 obtain ⟨x3,hx4,hH⟩:=bindE hH
 refine AW.region ?_
 iterate 3 refine AO.pu T ?_
 refine AO.val rfl rfl (len_map_ok T rfl rfl rfl) ?_
 iterate 2 refine AO.pu T ?_
 refine AO.pureG T [] rfl trivial rfl rfl ?_
 refine AO.pureG T [15] rfl ⟨fun h=>h,trivial⟩ rfl rfl ?_
 refine AO.pureG T [] rfl trivial rfl rfl ?_
 refine AO.guard [16,17] rfl ⟨fun h=>h,fun h=>h,trivial⟩ (fun hg=>ix_map_ok T rfl rfl rfl rfl rfl (optT hx4 hg) rfl) rfl ?_
 refine AO.pureG T [18] rfl ⟨fun h=>h,trivial⟩ rfl rfl ?_
 refine AO.pureG T [19] rfl ⟨fun h=>h,trivial⟩ rfl rfl ?_
 refine AO.pureG T [] rfl trivial rfl rfl ?_
 refine AO.pureG T [20,21] rfl ⟨fun h=>h,fun h=>h,trivial⟩ rfl rfl ?_
 refine AO.val rfl rfl (pick_or rfl rfl rfl rfl) ?_
 refine AO.nil (AW.cond (b:=((x1 == (sA.lines.length:Int)) || (x3.skater != skater))) rfl (fun hc=>?_) (fun hc=>?_))
 replace hH:=condT hc hH
 refine AW.seq (AW.region (AO.pu T ?_))
 refine AO.nil (AW.ret ?_)
 have hR:=someE hH;subst hR
 exact retQ.i [] rfl (.c (.c .v))
 replace hH:=condF hc hH
 refine AW.skip (AW.seq (AW.region ?_))
 iterate 2 refine AO.pu T ?_
 refine AO.nil (AW.ret ?_)
 have hR:=someE hH;subst hR
 exact retQ.i [] rfl (.c (.c .v))

def spec_seInsert_p (l:List Int) (k:Int) (n:Int):Option (List Int) :=
  (sliceHi l k).bind fun x1 =>
  (spec_l1Own_p x1).bind fun x3 =>
  (need (fitsB 8 (x3.length+([n]).length))).bind fun u5 =>
  (sliceLo l k).bind fun x7 =>
  (need (fitsB 8 (((x3++[n])).length+x7.length))).bind fun u9 =>
  some ((x3++[n])++x7)
theorem spec_seInsert_ok (l:List Int) (k:Int) (n:Int) (r:(List Int)) (hH:spec_seInsert_p l k n=some r):SpecR Tryz.prog 111 [.s (List.map encInt l),k,n] (.w 1 (r.map encInt)):=by
 refine fn_ok T Tryz.func111 rfl (by decide) rfl ?_
 refine AW.seq (AW.region (AO.pu T ?_))
 refine AO.nil (AW.seq ?_)
 obtain ⟨x1,hx2,hH⟩:=bindE hH
 obtain ⟨x3,hx4,hH⟩:=bindE hH
 obtain ⟨u5,hx6,hH⟩:=bindE hH
 obtain ⟨x7,hx8,hH⟩:=bindE hH
 obtain ⟨u9,hx10,hH⟩:=bindE hH
 refine AW.drawn 10 1 [] mix (by kernel_rfl) rfl ?_
 iterate 2 refine AD.pure T rfl rfl rfl ?_
 refine AD.val rfl rfl (slice_hi_map_ok T rfl rfl rfl rfl rfl (hx2) (fun _=>rfl)) ?_
 refine AD.q (FStep.call rfl rfl rfl rfl rfl (spec_l1Own_ok _ _ (hx4)) rfl rfl) (impT_names _ _) (impT_le _ _) rfl ?_
 refine AD.pure T rfl rfl rfl ?_
 refine AD.q (FStep.mk T (f:=encInt) (l:=[n]) rfl rfl rfl rfl rfl rfl rfl rfl rfl (fun _=>rfl) rfl rfl rfl rfl) (by simp [namesIn]) (Nat.le_succ _) rfl ?_
 refine AD.k rfl rfl (FStep.app_rv T rfl rfl rfl rfl rfl rfl rfl (by decide) rfl rfl rfl rfl (fun _=>rfl) (needT (hx6)) rfl) rfl rfl rfl ?_
 iterate 2 refine AD.pure T rfl rfl rfl ?_
 refine AD.val rfl rfl (slice_lo_map_ok T rfl rfl rfl rfl rfl (hx8) (fun _=>rfl)) ?_
 refine AD.nil (AO.step rfl (app_rs_map T rfl 4 rfl rfl rfl rfl rfl (by decide) (by decide) rfl rfl rfl (fun _=>rfl) (needT (hx10)) rfl rfl) ?_)
 refine AO.pu T ?_
 refine AO.nil (AW.ret ?_)
 have hR:=someE hH;subst hR
 exact retQ.i [4] rfl (.c (.c (.rowR rfl)))

def spec_seAdd_l1 (e:Entry) (x17:Line):Nat→Int→Option Int
  | 0,_=>none
  | k37+1,v47 =>
    (opt (decide (v47 < (x17.points.length:Int))) default (getI x17.points v47)).bind fun x49 =>
    (opt ((decide (v47 < (x17.points.length:Int)) && (!(decide (x49 > e.points)))) && (x49 == e.points)) default (getI x17.events v47)).bind fun x51 =>
    cond (decide (v47 < (x17.points.length:Int)) && (decide (x49 > e.points) || ((x49 == e.points) && decide (x51 < e.event))))
      (spec_seAdd_l1 e x17 k37 (w64 (v47+1)))
      (some v47)
def spec_seAdd_p (fuel:Nat) (sA:Season) (e:Entry):Option Season :=
  (spec_seOwn_p sA).bind fun x1 =>
  (spec_seIndex_p fuel sA e.skater).bind fun x3 =>
  (spec_seHas_p fuel sA e.skater).bind fun x5 =>
  cond (decide (x5 < 0))
    ((sliceHi x1.lines x3).bind fun x7 =>
    (need (fitsB 56 x7.length)).bind fun u9 =>
    (need (fitsB 56 (x7.length+([(Line.mk e.skater [e.event] [e.points])]).length))).bind fun u11 =>
    (sliceLo x1.lines x3).bind fun x13 =>
    (need (fitsB 56 (((x7++[(Line.mk e.skater [e.event] [e.points])])).length+x13.length))).bind fun u15 =>
    some (Season.mk x1.best ((x7++[(Line.mk e.skater [e.event] [e.points])])++x13)))
    ((getI x1.lines x3).bind fun x17 =>
    (spec_seAdd_l1 e x17 fuel 0).bind fun v34 =>
    (spec_seInsert_p x17.events v34 e.event).bind fun x53 =>
    (spec_seInsert_p x17.points v34 e.points).bind fun x55 =>
    (getI (x1.lines.set x3.toNat (Line.mk x17.skater x53 x17.points)) x3).bind fun x57 =>
    some (Season.mk x1.best ((x1.lines.set x3.toNat (Line.mk x17.skater x53 x17.points)).set x3.toNat (Line.mk x57.skater x57.events x55))))
theorem spec_seAdd_ok (fuel:Nat) (sA:Season) (e:Entry) (r:Season) (hH:spec_seAdd_p fuel sA e=some r):SpecR Tryz.prog 94 [.g (encSeason sA),.g (encEntry e)] (.g (encSeasonO r)):=by
 refine fn_ok T Tryz.func94 rfl (by decide) rfl ?_
 refine AW.seq (AW.region (AO.step rfl (box_ok T rfl 1 rfl rfl rfl rfl) ?_))
 refine AO.step rfl (box_ok T rfl 2 rfl rfl rfl rfl) ?_
 refine AO.step rfl (alloc_ok T rfl 3 rfl rfl rfl rfl rfl) ?_
 refine AO.nil (AW.seq ?_)
 obtain ⟨x1,hx2,hH⟩:=bindE hH
 refine AW.region (AO.pu T (d:=.g [sA.best,.s (List.map encLine sA.lines)]) ?_)
 refine AO.step rfl (call_ok rfl 4 rfl rfl rfl (spec_seOwn_ok _ _ (hx2)) rfl rfl rfl) ?_
 refine AO.step rfl (alloc_ok T rfl 5 rfl rfl rfl rfl rfl) ?_
 refine AO.se T [x1.best,.R 4] ?_
 refine AO.nil (AW.seq ?_)
 obtain ⟨x3,hx4,hH⟩:=bindE hH
 refine AW.region (AO.pu T (d:=.g [sA.best,.s (List.map encLine sA.lines)]) ?_)
 iterate 2 refine AO.pu T ?_
 refine AO.val rfl rfl (callV_ok rfl rfl rfl rfl (spec_seIndex_ok fuel _ _ _ (hx4)) rfl) ?_
 refine AO.pu T ?_
 refine AO.nil ?_
 iterate 2 refine AW.seq ?_
 obtain ⟨x5,hx6,hH⟩:=bindE hH
 refine AW.region (AO.pu T (d:=.g [sA.best,.s (List.map encLine sA.lines)]) ?_)
 iterate 2 refine AO.pu T ?_
 refine AO.val rfl rfl (callV_ok rfl rfl rfl rfl (spec_seHas_ok fuel _ _ _ (hx6)) rfl) ?_
 refine AO.pu T ?_
 refine AO.nil (AW.cond (b:=decide (x5 < 0)) rfl (fun hc=>?_) (fun hc=>?_))
 replace hH:=condT hc hH
 refine AW.seq (AW.region ?_)
 iterate 4 refine AO.pu T ?_
 refine AO.step rfl (mk_map_ok T rfl 6 rfl rfl rfl rfl rfl (f:=encInt) (l:=[e.event]) rfl rfl (fun _=>rfl) rfl rfl rfl rfl rfl) ?_
 iterate 2 refine AO.pu T ?_
 refine AO.step rfl (mk_map_ok T rfl 7 rfl rfl rfl rfl rfl (f:=encInt) (l:=[e.points]) rfl rfl (fun _=>rfl) rfl rfl rfl rfl rfl) ?_
 refine AO.pu T (d:=.g [e.skater,.R 6,.R 7]) ?_
 refine AO.step rfl (alloc_ok T rfl 8 rfl rfl rfl rfl rfl) ?_
 refine AO.se T [e.skater,.R 6,.R 7] ?_
 refine AO.nil (AW.le (Le.ct 0 0 (σ':=(⟨[(4,.p 3 0),(5,.p 5 0),(6,x3),(7,.p 8 0)],[(3,.box [(0:Int),.w 0 []]),(4,.row 3 (List.map encLineO x1.lines)),(5,.box [x1.best,.R 4]),(6,.row 1 (List.map encInt [e.event])),(7,.row 1 (List.map encInt [e.points])),(8,.box [e.skater,.R 6,.R 7])],111,[]⟩:St))) ?_)
 refine AW.seq ?_
 obtain ⟨x7,hx8,hH⟩:=bindE hH
 obtain ⟨u9,hx10,hH⟩:=bindE hH
 obtain ⟨u11,hx12,hH⟩:=bindE hH
 obtain ⟨x13,hx14,hH⟩:=bindE hH
 obtain ⟨u15,hx16,hH⟩:=bindE hH
 obtain ⟨e7,_,_⟩:=sliceHi_eq hx8
 subst e7
 obtain ⟨e13,_,_⟩:=sliceLo_eq hx14
 subst e13
 refine AW.phys 4 90 rfl rfl (fun xv hxv=>?_)
 refine AW.physB 8 91 (es:=encLineO (Line.mk e.skater [e.event] [e.points])) (ids:=[6,7]) rfl (by exact expLC_cons .v (expLC_cons (.rowR rfl) (expLC_cons (.rowR rfl) expLC_nil))) (by decide) rfl rfl (fun v0 v1 v2=>?_)
 refine AW.le (Le.freezeM 4 (g:=encV3) rfl (fun y=>.vs rfl)) ?_
 refine AW.drawn 13 92 [] mix (by kernel_rfl) rfl ?_
 refine AD.v (FStep.mk0 T rfl rfl rfl rfl rfl) ?_
 iterate 3 refine AD.pure T rfl rfl rfl ?_
 refine AD.val rfl rfl (slice_hi_map_ok T rfl rfl rfl rfl rfl (sliceHi_as hx8 hxv) (fun _=>rfl)) ?_
 refine AD.q (FStep.app_ws T rfl rfl rfl rfl rfl rfl rfl (by decide) (by decide) rfl rfl (fun _=>rfl) (by rw [take_len hxv];exact needT hx10) rfl) (by simp [namesIn]) (Nat.le_succ _) rfl ?_
 refine AD.pure T (d:=.g [.v v0,.v v1,.v v2]) rfl rfl rfl ?_
 refine AD.q (FStep.mk T (f:=encV3) (l:=[(v0,v1,v2)]) rfl rfl rfl rfl rfl rfl rfl rfl rfl (fun _=>rfl) rfl rfl rfl rfl) (by simp [namesIn]) (Nat.le_succ _) rfl ?_
 refine AD.k rfl rfl (FStep.app_rv T rfl rfl rfl rfl rfl rfl rfl (by decide) rfl rfl rfl rfl (fun _=>rfl) (by rw [take_len hxv];exact needT hx12) rfl) rfl rfl rfl ?_
 iterate 3 refine AD.pure T rfl rfl rfl ?_
 refine AD.val rfl rfl (slice_lo_map_ok T rfl rfl rfl rfl rfl (sliceLo_as hx14 hxv) (fun _=>rfl)) ?_
 refine AD.nil (AO.step rfl (app_rs_map T rfl 95 rfl rfl rfl rfl rfl (by decide) (by decide) rfl rfl rfl (fun _=>rfl) (by have q:=needT hx16;rw [List.length_append] at q;rw [List.length_append,take_len hxv,drop_len hxv];exact q) rfl rfl) ?_)
 refine AO.pu T ?_
 refine AO.se T [x1.best,.R 95] ?_
 refine AO.le (Le.unphys 95 90 91 (l:=x1.lines) (x:=(Line.mk e.skater [e.event] [e.points])) (f:=encLineO) (xv:=xv) (q:=(v0,v1,v2)) (k:=x3.toNat) rfl rfl rfl hxv (fun _=>rfl) (by decide)) ?_
 refine AO.nil (AW.seq (AW.region ?_))
 refine AO.pu T (d:=.g [x1.best,.R 95]) ?_
 refine AO.se T [x1.best,.R 95] ?_
 refine AO.nil (AW.ret ?_)
 have hR:=someE hH;subst hR
 exact retQ.i [95] rfl (.c (.g (expLC_cons .v (expLC_cons (.rowR rfl) (expLC_nil)))))
 replace hH:=condF hc hH
 refine AW.skip (AW.seq ?_)
 obtain ⟨x17,hx18,hH⟩:=bindE hH
 refine AW.le (Le.freezeElem 4 x3.toNat rfl (getI_get hx18) (frzLine _)) ?_
 refine AW.region ?_
 iterate 3 refine AO.pu T ?_
 refine AO.val rfl rfl (ix_row_ok T rfl rfl rfl rfl rfl rfl (getI_setI hx18)) ?_
 refine AO.val rfl rfl (load_row_ok T rfl rfl rfl rfl (getI_get (getI_setI hx18)) rfl rfl rfl) ?_
 refine AO.step rfl (alloc_ok T rfl 13 rfl rfl rfl rfl rfl) ?_
 refine AO.se T [x17.skater,.s (List.map encInt x17.events),.s (List.map encInt x17.points)] ?_
 refine AO.nil (AW.le (Le.ct 0 0 (σ':=(⟨[(3,.p 2 0),(4,.p 3 0),(5,.p 5 0),(6,x3),(8,.p 13 0)],[(2,.box [e.event,e.skater,e.points]),(3,.box [(0:Int),.w 0 []]),(4,.row 3 (List.map (fun x=>x) ((List.map encLineO x1.lines).set x3.toNat (encLine x17)))),(5,.box [x1.best,.R 4]),(13,.box [x17.skater,.s (List.map encInt x17.events),.s (List.map encInt x17.points)])],111,[]⟩:St))) ?_)
 refine AW.seq (AW.region (AO.pu T ?_))
 refine AO.nil ?_
 obtain ⟨o35,hH,hK36⟩:=bindE hH
 refine AW.seqJ (fun s:Int=>(⟨[(3,.p 2 0),(4,.p 3 0),(5,.p 5 0),(6,x3),(8,.p 13 0),(9,s)],[(2,.box [e.event,e.skater,e.points]),(3,.box [(0:Int),.w 0 []]),(4,.row 3 (List.map (fun x=>x) ((List.map encLineO x1.lines).set x3.toNat (encLine x17)))),(5,.box [x1.best,.R 4]),(13,.box [x17.skater,.s (List.map encInt x17.events),.s (List.map encInt x17.points)])],111,[]⟩:St)) (fun s=>s=o35) ?_ ?_
 refine AW.block (AW.loopS (fun s:Nat × Int=>(⟨[(3,.p 2 0),(4,.p 3 0),(5,.p 5 0),(6,x3),(8,.p 13 0),(9,s.2)],[(2,.box [e.event,e.skater,e.points]),(3,.box [(0:Int),.w 0 []]),(4,.row 3 (List.map (fun x=>x) ((List.map encLineO x1.lines).set x3.toNat (encLine x17)))),(5,.box [x1.best,.R 4]),(13,.box [x17.skater,.s (List.map encInt x17.events),.s (List.map encInt x17.points)])],111,[]⟩:St)) (fun s=>spec_seAdd_l1 e x17 s.1 s.2=some o35) (fun s=>s.1) (fuel,0) hH ?_ ?_)
 exact Le.ct 0 0
 rintro ⟨k37,v47⟩ hH
 replace hH:spec_seAdd_l1 e x17 k37 v47=some o35:=hH
 try dsimp only
 rcases k37 with _ | k37
 cases (show none=some _ from hH)
 rw [spec_seAdd_l1] at hH
 iterate 2 refine AW.seq ?_
 obtain ⟨x49,hx50,hH⟩:=bindE hH
 obtain ⟨x51,hx52,hH⟩:=bindE hH
 refine AW.drawn 31 14 [] mix (by kernel_rfl) rfl ?_
 iterate 3 refine AD.pure T rfl rfl rfl ?_
 refine AD.val rfl rfl (len_map_ok T rfl rfl rfl) ?_
 iterate 2 refine AD.pure T rfl rfl rfl ?_
 refine AD.pureG T [] rfl trivial rfl rfl ?_
 refine AD.pureG T [57] rfl ⟨fun h=>h,trivial⟩ rfl rfl ?_
 refine AD.pureG T [] rfl trivial rfl rfl ?_
 refine AD.guard [58,59] rfl ⟨fun h=>h,fun h=>h,trivial⟩ (fun hg=>ix_map_ok T rfl rfl rfl rfl rfl (optT hx50 hg) rfl) rfl ?_
 refine AD.pureG T [60] rfl ⟨fun h=>h,trivial⟩ rfl rfl ?_
 refine AD.pureG T [] rfl trivial rfl rfl ?_
 refine AD.pureG T [62] rfl ⟨fun h=>h,trivial⟩ rfl rfl ?_
 refine AD.pureG T [61,63] rfl ⟨fun h=>h,fun h=>h,trivial⟩ rfl rfl ?_
 refine AD.pureG T [64] rfl ⟨fun h=>h,trivial⟩ rfl rfl ?_
 refine AD.pureG T [] rfl trivial rfl rfl ?_
 refine AD.pureG T [66] rfl ⟨fun h=>h,trivial⟩ rfl rfl ?_
 refine AD.pureG T [] rfl trivial rfl rfl ?_
 refine AD.guard [67,68] rfl ⟨fun h=>h,fun h=>h,trivial⟩ (fun hg=>ix_map_ok T rfl rfl rfl rfl rfl (optT hx50 ((fun h=>(fun h=>h) (Bool.and_eq_true_iff.1 h).1) hg)) rfl) rfl ?_
 refine AD.pureG T [69] rfl ⟨fun h=>h,trivial⟩ rfl rfl ?_
 refine AD.pureG T [] rfl trivial rfl rfl ?_
 refine AD.pureG T [71] rfl ⟨fun h=>h,trivial⟩ rfl rfl ?_
 refine AD.pureG T [70,72] rfl ⟨fun h=>h,fun h=>h,trivial⟩ rfl rfl ?_
 refine AD.pureG T [73] rfl ⟨fun h=>h,trivial⟩ rfl rfl ?_
 refine AD.pureG T [] rfl trivial rfl rfl ?_
 refine AD.pureG T [75] rfl ⟨fun h=>h,trivial⟩ rfl rfl ?_
 refine AD.pureG T [] rfl trivial rfl rfl ?_
 refine AD.guard [76,77] rfl ⟨fun h=>h,fun h=>h,trivial⟩ (fun hg=>ix_map_ok T rfl rfl rfl rfl rfl (optT hx52 hg) rfl) rfl ?_
 refine AD.pureG T [78] rfl ⟨fun h=>h,trivial⟩ rfl rfl ?_
 refine AD.pureG T [] rfl trivial rfl rfl ?_
 refine AD.pureG T [80] rfl ⟨fun h=>h,trivial⟩ rfl rfl ?_
 refine AD.nil (AO.pureG T [79,81] rfl ⟨fun h=>h,fun h=>h,trivial⟩ rfl rfl ?_)
 refine AO.guard [74] rfl ⟨fun h=>h,trivial⟩ (fun hg=>pick_and rfl rfl rfl (by rw [hg];exact Bool.true_and _)) rfl ?_
 refine AO.guard [65] rfl ⟨fun h=>h,trivial⟩ (fun hg=>pick_or rfl rfl rfl (by rw [hg];exact Bool.true_and _)) rfl ?_
 refine AO.val rfl rfl (pick_and rfl rfl rfl rfl) ?_
 refine AO.nil (AW.le (Le.ct 0 0 (σ':=(⟨[(3,.p 2 0),(4,.p 3 0),(5,.p 5 0),(6,x3),(8,.p 13 0),(9,v47),(85,.v (.bool (decide (v47 < (x17.points.length:Int)) && (decide (x49 > e.points) || ((x49 == e.points) && decide (x51 < e.event))))))],[(2,.box [e.event,e.skater,e.points]),(3,.box [(0:Int),.w 0 []]),(4,.row 3 (List.map (fun x=>x) ((List.map encLineO x1.lines).set x3.toNat (encLine x17)))),(5,.box [x1.best,.R 4]),(13,.box [x17.skater,.s (List.map encInt x17.events),.s (List.map encInt x17.points)])],111,[]⟩:St))) ?_)
 refine AW.cond (b:=(decide (v47 < (x17.points.length:Int)) && (decide (x49 > e.points) || ((x49 == e.points) && decide (x51 < e.event))))) rfl (fun hc=>?_) (fun hc=>?_)
 replace hH:=condT hc hH
 refine AW.skip (AW.block ?_)
 refine AW.region (AO.pu T ?_)
 refine AO.val rfl rfl (arw_ok rfl rfl rfl rfl) ?_
 refine AO.pu T ?_
 refine AO.nil ?_
 refine ⟨(k37,w64 (v47+1)),hH,Nat.lt_succ_self _,?_⟩
 exact Le.ct 0 0
 replace hH:=condF hc hH
 refine AW.exit ?_
 refine ⟨_,someE hH,?_⟩
 exact Le.ct 0 0
 rintro v34 hs
 subst hs
 replace hH:=hK36
 try dsimp only [flow,flowE] at hH
 try dsimp only
 refine AW.seq ?_
 obtain ⟨x53,hx54,hH⟩:=bindE hH
 refine AW.drawn 9 14 [] mix (by kernel_rfl) rfl ?_
 iterate 8 refine AD.pure T rfl rfl rfl ?_
 refine AD.q (FStep.call rfl rfl rfl rfl rfl (spec_seInsert_ok _ _ _ _ (hx54)) rfl rfl) (impT_names _ _) (impT_le _ _) rfl ?_
 refine AD.nil (AO.val rfl rfl (ix_row_ok T rfl rfl rfl rfl rfl rfl (getI_setI hx18)) ?_)
 refine AO.pu T ?_
 refine AO.step rfl (store_rowO_ok T (ids:=[14]) rfl rfl rfl rfl rfl (getI_get (getI_setI hx18)) rfl (by exact expLC_cons (.rowR rfl) expLC_nil) (by decide) rfl rfl (u':=[.v (.int .i64 x17.skater),.w 1 (List.map encInt x53),.s (List.map encInt x17.points)]) rfl rfl) ?_
 refine AO.nil (AW.seq ?_)
 obtain ⟨x55,hx56,hH⟩:=bindE hH
 obtain ⟨x57,hx58,hH⟩:=bindE hH
 have e57:=getI_set_inv hx18 hx58
 subst e57
 refine AW.drawn 9 15 [] mix (by kernel_rfl) rfl ?_
 iterate 8 refine AD.pure T rfl rfl rfl ?_
 refine AD.q (FStep.call rfl rfl rfl rfl rfl (spec_seInsert_ok _ _ _ _ (hx56)) rfl rfl) (impT_names _ _) (impT_le _ _) rfl ?_
 refine AD.nil (AO.val rfl rfl (ix_row_ok T rfl rfl rfl rfl rfl rfl (getI_set1 (getI_setI hx18))) ?_)
 refine AO.pu T ?_
 refine AO.step rfl (store_rowO_ok T (ids:=[15]) rfl rfl rfl rfl rfl (getI_get (getI_set1 (getI_setI hx18))) rfl (by exact expLC_cons (.rowR rfl) expLC_nil) (by decide) rfl rfl (u':=encLineO (Line.mk x17.skater x53 x55)) rfl rfl) ?_
 refine AO.nil (AW.le (Le.rowEq 4 (ys:=List.map encLineO ((x1.lines.set x3.toNat (Line.mk x17.skater x53 x17.points)).set x3.toNat (Line.mk x17.skater x53 x55))) rfl rows_eq) ?_)
 refine AW.le (Le.ct 0 0 (σ':=(⟨[(4,.p 3 0),(5,.p 5 0)],[(3,.box [(0:Int),.w 0 []]),(4,.row 3 (List.map encLineO ((x1.lines.set x3.toNat (Line.mk x17.skater x53 x17.points)).set x3.toNat (Line.mk x17.skater x53 x55)))),(5,.box [x1.best,.R 4])],111,[]⟩:St))) ?_
 refine AW.seq (AW.region (AO.pu T (d:=.g [x1.best,.R 4]) ?_))
 refine AO.se T [x1.best,.R 4] ?_
 refine AO.nil (AW.ret ?_)
 have hR:=someE hH;subst hR
 exact retQ.i [4] rfl (.c (.g (expLC_cons .v (expLC_cons (.rowR rfl) (expLC_nil)))))

def spec_seOf_l1 (fuel:Nat):List Entry→Nat→Int→List Line→Option Season
  | [],k1,v13,v14 =>
    some (Season.mk v13 v14)
  | y2::ys3,k1,v13,v14 =>
    (spec_seAdd_p fuel (Season.mk v13 v14) y2).bind fun x16 =>
    spec_seOf_l1 fuel ys3 (k1+1) x16.best x16.lines
def spec_seOf_p (fuel:Nat) (best:Int) (l:List Entry):Option Season :=
  spec_seOf_l1 fuel l 0 best []
theorem spec_seOf_ok (fuel:Nat) (best:Int) (l:List Entry) (r:Season) (hH:spec_seOf_p fuel best l=some r):SpecR Tryz.prog 109 [best,.s (List.map encEntry l)] (.g (encSeasonO r)):=by
 refine fn_ok T Tryz.func109 rfl (by decide) rfl ?_
 refine AW.seq (AW.region (AO.step rfl (alloc_ok T rfl 1 rfl rfl rfl rfl rfl) ?_))
 refine AO.nil (AW.seq (AW.region ?_))
 refine AO.pu T ?_
 refine AO.pu T (d:=.g [best,.w 0 []]) ?_
 refine AO.step rfl (alloc_ok T rfl 2 rfl rfl rfl rfl rfl) ?_
 refine AO.se T [best,.w 0 []] ?_
 refine AO.nil ?_
 iterate 2 refine AW.seq ?_
 refine AW.region (AO.pu T ?_)
 refine AO.val rfl rfl (len_map_ok T rfl rfl rfl) ?_
 refine AO.pu T ?_
 refine AO.nil (AW.block ?_)
 refine AW.loopS (fun s:Nat × Int × (List Line)=>(⟨[(4,.p 1 0),(5,.p 2 0),(10,.s (List.map encEntry l)),(11,(l.length:Int)),(12,(s.1:Int))],[(1,.box [(0:Int),.w 0 []]),(2,.box [s.2.1,.R 6]),(6,.row 3 (List.map encLineO s.2.2))],21,[]⟩:St)) (fun s=>s.1 ≤ l.length∧spec_seOf_l1 fuel (l.drop s.1) s.1 s.2.1 s.2.2=some r) (fun s=>l.length - s.1) (0,best,[]) ⟨Nat.zero_le _,hH⟩ ?_ ?_
 refine Le.trans (Le.voidBox 2 1 6 3 rfl rfl rfl rfl) ?_
 exact Le.ct 0 0
 rintro ⟨k1,v13,v14⟩ ⟨hk,hH⟩
 replace hH:spec_seOf_l1 fuel (l.drop k1) k1 v13 v14=some r:=hH
 try dsimp only
 refine AW.boundM (t:=10) (l:=l) rfl (fun hb5=>?_)
 rcases hd4:l.drop k1 with _ | ⟨y2,ys3⟩
 rw [hd4,spec_seOf_l1] at hH
 have hlt6:=drop_ge hd4
 refine AW.seq (AW.region (AO.pu T ?_))
 refine AO.nil (AW.seq (AW.condF' (b:=decide ((k1:Int) < (l.length:Int))) rfl (rngF hlt6) ?_))
 refine AW.exit (AW.seq (AW.region ?_))
 refine AO.pu T (d:=.g [v13,.R 6]) ?_
 refine AO.se T [v13,.R 6] ?_
 refine AO.nil (AW.ret ?_)
 have hR:=someE hH;subst hR
 exact retQ.i [6] rfl (.c (.g (expLC_cons .v (expLC_cons (.rowR rfl) (expLC_nil)))))
 rw [hd4,spec_seOf_l1] at hH
 have hlt6:=drop_lt hd4
 refine AW.seq (AW.region (AO.pu T ?_))
 refine AO.nil (AW.seq (AW.condT' (b:=decide ((k1:Int) < (l.length:Int))) rfl (rngT hlt6) ?_))
 refine AW.skip (AW.seq ?_)
 refine AW.block (AW.seq (AW.region ?_))
 refine AO.val rfl rfl (ix_map_ok T rfl rfl rfl rfl rfl (getI_drop hd4) rfl) ?_
 refine AO.pu T (d:=.g [y2.event,y2.skater,y2.points]) ?_
 refine AO.step rfl (alloc_ok T rfl 7 rfl rfl rfl rfl rfl) ?_
 refine AO.se T [y2.event,y2.skater,y2.points] ?_
 refine AO.nil ?_
 obtain ⟨x16,hx17,hH⟩:=bindE hH
 refine AW.region (AO.pu T (d:=.g [v13,.R 6]) ?_)
 refine AO.pu T (d:=.g [y2.event,y2.skater,y2.points]) ?_
 refine AO.step rfl (callL_ok rfl 8 rfl rfl (es:=[.g (encSeason (Season.mk v13 v14)),.g (encEntry y2)]) (by exact ⟨lend_g (LendL.cons (.free rfl) (LendL.cons ((.rowR rfl (.map fun y=>frzLine y))) LendL.nil)),.free rfl,trivial⟩) (spec_seAdd_ok fuel _ _ _ (hx17)) (zfree_g (zfl (.cons (zfree_v _) (.cons (zfree_map (fun y=>(.cons (zfree_v _) (.cons (zfree_map (fun y=>(.cons (zfree_v _) .nil))) (.cons (zfree_map (fun y=>(.cons (zfree_v _) .nil))) .nil))))) .nil)))) rfl rfl rfl) ?_
 refine AO.se T [x16.best,.R 8] ?_
 refine AO.nil (AW.region ?_)
 refine AO.val rfl rfl (ar_ok rfl rfl rfl rfl (inI_succ hlt6 hb5)) ?_
 refine AO.pu T ?_
 refine AO.nil ?_
 refine ⟨(k1+1,x16.best,x16.lines),⟨Nat.succ_le_of_lt hlt6,(by rw [drop_succ_of hd4];exact hH)⟩,(by have:=hlt6;dsimp only;omega),?_⟩
 exact Le.ct 8 6

def spec_l1Cur_season_p (fuel:Nat) (c:L1Cur):Option (L1Cur × Season) :=
  (spec_l1Cur_entries_p fuel c).bind fun x1 =>
  (spec_l1Cur_among_p (L1Cur.mk x1.1.code x1.1.at' x1.1.seed) ([1,2,3,9]:List Int)).bind fun x3 =>
  (spec_seEntries_p x1.2).bind fun x5 =>
  cond x5
    ((spec_seOf_p fuel x3.2 x1.2).bind fun x7 =>
    cond (decide ((x7.lines.length:Int) > 0))
      ((spec_l1Cur_pick_p (L1Cur.mk x3.1.code x3.1.at' x3.1.seed) (x7.lines.length:Int)).bind fun x9 =>
      (getI x7.lines x9.2).bind fun x11 =>
      (spec_l1Cur_pick_p (L1Cur.mk x9.1.code x9.1.at' x9.1.seed) 36).bind fun x13 =>
      cond (x13.2 == 0)
        ((spec_l1Cur_among_p (L1Cur.mk x13.1.code x13.1.at' x13.1.seed) ([0,10]:List Int)).bind fun x15 =>
        some ((L1Cur.mk x15.1.code x15.1.at' x15.1.seed),(Season.mk x15.2 x7.lines)))
        (cond (x13.2 == 1)
          ((spec_l1Cur_among_p (L1Cur.mk x13.1.code x13.1.at' x13.1.seed) ([0,1,999,1000]:List Int)).bind fun x17 =>
          some ((L1Cur.mk x17.1.code x17.1.at' x17.1.seed),(Season.mk x7.best (x7.lines.set x9.2.toNat (Line.mk x17.2 x11.events x11.points)))))
          (cond (x13.2 == 2)
            ((spec_l1Cur_among_p (L1Cur.mk x13.1.code x13.1.at' x13.1.seed) ([(-1),0,100000,100001]:List Int)).bind fun x19 =>
            (getI x11.points 0).bind fun x21 =>
            some ((L1Cur.mk x19.1.code x19.1.at' x19.1.seed),(Season.mk x7.best (x7.lines.set x9.2.toNat (Line.mk x11.skater x11.events (x11.points.set ((0:Int).toNat) x19.2))))))
            (cond (x13.2 == 3)
              ((need (fitsB 8 (x11.events.length+(([1]:List Int)).length))).bind fun u23 =>
              some ((L1Cur.mk x13.1.code x13.1.at' x13.1.seed),(Season.mk x7.best (x7.lines.set x9.2.toNat (Line.mk x11.skater (x11.events++([1]:List Int)) x11.points)))))
              (cond (x13.2 == 4)
                ((getI (x7.lines.set x9.2.toNat (Line.mk x11.skater [] x11.points)) x9.2).bind fun x25 =>
                some ((L1Cur.mk x13.1.code x13.1.at' x13.1.seed),(Season.mk x7.best ((x7.lines.set x9.2.toNat (Line.mk x11.skater [] x11.points)).set x9.2.toNat (Line.mk x25.skater x25.events [])))))
                (cond (x13.2 == 5)
                  ((need (fitsB 56 (x7.lines.length+([(Line.mk 5 [] [])]).length))).bind fun u27 =>
                  some ((L1Cur.mk x13.1.code x13.1.at' x13.1.seed),(Season.mk x7.best (x7.lines++[(Line.mk 5 [] [])]))))
                  (some ((L1Cur.mk x13.1.code x13.1.at' x13.1.seed),x7))))))))
      (some ((L1Cur.mk x3.1.code x3.1.at' x3.1.seed),x7)))
    (some ((L1Cur.mk x3.1.code x3.1.at' x3.1.seed),(Season.mk x3.2 [])))
theorem spec_l1Cur_season_ok (fuel:Nat) (c:L1Cur) (r:(L1Cur × Season)) (hH:spec_l1Cur_season_p fuel c=some r):SpecM Tryz.prog 90 [.pw (encL1Cur c)] [.pw (encL1Cur r.1)] (.g (encSeasonO r.2)):=by
 refine fn_okM T Tryz.func90 rfl (by decide) rfl rfl ?_
 intro L
 show AW _ _ _ (⟨[(0,.p 1 0)],[(1,.box [.s (List.map encInt_u8 c.code),c.at',.v (.int .u64 c.seed)])],84,[(1,L 1)]⟩:St)
 refine AW.seq (AW.region (AO.step rfl (alloc_ok T rfl 2 rfl rfl rfl rfl rfl) ?_))
 refine AO.nil (AW.seq ?_)
 obtain ⟨x1,hx2,hH⟩:=bindE hH
 refine AW.region (AO.pu T ?_)
 refine AO.step rfl (callM_ok rfl 3 rfl rfl (es:=[.pw (encL1Cur c)]) (outs:=[.pw (encL1Cur x1.1)]) (ids:=[1]) (by exact expLG_cons (.c (.box rfl rfl)) (expLG_nil)) (by decide) (.inl (by rfl)) (by rfl) (spec_l1Cur_entries_ok fuel _ _ (hx2)) rfl (by rfl) rfl) ?_
 refine AO.pu T ?_
 refine AO.nil (AW.seq ?_)
 obtain ⟨x3,hx4,hH⟩:=bindE hH
 refine AW.region (AO.pu T ?_)
 refine AO.step rfl (mk_map_ok T rfl 4 rfl rfl rfl rfl rfl (f:=encInt) (l:=([1,2,3,9]:List Int)) rfl rfl (fun _=>rfl) rfl rfl rfl rfl rfl) ?_
 refine AO.le (Le.freezeM 4 (g:=encInt) rfl (fun y=>.vs rfl)) ?_
 refine AO.step rfl (callM_ok rfl 5 rfl rfl (es:=[.pw (encL1Cur (L1Cur.mk x1.1.code x1.1.at' x1.1.seed)),.s (([1,2,3,9]:List Int).map encInt)]) (outs:=[.pw (encL1Cur x3.1),.u]) (ids:=[1]) (by exact expLG_cons (.c (.box rfl rfl)) (expLG_cons (.c .s) (expLG_nil))) (by decide) (.inl (by rfl)) (by rfl) (spec_l1Cur_among_ok _ _ _ (hx4)) rfl (by rfl) rfl) ?_
 refine AO.pu T (d:=.g [x3.2,.w 0 []]) ?_
 refine AO.step rfl (alloc_ok T rfl 5 rfl rfl rfl rfl rfl) ?_
 refine AO.se T [x3.2,.w 0 []] ?_
 refine AO.nil ?_
 iterate 2 refine AW.seq ?_
 obtain ⟨x5,hx6,hH⟩:=bindE hH
 refine AW.region (AO.pu T ?_)
 refine AO.val rfl rfl (callLV_ok rfl rfl rfl (es:=[.s (List.map encEntry x1.2)]) ⟨(.rowR rfl (.map fun y=>.vs rfl)),trivial⟩ (spec_seEntries_ok _ _ (hx6)) (zfree_v _) rfl) ?_
 refine AO.nil (AW.cond (b:=x5) rfl (fun hc=>?_) (fun hc=>?_))
 replace hH:=condT hc hH
 obtain ⟨x7,hx8,hH⟩:=bindE hH
 refine AW.region ?_
 iterate 3 refine AO.pu T ?_
 refine AO.step rfl (callL_ok rfl 6 rfl rfl (es:=[x3.2,.s (List.map encEntry x1.2)]) (by exact ⟨.free rfl,(.rowR rfl (.map fun y=>.vs rfl)),trivial⟩) (spec_seOf_ok fuel _ _ _ (hx8)) (zfree_g (zfl (.cons (zfree_v _) (.cons (zfree_map (fun y=>(.cons (zfree_v _) (.cons (zfree_map (fun y=>(.cons (zfree_v _) .nil))) (.cons (zfree_map (fun y=>(.cons (zfree_v _) .nil))) .nil))))) .nil)))) rfl rfl rfl) ?_
 refine AO.se T [x7.best,.R 6] ?_
 refine AO.nil ?_
 iterate 2 refine AW.seq ?_
 refine AW.region ?_
 iterate 2 refine AO.pu T ?_
 refine AO.val rfl rfl (len_row_ok T rfl rfl rfl rfl) ?_
 refine AO.pu T ?_
 refine AO.nil (AW.cond (b:=decide ((x7.lines.length:Int) > 0)) rfl (fun hc=>?_) (fun hc=>?_))
 replace hH:=condT hc hH
 refine AW.seq ?_
 obtain ⟨x9,hx10,hH⟩:=bindE hH
 obtain ⟨x11,hx12,hH⟩:=bindE hH
 refine AW.drawn 7 7 [1] mix (by kernel_rfl) rfl ?_
 iterate 5 refine AD.pure T rfl rfl rfl ?_
 refine AD.val rfl rfl (len_row_ok T rfl rfl rfl rfl) ?_
 refine AD.k rfl rfl (FStep.callM rfl rfl rfl rfl (es:=[.pw (encL1Cur (L1Cur.mk x3.1.code x3.1.at' x3.1.seed)),.v (.int .i64 (x7.lines.length:Int))]) (outs:=[.pw (encL1Cur x9.1),.u]) (ids:=[1]) (by exact expLG_cons (.c (.box rfl rfl)) (expLG_cons (.c .v) (expLG_nil))) (by decide) (.inl (by rfl)) (by rfl) (spec_l1Cur_pick_ok _ _ _ (hx10)) rfl (by rfl) rfl) rfl rfl rfl ?_
 refine AD.nil (AO.val rfl rfl (ix_row_ok T rfl rfl rfl rfl rfl rfl (hx12)) ?_)
 refine AO.pu T ?_
 refine AO.nil (AW.le (Le.ct 0 0 (σ':=(⟨[(0,.p 1 0),(2,.p 2 0),(4,.p 5 0),(5,.e 6 x9.2.toNat 0)],[(1,.box [.s (List.map encInt_u8 x9.1.code),x9.1.at',.v (.int .u64 x9.1.seed)]),(2,.box [(0:Int),.w 0 []]),(5,.box [x7.best,.R 6]),(6,.row 3 (List.map encLineO x7.lines))],84,[(1,L 1)]⟩:St)) (hpin:=⟨⟨rfl,rfl⟩,trivial⟩)) ?_)
 refine AW.seq ?_
 obtain ⟨x13,hx14,hH⟩:=bindE hH
 refine AW.region (AO.pu T ?_)
 refine AO.step rfl (callM_ok rfl 7 rfl rfl (es:=[.pw (encL1Cur (L1Cur.mk x9.1.code x9.1.at' x9.1.seed)),.v (.int .i64 36)]) (outs:=[.pw (encL1Cur x13.1),.u]) (ids:=[1]) (by exact expLG_cons (.c (.box rfl rfl)) (expLG_cons (.c .v) (expLG_nil))) (by decide) (.inl (by rfl)) (by rfl) (spec_l1Cur_pick_ok _ _ _ (hx14)) rfl (by rfl) rfl) ?_
 refine AO.nil (AW.block ?_)
 refine AW.seq (AW.region ?_)
 iterate 2 refine AO.pu T ?_
 refine AO.nil (AW.cond (b:=(x13.2 == 0)) rfl (fun hc=>?_) (fun hc=>?_))
 replace hH:=condT hc hH
 obtain ⟨x15,hx16,hH⟩:=bindE hH
 refine AW.region (AO.pu T ?_)
 refine AO.step rfl (mk_map_ok T rfl 7 rfl rfl rfl rfl rfl (f:=encInt) (l:=([0,10]:List Int)) rfl rfl (fun _=>rfl) rfl rfl rfl rfl rfl) ?_
 refine AO.le (Le.freezeM 7 (g:=encInt) rfl (fun y=>.vs rfl)) ?_
 refine AO.step rfl (callM_ok rfl 8 rfl rfl (es:=[.pw (encL1Cur (L1Cur.mk x13.1.code x13.1.at' x13.1.seed)),.s (([0,10]:List Int).map encInt)]) (outs:=[.pw (encL1Cur x15.1),.u]) (ids:=[1]) (by exact expLG_cons (.c (.box rfl rfl)) (expLG_cons (.c .s) (expLG_nil))) (by decide) (.inl (by rfl)) (by rfl) (spec_l1Cur_among_ok _ _ _ (hx16)) rfl (by rfl) rfl) ?_
 refine AO.pu T ?_
 refine AO.se T [x15.2,.R 6] ?_
 refine AO.nil (AW.seq (AW.region ?_))
 refine AO.pu T (d:=.g [x15.2,.R 6]) ?_
 refine AO.se T [x15.2,.R 6] ?_
 refine AO.nil (AW.ret ?_)
 have hR:=someE hH;subst hR
 exact ⟨trivial,rfl,_,[6],[1],rfl,expLG_cons (.c (.box rfl rfl)) (expLG_nil),.c (.g (expLC_cons .v (expLC_cons (.rowR rfl) (expLC_nil)))),by decide⟩
 replace hH:=condF hc hH
 refine AW.seq (AW.region ?_)
 iterate 2 refine AO.pu T ?_
 refine AO.nil (AW.cond (b:=(x13.2 == 1)) rfl (fun hc=>?_) (fun hc=>?_))
 replace hH:=condT hc hH
 obtain ⟨x17,hx18,hH⟩:=bindE hH
 refine AW.region ?_
 iterate 2 refine AO.pu T ?_
 refine AO.step rfl (mk_map_ok T rfl 8 rfl rfl rfl rfl rfl (f:=encInt) (l:=([0,1,999,1000]:List Int)) rfl rfl (fun _=>rfl) rfl rfl rfl rfl rfl) ?_
 refine AO.le (Le.freezeM 8 (g:=encInt) rfl (fun y=>.vs rfl)) ?_
 refine AO.step rfl (callM_ok rfl 9 rfl rfl (es:=[.pw (encL1Cur (L1Cur.mk x13.1.code x13.1.at' x13.1.seed)),.s (([0,1,999,1000]:List Int).map encInt)]) (outs:=[.pw (encL1Cur x17.1),.u]) (ids:=[1]) (by exact expLG_cons (.c (.box rfl rfl)) (expLG_cons (.c .s) (expLG_nil))) (by decide) (.inl (by rfl)) (by rfl) (spec_l1Cur_among_ok _ _ _ (hx18)) rfl (by rfl) rfl) ?_
 iterate 2 refine AO.pu T ?_
 refine AO.step rfl (store_row_ok T rfl rfl rfl rfl rfl (getI_get (hx12)) rfl rfl rfl rfl (u':=(Line.mk x17.2 x11.events x11.points)) rfl rfl) ?_
 refine AO.nil (AW.seq (AW.region ?_))
 refine AO.pu T (d:=.g [x7.best,.R 6]) ?_
 refine AO.se T [x7.best,.R 6] ?_
 refine AO.nil (AW.ret ?_)
 have hR:=someE hH;subst hR
 exact ⟨trivial,rfl,_,[6],[1],rfl,expLG_cons (.c (.box rfl rfl)) (expLG_nil),.c (.g (expLC_cons .v (expLC_cons (.rowR rfl) (expLC_nil)))),by decide⟩
 replace hH:=condF hc hH
 refine AW.seq (AW.region ?_)
 iterate 2 refine AO.pu T ?_
 refine AO.nil (AW.cond (b:=(x13.2 == 2)) rfl (fun hc=>?_) (fun hc=>?_))
 replace hH:=condT hc hH
 obtain ⟨x19,hx20,hH⟩:=bindE hH
 obtain ⟨x21,hx22,hH⟩:=bindE hH
 refine AW.le (Le.openM 6 x9.2.toNat 2 9 rfl (getI_get (hx12)) rfl rfl) ?_
 refine AW.drawn 7 10 [1] mix (by kernel_rfl) rfl ?_
 iterate 3 refine AD.pure T rfl rfl rfl ?_
 refine AD.val rfl rfl (load_lent_ok T rfl rfl rfl rfl rfl) ?_
 refine AD.pure T rfl rfl rfl ?_
 refine AD.val rfl rfl (mkF_ok T rfl rfl rfl rfl rfl rfl (f:=encInt) (l:=([(-1),0,100000,100001]:List Int)) rfl rfl (fun _=>rfl) rfl rfl rfl) ?_
 refine AD.k rfl rfl (FStep.callM rfl rfl rfl rfl (es:=[.pw (encL1Cur (L1Cur.mk x13.1.code x13.1.at' x13.1.seed)),.s (([(-1),0,100000,100001]:List Int).map encInt)]) (outs:=[.pw (encL1Cur x19.1),.u]) (ids:=[1]) (by exact expLG_cons (.c (.box rfl rfl)) (expLG_cons (.c .s) (expLG_nil))) (by decide) (.inl (by rfl)) (by rfl) (spec_l1Cur_among_ok _ _ _ (hx20)) rfl (by rfl) rfl) rfl rfl rfl ?_
 refine AD.nil (AO.val rfl rfl (ix_row_ok T rfl rfl rfl rfl rfl rfl (hx22)) ?_)
 refine AO.step rfl (store_row_ok T rfl rfl rfl rfl rfl (getI_get (hx22)) rfl rfl rfl rfl (u':=x19.2) rfl rfl) ?_
 refine AO.le (Le.closeM 6 x9.2.toNat 2 9 rfl rfl (getI_get (hx12)) rfl (u':=(Line.mk x11.skater x11.events (x11.points.set ((0:Int).toNat) x19.2))) rfl) ?_
 refine AO.nil (AW.seq (AW.region ?_))
 refine AO.pu T (d:=.g [x7.best,.R 6]) ?_
 refine AO.se T [x7.best,.R 6] ?_
 refine AO.nil (AW.ret ?_)
 have hR:=someE hH;subst hR
 exact ⟨trivial,rfl,_,[6],[1],rfl,expLG_cons (.c (.box rfl rfl)) (expLG_nil),.c (.g (expLC_cons .v (expLC_cons (.rowR rfl) (expLC_nil)))),by decide⟩
 replace hH:=condF hc hH
 refine AW.seq (AW.region ?_)
 iterate 2 refine AO.pu T ?_
 refine AO.nil (AW.cond (b:=(x13.2 == 3)) rfl (fun hc=>?_) (fun hc=>?_))
 replace hH:=condT hc hH
 obtain ⟨u23,hx24,hH⟩:=bindE hH
 refine AW.le (Le.openM 6 x9.2.toNat 1 10 rfl (getI_get (hx12)) rfl rfl) ?_
 refine AW.region ?_
 iterate 4 refine AO.pu T ?_
 refine AO.val rfl rfl (load_lent_ok T rfl rfl rfl rfl rfl) ?_
 refine AO.step rfl (mk_map_ok T rfl 11 rfl rfl rfl rfl rfl (f:=encInt) (l:=([1]:List Int)) rfl rfl (fun _=>rfl) rfl rfl rfl rfl rfl) ?_
 refine AO.step rfl (app_rv_map T rfl 12 rfl rfl rfl rfl rfl (by decide) rfl rfl rfl rfl (fun _=>rfl) (needT (hx24)) rfl rfl) ?_
 iterate 2 refine AO.pu T ?_
 refine AO.step rfl (store_lent_ok T (ids:=[12]) rfl rfl rfl rfl rfl rfl (getI_get (hx12)) rfl (.rowR rfl) (by decide) rfl (u':=(Line.mk x11.skater (x11.events++([1]:List Int)) x11.points)) rfl rfl) ?_
 refine AO.nil (AW.seq (AW.region ?_))
 refine AO.pu T (d:=.g [x7.best,.R 6]) ?_
 refine AO.se T [x7.best,.R 6] ?_
 refine AO.nil (AW.ret ?_)
 have hR:=someE hH;subst hR
 exact ⟨trivial,rfl,_,[6],[1],rfl,expLG_cons (.c (.box rfl rfl)) (expLG_nil),.c (.g (expLC_cons .v (expLC_cons (.rowR rfl) (expLC_nil)))),by decide⟩
 replace hH:=condF hc hH
 refine AW.seq (AW.region ?_)
 iterate 2 refine AO.pu T ?_
 refine AO.nil (AW.cond (b:=(x13.2 == 4)) rfl (fun hc=>?_) (fun hc=>?_))
 replace hH:=condT hc hH
 refine AW.seq (AW.region ?_)
 iterate 3 refine AO.pu T ?_
 refine AO.step rfl (store_rowO_ok T (ids:=[]) rfl rfl rfl rfl rfl (getI_get (hx12)) rfl (expLC_cons .nil (expLC_nil)) (by decide) rfl rfl (u':=(Line.mk x11.skater [] x11.points)) rfl rfl) ?_
 refine AO.nil ?_
 obtain ⟨x25,hx26,hH⟩:=bindE hH
 refine AW.region ?_
 iterate 3 refine AO.pu T ?_
 refine AO.step rfl (store_rowO_ok T (ids:=[]) rfl rfl rfl rfl rfl (getI_get (hx26)) rfl (expLC_cons .nil (expLC_nil)) (by decide) rfl rfl (u':=(Line.mk x25.skater x25.events [])) rfl rfl) ?_
 refine AO.nil (AW.seq (AW.region ?_))
 refine AO.pu T (d:=.g [x7.best,.R 6]) ?_
 refine AO.se T [x7.best,.R 6] ?_
 refine AO.nil (AW.ret ?_)
 have hR:=someE hH;subst hR
 exact ⟨trivial,rfl,_,[6],[1],rfl,expLG_cons (.c (.box rfl rfl)) (expLG_nil),.c (.g (expLC_cons .v (expLC_cons (.rowR rfl) (expLC_nil)))),by decide⟩
 replace hH:=condF hc hH
 refine AW.seq (AW.region ?_)
 iterate 2 refine AO.pu T ?_
 refine AO.nil (AW.cond (b:=(x13.2 == 5)) rfl (fun hc=>?_) (fun hc=>?_))
 replace hH:=condT hc hH
 obtain ⟨u27,hx28,hH⟩:=bindE hH
 refine AW.region ?_
 iterate 2 refine AO.pu T ?_
 refine AO.pu T (d:=.g [(5:Int),.w 0 [],.w 0 []]) ?_
 refine AO.step rfl (mk_o_ok T rfl 13 rfl rfl rfl rfl rfl rfl (f:=encLineO) (l:=[(Line.mk 5 [] [])]) (ids:=[]) rfl rfl (fun _=>rfl) (by exact expLC_cons .v (expLC_cons .nil (expLC_cons .nil (expLC_nil)))) (by decide) rfl rfl rfl rfl rfl) ?_
 refine AO.step rfl (app_rr_map T rfl 14 rfl rfl rfl rfl rfl (by decide) rfl rfl rfl rfl rfl (needT (hx28)) rfl rfl) ?_
 refine AO.pu T ?_
 refine AO.se T [x7.best,.R 14] ?_
 refine AO.nil (AW.seq (AW.region ?_))
 refine AO.pu T (d:=.g [x7.best,.R 14]) ?_
 refine AO.se T [x7.best,.R 14] ?_
 refine AO.nil (AW.ret ?_)
 have hR:=someE hH;subst hR
 exact ⟨trivial,rfl,_,[14],[1],rfl,expLG_cons (.c (.box rfl rfl)) (expLG_nil),.c (.g (expLC_cons .v (expLC_cons (.rowR rfl) (expLC_nil)))),by decide⟩
 replace hH:=condF hc hH
 refine AW.skip (AW.seq (AW.region ?_))
 refine AO.pu T (d:=.g [x7.best,.R 6]) ?_
 refine AO.se T [x7.best,.R 6] ?_
 refine AO.nil (AW.ret ?_)
 have hR:=someE hH;subst hR
 exact ⟨trivial,rfl,_,[6],[1],rfl,expLG_cons (.c (.box rfl rfl)) (expLG_nil),.c (.g (expLC_cons .v (expLC_cons (.rowR rfl) (expLC_nil)))),by decide⟩
 replace hH:=condF hc hH
 refine AW.skip (AW.seq (AW.region ?_))
 refine AO.pu T (d:=.g [x7.best,.R 6]) ?_
 refine AO.se T [x7.best,.R 6] ?_
 refine AO.nil (AW.ret ?_)
 have hR:=someE hH;subst hR
 exact ⟨trivial,rfl,_,[6],[1],rfl,expLG_cons (.c (.box rfl rfl)) (expLG_nil),.c (.g (expLC_cons .v (expLC_cons (.rowR rfl) (expLC_nil)))),by decide⟩
 replace hH:=condF hc hH
 refine AW.skip ?_
 iterate 2 refine AW.seq ?_
 refine AW.region ?_
 iterate 4 refine AO.pu T ?_
 refine AO.nil (AW.condF' (b:=decide ((0:Int) > 0)) rfl (by decide) ?_)
 refine AW.skip (AW.seq (AW.region ?_))
 refine AO.pu T (d:=.g [x3.2,.w 0 []]) ?_
 refine AO.se T [x3.2,.w 0 []] ?_
 refine AO.nil (AW.ret ?_)
 have hR:=someE hH;subst hR
 exact ⟨trivial,rfl,_,[],[1],rfl,expLG_cons (.c (.box rfl rfl)) (expLG_nil),.c (.g (expLC_cons .v (expLC_cons .nil (expLC_nil)))),by decide⟩

def spec_l1Cur_world_l2 (x63:(L1Cur × Int)):Nat→List Season→List Int→Option ((L1Cur × World))
  | 0,_,_=>none
  | k65+1,v84,v85 =>
    cond (decide ((v84.length:Int) < (w64 (3+x63.2))))
      ((getI v84 0).bind fun x87 =>
      (need (fitsB 32 (v84.length+([x87]).length))).bind fun u89 =>
      (getI v85 (w64 ((v85.length:Int) - 1))).bind fun x91 =>
      (need (fitsB 8 (v85.length+([x91]).length))).bind fun u93 =>
      spec_l1Cur_world_l2 x63 k65 (v84++[x87]) (v85++[x91]))
      (some ((L1Cur.mk x63.1.code x63.1.at' x63.1.seed),(World.mk v84 v85)))
def spec_l1Cur_world_l1 (fuel:Nat):Nat→List Int→Int→Int→List Season→List Int→Int→Int→Option ((L1Cur × World))
  | 0,_,_,_,_,_,_,_=>none
  | k3+1,v35,v36,v37,v38,v39,v40,v41 =>
    cond (decide (v41 > 0))
      ((spec_l1Cur_season_p fuel (L1Cur.mk v35 v36 v37)).bind fun x43 =>
      (need (fitsB 32 (v38.length+([(Season.mk x43.2.best x43.2.lines)]).length))).bind fun u45 =>
      (need (fitsB 8 (v39.length+([v40]).length))).bind fun u47 =>
      (need (2 != 0)).bind fun u49 =>
      (need (10 != 0)).bind fun u51 =>
      (spec_l1Cur_among_p (L1Cur.mk x43.1.code x43.1.at' x43.1.seed) [v40,w64 (v40.tdiv 2),w64 ((w64 (v40 * 7)).tdiv 10)]).bind fun x53 =>
      spec_l1Cur_world_l1 fuel k3 x53.1.code x53.1.at' x53.1.seed (v38++[(Season.mk x43.2.best x43.2.lines)]) (v39++[v40]) x53.2 (w64 (v41 - 1)))
      ((spec_l1Cur_pick_p (L1Cur.mk v35 v36 v37) 30).bind fun x55 =>
      cond (x55.2 == 0)
        ((spec_l1Cur_among_p (L1Cur.mk x55.1.code x55.1.at' x55.1.seed) ([(-1),0,100,101]:List Int)).bind fun x57 =>
        (getI v39 0).bind fun x59 =>
        some ((L1Cur.mk x57.1.code x57.1.at' x57.1.seed),(World.mk v38 (v39.set ((0:Int).toNat) x57.2))))
        (cond (x55.2 == 1)
          ((need (fitsB 8 (v39.length+(([0]:List Int)).length))).bind fun u61 =>
          some ((L1Cur.mk x55.1.code x55.1.at' x55.1.seed),(World.mk v38 (v39++([0]:List Int)))))
          (cond (x55.2 == 2)
            ((spec_l1Cur_pick_p (L1Cur.mk x55.1.code x55.1.at' x55.1.seed) 2).bind fun x63 =>
            spec_l1Cur_world_l2 x63 fuel v38 v39)
            (cond (x55.2 == 3)
              (some ((L1Cur.mk x55.1.code x55.1.at' x55.1.seed),(World.mk [] [])))
              (some ((L1Cur.mk x55.1.code x55.1.at' x55.1.seed),(World.mk v38 v39)))))))
def spec_l1Cur_world_p (fuel:Nat) (c:L1Cur):Option (L1Cur × World) :=
  (spec_l1Cur_pick_p c 3).bind fun x1 =>
  spec_l1Cur_world_l1 fuel fuel x1.1.code x1.1.at' x1.1.seed [] [] 100 (w64 (1+x1.2))
theorem spec_l1Cur_world_ok (fuel:Nat) (c:L1Cur) (r:(L1Cur × World)) (hH:spec_l1Cur_world_p fuel c=some r):SpecM Tryz.prog 54 [.pw (encL1Cur c)] [.pw (encL1Cur r.1)] (.g (encWorld r.2)):=by
 refine fn_okM T Tryz.func54 rfl (by decide) rfl rfl ?_
 intro L
 show AW _ _ _ (⟨[(0,.p 1 0)],[(1,.box [.s (List.map encInt_u8 c.code),c.at',.v (.int .u64 c.seed)])],90,[(1,L 1)]⟩:St)
 refine AW.seq (AW.region (AO.step rfl (alloc_ok T rfl 2 rfl rfl rfl rfl rfl) ?_))
 refine AO.nil (AW.seq (AW.region ?_))
 refine AO.pu T (d:=.g [.w 0 [],.w 0 []]) ?_
 refine AO.step rfl (alloc_ok T rfl 3 rfl rfl rfl rfl rfl) ?_
 refine AO.se T [.w 0 [],.w 0 []] ?_
 refine AO.nil (AW.seq (AW.region ?_))
 refine AO.pu T ?_
 refine AO.nil ?_
 iterate 2 refine AW.seq ?_
 obtain ⟨x1,hx2,hH⟩:=bindE hH
 refine AW.region (AO.pu T ?_)
 refine AO.step rfl (callM_ok rfl 4 rfl rfl (es:=[.pw (encL1Cur c),.v (.int .i64 3)]) (outs:=[.pw (encL1Cur x1.1),.u]) (ids:=[1]) (by exact expLG_cons (.c (.box rfl rfl)) (expLG_cons (.c .v) (expLG_nil))) (by decide) (.inl (by rfl)) (by rfl) (spec_l1Cur_pick_ok _ _ _ (hx2)) rfl (by rfl) rfl) ?_
 refine AO.val rfl rfl (arw_ok rfl rfl rfl rfl) ?_
 refine AO.pu T ?_
 refine AO.nil (AW.block ?_)
 refine AW.loopS (fun s:Nat × (List Int) × Int × Int × (List Season) × (List Int) × Int × Int=>(⟨[(0,.p 1 0),(2,.p 2 0),(3,.p 3 0),(4,s.2.2.2.2.2.2.1),(5,s.2.2.2.2.2.2.2)],[(1,.box [.s (List.map encInt_u8 s.2.1),s.2.2.1,.v (.int .u64 s.2.2.2.1)]),(2,.box [.w 0 [],.w 0 []]),(3,.box [.R 12,.R 14]),(12,.row 2 (List.map encSeasonO s.2.2.2.2.1)),(14,.row 1 (List.map encInt s.2.2.2.2.2.1))],90,[(1,L 1)]⟩:St)) (fun s=>spec_l1Cur_world_l1 fuel s.1 s.2.1 s.2.2.1 s.2.2.2.1 s.2.2.2.2.1 s.2.2.2.2.2.1 s.2.2.2.2.2.2.1 s.2.2.2.2.2.2.2=some r) (fun s=>s.1) (fuel,x1.1.code,x1.1.at',x1.1.seed,[],[],100,w64 (1+x1.2)) hH ?_ ?_
 refine Le.trans (Le.voidBox 3 0 12 2 rfl rfl rfl rfl) ?_
 refine Le.trans (Le.voidBox 3 1 14 1 rfl rfl rfl rfl) ?_
 exact Le.ct 0 0 (hpin:=⟨⟨rfl,rfl⟩,trivial⟩)
 rintro ⟨k3,v35,v36,v37,v38,v39,v40,v41⟩ hH
 replace hH:spec_l1Cur_world_l1 fuel k3 v35 v36 v37 v38 v39 v40 v41=some r:=hH
 try dsimp only
 rcases k3 with _ | k3
 cases (show none=some _ from hH)
 rw [spec_l1Cur_world_l1] at hH
 iterate 2 refine AW.seq ?_
 refine AW.region ?_
 iterate 2 refine AO.pu T ?_
 refine AO.nil (AW.cond (b:=decide (v41 > 0)) rfl (fun hc=>?_) (fun hc=>?_))
 replace hH:=condT hc hH
 refine AW.skip (AW.seq ?_)
 refine AW.block (AW.seq ?_)
 obtain ⟨x43,hx44,hH⟩:=bindE hH
 obtain ⟨u45,hx46,hH⟩:=bindE hH
 refine AW.drawn 5 16 [1] mix (by kernel_rfl) rfl ?_
 iterate 3 refine AD.pure T rfl rfl rfl ?_
 refine AD.k rfl rfl (FStep.callM rfl rfl rfl rfl (es:=[.pw (encL1Cur (L1Cur.mk v35 v36 v37))]) (outs:=[.pw (encL1Cur x43.1)]) (ids:=[1]) (by exact expLG_cons (.c (.box rfl rfl)) (expLG_nil)) (by decide) (.inl (by rfl)) (by rfl) (spec_l1Cur_season_ok fuel _ _ (hx44)) rfl (by rfl) rfl) rfl rfl rfl ?_
 refine AD.k rfl rfl (FStep.mk_o T rfl rfl rfl rfl rfl rfl rfl rfl (f:=encSeasonO) (l:=[(Season.mk x43.2.best x43.2.lines)]) (ids:=[16]) rfl rfl (fun _=>rfl) (by exact expLC_cons .v (expLC_cons (.rowR rfl) (expLC_nil))) (by decide) rfl rfl rfl rfl) rfl rfl rfl ?_
 refine AD.nil (AO.step rfl (app_rr_map T rfl 18 rfl rfl rfl rfl rfl (by decide) rfl rfl rfl rfl rfl (needT (hx46)) rfl rfl) ?_)
 refine AO.pu T ?_
 refine AO.se T [.R 18,.R 14] ?_
 refine AO.nil (AW.seq ?_)
 obtain ⟨u47,hx48,hH⟩:=bindE hH
 refine AW.region ?_
 iterate 3 refine AO.pu T ?_
 refine AO.step rfl (mk_map_ok T rfl 19 rfl rfl rfl rfl rfl (f:=encInt) (l:=[v40]) rfl rfl (fun _=>rfl) rfl rfl rfl rfl rfl) ?_
 refine AO.step rfl (app_rv_map T rfl 20 rfl rfl rfl rfl rfl (by decide) rfl rfl rfl rfl (fun _=>rfl) (needT (hx48)) rfl rfl) ?_
 refine AO.pu T ?_
 refine AO.se T [.R 18,.R 20] ?_
 refine AO.nil ?_
 obtain ⟨u49,hx50,hH⟩:=bindE hH
 obtain ⟨u51,hx52,hH⟩:=bindE hH
 obtain ⟨x53,hx54,hH⟩:=bindE hH
 refine AW.region ?_
 iterate 3 refine AO.pu T ?_
 refine AO.val rfl rfl (quow_ok rfl rfl rfl (neZ (needT (hx50)))) ?_
 refine AO.pu T ?_
 refine AO.val rfl rfl (arw_ok rfl rfl rfl rfl) ?_
 refine AO.val rfl rfl (quow_ok rfl rfl rfl (neZ (needT (hx52)))) ?_
 refine AO.step rfl (mk_map_ok T rfl 21 rfl rfl rfl rfl rfl (f:=encInt) (l:=[v40,w64 (v40.tdiv 2),w64 ((w64 (v40 * 7)).tdiv 10)]) rfl rfl (fun _=>rfl) rfl rfl rfl rfl rfl) ?_
 refine AO.le (Le.freezeM 21 (g:=encInt) rfl (fun y=>.vs rfl)) ?_
 refine AO.step rfl (callM_ok rfl 22 rfl rfl (es:=[.pw (encL1Cur (L1Cur.mk x43.1.code x43.1.at' x43.1.seed)),.s ([v40,w64 (v40.tdiv 2),w64 ((w64 (v40 * 7)).tdiv 10)].map encInt)]) (outs:=[.pw (encL1Cur x53.1),.u]) (ids:=[1]) (by exact expLG_cons (.c (.box rfl rfl)) (expLG_cons (.c .s) (expLG_nil))) (by decide) (.inl (by rfl)) (by rfl) (spec_l1Cur_among_ok _ _ _ (hx54)) rfl (by rfl) rfl) ?_
 refine AO.pu T ?_
 refine AO.nil (AW.le (Le.ct 0 0 (σ':=(⟨[(0,.p 1 0),(2,.p 2 0),(3,.p 3 0),(4,x53.2),(5,v41)],[(1,.box [.s (List.map encInt_u8 x53.1.code),x53.1.at',.v (.int .u64 x53.1.seed)]),(2,.box [.w 0 [],.w 0 []]),(3,.box [.R 18,.R 20]),(18,.row 2 (List.map encSeasonO (v38++[(Season.mk x43.2.best x43.2.lines)]))),(20,.row 1 (List.map encInt (v39++[v40])))],90,[(1,L 1)]⟩:St)) (hpin:=⟨⟨rfl,rfl⟩,trivial⟩)) ?_)
 refine AW.region (AO.pu T ?_)
 refine AO.val rfl rfl (arw_ok rfl rfl rfl rfl) ?_
 refine AO.pu T ?_
 refine AO.nil ?_
 refine ⟨(k3,x53.1.code,x53.1.at',x53.1.seed,(v38++[(Season.mk x43.2.best x43.2.lines)]),(v39++[v40]),x53.2,w64 (v41 - 1)),hH,Nat.lt_succ_self _,?_⟩
 refine Le.trans (Le.ct 18 12 (σ':=(⟨[(0,.p 1 0),(2,.p 2 0),(3,.p 3 0),(4,x53.2),(5,w64 (v41 - 1))],[(1,.box [.s (List.map encInt_u8 x53.1.code),x53.1.at',.v (.int .u64 x53.1.seed)]),(2,.box [.w 0 [],.w 0 []]),(3,.box [.R 12,.R 20]),(12,.row 2 (List.map encSeasonO (v38++[(Season.mk x43.2.best x43.2.lines)]))),(20,.row 1 (List.map encInt (v39++[v40])))],90,[(1,L 1)]⟩:St)) (hpin:=⟨⟨rfl,rfl⟩,trivial⟩)) ?_
 exact Le.ct 20 14 (hpin:=⟨⟨rfl,rfl⟩,trivial⟩)
 replace hH:=condF hc hH
 refine AW.exit ?_
 iterate 2 refine AW.seq ?_
 obtain ⟨x55,hx56,hH⟩:=bindE hH
 refine AW.region (AO.pu T ?_)
 refine AO.step rfl (callM_ok rfl 22 rfl rfl (es:=[.pw (encL1Cur (L1Cur.mk v35 v36 v37)),.v (.int .i64 30)]) (outs:=[.pw (encL1Cur x55.1),.u]) (ids:=[1]) (by exact expLG_cons (.c (.box rfl rfl)) (expLG_cons (.c .v) (expLG_nil))) (by decide) (.inl (by rfl)) (by rfl) (spec_l1Cur_pick_ok _ _ _ (hx56)) rfl (by rfl) rfl) ?_
 refine AO.nil (AW.block ?_)
 refine AW.seq (AW.region ?_)
 iterate 2 refine AO.pu T ?_
 refine AO.nil (AW.cond (b:=(x55.2 == 0)) rfl (fun hc=>?_) (fun hc=>?_))
 replace hH:=condT hc hH
 obtain ⟨x57,hx58,hH⟩:=bindE hH
 obtain ⟨x59,hx60,hH⟩:=bindE hH
 refine AW.drawn 5 22 [1] mix (by kernel_rfl) rfl ?_
 iterate 3 refine AD.pure T rfl rfl rfl ?_
 refine AD.val rfl rfl (mkF_ok T rfl rfl rfl rfl rfl rfl (f:=encInt) (l:=([(-1),0,100,101]:List Int)) rfl rfl (fun _=>rfl) rfl rfl rfl) ?_
 refine AD.k rfl rfl (FStep.callM rfl rfl rfl rfl (es:=[.pw (encL1Cur (L1Cur.mk x55.1.code x55.1.at' x55.1.seed)),.s (([(-1),0,100,101]:List Int).map encInt)]) (outs:=[.pw (encL1Cur x57.1),.u]) (ids:=[1]) (by exact expLG_cons (.c (.box rfl rfl)) (expLG_cons (.c .s) (expLG_nil))) (by decide) (.inl (by rfl)) (by rfl) (spec_l1Cur_among_ok _ _ _ (hx58)) rfl (by rfl) rfl) rfl rfl rfl ?_
 refine AD.nil (AO.val rfl rfl (ix_row_ok T rfl rfl rfl rfl rfl rfl (hx60)) ?_)
 refine AO.step rfl (store_row_ok T rfl rfl rfl rfl rfl (getI_get (hx60)) rfl rfl rfl rfl (u':=x57.2) rfl rfl) ?_
 refine AO.nil (AW.seq (AW.region ?_))
 refine AO.pu T (d:=.g [.R 12,.R 14]) ?_
 refine AO.se T [.R 12,.R 14] ?_
 refine AO.nil (AW.le (Le.freezeM 14 (g:=encInt) rfl (fun y=>.vs rfl)) ?_)
 refine AW.le (Le.freezeM 12 (g:=encSeason) rfl (fun y=>frzSeason y)) ?_
 refine AW.ret ?_
 have hR:=someE hH;subst hR
 exact ⟨trivial,rfl,_,[],[1],rfl,expLG_cons (.c (.box rfl rfl)) (expLG_nil),.c (.g (expLC_cons .s (expLC_cons .s (expLC_nil)))),by decide⟩
 replace hH:=condF hc hH
 refine AW.seq (AW.region ?_)
 iterate 2 refine AO.pu T ?_
 refine AO.nil (AW.cond (b:=(x55.2 == 1)) rfl (fun hc=>?_) (fun hc=>?_))
 replace hH:=condT hc hH
 obtain ⟨u61,hx62,hH⟩:=bindE hH
 refine AW.region ?_
 iterate 2 refine AO.pu T ?_
 refine AO.step rfl (mk_map_ok T rfl 22 rfl rfl rfl rfl rfl (f:=encInt) (l:=([0]:List Int)) rfl rfl (fun _=>rfl) rfl rfl rfl rfl rfl) ?_
 refine AO.step rfl (app_rv_map T rfl 23 rfl rfl rfl rfl rfl (by decide) rfl rfl rfl rfl (fun _=>rfl) (needT (hx62)) rfl rfl) ?_
 refine AO.pu T ?_
 refine AO.se T [.R 12,.R 23] ?_
 refine AO.nil (AW.seq (AW.region ?_))
 refine AO.pu T (d:=.g [.R 12,.R 23]) ?_
 refine AO.se T [.R 12,.R 23] ?_
 refine AO.nil (AW.le (Le.freezeM 23 (g:=encInt) rfl (fun y=>.vs rfl)) ?_)
 refine AW.le (Le.freezeM 12 (g:=encSeason) rfl (fun y=>frzSeason y)) ?_
 refine AW.ret ?_
 have hR:=someE hH;subst hR
 exact ⟨trivial,rfl,_,[],[1],rfl,expLG_cons (.c (.box rfl rfl)) (expLG_nil),.c (.g (expLC_cons .s (expLC_cons .s (expLC_nil)))),by decide⟩
 replace hH:=condF hc hH
 refine AW.seq (AW.region ?_)
 iterate 2 refine AO.pu T ?_
 refine AO.nil (AW.cond (b:=(x55.2 == 2)) rfl (fun hc=>?_) (fun hc=>?_))
 replace hH:=condT hc hH
 refine AW.seq ?_
 obtain ⟨x63,hx64,hH⟩:=bindE hH
 refine AW.region (AO.pu T ?_)
 refine AO.step rfl (callM_ok rfl 24 rfl rfl (es:=[.pw (encL1Cur (L1Cur.mk x55.1.code x55.1.at' x55.1.seed)),.v (.int .i64 2)]) (outs:=[.pw (encL1Cur x63.1),.u]) (ids:=[1]) (by exact expLG_cons (.c (.box rfl rfl)) (expLG_cons (.c .v) (expLG_nil))) (by decide) (.inl (by rfl)) (by rfl) (spec_l1Cur_pick_ok _ _ _ (hx64)) rfl (by rfl) rfl) ?_
 refine AO.val rfl rfl (arw_ok rfl rfl rfl rfl) ?_
 refine AO.pu T ?_
 refine AO.nil (AW.block ?_)
 refine AW.loopS (fun s:Nat × (List Season) × (List Int)=>(⟨[(2,.p 2 0),(3,.p 3 0),(6,w64 (3+x63.2))],[(1,.box [.s (List.map encInt_u8 x63.1.code),x63.1.at',.v (.int .u64 x63.1.seed)]),(2,.box [.w 0 [],.w 0 []]),(3,.box [.R 12,.R 14]),(12,.row 2 (List.map encSeason s.2.1)),(14,.row 1 (List.map encInt s.2.2))],90,[(1,L 1)]⟩:St)) (fun s=>spec_l1Cur_world_l2 x63 s.1 s.2.1 s.2.2=some r) (fun s=>s.1) (fuel,v38,v39) hH ?_ ?_
 refine Le.trans (Le.freezeIn 12 (g:=encSeason) rfl (fun y=>frzSeason y)) ?_
 exact Le.ct 0 0 (hpin:=⟨⟨rfl,rfl⟩,trivial⟩)
 rintro ⟨k65,v84,v85⟩ hH
 replace hH:spec_l1Cur_world_l2 x63 k65 v84 v85=some r:=hH
 try dsimp only
 rcases k65 with _ | k65
 cases (show none=some _ from hH)
 rw [spec_l1Cur_world_l2] at hH
 iterate 2 refine AW.seq ?_
 refine AW.region ?_
 iterate 2 refine AO.pu T ?_
 refine AO.val rfl rfl (len_row_ok T rfl rfl rfl rfl) ?_
 iterate 2 refine AO.pu T ?_
 refine AO.nil (AW.cond (b:=decide ((v84.length:Int) < (w64 (3+x63.2)))) rfl (fun hc=>?_) (fun hc=>?_))
 replace hH:=condT hc hH
 refine AW.skip (AW.block ?_)
 refine AW.seq ?_
 obtain ⟨x87,hx88,hH⟩:=bindE hH
 obtain ⟨u89,hx90,hH⟩:=bindE hH
 refine AW.drawn 7 32 [] mix (by kernel_rfl) rfl ?_
 iterate 4 refine AD.pure T rfl rfl rfl ?_
 refine AD.val rfl rfl (ix_row_ok T rfl rfl rfl rfl rfl rfl (hx88)) ?_
 refine AD.val rfl rfl (load_row_ok T rfl rfl rfl rfl (getI_get (hx88)) rfl rfl rfl) ?_
 refine AD.q (FStep.mk T (f:=encSeason) (l:=[x87]) rfl rfl rfl rfl rfl rfl rfl rfl rfl (fun _=>rfl) rfl rfl rfl rfl) (by simp [namesIn]) (Nat.le_succ _) rfl ?_
 refine AD.nil (AO.step rfl (app_rv_map T rfl 33 rfl rfl rfl rfl rfl (by decide) rfl rfl rfl rfl (fun _=>rfl) (needT (hx90)) rfl rfl) ?_)
 refine AO.pu T ?_
 refine AO.se T [.R 33,.R 14] ?_
 refine AO.nil ?_
 obtain ⟨x91,hx92,hH⟩:=bindE hH
 obtain ⟨u93,hx94,hH⟩:=bindE hH
 refine AW.drawn 11 34 [] mix (by kernel_rfl) rfl ?_
 iterate 6 refine AD.pure T rfl rfl rfl ?_
 refine AD.val rfl rfl (len_row_ok T rfl rfl rfl rfl) ?_
 refine AD.val rfl rfl (arw_ok rfl rfl rfl rfl) ?_
 refine AD.val rfl rfl (ix_row_ok T rfl rfl rfl rfl rfl rfl (hx92)) ?_
 refine AD.val rfl rfl (load_row_ok T rfl rfl rfl rfl (getI_get (hx92)) rfl rfl rfl) ?_
 refine AD.q (FStep.mk T (f:=encInt) (l:=[x91]) rfl rfl rfl rfl rfl rfl rfl rfl rfl (fun _=>rfl) rfl rfl rfl rfl) (by simp [namesIn]) (Nat.le_succ _) rfl ?_
 refine AD.nil (AO.step rfl (app_rv_map T rfl 35 rfl rfl rfl rfl rfl (by decide) rfl rfl rfl rfl (fun _=>rfl) (needT (hx94)) rfl rfl) ?_)
 refine AO.pu T ?_
 refine AO.se T [.R 33,.R 35] ?_
 refine AO.nil ?_
 refine ⟨(k65,(v84++[x87]),(v85++[x91])),hH,Nat.lt_succ_self _,?_⟩
 refine Le.trans (Le.ct 33 12 (σ':=(⟨[(2,.p 2 0),(3,.p 3 0),(6,w64 (3+x63.2))],[(1,.box [.s (List.map encInt_u8 x63.1.code),x63.1.at',.v (.int .u64 x63.1.seed)]),(2,.box [.w 0 [],.w 0 []]),(3,.box [.R 12,.R 35]),(12,.row 2 (List.map encSeason (v84++[x87]))),(35,.row 1 (List.map encInt (v85++[x91])))],90,[(1,L 1)]⟩:St)) (hpin:=⟨⟨rfl,rfl⟩,trivial⟩)) ?_
 exact Le.ct 35 14 (hpin:=⟨⟨rfl,rfl⟩,trivial⟩)
 replace hH:=condF hc hH
 refine AW.exit (AW.seq (AW.region ?_))
 refine AO.pu T (d:=.g [.R 12,.R 14]) ?_
 refine AO.se T [.R 12,.R 14] ?_
 refine AO.nil (AW.le (Le.freezeM 14 (g:=encInt) rfl (fun y=>.vs rfl)) ?_)
 refine AW.le (Le.freezeM 12 (g:=encSeason) rfl (fun y=>.vs rfl)) ?_
 refine AW.ret ?_
 have hR:=someE hH;subst hR
 exact ⟨trivial,rfl,_,[],[1],rfl,expLG_cons (.c (.box rfl rfl)) (expLG_nil),.c (.g (expLC_cons .s (expLC_cons .s (expLC_nil)))),by decide⟩
 replace hH:=condF hc hH
 refine AW.seq (AW.region ?_)
 iterate 2 refine AO.pu T ?_
 refine AO.nil (AW.cond (b:=(x55.2 == 3)) rfl (fun hc=>?_) (fun hc=>?_))
 replace hH:=condT hc hH
 refine AW.region (AO.pu T (d:=.g [.w 0 [],.w 0 []]) ?_)
 refine AO.se T [.w 0 [],.w 0 []] ?_
 refine AO.nil (AW.seq (AW.region ?_))
 refine AO.pu T (d:=.g [.w 0 [],.w 0 []]) ?_
 refine AO.se T [.w 0 [],.w 0 []] ?_
 refine AO.nil (AW.ret ?_)
 have hR:=someE hH;subst hR
 exact ⟨trivial,rfl,_,[],[1],rfl,expLG_cons (.c (.box rfl rfl)) (expLG_nil),.c (.g (expLC_cons .nilS (expLC_cons .nilS (expLC_nil)))),by decide⟩
 replace hH:=condF hc hH
 refine AW.skip (AW.seq (AW.region ?_))
 refine AO.pu T (d:=.g [.R 12,.R 14]) ?_
 refine AO.se T [.R 12,.R 14] ?_
 refine AO.nil (AW.le (Le.freezeM 14 (g:=encInt) rfl (fun y=>.vs rfl)) ?_)
 refine AW.le (Le.freezeM 12 (g:=encSeason) rfl (fun y=>frzSeason y)) ?_
 refine AW.ret ?_
 have hR:=someE hH;subst hR
 exact ⟨trivial,rfl,_,[],[1],rfl,expLG_cons (.c (.box rfl rfl)) (expLG_nil),.c (.g (expLC_cons .s (expLC_cons .s (expLC_nil)))),by decide⟩

def spec_DrawAddToWorld_p (fuel:Nat) (code:List Int):Option (World × Entry) :=
  (spec_l1Cur_world_p fuel (L1Cur.mk code 0 0)).bind fun x1 =>
  (spec_l1Cur_pick_p (L1Cur.mk x1.1.code x1.1.at' x1.1.seed) 8).bind fun x3 =>
  (spec_l1Cur_pick_p (L1Cur.mk x3.1.code x3.1.at' x3.1.seed) 7).bind fun x5 =>
  (spec_l1Cur_among_p (L1Cur.mk x5.1.code x5.1.at' x5.1.seed) ([0,100,400,100000,100001]:List Int)).bind fun x7 =>
  some ((World.mk x1.2.seasons x1.2.weights),(Entry.mk (w64 (1+x3.2)) (w64 (1+x5.2)) x7.2))
theorem spec_DrawAddToWorld_ok (fuel:Nat) (code:List Int) (r:(World × Entry)) (hH:spec_DrawAddToWorld_p fuel code=some r):SpecR Tryz.prog 23 [.s (List.map encInt_u8 code)] (.t [.g (encWorld r.1),.g (encEntry r.2)]):=by
 refine fn_ok T Tryz.func23 rfl (by decide) rfl ?_
 refine AW.seq (AW.region (AO.step rfl (alloc_ok T rfl 1 rfl rfl rfl rfl rfl) ?_))
 refine AO.step rfl (alloc_ok T rfl 2 rfl rfl rfl rfl rfl) ?_
 refine AO.nil (AW.seq (AW.region ?_))
 refine AO.pu T ?_
 refine AO.pu T (d:=.g [.s (List.map encInt_u8 code),(0:Int),.v (.int .u64 0)]) ?_
 refine AO.step rfl (box_ok T rfl 3 rfl rfl rfl rfl) ?_
 refine AO.pu T ?_
 refine AO.nil (AW.seq ?_)
 obtain ⟨x1,hx2,hH⟩:=bindE hH
 obtain ⟨x3,hx4,hH⟩:=bindE hH
 obtain ⟨x5,hx6,hH⟩:=bindE hH
 obtain ⟨x7,hx8,hH⟩:=bindE hH
 refine AW.region (AO.pu T ?_)
 refine AO.step rfl (callM_ok rfl 4 rfl rfl (es:=[.pw (encL1Cur (L1Cur.mk code 0 0))]) (outs:=[.pw (encL1Cur x1.1)]) (ids:=[3]) (by exact expLG_cons (.c (.box rfl rfl)) (expLG_nil)) (by decide) (.inl (by rfl)) (by rfl) (spec_l1Cur_world_ok fuel _ _ (hx2)) rfl (by rfl) rfl) ?_
 refine AO.pu T ?_
 refine AO.step rfl (callM_ok rfl 4 rfl rfl (es:=[.pw (encL1Cur (L1Cur.mk x1.1.code x1.1.at' x1.1.seed)),.v (.int .i64 8)]) (outs:=[.pw (encL1Cur x3.1),.u]) (ids:=[3]) (by exact expLG_cons (.c (.box rfl rfl)) (expLG_cons (.c .v) (expLG_nil))) (by decide) (.inl (by rfl)) (by rfl) (spec_l1Cur_pick_ok _ _ _ (hx4)) rfl (by rfl) rfl) ?_
 refine AO.val rfl rfl (arw_ok rfl rfl rfl rfl) ?_
 refine AO.pu T ?_
 refine AO.step rfl (callM_ok rfl 4 rfl rfl (es:=[.pw (encL1Cur (L1Cur.mk x3.1.code x3.1.at' x3.1.seed)),.v (.int .i64 7)]) (outs:=[.pw (encL1Cur x5.1),.u]) (ids:=[3]) (by exact expLG_cons (.c (.box rfl rfl)) (expLG_cons (.c .v) (expLG_nil))) (by decide) (.inl (by rfl)) (by rfl) (spec_l1Cur_pick_ok _ _ _ (hx6)) rfl (by rfl) rfl) ?_
 refine AO.val rfl rfl (arw_ok rfl rfl rfl rfl) ?_
 refine AO.pu T ?_
 refine AO.step rfl (mk_map_ok T rfl 4 rfl rfl rfl rfl rfl (f:=encInt) (l:=([0,100,400,100000,100001]:List Int)) rfl rfl (fun _=>rfl) rfl rfl rfl rfl rfl) ?_
 refine AO.le (Le.freezeM 4 (g:=encInt) rfl (fun y=>.vs rfl)) ?_
 refine AO.step rfl (callM_ok rfl 5 rfl rfl (es:=[.pw (encL1Cur (L1Cur.mk x5.1.code x5.1.at' x5.1.seed)),.s (([0,100,400,100000,100001]:List Int).map encInt)]) (outs:=[.pw (encL1Cur x7.1),.u]) (ids:=[3]) (by exact expLG_cons (.c (.box rfl rfl)) (expLG_cons (.c .s) (expLG_nil))) (by decide) (.inl (by rfl)) (by rfl) (spec_l1Cur_among_ok _ _ _ (hx8)) rfl (by rfl) rfl) ?_
 refine AO.pu T (d:=.g [w64 (1+x3.2),w64 (1+x5.2),x7.2]) ?_
 refine AO.se T [.s (List.map encSeason x1.2.seasons),.s (List.map encInt x1.2.weights)] ?_
 refine AO.se T [w64 (1+x3.2),w64 (1+x5.2),x7.2] ?_
 refine AO.nil (AW.ret ?_)
 have hR:=someE hH;subst hR
 exact retQ.i [] rfl (.t (expLG_cons (.g (expLC_cons .s (expLC_cons .s (expLC_nil)))) (expLG_cons (.g (expLC_cons .v (expLC_cons .v (expLC_cons .v (expLC_nil))))) (expLG_nil))))

def impl_within_p (n:Int) (low:Int) (high:Int):Option Bool :=
  some (decide (n ≥ low) && decide (n ≤ high))
theorem impl_within_ok (n:Int) (low:Int) (high:Int) (r:Bool) (hH:impl_within_p n low high=some r):SpecR Tryz.prog 43 [n,low,high] (.v (.bool r)):=by
 refine fn_ok T Tryz.func43 rfl (by decide) rfl ?_
 refine AW.seq (AW.region (AO.pu T ?_))
 refine AO.nil (AW.seq (AW.region ?_))
 iterate 4 refine AO.pu T ?_
 iterate 2 refine AO.pureG T [] rfl trivial rfl rfl ?_
 refine AO.pureG T [11,12] rfl ⟨fun h=>h,fun h=>h,trivial⟩ rfl rfl ?_
 refine AO.val rfl rfl (pick_and rfl rfl rfl rfl) ?_
 refine AO.pu T ?_
 refine AO.nil (AW.ret ?_)
 have hR:=someE hH;subst hR
 exact retQ.i [] rfl (.c (.c .v))

def impl_allWithin_l1 (low:Int) (high:Int):List Int→Nat→Option Bool
  | [],k1 =>
    some true
  | y2::ys3,k1 =>
    (impl_within_p y2 low high).bind fun x12 =>
    cond (!x12)
      (some false)
      (impl_allWithin_l1 low high ys3 (k1+1))
def impl_allWithin_p (l:List Int) (low:Int) (high:Int):Option Bool :=
  impl_allWithin_l1 low high l 0
theorem impl_allWithin_ok (l:List Int) (low:Int) (high:Int) (r:Bool) (hH:impl_allWithin_p l low high=some r):SpecR Tryz.prog 44 [.s (List.map encInt l),low,high] (.v (.bool r)):=by
 refine fn_ok T Tryz.func44 rfl (by decide) rfl ?_
 refine AW.seq (AW.region (AO.pu T ?_))
 refine AO.nil ?_
 iterate 2 refine AW.seq ?_
 refine AW.region (AO.pu T ?_)
 refine AO.val rfl rfl (len_map_ok T rfl rfl rfl) ?_
 refine AO.pu T ?_
 refine AO.nil (AW.block ?_)
 refine AW.loopS (fun s:Nat=>(⟨[(1,low),(2,high),(9,.s (List.map encInt l)),(10,(l.length:Int)),(11,(s:Int))],[],21,[]⟩:St)) (fun s=>s ≤ l.length∧impl_allWithin_l1 low high (l.drop s) s=some r) (fun s=>l.length - s) 0 ⟨Nat.zero_le _,hH⟩ ?_ ?_
 exact Le.ct 0 0
 rintro k1 ⟨hk,hH⟩
 replace hH:impl_allWithin_l1 low high (l.drop k1) k1=some r:=hH
 try dsimp only
 refine AW.boundM (t:=9) (l:=l) rfl (fun hb5=>?_)
 rcases hd4:l.drop k1 with _ | ⟨y2,ys3⟩
 rw [hd4,impl_allWithin_l1] at hH
 have hlt6:=drop_ge hd4
 refine AW.seq (AW.region (AO.pu T ?_))
 refine AO.nil (AW.seq (AW.condF' (b:=decide ((k1:Int) < (l.length:Int))) rfl (rngF hlt6) ?_))
 refine AW.exit (AW.seq (AW.region ?_))
 refine AO.pu T ?_
 refine AO.nil (AW.ret ?_)
 have hR:=someE hH;subst hR
 exact retQ.i [] rfl (.c (.c .v))
 rw [hd4,impl_allWithin_l1] at hH
 have hlt6:=drop_lt hd4
 refine AW.seq (AW.region (AO.pu T ?_))
 refine AO.nil (AW.seq (AW.condT' (b:=decide ((k1:Int) < (l.length:Int))) rfl (rngT hlt6) ?_))
 refine AW.skip (AW.seq ?_)
 refine AW.block (AW.seq (AW.region ?_))
 refine AO.val rfl rfl (ix_map_ok T rfl rfl rfl rfl rfl (getI_drop hd4) rfl) ?_
 iterate 2 refine AO.pu T ?_
 refine AO.nil (AW.seq ?_)
 obtain ⟨x12,hx13,hH⟩:=bindE hH
 refine AW.region ?_
 iterate 3 refine AO.pu T ?_
 refine AO.val rfl rfl (callV_ok rfl rfl rfl rfl (impl_within_ok _ _ _ _ (hx13)) rfl) ?_
 refine AO.pu T ?_
 refine AO.nil (AW.cond (b:=(!x12)) rfl (fun hc=>?_) (fun hc=>?_))
 replace hH:=condT hc hH
 refine AW.seq (AW.region (AO.pu T ?_))
 refine AO.nil (AW.ret ?_)
 have hR:=someE hH;subst hR
 exact retQ.i [] rfl (.c (.c .v))
 replace hH:=condF hc hH
 refine AW.skip (AW.region ?_)
 refine AO.val rfl rfl (ar_ok rfl rfl rfl rfl (inI_succ hlt6 hb5)) ?_
 refine AO.pu T ?_
 refine AO.nil ?_
 refine ⟨k1+1,⟨Nat.succ_le_of_lt hlt6,(by rw [drop_succ_of hd4];exact hH)⟩,(by have:=hlt6;dsimp only;omega),?_⟩
 exact Le.ct 0 0

def impl_isBest_p (best:Int):Option Bool :=
  (impl_within_p best 1 9).bind fun x1 =>
  some x1
theorem impl_isBest_ok (best:Int) (r:Bool) (hH:impl_isBest_p best=some r):SpecR Tryz.prog 65 [best] (.v (.bool r)):=by
 refine fn_ok T Tryz.func65 rfl (by decide) rfl ?_
 refine AW.seq (AW.region (AO.pu T ?_))
 refine AO.nil (AW.seq ?_)
 obtain ⟨x1,hx2,hH⟩:=bindE hH
 refine AW.region (AO.pu T ?_)
 refine AO.val rfl rfl (callV_ok rfl rfl rfl rfl (impl_within_ok _ _ _ _ (hx2)) rfl) ?_
 refine AO.pu T ?_
 refine AO.nil (AW.ret ?_)
 have hR:=someE hH;subst hR
 exact retQ.i [] rfl (.c (.c .v))

def impl_entriesOf_l2 (y2:Line):List Int→Nat→List Entry→Option (List Entry)
  | [],k119,v134 =>
    some v134
  | y120::ys121,k119,v134 =>
    (getI y2.points (k119:Int)).bind fun x136 =>
    (need (fitsB 24 (v134.length+([(Entry.mk y120 y2.skater x136)]).length))).bind fun u138 =>
    impl_entriesOf_l2 y2 ys121 (k119+1) (v134++[(Entry.mk y120 y2.skater x136)])
def impl_entriesOf_l1:List Line→Nat→List Entry→Option ((List Entry))
  | [],k1,v94 =>
    some v94
  | y2::ys3,k1,v94 =>
    (impl_entriesOf_l2 y2 y2.events 0 v94).bind fun v116 =>
    impl_entriesOf_l1 ys3 (k1+1) v116
def impl_entriesOf_p (sA:Season):Option (List Entry) :=
  impl_entriesOf_l1 sA.lines 0 []
theorem impl_entriesOf_ok (sA:Season) (r:(List Entry)) (hH:impl_entriesOf_p sA=some r):SpecR Tryz.prog 78 [.g (encSeason sA)] (.w 3 (r.map encEntry)):=by
 refine fn_ok T Tryz.func78 rfl (by decide) rfl ?_
 refine AW.seq (AW.region (AO.step rfl (box_ok T rfl 1 rfl rfl rfl rfl) ?_))
 refine AO.pu T ?_
 refine AO.nil (AW.seq (AW.region ?_))
 refine AO.step rfl (mk0_ok T rfl rfl rfl rfl) ?_
 refine AO.pu T ?_
 refine AO.nil ?_
 iterate 2 refine AW.seq ?_
 refine AW.region ?_
 iterate 2 refine AO.pu T ?_
 refine AO.val rfl rfl (len_map_ok T rfl rfl rfl) ?_
 refine AO.pu T ?_
 refine AO.nil (AW.block ?_)
 refine AW.loopS (fun s:Nat × (List Entry)=>(⟨[(3,.R 6),(10,.s (List.map encLine sA.lines)),(11,(sA.lines.length:Int)),(12,(s.1:Int))],[(6,.row 3 (List.map encEntry s.2))],39,[]⟩:St)) (fun s=>s.1 ≤ sA.lines.length∧impl_entriesOf_l1 (sA.lines.drop s.1) s.1 s.2=some r) (fun s=>sA.lines.length - s.1) (0,[]) ⟨Nat.zero_le _,hH⟩ ?_ ?_
 refine Le.trans (Le.void 3 6 3 rfl rfl) ?_
 exact Le.ct 0 0
 rintro ⟨k1,v94⟩ ⟨hk,hH⟩
 replace hH:impl_entriesOf_l1 (sA.lines.drop k1) k1 v94=some r:=hH
 try dsimp only
 refine AW.boundM (t:=10) (l:=sA.lines) rfl (fun hb5=>?_)
 rcases hd4:sA.lines.drop k1 with _ | ⟨y2,ys3⟩
 rw [hd4,impl_entriesOf_l1] at hH
 have hlt6:=drop_ge hd4
 refine AW.seq (AW.region (AO.pu T ?_))
 refine AO.nil (AW.seq (AW.condF' (b:=decide ((k1:Int) < (sA.lines.length:Int))) rfl (rngF hlt6) ?_))
 refine AW.exit (AW.seq (AW.region ?_))
 iterate 2 refine AO.pu T ?_
 refine AO.nil (AW.ret ?_)
 have hR:=someE hH;subst hR
 exact retQ.i [6] rfl (.c (.c (.rowR rfl)))
 rw [hd4,impl_entriesOf_l1] at hH
 have hlt6:=drop_lt hd4
 refine AW.seq (AW.region (AO.pu T ?_))
 refine AO.nil (AW.seq (AW.condT' (b:=decide ((k1:Int) < (sA.lines.length:Int))) rfl (rngT hlt6) ?_))
 refine AW.skip ?_
 obtain ⟨o117,hH,hK118⟩:=bindE hH
 refine AW.seqJ (fun s:List Entry=>(⟨[(3,.R 6),(10,.s (List.map encLine sA.lines)),(11,(sA.lines.length:Int)),(12,(k1:Int))],[(6,.row 3 (List.map encEntry s))],39,[]⟩:St)) (fun s=>s=o117) ?_ ?_
 refine AW.block (AW.seq (AW.region ?_))
 refine AO.val rfl rfl (ix_map_ok T rfl rfl rfl rfl rfl (getI_drop hd4) rfl) ?_
 refine AO.pu T (d:=.g [y2.skater,.s (List.map encInt y2.events),.s (List.map encInt y2.points)]) ?_
 refine AO.step rfl (alloc_ok T rfl 37 rfl rfl rfl rfl rfl) ?_
 refine AO.se T [y2.skater,.s (List.map encInt y2.events),.s (List.map encInt y2.points)] ?_
 refine AO.nil (AW.seq (AW.region ?_))
 iterate 2 refine AO.pu T ?_
 refine AO.val rfl rfl (len_map_ok T rfl rfl rfl) ?_
 refine AO.pu T ?_
 refine AO.nil (AW.block ?_)
 refine AW.loopS (fun s:Nat × (List Entry)=>(⟨[(3,.R 6),(5,.p 37 0),(10,.s (List.map encLine sA.lines)),(11,(sA.lines.length:Int)),(12,(k1:Int)),(17,.s (List.map encInt y2.events)),(18,(y2.events.length:Int)),(19,(s.1:Int))],[(6,.row 3 (List.map encEntry s.2)),(37,.box [y2.skater,.s (List.map encInt y2.events),.s (List.map encInt y2.points)])],39,[]⟩:St)) (fun s=>s.1 ≤ y2.events.length∧impl_entriesOf_l2 y2 (y2.events.drop s.1) s.1 s.2=some o117) (fun s=>y2.events.length - s.1) (0,v94) ⟨Nat.zero_le _,hH⟩ ?_ ?_
 exact Le.ct 0 0
 rintro ⟨k119,v134⟩ ⟨hk,hH⟩
 replace hH:impl_entriesOf_l2 y2 (y2.events.drop k119) k119 v134=some o117:=hH
 try dsimp only
 refine AW.boundM (t:=17) (l:=y2.events) rfl (fun hb123=>?_)
 rcases hd122:y2.events.drop k119 with _ | ⟨y120,ys121⟩
 rw [hd122,impl_entriesOf_l2] at hH
 have hlt124:=drop_ge hd122
 refine AW.seq (AW.region (AO.pu T ?_))
 refine AO.nil (AW.seq (AW.condF' (b:=decide ((k119:Int) < (y2.events.length:Int))) rfl (rngF hlt124) ?_))
 refine AW.exit ?_
 refine ⟨_,someE hH,?_⟩
 exact Le.ct 0 0
 rw [hd122,impl_entriesOf_l2] at hH
 have hlt124:=drop_lt hd122
 refine AW.seq (AW.region (AO.pu T ?_))
 refine AO.nil (AW.seq (AW.condT' (b:=decide ((k119:Int) < (y2.events.length:Int))) rfl (rngT hlt124) ?_))
 refine AW.skip (AW.seq ?_)
 refine AW.block (AW.seq (AW.region ?_))
 refine AO.pu T ?_
 refine AO.val rfl rfl (ix_map_ok T rfl rfl rfl rfl rfl (getI_drop hd122) rfl) ?_
 iterate 3 refine AO.pu T ?_
 refine AO.nil ?_
 obtain ⟨x136,hx137,hH⟩:=bindE hH
 obtain ⟨u138,hx139,hH⟩:=bindE hH
 refine AW.drawn 11 42 [] mix (by kernel_rfl) rfl ?_
 iterate 7 refine AD.pure T rfl rfl rfl ?_
 refine AD.val rfl rfl (ix_map_ok T rfl rfl rfl rfl rfl (hx137) rfl) ?_
 refine AD.pure T rfl rfl rfl ?_
 refine AD.pure T (d:=.g [y120,y2.skater,x136]) rfl rfl rfl ?_
 refine AD.q (FStep.mk T (f:=encEntry) (l:=[(Entry.mk y120 y2.skater x136)]) rfl rfl rfl rfl rfl rfl rfl rfl rfl (fun _=>rfl) rfl rfl rfl rfl) (by simp [namesIn]) (Nat.le_succ _) rfl ?_
 refine AD.nil (AO.step rfl (app_rv_map T rfl 43 rfl rfl rfl rfl rfl (by decide) rfl rfl rfl rfl (fun _=>rfl) (needT (hx139)) rfl rfl) ?_)
 refine AO.pu T ?_
 refine AO.nil (AW.region ?_)
 refine AO.val rfl rfl (ar_ok rfl rfl rfl rfl (inI_succ hlt124 hb123)) ?_
 refine AO.pu T ?_
 refine AO.nil ?_
 refine ⟨(k119+1,(v134++[(Entry.mk y120 y2.skater x136)])),⟨Nat.succ_le_of_lt hlt124,(by rw [drop_succ_of hd122];exact hH)⟩,(by have:=hlt124;dsimp only;omega),?_⟩
 exact Le.ct 43 6
 rintro v116 hs
 subst hs
 replace hH:=hK118
 try dsimp only [flow,flowE] at hH
 try dsimp only
 refine AW.region (AO.val rfl rfl (ar_ok rfl rfl rfl rfl (inI_succ hlt6 hb5)) ?_)
 refine AO.pu T ?_
 refine AO.nil ?_
 refine ⟨(k1+1,v116),⟨Nat.succ_le_of_lt hlt6,(by rw [drop_succ_of hd4];exact hH)⟩,(by have:=hlt6;dsimp only;omega),?_⟩
 exact Le.ct 0 0

def impl_isEvent_p (event:Int):Option Bool :=
  (impl_within_p event 1 99).bind fun x1 =>
  some x1
theorem impl_isEvent_ok (event:Int) (r:Bool) (hH:impl_isEvent_p event=some r):SpecR Tryz.prog 98 [event] (.v (.bool r)):=by
 refine fn_ok T Tryz.func98 rfl (by decide) rfl ?_
 refine AW.seq (AW.region (AO.pu T ?_))
 refine AO.nil (AW.seq ?_)
 obtain ⟨x1,hx2,hH⟩:=bindE hH
 refine AW.region (AO.pu T ?_)
 refine AO.val rfl rfl (callV_ok rfl rfl rfl rfl (impl_within_ok _ _ _ _ (hx2)) rfl) ?_
 refine AO.pu T ?_
 refine AO.nil (AW.ret ?_)
 have hR:=someE hH;subst hR
 exact retQ.i [] rfl (.c (.c .v))

def impl_isSkater_p (skater:Int):Option Bool :=
  (impl_within_p skater 1 999).bind fun x1 =>
  some x1
theorem impl_isSkater_ok (skater:Int) (r:Bool) (hH:impl_isSkater_p skater=some r):SpecR Tryz.prog 46 [skater] (.v (.bool r)):=by
 refine fn_ok T Tryz.func46 rfl (by decide) rfl ?_
 refine AW.seq (AW.region (AO.pu T ?_))
 refine AO.nil (AW.seq ?_)
 obtain ⟨x1,hx2,hH⟩:=bindE hH
 refine AW.region (AO.pu T ?_)
 refine AO.val rfl rfl (callV_ok rfl rfl rfl rfl (impl_within_ok _ _ _ _ (hx2)) rfl) ?_
 refine AO.pu T ?_
 refine AO.nil (AW.ret ?_)
 have hR:=someE hH;subst hR
 exact retQ.i [] rfl (.c (.c .v))

def slices_IndexFunc_Entry_l1 (f:Entry→Option Bool):List Entry→Nat→Option Int
  | [],k1 =>
    some (-1)
  | y2::ys3,k1 =>
    (f y2).bind fun x12 =>
    cond x12
      (some (k1:Int))
      (slices_IndexFunc_Entry_l1 f ys3 (k1+1))
def slices_IndexFunc_Entry_p (sA:List Entry) (f:Entry→Option Bool):Option Int :=
  slices_IndexFunc_Entry_l1 f sA 0
theorem slices_IndexFunc_Entry_ok (sA:List Entry) (f_f:Nat) (f_c:List D) (f_k:f_c.all D.capOk=true) (f:Entry→Option Bool) (f_h:∀ (a0:Entry) (q:Bool),f a0=some q→SpecR Tryz.prog f_f ([.g (encEntry a0)]++f_c) (.v (.bool q))) (r:Int) (hH:slices_IndexFunc_Entry_p sA f=some r):SpecR Tryz.prog 114 [.s (List.map encEntry sA),.f f_f f_c] (.v (.int .i64 r)):=by
 have f_r:=cap_cfree f_k
 refine fn_ok T Tryz.func114 rfl (by decide) rfl ?_
 refine AW.seq (AW.region (AO.pu T ?_))
 refine AO.nil ?_
 iterate 2 refine AW.seq ?_
 refine AW.region (AO.pu T ?_)
 refine AO.val rfl rfl (len_map_ok T rfl rfl rfl) ?_
 refine AO.pu T ?_
 refine AO.nil (AW.block ?_)
 refine AW.loopS (fun s:Nat=>(⟨[(0,.s (List.map encEntry sA)),(1,.f f_f f_c),(7,(sA.length:Int)),(8,(s:Int))],[],19,[]⟩:St)) (fun s=>s ≤ sA.length∧slices_IndexFunc_Entry_l1 f (sA.drop s) s=some r) (fun s=>sA.length - s) 0 ⟨Nat.zero_le _,hH⟩ ?_ ?_
 exact Le.cut 0 0 rfl ⟨⟨_,rfl,rfl⟩,⟨_,rfl,ren_fF f_r⟩,⟨_,rfl,rfl⟩,⟨_,rfl,rfl⟩,trivial⟩ (by repeat' (first | exact trivial | refine ⟨⟨_,rfl,rfl⟩,?_⟩)) (andT (allC rfl (allC (known_fF f_r) (allC rfl (allC rfl allN)))) rfl)
 rintro k1 ⟨hk,hH⟩
 replace hH:slices_IndexFunc_Entry_l1 f (sA.drop k1) k1=some r:=hH
 try dsimp only
 refine AW.boundM (t:=0) (l:=sA) rfl (fun hb5=>?_)
 rcases hd4:sA.drop k1 with _ | ⟨y2,ys3⟩
 rw [hd4,slices_IndexFunc_Entry_l1] at hH
 have hlt6:=drop_ge hd4
 refine AW.seq (AW.region (AO.pu T ?_))
 refine AO.nil (AW.seq (AW.condF' (b:=decide ((k1:Int) < (sA.length:Int))) rfl (rngF hlt6) ?_))
 refine AW.exit (AW.seq (AW.region ?_))
 refine AO.pu T ?_
 refine AO.nil (AW.ret ?_)
 have hR:=someE hH;subst hR
 exact retQ.i [] rfl (.c (.c .v))
 rw [hd4,slices_IndexFunc_Entry_l1] at hH
 have hlt6:=drop_lt hd4
 refine AW.seq (AW.region (AO.pu T ?_))
 refine AO.nil (AW.seq (AW.condT' (b:=decide ((k1:Int) < (sA.length:Int))) rfl (rngT hlt6) ?_))
 refine AW.skip (AW.seq ?_)
 refine AW.block (AW.seq (AW.region ?_))
 iterate 2 refine AO.pu T ?_
 refine AO.nil (AW.seq ?_)
 obtain ⟨x12,hx13,hH⟩:=bindE hH
 refine AW.region ?_
 iterate 3 refine AO.pu T ?_
 refine AO.val rfl rfl (ix_map_ok T rfl rfl rfl rfl rfl (getI_drop hd4) rfl) ?_
 refine AO.pu T (d:=.g [y2.event,y2.skater,y2.points]) ?_
 refine AO.val rfl rfl (callV_ok rfl rfl rfl (andT rfl (free_cfree f_r)) (f_h _ _ (hx13)) rfl) ?_
 refine AO.nil (AW.cond (b:=x12) rfl (fun hc=>?_) (fun hc=>?_))
 replace hH:=condT hc hH
 refine AW.seq (AW.region ?_)
 iterate 2 refine AO.pu T ?_
 refine AO.nil (AW.ret ?_)
 have hR:=someE hH;subst hR
 exact retQ.i [] rfl (.c (.c .v))
 replace hH:=condF hc hH
 refine AW.skip (AW.region ?_)
 refine AO.val rfl rfl (ar_ok rfl rfl rfl rfl (inI_succ hlt6 hb5)) ?_
 refine AO.pu T ?_
 refine AO.nil ?_
 refine ⟨k1+1,⟨Nat.succ_le_of_lt hlt6,(by rw [drop_succ_of hd4];exact hH)⟩,(by have:=hlt6;dsimp only;omega),?_⟩
 exact Le.cut 0 0 rfl ⟨⟨_,rfl,rfl⟩,⟨_,rfl,ren_fF f_r⟩,⟨_,rfl,rfl⟩,⟨_,rfl,rfl⟩,trivial⟩ (by repeat' (first | exact trivial | refine ⟨⟨_,rfl,rfl⟩,?_⟩)) (andT (allC rfl (allC (known_fF f_r) (allC rfl (allC rfl allN)))) rfl)

def slices_ContainsFunc_Entry_p (sA:List Entry) (f:Entry→Option Bool):Option Bool :=
  (slices_IndexFunc_Entry_p sA f).bind fun x1 =>
  some (decide (x1 ≥ 0))
theorem slices_ContainsFunc_Entry_ok (sA:List Entry) (f_f:Nat) (f_c:List D) (f_k:f_c.all D.capOk=true) (f:Entry→Option Bool) (f_h:∀ (a0:Entry) (q:Bool),f a0=some q→SpecR Tryz.prog f_f ([.g (encEntry a0)]++f_c) (.v (.bool q))) (r:Bool) (hH:slices_ContainsFunc_Entry_p sA f=some r):SpecR Tryz.prog 99 [.s (List.map encEntry sA),.f f_f f_c] (.v (.bool r)):=by
 have f_r:=cap_cfree f_k
 refine fn_ok T Tryz.func99 rfl (by decide) rfl ?_
 refine AW.seq (AW.region (AO.pu T ?_))
 refine AO.nil (AW.seq ?_)
 obtain ⟨x1,hx2,hH⟩:=bindE hH
 refine AW.region ?_
 iterate 2 refine AO.pu T ?_
 refine AO.val rfl rfl (callV_ok rfl rfl rfl (andT (allC rfl (allC f_r allN)) rfl) (slices_IndexFunc_Entry_ok _ f_f f_c f_k f f_h _ (hx2)) rfl) ?_
 iterate 2 refine AO.pu T ?_
 refine AO.nil (AW.ret ?_)
 have hR:=someE hH;subst hR
 exact retQ.i [] rfl (.c (.c .v))

def impl_AreEntries_c1_p (x:Entry) (a:Entry):Option Bool :=
  some ((x.event == a.event) && (x.skater == a.skater))
theorem impl_AreEntries_c1_ok (x:Entry) (a:Entry) (r:Bool) (hH:impl_AreEntries_c1_p x a=some r):SpecR Tryz.prog 100 [.g (encEntry x),.q (encEntry a)] (.v (.bool r)):=by
 refine fn_ok T Tryz.func100 rfl (by decide) rfl ?_
 refine AW.seq (AW.region (AO.step rfl (box_ok T rfl 1 rfl rfl rfl rfl) ?_))
 refine AO.pu T ?_
 refine AO.nil (AW.seq (AW.region ?_))
 iterate 6 refine AO.pu T ?_
 refine AO.pureG T [] rfl trivial rfl rfl ?_
 refine AO.pureG T [10] rfl ⟨fun h=>h,trivial⟩ rfl rfl ?_
 refine AO.pureG T [] rfl trivial rfl rfl ?_
 refine AO.pureG T [12] rfl ⟨fun h=>h,trivial⟩ rfl rfl ?_
 refine AO.pureG T [11,13] rfl ⟨fun h=>h,fun h=>h,trivial⟩ rfl rfl ?_
 refine AO.val rfl rfl (pick_and rfl rfl rfl rfl) ?_
 refine AO.pu T ?_
 refine AO.nil (AW.ret ?_)
 have hR:=someE hH;subst hR
 exact retQ.i [] rfl (.c (.c .v))

def impl_AreEntries_l1 (l:List Entry):List Entry→Nat→Option Bool
  | [],k1 =>
    some (decide ((l.length:Int) ≤ 80))
  | y2::ys3,k1 =>
    (impl_isEvent_p y2.event).bind fun x28 =>
    (opt (!(!x28)) default (impl_isSkater_p y2.skater)).bind fun x30 =>
    (opt (!((!x28) || (!x30))) default (impl_within_p y2.points 0 100000)).bind fun x32 =>
    cond (((!x28) || (!x30)) || (!x32))
      (some false)
      ((sliceHi l (k1:Int)).bind fun x34 =>
      (slices_ContainsFunc_Entry_p x34 (fun a0=>impl_AreEntries_c1_p a0 y2)).bind fun x36 =>
      cond x36
        (some false)
        (impl_AreEntries_l1 l ys3 (k1+1)))
def impl_AreEntries_p (l:List Entry):Option Bool :=
  impl_AreEntries_l1 l l 0
theorem impl_AreEntries_ok (l:List Entry) (r:Bool) (hH:impl_AreEntries_p l=some r):SpecR Tryz.prog 79 [.s (List.map encEntry l)] (.v (.bool r)):=by
 refine fn_ok T Tryz.func79 rfl (by decide) rfl ?_
 refine AW.seq (AW.region (AO.pu T ?_))
 refine AO.nil ?_
 iterate 2 refine AW.seq ?_
 refine AW.region (AO.pu T ?_)
 refine AO.val rfl rfl (len_map_ok T rfl rfl rfl) ?_
 refine AO.pu T ?_
 refine AO.nil (AW.block ?_)
 refine AW.loopS (fun s:Nat=>(⟨[(0,.s (List.map encEntry l)),(5,.s (List.map encEntry l)),(6,(l.length:Int)),(7,(s:Int))],[],37,[]⟩:St)) (fun s=>s ≤ l.length∧impl_AreEntries_l1 l (l.drop s) s=some r) (fun s=>l.length - s) 0 ⟨Nat.zero_le _,hH⟩ ?_ ?_
 exact Le.ct 0 0
 rintro k1 ⟨hk,hH⟩
 replace hH:impl_AreEntries_l1 l (l.drop k1) k1=some r:=hH
 try dsimp only
 refine AW.boundM (t:=0) (l:=l) rfl (fun hb5=>?_)
 rcases hd4:l.drop k1 with _ | ⟨y2,ys3⟩
 rw [hd4,impl_AreEntries_l1] at hH
 have hlt6:=drop_ge hd4
 refine AW.seq (AW.region (AO.pu T ?_))
 refine AO.nil (AW.seq (AW.condF' (b:=decide ((k1:Int) < (l.length:Int))) rfl (rngF hlt6) ?_))
 refine AW.exit (AW.seq (AW.region ?_))
 refine AO.pu T ?_
 refine AO.val rfl rfl (len_map_ok T rfl rfl rfl) ?_
 iterate 2 refine AO.pu T ?_
 refine AO.nil (AW.ret ?_)
 have hR:=someE hH;subst hR
 exact retQ.i [] rfl (.c (.c .v))
 rw [hd4,impl_AreEntries_l1] at hH
 have hlt6:=drop_lt hd4
 refine AW.seq (AW.region (AO.pu T ?_))
 refine AO.nil (AW.seq (AW.condT' (b:=decide ((k1:Int) < (l.length:Int))) rfl (rngT hlt6) ?_))
 refine AW.skip (AW.seq ?_)
 refine AW.block (AW.seq (AW.region ?_))
 refine AO.pu T ?_
 refine AO.val rfl rfl (ix_map_ok T rfl rfl rfl rfl rfl (getI_drop hd4) rfl) ?_
 refine AO.pu T (d:=.g [y2.event,y2.skater,y2.points]) ?_
 refine AO.step rfl (alloc_ok T rfl 3 rfl rfl rfl rfl rfl) ?_
 refine AO.pu T ?_
 refine AO.se T [y2.event,y2.skater,y2.points] ?_
 refine AO.nil ?_
 iterate 2 refine AW.seq ?_
 obtain ⟨x28,hx29,hH⟩:=bindE hH
 obtain ⟨x30,hx31,hH⟩:=bindE hH
 obtain ⟨x32,hx33,hH⟩:=bindE hH
 refine AW.region ?_
 iterate 2 refine AO.pu T ?_
 refine AO.val rfl rfl (callV_ok rfl rfl rfl rfl (impl_isEvent_ok _ _ (hx29)) rfl) ?_
 iterate 2 refine AO.pu T ?_
 refine AO.pureG T [] rfl trivial rfl rfl ?_
 refine AO.pureG T [17] rfl ⟨fun h=>h,trivial⟩ rfl rfl ?_
 refine AO.guard [18] rfl ⟨fun h=>h,trivial⟩ (fun hg=>callV_ok rfl rfl rfl rfl (impl_isSkater_ok _ _ (optT hx31 hg)) rfl) rfl ?_
 refine AO.pureG T [19] rfl ⟨fun h=>h,trivial⟩ rfl rfl ?_
 refine AO.val rfl rfl (pick_or rfl rfl rfl rfl) ?_
 refine AO.pu T ?_
 refine AO.pureG T [] rfl trivial rfl rfl ?_
 refine AO.pureG T [23] rfl ⟨fun h=>h,trivial⟩ rfl rfl ?_
 refine AO.guard [24] rfl ⟨fun h=>h,trivial⟩ (fun hg=>callV_ok rfl rfl rfl rfl (impl_within_ok _ _ _ _ (optT hx33 hg)) rfl) rfl ?_
 refine AO.pureG T [25] rfl ⟨fun h=>h,trivial⟩ rfl rfl ?_
 refine AO.val rfl rfl (pick_or rfl rfl rfl rfl) ?_
 refine AO.nil (AW.cond (b:=(((!x28) || (!x30)) || (!x32))) rfl (fun hc=>?_) (fun hc=>?_))
 replace hH:=condT hc hH
 refine AW.seq (AW.region (AO.pu T ?_))
 refine AO.nil (AW.le (Le.ct 0 0 (σ':=(⟨[(2,.v (.bool false))],[],37,[]⟩:St))) ?_)
 refine AW.ret ?_
 have hR:=someE hH;subst hR
 exact retQ.i [] rfl (.c (.c .v))
 replace hH:=condF hc hH
 refine AW.skip (AW.seq ?_)
 obtain ⟨x34,hx35,hH⟩:=bindE hH
 obtain ⟨x36,hx37,hH⟩:=bindE hH
 refine AW.region ?_
 iterate 2 refine AO.pu T ?_
 refine AO.val rfl rfl (slice_hi_map_ok T rfl rfl rfl rfl rfl (hx35) (fun _=>rfl)) ?_
 refine AO.pu T ?_
 refine AO.val rfl rfl (callLV_ok rfl rfl rfl (es:=[.s (List.map encEntry x34),.f 100 [.q [y2.event,y2.skater,y2.points]]]) ⟨.free rfl,lend_f (LendL.cons (Lend.boxF rfl rfl) LendL.nil),trivial⟩ (slices_ContainsFunc_Entry_ok _ 100 [.q [y2.event,y2.skater,y2.points]] rfl (fun a0=>impl_AreEntries_c1_p a0 y2) (fun a0 q h=>impl_AreEntries_c1_ok a0 y2 q h) _ (hx37)) (zfree_v _) rfl) ?_
 refine AO.nil (AW.le (Le.ct 0 0 (σ':=(⟨[(0,.s (List.map encEntry l)),(5,.s (List.map encEntry l)),(6,(l.length:Int)),(7,(k1:Int)),(32,.v (.bool x36))],[],37,[]⟩:St))) ?_)
 refine AW.cond (b:=x36) rfl (fun hc=>?_) (fun hc=>?_)
 replace hH:=condT hc hH
 refine AW.seq (AW.region (AO.pu T ?_))
 refine AO.nil (AW.ret ?_)
 have hR:=someE hH;subst hR
 exact retQ.i [] rfl (.c (.c .v))
 replace hH:=condF hc hH
 refine AW.skip (AW.region ?_)
 refine AO.val rfl rfl (ar_ok rfl rfl rfl rfl (inI_succ hlt6 hb5)) ?_
 refine AO.pu T ?_
 refine AO.nil ?_
 refine ⟨k1+1,⟨Nat.succ_le_of_lt hlt6,(by rw [drop_succ_of hd4];exact hH)⟩,(by have:=hlt6;dsimp only;omega),?_⟩
 exact Le.ct 0 0

def slices_IsSortedFunc_Entry_l1 (x:List Entry) (cmp:Entry→Entry→Option Int):Nat→Int→Option Bool
  | 0,_=>none
  | k1+1,v15 =>
    cond (decide (v15 > 0))
      ((getI x v15).bind fun x17 =>
      (getI x (w64 (v15 - 1))).bind fun x19 =>
      (cmp x17 x19).bind fun x21 =>
      cond (decide (x21 < 0))
        (some false)
        (slices_IsSortedFunc_Entry_l1 x cmp k1 (w64 (v15 - 1))))
      (some true)
def slices_IsSortedFunc_Entry_p (fuel:Nat) (x:List Entry) (cmp:Entry→Entry→Option Int):Option Bool :=
  slices_IsSortedFunc_Entry_l1 x cmp fuel (w64 ((x.length:Int) - 1))
theorem slices_IsSortedFunc_Entry_ok (fuel:Nat) (x:List Entry) (cmp_f:Nat) (cmp_c:List D) (cmp_k:cmp_c.all D.capOk=true) (cmp:Entry→Entry→Option Int) (cmp_h:∀ (a0:Entry) (a1:Entry) (q:Int),cmp a0 a1=some q→SpecR Tryz.prog cmp_f ([.g (encEntry a0),.g (encEntry a1)]++cmp_c) (.v (.int .i64 q))) (r:Bool) (hH:slices_IsSortedFunc_Entry_p fuel x cmp=some r):SpecR Tryz.prog 80 [.s (List.map encEntry x),.f cmp_f cmp_c] (.v (.bool r)):=by
 have cmp_r:=cap_cfree cmp_k
 refine fn_ok T Tryz.func80 rfl (by decide) rfl ?_
 refine AW.seq (AW.region (AO.pu T ?_))
 refine AO.nil ?_
 iterate 2 refine AW.seq ?_
 refine AW.region (AO.pu T ?_)
 refine AO.val rfl rfl (len_map_ok T rfl rfl rfl) ?_
 refine AO.val rfl rfl (arw_ok rfl rfl rfl rfl) ?_
 refine AO.pu T ?_
 refine AO.nil (AW.block ?_)
 refine AW.loopS (fun s:Nat × Int=>(⟨[(0,.s (List.map encEntry x)),(1,.f cmp_f cmp_c),(5,s.2)],[],25,[]⟩:St)) (fun s=>slices_IsSortedFunc_Entry_l1 x cmp s.1 s.2=some r) (fun s=>s.1) (fuel,w64 ((x.length:Int) - 1)) hH ?_ ?_
 exact Le.cut 0 0 rfl ⟨⟨_,rfl,rfl⟩,⟨_,rfl,ren_fF cmp_r⟩,⟨_,rfl,rfl⟩,trivial⟩ (by repeat' (first | exact trivial | refine ⟨⟨_,rfl,rfl⟩,?_⟩)) (andT (allC rfl (allC (known_fF cmp_r) (allC rfl allN))) rfl)
 rintro ⟨k1,v15⟩ hH
 replace hH:slices_IsSortedFunc_Entry_l1 x cmp k1 v15=some r:=hH
 try dsimp only
 rcases k1 with _ | k1
 cases (show none=some _ from hH)
 rw [slices_IsSortedFunc_Entry_l1] at hH
 iterate 2 refine AW.seq ?_
 refine AW.region ?_
 iterate 2 refine AO.pu T ?_
 refine AO.nil (AW.cond (b:=decide (v15 > 0)) rfl (fun hc=>?_) (fun hc=>?_))
 replace hH:=condT hc hH
 refine AW.skip (AW.seq ?_)
 refine AW.block (AW.seq ?_)
 obtain ⟨x17,hx18,hH⟩:=bindE hH
 obtain ⟨x19,hx20,hH⟩:=bindE hH
 obtain ⟨x21,hx22,hH⟩:=bindE hH
 refine AW.drawn 10 1 [] mix (by kernel_rfl) rfl ?_
 iterate 3 refine AD.pure T rfl rfl rfl ?_
 refine AD.val rfl rfl (ix_map_ok T rfl rfl rfl rfl rfl (hx18) rfl) ?_
 refine AD.pure T (d:=.g [x17.event,x17.skater,x17.points]) rfl rfl rfl ?_
 iterate 2 refine AD.pure T rfl rfl rfl ?_
 refine AD.val rfl rfl (arw_ok rfl rfl rfl rfl) ?_
 refine AD.val rfl rfl (ix_map_ok T rfl rfl rfl rfl rfl (hx20) rfl) ?_
 refine AD.pure T (d:=.g [x19.event,x19.skater,x19.points]) rfl rfl rfl ?_
 refine AD.nil (AO.val rfl rfl (callV_ok rfl rfl rfl (andT rfl (free_cfree cmp_r)) (cmp_h _ _ _ (hx22)) rfl) ?_)
 refine AO.pu T ?_
 refine AO.nil (AW.cond (b:=decide (x21 < 0)) rfl (fun hc=>?_) (fun hc=>?_))
 replace hH:=condT hc hH
 refine AW.seq (AW.region (AO.pu T ?_))
 refine AO.nil (AW.ret ?_)
 have hR:=someE hH;subst hR
 exact retQ.i [] rfl (.c (.c .v))
 replace hH:=condF hc hH
 refine AW.skip (AW.region ?_)
 refine AO.pu T ?_
 refine AO.val rfl rfl (arw_ok rfl rfl rfl rfl) ?_
 refine AO.pu T ?_
 refine AO.nil ?_
 refine ⟨(k1,w64 (v15 - 1)),hH,Nat.lt_succ_self _,?_⟩
 exact Le.cut 0 0 rfl ⟨⟨_,rfl,rfl⟩,⟨_,rfl,ren_fF cmp_r⟩,⟨_,rfl,rfl⟩,trivial⟩ (by repeat' (first | exact trivial | refine ⟨⟨_,rfl,rfl⟩,?_⟩)) (andT (allC rfl (allC (known_fF cmp_r) (allC rfl allN))) rfl)
 replace hH:=condF hc hH
 refine AW.exit (AW.seq (AW.region ?_))
 refine AO.pu T ?_
 refine AO.nil (AW.ret ?_)
 have hR:=someE hH;subst hR
 exact retQ.i [] rfl (.c (.c .v))

def impl_compareEntries_p (a:Entry) (b:Entry):Option Int :=
  cond (a.skater != b.skater)
    (some (w64 (a.skater - b.skater)))
    (cond (a.points != b.points)
      (some (w64 (b.points - a.points)))
      (some (w64 (a.event - b.event))))
theorem impl_compareEntries_ok (a:Entry) (b:Entry) (r:Int) (hH:impl_compareEntries_p a b=some r):SpecR Tryz.prog 81 [.g (encEntry a),.g (encEntry b)] (.v (.int .i64 r)):=by
 refine fn_ok T Tryz.func81 rfl (by decide) rfl ?_
 refine AW.seq (AW.region (AO.step rfl (box_ok T rfl 1 rfl rfl rfl rfl) ?_))
 refine AO.step rfl (box_ok T rfl 2 rfl rfl rfl rfl) ?_
 refine AO.pu T ?_
 refine AO.nil (AW.seq (AW.block ?_))
 refine AW.seq (AW.region ?_)
 iterate 6 refine AO.pu T ?_
 refine AO.nil (AW.cond (b:=(a.skater != b.skater)) rfl (fun hc=>?_) (fun hc=>?_))
 replace hH:=condT hc hH
 refine AW.seq (AW.region ?_)
 iterate 4 refine AO.pu T ?_
 refine AO.val rfl rfl (arw_ok rfl rfl rfl rfl) ?_
 refine AO.pu T ?_
 refine AO.nil (AW.ret ?_)
 have hR:=someE hH;subst hR
 exact retQ.i [] rfl (.c (.c .v))
 replace hH:=condF hc hH
 refine AW.seq (AW.region ?_)
 iterate 6 refine AO.pu T ?_
 refine AO.nil (AW.cond (b:=(a.points != b.points)) rfl (fun hc=>?_) (fun hc=>?_))
 replace hH:=condT hc hH
 refine AW.seq (AW.region ?_)
 iterate 4 refine AO.pu T ?_
 refine AO.val rfl rfl (arw_ok rfl rfl rfl rfl) ?_
 refine AO.pu T ?_
 refine AO.nil (AW.ret ?_)
 have hR:=someE hH;subst hR
 exact retQ.i [] rfl (.c (.c .v))
 replace hH:=condF hc hH
 refine AW.skip (AW.seq (AW.region ?_))
 iterate 4 refine AO.pu T ?_
 refine AO.val rfl rfl (arw_ok rfl rfl rfl rfl) ?_
 refine AO.pu T ?_
 refine AO.nil (AW.ret ?_)
 have hR:=someE hH;subst hR
 exact retQ.i [] rfl (.c (.c .v))

def impl_IsSeason_l1 (sA:Season) (fuel:Nat):List Line→Nat→Option Bool
  | [],k3 =>
    (impl_entriesOf_p sA).bind fun x14 =>
    (impl_AreEntries_p x14).bind fun x16 =>
    (opt x16 default (slices_IsSortedFunc_Entry_p fuel x14 (fun a0 a1=>impl_compareEntries_p a0 a1 ))).bind fun x18 =>
    some (x16 && x18)
  | y4::ys5,k3 =>
    cond ((((y4.events.length:Int) == 0) || decide ((y4.events.length:Int) > 80)) || ((y4.events.length:Int) != (y4.points.length:Int)))
      (some false)
      ((opt (decide ((k3:Int) > 0)) default (getI sA.lines (w64 ((k3:Int) - 1)))).bind fun x20 =>
      cond (decide ((k3:Int) > 0) && decide (x20.skater ≥ y4.skater))
        (some false)
        (impl_IsSeason_l1 sA fuel ys5 (k3+1)))
def impl_IsSeason_p (fuel:Nat) (sA:Season):Option Bool :=
  (impl_isBest_p sA.best).bind fun x1 =>
  cond ((!x1) || decide ((sA.lines.length:Int) > 80))
    (some false)
    (impl_IsSeason_l1 sA fuel sA.lines 0)
theorem impl_IsSeason_ok (fuel:Nat) (sA:Season) (r:Bool) (hH:impl_IsSeason_p fuel sA=some r):SpecR Tryz.prog 45 [.g (encSeason sA)] (.v (.bool r)):=by
 refine fn_ok T Tryz.func45 rfl (by decide) rfl ?_
 refine AW.seq (AW.region (AO.step rfl (box_ok T rfl 1 rfl rfl rfl rfl) ?_))
 refine AO.pu T ?_
 refine AO.nil ?_
 iterate 2 refine AW.seq ?_
 obtain ⟨x1,hx2,hH⟩:=bindE hH
 refine AW.region ?_
 iterate 2 refine AO.pu T ?_
 refine AO.val rfl rfl (callV_ok rfl rfl rfl rfl (impl_isBest_ok _ _ (hx2)) rfl) ?_
 iterate 2 refine AO.pu T ?_
 refine AO.pureG T [] rfl trivial rfl rfl ?_
 refine AO.pureG T [11] rfl ⟨fun h=>h,trivial⟩ rfl rfl ?_
 refine AO.guard [12] rfl ⟨fun h=>h,trivial⟩ (fun hg=>len_map_ok T rfl rfl rfl) rfl ?_
 refine AO.pureG T [13] rfl ⟨fun h=>h,trivial⟩ rfl rfl ?_
 refine AO.val rfl rfl (pick_or rfl rfl rfl rfl) ?_
 refine AO.nil (AW.cond (b:=((!x1) || decide ((sA.lines.length:Int) > 80))) rfl (fun hc=>?_) (fun hc=>?_))
 replace hH:=condT hc hH
 refine AW.seq (AW.region (AO.pu T ?_))
 refine AO.nil (AW.ret ?_)
 have hR:=someE hH;subst hR
 exact retQ.i [] rfl (.c (.c .v))
 replace hH:=condF hc hH
 refine AW.skip ?_
 iterate 2 refine AW.seq ?_
 refine AW.region ?_
 iterate 2 refine AO.pu T ?_
 refine AO.val rfl rfl (len_map_ok T rfl rfl rfl) ?_
 refine AO.pu T ?_
 refine AO.nil (AW.block ?_)
 refine AW.loopS (fun s:Nat=>(⟨[(1,.p 1 0),(17,.s (List.map encLine sA.lines)),(18,(sA.lines.length:Int)),(19,(s:Int))],[(1,.box [sA.best,.s (List.map encLine sA.lines)])],66,[]⟩:St)) (fun s=>s ≤ sA.lines.length∧impl_IsSeason_l1 sA fuel (sA.lines.drop s) s=some r) (fun s=>sA.lines.length - s) 0 ⟨Nat.zero_le _,hH⟩ ?_ ?_
 exact Le.ct 0 0
 rintro k3 ⟨hk,hH⟩
 replace hH:impl_IsSeason_l1 sA fuel (sA.lines.drop k3) k3=some r:=hH
 try dsimp only
 refine AW.boundM (t:=17) (l:=sA.lines) rfl (fun hb7=>?_)
 rcases hd6:sA.lines.drop k3 with _ | ⟨y4,ys5⟩
 rw [hd6,impl_IsSeason_l1] at hH
 have hlt8:=drop_ge hd6
 refine AW.seq (AW.region (AO.pu T ?_))
 refine AO.nil (AW.seq (AW.condF' (b:=decide ((k3:Int) < (sA.lines.length:Int))) rfl (rngF hlt8) ?_))
 refine AW.exit (AW.seq ?_)
 obtain ⟨x14,hx15,hH⟩:=bindE hH
 refine AW.region (AO.pu T (d:=.g [sA.best,.s (List.map encLine sA.lines)]) ?_)
 refine AO.step rfl (call_ok rfl 4 rfl rfl rfl (impl_entriesOf_ok _ _ (hx15)) rfl rfl rfl) ?_
 refine AO.pu T ?_
 refine AO.nil (AW.seq ?_)
 obtain ⟨x16,hx17,hH⟩:=bindE hH
 obtain ⟨x18,hx19,hH⟩:=bindE hH
 refine AW.region (AO.pu T ?_)
 refine AO.val rfl rfl (callLV_ok rfl rfl rfl (es:=[.s (List.map encEntry x14)]) ⟨(.rowR rfl (.map fun y=>.vs rfl)),trivial⟩ (impl_AreEntries_ok _ _ (hx17)) (zfree_v _) rfl) ?_
 refine AO.pu T ?_
 refine AO.pureG T [] rfl trivial rfl rfl ?_
 refine AO.guard [63] rfl ⟨fun h=>h,trivial⟩ (fun hg=>callLV_ok rfl rfl rfl (es:=[.s (List.map encEntry x14),.f 81 []]) ⟨(.rowR rfl (.map fun y=>.vs rfl)),.free rfl,trivial⟩ (slices_IsSortedFunc_Entry_ok fuel _ 81 [] rfl (fun a0 a1=>impl_compareEntries_p a0 a1 ) (fun a0 a1 q h=>impl_compareEntries_ok a0 a1  q h) _ (optT hx19 hg)) (zfree_v _) rfl) rfl ?_
 refine AO.val rfl rfl (pick_and rfl rfl rfl rfl) ?_
 refine AO.pu T ?_
 refine AO.nil (AW.ret ?_)
 have hR:=someE hH;subst hR
 exact retQ.i [] rfl (.c (.c .v))
 rw [hd6,impl_IsSeason_l1] at hH
 have hlt8:=drop_lt hd6
 refine AW.seq (AW.region (AO.pu T ?_))
 refine AO.nil (AW.seq (AW.condT' (b:=decide ((k3:Int) < (sA.lines.length:Int))) rfl (rngT hlt8) ?_))
 refine AW.skip (AW.seq ?_)
 refine AW.block (AW.seq (AW.region ?_))
 refine AO.pu T ?_
 refine AO.val rfl rfl (ix_map_ok T rfl rfl rfl rfl rfl (getI_drop hd6) rfl) ?_
 refine AO.pu T (d:=.g [y4.skater,.s (List.map encInt y4.events),.s (List.map encInt y4.points)]) ?_
 refine AO.step rfl (alloc_ok T rfl 5 rfl rfl rfl rfl rfl) ?_
 refine AO.pu T ?_
 refine AO.se T [y4.skater,.s (List.map encInt y4.events),.s (List.map encInt y4.points)] ?_
 refine AO.nil ?_
 iterate 2 refine AW.seq ?_
 refine AW.region ?_
 iterate 2 refine AO.pu T ?_
 refine AO.val rfl rfl (len_map_ok T rfl rfl rfl) ?_
 iterate 2 refine AO.pu T ?_
 refine AO.pureG T [] rfl trivial rfl rfl ?_
 refine AO.pureG T [29] rfl ⟨fun h=>h,trivial⟩ rfl rfl ?_
 refine AO.guard [30] rfl ⟨fun h=>h,trivial⟩ (fun hg=>len_map_ok T rfl rfl rfl) rfl ?_
 refine AO.pureG T [31] rfl ⟨fun h=>h,trivial⟩ rfl rfl ?_
 refine AO.val rfl rfl (pick_or rfl rfl rfl rfl) ?_
 refine AO.pu T ?_
 refine AO.pureG T [] rfl trivial rfl rfl ?_
 refine AO.pureG T [35] rfl ⟨fun h=>h,trivial⟩ rfl rfl ?_
 refine AO.guard [36] rfl ⟨fun h=>h,trivial⟩ (fun hg=>len_map_ok T rfl rfl rfl) rfl ?_
 refine AO.pureG T [] rfl trivial rfl rfl ?_
 refine AO.pureG T [38] rfl ⟨fun h=>h,trivial⟩ rfl rfl ?_
 refine AO.guard [39] rfl ⟨fun h=>h,trivial⟩ (fun hg=>len_map_ok T rfl rfl rfl) rfl ?_
 refine AO.pureG T [37,40] rfl ⟨fun h=>h,fun h=>h,trivial⟩ rfl rfl ?_
 refine AO.val rfl rfl (pick_or rfl rfl rfl rfl) ?_
 refine AO.nil (AW.le (Le.ct 0 0 (σ':=(⟨[(1,.p 1 0),(3,(k3:Int)),(4,.p 5 0),(17,.s (List.map encLine sA.lines)),(18,(sA.lines.length:Int)),(19,(k3:Int)),(42,.v (.bool ((((y4.events.length:Int) == 0) || decide ((y4.events.length:Int) > 80)) || ((y4.events.length:Int) != (y4.points.length:Int)))))],[(1,.box [sA.best,.s (List.map encLine sA.lines)]),(5,.box [y4.skater,.s (List.map encInt y4.events),.s (List.map encInt y4.points)])],66,[]⟩:St))) ?_)
 refine AW.cond (b:=((((y4.events.length:Int) == 0) || decide ((y4.events.length:Int) > 80)) || ((y4.events.length:Int) != (y4.points.length:Int)))) rfl (fun hc=>?_) (fun hc=>?_)
 replace hH:=condT hc hH
 refine AW.seq (AW.region (AO.pu T ?_))
 refine AO.nil (AW.ret ?_)
 have hR:=someE hH;subst hR
 exact retQ.i [] rfl (.c (.c .v))
 replace hH:=condF hc hH
 refine AW.skip (AW.seq ?_)
 obtain ⟨x20,hx21,hH⟩:=bindE hH
 refine AW.drawn 12 6 [] mix (by kernel_rfl) rfl ?_
 iterate 3 refine AD.pure T rfl rfl rfl ?_
 refine AD.pureG T [] rfl trivial rfl rfl ?_
 refine AD.pureG T [46] rfl ⟨fun h=>h,trivial⟩ rfl rfl ?_
 refine AD.pureG T [] rfl trivial rfl rfl ?_
 refine AD.guard [48] rfl ⟨fun h=>h,trivial⟩ (fun hg=>arw_ok rfl rfl rfl rfl) rfl ?_
 refine AD.guard [47,49] rfl ⟨fun h=>h,fun h=>h,trivial⟩ (fun hg=>ix_map_ok T rfl rfl rfl rfl rfl (optT hx21 hg) rfl) rfl ?_
 refine AD.pureG T [50] rfl ⟨fun h=>h,trivial⟩ rfl rfl ?_
 refine AD.pureG T [51] rfl ⟨fun h=>h,trivial⟩ rfl rfl ?_
 refine AD.pureG T [] rfl trivial rfl rfl ?_
 refine AD.pureG T [53] rfl ⟨fun h=>h,trivial⟩ rfl rfl ?_
 refine AD.nil (AO.pureG T [52,54] rfl ⟨fun h=>h,fun h=>h,trivial⟩ rfl rfl ?_)
 refine AO.val rfl rfl (pick_and rfl rfl rfl rfl) ?_
 refine AO.nil (AW.cond (b:=(decide ((k3:Int) > 0) && decide (x20.skater ≥ y4.skater))) rfl (fun hc=>?_) (fun hc=>?_))
 replace hH:=condT hc hH
 refine AW.seq (AW.region (AO.pu T ?_))
 refine AO.nil (AW.ret ?_)
 have hR:=someE hH;subst hR
 exact retQ.i [] rfl (.c (.c .v))
 replace hH:=condF hc hH
 refine AW.skip (AW.region ?_)
 refine AO.val rfl rfl (ar_ok rfl rfl rfl rfl (inI_succ hlt8 hb7)) ?_
 refine AO.pu T ?_
 refine AO.nil ?_
 refine ⟨k3+1,⟨Nat.succ_le_of_lt hlt8,(by rw [drop_succ_of hd6];exact hH)⟩,(by have:=hlt8;dsimp only;omega),?_⟩
 exact Le.ct 0 0

def impl_IsWorld_l1 (w:World) (fuel:Nat):List Season→Nat→Option Bool
  | [],k5 =>
    some true
  | y6::ys7,k5 =>
    (impl_IsSeason_p fuel y6).bind fun x24 =>
    (opt ((!(!x24)) && decide ((k5:Int) > 0)) default (getI w.weights (k5:Int))).bind fun x26 =>
    (opt ((!(!x24)) && decide ((k5:Int) > 0)) default (getI w.weights (w64 ((k5:Int) - 1)))).bind fun x28 =>
    cond ((!x24) || (decide ((k5:Int) > 0) && decide (x26 > x28)))
      (some false)
      (impl_IsWorld_l1 w fuel ys7 (k5+1))
def impl_IsWorld_p (fuel:Nat) (w:World):Option Bool :=
  (impl_within_p (w.seasons.length:Int) 1 3).bind fun x1 =>
  (opt (!((!x1) || ((w.weights.length:Int) != (w.seasons.length:Int)))) default (impl_allWithin_p w.weights 0 100)).bind fun x3 =>
  cond (((!x1) || ((w.weights.length:Int) != (w.seasons.length:Int))) || (!x3))
    (some false)
    (impl_IsWorld_l1 w fuel w.seasons 0)
theorem impl_IsWorld_ok (fuel:Nat) (w:World) (r:Bool) (hH:impl_IsWorld_p fuel w=some r):SpecR Tryz.prog 10 [.g (encWorld w)] (.v (.bool r)):=by
 refine fn_ok T Tryz.func10 rfl (by decide) rfl ?_
 refine AW.seq (AW.region (AO.step rfl (box_ok T rfl 1 rfl rfl rfl rfl) ?_))
 refine AO.pu T ?_
 refine AO.nil ?_
 iterate 2 refine AW.seq ?_
 obtain ⟨x1,hx2,hH⟩:=bindE hH
 obtain ⟨x3,hx4,hH⟩:=bindE hH
 refine AW.region ?_
 iterate 2 refine AO.pu T ?_
 refine AO.val rfl rfl (len_map_ok T rfl rfl rfl) ?_
 refine AO.val rfl rfl (callV_ok rfl rfl rfl rfl (impl_within_ok _ _ _ _ (hx2)) rfl) ?_
 iterate 2 refine AO.pu T ?_
 refine AO.pureG T [] rfl trivial rfl rfl ?_
 refine AO.pureG T [11] rfl ⟨fun h=>h,trivial⟩ rfl rfl ?_
 refine AO.guard [12] rfl ⟨fun h=>h,trivial⟩ (fun hg=>len_map_ok T rfl rfl rfl) rfl ?_
 refine AO.pureG T [] rfl trivial rfl rfl ?_
 refine AO.pureG T [14] rfl ⟨fun h=>h,trivial⟩ rfl rfl ?_
 refine AO.guard [15] rfl ⟨fun h=>h,trivial⟩ (fun hg=>len_map_ok T rfl rfl rfl) rfl ?_
 refine AO.pureG T [13,16] rfl ⟨fun h=>h,fun h=>h,trivial⟩ rfl rfl ?_
 refine AO.val rfl rfl (pick_or rfl rfl rfl rfl) ?_
 refine AO.pu T ?_
 refine AO.pureG T [] rfl trivial rfl rfl ?_
 refine AO.pureG T [20] rfl ⟨fun h=>h,trivial⟩ rfl rfl ?_
 refine AO.guard [21] rfl ⟨fun h=>h,trivial⟩ (fun hg=>callV_ok rfl rfl rfl rfl (impl_allWithin_ok _ _ _ _ (optT hx4 hg)) rfl) rfl ?_
 refine AO.pureG T [22] rfl ⟨fun h=>h,trivial⟩ rfl rfl ?_
 refine AO.val rfl rfl (pick_or rfl rfl rfl rfl) ?_
 refine AO.nil (AW.cond (b:=(((!x1) || ((w.weights.length:Int) != (w.seasons.length:Int))) || (!x3))) rfl (fun hc=>?_) (fun hc=>?_))
 replace hH:=condT hc hH
 refine AW.seq (AW.region (AO.pu T ?_))
 refine AO.nil (AW.ret ?_)
 have hR:=someE hH;subst hR
 exact retQ.i [] rfl (.c (.c .v))
 replace hH:=condF hc hH
 refine AW.skip ?_
 iterate 2 refine AW.seq ?_
 refine AW.region ?_
 iterate 2 refine AO.pu T ?_
 refine AO.val rfl rfl (len_map_ok T rfl rfl rfl) ?_
 refine AO.pu T ?_
 refine AO.nil (AW.le (Le.ct 0 0 (σ':=(⟨[(1,.p 1 0),(26,.s (List.map encSeason w.seasons)),(27,(w.seasons.length:Int)),(28,(0:Int))],[(1,.box [.s (List.map encSeason w.seasons),.s (List.map encInt w.weights)])],55,[]⟩:St))) ?_)
 refine AW.block (AW.loopS (fun s:Nat=>(⟨[(1,.p 1 0),(26,.s (List.map encSeason w.seasons)),(27,(w.seasons.length:Int)),(28,(s:Int))],[(1,.box [.s (List.map encSeason w.seasons),.s (List.map encInt w.weights)])],55,[]⟩:St)) (fun s=>s ≤ w.seasons.length∧impl_IsWorld_l1 w fuel (w.seasons.drop s) s=some r) (fun s=>w.seasons.length - s) 0 ⟨Nat.zero_le _,hH⟩ ?_ ?_)
 exact Le.ct 0 0
 rintro k5 ⟨hk,hH⟩
 replace hH:impl_IsWorld_l1 w fuel (w.seasons.drop k5) k5=some r:=hH
 try dsimp only
 refine AW.boundM (t:=26) (l:=w.seasons) rfl (fun hb9=>?_)
 rcases hd8:w.seasons.drop k5 with _ | ⟨y6,ys7⟩
 rw [hd8,impl_IsWorld_l1] at hH
 have hlt10:=drop_ge hd8
 refine AW.seq (AW.region (AO.pu T ?_))
 refine AO.nil (AW.seq (AW.condF' (b:=decide ((k5:Int) < (w.seasons.length:Int))) rfl (rngF hlt10) ?_))
 refine AW.exit (AW.seq (AW.region ?_))
 refine AO.pu T ?_
 refine AO.nil (AW.ret ?_)
 have hR:=someE hH;subst hR
 exact retQ.i [] rfl (.c (.c .v))
 rw [hd8,impl_IsWorld_l1] at hH
 have hlt10:=drop_lt hd8
 refine AW.seq (AW.region (AO.pu T ?_))
 refine AO.nil (AW.seq (AW.condT' (b:=decide ((k5:Int) < (w.seasons.length:Int))) rfl (rngT hlt10) ?_))
 refine AW.skip (AW.seq ?_)
 refine AW.block (AW.seq (AW.region ?_))
 refine AO.pu T ?_
 refine AO.val rfl rfl (ix_map_ok T rfl rfl rfl rfl rfl (getI_drop hd8) rfl) ?_
 refine AO.pu T (d:=.g [y6.best,.s (List.map encLine y6.lines)]) ?_
 refine AO.step rfl (alloc_ok T rfl 4 rfl rfl rfl rfl rfl) ?_
 refine AO.pu T ?_
 refine AO.se T [y6.best,.s (List.map encLine y6.lines)] ?_
 refine AO.nil (AW.seq ?_)
 obtain ⟨x24,hx25,hH⟩:=bindE hH
 obtain ⟨x26,hx27,hH⟩:=bindE hH
 obtain ⟨x28,hx29,hH⟩:=bindE hH
 refine AW.drawn 18 5 [] mix (by kernel_rfl) rfl ?_
 refine AD.pure T (d:=.g [y6.best,.s (List.map encLine y6.lines)]) rfl rfl rfl ?_
 refine AD.val rfl rfl (callV_ok rfl rfl rfl rfl (impl_IsSeason_ok fuel _ _ (hx25)) rfl) ?_
 iterate 2 refine AD.pure T rfl rfl rfl ?_
 refine AD.pureG T [] rfl trivial rfl rfl ?_
 refine AD.pureG T [37] rfl ⟨fun h=>h,trivial⟩ rfl rfl ?_
 refine AD.pureG T [38] rfl ⟨fun h=>h,trivial⟩ rfl rfl ?_
 refine AD.pureG T [] rfl trivial rfl rfl ?_
 refine AD.pureG T [40] rfl ⟨fun h=>h,trivial⟩ rfl rfl ?_
 refine AD.pureG T [] rfl trivial rfl rfl ?_
 refine AD.guard [41,42] rfl ⟨fun h=>h,fun h=>h,trivial⟩ (fun hg=>ix_map_ok T rfl rfl rfl rfl rfl (optT hx27 hg) rfl) rfl ?_
 refine AD.pureG T [43] rfl ⟨fun h=>h,trivial⟩ rfl rfl ?_
 refine AD.pureG T [] rfl trivial rfl rfl ?_
 refine AD.pureG T [45] rfl ⟨fun h=>h,trivial⟩ rfl rfl ?_
 refine AD.pureG T [] rfl trivial rfl rfl ?_
 refine AD.guard [47] rfl ⟨fun h=>h,trivial⟩ (fun hg=>arw_ok rfl rfl rfl rfl) rfl ?_
 refine AD.guard [46,48] rfl ⟨fun h=>h,fun h=>h,trivial⟩ (fun hg=>ix_map_ok T rfl rfl rfl rfl rfl (optT hx29 hg) rfl) rfl ?_
 refine AD.pureG T [49] rfl ⟨fun h=>h,trivial⟩ rfl rfl ?_
 refine AD.nil (AO.pureG T [44,50] rfl ⟨fun h=>h,fun h=>h,trivial⟩ rfl rfl ?_)
 refine AO.guard [39] rfl ⟨fun h=>h,trivial⟩ (fun hg=>pick_and rfl rfl rfl (by rw [hg];exact Bool.true_and _)) rfl ?_
 refine AO.val rfl rfl (pick_or rfl rfl rfl rfl) ?_
 refine AO.nil (AW.le (Le.ct 0 0 (σ':=(⟨[(1,.p 1 0),(26,.s (List.map encSeason w.seasons)),(27,(w.seasons.length:Int)),(28,(k5:Int)),(53,.v (.bool ((!x24) || (decide ((k5:Int) > 0) && decide (x26 > x28)))))],[(1,.box [.s (List.map encSeason w.seasons),.s (List.map encInt w.weights)])],55,[]⟩:St))) ?_)
 refine AW.cond (b:=((!x24) || (decide ((k5:Int) > 0) && decide (x26 > x28)))) rfl (fun hc=>?_) (fun hc=>?_)
 replace hH:=condT hc hH
 refine AW.seq (AW.region (AO.pu T ?_))
 refine AO.nil (AW.ret ?_)
 have hR:=someE hH;subst hR
 exact retQ.i [] rfl (.c (.c .v))
 replace hH:=condF hc hH
 refine AW.skip (AW.region ?_)
 refine AO.val rfl rfl (ar_ok rfl rfl rfl rfl (inI_succ hlt10 hb9)) ?_
 refine AO.pu T ?_
 refine AO.nil ?_
 refine ⟨k5+1,⟨Nat.succ_le_of_lt hlt10,(by rw [drop_succ_of hd8];exact hH)⟩,(by have:=hlt10;dsimp only;omega),?_⟩
 exact Le.ct 0 0

def slices_SortFunc_Entry_p (x:List Entry) (cmp:Entry→Entry→Option Int):Option (List Entry):=sortF cmp x
theorem slices_SortFunc_Entry_ok (x:List Entry) (cmp_f:Nat) (cmp_c:List D) (cmp_k:cmp_c.all D.capOk=true) (cmp:Entry→Entry→Option Int) (cmp_h:∀ (a0 a1:Entry) (q:Int),cmp a0 a1=some q→SpecR Tryz.prog cmp_f ([.g (encEntry a0),.g (encEntry a1)]++cmp_c) (.v (.int .i64 q))) (r:List Entry) (hH:slices_SortFunc_Entry_p x cmp=some r):SpecM Tryz.prog 110 [.w 3 (x.map encEntry),.f cmp_f cmp_c] [.w 3 (r.map encEntry),.u] (.t []) :=
  spec_sortF ⟨_,Tryz.func110,rfl,by decide⟩ (fun enc hk h1 cf hO cb blk off cap d w eg=>AnyQ.slices_SortFunc Tryz.sortF110 3 Tryz.isAgg46 Tryz.sizeOf46 enc hk h1 cf hO cmp_f cb blk off cap d w eg) (fun p cap cb w=>AnyF.slices_SortFunc_none Tryz.sortF110 p cap _ w) encEntry (fun _=>rfl) (fun _=>rfl) cmp_c (cap_sc cmp_k) cmp x r cmp_h hH

def impl_freshSeason_l1 (best:Int):List Entry→Nat→List Line→Option Season
  | [],k5,v42 =>
    some (Season.mk best v42)
  | y6::ys7,k5,v42 =>
    (opt (!(decide ((w64 ((v42.length:Int) - 1)) < 0))) default (getI v42 (w64 ((v42.length:Int) - 1)))).bind fun x44 =>
    cond (decide ((w64 ((v42.length:Int) - 1)) < 0) || (x44.skater != y6.skater))
      ((need (fitsB 56 (v42.length+([(Line.mk y6.skater [] [])]).length))).bind fun u46 =>
      (getI (v42++[(Line.mk y6.skater [] [])]) (w64 ((w64 ((v42.length:Int) - 1))+1))).bind fun x48 =>
      (need (fitsB 8 (x48.events.length+([y6.event]).length))).bind fun u50 =>
      (getI ((v42++[(Line.mk y6.skater [] [])]).set ((w64 ((w64 ((v42.length:Int) - 1))+1)).toNat) (Line.mk x48.skater (x48.events++[y6.event]) x48.points)) (w64 ((w64 ((v42.length:Int) - 1))+1))).bind fun x52 =>
      (need (fitsB 8 (x52.points.length+([y6.points]).length))).bind fun u54 =>
      impl_freshSeason_l1 best ys7 (k5+1) (((v42++[(Line.mk y6.skater [] [])]).set ((w64 ((w64 ((v42.length:Int) - 1))+1)).toNat) (Line.mk x48.skater (x48.events++[y6.event]) x48.points)).set ((w64 ((w64 ((v42.length:Int) - 1))+1)).toNat) (Line.mk x52.skater x52.events (x52.points++[y6.points]))))
      ((getI v42 (w64 ((v42.length:Int) - 1))).bind fun x56 =>
      (need (fitsB 8 (x56.events.length+([y6.event]).length))).bind fun u58 =>
      (getI (v42.set ((w64 ((v42.length:Int) - 1)).toNat) (Line.mk x56.skater (x56.events++[y6.event]) x56.points)) (w64 ((v42.length:Int) - 1))).bind fun x60 =>
      (need (fitsB 8 (x60.points.length+([y6.points]).length))).bind fun u62 =>
      impl_freshSeason_l1 best ys7 (k5+1) ((v42.set ((w64 ((v42.length:Int) - 1)).toNat) (Line.mk x56.skater (x56.events++[y6.event]) x56.points)).set ((w64 ((v42.length:Int) - 1)).toNat) (Line.mk x60.skater x60.events (x60.points++[y6.points]))))
def impl_freshSeason_p (best:Int) (l:List Entry):Option Season :=
  (need (fitsB 24 l.length)).bind fun u1 =>
  (slices_SortFunc_Entry_p l (fun a0 a1=>impl_compareEntries_p a0 a1)).bind fun x3 =>
  impl_freshSeason_l1 best x3 0 []
theorem impl_freshSeason_ok (best:Int) (l:List Entry) (r:Season) (hH:impl_freshSeason_p best l=some r):SpecR Tryz.prog 92 [best,.s (List.map encEntry l)] (.g (encSeasonO r)):=by
 refine fn_ok T Tryz.func92 rfl (by decide) rfl ?_
 refine AW.seq (AW.region (AO.step rfl (alloc_ok T rfl 1 rfl rfl rfl rfl rfl) ?_))
 refine AO.nil (AW.seq (AW.region ?_))
 refine AO.pu T ?_
 refine AO.step rfl (mk0_ok T rfl rfl rfl rfl) ?_
 refine AO.pu T (d:=.g [best,.w 3 []]) ?_
 refine AO.step rfl (alloc_ok T rfl 2 rfl rfl rfl rfl rfl) ?_
 refine AO.se T [best,.w 3 []] ?_
 refine AO.nil (AW.seq ?_)
 obtain ⟨u1,hx2,hH⟩:=bindE hH
 refine AW.region (AO.step rfl (mk0_ok T rfl rfl rfl rfl) ?_)
 refine AO.pu T ?_
 refine AO.step rfl (app_ws_map T rfl 3 rfl rfl rfl rfl rfl (by decide) (by decide) rfl rfl (fun _=>rfl) (needT (hx2)) rfl rfl) ?_
 refine AO.pu T ?_
 refine AO.nil (AW.seq ?_)
 obtain ⟨x3,hx4,hH⟩:=bindE hH
 refine AW.region (AO.pu T ?_)
 refine AO.step rfl (callM_ok rfl 4 rfl rfl (es:=[.w 3 (l.map encEntry),.f 81 []]) (outs:=[.w 3 (x3.map encEntry),.u]) (ids:=[3]) (by exact expLG_cons (.c (.rowR rfl)) (expLG_cons (.c (.f rfl)) (expLG_nil))) (by decide) (.inl (by rfl)) (by rfl) (slices_SortFunc_Entry_ok _ 81 [] rfl (fun a0 a1=>impl_compareEntries_p a0 a1) (fun a0 a1 q h=>impl_compareEntries_ok a0 a1  q h) _ (hx4)) rfl (by rfl) rfl) ?_
 refine AO.nil ?_
 iterate 2 refine AW.seq ?_
 refine AW.region (AO.pu T ?_)
 refine AO.val rfl rfl (len_row_ok T rfl rfl rfl rfl) ?_
 refine AO.pu T ?_
 refine AO.nil (AW.block ?_)
 refine AW.loopS (fun s:Nat × (List Line)=>(⟨[(4,.p 1 0),(5,.p 2 0),(19,.R 3),(20,(x3.length:Int)),(21,(s.1:Int))],[(1,.box [(0:Int),.w 0 []]),(2,.box [best,.R 15]),(3,.row 3 (List.map encEntry x3)),(15,.row 3 (List.map encLineO s.2))],80,[]⟩:St)) (fun s=>s.1 ≤ x3.length∧impl_freshSeason_l1 best (x3.drop s.1) s.1 s.2=some r) (fun s=>x3.length - s.1) (0,[]) ⟨Nat.zero_le _,hH⟩ ?_ ?_
 refine Le.trans (Le.voidBox 2 1 15 3 rfl rfl rfl rfl) ?_
 exact Le.ct 0 0
 rintro ⟨k5,v42⟩ ⟨hk,hH⟩
 replace hH:impl_freshSeason_l1 best (x3.drop k5) k5 v42=some r:=hH
 try dsimp only
 refine AW.boundR (id:=3) (l:=x3) rfl (fun hb9=>?_)
 rcases hd8:x3.drop k5 with _ | ⟨y6,ys7⟩
 rw [hd8,impl_freshSeason_l1] at hH
 have hlt10:=drop_ge hd8
 refine AW.seq (AW.region (AO.pu T ?_))
 refine AO.nil (AW.seq (AW.condF' (b:=decide ((k5:Int) < (x3.length:Int))) rfl (rngF hlt10) ?_))
 refine AW.exit (AW.seq (AW.region ?_))
 refine AO.pu T (d:=.g [best,.R 15]) ?_
 refine AO.se T [best,.R 15] ?_
 refine AO.nil (AW.ret ?_)
 have hR:=someE hH;subst hR
 exact retQ.i [15] rfl (.c (.g (expLC_cons .v (expLC_cons (.rowR rfl) (expLC_nil)))))
 rw [hd8,impl_freshSeason_l1] at hH
 have hlt10:=drop_lt hd8
 refine AW.seq (AW.region (AO.pu T ?_))
 refine AO.nil (AW.seq (AW.condT' (b:=decide ((k5:Int) < (x3.length:Int))) rfl (rngT hlt10) ?_))
 refine AW.skip (AW.seq ?_)
 refine AW.block (AW.seq (AW.region ?_))
 refine AO.val rfl rfl (ix_row_ok T rfl rfl rfl rfl rfl rfl (getI_drop hd8)) ?_
 refine AO.val rfl rfl (load_row_ok T rfl rfl rfl rfl (getI_get (getI_drop hd8)) rfl rfl rfl) ?_
 refine AO.step rfl (alloc_ok T rfl 28 rfl rfl rfl rfl rfl) ?_
 refine AO.se T [y6.event,y6.skater,y6.points] ?_
 refine AO.nil (AW.seq (AW.region ?_))
 iterate 2 refine AO.pu T ?_
 refine AO.val rfl rfl (len_row_ok T rfl rfl rfl rfl) ?_
 refine AO.val rfl rfl (arw_ok rfl rfl rfl rfl) ?_
 refine AO.pu T ?_
 refine AO.nil ?_
 iterate 2 refine AW.seq ?_
 obtain ⟨x44,hx45,hH⟩:=bindE hH
 refine AW.drawn 11 29 [] mix (by kernel_rfl) rfl ?_
 iterate 3 refine AD.pure T rfl rfl rfl ?_
 refine AD.pureG T [] rfl trivial rfl rfl ?_
 refine AD.pureG T [32] rfl ⟨fun h=>h,trivial⟩ rfl rfl ?_
 refine AD.pureG T [] rfl trivial rfl rfl ?_
 refine AD.guard [33,34] rfl ⟨fun h=>h,fun h=>h,trivial⟩ (fun hg=>ix_row_ok T rfl rfl rfl rfl rfl rfl (optT hx45 hg)) rfl ?_
 refine AD.pureG T [35] rfl ⟨fun h=>h,trivial⟩ rfl rfl ?_
 refine AD.guard [36] rfl ⟨fun h=>h,trivial⟩ (fun hg=>load_row_ok T rfl rfl rfl rfl (getI_get (optT hx45 hg)) rfl rfl rfl) rfl ?_
 refine AD.pureG T [] rfl trivial rfl rfl ?_
 refine AD.pureG T [38] rfl ⟨fun h=>h,trivial⟩ rfl rfl ?_
 refine AD.nil (AO.pureG T [37,39] rfl ⟨fun h=>h,fun h=>h,trivial⟩ rfl rfl ?_)
 refine AO.val rfl rfl (pick_or rfl rfl rfl rfl) ?_
 refine AO.nil (AW.cond (b:=(decide ((w64 ((v42.length:Int) - 1)) < 0) || (x44.skater != y6.skater))) rfl (fun hc=>?_) (fun hc=>?_))
 replace hH:=condT hc hH
 refine AW.seq ?_
 obtain ⟨u46,hx47,hH⟩:=bindE hH
 refine AW.region ?_
 iterate 4 refine AO.pu T ?_
 refine AO.pu T (d:=.g [y6.skater,.w 0 [],.w 0 []]) ?_
 refine AO.step rfl (mk_o_ok T rfl 29 rfl rfl rfl rfl rfl rfl (f:=encLineO) (l:=[(Line.mk y6.skater [] [])]) (ids:=[]) rfl rfl (fun _=>rfl) (by exact expLC_cons .v (expLC_cons .nil (expLC_cons .nil (expLC_nil)))) (by decide) rfl rfl rfl rfl rfl) ?_
 refine AO.step rfl (app_rr_map T rfl 30 rfl rfl rfl rfl rfl (by decide) rfl rfl rfl rfl rfl (needT (hx47)) rfl rfl) ?_
 refine AO.pu T ?_
 refine AO.se T [best,.R 30] ?_
 refine AO.nil (AW.le (Le.ct 0 0 (σ':=(⟨[(4,.p 1 0),(5,.p 2 0),(8,.p 28 0),(9,w64 ((v42.length:Int) - 1)),(19,.R 3),(20,(x3.length:Int)),(21,(k5:Int))],[(1,.box [(0:Int),.w 0 []]),(2,.box [best,.R 30]),(3,.row 3 (List.map encEntry x3)),(28,.box [y6.event,y6.skater,y6.points]),(30,.row 3 (List.map encLineO (v42++[(Line.mk y6.skater [] [])])))],80,[]⟩:St))) ?_)
 refine AW.region (AO.pu T ?_)
 refine AO.val rfl rfl (arw_ok rfl rfl rfl rfl) ?_
 refine AO.pu T ?_
 refine AO.nil (AW.seq ?_)
 obtain ⟨x48,hx49,hH⟩:=bindE hH
 refine AW.region ?_
 iterate 3 refine AO.pu T ?_
 refine AO.val rfl rfl (ix_row_ok T rfl rfl rfl rfl rfl rfl (hx49)) ?_
 refine AO.pu T ?_
 refine AO.nil (AW.seq ?_)
 obtain ⟨u50,hx51,hH⟩:=bindE hH
 refine AW.le (Le.openM 30 ((w64 ((w64 ((v42.length:Int) - 1))+1)).toNat) 1 31 rfl (getI_get (hx49)) rfl rfl) ?_
 refine AW.drawn 9 32 [31] mix (by kernel_rfl) rfl ?_
 iterate 4 refine AD.pure T rfl rfl rfl ?_
 refine AD.val rfl rfl (load_lent_ok T rfl rfl rfl rfl rfl) ?_
 iterate 2 refine AD.pure T rfl rfl rfl ?_
 refine AD.q (FStep.mk T (f:=encInt) (l:=[y6.event]) rfl rfl rfl rfl rfl rfl rfl rfl rfl (fun _=>rfl) rfl rfl rfl rfl) (by simp [namesIn]) (Nat.le_succ _) rfl ?_
 refine AD.k rfl rfl (FStep.app_rv T rfl rfl rfl rfl rfl rfl rfl (by decide) rfl rfl rfl rfl (fun _=>rfl) (needT (hx51)) rfl) rfl rfl rfl ?_
 refine AD.nil ?_
 iterate 2 refine AO.pu T ?_
 refine AO.step rfl (store_lent_ok T (ids:=[33]) rfl rfl rfl rfl rfl rfl (getI_get (hx49)) rfl (.rowR rfl) (by decide) rfl (u':=(Line.mk x48.skater (x48.events++[y6.event]) x48.points)) rfl rfl) ?_
 refine AO.nil ?_
 obtain ⟨x52,hx53,hH⟩:=bindE hH
 obtain ⟨u54,hx55,hH⟩:=bindE hH
 refine AW.le (Le.openM 30 ((w64 ((w64 ((v42.length:Int) - 1))+1)).toNat) 2 34 rfl (getI_get (hx53)) rfl rfl) ?_
 refine AW.drawn 9 35 [34] mix (by kernel_rfl) rfl ?_
 iterate 4 refine AD.pure T rfl rfl rfl ?_
 refine AD.val rfl rfl (load_lent_ok T rfl rfl rfl rfl rfl) ?_
 iterate 2 refine AD.pure T rfl rfl rfl ?_
 refine AD.q (FStep.mk T (f:=encInt) (l:=[y6.points]) rfl rfl rfl rfl rfl rfl rfl rfl rfl (fun _=>rfl) rfl rfl rfl rfl) (by simp [namesIn]) (Nat.le_succ _) rfl ?_
 refine AD.k rfl rfl (FStep.app_rv T rfl rfl rfl rfl rfl rfl rfl (by decide) rfl rfl rfl rfl (fun _=>rfl) (needT (hx55)) rfl) rfl rfl rfl ?_
 refine AD.nil ?_
 iterate 2 refine AO.pu T ?_
 refine AO.step rfl (store_lent_ok T (ids:=[36]) rfl rfl rfl rfl rfl rfl (getI_get (hx53)) rfl (.rowR rfl) (by decide) rfl (u':=(Line.mk x52.skater x52.events (x52.points++[y6.points]))) rfl rfl) ?_
 refine AO.nil (AW.le (Le.ct 0 0 (σ':=(⟨[(4,.p 1 0),(5,.p 2 0),(19,.R 3),(20,(x3.length:Int)),(21,(k5:Int))],[(1,.box [(0:Int),.w 0 []]),(2,.box [best,.R 30]),(3,.row 3 (List.map encEntry x3)),(30,.row 3 (List.map encLineO (((v42++[(Line.mk y6.skater [] [])]).set ((w64 ((w64 ((v42.length:Int) - 1))+1)).toNat) (Line.mk x48.skater (x48.events++[y6.event]) x48.points)).set ((w64 ((w64 ((v42.length:Int) - 1))+1)).toNat) (Line.mk x52.skater x52.events (x52.points++[y6.points])))))],80,[]⟩:St))) ?_)
 refine AW.region (AO.val rfl rfl (ar_ok rfl rfl rfl rfl (inI_succ hlt10 hb9)) ?_)
 refine AO.pu T ?_
 refine AO.nil ?_
 refine ⟨(k5+1,(((v42++[(Line.mk y6.skater [] [])]).set ((w64 ((w64 ((v42.length:Int) - 1))+1)).toNat) (Line.mk x48.skater (x48.events++[y6.event]) x48.points)).set ((w64 ((w64 ((v42.length:Int) - 1))+1)).toNat) (Line.mk x52.skater x52.events (x52.points++[y6.points])))),⟨Nat.succ_le_of_lt hlt10,(by rw [drop_succ_of hd8];exact hH)⟩,(by have:=hlt10;dsimp only;omega),?_⟩
 exact Le.ct 30 15
 replace hH:=condF hc hH
 refine AW.skip (AW.seq ?_)
 obtain ⟨x56,hx57,hH⟩:=bindE hH
 refine AW.region ?_
 iterate 3 refine AO.pu T ?_
 refine AO.val rfl rfl (ix_row_ok T rfl rfl rfl rfl rfl rfl (hx57)) ?_
 refine AO.pu T ?_
 refine AO.nil (AW.le (Le.ct 0 0 (σ':=(⟨[(4,.p 1 0),(5,.p 2 0),(8,.p 28 0),(10,.e 15 ((w64 ((v42.length:Int) - 1)).toNat) 0),(19,.R 3),(20,(x3.length:Int)),(21,(k5:Int))],[(1,.box [(0:Int),.w 0 []]),(2,.box [best,.R 15]),(3,.row 3 (List.map encEntry x3)),(15,.row 3 (List.map encLineO v42)),(28,.box [y6.event,y6.skater,y6.points])],80,[]⟩:St))) ?_)
 refine AW.seq ?_
 obtain ⟨u58,hx59,hH⟩:=bindE hH
 refine AW.le (Le.openM 15 ((w64 ((v42.length:Int) - 1)).toNat) 1 37 rfl (getI_get (hx57)) rfl rfl) ?_
 refine AW.drawn 9 38 [37] mix (by kernel_rfl) rfl ?_
 iterate 4 refine AD.pure T rfl rfl rfl ?_
 refine AD.val rfl rfl (load_lent_ok T rfl rfl rfl rfl rfl) ?_
 iterate 2 refine AD.pure T rfl rfl rfl ?_
 refine AD.q (FStep.mk T (f:=encInt) (l:=[y6.event]) rfl rfl rfl rfl rfl rfl rfl rfl rfl (fun _=>rfl) rfl rfl rfl rfl) (by simp [namesIn]) (Nat.le_succ _) rfl ?_
 refine AD.k rfl rfl (FStep.app_rv T rfl rfl rfl rfl rfl rfl rfl (by decide) rfl rfl rfl rfl (fun _=>rfl) (needT (hx59)) rfl) rfl rfl rfl ?_
 refine AD.nil ?_
 iterate 2 refine AO.pu T ?_
 refine AO.step rfl (store_lent_ok T (ids:=[39]) rfl rfl rfl rfl rfl rfl (getI_get (hx57)) rfl (.rowR rfl) (by decide) rfl (u':=(Line.mk x56.skater (x56.events++[y6.event]) x56.points)) rfl rfl) ?_
 refine AO.nil ?_
 obtain ⟨x60,hx61,hH⟩:=bindE hH
 obtain ⟨u62,hx63,hH⟩:=bindE hH
 refine AW.le (Le.openM 15 ((w64 ((v42.length:Int) - 1)).toNat) 2 40 rfl (getI_get (hx61)) rfl rfl) ?_
 refine AW.drawn 9 41 [40] mix (by kernel_rfl) rfl ?_
 iterate 4 refine AD.pure T rfl rfl rfl ?_
 refine AD.val rfl rfl (load_lent_ok T rfl rfl rfl rfl rfl) ?_
 iterate 2 refine AD.pure T rfl rfl rfl ?_
 refine AD.q (FStep.mk T (f:=encInt) (l:=[y6.points]) rfl rfl rfl rfl rfl rfl rfl rfl rfl (fun _=>rfl) rfl rfl rfl rfl) (by simp [namesIn]) (Nat.le_succ _) rfl ?_
 refine AD.k rfl rfl (FStep.app_rv T rfl rfl rfl rfl rfl rfl rfl (by decide) rfl rfl rfl rfl (fun _=>rfl) (needT (hx63)) rfl) rfl rfl rfl ?_
 refine AD.nil ?_
 iterate 2 refine AO.pu T ?_
 refine AO.step rfl (store_lent_ok T (ids:=[42]) rfl rfl rfl rfl rfl rfl (getI_get (hx61)) rfl (.rowR rfl) (by decide) rfl (u':=(Line.mk x60.skater x60.events (x60.points++[y6.points]))) rfl rfl) ?_
 refine AO.nil (AW.le (Le.ct 0 0 (σ':=(⟨[(4,.p 1 0),(5,.p 2 0),(19,.R 3),(20,(x3.length:Int)),(21,(k5:Int))],[(1,.box [(0:Int),.w 0 []]),(2,.box [best,.R 15]),(3,.row 3 (List.map encEntry x3)),(15,.row 3 (List.map encLineO ((v42.set ((w64 ((v42.length:Int) - 1)).toNat) (Line.mk x56.skater (x56.events++[y6.event]) x56.points)).set ((w64 ((v42.length:Int) - 1)).toNat) (Line.mk x60.skater x60.events (x60.points++[y6.points])))))],80,[]⟩:St))) ?_)
 refine AW.region (AO.val rfl rfl (ar_ok rfl rfl rfl rfl (inI_succ hlt10 hb9)) ?_)
 refine AO.pu T ?_
 refine AO.nil ?_
 refine ⟨(k5+1,((v42.set ((w64 ((v42.length:Int) - 1)).toNat) (Line.mk x56.skater (x56.events++[y6.event]) x56.points)).set ((w64 ((v42.length:Int) - 1)).toNat) (Line.mk x60.skater x60.events (x60.points++[y6.points])))),⟨Nat.succ_le_of_lt hlt10,(by rw [drop_succ_of hd8];exact hH)⟩,(by have:=hlt10;dsimp only;omega),?_⟩
 exact Le.ct 0 0

def impl_AddEntry_p (fuel:Nat) (sA:Season) (e:Entry):Option (Season × Bool) :=
  (impl_IsSeason_p fuel sA).bind fun x1 =>
  cond (!x1)
    (some ((Season.mk 0 []),false))
    ((impl_entriesOf_p sA).bind fun x3 =>
    (need (fitsB 24 (x3.length+([e]).length))).bind fun u5 =>
    (impl_AreEntries_p (x3++[e])).bind fun x7 =>
    cond (!x7)
      (some ((Season.mk 0 []),false))
      ((impl_freshSeason_p sA.best (x3++[e])).bind fun x9 =>
      some (x9,true)))
theorem impl_AddEntry_ok (fuel:Nat) (sA:Season) (e:Entry) (r:(Season × Bool)) (hH:impl_AddEntry_p fuel sA e=some r):SpecR Tryz.prog 59 [.g (encSeason sA),.g (encEntry e)] (.t [.g (encSeasonO r.1),.v (.bool r.2)]):=by
 refine fn_ok T Tryz.func59 rfl (by decide) rfl ?_
 refine AW.seq (AW.region (AO.step rfl (box_ok T rfl 1 rfl rfl rfl rfl) ?_))
 refine AO.step rfl (box_ok T rfl 2 rfl rfl rfl rfl) ?_
 refine AO.step rfl (alloc_ok T rfl 3 rfl rfl rfl rfl rfl) ?_
 refine AO.pu T ?_
 refine AO.nil ?_
 iterate 2 refine AW.seq ?_
 obtain ⟨x1,hx2,hH⟩:=bindE hH
 refine AW.region (AO.pu T (d:=.g [sA.best,.s (List.map encLine sA.lines)]) ?_)
 refine AO.val rfl rfl (callV_ok rfl rfl rfl rfl (impl_IsSeason_ok fuel _ _ (hx2)) rfl) ?_
 refine AO.pu T ?_
 refine AO.nil (AW.cond (b:=(!x1)) rfl (fun hc=>?_) (fun hc=>?_))
 replace hH:=condT hc hH
 refine AW.seq (AW.region (AO.pu T (d:=.g [(0:Int),.w 0 []]) ?_))
 refine AO.se T [(0:Int),.w 0 []] ?_
 refine AO.pu T ?_
 refine AO.nil (AW.ret ?_)
 have hR:=someE hH;subst hR
 exact retQ.i [] rfl (.t (expLG_cons (.g (expLC_cons .v (expLC_cons .nil (expLC_nil)))) (expLG_cons (.c .v) (expLG_nil))))
 replace hH:=condF hc hH
 refine AW.skip (AW.seq ?_)
 obtain ⟨x3,hx4,hH⟩:=bindE hH
 obtain ⟨u5,hx6,hH⟩:=bindE hH
 refine AW.drawn 4 4 [] mix (by kernel_rfl) rfl ?_
 refine AD.pure T (d:=.g [sA.best,.s (List.map encLine sA.lines)]) rfl rfl rfl ?_
 refine AD.q (FStep.call rfl rfl rfl rfl rfl (impl_entriesOf_ok _ _ (hx4)) rfl rfl) (impT_names _ _) (impT_le _ _) rfl ?_
 refine AD.pure T (d:=.g [e.event,e.skater,e.points]) rfl rfl rfl ?_
 refine AD.q (FStep.mk T (f:=encEntry) (l:=[e]) rfl rfl rfl rfl rfl rfl rfl rfl rfl (fun _=>rfl) rfl rfl rfl rfl) (by simp [namesIn]) (Nat.le_succ _) rfl ?_
 refine AD.nil (AO.step rfl (app_rv_map T rfl 6 rfl rfl rfl rfl rfl (by decide) rfl rfl rfl rfl (fun _=>rfl) (needT (hx6)) rfl rfl) ?_)
 refine AO.pu T ?_
 refine AO.nil ?_
 iterate 2 refine AW.seq ?_
 obtain ⟨x7,hx8,hH⟩:=bindE hH
 refine AW.region (AO.pu T ?_)
 refine AO.val rfl rfl (callLV_ok rfl rfl rfl (es:=[.s (List.map encEntry (x3++[e]))]) ⟨(.rowR rfl (.map fun y=>.vs rfl)),trivial⟩ (impl_AreEntries_ok _ _ (hx8)) (zfree_v _) rfl) ?_
 refine AO.pu T ?_
 refine AO.nil (AW.cond (b:=(!x7)) rfl (fun hc=>?_) (fun hc=>?_))
 replace hH:=condT hc hH
 refine AW.seq (AW.region (AO.pu T (d:=.g [(0:Int),.w 0 []]) ?_))
 refine AO.se T [(0:Int),.w 0 []] ?_
 refine AO.pu T ?_
 refine AO.nil (AW.ret ?_)
 have hR:=someE hH;subst hR
 exact retQ.i [] rfl (.t (expLG_cons (.g (expLC_cons .v (expLC_cons .nil (expLC_nil)))) (expLG_cons (.c .v) (expLG_nil))))
 replace hH:=condF hc hH
 refine AW.skip (AW.seq ?_)
 obtain ⟨x9,hx10,hH⟩:=bindE hH
 refine AW.region ?_
 iterate 3 refine AO.pu T ?_
 refine AO.step rfl (callL_ok rfl 7 rfl rfl (es:=[sA.best,.s (List.map encEntry (x3++[e]))]) (by exact ⟨.free rfl,(.rowR rfl (.map fun y=>.vs rfl)),trivial⟩) (impl_freshSeason_ok _ _ _ (hx10)) (zfree_g (zfl (.cons (zfree_v _) (.cons (zfree_map (fun y=>(.cons (zfree_v _) (.cons (zfree_map (fun y=>(.cons (zfree_v _) .nil))) (.cons (zfree_map (fun y=>(.cons (zfree_v _) .nil))) .nil))))) .nil)))) rfl rfl rfl) ?_
 refine AO.se T [x9.best,.R 7] ?_
 refine AO.pu T ?_
 refine AO.nil (AW.ret ?_)
 have hR:=someE hH;subst hR
 exact retQ.i [7] rfl (.t (expLG_cons (.g (expLC_cons .v (expLC_cons (.rowR rfl) (expLC_nil)))) (expLG_cons (.c .v) (expLG_nil))))

def impl_copyInts_p (l:List Int):Option (List Int) :=
  (need (fitsB 8 l.length)).bind fun u1 =>
  some l
theorem impl_copyInts_ok (l:List Int) (r:(List Int)) (hH:impl_copyInts_p l=some r):SpecR Tryz.prog 60 [.s (List.map encInt l)] (.w 1 (r.map encInt)):=by
 refine fn_ok T Tryz.func60 rfl (by decide) rfl ?_
 refine AW.seq (AW.region (AO.pu T ?_))
 refine AO.nil (AW.seq ?_)
 obtain ⟨u1,hx2,hH⟩:=bindE hH
 refine AW.region (AO.step rfl (mk0_ok T rfl rfl rfl rfl) ?_)
 refine AO.pu T ?_
 refine AO.step rfl (app_ws_map T rfl 1 rfl rfl rfl rfl rfl (by decide) (by decide) rfl rfl (fun _=>rfl) (needT (hx2)) rfl rfl) ?_
 refine AO.pu T ?_
 refine AO.nil (AW.ret ?_)
 have hR:=someE hH;subst hR
 exact retQ.i [1] rfl (.c (.c (.rowR rfl)))

def impl_copySeason_p (sA:Season):Option Season :=
  (impl_entriesOf_p sA).bind fun x1 =>
  (impl_freshSeason_p sA.best x1).bind fun x3 =>
  some x3
theorem impl_copySeason_ok (sA:Season) (r:Season) (hH:impl_copySeason_p sA=some r):SpecR Tryz.prog 61 [.g (encSeason sA)] (.g (encSeasonO r)):=by
 refine fn_ok T Tryz.func61 rfl (by decide) rfl ?_
 refine AW.seq (AW.region (AO.step rfl (box_ok T rfl 1 rfl rfl rfl rfl) ?_))
 refine AO.step rfl (alloc_ok T rfl 2 rfl rfl rfl rfl rfl) ?_
 refine AO.nil (AW.seq ?_)
 obtain ⟨x1,hx2,hH⟩:=bindE hH
 obtain ⟨x3,hx4,hH⟩:=bindE hH
 refine AW.drawn 4 3 [] mix (by kernel_rfl) rfl ?_
 iterate 2 refine AD.pure T rfl rfl rfl ?_
 refine AD.pure T (d:=.g [sA.best,.s (List.map encLine sA.lines)]) rfl rfl rfl ?_
 refine AD.q (FStep.call rfl rfl rfl rfl rfl (impl_entriesOf_ok _ _ (hx2)) rfl rfl) (impT_names _ _) (impT_le _ _) rfl ?_
 refine AD.nil (AO.step rfl (callL_ok rfl 4 rfl rfl (es:=[sA.best,.s (List.map encEntry x1)]) (by exact ⟨.free rfl,(.rowR rfl (.map fun y=>.vs rfl)),trivial⟩) (impl_freshSeason_ok _ _ _ (hx4)) (zfree_g (zfl (.cons (zfree_v _) (.cons (zfree_map (fun y=>(.cons (zfree_v _) (.cons (zfree_map (fun y=>(.cons (zfree_v _) .nil))) (.cons (zfree_map (fun y=>(.cons (zfree_v _) .nil))) .nil))))) .nil)))) rfl rfl rfl) ?_)
 refine AO.se T [x3.best,.R 4] ?_
 refine AO.nil (AW.ret ?_)
 have hR:=someE hH;subst hR
 exact retQ.i [4] rfl (.c (.g (expLC_cons .v (expLC_cons (.rowR rfl) (expLC_nil)))))

end Go.Proofs.YtegdphhfimaieaaGreat

/- The walk, part 1: what each function reached by the law FnTop computes. No condition. -/
import Derived.Test.YtpmgadenilnabaaGreatAm3
import Derived.Test.YtpmgadenilnabaaGreatShelf
import Derived.Test.YtpmgadenilnabaaGreatProg
set_option maxRecDepth 4000
set_option maxHeartbeats 1000000
set_option linter.unusedVariables false
set_option linter.unusedSimpArgs false
set_option linter.unusedSectionVars false

namespace Go.Proofs.YtpmgadenilnabaaGreat
open Go.AM
def teL:List (Option TI):=[
 none,
 none,
 some ⟨.int .i64,1,8,some (.int .i64 0)⟩,
 some ⟨.int .i64,1,8,some (.int .i64 0)⟩,
 some ⟨.bool,1,1,some (.bool false)⟩,
 some ⟨.int .u8,1,1,some (.int .u8 0)⟩,
 some ⟨.int .u8,1,1,some (.int .u8 0)⟩,
 some ⟨.struct [(0,2),(1,3),(2,4),(3,6)],4,24,some (.agg #[.int .i64 0,.int .i64 0,.bool false,.int .u8 0])⟩,
 some ⟨.struct [(0,2),(1,3),(2,4),(3,6)],4,24,some (.agg #[.int .i64 0,.int .i64 0,.bool false,.int .u8 0])⟩,
 some ⟨.str,1,16,some (.string ⟨#[]⟩)⟩,
 some ⟨.str,1,16,some (.string ⟨#[]⟩)⟩,
 some ⟨.str,1,16,some (.string ⟨#[]⟩)⟩,
 some ⟨.int .u64,1,8,some (.int .u64 0)⟩,
 some ⟨.struct [(0,9),(1,12)],2,24,some (.agg #[.string ⟨#[]⟩,.int .u64 0])⟩,
 some ⟨.struct [(0,9),(1,12)],2,24,some (.agg #[.string ⟨#[]⟩,.int .u64 0])⟩,
 some ⟨.ptr 209,1,8,some (.pointer none)⟩,
 some ⟨.ptr 212,1,8,some (.pointer none)⟩,
 some ⟨.ptr 220,1,8,some (.pointer none)⟩,
 some ⟨.struct [(0,17)],1,8,some (.agg #[.pointer none])⟩,
 some ⟨.struct [(0,17)],1,8,some (.agg #[.pointer none])⟩,
 none,
 some ⟨.int .i32,1,4,some (.int .i32 0)⟩,
 some ⟨.slice 5,1,24,some (.slice none 0 0)⟩,
 some ⟨.slice 108,1,24,some (.slice none 0 0)⟩,
 some ⟨.slice 3,1,24,some (.slice none 0 0)⟩,
 some ⟨.struct [(0,23),(1,24),(2,3),(3,3),(4,3),(5,3)],6,80,some (.agg #[.slice none 0 0,.slice none 0 0,.int .i64 0,.int .i64 0,.int .i64 0,.int .i64 0])⟩,
 some ⟨.struct [(0,23),(1,24),(2,3),(3,3),(4,3),(5,3)],6,80,some (.agg #[.slice none 0 0,.slice none 0 0,.int .i64 0,.int .i64 0,.int .i64 0,.int .i64 0])⟩,
 some ⟨.slice 121,1,24,some (.slice none 0 0)⟩,
 some ⟨.slice 24,1,24,some (.slice none 0 0)⟩,
 some ⟨.struct [(0,28),(1,28)],2,48,some (.agg #[.slice none 0 0,.slice none 0 0])⟩,
 some ⟨.struct [(0,28),(1,28)],2,48,some (.agg #[.slice none 0 0,.slice none 0 0])⟩,
 some ⟨.struct [(0,3),(1,3),(2,3)],3,24,some (.agg #[.int .i64 0,.int .i64 0,.int .i64 0])⟩,
 some ⟨.struct [(0,3),(1,3),(2,3)],3,24,some (.agg #[.int .i64 0,.int .i64 0,.int .i64 0])⟩,
 some ⟨.struct [(0,27),(1,30),(3,32)],6,96,some (.agg #[.slice none 0 0,.slice none 0 0,.slice none 0 0,.int .i64 0,.int .i64 0,.int .i64 0])⟩,
 some ⟨.struct [(0,27),(1,30),(3,32)],6,96,some (.agg #[.slice none 0 0,.slice none 0 0,.slice none 0 0,.int .i64 0,.int .i64 0,.int .i64 0])⟩,
 none,
 none,
 none,
 none,
 some ⟨.slice 55,1,24,some (.slice none 0 0)⟩,
 some ⟨.slice 96,1,24,some (.slice none 0 0)⟩,
 some ⟨.struct [(0,3),(1,40)],2,32,some (.agg #[.int .i64 0,.slice none 0 0])⟩,
 some ⟨.struct [(0,3),(1,40)],2,32,some (.agg #[.int .i64 0,.slice none 0 0])⟩,
 some ⟨.slice 57,1,24,some (.slice none 0 0)⟩,
 some ⟨.slice 34,1,24,some (.slice none 0 0)⟩,
 none,
 none,
 none,
 none,
 none,
 none,
 none,
 none,
 none,
 some ⟨.struct [(0,3),(1,24)],2,32,some (.agg #[.int .i64 0,.slice none 0 0])⟩,
 some ⟨.struct [(0,3),(1,24)],2,32,some (.agg #[.int .i64 0,.slice none 0 0])⟩,
 some ⟨.struct [(0,3),(1,3),(2,3)],3,24,some (.agg #[.int .i64 0,.int .i64 0,.int .i64 0])⟩,
 some ⟨.struct [(0,3),(1,3),(2,3)],3,24,some (.agg #[.int .i64 0,.int .i64 0,.int .i64 0])⟩,
 none,
 none,
 none,
 none,
 none,
 none,
 none,
 none,
 some ⟨.ptr 69,1,8,some (.pointer none)⟩,
 some ⟨.int .u64,1,8,some (.int .u64 0)⟩,
 some ⟨.struct [(0,22),(1,3),(2,67)],3,40,some (.agg #[.slice none 0 0,.int .i64 0,.int .u64 0])⟩,
 some ⟨.struct [(0,22),(1,3),(2,67)],3,40,some (.agg #[.slice none 0 0,.int .i64 0,.int .u64 0])⟩,
 none,
 none,
 none,
 none,
 none,
 none,
 none,
 none,
 none,
 none,
 none,
 none,
 none,
 none,
 none,
 none,
 none,
 none,
 none,
 none,
 none,
 none,
 none,
 none,
 none,
 some ⟨.struct [(0,3),(1,24),(2,24)],3,56,some (.agg #[.int .i64 0,.slice none 0 0,.slice none 0 0])⟩,
 some ⟨.struct [(0,3),(1,24),(2,24)],3,56,some (.agg #[.int .i64 0,.slice none 0 0,.slice none 0 0])⟩,
 none,
 none,
 none,
 none,
 none,
 none,
 none,
 none,
 none,
 none,
 some ⟨.struct [(0,9),(1,3),(2,3),(3,3)],4,40,some (.agg #[.string ⟨#[]⟩,.int .i64 0,.int .i64 0,.int .i64 0])⟩,
 some ⟨.struct [(0,9),(1,3),(2,3),(3,3)],4,40,some (.agg #[.string ⟨#[]⟩,.int .i64 0,.int .i64 0,.int .i64 0])⟩,
 none,
 none,
 none,
 none,
 none,
 none,
 none,
 none,
 none,
 none,
 some ⟨.slice 9,1,24,some (.slice none 0 0)⟩,
 some ⟨.struct [(0,119),(1,24),(2,4)],3,56,some (.agg #[.slice none 0 0,.slice none 0 0,.bool false])⟩,
 some ⟨.struct [(0,119),(1,24),(2,4)],3,56,some (.agg #[.slice none 0 0,.slice none 0 0,.bool false])⟩,
 none,
 none,
 none,
 none,
 none,
 none,
 none,
 some ⟨.ptr 96,1,8,some (.pointer none)⟩,
 none,
 none,
 none,
 none,
 none,
 none,
 none,
 none,
 none,
 none,
 none,
 none,
 none,
 none,
 none,
 none,
 none,
 none,
 none,
 none,
 none,
 none,
 some ⟨.int .u64,1,8,some (.int .u64 0)⟩,
 none,
 none,
 none,
 none,
 none,
 none,
 none,
 none,
 none,
 none,
 none,
 none,
 some ⟨.int .i64,1,8,some (.int .i64 0)⟩,
 none,
 none,
 none,
 none,
 none,
 none,
 some ⟨.int .u32,1,4,some (.int .u32 0)⟩,
 none,
 none,
 none,
 none,
 none,
 none,
 none,
 none,
 none,
 none,
 none,
 none,
 none,
 some ⟨.int .u64,1,8,some (.int .u64 0)⟩,
 none,
 none,
 none,
 some ⟨.ptr 3,1,8,some (.pointer none)⟩,
 none,
 none,
 none,
 none,
 none,
 none,
 some ⟨.ptr 186,1,8,some (.pointer none)⟩,
 none,
 none,
 none,
 none,
 none,
 none,
 none,
 none,
 none,
 none,
 some ⟨.struct [(0,17),(1,17),(2,17),(3,9)],4,40,some (.agg #[.pointer none,.pointer none,.pointer none,.string ⟨#[]⟩])⟩,
 some ⟨.struct [(0,17),(1,17),(2,17),(3,9)],4,40,some (.agg #[.pointer none,.pointer none,.pointer none,.string ⟨#[]⟩])⟩,
 some ⟨.array 0 16,0,0,some (.agg #[])⟩,
 some ⟨.struct [(0,210)],0,0,some (.agg #[])⟩,
 some ⟨.struct [(0,210)],0,0,some (.agg #[])⟩,
 some ⟨.int .u8,1,1,some (.int .u8 0)⟩,
 some ⟨.int .u8,1,1,some (.int .u8 0)⟩,
 none,
 some ⟨.ptr 5,1,8,some (.pointer none)⟩,
 some ⟨.int .i32,1,4,some (.int .i32 0)⟩,
 some ⟨.int .i32,1,4,some (.int .i32 0)⟩,
 some ⟨.struct [(0,12),(1,12),(2,172),(3,213),(4,5),(5,5),(6,214),(7,215),(8,216),(9,217),(10,218)],11,48,some (.agg #[.int .u64 0,.int .u64 0,.int .u32 0,.int .u8 0,.int .u8 0,.int .u8 0,.int .u8 0,.nilFunc,.pointer none,.int .i32 0,.int .i32 0])⟩,
 some ⟨.struct [(0,12),(1,12),(2,172),(3,213),(4,5),(5,5),(6,214),(7,215),(8,216),(9,217),(10,218)],11,48,some (.agg #[.int .u64 0,.int .u64 0,.int .u32 0,.int .u8 0,.int .u8 0,.int .u8 0,.int .u8 0,.nilFunc,.pointer none,.int .i32 0,.int .i32 0])⟩,
 none]
def te:TE:=qVR teL
theorem T:qGW Tryz.prog te:=qTt (by kernel_rfl)
theorem mix:Tryz.prog.follows .mixedOrders=true:=by kernel_rfl

def ze0 (x:Int):List D:=[.v (.int .i64 x)]
def qVG (x:Bool):List D:=[.v (.bool x)]
def ze5 (x:ByteArray):List D:=[.v (.string x)]
def ze4 (x:Int):List D:=[.v (.int .u8 x)]
def qUJ (x:Int):List D:=[.v (.int .u64 x)]
def qUN (x:Int):List D:=[.v (.int .i32 x)]
def ze1 (x:List Int):List D:=[.s (x.map ze0)]
def ze6 (x:List Int):List D:=[.w 1 (x.map ze0)]
theorem qA9 (x:List Int):FrzL (ze6 x) (ze1 x):=.cons (.map fun y=>.vs rfl) .nil
structure Entry where
  event:Int
  skater:Int
  points:Int
  deriving Inhabited,DecidableEq
def ze8 (x:Entry):List D:=[.v (.int .i64 x.event),.v (.int .i64 x.skater),.v (.int .i64 x.points)]
def qQp (x:List Entry):List D:=[.s (x.map ze8)]
def qQh (x:List Entry):List D:=[.w 3 (x.map ze8)]
theorem qUq (x:List Entry):FrzL (qQh x) (qQp x):=.cons (.map fun y=>.vs rfl) .nil
structure Element where
  name:ByteArray
  family:Int
  level:Int
  base:Int
  deriving Inhabited,DecidableEq
def ze3 (x:Element):List D:=[.v (.string x.name),.v (.int .i64 x.family),.v (.int .i64 x.level),.v (.int .i64 x.base)]
structure Code where
  elements:List Element
  limits:List Int
  repeats:Int
  bonus:Int
  keeps:Int
  fall:Int
  deriving Inhabited,DecidableEq
def ze7 (x:Code):List D:=[.s (x.elements.map ze3),.s (x.limits.map ze0),.v (.int .i64 x.repeats),.v (.int .i64 x.bonus),.v (.int .i64 x.keeps),.v (.int .i64 x.fall)]
def qGH (x:Code):List D:=[.w 4 (x.elements.map ze3),.w 1 (x.limits.map ze0),.v (.int .i64 x.repeats),.v (.int .i64 x.bonus),.v (.int .i64 x.keeps),.v (.int .i64 x.fall)]
theorem qVJ (x:Code):FrzL (qGH x) (ze7 x):=.cons (.map fun y=>.vs rfl) (.cons (.map fun y=>.vs rfl) (.cons (.vs rfl) (.cons (.vs rfl) (.cons (.vs rfl) (.cons (.vs rfl) (.nil))))))
structure Item where
  names:List ByteArray
  marks:List Int
  late:Bool
  deriving Inhabited,DecidableEq
def ze2 (x:Item):List D:=[.s (x.names.map ze5),.s (x.marks.map ze0),.v (.bool x.late)]
def qGM (x:Item):List D:=[.w 1 (x.names.map ze5),.w 1 (x.marks.map ze0),.v (.bool x.late)]
theorem qDh (x:Item):FrzL (qGM x) (ze2 x):=.cons (.map fun y=>.vs rfl) (.cons (.map fun y=>.vs rfl) (.cons (.vs rfl) (.nil)))
structure Marks where
  grades:List (List Int)
  components:List (List Int)
  deriving Inhabited,DecidableEq
def qBN (x:Marks):List D:=[.s (x.grades.map ze1),.s (x.components.map ze1)]
def qJO (x:Marks):List D:=[.w 1 (x.grades.map ze6),.w 1 (x.components.map ze6)]
theorem qU4 (x:Marks):FrzL (qJO x) (qBN x):=.cons (.map fun y=>qA9 y) (.cons (.map fun y=>qA9 y) (.nil))
structure Slips where
  falls:Int
  seconds:Int
  other:Int
  deriving Inhabited,DecidableEq
def qJh (x:Slips):List D:=[.v (.int .i64 x.falls),.v (.int .i64 x.seconds),.v (.int .i64 x.other)]
structure Performance where
  items:List Item
  marks:Marks
  slips:Slips
  deriving Inhabited,DecidableEq
def qGl (x:Performance):List D:=[.s (x.items.map ze2),.s (x.marks.grades.map ze1),.s (x.marks.components.map ze1),.v (.int .i64 x.slips.falls),.v (.int .i64 x.slips.seconds),.v (.int .i64 x.slips.other)]
def qFo (x:Performance):List D:=[.w 3 (x.items.map qGM),.w 1 (x.marks.grades.map ze6),.w 1 (x.marks.components.map ze6),.v (.int .i64 x.slips.falls),.v (.int .i64 x.slips.seconds),.v (.int .i64 x.slips.other)]
theorem qSN (x:Performance):FrzL (qFo x) (qGl x):=.cons (.map fun y=>qDh y) (.cons (.map fun y=>qA9 y) (.cons (.map fun y=>qA9 y) (.cons (.vs rfl) (.cons (.vs rfl) (.cons (.vs rfl) (.nil))))))
structure L1Cur where
  code:List Int
  at':Int
  seed:Int
  deriving Inhabited,DecidableEq
def ze9 (x:L1Cur):List D:=[.s (x.code.map ze4),.v (.int .i64 x.at'),.v (.int .u64 x.seed)]
def qSI (x:L1Cur):List D:=[.w 1 (x.code.map ze4),.v (.int .i64 x.at'),.v (.int .u64 x.seed)]
theorem qU7 (x:L1Cur):FrzL (qSI x) (ze9 x):=.cons (.map fun y=>.vs rfl) (.cons (.vs rfl) (.cons (.vs rfl) (.nil)))
structure Result where
  skater:Int
  scores:List Int
  deriving Inhabited,DecidableEq
def qHf (x:Result):List D:=[.v (.int .i64 x.skater),.s (x.scores.map ze0)]
def qCV (x:Result):List D:=[.v (.int .i64 x.skater),.w 1 (x.scores.map ze0)]
theorem qKQ (x:Result):FrzL (qCV x) (qHf x):=.cons (.vs rfl) (.cons (.map fun y=>.vs rfl) (.nil))
structure Line where
  skater:Int
  events:List Int
  points:List Int
  deriving Inhabited,DecidableEq
def qCf (x:Line):List D:=[.v (.int .i64 x.skater),.s (x.events.map ze0),.s (x.points.map ze0)]
def qCa (x:Line):List D:=[.v (.int .i64 x.skater),.w 1 (x.events.map ze0),.w 1 (x.points.map ze0)]
theorem qMn (x:Line):FrzL (qCa x) (qCf x):=.cons (.vs rfl) (.cons (.map fun y=>.vs rfl) (.cons (.map fun y=>.vs rfl) (.nil)))
structure Season where
  best:Int
  lines:List Line
  deriving Inhabited,DecidableEq
def qEd (x:Season):List D:=[.v (.int .i64 x.best),.s (x.lines.map qCf)]
def qJR (x:Season):List D:=[.v (.int .i64 x.best),.w 3 (x.lines.map qCa)]
theorem qUn (x:Season):FrzL (qJR x) (qEd x):=.cons (.vs rfl) (.cons (.map fun y=>qMn y) (.nil))

def qD4 (c:L1Cur):Option (L1Cur × Int) :=
 cond (decide (c.at' < (c.code.length:Int)))
  ((qAb c.code c.at').bind fun x1 =>
  cond (decide ((w64 (c.at'+1)) ≤ (c.code.length:Int)))
   (some ((L1Cur.mk c.code (w64 (c.at'+1)) (IntKind.wrap .u64 ((IntKind.wrap .u64 ((IntKind.wrap .u64 (c.seed * 6364136223846793005))+(IntKind.wrap .u64 (IntKind.wrap .i64 x1))))+1442695040888963407))),IntKind.wrap .i64 x1))
   (some ((L1Cur.mk c.code (w64 (c.at'+1)) (IntKind.wrap .u64 ((IntKind.wrap .u64 ((IntKind.wrap .u64 (c.seed * 6364136223846793005))+(IntKind.wrap .u64 (IntKind.wrap .i64 x1))))+1442695040888963407))),IntKind.wrap .i64 (IntKind.wrap .u64 ((BitVec.ofInt 64 ((IntKind.wrap .u64 ((IntKind.wrap .u64 ((IntKind.wrap .u64 (c.seed * 6364136223846793005))+(IntKind.wrap .u64 (IntKind.wrap .i64 x1))))+1442695040888963407)).fdiv (2 ^ 40)) &&& BitVec.ofInt 64 255).toNat:Int)))))
  (cond (decide ((w64 (c.at'+1)) ≤ (c.code.length:Int)))
   (some ((L1Cur.mk c.code (w64 (c.at'+1)) (IntKind.wrap .u64 ((IntKind.wrap .u64 ((IntKind.wrap .u64 (c.seed * 6364136223846793005))+(IntKind.wrap .u64 0)))+1442695040888963407))),0))
   (some ((L1Cur.mk c.code (w64 (c.at'+1)) (IntKind.wrap .u64 ((IntKind.wrap .u64 ((IntKind.wrap .u64 (c.seed * 6364136223846793005))+(IntKind.wrap .u64 0)))+1442695040888963407))),IntKind.wrap .i64 (IntKind.wrap .u64 ((BitVec.ofInt 64 ((IntKind.wrap .u64 ((IntKind.wrap .u64 ((IntKind.wrap .u64 (c.seed * 6364136223846793005))+(IntKind.wrap .u64 0)))+1442695040888963407)).fdiv (2 ^ 40)) &&& BitVec.ofInt 64 255).toNat:Int)))))
theorem qHV (c:L1Cur) (r:(L1Cur × Int)) (hH:qD4 c=some r):qE7 Tryz.prog 112 [.pw (ze9 c)] [.pw (ze9 r.1)] (.v (.int .i64 r.2)):=by
 refine qEy T Tryz.func112 rfl (by decide) rfl rfl ?_
 intro L
 show AW _ _ _ (⟨[(0,.p 1 0)],[(1,.box [.s (List.map ze4 c.code),c.at',.v (.int .u64 c.seed)])],62,[(1,L 1)]⟩:St)
 refine AW.q (AW.r (AO.pu T ?_))
 refine AO.n (AW.q (AW.r ?_))
 refine AO.pu T ?_
 refine AO.n (AW.q (AW.q ?_))
 refine AW.drawn 9 2 [] mix (by kernel_rfl) rfl ?_
 iterate 8 refine AD.pu T ?_
 refine AD.vv (qCC T) ?_
 refine AD.nil (AO.pu T ?_)
 refine AO.n (AW.c (b:=decide (c.at' < (c.code.length:Int))) rfl (fun hc=>?_) (fun hc=>?_))
 replace hH:=condT hc hH
 obtain ⟨x1,hx2,hH⟩:=zB hH
 refine AW.drawn 8 2 [] mix (by kernel_rfl) rfl ?_
 iterate 8 refine AD.pu T ?_
 refine AD.nil (AO.w (ixs T (hx2)) ?_)
 refine AO.pu T ?_
 refine AO.w (qKh T rfl rfl rfl rfl) ?_
 refine AO.pu T ?_
 refine AO.n (AW.le (Le.ct 0 0 (σ':=(⟨[(0,.p 1 0),(3,(IntKind.wrap .i64 x1:Int))],[(1,.box [.s (List.map ze4 c.code),c.at',.v (.int .u64 c.seed)])],62,[(1,L 1)]⟩:St)) (hpin:=⟨⟨rfl,rfl⟩,trivial⟩)) ?_)
 refine AW.q (AW.r ?_)
 iterate 4 refine AO.pu T ?_
 refine AO.w aws ?_
 refine AO.p2 T ?_
 refine AO.se T [.s (List.map ze4 c.code),w64 (c.at'+1),.v (.int .u64 c.seed)] ?_
 refine AO.n (AW.q (AW.r ?_))
 iterate 5 refine AO.pu T ?_
 refine AO.w aws ?_
 refine AO.pu T ?_
 refine AO.w (qKh T rfl rfl rfl rfl) ?_
 iterate 2 refine AO.w aws ?_
 refine AO.p2 T ?_
 refine AO.se T [.s (List.map ze4 c.code),w64 (c.at'+1),.v (.int .u64 (IntKind.wrap .u64 ((IntKind.wrap .u64 ((IntKind.wrap .u64 (c.seed * 6364136223846793005))+(IntKind.wrap .u64 (IntKind.wrap .i64 x1))))+1442695040888963407)))] ?_
 refine AO.n (AW.q (AW.q ?_))
 refine AW.drawn 9 2 [] mix (by kernel_rfl) rfl ?_
 iterate 8 refine AD.pu T ?_
 refine AD.vv (qCC T) ?_
 refine AD.nil (AO.pu T ?_)
 refine AO.n (AW.le (Le.ct 0 0 (σ':=(⟨[(0,.p 1 0),(3,(IntKind.wrap .i64 x1:Int)),(53,.v (.bool (decide ((w64 (c.at'+1)) ≤ (c.code.length:Int)))))],[(1,.box [.s (List.map ze4 c.code),w64 (c.at'+1),.v (.int .u64 (IntKind.wrap .u64 ((IntKind.wrap .u64 ((IntKind.wrap .u64 (c.seed * 6364136223846793005))+(IntKind.wrap .u64 (IntKind.wrap .i64 x1))))+1442695040888963407)))])],62,[(1,L 1)]⟩:St)) (hpin:=⟨⟨rfl,rfl⟩,trivial⟩)) ?_)
 refine AW.c (b:=decide ((w64 (c.at'+1)) ≤ (c.code.length:Int))) rfl (fun hc=>?_) (fun hc=>?_)
 replace hH:=condT hc hH
 refine AW.q (AW.r (AO.p2 T ?_))
 refine AO.n (AW.t ?_)
 have hR:=zS hH;subst hR
 exact ⟨trivial,rfl,_,[],[1],rfl,zG (.c (.box rfl rfl)) (zGn),.c (.c .v),by decide⟩
 replace hH:=condF hc hH
 refine AW.k (AW.q (AW.r ?_))
 iterate 4 refine AO.pu T ?_
 refine AO.w (qS3 rfl rfl rfl rfl rfl) ?_
 refine AO.w (qS6 rfl rfl rfl) ?_
 refine AO.w (qKh T rfl rfl rfl rfl) ?_
 refine AO.pu T ?_
 refine AO.n (AW.t ?_)
 have hR:=zS hH;subst hR
 exact ⟨trivial,rfl,_,[],[1],rfl,zG (.c (.box rfl rfl)) (zGn),.c (.c .v),by decide⟩
 replace hH:=condF hc hH
 refine AW.k (AW.q (AW.r ?_))
 iterate 4 refine AO.pu T ?_
 refine AO.w aws ?_
 refine AO.p2 T ?_
 refine AO.se T [.s (List.map ze4 c.code),w64 (c.at'+1),.v (.int .u64 c.seed)] ?_
 refine AO.n (AW.q (AW.r ?_))
 iterate 5 refine AO.pu T ?_
 refine AO.w aws ?_
 refine AO.pu T ?_
 refine AO.w (qKh T rfl rfl rfl rfl) ?_
 iterate 2 refine AO.w aws ?_
 refine AO.p2 T ?_
 refine AO.se T [.s (List.map ze4 c.code),w64 (c.at'+1),.v (.int .u64 (IntKind.wrap .u64 ((IntKind.wrap .u64 ((IntKind.wrap .u64 (c.seed * 6364136223846793005))+(IntKind.wrap .u64 0)))+1442695040888963407)))] ?_
 refine AO.n (AW.le (Le.ct 0 0 (σ':=(⟨[(0,.p 1 0),(3,(0:Int))],[(1,.box [.s (List.map ze4 c.code),w64 (c.at'+1),.v (.int .u64 (IntKind.wrap .u64 ((IntKind.wrap .u64 ((IntKind.wrap .u64 (c.seed * 6364136223846793005))+(IntKind.wrap .u64 0)))+1442695040888963407)))])],62,[(1,L 1)]⟩:St)) (hpin:=⟨⟨rfl,rfl⟩,trivial⟩)) ?_)
 refine AW.q (AW.q (AW.drawn 9 2 [] mix (by kernel_rfl) rfl ?_))
 iterate 8 refine AD.pu T ?_
 refine AD.vv (qCC T) ?_
 refine AD.nil (AO.pu T ?_)
 refine AO.n (AW.c (b:=decide ((w64 (c.at'+1)) ≤ (c.code.length:Int))) rfl (fun hc=>?_) (fun hc=>?_))
 replace hH:=condT hc hH
 refine AW.q (AW.r (AO.p2 T ?_))
 refine AO.n (AW.t ?_)
 have hR:=zS hH;subst hR
 exact ⟨trivial,rfl,_,[],[1],rfl,zG (.c (.box rfl rfl)) (zGn),.c (.c .v),by decide⟩
 replace hH:=condF hc hH
 refine AW.k (AW.q (AW.r ?_))
 iterate 4 refine AO.pu T ?_
 refine AO.w (qS3 rfl rfl rfl rfl rfl) ?_
 refine AO.w (qS6 rfl rfl rfl) ?_
 refine AO.w (qKh T rfl rfl rfl rfl) ?_
 refine AO.pu T ?_
 refine AO.n (AW.t ?_)
 have hR:=zS hH;subst hR
 exact ⟨trivial,rfl,_,[],[1],rfl,zG (.c (.box rfl rfl)) (zGn),.c (.c .v),by decide⟩

def qAA (c:L1Cur) (n:Int):Option (L1Cur × Int) :=
 cond (decide (n ≤ 1))
  (some (c,0))
  ((qD4 c).bind fun x1 =>
  cond (decide (n > 200))
   ((qD4 x1.1).bind fun x3 =>
   (qCw (n != 0)).bind fun u5 =>
   some (x3.1,((w64 ((w64 (x1.2 * 256))+x3.2)).tmod n)))
   ((qCw (n != 0)).bind fun u7 =>
   some (x1.1,(x1.2.tmod n))))
theorem qAB (c:L1Cur) (n:Int) (r:(L1Cur × Int)) (hH:qAA c n=some r):qE7 Tryz.prog 56 [.pw (ze9 c),n] [.pw (ze9 r.1),.u] (.v (.int .i64 r.2)):=by
 refine qEy T Tryz.func56 rfl (by decide) rfl rfl ?_
 intro L
 show AW _ _ _ (⟨[(0,.p 1 0),(1,n)],[(1,.box [.s (List.map ze4 c.code),c.at',.v (.int .u64 c.seed)])],20,[(1,L 1)]⟩:St)
 refine AW.q (AW.r (AO.pu T ?_))
 refine AO.n (AW.q (AW.q ?_))
 refine AW.r (AO.p2 T ?_)
 refine AO.n (AW.c (b:=decide (n ≤ 1)) rfl (fun hc=>?_) (fun hc=>?_))
 replace hH:=condT hc hH
 refine AW.q (AW.r (AO.pu T ?_))
 refine AO.n (AW.t ?_)
 have hR:=zS hH;subst hR
 exact ⟨trivial,rfl,_,[],[1],rfl,zG (.c (.box rfl rfl)) (zG (.c .u) (zGn)),.c (.c .v),by decide⟩
 replace hH:=condF hc hH
 refine AW.k (AW.q ?_)
 obtain ⟨x1,hx2,hH⟩:=zB hH
 refine AW.r (AO.pu T ?_)
 refine AO.x (cMs 2 [1] (S:=qHV _ _ (hx2)) (hp:=by exact zG (.c (.box rfl rfl)) (zGn))) ?_
 refine AO.pu T ?_
 refine AO.n (AW.q (AW.q ?_))
 refine AW.r (AO.p2 T ?_)
 refine AO.n (AW.c (b:=decide (n > 200)) rfl (fun hc=>?_) (fun hc=>?_))
 replace hH:=condT hc hH
 obtain ⟨x3,hx4,hH⟩:=zB hH
 refine AW.r (AO.pu T ?_)
 refine AO.w aws ?_
 refine AO.pu T ?_
 refine AO.x (cMs 2 [1] (S:=qHV _ _ (hx4)) (hp:=by exact zG (.c (.box rfl rfl)) (zGn))) ?_
 refine AO.w aws ?_
 refine AO.pu T ?_
 refine AO.n (AW.q ?_)
 obtain ⟨u5,hx6,hH⟩:=zB hH
 refine AW.r (AO.p2 T ?_)
 refine AO.w (qLP rfl rfl rfl (neZ (qA4 (hx6)))) ?_
 refine AO.pu T ?_
 refine AO.n (AW.t ?_)
 have hR:=zS hH;subst hR
 exact ⟨trivial,rfl,_,[],[1],rfl,zG (.c (.box rfl rfl)) (zG (.c .u) (zGn)),.c (.c .v),by decide⟩
 replace hH:=condF hc hH
 refine AW.k (AW.q ?_)
 obtain ⟨u7,hx8,hH⟩:=zB hH
 refine AW.r (AO.p2 T ?_)
 refine AO.w (qLP rfl rfl rfl (neZ (qA4 (hx8)))) ?_
 refine AO.pu T ?_
 refine AO.n (AW.t ?_)
 have hR:=zS hH;subst hR
 exact ⟨trivial,rfl,_,[],[1],rfl,zG (.c (.box rfl rfl)) (zG (.c .u) (zGn)),.c (.c .v),by decide⟩

def qAC (c:L1Cur) (list:List Int):Option (L1Cur × Int) :=
 (qAA c (list.length:Int)).bind fun x1 =>
 (qAb list x1.2).bind fun x3 =>
 some (x1.1,x3)
theorem qAD (c:L1Cur) (list:List Int) (r:(L1Cur × Int)) (hH:qAC c list=some r):qE7 Tryz.prog 61 [.pw (ze9 c),.s (List.map ze0 list)] [.pw (ze9 r.1),.u] (.v (.int .i64 r.2)):=by
 refine qEy T Tryz.func61 rfl (by decide) rfl rfl ?_
 intro L
 show AW _ _ _ (⟨[(0,.p 1 0),(1,.s (List.map ze0 list))],[(1,.box [.s (List.map ze4 c.code),c.at',.v (.int .u64 c.seed)])],12,[(1,L 1)]⟩:St)
 refine AW.q (AW.r (AO.pu T ?_))
 refine AO.n (AW.q ?_)
 obtain ⟨x1,hx2,hH⟩:=zB hH
 obtain ⟨x3,hx4,hH⟩:=zB hH
 refine AW.r ?_
 iterate 3 refine AO.pu T ?_
 refine AO.w (qCC T) ?_
 refine AO.x (cMs 2 [1] (S:=qAB _ _ _ (hx2)) (hp:=by exact zG (.c (.box rfl rfl)) (zG (.c .v) (zGn)))) ?_
 refine AO.w (ixs T (hx4)) ?_
 refine AO.p2 T ?_
 refine AO.n (AW.t ?_)
 have hR:=zS hH;subst hR
 exact ⟨trivial,rfl,_,[],[1],rfl,zG (.c (.box rfl rfl)) (zG (.c .u) (zGn)),.c (.c .v),by decide⟩

def qCe  : Option (List ByteArray) :=
 some [(⟨#[49,65]⟩:ByteArray),(⟨#[49,84]⟩:ByteArray),(⟨#[50,65]⟩:ByteArray),(⟨#[50,70]⟩:ByteArray),(⟨#[50,76,90]⟩:ByteArray),(⟨#[50,83]⟩:ByteArray),(⟨#[50,84]⟩:ByteArray),(⟨#[51,65]⟩:ByteArray),(⟨#[51,70]⟩:ByteArray),(⟨#[51,76,79]⟩:ByteArray),(⟨#[51,76,90]⟩:ByteArray),(⟨#[51,83]⟩:ByteArray),(⟨#[51,84]⟩:ByteArray),(⟨#[52,83]⟩:ByteArray),(⟨#[52,84]⟩:ByteArray),(⟨#[67,67,83,80]⟩:ByteArray),(⟨#[67,72,83,81]⟩:ByteArray),(⟨#[70,83,83,80]⟩:ByteArray),(⟨#[76,53]⟩:ByteArray),(⟨#[76,83,80]⟩:ByteArray),(⟨#[83,81]⟩:ByteArray),(⟨#[83,83,80]⟩:ByteArray),(⟨#[83,84,83,81]⟩:ByteArray),(⟨#[85,83,80]⟩:ByteArray)]
theorem qDC  (r:(List ByteArray)) (hH:qCe  = some r):qAE Tryz.prog 187 [] (.w 1 (r.map ze5)):=by
 refine fns T Tryz.func187 ?_
 refine AW.q (AW.r (AO.pu T ?_))
 refine AO.n (AW.q (AW.r ?_))
 refine AO.x (mks T 1 ze5 ([(⟨#[49,65]⟩:ByteArray),(⟨#[49,84]⟩:ByteArray),(⟨#[50,65]⟩:ByteArray),(⟨#[50,70]⟩:ByteArray),(⟨#[50,76,90]⟩:ByteArray),(⟨#[50,83]⟩:ByteArray),(⟨#[50,84]⟩:ByteArray),(⟨#[51,65]⟩:ByteArray),(⟨#[51,70]⟩:ByteArray),(⟨#[51,76,79]⟩:ByteArray),(⟨#[51,76,90]⟩:ByteArray),(⟨#[51,83]⟩:ByteArray),(⟨#[51,84]⟩:ByteArray),(⟨#[52,83]⟩:ByteArray),(⟨#[52,84]⟩:ByteArray),(⟨#[67,67,83,80]⟩:ByteArray),(⟨#[67,72,83,81]⟩:ByteArray),(⟨#[70,83,83,80]⟩:ByteArray),(⟨#[76,53]⟩:ByteArray),(⟨#[76,83,80]⟩:ByteArray),(⟨#[83,81]⟩:ByteArray),(⟨#[83,83,80]⟩:ByteArray),(⟨#[83,84,83,81]⟩:ByteArray),(⟨#[85,83,80]⟩:ByteArray)])) ?_
 refine AO.pu T ?_
 refine AO.n (AW.t ?_)
 have hR:=zS hH;subst hR
 exact retQ.i [1] rfl (.c (.c (.rowR rfl)))

def qAH (c:L1Cur) (n:Int):Option (L1Cur × Bool) :=
 (qAA c n).bind fun x1 =>
 some (x1.1,(x1.2 == 0))
theorem qAL (c:L1Cur) (n:Int) (r:(L1Cur × Bool)) (hH:qAH c n=some r):qE7 Tryz.prog 108 [.pw (ze9 c),n] [.pw (ze9 r.1),.u] (.v (.bool r.2)):=by
 refine qEy T Tryz.func108 rfl (by decide) rfl rfl ?_
 intro L
 show AW _ _ _ (⟨[(0,.p 1 0),(1,n)],[(1,.box [.s (List.map ze4 c.code),c.at',.v (.int .u64 c.seed)])],9,[(1,L 1)]⟩:St)
 refine AW.q (AW.r (AO.pu T ?_))
 refine AO.n (AW.q ?_)
 obtain ⟨x1,hx2,hH⟩:=zB hH
 refine AW.r (AO.p2 T ?_)
 refine AO.x (cMs 2 [1] (S:=qAB _ _ _ (hx2)) (hp:=by exact zG (.c (.box rfl rfl)) (zG (.c .v) (zGn)))) ?_
 refine AO.p2 T ?_
 refine AO.n (AW.t ?_)
 have hR:=zS hH;subst hR
 exact ⟨trivial,rfl,_,[],[1],rfl,zG (.c (.box rfl rfl)) (zG (.c .u) (zGn)),.c (.c .v),by decide⟩

def qAh (x1:(L1Cur × Int)) (x3:(L1Cur × Int)) (x5:(L1Cur × Int)) (x7:(L1Cur × Int)) (v26:List Int):List ByteArray→Nat→List Int→Int→Int→List Element→Option ((L1Cur × Code))
 | [],k72,v94,v95,v96,v97 =>
  some ((L1Cur.mk v94 v95 v96),(Code.mk v97 v26 (w64 (1+x1.2)) x3.2 x5.2 x7.2))
 | y73::ys74,k72,v94,v95,v96,v97 =>
  (qAA (L1Cur.mk v94 v95 v96) 2).bind fun x99 =>
  (qAA x99.1 900).bind fun x101 =>
  (qCw (qBE 40 (v97.length+([(Element.mk y73 x99.2 0 (w64 (100+x101.2)))]).length))).bind fun u103 =>
  qAh x1 x3 x5 x7 v26 ys74 (k72+1) x101.1.code x101.1.at' x101.1.seed (v97++[(Element.mk y73 x99.2 0 (w64 (100+x101.2)))])
def qAV (x1:(L1Cur × Int)) (x3:(L1Cur × Int)) (x5:(L1Cur × Int)) (x7:(L1Cur × Int)) (v26:List Int) (x33:(List ByteArray)):List ByteArray→Nat→List Int→Int→Int→List Element→Option ((L1Cur × Code))
 | [],k35,v65,v66,v67,v68 =>
  (qAH (L1Cur.mk v65 v66 v67) 24).bind fun x70 =>
  cond x70.2
   (qAh x1 x3 x5 x7 v26 x33 0 x70.1.code x70.1.at' x70.1.seed [])
   (some (x70.1,(Code.mk v68 v26 (w64 (1+x1.2)) x3.2 x5.2 x7.2)))
 | y36::ys37,k35,v65,v66,v67,v68 =>
  (qAH (L1Cur.mk v65 v66 v67) 3).bind fun x105 =>
  cond (x105.2 || ((k35:Int) == 7))
   ((qAA x105.1 5).bind fun x107 =>
   (qAA x107.1 5).bind fun x109 =>
   (qAC x109.1 ([1,50,130,420,800,1105,2000]:List Int)).bind fun x111 =>
   (qCw (qBE 40 (v68.length+([(Element.mk y36 x107.2 x109.2 x111.2)]).length))).bind fun u113 =>
   qAV x1 x3 x5 x7 v26 x33 ys37 (k35+1) x111.1.code x111.1.at' x111.1.seed (v68++[(Element.mk y36 x107.2 x109.2 x111.2)]))
   (qAV x1 x3 x5 x7 v26 x33 ys37 (k35+1) x105.1.code x105.1.at' x105.1.seed v68)
def qAu (x1:(L1Cur × Int)) (x3:(L1Cur × Int)) (x5:(L1Cur × Int)) (x7:(L1Cur × Int)):Nat→List Int→Int→Int→List Int→Int→Option ((L1Cur × Code))
 | 0,_,_,_,_,_=>none
 | k9+1,v23,v24,v25,v26,v27 =>
  cond (decide (v27 < 5))
   ((qAC (L1Cur.mk v23 v24 v25) ([0,1,2,3,7,9]:List Int)).bind fun x29 =>
   (qCw (qBE 8 (v26.length+([x29.2]).length))).bind fun u31 =>
   qAu x1 x3 x5 x7 k9 x29.1.code x29.1.at' x29.1.seed (v26++[x29.2]) (w64 (v27+1)))
   ((qCe ).bind fun x33 =>
   qAV x1 x3 x5 x7 v26 x33 x33 0 v23 v24 v25 [])
def qCM (fuel:Nat) (c:L1Cur):Option (L1Cur × Code) :=
 (qAA c 3).bind fun x1 =>
 (qAC x1.1 ([0,10,20]:List Int)).bind fun x3 =>
 (qAC x3.1 ([50,70,80,100]:List Int)).bind fun x5 =>
 (qAC x5.1 ([0,100,500]:List Int)).bind fun x7 =>
 qAu x1 x3 x5 x7 fuel x7.1.code x7.1.at' x7.1.seed [] 0
theorem qFU (fuel:Nat) (c:L1Cur) (r:(L1Cur × Code)) (hH:qCM fuel c=some r):qE7 Tryz.prog 181 [.pw (ze9 c)] [.pw (ze9 r.1)] (.g (qGH r.2)):=by
 refine qEy T Tryz.func181 rfl (by decide) rfl rfl ?_
 intro L
 show AW _ _ _ (⟨[(0,.p 1 0)],[(1,.box [.s (List.map ze4 c.code),c.at',.v (.int .u64 c.seed)])],85,[(1,L 1)]⟩:St)
 refine AW.q (AW.r (AO.x (als T 2) ?_))
 refine AO.n (AW.q ?_)
 obtain ⟨x1,hx2,hH⟩:=zB hH
 obtain ⟨x3,hx4,hH⟩:=zB hH
 obtain ⟨x5,hx6,hH⟩:=zB hH
 obtain ⟨x7,hx8,hH⟩:=zB hH
 refine AW.r (AO.pu T ?_)
 refine AO.x (cMs 3 [1] (S:=qAB _ _ _ (hx2)) (hp:=by exact zG (.c (.box rfl rfl)) (zG (.c .v) (zGn)))) ?_
 refine AO.w aws ?_
 refine AO.pu T ?_
 refine AO.x (mks T 3 ze0 (([0,10,20]:List Int))) ?_
 refine AO.le (Le.fM 3 (g:=ze0) rfl (fun y=>.vs rfl)) ?_
 refine AO.x (cMs 4 [1] (S:=qAD _ _ _ (hx4)) (hp:=by exact zG (.c (.box rfl rfl)) (zG (.c .s) (zGn)))) ?_
 refine AO.pu T ?_
 refine AO.x (mks T 4 ze0 (([50,70,80,100]:List Int))) ?_
 refine AO.le (Le.fM 4 (g:=ze0) rfl (fun y=>.vs rfl)) ?_
 refine AO.x (cMs 5 [1] (S:=qAD _ _ _ (hx6)) (hp:=by exact zG (.c (.box rfl rfl)) (zG (.c .s) (zGn)))) ?_
 refine AO.pu T ?_
 refine AO.x (mks T 5 ze0 (([0,100,500]:List Int))) ?_
 refine AO.le (Le.fM 5 (g:=ze0) rfl (fun y=>.vs rfl)) ?_
 refine AO.x (cMs 6 [1] (S:=qAD _ _ _ (hx8)) (hp:=by exact zG (.c (.box rfl rfl)) (zG (.c .s) (zGn)))) ?_
 refine AO.pu T (d:=.g [.w 0 [],.w 0 [],w64 (1+x1.2),x3.2,x5.2,x7.2]) ?_
 refine AO.x (als T 6) ?_
 refine AO.se T [.w 0 [],.w 0 [],w64 (1+x1.2),x3.2,x5.2,x7.2] ?_
 refine AO.n (AW.q (AW.q ?_))
 refine AW.r (AO.pu T ?_)
 refine AO.n (AW.b ?_)
 refine AW.loopS (fun s:Nat × (List Int) × Int × Int × (List Int) × Int=>(⟨[(0,.p 1 0),(2,.p 2 0),(3,.p 6 0),(4,s.2.2.2.2.2)],[(1,.box [.s (List.map ze4 s.2.1),s.2.2.1,.v (.int .u64 s.2.2.2.1)]),(2,.box [.w 0 [],.w 0 [],(0:Int),(0:Int),(0:Int),(0:Int)]),(6,.box [.w 0 [],.R 10,w64 (1+x1.2),x3.2,x5.2,x7.2]),(10,.row 1 (List.map ze0 s.2.2.2.2.1))],85,[(1,L 1)]⟩:St)) (fun s=>qAu x1 x3 x5 x7 s.1 s.2.1 s.2.2.1 s.2.2.2.1 s.2.2.2.2.1 s.2.2.2.2.2=some r) (fun s=>s.1) (fuel,x7.1.code,x7.1.at',x7.1.seed,[],0) hH ?_ ?_
 refine Le.trans (Le.voidBox 6 1 10 1 rfl rfl rfl rfl) ?_
 exact Le.ct 0 0 (hpin:=⟨⟨rfl,rfl⟩,trivial⟩)
 rintro ⟨k9,v23,v24,v25,v26,v27⟩ hH
 replace hH:qAu x1 x3 x5 x7 k9 v23 v24 v25 v26 v27=some r:=hH
 try dsimp only
 rcases k9 with _ | k9
 cases (show none=some _ from hH)
 rw [qAu] at hH
 refine AW.q (AW.q (AW.r ?_))
 refine AO.p2 T ?_
 refine AO.n (AW.c (b:=decide (v27 < 5)) rfl (fun hc=>?_) (fun hc=>?_))
 replace hH:=condT hc hH
 refine AW.k (AW.q ?_)
 refine AW.b ?_
 obtain ⟨x29,hx30,hH⟩:=zB hH
 obtain ⟨u31,hx32,hH⟩:=zB hH
 refine AW.drawn 6 11 [1] mix (by kernel_rfl) rfl ?_
 iterate 3 refine AD.pu T ?_
 refine AD.vv (qIr T rfl rfl rfl rfl rfl rfl (f:=ze0) (l:=([0,1,2,3,7,9]:List Int)) rfl rfl (fun _=>rfl) rfl rfl rfl) ?_
 refine AD.kk (cMF [1] (S:=qAD _ _ _ (hx30)) (hp:=by exact zG (.c (.box rfl rfl)) (zG (.c .s) (zGn)))) ?_
 refine AD.q (FStep.mk T (f:=ze0) (l:=[x29.2]) rfl rfl rfl rfl rfl rfl rfl rfl rfl (fun _=>rfl) rfl rfl rfl rfl) (by simp [qBV]) (Nat.le_succ _) rfl ?_
 refine AD.nil (AO.x (rvs T 12 (hfit:=by exact qA4 (hx32))) ?_)
 refine AO.pu T ?_
 refine AO.se T [.w 0 [],.R 12,w64 (1+x1.2),x3.2,x5.2,x7.2] ?_
 refine AO.n (AW.r ?_)
 refine AO.pu T ?_
 refine AO.w aws ?_
 refine AO.pu T ?_
 refine AO.n ?_
 refine ⟨(k9,x29.1.code,x29.1.at',x29.1.seed,(v26++[x29.2]),w64 (v27+1)),hH,Nat.lt_succ_self _,?_⟩
 exact Le.ct 12 10 (hpin:=⟨⟨rfl,rfl⟩,trivial⟩)
 replace hH:=condF hc hH
 refine AW.exit (AW.q (AW.q ?_))
 obtain ⟨x33,hx34,hH⟩:=zB hH
 refine AW.r (AO.x (qBk rfl 13 rfl rfl rfl (qDC _ (hx34)) rfl rfl rfl) ?_)
 refine AO.w (qGn T) ?_
 refine AO.pu T ?_
 refine AO.n (AW.b ?_)
 refine AW.loopS (fun s:Nat × (List Int) × Int × Int × (List Element)=>(⟨[(0,.p 1 0),(2,.p 2 0),(3,.p 6 0),(34,.R 13),(35,(x33.length:Int)),(36,(s.1:Int))],[(1,.box [.s (List.map ze4 s.2.1),s.2.2.1,.v (.int .u64 s.2.2.2.1)]),(2,.box [.w 0 [],.w 0 [],(0:Int),(0:Int),(0:Int),(0:Int)]),(6,.box [.R 17,.R 10,w64 (1+x1.2),x3.2,x5.2,x7.2]),(10,.row 1 (List.map ze0 v26)),(13,.row 1 (List.map ze5 x33)),(17,.row 4 (List.map ze3 s.2.2.2.2))],85,[(1,L 1)]⟩:St)) (fun s=>s.1 ≤ x33.length∧qAV x1 x3 x5 x7 v26 x33 (x33.drop s.1) s.1 s.2.1 s.2.2.1 s.2.2.2.1 s.2.2.2.2=some r) (fun s=>x33.length - s.1) (0,v23,v24,v25,[]) ⟨Nat.zero_le _,hH⟩ ?_ ?_
 refine Le.trans (Le.voidBox 6 0 17 4 rfl rfl rfl rfl) ?_
 exact Le.ct 0 0 (hpin:=⟨⟨rfl,rfl⟩,trivial⟩)
 rintro ⟨k35,v65,v66,v67,v68⟩ ⟨hk,hH⟩
 replace hH:qAV x1 x3 x5 x7 v26 x33 (x33.drop k35) k35 v65 v66 v67 v68=some r:=hH
 try dsimp only
 refine AW.boundR (id:=13) (l:=x33) rfl (fun hb39=>?_)
 rcases hd38:x33.drop k35 with _ | ⟨y36,ys37⟩
 rw [hd38,qAV] at hH
 have hlt40:=qAJ hd38
 refine AW.q (AW.r (AO.pu T ?_))
 refine AO.n (AW.q (AW.condF' (b:=decide ((k35:Int) < (x33.length:Int))) rfl (qEQ hlt40) ?_))
 refine AW.exit (AW.q (AW.q ?_))
 obtain ⟨x70,hx71,hH⟩:=zB hH
 refine AW.r (AO.pu T ?_)
 refine AO.x (cMs 18 [1] (S:=qAL _ _ _ (hx71)) (hp:=by exact zG (.c (.box rfl rfl)) (zG (.c .v) (zGn)))) ?_
 refine AO.n (AW.c (b:=x70.2) rfl (fun hc=>?_) (fun hc=>?_))
 replace hH:=condT hc hH
 refine AW.q (AW.r (AO.pu T ?_))
 refine AO.se T [.w 0 [],.R 10,w64 (1+x1.2),x3.2,x5.2,x7.2] ?_
 refine AO.n (AW.q (AW.r ?_))
 refine AO.x (qBk rfl 18 rfl rfl rfl (qDC _ (hx34)) rfl rfl rfl) ?_
 refine AO.w (qGn T) ?_
 refine AO.pu T ?_
 refine AO.n (AW.b ?_)
 refine AW.loopS (fun s:Nat × (List Int) × Int × Int × (List Element)=>(⟨[(0,.p 1 0),(2,.p 2 0),(3,.p 6 0),(65,.R 18),(66,(x33.length:Int)),(67,(s.1:Int))],[(1,.box [.s (List.map ze4 s.2.1),s.2.2.1,.v (.int .u64 s.2.2.2.1)]),(2,.box [.w 0 [],.w 0 [],(0:Int),(0:Int),(0:Int),(0:Int)]),(6,.box [.R 22,.R 10,w64 (1+x1.2),x3.2,x5.2,x7.2]),(10,.row 1 (List.map ze0 v26)),(18,.row 1 (List.map ze5 x33)),(22,.row 4 (List.map ze3 s.2.2.2.2))],85,[(1,L 1)]⟩:St)) (fun s=>s.1 ≤ x33.length∧qAh x1 x3 x5 x7 v26 (x33.drop s.1) s.1 s.2.1 s.2.2.1 s.2.2.2.1 s.2.2.2.2=some r) (fun s=>x33.length - s.1) (0,x70.1.code,x70.1.at',x70.1.seed,[]) ⟨Nat.zero_le _,hH⟩ ?_ ?_
 refine Le.trans (Le.voidBox 6 0 22 4 rfl rfl rfl rfl) ?_
 exact Le.ct 0 0 (hpin:=⟨⟨rfl,rfl⟩,trivial⟩)
 rintro ⟨k72,v94,v95,v96,v97⟩ ⟨hk,hH⟩
 replace hH:qAh x1 x3 x5 x7 v26 (x33.drop k72) k72 v94 v95 v96 v97=some r:=hH
 try dsimp only
 refine AW.boundR (id:=18) (l:=x33) rfl (fun hb76=>?_)
 rcases hd75:x33.drop k72 with _ | ⟨y73,ys74⟩
 rw [hd75,qAh] at hH
 have hlt77:=qAJ hd75
 refine AW.q (AW.r (AO.pu T ?_))
 refine AO.n (AW.q (AW.condF' (b:=decide ((k72:Int) < (x33.length:Int))) rfl (qEQ hlt77) ?_))
 refine AW.exit (AW.q (AW.r ?_))
 refine AO.pu T (d:=.g [.R 22,.R 10,w64 (1+x1.2),x3.2,x5.2,x7.2]) ?_
 refine AO.se T [.R 22,.R 10,w64 (1+x1.2),x3.2,x5.2,x7.2] ?_
 refine AO.n (AW.t ?_)
 have hR:=zS hH;subst hR
 exact ⟨trivial,rfl,_,[22,10],[1],rfl,zG (.c (.box rfl rfl)) (zGn),.c (.g (zC (.rowR rfl) (zC (.rowR rfl) (zC .v (zC .v (zC .v (zC .v (zCn)))))))),by decide⟩
 rw [hd75,qAh] at hH
 have hlt77:=qAK hd75
 refine AW.q (AW.r (AO.pu T ?_))
 refine AO.n (AW.q (AW.condT' (b:=decide ((k72:Int) < (x33.length:Int))) rfl (qER hlt77) ?_))
 refine AW.k (AW.q ?_)
 refine AW.b (AW.q (AW.r ?_))
 refine AO.w (ixr T (zgD hd75)) ?_
 refine AO.w (zLr T rfl rfl rfl rfl (zgG (zgD hd75)) rfl rfl rfl) ?_
 refine AO.pu T ?_
 refine AO.n ?_
 obtain ⟨x99,hx100,hH⟩:=zB hH
 obtain ⟨x101,hx102,hH⟩:=zB hH
 obtain ⟨u103,hx104,hH⟩:=zB hH
 refine AW.drawn 10 23 [1] mix (by kernel_rfl) rfl ?_
 iterate 4 refine AD.pu T ?_
 refine AD.kk (cMF [1] (S:=qAB _ _ _ (hx100)) (hp:=by exact zG (.c (.box rfl rfl)) (zG (.c .v) (zGn)))) ?_
 refine AD.pu T ?_
 refine AD.kk (cMF [1] (S:=qAB _ _ _ (hx102)) (hp:=by exact zG (.c (.box rfl rfl)) (zG (.c .v) (zGn)))) ?_
 refine AD.vv aws ?_
 refine AD.p T (d:=.g [.v (.string y73),x99.2,(0:Int),w64 (100+x101.2)]) rfl rfl rfl ?_
 refine AD.q (FStep.mk T (f:=ze3) (l:=[(Element.mk y73 x99.2 0 (w64 (100+x101.2)))]) rfl rfl rfl rfl rfl rfl rfl rfl rfl (fun _=>rfl) rfl rfl rfl rfl) (by simp [qBV]) (Nat.le_succ _) rfl ?_
 refine AD.nil (AO.x (rvs T 24 (hfit:=by exact qA4 (hx104))) ?_)
 refine AO.pu T ?_
 refine AO.se T [.R 24,.R 10,w64 (1+x1.2),x3.2,x5.2,x7.2] ?_
 refine AO.n (AW.r ?_)
 refine AO.w (zR rfl rfl rfl rfl (zK hlt77 hb76)) ?_
 refine AO.pu T ?_
 refine AO.n ?_
 refine ⟨(k72+1,x101.1.code,x101.1.at',x101.1.seed,(v97++[(Element.mk y73 x99.2 0 (w64 (100+x101.2)))])),⟨Nat.succ_le_of_lt hlt77,(by rw [zds hd75];exact hH)⟩,(by have:=hlt77;dsimp only;omega),?_⟩
 exact Le.ct 24 22 (hpin:=⟨⟨rfl,rfl⟩,trivial⟩)
 replace hH:=condF hc hH
 refine AW.k (AW.q (AW.r ?_))
 refine AO.pu T (d:=.g [.R 17,.R 10,w64 (1+x1.2),x3.2,x5.2,x7.2]) ?_
 refine AO.se T [.R 17,.R 10,w64 (1+x1.2),x3.2,x5.2,x7.2] ?_
 refine AO.n (AW.t ?_)
 have hR:=zS hH;subst hR
 exact ⟨trivial,rfl,_,[17,10],[1],rfl,zG (.c (.box rfl rfl)) (zGn),.c (.g (zC (.rowR rfl) (zC (.rowR rfl) (zC .v (zC .v (zC .v (zC .v (zCn)))))))),by decide⟩
 rw [hd38,qAV] at hH
 have hlt40:=qAK hd38
 refine AW.q (AW.r (AO.pu T ?_))
 refine AO.n (AW.q (AW.condT' (b:=decide ((k35:Int) < (x33.length:Int))) rfl (qER hlt40) ?_))
 refine AW.k (AW.q ?_)
 refine AW.b (AW.q (AW.r ?_))
 refine AO.pu T ?_
 refine AO.w (ixr T (zgD hd38)) ?_
 refine AO.w (zLr T rfl rfl rfl rfl (zgG (zgD hd38)) rfl rfl rfl) ?_
 refine AO.p2 T ?_
 refine AO.n (AW.q ?_)
 obtain ⟨x105,hx106,hH⟩:=zB hH
 refine AW.r (AO.pu T ?_)
 refine AO.x (cMs 25 [1] (S:=qAL _ _ _ (hx106)) (hp:=by exact zG (.c (.box rfl rfl)) (zG (.c .v) (zGn)))) ?_
 refine AO.pu T ?_
 refine AO.g T [] rfl trivial rfl rfl ?_
 refine AO.g T [44] rfl ⟨fun h=>h,trivial⟩ rfl rfl ?_
 refine AO.w ors ?_
 refine AO.n (AW.c (b:=(x105.2 || ((k35:Int) == 7))) rfl (fun hc=>?_) (fun hc=>?_))
 replace hH:=condT hc hH
 obtain ⟨x107,hx108,hH⟩:=zB hH
 obtain ⟨x109,hx110,hH⟩:=zB hH
 obtain ⟨x111,hx112,hH⟩:=zB hH
 obtain ⟨u113,hx114,hH⟩:=zB hH
 refine AW.drawn 12 25 [1] mix (by kernel_rfl) rfl ?_
 iterate 4 refine AD.pu T ?_
 refine AD.kk (cMF [1] (S:=qAB _ _ _ (hx108)) (hp:=by exact zG (.c (.box rfl rfl)) (zG (.c .v) (zGn)))) ?_
 refine AD.pu T ?_
 refine AD.kk (cMF [1] (S:=qAB _ _ _ (hx110)) (hp:=by exact zG (.c (.box rfl rfl)) (zG (.c .v) (zGn)))) ?_
 refine AD.pu T ?_
 refine AD.vv (qIr T rfl rfl rfl rfl rfl rfl (f:=ze0) (l:=([1,50,130,420,800,1105,2000]:List Int)) rfl rfl (fun _=>rfl) rfl rfl rfl) ?_
 refine AD.kk (cMF [1] (S:=qAD _ _ _ (hx112)) (hp:=by exact zG (.c (.box rfl rfl)) (zG (.c .s) (zGn)))) ?_
 refine AD.p T (d:=.g [.v (.string y36),x107.2,x109.2,x111.2]) rfl rfl rfl ?_
 refine AD.q (FStep.mk T (f:=ze3) (l:=[(Element.mk y36 x107.2 x109.2 x111.2)]) rfl rfl rfl rfl rfl rfl rfl rfl rfl (fun _=>rfl) rfl rfl rfl rfl) (by simp [qBV]) (Nat.le_succ _) rfl ?_
 refine AD.nil (AO.x (rvs T 26 (hfit:=by exact qA4 (hx114))) ?_)
 refine AO.pu T ?_
 refine AO.se T [.R 26,.R 10,w64 (1+x1.2),x3.2,x5.2,x7.2] ?_
 refine AO.n (AW.le (Le.ct 0 0 (σ':=(⟨[(0,.p 1 0),(2,.p 2 0),(3,.p 6 0),(34,.R 13),(35,(x33.length:Int)),(36,(k35:Int))],[(1,.box [.s (List.map ze4 x111.1.code),x111.1.at',.v (.int .u64 x111.1.seed)]),(2,.box [.w 0 [],.w 0 [],(0:Int),(0:Int),(0:Int),(0:Int)]),(6,.box [.R 26,.R 10,w64 (1+x1.2),x3.2,x5.2,x7.2]),(10,.row 1 (List.map ze0 v26)),(13,.row 1 (List.map ze5 x33)),(26,.row 4 (List.map ze3 (v68++[(Element.mk y36 x107.2 x109.2 x111.2)])))],85,[(1,L 1)]⟩:St)) (hpin:=⟨⟨rfl,rfl⟩,trivial⟩)) ?_)
 refine AW.r (AO.w (zR rfl rfl rfl rfl (zK hlt40 hb39)) ?_)
 refine AO.pu T ?_
 refine AO.n ?_
 refine ⟨(k35+1,x111.1.code,x111.1.at',x111.1.seed,(v68++[(Element.mk y36 x107.2 x109.2 x111.2)])),⟨Nat.succ_le_of_lt hlt40,(by rw [zds hd38];exact hH)⟩,(by have:=hlt40;dsimp only;omega),?_⟩
 exact Le.ct 26 17 (hpin:=⟨⟨rfl,rfl⟩,trivial⟩)
 replace hH:=condF hc hH
 refine AW.k (AW.r ?_)
 refine AO.w (zR rfl rfl rfl rfl (zK hlt40 hb39)) ?_
 refine AO.pu T ?_
 refine AO.n ?_
 refine ⟨(k35+1,x105.1.code,x105.1.at',x105.1.seed,v68),⟨Nat.succ_le_of_lt hlt40,(by rw [zds hd38];exact hH)⟩,(by have:=hlt40;dsimp only;omega),?_⟩
 exact Le.ct 0 0 (hpin:=⟨⟨rfl,rfl⟩,trivial⟩)

def qIX (l:List ByteArray):Option (List ByteArray) :=
 (qCw (qBE 16 l.length)).bind fun u1 =>
 some l
theorem qMw (l:List ByteArray) (r:(List ByteArray)) (hH:qIX l=some r):qAE Tryz.prog 143 [.s (List.map ze5 l)] (.w 1 (r.map ze5)):=by
 refine fns T Tryz.func143 ?_
 refine AW.q (AW.r (AO.pu T ?_))
 refine AO.n (AW.q ?_)
 obtain ⟨u1,hx2,hH⟩:=zB hH
 refine AW.r (AO.x (qHd T rfl rfl rfl rfl) ?_)
 refine AO.pu T ?_
 refine AO.x (qIA T rfl 1 rfl rfl rfl rfl rfl (by decide) (by decide) rfl rfl (fun _=>rfl) (qA4 (hx2)) rfl rfl) ?_
 refine AO.pu T ?_
 refine AO.n (AW.t ?_)
 have hR:=zS hH;subst hR
 exact retQ.i [1] rfl (.c (.c (.rowR rfl)))

def qEh (l:List Int):Option (List Int) :=
 (qCw (qBE 8 l.length)).bind fun u1 =>
 some l
theorem qIV (l:List Int) (r:(List Int)) (hH:qEh l=some r):qAE Tryz.prog 144 [.s (List.map ze0 l)] (.w 1 (r.map ze0)):=by
 refine fns T Tryz.func144 ?_
 refine AW.q (AW.r (AO.pu T ?_))
 refine AO.n (AW.q ?_)
 obtain ⟨u1,hx2,hH⟩:=zB hH
 refine AW.r (AO.x (qHd T rfl rfl rfl rfl) ?_)
 refine AO.pu T ?_
 refine AO.x (qIA T rfl 1 rfl rfl rfl rfl rfl (by decide) (by decide) rfl rfl (fun _=>rfl) (qA4 (hx2)) rfl rfl) ?_
 refine AO.pu T ?_
 refine AO.n (AW.t ?_)
 have hR:=zS hH;subst hR
 exact retQ.i [1] rfl (.c (.c (.rowR rfl)))

def qDJ:List Item→Nat→List Item→Option ((List Item))
 | [],k1,v20 =>
  some v20
 | y2::ys3,k1,v20 =>
  (qIX y2.names).bind fun x22 =>
  (qEh y2.marks).bind fun x24 =>
  (qCw (qBE 56 (v20.length+([(Item.mk x22 x24 y2.late)]).length))).bind fun u26 =>
  qDJ ys3 (k1+1) (v20++[(Item.mk x22 x24 y2.late)])
def qDu (l:List Item):Option (List Item) :=
 qDJ l 0 []
theorem qDx (l:List Item) (r:(List Item)) (hH:qDu l=some r):qAE Tryz.prog 110 [.s (List.map ze2 l)] (.w 3 (r.map qGM)):=by
 refine fns T Tryz.func110 ?_
 refine AW.q (AW.r (AO.pu T ?_))
 refine AO.n (AW.q (AW.r ?_))
 refine AO.pu T ?_
 refine AO.n (AW.q (AW.q ?_))
 refine AW.r (AO.pu T ?_)
 refine AO.w (qCC T) ?_
 refine AO.pu T ?_
 refine AO.n (AW.b ?_)
 refine AW.loopS (fun s:Nat × (List Item)=>(⟨[(3,.R 10),(6,.s (List.map ze2 l)),(7,(l.length:Int)),(8,(s.1:Int))],[(10,.row 3 (List.map qGM s.2))],26,[]⟩:St)) (fun s=>s.1 ≤ l.length∧qDJ (l.drop s.1) s.1 s.2=some r) (fun s=>l.length - s.1) (0,[]) ⟨Nat.zero_le _,hH⟩ ?_ ?_
 refine Le.trans (Le.void 3 10 3 rfl rfl) ?_
 exact Le.ct 0 0
 rintro ⟨k1,v20⟩ ⟨hk,hH⟩
 replace hH:qDJ (l.drop k1) k1 v20=some r:=hH
 try dsimp only
 refine AW.boundM (t:=6) (l:=l) rfl (fun hb5=>?_)
 rcases hd4:l.drop k1 with _ | ⟨y2,ys3⟩
 rw [hd4,qDJ] at hH
 have hlt6:=qAJ hd4
 refine AW.q (AW.r (AO.pu T ?_))
 refine AO.n (AW.q (AW.condF' (b:=decide ((k1:Int) < (l.length:Int))) rfl (qEQ hlt6) ?_))
 refine AW.exit (AW.q (AW.r ?_))
 refine AO.p2 T ?_
 refine AO.n (AW.t ?_)
 have hR:=zS hH;subst hR
 exact retQ.i [10] rfl (.c (.c (.rowR rfl)))
 rw [hd4,qDJ] at hH
 have hlt6:=qAK hd4
 refine AW.q (AW.r (AO.pu T ?_))
 refine AO.n (AW.q (AW.condT' (b:=decide ((k1:Int) < (l.length:Int))) rfl (qER hlt6) ?_))
 refine AW.k (AW.q ?_)
 refine AW.b (AW.q (AW.r ?_))
 refine AO.w (ixs T (zgD hd4)) ?_
 refine AO.pu T (d:=.g [.s (List.map ze5 y2.names),.s (List.map ze0 y2.marks),.v (.bool y2.late)]) ?_
 refine AO.x (als T 11) ?_
 refine AO.se T [.s (List.map ze5 y2.names),.s (List.map ze0 y2.marks),.v (.bool y2.late)] ?_
 refine AO.n ?_
 obtain ⟨x22,hx23,hH⟩:=zB hH
 obtain ⟨x24,hx25,hH⟩:=zB hH
 obtain ⟨u26,hx27,hH⟩:=zB hH
 refine AW.drawn 11 12 [] mix (by kernel_rfl) rfl ?_
 iterate 3 refine AD.pu T ?_
 refine AD.q (FStep.call rfl rfl rfl rfl rfl (qMw _ _ (hx23)) rfl rfl) (qDj _ _) (qGc _ _) rfl ?_
 iterate 2 refine AD.pu T ?_
 refine AD.q (FStep.call rfl rfl rfl rfl rfl (qIV _ _ (hx25)) rfl rfl) (qDj _ _) (qGc _ _) rfl ?_
 iterate 2 refine AD.pu T ?_
 refine AD.pured T (d:=.g [.R 12,.R 13,.v (.bool y2.late)]) rfl rfl rfl rfl ?_
 refine AD.kk (FStep.mk_o T rfl rfl rfl rfl rfl rfl rfl rfl (f:=qGM) (l:=[(Item.mk x22 x24 y2.late)]) (ids:=[12,13]) rfl rfl (fun _=>rfl) (by exact zC (.rowR rfl) (zC (.rowR rfl) (zC .v (zCn)))) (by decide) rfl rfl rfl rfl) ?_
 refine AD.nil (AO.x (qEP T rfl 15 rfl rfl rfl rfl rfl (by decide) rfl rfl rfl rfl rfl (qA4 (hx27)) rfl rfl) ?_)
 refine AO.pu T ?_
 refine AO.n (AW.r ?_)
 refine AO.w (zR rfl rfl rfl rfl (zK hlt6 hb5)) ?_
 refine AO.pu T ?_
 refine AO.n ?_
 refine ⟨(k1+1,(v20++[(Item.mk x22 x24 y2.late)])),⟨Nat.succ_le_of_lt hlt6,(by rw [zds hd4];exact hH)⟩,(by have:=hlt6;dsimp only;omega),?_⟩
 exact Le.ct 15 10

def qDP (l:List Item) (x1:(List Item)):Nat→List Item→Int→Option ((List Item))
 | 0,_,_=>none
 | k3+1,v10,v11 =>
  cond (decide (v11 < (x1.length:Int)))
   ((qAb v10 v11).bind fun x13 =>
   qDP l x1 k3 (v10.set v11.toNat (Item.mk x13.names x13.marks (decide ((w64 (2 * v11)) ≥ (l.length:Int))))) (w64 (v11+1)))
   (some v10)
def qEG (fuel:Nat) (l:List Item):Option (List Item) :=
 (qDu l).bind fun x1 =>
 qDP l x1 fuel x1 0
theorem qGG (fuel:Nat) (l:List Item) (r:(List Item)) (hH:qEG fuel l=some r):qAE Tryz.prog 182 [.s (List.map ze2 l)] (.w 3 (r.map qGM)):=by
 refine fns T Tryz.func182 ?_
 refine AW.q (AW.r (AO.pu T ?_))
 refine AO.n (AW.q ?_)
 obtain ⟨x1,hx2,hH⟩:=zB hH
 refine AW.r (AO.pu T ?_)
 refine AO.x (qBk rfl 1 rfl rfl rfl (qDx _ _ (hx2)) rfl rfl rfl) ?_
 refine AO.pu T ?_
 refine AO.n (AW.q (AW.q ?_))
 refine AW.r (AO.pu T ?_)
 refine AO.w (qGn T) ?_
 refine AO.pu T ?_
 refine AO.n (AW.b ?_)
 refine AW.loopS (fun s:Nat × (List Item) × Int=>(⟨[(0,.s (List.map ze2 l)),(3,.R 1),(8,(x1.length:Int)),(9,s.2.2)],[(1,.row 3 (List.map qGM s.2.1))],23,[]⟩:St)) (fun s=>qDP l x1 s.1 s.2.1 s.2.2=some r) (fun s=>s.1) (fuel,x1,0) hH ?_ ?_
 exact Le.ct 0 0
 rintro ⟨k3,v10,v11⟩ hH
 replace hH:qDP l x1 k3 v10 v11=some r:=hH
 try dsimp only
 rcases k3 with _ | k3
 cases (show none=some _ from hH)
 rw [qDP] at hH
 refine AW.q (AW.r (AO.pu T ?_))
 refine AO.n (AW.q (AW.c (b:=decide (v11 < (x1.length:Int))) rfl (fun hc=>?_) (fun hc=>?_)))
 replace hH:=condT hc hH
 refine AW.k (AW.q ?_)
 refine AW.b (AW.q (AW.r ?_))
 refine AO.p2 T ?_
 refine AO.n ?_
 obtain ⟨x13,hx14,hH⟩:=zB hH
 refine AW.r ?_
 iterate 3 refine AO.pu T ?_
 refine AO.w aws ?_
 refine AO.pu T ?_
 refine AO.w (qCC T) ?_
 refine AO.pu T ?_
 refine AO.w (ixr T (hx14)) ?_
 refine AO.pu T ?_
 refine AO.x (zSr T rfl rfl rfl rfl rfl (zgG (hx14)) rfl rfl rfl rfl (u':=(Item.mk x13.names x13.marks (decide ((w64 (2 * v11)) ≥ (l.length:Int))))) rfl rfl) ?_
 refine AO.n (AW.r ?_)
 refine AO.w aws ?_
 refine AO.pu T ?_
 refine AO.n ?_
 refine ⟨(k3,(v10.set v11.toNat (Item.mk x13.names x13.marks (decide ((w64 (2 * v11)) ≥ (l.length:Int))))),w64 (v11+1)),hH,Nat.lt_succ_self _,?_⟩
 exact Le.ct 0 0
 replace hH:=condF hc hH
 refine AW.exit (AW.q (AW.r ?_))
 refine AO.p2 T ?_
 refine AO.n (AW.t ?_)
 have hR:=zS hH;subst hR
 exact retQ.i [1] rfl (.c (.c (.rowR rfl)))

def qAp (n:Int) (lo:Int) (hi:Int):Option Bool :=
 some (decide (n ≥ lo) && decide (n ≤ hi))
theorem qAt (n:Int) (lo:Int) (hi:Int) (r:Bool) (hH:qAp n lo hi=some r):qAE Tryz.prog 68 [n,lo,hi] (.v (.bool r)):=by
 refine fns T Tryz.func68 ?_
 refine AW.q (AW.r (AO.pu T ?_))
 refine AO.n (AW.q (AW.r ?_))
 iterate 4 refine AO.pu T ?_
 iterate 2 refine AO.g T [] rfl trivial rfl rfl ?_
 refine AO.g T [11,12] rfl ⟨fun h=>h,fun h=>h,trivial⟩ rfl rfl ?_
 refine AO.w qFy ?_
 refine AO.pu T ?_
 refine AO.n (AW.t ?_)
 have hR:=zS hH;subst hR
 exact retQ.i [] rfl (.c (.c .v))

def qDR (sA:ByteArray):Nat→Int→Option Bool
 | 0,_=>none
 | k1+1,v7 =>
  cond (decide (v7 < (sA.size:Int)))
   ((qSi sA v7).bind fun b9 =>
   cond ((decide ((b9.toNat:Int) < 65) || decide ((b9.toNat:Int) > 90)) && (decide ((b9.toNat:Int) < 48) || decide ((b9.toNat:Int) > 57)))
    (some false)
    (qDR sA k1 (w64 (v7+1))))
   ((qAp (sA.size:Int) 1 5).bind fun x11 =>
   some x11)
def qIP (fuel:Nat) (sA:ByteArray):Option Bool :=
 qDR sA fuel 0
theorem qM4 (fuel:Nat) (sA:ByteArray) (r:Bool) (hH:qIP fuel sA=some r):qAE Tryz.prog 114 [.v (.string sA)] (.v (.bool r)):=by
 refine fns T Tryz.func114 ?_
 refine AW.q (AW.r (AO.pu T ?_))
 refine AO.n (AW.q (AW.q ?_))
 refine AW.r (AO.pu T ?_)
 refine AO.n (AW.b ?_)
 refine AW.loopS (fun s:Nat × Int=>(⟨[(0,.v (.string sA)),(3,s.2)],[],35,[]⟩:St)) (fun s=>qDR sA s.1 s.2=some r) (fun s=>s.1) (fuel,0) hH ?_ ?_
 exact Le.ct 0 0
 rintro ⟨k1,v7⟩ hH
 replace hH:qDR sA k1 v7=some r:=hH
 try dsimp only
 rcases k1 with _ | k1
 cases (show none=some _ from hH)
 rw [qDR] at hH
 refine AW.q (AW.q (AW.r ?_))
 iterate 4 refine AO.pu T ?_
 refine AO.n (AW.c (b:=decide (v7 < (sA.size:Int))) rfl (fun hc=>?_) (fun hc=>?_))
 replace hH:=condT hc hH
 refine AW.k (AW.q ?_)
 refine AW.b (AW.q ?_)
 obtain ⟨b9,hx10,hH⟩:=zB hH
 refine AW.r (AO.p2 T ?_)
 refine AO.w (qEm T rfl rfl rfl rfl (hx10)) ?_
 refine AO.p2 T ?_
 iterate 2 refine AO.g T [] rfl trivial rfl rfl ?_
 refine AO.d [15,16] rfl ⟨fun h=>h,fun h=>h,trivial⟩ (fun hg=>qEm T rfl rfl rfl rfl (hx10)) rfl ?_
 refine AO.g T [17] rfl ⟨fun h=>h,trivial⟩ rfl rfl ?_
 refine AO.w ors ?_
 refine AO.pu T ?_
 iterate 2 refine AO.g T [] rfl trivial rfl rfl ?_
 refine AO.d [21,22] rfl ⟨fun h=>h,fun h=>h,trivial⟩ (fun hg=>qEm T rfl rfl rfl rfl (hx10)) rfl ?_
 refine AO.g T [23] rfl ⟨fun h=>h,trivial⟩ rfl rfl ?_
 refine AO.g T [24] rfl ⟨fun h=>h,trivial⟩ rfl rfl ?_
 iterate 2 refine AO.g T [] rfl trivial rfl rfl ?_
 refine AO.d [26,27] rfl ⟨fun h=>h,fun h=>h,trivial⟩ (fun hg=>qEm T rfl rfl rfl rfl (hx10)) rfl ?_
 refine AO.g T [28] rfl ⟨fun h=>h,trivial⟩ rfl rfl ?_
 refine AO.d [25] rfl ⟨fun h=>h,trivial⟩ (fun hg=>zO rfl rfl rfl (by rw [hg];exact Bool.true_and _)) rfl ?_
 refine AO.w qFy ?_
 refine AO.n (AW.le (Le.ct 0 0 (σ':=(⟨[(0,.v (.string sA)),(3,v7),(31,.v (.bool ((decide ((b9.toNat:Int) < 65) || decide ((b9.toNat:Int) > 90)) && (decide ((b9.toNat:Int) < 48) || decide ((b9.toNat:Int) > 57)))))],[],35,[]⟩:St))) ?_)
 refine AW.c (b:=((decide ((b9.toNat:Int) < 65) || decide ((b9.toNat:Int) > 90)) && (decide ((b9.toNat:Int) < 48) || decide ((b9.toNat:Int) > 57)))) rfl (fun hc=>?_) (fun hc=>?_)
 replace hH:=condT hc hH
 refine AW.q (AW.r (AO.pu T ?_))
 refine AO.n (AW.t ?_)
 have hR:=zS hH;subst hR
 exact retQ.i [] rfl (.c (.c .v))
 replace hH:=condF hc hH
 refine AW.k (AW.r ?_)
 refine AO.pu T ?_
 refine AO.w aws ?_
 refine AO.pu T ?_
 refine AO.n ?_
 refine ⟨(k1,w64 (v7+1)),hH,Nat.lt_succ_self _,?_⟩
 exact Le.ct 0 0
 replace hH:=condF hc hH
 refine AW.exit (AW.q ?_)
 obtain ⟨x11,hx12,hH⟩:=zB hH
 refine AW.r (AO.p2 T ?_)
 refine AO.w (cVs (qAt _ _ _ _ (hx12))) ?_
 refine AO.pu T ?_
 refine AO.n (AW.t ?_)
 have hR:=zS hH;subst hR
 exact retQ.i [] rfl (.c (.c .v))

def qGg (fuel:Nat) (x:Element):Option Bool :=
 (qIP fuel x.name).bind fun x1 =>
 (opt x1 default (qAp x.family 0 4)).bind fun x3 =>
 (opt (x1 && x3) default (qAp x.level 0 4)).bind fun x5 =>
 (opt ((x1 && x3) && x5) default (qAp x.base 1 2000)).bind fun x7 =>
 some (((x1 && x3) && x5) && x7)
theorem qK9 (fuel:Nat) (x:Element) (r:Bool) (hH:qGg fuel x=some r):qAE Tryz.prog 67 [.g (ze3 x)] (.v (.bool r)):=by
 refine fns T Tryz.func67 ?_
 refine AW.q (AW.r (AO.x (bxs T 1) ?_))
 refine AO.pu T ?_
 refine AO.n (AW.q ?_)
 obtain ⟨x1,hx2,hH⟩:=zB hH
 obtain ⟨x3,hx4,hH⟩:=zB hH
 obtain ⟨x5,hx6,hH⟩:=zB hH
 obtain ⟨x7,hx8,hH⟩:=zB hH
 refine AW.r (AO.p2 T ?_)
 refine AO.w (cVs (qM4 fuel _ _ (hx2))) ?_
 refine AO.pu T ?_
 refine AO.g T [] rfl trivial rfl rfl ?_
 refine AO.g T [7] rfl ⟨fun h=>h,trivial⟩ rfl rfl ?_
 refine AO.d [8] rfl ⟨fun h=>h,trivial⟩ (fun hg=>zV rfl rfl rfl rfl (qAt _ _ _ _ (qEA hx4 hg)) rfl) rfl ?_
 refine AO.w qFy ?_
 refine AO.pu T ?_
 refine AO.g T [] rfl trivial rfl rfl ?_
 refine AO.g T [12] rfl ⟨fun h=>h,trivial⟩ rfl rfl ?_
 refine AO.d [13] rfl ⟨fun h=>h,trivial⟩ (fun hg=>zV rfl rfl rfl rfl (qAt _ _ _ _ (qEA hx6 hg)) rfl) rfl ?_
 refine AO.w qFy ?_
 refine AO.pu T ?_
 refine AO.g T [] rfl trivial rfl rfl ?_
 refine AO.g T [17] rfl ⟨fun h=>h,trivial⟩ rfl rfl ?_
 refine AO.d [18] rfl ⟨fun h=>h,trivial⟩ (fun hg=>zV rfl rfl rfl rfl (qAt _ _ _ _ (qEA hx8 hg)) rfl) rfl ?_
 refine AO.w qFy ?_
 refine AO.pu T ?_
 refine AO.n (AW.t ?_)
 have hR:=zS hH;subst hR
 exact retQ.i [] rfl (.c (.c .v))

def qB7 (lo:Int) (hi:Int):List Int→Nat→Option Bool
 | [],k1 =>
  some true
 | y2::ys3,k1 =>
  (qAp y2 lo hi).bind fun x12 =>
  cond (!x12)
   (some false)
   (qB7 lo hi ys3 (k1+1))
def qCy (l:List Int) (lo:Int) (hi:Int):Option Bool :=
 qB7 lo hi l 0
theorem qFf (l:List Int) (lo:Int) (hi:Int) (r:Bool) (hH:qCy l lo hi=some r):qAE Tryz.prog 69 [.s (List.map ze0 l),lo,hi] (.v (.bool r)):=by
 refine fns T Tryz.func69 ?_
 refine AW.q (AW.r (AO.pu T ?_))
 refine AO.n (AW.q (AW.q ?_))
 refine AW.r (AO.pu T ?_)
 refine AO.w (qCC T) ?_
 refine AO.pu T ?_
 refine AO.n (AW.b ?_)
 refine AW.loopS (fun s:Nat=>(⟨[(1,lo),(2,hi),(9,.s (List.map ze0 l)),(10,(l.length:Int)),(11,(s:Int))],[],21,[]⟩:St)) (fun s=>s ≤ l.length∧qB7 lo hi (l.drop s) s=some r) (fun s=>l.length - s) 0 ⟨Nat.zero_le _,hH⟩ ?_ ?_
 exact Le.ct 0 0
 rintro k1 ⟨hk,hH⟩
 replace hH:qB7 lo hi (l.drop k1) k1=some r:=hH
 try dsimp only
 refine AW.boundM (t:=9) (l:=l) rfl (fun hb5=>?_)
 rcases hd4:l.drop k1 with _ | ⟨y2,ys3⟩
 rw [hd4,qB7] at hH
 have hlt6:=qAJ hd4
 refine AW.q (AW.r (AO.pu T ?_))
 refine AO.n (AW.q (AW.condF' (b:=decide ((k1:Int) < (l.length:Int))) rfl (qEQ hlt6) ?_))
 refine AW.exit (AW.q (AW.r ?_))
 refine AO.pu T ?_
 refine AO.n (AW.t ?_)
 have hR:=zS hH;subst hR
 exact retQ.i [] rfl (.c (.c .v))
 rw [hd4,qB7] at hH
 have hlt6:=qAK hd4
 refine AW.q (AW.r (AO.pu T ?_))
 refine AO.n (AW.q (AW.condT' (b:=decide ((k1:Int) < (l.length:Int))) rfl (qER hlt6) ?_))
 refine AW.k (AW.q ?_)
 refine AW.b (AW.q (AW.r ?_))
 refine AO.w (ixs T (zgD hd4)) ?_
 refine AO.p2 T ?_
 refine AO.n (AW.q ?_)
 obtain ⟨x12,hx13,hH⟩:=zB hH
 refine AW.r ?_
 iterate 3 refine AO.pu T ?_
 refine AO.w (cVs (qAt _ _ _ _ (hx13))) ?_
 refine AO.pu T ?_
 refine AO.n (AW.c (b:=(!x12)) rfl (fun hc=>?_) (fun hc=>?_))
 replace hH:=condT hc hH
 refine AW.q (AW.r (AO.pu T ?_))
 refine AO.n (AW.t ?_)
 have hR:=zS hH;subst hR
 exact retQ.i [] rfl (.c (.c .v))
 replace hH:=condF hc hH
 refine AW.k (AW.r ?_)
 refine AO.w (zR rfl rfl rfl rfl (zK hlt6 hb5)) ?_
 refine AO.pu T ?_
 refine AO.n ?_
 refine ⟨k1+1,⟨Nat.succ_le_of_lt hlt6,(by rw [zds hd4];exact hH)⟩,(by have:=hlt6;dsimp only;omega),?_⟩
 exact Le.ct 0 0

def qBf (c:Code) (fuel:Nat):List Element→Nat→Option Bool
 | [],k1 =>
  (qAp (c.elements.length:Int) 1 24).bind fun x16 =>
  (opt (x16 && ((c.limits.length:Int) == 5)) default (qCy c.limits 0 9)).bind fun x18 =>
  (opt ((x16 && ((c.limits.length:Int) == 5)) && x18) default (qAp c.repeats 1 3)).bind fun x20 =>
  (opt (((x16 && ((c.limits.length:Int) == 5)) && x18) && x20) default (qAp c.bonus 0 20)).bind fun x22 =>
  (opt ((((x16 && ((c.limits.length:Int) == 5)) && x18) && x20) && x22) default (qAp c.keeps 50 100)).bind fun x24 =>
  (opt (((((x16 && ((c.limits.length:Int) == 5)) && x18) && x20) && x22) && x24) default (qAp c.fall 0 500)).bind fun x26 =>
  some ((((((x16 && ((c.limits.length:Int) == 5)) && x18) && x20) && x22) && x24) && x26)
 | y2::ys3,k1 =>
  (qGg fuel y2).bind fun x28 =>
  (opt ((!(!x28)) && decide ((k1:Int) > 0)) default (qAb c.elements (w64 ((k1:Int) - 1)))).bind fun x30 =>
  cond ((!x28) || (decide ((k1:Int) > 0) && (!qL8 x30.name y2.name)))
   (some false)
   (qBf c fuel ys3 (k1+1))
def qEs (fuel:Nat) (c:Code):Option Bool :=
 qBf c fuel c.elements 0
theorem qHr (fuel:Nat) (c:Code) (r:Bool) (hH:qEs fuel c=some r):qAE Tryz.prog 27 [.g (ze7 c)] (.v (.bool r)):=by
 refine fns T Tryz.func27 ?_
 refine AW.q (AW.r (AO.x (bxs T 1) ?_))
 refine AO.pu T ?_
 refine AO.n (AW.q (AW.q ?_))
 refine AW.r (AO.p2 T ?_)
 refine AO.w (qCC T) ?_
 refine AO.pu T ?_
 refine AO.n (AW.b ?_)
 refine AW.loopS (fun s:Nat=>(⟨[(1,.p 1 0),(6,.s (List.map ze3 c.elements)),(7,(c.elements.length:Int)),(8,(s:Int))],[(1,.box [.s (List.map ze3 c.elements),.s (List.map ze0 c.limits),c.repeats,c.bonus,c.keeps,c.fall])],68,[]⟩:St)) (fun s=>s ≤ c.elements.length∧qBf c fuel (c.elements.drop s) s=some r) (fun s=>c.elements.length - s) 0 ⟨Nat.zero_le _,hH⟩ ?_ ?_
 exact Le.ct 0 0
 rintro k1 ⟨hk,hH⟩
 replace hH:qBf c fuel (c.elements.drop k1) k1=some r:=hH
 try dsimp only
 refine AW.boundM (t:=6) (l:=c.elements) rfl (fun hb5=>?_)
 rcases hd4:c.elements.drop k1 with _ | ⟨y2,ys3⟩
 rw [hd4,qBf] at hH
 have hlt6:=qAJ hd4
 refine AW.q (AW.r (AO.pu T ?_))
 refine AO.n (AW.q (AW.condF' (b:=decide ((k1:Int) < (c.elements.length:Int))) rfl (qEQ hlt6) ?_))
 refine AW.exit (AW.q ?_)
 obtain ⟨x16,hx17,hH⟩:=zB hH
 obtain ⟨x18,hx19,hH⟩:=zB hH
 obtain ⟨x20,hx21,hH⟩:=zB hH
 obtain ⟨x22,hx23,hH⟩:=zB hH
 obtain ⟨x24,hx25,hH⟩:=zB hH
 obtain ⟨x26,hx27,hH⟩:=zB hH
 refine AW.r (AO.p2 T ?_)
 refine AO.w (qCC T) ?_
 refine AO.w (cVs (qAt _ _ _ _ (hx17))) ?_
 refine AO.pu T ?_
 refine AO.g T [] rfl trivial rfl rfl ?_
 refine AO.g T [38] rfl ⟨fun h=>h,trivial⟩ rfl rfl ?_
 refine AO.d [39] rfl ⟨fun h=>h,trivial⟩ (fun hg=>zL T rfl rfl rfl) rfl ?_
 refine AO.g T [40] rfl ⟨fun h=>h,trivial⟩ rfl rfl ?_
 refine AO.w qFy ?_
 refine AO.pu T ?_
 refine AO.g T [] rfl trivial rfl rfl ?_
 refine AO.g T [44] rfl ⟨fun h=>h,trivial⟩ rfl rfl ?_
 refine AO.d [45] rfl ⟨fun h=>h,trivial⟩ (fun hg=>zV rfl rfl rfl rfl (qFf _ _ _ _ (qEA hx19 hg)) rfl) rfl ?_
 refine AO.w qFy ?_
 refine AO.pu T ?_
 refine AO.g T [] rfl trivial rfl rfl ?_
 refine AO.g T [49] rfl ⟨fun h=>h,trivial⟩ rfl rfl ?_
 refine AO.d [50] rfl ⟨fun h=>h,trivial⟩ (fun hg=>zV rfl rfl rfl rfl (qAt _ _ _ _ (qEA hx21 hg)) rfl) rfl ?_
 refine AO.w qFy ?_
 refine AO.pu T ?_
 refine AO.g T [] rfl trivial rfl rfl ?_
 refine AO.g T [54] rfl ⟨fun h=>h,trivial⟩ rfl rfl ?_
 refine AO.d [55] rfl ⟨fun h=>h,trivial⟩ (fun hg=>zV rfl rfl rfl rfl (qAt _ _ _ _ (qEA hx23 hg)) rfl) rfl ?_
 refine AO.w qFy ?_
 refine AO.pu T ?_
 refine AO.g T [] rfl trivial rfl rfl ?_
 refine AO.g T [59] rfl ⟨fun h=>h,trivial⟩ rfl rfl ?_
 refine AO.d [60] rfl ⟨fun h=>h,trivial⟩ (fun hg=>zV rfl rfl rfl rfl (qAt _ _ _ _ (qEA hx25 hg)) rfl) rfl ?_
 refine AO.w qFy ?_
 refine AO.pu T ?_
 refine AO.g T [] rfl trivial rfl rfl ?_
 refine AO.g T [64] rfl ⟨fun h=>h,trivial⟩ rfl rfl ?_
 refine AO.d [65] rfl ⟨fun h=>h,trivial⟩ (fun hg=>zV rfl rfl rfl rfl (qAt _ _ _ _ (qEA hx27 hg)) rfl) rfl ?_
 refine AO.w qFy ?_
 refine AO.pu T ?_
 refine AO.n (AW.le (Le.ct 0 0 (σ':=(⟨[(2,.v (.bool ((((((x16 && ((c.limits.length:Int) == 5)) && x18) && x20) && x22) && x24) && x26)))],[],68,[]⟩:St))) ?_)
 refine AW.t ?_
 have hR:=zS hH;subst hR
 exact retQ.i [] rfl (.c (.c .v))
 rw [hd4,qBf] at hH
 have hlt6:=qAK hd4
 refine AW.q (AW.r (AO.pu T ?_))
 refine AO.n (AW.q (AW.condT' (b:=decide ((k1:Int) < (c.elements.length:Int))) rfl (qER hlt6) ?_))
 refine AW.k (AW.q ?_)
 refine AW.b (AW.q (AW.r ?_))
 refine AO.pu T ?_
 refine AO.w (ixs T (zgD hd4)) ?_
 refine AO.pu T (d:=.g [.v (.string y2.name),y2.family,y2.level,y2.base]) ?_
 refine AO.x (als T 4) ?_
 refine AO.pu T ?_
 refine AO.se T [.v (.string y2.name),y2.family,y2.level,y2.base] ?_
 refine AO.n (AW.q ?_)
 obtain ⟨x28,hx29,hH⟩:=zB hH
 obtain ⟨x30,hx31,hH⟩:=zB hH
 refine AW.drawn 16 5 [] mix (by kernel_rfl) rfl ?_
 refine AD.p T (d:=.g [.v (.string y2.name),y2.family,y2.level,y2.base]) rfl rfl rfl ?_
 refine AD.vv (cVs (qK9 fuel _ _ (hx29))) ?_
 iterate 2 refine AD.pu T ?_
 refine AD.pureG T [] rfl trivial rfl rfl ?_
 refine AD.pureG T [17] rfl ⟨fun h=>h,trivial⟩ rfl rfl ?_
 refine AD.pureG T [18] rfl ⟨fun h=>h,trivial⟩ rfl rfl ?_
 refine AD.pureG T [] rfl trivial rfl rfl ?_
 refine AD.pureG T [20] rfl ⟨fun h=>h,trivial⟩ rfl rfl ?_
 refine AD.pureG T [] rfl trivial rfl rfl ?_
 refine AD.guard [22] rfl ⟨fun h=>h,trivial⟩ (fun hg=>zW rfl rfl rfl rfl) rfl ?_
 refine AD.guard [21,23] rfl ⟨fun h=>h,fun h=>h,trivial⟩ (fun hg=>zX T rfl rfl rfl rfl rfl (qEA hx31 hg) rfl) rfl ?_
 refine AD.pureG T [24] rfl ⟨fun h=>h,trivial⟩ rfl rfl ?_
 refine AD.pureG T [25] rfl ⟨fun h=>h,trivial⟩ rfl rfl ?_
 refine AD.pureG T [] rfl trivial rfl rfl ?_
 refine AD.pureG T [27] rfl ⟨fun h=>h,trivial⟩ rfl rfl ?_
 refine AD.nil (AO.g T [26,28] rfl ⟨fun h=>h,fun h=>h,trivial⟩ rfl rfl ?_)
 refine AO.d [19] rfl ⟨fun h=>h,trivial⟩ (fun hg=>zN rfl rfl rfl (by rw [hg];exact Bool.true_and _)) rfl ?_
 refine AO.w ors ?_
 refine AO.n (AW.le (Le.ct 0 0 (σ':=(⟨[(1,.p 1 0),(6,.s (List.map ze3 c.elements)),(7,(c.elements.length:Int)),(8,(k1:Int)),(31,.v (.bool ((!x28) || (decide ((k1:Int) > 0) && (!qL8 x30.name y2.name)))))],[(1,.box [.s (List.map ze3 c.elements),.s (List.map ze0 c.limits),c.repeats,c.bonus,c.keeps,c.fall])],68,[]⟩:St))) ?_)
 refine AW.c (b:=((!x28) || (decide ((k1:Int) > 0) && (!qL8 x30.name y2.name)))) rfl (fun hc=>?_) (fun hc=>?_)
 replace hH:=condT hc hH
 refine AW.q (AW.r (AO.pu T ?_))
 refine AO.n (AW.t ?_)
 have hR:=zS hH;subst hR
 exact retQ.i [] rfl (.c (.c .v))
 replace hH:=condF hc hH
 refine AW.k (AW.r ?_)
 refine AO.w (zR rfl rfl rfl rfl (zK hlt6 hb5)) ?_
 refine AO.pu T ?_
 refine AO.n ?_
 refine ⟨k1+1,⟨Nat.succ_le_of_lt hlt6,(by rw [zds hd4];exact hH)⟩,(by have:=hlt6;dsimp only;omega),?_⟩
 exact Le.ct 0 0

def qII (b:Int):Option Bool :=
 some ((decide (b ≥ 65) && decide (b ≤ 90)) || (decide (b ≥ 48) && decide (b ≤ 57)))
theorem qM8 (b:Int) (r:Bool) (hH:qII b=some r):qAE Tryz.prog 221 [.v (.int .u8 b)] (.v (.bool r)):=by
 refine fns T Tryz.func221 ?_
 refine AW.q (AW.r (AO.pu T ?_))
 refine AO.n (AW.q (AW.r ?_))
 iterate 3 refine AO.pu T ?_
 refine AO.g T [] rfl trivial rfl rfl ?_
 refine AO.g T [6] rfl ⟨fun h=>h,trivial⟩ rfl rfl ?_
 refine AO.w qFy ?_
 refine AO.pu T ?_
 refine AO.g T [] rfl trivial rfl rfl ?_
 refine AO.g T [10] rfl ⟨fun h=>h,trivial⟩ rfl rfl ?_
 refine AO.g T [11] rfl ⟨fun h=>h,trivial⟩ rfl rfl ?_
 refine AO.g T [] rfl trivial rfl rfl ?_
 refine AO.g T [13] rfl ⟨fun h=>h,trivial⟩ rfl rfl ?_
 refine AO.d [12] rfl ⟨fun h=>h,trivial⟩ (fun hg=>zN rfl rfl rfl (by rw [hg];exact Bool.true_and _)) rfl ?_
 refine AO.w ors ?_
 refine AO.pu T ?_
 refine AO.n (AW.t ?_)
 have hR:=zS hH;subst hR
 exact retQ.i [] rfl (.c (.c .v))

def qDQ (sA:ByteArray):Nat→Int→Option Bool
 | 0,_=>none
 | k1+1,v11 =>
  cond (decide (v11 < (sA.size:Int)))
   ((qSi sA v11).bind fun b13 =>
   (qII (b13.toNat:Int)).bind fun x15 =>
   cond (!x15)
    (some false)
    (qDQ sA k1 (w64 (v11+1))))
   ((qAp (sA.size:Int) 1 5).bind fun x17 =>
   some x17)
def qIj (fuel:Nat) (sA:ByteArray):Option Bool :=
 qDQ sA fuel 0
theorem qM2 (fuel:Nat) (sA:ByteArray) (r:Bool) (hH:qIj fuel sA=some r):qAE Tryz.prog 213 [.v (.string sA)] (.v (.bool r)):=by
 refine fns T Tryz.func213 ?_
 refine AW.q (AW.r (AO.pu T ?_))
 refine AO.n (AW.q (AW.q ?_))
 refine AW.r (AO.pu T ?_)
 refine AO.n (AW.b ?_)
 refine AW.loopS (fun s:Nat × Int=>(⟨[(0,.v (.string sA)),(3,s.2)],[],18,[]⟩:St)) (fun s=>qDQ sA s.1 s.2=some r) (fun s=>s.1) (fuel,0) hH ?_ ?_
 exact Le.ct 0 0
 rintro ⟨k1,v11⟩ hH
 replace hH:qDQ sA k1 v11=some r:=hH
 try dsimp only
 rcases k1 with _ | k1
 cases (show none=some _ from hH)
 rw [qDQ] at hH
 refine AW.q (AW.q (AW.r ?_))
 iterate 4 refine AO.pu T ?_
 refine AO.n (AW.c (b:=decide (v11 < (sA.size:Int))) rfl (fun hc=>?_) (fun hc=>?_))
 replace hH:=condT hc hH
 refine AW.k (AW.q ?_)
 refine AW.b (AW.q ?_)
 obtain ⟨b13,hx14,hH⟩:=zB hH
 obtain ⟨x15,hx16,hH⟩:=zB hH
 refine AW.r (AO.p2 T ?_)
 refine AO.w (qEm T rfl rfl rfl rfl (hx14)) ?_
 refine AO.w (cVs (qM8 _ _ (hx16))) ?_
 refine AO.pu T ?_
 refine AO.n (AW.c (b:=(!x15)) rfl (fun hc=>?_) (fun hc=>?_))
 replace hH:=condT hc hH
 refine AW.q (AW.r (AO.pu T ?_))
 refine AO.n (AW.t ?_)
 have hR:=zS hH;subst hR
 exact retQ.i [] rfl (.c (.c .v))
 replace hH:=condF hc hH
 refine AW.k (AW.r ?_)
 refine AO.pu T ?_
 refine AO.w aws ?_
 refine AO.pu T ?_
 refine AO.n ?_
 refine ⟨(k1,w64 (v11+1)),hH,Nat.lt_succ_self _,?_⟩
 exact Le.ct 0 0
 replace hH:=condF hc hH
 refine AW.exit (AW.q ?_)
 obtain ⟨x17,hx18,hH⟩:=zB hH
 refine AW.r (AO.p2 T ?_)
 refine AO.w (cVs (qAt _ _ _ _ (hx18))) ?_
 refine AO.pu T ?_
 refine AO.n (AW.t ?_)
 have hR:=zS hH;subst hR
 exact retQ.i [] rfl (.c (.c .v))

def qCs (it:Item) (fuel:Nat):List ByteArray→Nat→Option Bool
 | [],k1 =>
  (qAp (it.names.length:Int) 1 3).bind fun x12 =>
  (opt (x12 && ((it.marks.length:Int) == (it.names.length:Int))) default (qCy it.marks 0 3)).bind fun x14 =>
  some ((x12 && ((it.marks.length:Int) == (it.names.length:Int))) && x14)
 | y2::ys3,k1 =>
  (qIj fuel y2).bind fun x16 =>
  cond (!x16)
   (some false)
   (qCs it fuel ys3 (k1+1))
def qFu (fuel:Nat) (it:Item):Option Bool :=
 qCs it fuel it.names 0
theorem qJw (fuel:Nat) (it:Item) (r:Bool) (hH:qFu fuel it=some r):qAE Tryz.prog 189 [.g (ze2 it)] (.v (.bool r)):=by
 refine fns T Tryz.func189 ?_
 refine AW.q (AW.r (AO.x (bxs T 1) ?_))
 refine AO.pu T ?_
 refine AO.n (AW.q (AW.q ?_))
 refine AW.r (AO.p2 T ?_)
 refine AO.w (qCC T) ?_
 refine AO.pu T ?_
 refine AO.n (AW.b ?_)
 refine AW.loopS (fun s:Nat=>(⟨[(1,.p 1 0),(6,.s (List.map ze5 it.names)),(7,(it.names.length:Int)),(8,(s:Int))],[(1,.box [.s (List.map ze5 it.names),.s (List.map ze0 it.marks),.v (.bool it.late)])],34,[]⟩:St)) (fun s=>s ≤ it.names.length∧qCs it fuel (it.names.drop s) s=some r) (fun s=>it.names.length - s) 0 ⟨Nat.zero_le _,hH⟩ ?_ ?_
 exact Le.ct 0 0
 rintro k1 ⟨hk,hH⟩
 replace hH:qCs it fuel (it.names.drop k1) k1=some r:=hH
 try dsimp only
 refine AW.boundM (t:=6) (l:=it.names) rfl (fun hb5=>?_)
 rcases hd4:it.names.drop k1 with _ | ⟨y2,ys3⟩
 rw [hd4,qCs] at hH
 have hlt6:=qAJ hd4
 refine AW.q (AW.r (AO.pu T ?_))
 refine AO.n (AW.q (AW.condF' (b:=decide ((k1:Int) < (it.names.length:Int))) rfl (qEQ hlt6) ?_))
 refine AW.exit (AW.q ?_)
 obtain ⟨x12,hx13,hH⟩:=zB hH
 obtain ⟨x14,hx15,hH⟩:=zB hH
 refine AW.r (AO.p2 T ?_)
 refine AO.w (qCC T) ?_
 refine AO.w (cVs (qAt _ _ _ _ (hx13))) ?_
 refine AO.pu T ?_
 refine AO.g T [] rfl trivial rfl rfl ?_
 refine AO.g T [21] rfl ⟨fun h=>h,trivial⟩ rfl rfl ?_
 refine AO.d [22] rfl ⟨fun h=>h,trivial⟩ (fun hg=>zL T rfl rfl rfl) rfl ?_
 refine AO.g T [] rfl trivial rfl rfl ?_
 refine AO.g T [24] rfl ⟨fun h=>h,trivial⟩ rfl rfl ?_
 refine AO.d [25] rfl ⟨fun h=>h,trivial⟩ (fun hg=>zL T rfl rfl rfl) rfl ?_
 refine AO.g T [23,26] rfl ⟨fun h=>h,fun h=>h,trivial⟩ rfl rfl ?_
 refine AO.w qFy ?_
 refine AO.pu T ?_
 refine AO.g T [] rfl trivial rfl rfl ?_
 refine AO.g T [30] rfl ⟨fun h=>h,trivial⟩ rfl rfl ?_
 refine AO.d [31] rfl ⟨fun h=>h,trivial⟩ (fun hg=>zV rfl rfl rfl rfl (qFf _ _ _ _ (qEA hx15 hg)) rfl) rfl ?_
 refine AO.w qFy ?_
 refine AO.pu T ?_
 refine AO.n (AW.t ?_)
 have hR:=zS hH;subst hR
 exact retQ.i [] rfl (.c (.c .v))
 rw [hd4,qCs] at hH
 have hlt6:=qAK hd4
 refine AW.q (AW.r (AO.pu T ?_))
 refine AO.n (AW.q (AW.condT' (b:=decide ((k1:Int) < (it.names.length:Int))) rfl (qER hlt6) ?_))
 refine AW.k (AW.q ?_)
 refine AW.b (AW.q (AW.r ?_))
 refine AO.w (ixs T (zgD hd4)) ?_
 refine AO.p2 T ?_
 refine AO.n (AW.q ?_)
 obtain ⟨x16,hx17,hH⟩:=zB hH
 refine AW.r (AO.pu T ?_)
 refine AO.w (cVs (qM2 fuel _ _ (hx17))) ?_
 refine AO.pu T ?_
 refine AO.n (AW.c (b:=(!x16)) rfl (fun hc=>?_) (fun hc=>?_))
 replace hH:=condT hc hH
 refine AW.q (AW.r (AO.pu T ?_))
 refine AO.n (AW.t ?_)
 have hR:=zS hH;subst hR
 exact retQ.i [] rfl (.c (.c .v))
 replace hH:=condF hc hH
 refine AW.k (AW.r ?_)
 refine AO.w (zR rfl rfl rfl rfl (zK hlt6 hb5)) ?_
 refine AO.pu T ?_
 refine AO.n ?_
 refine ⟨k1+1,⟨Nat.succ_le_of_lt hlt6,(by rw [zds hd4];exact hH)⟩,(by have:=hlt6;dsimp only;omega),?_⟩
 exact Le.ct 0 0

def qCo (l:List Item) (fuel:Nat):List Item→Nat→Option Bool
 | [],k1 =>
  some (decide ((l.length:Int) ≤ 14))
 | y2::ys3,k1 =>
  (qFu fuel y2).bind fun x12 =>
  cond (!x12)
   (some false)
   (qCo l fuel ys3 (k1+1))
def qGq (fuel:Nat) (l:List Item):Option Bool :=
 qCo l fuel l 0
theorem qJz (fuel:Nat) (l:List Item) (r:Bool) (hH:qGq fuel l=some r):qAE Tryz.prog 145 [.s (List.map ze2 l)] (.v (.bool r)):=by
 refine fns T Tryz.func145 ?_
 refine AW.q (AW.r (AO.pu T ?_))
 refine AO.n (AW.q (AW.q ?_))
 refine AW.r (AO.pu T ?_)
 refine AO.w (qCC T) ?_
 refine AO.pu T ?_
 refine AO.n (AW.b ?_)
 refine AW.loopS (fun s:Nat=>(⟨[(0,.s (List.map ze2 l)),(5,.s (List.map ze2 l)),(6,(l.length:Int)),(7,(s:Int))],[],18,[]⟩:St)) (fun s=>s ≤ l.length∧qCo l fuel (l.drop s) s=some r) (fun s=>l.length - s) 0 ⟨Nat.zero_le _,hH⟩ ?_ ?_
 exact Le.ct 0 0
 rintro k1 ⟨hk,hH⟩
 replace hH:qCo l fuel (l.drop k1) k1=some r:=hH
 try dsimp only
 refine AW.boundM (t:=0) (l:=l) rfl (fun hb5=>?_)
 rcases hd4:l.drop k1 with _ | ⟨y2,ys3⟩
 rw [hd4,qCo] at hH
 have hlt6:=qAJ hd4
 refine AW.q (AW.r (AO.pu T ?_))
 refine AO.n (AW.q (AW.condF' (b:=decide ((k1:Int) < (l.length:Int))) rfl (qEQ hlt6) ?_))
 refine AW.exit (AW.q (AW.r ?_))
 refine AO.pu T ?_
 refine AO.w (qCC T) ?_
 refine AO.p2 T ?_
 refine AO.n (AW.t ?_)
 have hR:=zS hH;subst hR
 exact retQ.i [] rfl (.c (.c .v))
 rw [hd4,qCo] at hH
 have hlt6:=qAK hd4
 refine AW.q (AW.r (AO.pu T ?_))
 refine AO.n (AW.q (AW.condT' (b:=decide ((k1:Int) < (l.length:Int))) rfl (qER hlt6) ?_))
 refine AW.k (AW.q ?_)
 refine AW.b (AW.q (AW.r ?_))
 refine AO.w (ixs T (zgD hd4)) ?_
 refine AO.pu T (d:=.g [.s (List.map ze5 y2.names),.s (List.map ze0 y2.marks),.v (.bool y2.late)]) ?_
 refine AO.x (als T 3) ?_
 refine AO.se T [.s (List.map ze5 y2.names),.s (List.map ze0 y2.marks),.v (.bool y2.late)] ?_
 refine AO.n (AW.q ?_)
 obtain ⟨x12,hx13,hH⟩:=zB hH
 refine AW.r (AO.pu T (d:=.g [.s (List.map ze5 y2.names),.s (List.map ze0 y2.marks),.v (.bool y2.late)]) ?_)
 refine AO.w (cVs (qJw fuel _ _ (hx13))) ?_
 refine AO.pu T ?_
 refine AO.n (AW.c (b:=(!x12)) rfl (fun hc=>?_) (fun hc=>?_))
 replace hH:=condT hc hH
 refine AW.q (AW.r (AO.pu T ?_))
 refine AO.n (AW.t ?_)
 have hR:=zS hH;subst hR
 exact retQ.i [] rfl (.c (.c .v))
 replace hH:=condF hc hH
 refine AW.k (AW.r ?_)
 refine AO.w (zR rfl rfl rfl rfl (zK hlt6 hb5)) ?_
 refine AO.pu T ?_
 refine AO.n ?_
 refine ⟨k1+1,⟨Nat.succ_le_of_lt hlt6,(by rw [zds hd4];exact hH)⟩,(by have:=hlt6;dsimp only;omega),?_⟩
 exact Le.ct 0 0

def qHi (fuel:Nat) (c:Code) (l:List Item):Option Bool :=
 (qEs fuel c).bind fun x1 =>
 (opt x1 default (qGq fuel l)).bind fun x3 =>
 some (x1 && x3)
theorem qMI (fuel:Nat) (c:Code) (l:List Item) (r:Bool) (hH:qHi fuel c l=some r):qAE Tryz.prog 210 [.g (ze7 c),.s (List.map ze2 l)] (.v (.bool r)):=by
 refine fns T Tryz.func210 ?_
 refine AW.q (AW.r (AO.x (bxs T 1) ?_))
 refine AO.pu T ?_
 refine AO.n (AW.q ?_)
 obtain ⟨x1,hx2,hH⟩:=zB hH
 obtain ⟨x3,hx4,hH⟩:=zB hH
 refine AW.r (AO.pu T (d:=.g [.s (List.map ze3 c.elements),.s (List.map ze0 c.limits),c.repeats,c.bonus,c.keeps,c.fall]) ?_)
 refine AO.w (cVs (qHr fuel _ _ (hx2))) ?_
 refine AO.pu T ?_
 refine AO.g T [] rfl trivial rfl rfl ?_
 refine AO.d [8] rfl ⟨fun h=>h,trivial⟩ (fun hg=>zV rfl rfl rfl rfl (qJz fuel _ _ (qEA hx4 hg)) rfl) rfl ?_
 refine AO.w qFy ?_
 refine AO.pu T ?_
 refine AO.n (AW.t ?_)
 have hR:=zS hH;subst hR
 exact retQ.i [] rfl (.c (.c .v))

def qCH:List Item→Nat→Option Bool
 | [],k1 =>
  some true
 | y2::ys3,k1 =>
  (qCy y2.marks 0 0).bind fun x12 =>
  cond (!x12)
   (some false)
   (qCH ys3 (k1+1))
def qHl (l:List Item):Option Bool :=
 qCH l 0
theorem qMX (l:List Item) (r:Bool) (hH:qHl l=some r):qAE Tryz.prog 225 [.s (List.map ze2 l)] (.v (.bool r)):=by
 refine fns T Tryz.func225 ?_
 refine AW.q (AW.r (AO.pu T ?_))
 refine AO.n (AW.q (AW.q ?_))
 refine AW.r (AO.pu T ?_)
 refine AO.w (qCC T) ?_
 refine AO.pu T ?_
 refine AO.n (AW.b ?_)
 refine AW.loopS (fun s:Nat=>(⟨[(5,.s (List.map ze2 l)),(6,(l.length:Int)),(7,(s:Int))],[],16,[]⟩:St)) (fun s=>s ≤ l.length∧qCH (l.drop s) s=some r) (fun s=>l.length - s) 0 ⟨Nat.zero_le _,hH⟩ ?_ ?_
 exact Le.ct 0 0
 rintro k1 ⟨hk,hH⟩
 replace hH:qCH (l.drop k1) k1=some r:=hH
 try dsimp only
 refine AW.boundM (t:=5) (l:=l) rfl (fun hb5=>?_)
 rcases hd4:l.drop k1 with _ | ⟨y2,ys3⟩
 rw [hd4,qCH] at hH
 have hlt6:=qAJ hd4
 refine AW.q (AW.r (AO.pu T ?_))
 refine AO.n (AW.q (AW.condF' (b:=decide ((k1:Int) < (l.length:Int))) rfl (qEQ hlt6) ?_))
 refine AW.exit (AW.q (AW.r ?_))
 refine AO.pu T ?_
 refine AO.n (AW.t ?_)
 have hR:=zS hH;subst hR
 exact retQ.i [] rfl (.c (.c .v))
 rw [hd4,qCH] at hH
 have hlt6:=qAK hd4
 refine AW.q (AW.r (AO.pu T ?_))
 refine AO.n (AW.q (AW.condT' (b:=decide ((k1:Int) < (l.length:Int))) rfl (qER hlt6) ?_))
 refine AW.k (AW.q ?_)
 refine AW.b (AW.q (AW.r ?_))
 refine AO.w (ixs T (zgD hd4)) ?_
 refine AO.pu T (d:=.g [.s (List.map ze5 y2.names),.s (List.map ze0 y2.marks),.v (.bool y2.late)]) ?_
 refine AO.x (als T 3) ?_
 refine AO.se T [.s (List.map ze5 y2.names),.s (List.map ze0 y2.marks),.v (.bool y2.late)] ?_
 refine AO.n (AW.q ?_)
 obtain ⟨x12,hx13,hH⟩:=zB hH
 refine AW.r (AO.p2 T ?_)
 refine AO.w (cVs (qFf _ _ _ _ (hx13))) ?_
 refine AO.pu T ?_
 refine AO.n (AW.c (b:=(!x12)) rfl (fun hc=>?_) (fun hc=>?_))
 replace hH:=condT hc hH
 refine AW.q (AW.r (AO.pu T ?_))
 refine AO.n (AW.t ?_)
 have hR:=zS hH;subst hR
 exact retQ.i [] rfl (.c (.c .v))
 replace hH:=condF hc hH
 refine AW.k (AW.r ?_)
 refine AO.w (zR rfl rfl rfl rfl (zK hlt6 hb5)) ?_
 refine AO.pu T ?_
 refine AO.n ?_
 refine ⟨k1+1,⟨Nat.succ_le_of_lt hlt6,(by rw [zds hd4];exact hH)⟩,(by have:=hlt6;dsimp only;omega),?_⟩
 exact Le.ct 0 0

def qAo:List Item→Nat→Int→Int→Option ((Int × Int))
 | [],k1,v9,v10 =>
  some (v9,v10)
 | y2::ys3,k1,v9,v10 =>
  cond (decide ((y2.names.length:Int) > 1))
   (cond (decide ((y2.names.length:Int) > 2))
    (qAo ys3 (k1+1) (w64 (v9+1)) (w64 (v10+1)))
    (qAo ys3 (k1+1) (w64 (v9+1)) v10))
   (cond (decide ((y2.names.length:Int) > 2))
    (qAo ys3 (k1+1) v9 (w64 (v10+1)))
    (qAo ys3 (k1+1) v9 v10))
def qF8 (l:List Item):Option (Int × Int) :=
 qAo l 0 0 0
theorem qKf (l:List Item) (r:(Int × Int)) (hH:qF8 l=some r):qAE Tryz.prog 226 [.s (List.map ze2 l)] (.t [.v (.int .i64 r.1),.v (.int .i64 r.2)]):=by
 refine fns T Tryz.func226 ?_
 refine AW.q (AW.r (AO.p2 T ?_))
 refine AO.n (AW.q (AW.r ?_))
 refine AO.p2 T ?_
 refine AO.n (AW.q (AW.q ?_))
 refine AW.r (AO.pu T ?_)
 refine AO.w (qCC T) ?_
 refine AO.pu T ?_
 refine AO.n (AW.b ?_)
 refine AW.loopS (fun s:Nat × Int × Int=>(⟨[(4,s.2.1),(5,s.2.2),(8,.s (List.map ze2 l)),(9,(l.length:Int)),(10,(s.1:Int))],[],29,[]⟩:St)) (fun s=>s.1 ≤ l.length∧qAo (l.drop s.1) s.1 s.2.1 s.2.2=some r) (fun s=>l.length - s.1) (0,0,0) ⟨Nat.zero_le _,hH⟩ ?_ ?_
 exact Le.ct 0 0
 rintro ⟨k1,v9,v10⟩ ⟨hk,hH⟩
 replace hH:qAo (l.drop k1) k1 v9 v10=some r:=hH
 try dsimp only
 refine AW.boundM (t:=8) (l:=l) rfl (fun hb5=>?_)
 rcases hd4:l.drop k1 with _ | ⟨y2,ys3⟩
 rw [hd4,qAo] at hH
 have hlt6:=qAJ hd4
 refine AW.q (AW.r (AO.pu T ?_))
 refine AO.n (AW.q (AW.condF' (b:=decide ((k1:Int) < (l.length:Int))) rfl (qEQ hlt6) ?_))
 refine AW.exit (AW.q (AW.r ?_))
 iterate 4 refine AO.pu T ?_
 refine AO.n (AW.t ?_)
 have hR:=zS hH;subst hR
 exact retQ.i [] rfl (.t (zG (.c .v) (zG (.c .v) (zGn))))
 rw [hd4,qAo] at hH
 have hlt6:=qAK hd4
 refine AW.q (AW.r (AO.pu T ?_))
 refine AO.n (AW.q (AW.condT' (b:=decide ((k1:Int) < (l.length:Int))) rfl (qER hlt6) ?_))
 refine AW.k (AW.q ?_)
 refine AW.b (AW.q (AW.r ?_))
 refine AO.w (ixs T (zgD hd4)) ?_
 refine AO.pu T (d:=.g [.s (List.map ze5 y2.names),.s (List.map ze0 y2.marks),.v (.bool y2.late)]) ?_
 refine AO.x (als T 3) ?_
 refine AO.se T [.s (List.map ze5 y2.names),.s (List.map ze0 y2.marks),.v (.bool y2.late)] ?_
 refine AO.n (AW.q (AW.q ?_))
 refine AW.r (AO.p2 T ?_)
 refine AO.w (qCC T) ?_
 refine AO.pu T ?_
 refine AO.n (AW.c (b:=decide ((y2.names.length:Int) > 1)) rfl (fun hc=>?_) (fun hc=>?_))
 replace hH:=condT hc hH
 refine AW.r (AO.pu T ?_)
 refine AO.w aws ?_
 refine AO.pu T ?_
 refine AO.n (AW.q (AW.r ?_))
 refine AO.p2 T ?_
 refine AO.w (qCC T) ?_
 refine AO.pu T ?_
 refine AO.n (AW.c (b:=decide ((y2.names.length:Int) > 2)) rfl (fun hc=>?_) (fun hc=>?_))
 replace hH:=condT hc hH
 refine AW.r (AO.pu T ?_)
 refine AO.w aws ?_
 refine AO.pu T ?_
 refine AO.n (AW.r ?_)
 refine AO.w (zR rfl rfl rfl rfl (zK hlt6 hb5)) ?_
 refine AO.pu T ?_
 refine AO.n ?_
 refine ⟨(k1+1,w64 (v9+1),w64 (v10+1)),⟨Nat.succ_le_of_lt hlt6,(by rw [zds hd4];exact hH)⟩,(by have:=hlt6;dsimp only;omega),?_⟩
 exact Le.ct 0 0
 replace hH:=condF hc hH
 refine AW.k (AW.r ?_)
 refine AO.w (zR rfl rfl rfl rfl (zK hlt6 hb5)) ?_
 refine AO.pu T ?_
 refine AO.n ?_
 refine ⟨(k1+1,w64 (v9+1),v10),⟨Nat.succ_le_of_lt hlt6,(by rw [zds hd4];exact hH)⟩,(by have:=hlt6;dsimp only;omega),?_⟩
 exact Le.ct 0 0
 replace hH:=condF hc hH
 refine AW.k (AW.q (AW.r ?_))
 refine AO.p2 T ?_
 refine AO.w (qCC T) ?_
 refine AO.pu T ?_
 refine AO.n (AW.c (b:=decide ((y2.names.length:Int) > 2)) rfl (fun hc=>?_) (fun hc=>?_))
 replace hH:=condT hc hH
 refine AW.r (AO.pu T ?_)
 refine AO.w aws ?_
 refine AO.pu T ?_
 refine AO.n (AW.r ?_)
 refine AO.w (zR rfl rfl rfl rfl (zK hlt6 hb5)) ?_
 refine AO.pu T ?_
 refine AO.n ?_
 refine ⟨(k1+1,v9,w64 (v10+1)),⟨Nat.succ_le_of_lt hlt6,(by rw [zds hd4];exact hH)⟩,(by have:=hlt6;dsimp only;omega),?_⟩
 exact Le.ct 0 0
 replace hH:=condF hc hH
 refine AW.k (AW.r ?_)
 refine AO.w (zR rfl rfl rfl rfl (zK hlt6 hb5)) ?_
 refine AO.pu T ?_
 refine AO.n ?_
 refine ⟨(k1+1,v9,v10),⟨Nat.succ_le_of_lt hlt6,(by rw [zds hd4];exact hH)⟩,(by have:=hlt6;dsimp only;omega),?_⟩
 exact Le.ct 0 0

def qCn (name:ByteArray):List Element→Nat→Option Int
 | [],k1 =>
  some (-1)
 | y2::ys3,k1 =>
  cond (decide (y2.name=name))
   (some (k1:Int))
   (qCn name ys3 (k1+1))
def qEn (c:Code) (name:ByteArray):Option Int :=
 qCn name c.elements 0
theorem qGN (c:Code) (name:ByteArray) (r:Int) (hH:qEn c name=some r):qAE Tryz.prog 190 [.g (ze7 c),.v (.string name)] (.v (.int .i64 r)):=by
 refine fns T Tryz.func190 ?_
 refine AW.q (AW.r (AO.x (bxs T 1) ?_))
 refine AO.pu T ?_
 refine AO.n (AW.q (AW.q ?_))
 refine AW.r (AO.p2 T ?_)
 refine AO.w (qCC T) ?_
 refine AO.pu T ?_
 refine AO.n (AW.b ?_)
 refine AW.loopS (fun s:Nat=>(⟨[(1,.v (.string name)),(8,.s (List.map ze3 c.elements)),(9,(c.elements.length:Int)),(10,(s:Int))],[],21,[]⟩:St)) (fun s=>s ≤ c.elements.length∧qCn name (c.elements.drop s) s=some r) (fun s=>c.elements.length - s) 0 ⟨Nat.zero_le _,hH⟩ ?_ ?_
 exact Le.ct 0 0
 rintro k1 ⟨hk,hH⟩
 replace hH:qCn name (c.elements.drop k1) k1=some r:=hH
 try dsimp only
 refine AW.boundM (t:=8) (l:=c.elements) rfl (fun hb5=>?_)
 rcases hd4:c.elements.drop k1 with _ | ⟨y2,ys3⟩
 rw [hd4,qCn] at hH
 have hlt6:=qAJ hd4
 refine AW.q (AW.r (AO.pu T ?_))
 refine AO.n (AW.q (AW.condF' (b:=decide ((k1:Int) < (c.elements.length:Int))) rfl (qEQ hlt6) ?_))
 refine AW.exit (AW.q (AW.r ?_))
 refine AO.pu T ?_
 refine AO.n (AW.t ?_)
 have hR:=zS hH;subst hR
 exact retQ.i [] rfl (.c (.c .v))
 rw [hd4,qCn] at hH
 have hlt6:=qAK hd4
 refine AW.q (AW.r (AO.pu T ?_))
 refine AO.n (AW.q (AW.condT' (b:=decide ((k1:Int) < (c.elements.length:Int))) rfl (qER hlt6) ?_))
 refine AW.k (AW.q ?_)
 refine AW.b (AW.q (AW.r ?_))
 refine AO.pu T ?_
 refine AO.w (ixs T (zgD hd4)) ?_
 refine AO.pu T (d:=.g [.v (.string y2.name),y2.family,y2.level,y2.base]) ?_
 refine AO.x (als T 4) ?_
 refine AO.pu T ?_
 refine AO.se T [.v (.string y2.name),y2.family,y2.level,y2.base] ?_
 refine AO.n (AW.q (AW.r ?_))
 iterate 4 refine AO.pu T ?_
 refine AO.n (AW.c (b:=decide (y2.name=name)) rfl (fun hc=>?_) (fun hc=>?_))
 replace hH:=condT hc hH
 refine AW.q (AW.r (AO.p2 T ?_))
 refine AO.n (AW.t ?_)
 have hR:=zS hH;subst hR
 exact retQ.i [] rfl (.c (.c .v))
 replace hH:=condF hc hH
 refine AW.k (AW.r ?_)
 refine AO.w (zR rfl rfl rfl rfl (zK hlt6 hb5)) ?_
 refine AO.pu T ?_
 refine AO.n ?_
 refine ⟨k1+1,⟨Nat.succ_le_of_lt hlt6,(by rw [zds hd4];exact hH)⟩,(by have:=hlt6;dsimp only;omega),?_⟩
 exact Le.ct 0 0

def qFg (c:Code) (it:Item):Option Int :=
 (qAb it.names 0).bind fun x1 =>
 (qEn c x1).bind fun x3 =>
 cond (decide (x3 < 0))
  (some (-1))
  ((qAb c.elements x3).bind fun x5 =>
  some x5.family)
theorem qLW (c:Code) (it:Item) (r:Int) (hH:qFg c it=some r):qAE Tryz.prog 234 [.g (ze7 c),.g (ze2 it)] (.v (.int .i64 r)):=by
 refine fns T Tryz.func234 ?_
 refine AW.q (AW.r (AO.x (bxs T 1) ?_))
 refine AO.x (bxs T 2) ?_
 refine AO.pu T ?_
 refine AO.n (AW.q ?_)
 obtain ⟨x1,hx2,hH⟩:=zB hH
 obtain ⟨x3,hx4,hH⟩:=zB hH
 refine AW.drawn 5 3 [] mix (by kernel_rfl) rfl ?_
 refine AD.p T (d:=.g [.s (List.map ze3 c.elements),.s (List.map ze0 c.limits),c.repeats,c.bonus,c.keeps,c.fall]) rfl rfl rfl ?_
 iterate 2 refine AD.pu T ?_
 refine AD.vv (ixs T (hx2)) ?_
 refine AD.pu T ?_
 refine AD.nil (AO.w (cVs (qGN _ _ _ (hx4))) ?_)
 refine AO.pu T ?_
 refine AO.n (AW.q (AW.q ?_))
 refine AW.r (AO.p2 T ?_)
 refine AO.n (AW.c (b:=decide (x3 < 0)) rfl (fun hc=>?_) (fun hc=>?_))
 replace hH:=condT hc hH
 refine AW.q (AW.r (AO.pu T ?_))
 refine AO.n (AW.t ?_)
 have hR:=zS hH;subst hR
 exact retQ.i [] rfl (.c (.c .v))
 replace hH:=condF hc hH
 refine AW.k (AW.q ?_)
 obtain ⟨x5,hx6,hH⟩:=zB hH
 refine AW.r ?_
 iterate 3 refine AO.pu T ?_
 refine AO.w (ixs T (hx6)) ?_
 iterate 3 refine AO.pu T ?_
 refine AO.n (AW.t ?_)
 have hR:=zS hH;subst hR
 exact retQ.i [] rfl (.c (.c .v))

def qBM (c:Code):List Item→Nat→List Int→Option ((List Int))
 | [],k3,v18 =>
  some v18
 | y4::ys5,k3,v18 =>
  (qFg c y4).bind fun x20 =>
  cond (decide (x20 ≥ 0))
   ((qAb v18 x20).bind fun x22 =>
   qBM c ys5 (k3+1) (v18.set x20.toNat (w64 (x22+1))))
   (qBM c ys5 (k3+1) v18)
def qHM (c:Code) (l:List Item):Option (List Int) :=
 (qCw (decide (0 ≤ 5) && qBE 8 (5:Int).toNat)).bind fun u1 =>
 qBM c l 0 (List.replicate (5:Int).toNat (0:Int))
theorem qLS (c:Code) (l:List Item) (r:(List Int)) (hH:qHM c l=some r):qAE Tryz.prog 227 [.g (ze7 c),.s (List.map ze2 l)] (.w 1 (r.map ze0)):=by
 refine fns T Tryz.func227 ?_
 refine AW.q (AW.r (AO.x (bxs T 1) ?_))
 refine AO.pu T ?_
 refine AO.n (AW.q ?_)
 obtain ⟨u1,hx2,hH⟩:=zB hH
 refine AW.r (AO.x (qMC T rfl 2 rfl rfl rfl rfl rfl (f:=ze0) (zo:=0) (by repeat constructor) (by decide) rfl rfl (Bool.and_eq_true_iff.1 (qA4 (hx2))).1 (Bool.and_eq_true_iff.1 (qA4 (hx2))).2 rfl rfl) ?_)
 refine AO.pu T ?_
 refine AO.n (AW.q (AW.q ?_))
 refine AW.r (AO.pu T ?_)
 refine AO.w (qCC T) ?_
 refine AO.pu T ?_
 refine AO.n (AW.b ?_)
 refine AW.loopS (fun s:Nat × (List Int)=>(⟨[(2,.p 1 0),(5,.R 2),(10,.s (List.map ze2 l)),(11,(l.length:Int)),(12,(s.1:Int))],[(1,.box [.s (List.map ze3 c.elements),.s (List.map ze0 c.limits),c.repeats,c.bonus,c.keeps,c.fall]),(2,.row 1 (List.map ze0 s.2))],29,[]⟩:St)) (fun s=>s.1 ≤ l.length∧qBM c (l.drop s.1) s.1 s.2=some r) (fun s=>l.length - s.1) (0,(List.replicate (5:Int).toNat (0:Int))) ⟨Nat.zero_le _,hH⟩ ?_ ?_
 exact Le.ct 0 0
 rintro ⟨k3,v18⟩ ⟨hk,hH⟩
 replace hH:qBM c (l.drop k3) k3 v18=some r:=hH
 try dsimp only
 refine AW.boundM (t:=10) (l:=l) rfl (fun hb7=>?_)
 rcases hd6:l.drop k3 with _ | ⟨y4,ys5⟩
 rw [hd6,qBM] at hH
 have hlt8:=qAJ hd6
 refine AW.q (AW.r (AO.pu T ?_))
 refine AO.n (AW.q (AW.condF' (b:=decide ((k3:Int) < (l.length:Int))) rfl (qEQ hlt8) ?_))
 refine AW.exit (AW.q (AW.r ?_))
 refine AO.p2 T ?_
 refine AO.n (AW.t ?_)
 have hR:=zS hH;subst hR
 exact retQ.i [2] rfl (.c (.c (.rowR rfl)))
 rw [hd6,qBM] at hH
 have hlt8:=qAK hd6
 refine AW.q (AW.r (AO.pu T ?_))
 refine AO.n (AW.q (AW.condT' (b:=decide ((k3:Int) < (l.length:Int))) rfl (qER hlt8) ?_))
 refine AW.k (AW.q ?_)
 refine AW.b (AW.q (AW.r ?_))
 refine AO.w (ixs T (zgD hd6)) ?_
 refine AO.pu T (d:=.g [.s (List.map ze5 y4.names),.s (List.map ze0 y4.marks),.v (.bool y4.late)]) ?_
 refine AO.x (als T 5) ?_
 refine AO.se T [.s (List.map ze5 y4.names),.s (List.map ze0 y4.marks),.v (.bool y4.late)] ?_
 refine AO.n (AW.q ?_)
 obtain ⟨x20,hx21,hH⟩:=zB hH
 refine AW.r (AO.pu T (d:=.g [.s (List.map ze3 c.elements),.s (List.map ze0 c.limits),c.repeats,c.bonus,c.keeps,c.fall]) ?_)
 refine AO.pu T (d:=.g [.s (List.map ze5 y4.names),.s (List.map ze0 y4.marks),.v (.bool y4.late)]) ?_
 refine AO.w (cVs (qLW _ _ _ (hx21))) ?_
 refine AO.pu T ?_
 refine AO.n (AW.q (AW.r ?_))
 refine AO.p2 T ?_
 refine AO.n (AW.c (b:=decide (x20 ≥ 0)) rfl (fun hc=>?_) (fun hc=>?_))
 replace hH:=condT hc hH
 obtain ⟨x22,hx23,hH⟩:=zB hH
 refine AW.r (AO.p2 T ?_)
 refine AO.w (ixr T (hx23)) ?_
 refine AO.w (zLr T rfl rfl rfl rfl (zgG (hx23)) rfl rfl rfl) ?_
 refine AO.w aws ?_
 refine AO.w (ixr T (hx23)) ?_
 refine AO.x (zSr T rfl rfl rfl rfl rfl (zgG (hx23)) rfl rfl rfl rfl (u':=w64 (x22+1)) rfl rfl) ?_
 refine AO.n (AW.r ?_)
 refine AO.w (zR rfl rfl rfl rfl (zK hlt8 hb7)) ?_
 refine AO.pu T ?_
 refine AO.n ?_
 refine ⟨(k3+1,(v18.set x20.toNat (w64 (x22+1)))),⟨Nat.succ_le_of_lt hlt8,(by rw [zds hd6];exact hH)⟩,(by have:=hlt8;dsimp only;omega),?_⟩
 exact Le.ct 0 0
 replace hH:=condF hc hH
 refine AW.k (AW.r ?_)
 refine AO.w (zR rfl rfl rfl rfl (zK hlt8 hb7)) ?_
 refine AO.pu T ?_
 refine AO.n ?_
 refine ⟨(k3+1,v18),⟨Nat.succ_le_of_lt hlt8,(by rw [zds hd6];exact hH)⟩,(by have:=hlt8;dsimp only;omega),?_⟩
 exact Le.ct 0 0

def qCl (l:List Item):List Item→Nat→Option Bool
 | [],k1 =>
  some true
 | y2::ys3,k1 =>
  cond (!(y2.late == decide ((w64 (2 * (k1:Int))) ≥ (l.length:Int))))
   (some false)
   (qCl l ys3 (k1+1))
def qIc (l:List Item):Option Bool :=
 qCl l l 0
theorem qMv (l:List Item) (r:Bool) (hH:qIc l=some r):qAE Tryz.prog 228 [.s (List.map ze2 l)] (.v (.bool r)):=by
 refine fns T Tryz.func228 ?_
 refine AW.q (AW.r (AO.pu T ?_))
 refine AO.n (AW.q (AW.q ?_))
 refine AW.r (AO.pu T ?_)
 refine AO.w (qCC T) ?_
 refine AO.pu T ?_
 refine AO.n (AW.b ?_)
 refine AW.loopS (fun s:Nat=>(⟨[(0,.s (List.map ze2 l)),(5,.s (List.map ze2 l)),(6,(l.length:Int)),(7,(s:Int))],[],21,[]⟩:St)) (fun s=>s ≤ l.length∧qCl l (l.drop s) s=some r) (fun s=>l.length - s) 0 ⟨Nat.zero_le _,hH⟩ ?_ ?_
 exact Le.ct 0 0
 rintro k1 ⟨hk,hH⟩
 replace hH:qCl l (l.drop k1) k1=some r:=hH
 try dsimp only
 refine AW.boundM (t:=0) (l:=l) rfl (fun hb5=>?_)
 rcases hd4:l.drop k1 with _ | ⟨y2,ys3⟩
 rw [hd4,qCl] at hH
 have hlt6:=qAJ hd4
 refine AW.q (AW.r (AO.pu T ?_))
 refine AO.n (AW.q (AW.condF' (b:=decide ((k1:Int) < (l.length:Int))) rfl (qEQ hlt6) ?_))
 refine AW.exit (AW.q (AW.r ?_))
 refine AO.pu T ?_
 refine AO.n (AW.t ?_)
 have hR:=zS hH;subst hR
 exact retQ.i [] rfl (.c (.c .v))
 rw [hd4,qCl] at hH
 have hlt6:=qAK hd4
 refine AW.q (AW.r (AO.pu T ?_))
 refine AO.n (AW.q (AW.condT' (b:=decide ((k1:Int) < (l.length:Int))) rfl (qER hlt6) ?_))
 refine AW.k (AW.q ?_)
 refine AW.b (AW.q (AW.r ?_))
 refine AO.pu T ?_
 refine AO.w (ixs T (zgD hd4)) ?_
 refine AO.pu T (d:=.g [.s (List.map ze5 y2.names),.s (List.map ze0 y2.marks),.v (.bool y2.late)]) ?_
 refine AO.x (als T 3) ?_
 refine AO.pu T ?_
 refine AO.se T [.s (List.map ze5 y2.names),.s (List.map ze0 y2.marks),.v (.bool y2.late)] ?_
 refine AO.n (AW.q (AW.r ?_))
 iterate 3 refine AO.pu T ?_
 refine AO.w aws ?_
 refine AO.pu T ?_
 refine AO.w (qCC T) ?_
 refine AO.p2 T ?_
 refine AO.n (AW.c (b:=(!(y2.late == decide ((w64 (2 * (k1:Int))) ≥ (l.length:Int))))) rfl (fun hc=>?_) (fun hc=>?_))
 replace hH:=condT hc hH
 refine AW.q (AW.r (AO.pu T ?_))
 refine AO.n (AW.t ?_)
 have hR:=zS hH;subst hR
 exact retQ.i [] rfl (.c (.c .v))
 replace hH:=condF hc hH
 refine AW.k (AW.r ?_)
 refine AO.w (zR rfl rfl rfl rfl (zK hlt6 hb5)) ?_
 refine AO.pu T ?_
 refine AO.n ?_
 refine ⟨k1+1,⟨Nat.succ_le_of_lt hlt6,(by rw [zds hd4];exact hH)⟩,(by have:=hlt6;dsimp only;omega),?_⟩
 exact Le.ct 0 0

def qBb (name:ByteArray) (y2:Item):List ByteArray→Nat→Int→Int→Option (Int × Int)
 | [],k74,v82,v83 =>
  some (v82,v83)
 | y75::ys76,k74,v82,v83 =>
  cond (decide (y75=name))
   (cond (decide ((y2.names.length:Int) > 1))
    (qBb name y2 ys76 (k74+1) (w64 (v82+1)) (w64 (v83+1)))
    (qBb name y2 ys76 (k74+1) (w64 (v82+1)) v83))
   (qBb name y2 ys76 (k74+1) v82 v83)
def qCI (name:ByteArray):List Item→Nat→Int→Int→Option ((Int × Int))
 | [],k1,v57,v58 =>
  some (v57,v58)
 | y2::ys3,k1,v57,v58 =>
  (qBb name y2 y2.names 0 v57 v58).bind fun (v70,v71) =>
  qCI name ys3 (k1+1) v70 v71
def qHn (l:List Item) (name:ByteArray):Option (Int × Int) :=
 qCI name l 0 0 0
theorem qMA (l:List Item) (name:ByteArray) (r:(Int × Int)) (hH:qHn l name=some r):qAE Tryz.prog 237 [.s (List.map ze2 l),.v (.string name)] (.t [.v (.int .i64 r.1),.v (.int .i64 r.2)]):=by
 refine fns T Tryz.func237 ?_
 refine AW.q (AW.r (AO.p2 T ?_))
 refine AO.n (AW.q (AW.r ?_))
 refine AO.p2 T ?_
 refine AO.n (AW.q (AW.q ?_))
 refine AW.r (AO.pu T ?_)
 refine AO.w (qCC T) ?_
 refine AO.pu T ?_
 refine AO.n (AW.b ?_)
 refine AW.loopS (fun s:Nat × Int × Int=>(⟨[(1,.v (.string name)),(6,s.2.1),(7,s.2.2),(12,.s (List.map ze2 l)),(13,(l.length:Int)),(14,(s.1:Int))],[],40,[]⟩:St)) (fun s=>s.1 ≤ l.length∧qCI name (l.drop s.1) s.1 s.2.1 s.2.2=some r) (fun s=>l.length - s.1) (0,0,0) ⟨Nat.zero_le _,hH⟩ ?_ ?_
 exact Le.ct 0 0
 rintro ⟨k1,v57,v58⟩ ⟨hk,hH⟩
 replace hH:qCI name (l.drop k1) k1 v57 v58=some r:=hH
 try dsimp only
 refine AW.boundM (t:=12) (l:=l) rfl (fun hb5=>?_)
 rcases hd4:l.drop k1 with _ | ⟨y2,ys3⟩
 rw [hd4,qCI] at hH
 have hlt6:=qAJ hd4
 refine AW.q (AW.r (AO.pu T ?_))
 refine AO.n (AW.q (AW.condF' (b:=decide ((k1:Int) < (l.length:Int))) rfl (qEQ hlt6) ?_))
 refine AW.exit (AW.q (AW.r ?_))
 iterate 4 refine AO.pu T ?_
 refine AO.n (AW.t ?_)
 have hR:=zS hH;subst hR
 exact retQ.i [] rfl (.t (zG (.c .v) (zG (.c .v) (zGn))))
 rw [hd4,qCI] at hH
 have hlt6:=qAK hd4
 refine AW.q (AW.r (AO.pu T ?_))
 refine AO.n (AW.q (AW.condT' (b:=decide ((k1:Int) < (l.length:Int))) rfl (qER hlt6) ?_))
 refine AW.k ?_
 obtain ⟨o72,hH,hK73⟩:=zB hH
 refine AW.seqJ (fun s:Int × Int=>(⟨[(1,.v (.string name)),(6,s.1),(7,s.2),(12,.s (List.map ze2 l)),(13,(l.length:Int)),(14,(k1:Int))],[],40,[]⟩:St)) (fun s=>s=o72) ?_ ?_
 refine AW.b (AW.q (AW.r ?_))
 refine AO.w (ixs T (zgD hd4)) ?_
 refine AO.pu T (d:=.g [.s (List.map ze5 y2.names),.s (List.map ze0 y2.marks),.v (.bool y2.late)]) ?_
 refine AO.x (als T 6) ?_
 refine AO.se T [.s (List.map ze5 y2.names),.s (List.map ze0 y2.marks),.v (.bool y2.late)] ?_
 refine AO.n (AW.q (AW.r ?_))
 refine AO.p2 T ?_
 refine AO.w (qCC T) ?_
 refine AO.pu T ?_
 refine AO.n (AW.b ?_)
 refine AW.loopS (fun s:Nat × Int × Int=>(⟨[(1,.v (.string name)),(6,s.2.1),(7,s.2.2),(9,.p 6 0),(12,.s (List.map ze2 l)),(13,(l.length:Int)),(14,(k1:Int)),(19,.s (List.map ze5 y2.names)),(20,(y2.names.length:Int)),(21,(s.1:Int))],[(6,.box [.s (List.map ze5 y2.names),.s (List.map ze0 y2.marks),.v (.bool y2.late)])],40,[]⟩:St)) (fun s=>s.1 ≤ y2.names.length∧qBb name y2 (y2.names.drop s.1) s.1 s.2.1 s.2.2=some o72) (fun s=>y2.names.length - s.1) (0,v57,v58) ⟨Nat.zero_le _,hH⟩ ?_ ?_
 exact Le.ct 0 0
 rintro ⟨k74,v82,v83⟩ ⟨hk,hH⟩
 replace hH:qBb name y2 (y2.names.drop k74) k74 v82 v83=some o72:=hH
 try dsimp only
 refine AW.boundM (t:=19) (l:=y2.names) rfl (fun hb78=>?_)
 rcases hd77:y2.names.drop k74 with _ | ⟨y75,ys76⟩
 rw [hd77,qBb] at hH
 have hlt79:=qAJ hd77
 refine AW.q (AW.r (AO.pu T ?_))
 refine AO.n (AW.q (AW.condF' (b:=decide ((k74:Int) < (y2.names.length:Int))) rfl (qEQ hlt79) ?_))
 refine AW.exit ?_
 refine ⟨_,zS hH,?_⟩
 exact Le.ct 0 0
 rw [hd77,qBb] at hH
 have hlt79:=qAK hd77
 refine AW.q (AW.r (AO.pu T ?_))
 refine AO.n (AW.q (AW.condT' (b:=decide ((k74:Int) < (y2.names.length:Int))) rfl (qER hlt79) ?_))
 refine AW.k (AW.q ?_)
 refine AW.b (AW.q (AW.r ?_))
 refine AO.w (ixs T (zgD hd77)) ?_
 refine AO.p2 T ?_
 refine AO.n (AW.q (AW.r ?_))
 iterate 3 refine AO.pu T ?_
 refine AO.n (AW.c (b:=decide (y75=name)) rfl (fun hc=>?_) (fun hc=>?_))
 replace hH:=condT hc hH
 refine AW.q (AW.r (AO.pu T ?_))
 refine AO.w aws ?_
 refine AO.pu T ?_
 refine AO.n (AW.q (AW.r ?_))
 refine AO.p2 T ?_
 refine AO.w (qCC T) ?_
 refine AO.pu T ?_
 refine AO.n (AW.c (b:=decide ((y2.names.length:Int) > 1)) rfl (fun hc=>?_) (fun hc=>?_))
 replace hH:=condT hc hH
 refine AW.r (AO.pu T ?_)
 refine AO.w aws ?_
 refine AO.pu T ?_
 refine AO.n (AW.r ?_)
 refine AO.w (zR rfl rfl rfl rfl (zK hlt79 hb78)) ?_
 refine AO.pu T ?_
 refine AO.n ?_
 refine ⟨(k74+1,w64 (v82+1),w64 (v83+1)),⟨Nat.succ_le_of_lt hlt79,(by rw [zds hd77];exact hH)⟩,(by have:=hlt79;dsimp only;omega),?_⟩
 exact Le.ct 0 0
 replace hH:=condF hc hH
 refine AW.k (AW.r ?_)
 refine AO.w (zR rfl rfl rfl rfl (zK hlt79 hb78)) ?_
 refine AO.pu T ?_
 refine AO.n ?_
 refine ⟨(k74+1,w64 (v82+1),v83),⟨Nat.succ_le_of_lt hlt79,(by rw [zds hd77];exact hH)⟩,(by have:=hlt79;dsimp only;omega),?_⟩
 exact Le.ct 0 0
 replace hH:=condF hc hH
 refine AW.k (AW.r ?_)
 refine AO.w (zR rfl rfl rfl rfl (zK hlt79 hb78)) ?_
 refine AO.pu T ?_
 refine AO.n ?_
 refine ⟨(k74+1,v82,v83),⟨Nat.succ_le_of_lt hlt79,(by rw [zds hd77];exact hH)⟩,(by have:=hlt79;dsimp only;omega),?_⟩
 exact Le.ct 0 0
 rintro ⟨v70,v71⟩ hs
 subst hs
 replace hH:=hK73
 try dsimp only [qKp,qID] at hH
 try dsimp only
 refine AW.r (AO.w (zR rfl rfl rfl rfl (zK hlt6 hb5)) ?_)
 refine AO.pu T ?_
 refine AO.n ?_
 refine ⟨(k1+1,v70,v71),⟨Nat.succ_le_of_lt hlt6,(by rw [zds hd4];exact hH)⟩,(by have:=hlt6;dsimp only;omega),?_⟩
 exact Le.ct 0 0

def qGs (c:Code) (l:List Item) (it:Item) (name:ByteArray) (rule:Int):Option Bool :=
 (qEn c name).bind fun x1 =>
 cond (rule == 2)
  (some (decide (x1 ≥ 0)))
  (cond (rule == 4)
   ((opt ((!((it.names.length:Int) == 1)) && decide (x1 ≥ 0)) default (qAb c.elements x1)).bind fun x3 =>
   some (((it.names.length:Int) == 1) || (decide (x1 ≥ 0) && (x3.family == 0))))
   ((qHn l name).bind fun x5 =>
   some (decide (x5.1 ≤ c.repeats) && ((x5.1 == 1) || decide (x5.2 > 0)))))
theorem qNE (c:Code) (l:List Item) (it:Item) (name:ByteArray) (rule:Int) (r:Bool) (hH:qGs c l it name rule=some r):qAE Tryz.prog 235 [.g (ze7 c),.s (List.map ze2 l),.g (ze2 it),.v (.string name),rule] (.v (.bool r)):=by
 refine fns T Tryz.func235 ?_
 refine AW.q (AW.r (AO.x (bxs T 1) ?_))
 refine AO.x (bxs T 2) ?_
 refine AO.pu T ?_
 refine AO.n (AW.q ?_)
 obtain ⟨x1,hx2,hH⟩:=zB hH
 refine AW.r (AO.pu T (d:=.g [.s (List.map ze3 c.elements),.s (List.map ze0 c.limits),c.repeats,c.bonus,c.keeps,c.fall]) ?_)
 refine AO.pu T ?_
 refine AO.w (cVs (qGN _ _ _ (hx2))) ?_
 refine AO.pu T ?_
 refine AO.n (AW.q (AW.q ?_))
 refine AW.r (AO.pu T ?_)
 refine AO.n (AW.b ?_)
 refine AW.q (AW.r (AO.p2 T ?_))
 refine AO.n (AW.c (b:=(rule == 2)) rfl (fun hc=>?_) (fun hc=>?_))
 replace hH:=condT hc hH
 refine AW.q (AW.r ?_)
 iterate 3 refine AO.pu T ?_
 refine AO.n (AW.t ?_)
 have hR:=zS hH;subst hR
 exact retQ.i [] rfl (.c (.c .v))
 replace hH:=condF hc hH
 refine AW.q (AW.r (AO.p2 T ?_))
 refine AO.n (AW.c (b:=(rule == 4)) rfl (fun hc=>?_) (fun hc=>?_))
 replace hH:=condT hc hH
 refine AW.q ?_
 obtain ⟨x3,hx4,hH⟩:=zB hH
 refine AW.r (AO.p2 T ?_)
 refine AO.w (qCC T) ?_
 refine AO.p2 T ?_
 refine AO.g T [] rfl trivial rfl rfl ?_
 refine AO.g T [29] rfl ⟨fun h=>h,trivial⟩ rfl rfl ?_
 refine AO.g T [30] rfl ⟨fun h=>h,trivial⟩ rfl rfl ?_
 refine AO.g T [] rfl trivial rfl rfl ?_
 refine AO.g T [32] rfl ⟨fun h=>h,trivial⟩ rfl rfl ?_
 refine AO.g T [] rfl trivial rfl rfl ?_
 refine AO.d [33,34] rfl ⟨fun h=>h,fun h=>h,trivial⟩ (fun hg=>zX T rfl rfl rfl rfl rfl (qEA hx4 hg) rfl) rfl ?_
 refine AO.g T [35] rfl ⟨fun h=>h,trivial⟩ rfl rfl ?_
 refine AO.g T [36] rfl ⟨fun h=>h,trivial⟩ rfl rfl ?_
 refine AO.g T [37] rfl ⟨fun h=>h,trivial⟩ rfl rfl ?_
 refine AO.d [31] rfl ⟨fun h=>h,trivial⟩ (fun hg=>zN rfl rfl rfl (by rw [hg];exact Bool.true_and _)) rfl ?_
 refine AO.w ors ?_
 refine AO.pu T ?_
 refine AO.n (AW.le (Le.ct 0 0 (σ':=(⟨[(10,.v (.bool (((it.names.length:Int) == 1) || (decide (x1 ≥ 0) && (x3.family == 0)))))],[],59,[]⟩:St))) ?_)
 refine AW.t ?_
 have hR:=zS hH;subst hR
 exact retQ.i [] rfl (.c (.c .v))
 replace hH:=condF hc hH
 refine AW.k (AW.q ?_)
 obtain ⟨x5,hx6,hH⟩:=zB hH
 refine AW.r (AO.p2 T ?_)
 refine AO.w (cVs (qMA _ _ _ (hx6))) ?_
 iterate 5 refine AO.pu T ?_
 refine AO.n (AW.q (AW.r ?_))
 iterate 5 refine AO.pu T ?_
 refine AO.g T [] rfl trivial rfl rfl ?_
 refine AO.g T [52] rfl ⟨fun h=>h,trivial⟩ rfl rfl ?_
 refine AO.g T [53] rfl ⟨fun h=>h,trivial⟩ rfl rfl ?_
 refine AO.g T [] rfl trivial rfl rfl ?_
 refine AO.g T [55] rfl ⟨fun h=>h,trivial⟩ rfl rfl ?_
 refine AO.d [54] rfl ⟨fun h=>h,trivial⟩ (fun hg=>zO rfl rfl rfl (by rw [hg];exact Bool.true_and _)) rfl ?_
 refine AO.w qFy ?_
 refine AO.pu T ?_
 refine AO.n (AW.le (Le.ct 0 0 (σ':=(⟨[(10,.v (.bool (decide (x5.1 ≤ c.repeats) && ((x5.1 == 1) || decide (x5.2 > 0)))))],[],59,[]⟩:St))) ?_)
 refine AW.t ?_
 have hR:=zS hH;subst hR
 exact retQ.i [] rfl (.c (.c .v))

def qCR (c:Code) (l:List Item) (rule:Int) (y2:Item):List ByteArray→Nat→Option (Except Bool Unit)
 | [],k74 =>
  some (.ok ())
 | y75::ys76,k74 =>
  (qGs c l y2 y75 rule).bind fun x85 =>
  cond (!x85)
   (some (.error false))
   (qCR c l rule y2 ys76 (k74+1))
def qCL (c:Code) (l:List Item) (rule:Int):List Item→Nat→Option Bool
 | [],k1 =>
  some true
 | y2::ys3,k1 =>
  (qCR c l rule y2 y2.names 0).bind fun o72=>qKp o72 fun _ =>
  qCL c l rule ys3 (k1+1)
def qHq (c:Code) (l:List Item) (rule:Int):Option Bool :=
 qCL c l rule l 0
theorem qMm (c:Code) (l:List Item) (rule:Int) (r:Bool) (hH:qHq c l rule=some r):qAE Tryz.prog 229 [.g (ze7 c),.s (List.map ze2 l),rule] (.v (.bool r)):=by
 refine fns T Tryz.func229 ?_
 refine AW.q (AW.r (AO.x (bxs T 1) ?_))
 refine AO.pu T ?_
 refine AO.n (AW.q (AW.q ?_))
 refine AW.r (AO.pu T ?_)
 refine AO.w (qCC T) ?_
 refine AO.pu T ?_
 refine AO.n (AW.b ?_)
 refine AW.loopS (fun s:Nat=>(⟨[(1,.s (List.map ze2 l)),(2,rule),(3,.p 1 0),(11,.s (List.map ze2 l)),(12,(l.length:Int)),(13,(s:Int))],[(1,.box [.s (List.map ze3 c.elements),.s (List.map ze0 c.limits),c.repeats,c.bonus,c.keeps,c.fall])],33,[]⟩:St)) (fun s=>s ≤ l.length∧qCL c l rule (l.drop s) s=some r) (fun s=>l.length - s) 0 ⟨Nat.zero_le _,hH⟩ ?_ ?_
 exact Le.ct 0 0
 rintro k1 ⟨hk,hH⟩
 replace hH:qCL c l rule (l.drop k1) k1=some r:=hH
 try dsimp only
 refine AW.boundM (t:=1) (l:=l) rfl (fun hb5=>?_)
 rcases hd4:l.drop k1 with _ | ⟨y2,ys3⟩
 rw [hd4,qCL] at hH
 have hlt6:=qAJ hd4
 refine AW.q (AW.r (AO.pu T ?_))
 refine AO.n (AW.q (AW.condF' (b:=decide ((k1:Int) < (l.length:Int))) rfl (qEQ hlt6) ?_))
 refine AW.exit (AW.q (AW.r ?_))
 refine AO.pu T ?_
 refine AO.n (AW.t ?_)
 have hR:=zS hH;subst hR
 exact retQ.i [] rfl (.c (.c .v))
 rw [hd4,qCL] at hH
 have hlt6:=qAK hd4
 refine AW.q (AW.r (AO.pu T ?_))
 refine AO.n (AW.q (AW.condT' (b:=decide ((k1:Int) < (l.length:Int))) rfl (qER hlt6) ?_))
 refine AW.k ?_
 obtain ⟨o72,hH,hK73⟩:=zB hH
 refine AW.seqJ (fun s:Unit=>(⟨[(1,.s (List.map ze2 l)),(2,rule),(3,.p 1 0),(11,.s (List.map ze2 l)),(12,(l.length:Int)),(13,(k1:Int))],[(1,.box [.s (List.map ze3 c.elements),.s (List.map ze0 c.limits),c.repeats,c.bonus,c.keeps,c.fall])],33,[]⟩:St)) (fun s=>.ok s=o72) ?_ ?_
 refine AW.b (AW.q (AW.r ?_))
 refine AO.w (ixs T (zgD hd4)) ?_
 refine AO.pu T (d:=.g [.s (List.map ze5 y2.names),.s (List.map ze0 y2.marks),.v (.bool y2.late)]) ?_
 refine AO.x (als T 7) ?_
 refine AO.se T [.s (List.map ze5 y2.names),.s (List.map ze0 y2.marks),.v (.bool y2.late)] ?_
 refine AO.n (AW.q (AW.r ?_))
 refine AO.p2 T ?_
 refine AO.w (qCC T) ?_
 refine AO.pu T ?_
 refine AO.n (AW.b ?_)
 refine AW.loopS (fun s:Nat=>(⟨[(1,.s (List.map ze2 l)),(2,rule),(3,.p 1 0),(8,.p 7 0),(11,.s (List.map ze2 l)),(12,(l.length:Int)),(13,(k1:Int)),(18,.s (List.map ze5 y2.names)),(19,(y2.names.length:Int)),(20,(s:Int))],[(1,.box [.s (List.map ze3 c.elements),.s (List.map ze0 c.limits),c.repeats,c.bonus,c.keeps,c.fall]),(7,.box [.s (List.map ze5 y2.names),.s (List.map ze0 y2.marks),.v (.bool y2.late)])],33,[]⟩:St)) (fun s=>s ≤ y2.names.length∧qCR c l rule y2 (y2.names.drop s) s=some o72) (fun s=>y2.names.length - s) 0 ⟨Nat.zero_le _,hH⟩ ?_ ?_
 exact Le.ct 0 0
 rintro k74 ⟨hk,hH⟩
 replace hH:qCR c l rule y2 (y2.names.drop k74) k74=some o72:=hH
 try dsimp only
 refine AW.boundM (t:=18) (l:=y2.names) rfl (fun hb78=>?_)
 rcases hd77:y2.names.drop k74 with _ | ⟨y75,ys76⟩
 rw [hd77,qCR] at hH
 have hlt79:=qAJ hd77
 refine AW.q (AW.r (AO.pu T ?_))
 refine AO.n (AW.q (AW.condF' (b:=decide ((k74:Int) < (y2.names.length:Int))) rfl (qEQ hlt79) ?_))
 refine AW.exit ?_
 refine ⟨_,zS hH,?_⟩
 exact Le.ct 0 0
 rw [hd77,qCR] at hH
 have hlt79:=qAK hd77
 refine AW.q (AW.r (AO.pu T ?_))
 refine AO.n (AW.q (AW.condT' (b:=decide ((k74:Int) < (y2.names.length:Int))) rfl (qER hlt79) ?_))
 refine AW.k (AW.q ?_)
 refine AW.b (AW.q (AW.r ?_))
 refine AO.w (ixs T (zgD hd77)) ?_
 refine AO.p2 T ?_
 refine AO.n (AW.q ?_)
 obtain ⟨x85,hx86,hH⟩:=zB hH
 refine AW.r (AO.pu T (d:=.g [.s (List.map ze3 c.elements),.s (List.map ze0 c.limits),c.repeats,c.bonus,c.keeps,c.fall]) ?_)
 refine AO.pu T ?_
 refine AO.pu T (d:=.g [.s (List.map ze5 y2.names),.s (List.map ze0 y2.marks),.v (.bool y2.late)]) ?_
 refine AO.p2 T ?_
 refine AO.w (cVs (qNE _ _ _ _ _ _ (hx86))) ?_
 refine AO.pu T ?_
 refine AO.n (AW.c (b:=(!x85)) rfl (fun hc=>?_) (fun hc=>?_))
 replace hH:=condT hc hH
 refine AW.q (AW.r (AO.pu T ?_))
 refine AO.n (AW.t ?_)
 obtain rfl:=zS hH
 replace hH:=hK73
 have hR:=zS hH;subst hR
 exact retQ.i [] rfl (.c (.c .v))
 replace hH:=condF hc hH
 refine AW.k (AW.r ?_)
 refine AO.w (zR rfl rfl rfl rfl (zK hlt79 hb78)) ?_
 refine AO.pu T ?_
 refine AO.n ?_
 refine ⟨k74+1,⟨Nat.succ_le_of_lt hlt79,(by rw [zds hd77];exact hH)⟩,(by have:=hlt79;dsimp only;omega),?_⟩
 exact Le.ct 0 0
 rintro _ hs
 subst hs
 replace hH:=hK73
 try dsimp only [qKp,qID] at hH
 try dsimp only
 refine AW.r (AO.w (zR rfl rfl rfl rfl (zK hlt6 hb5)) ?_)
 refine AO.pu T ?_
 refine AO.n ?_
 refine ⟨k1+1,⟨Nat.succ_le_of_lt hlt6,(by rw [zds hd4];exact hH)⟩,(by have:=hlt6;dsimp only;omega),?_⟩
 exact Le.ct 0 0

def qBw (c:Code):List Int→Nat→Option Bool
 | [],k7 =>
  some true
 | y8::ys9,k7 =>
  (qAb c.limits (k7:Int)).bind fun x18 =>
  cond (decide (y8 > x18))
   (some false)
   (qBw c ys9 (k7+1))
def qGO (c:Code) (l:List Item) (rule:Int):Option Bool :=
 cond (rule == 1)
  (some (decide ((l.length:Int) > 0)))
  (cond (rule == 3)
   ((qHl l).bind fun x1 =>
   some x1)
   (cond (rule == 5)
    ((qF8 l).bind fun x3 =>
    some (decide (x3.1 ≤ 3) && decide (x3.2 ≤ 1)))
    (cond (rule == 6)
     ((qHM c l).bind fun x5 =>
     qBw c x5 0)
     (cond (rule == 8)
      ((qIc l).bind fun x20 =>
      some x20)
      ((qHq c l rule).bind fun x22 =>
      some x22)))))
theorem qMq (c:Code) (l:List Item) (rule:Int) (r:Bool) (hH:qGO c l rule=some r):qAE Tryz.prog 219 [.g (ze7 c),.s (List.map ze2 l),rule] (.v (.bool r)):=by
 refine fns T Tryz.func219 ?_
 refine AW.q (AW.r (AO.x (bxs T 1) ?_))
 refine AO.pu T ?_
 refine AO.n (AW.q (AW.q ?_))
 refine AW.r (AO.pu T ?_)
 refine AO.n (AW.b ?_)
 refine AW.q (AW.r (AO.p2 T ?_))
 refine AO.n (AW.c (b:=(rule == 1)) rfl (fun hc=>?_) (fun hc=>?_))
 replace hH:=condT hc hH
 refine AW.q (AW.r (AO.pu T ?_))
 refine AO.w (qCC T) ?_
 refine AO.p2 T ?_
 refine AO.n (AW.t ?_)
 have hR:=zS hH;subst hR
 exact retQ.i [] rfl (.c (.c .v))
 replace hH:=condF hc hH
 refine AW.q (AW.r (AO.p2 T ?_))
 refine AO.n (AW.c (b:=(rule == 3)) rfl (fun hc=>?_) (fun hc=>?_))
 replace hH:=condT hc hH
 refine AW.q ?_
 obtain ⟨x1,hx2,hH⟩:=zB hH
 refine AW.r (AO.pu T ?_)
 refine AO.w (cVs (qMX _ _ (hx2))) ?_
 refine AO.pu T ?_
 refine AO.n (AW.t ?_)
 have hR:=zS hH;subst hR
 exact retQ.i [] rfl (.c (.c .v))
 replace hH:=condF hc hH
 refine AW.q (AW.r (AO.p2 T ?_))
 refine AO.n (AW.c (b:=(rule == 5)) rfl (fun hc=>?_) (fun hc=>?_))
 replace hH:=condT hc hH
 refine AW.q ?_
 obtain ⟨x3,hx4,hH⟩:=zB hH
 refine AW.r (AO.pu T ?_)
 refine AO.w (cVs (qKf _ _ (hx4))) ?_
 iterate 5 refine AO.pu T ?_
 refine AO.n (AW.q (AW.r ?_))
 iterate 3 refine AO.pu T ?_
 refine AO.g T [] rfl trivial rfl rfl ?_
 refine AO.g T [31] rfl ⟨fun h=>h,trivial⟩ rfl rfl ?_
 refine AO.w qFy ?_
 refine AO.pu T ?_
 refine AO.n (AW.t ?_)
 have hR:=zS hH;subst hR
 exact retQ.i [] rfl (.c (.c .v))
 replace hH:=condF hc hH
 refine AW.q (AW.r (AO.p2 T ?_))
 refine AO.n (AW.c (b:=(rule == 6)) rfl (fun hc=>?_) (fun hc=>?_))
 replace hH:=condT hc hH
 refine AW.q (AW.q ?_)
 obtain ⟨x5,hx6,hH⟩:=zB hH
 refine AW.r (AO.pu T (d:=.g [.s (List.map ze3 c.elements),.s (List.map ze0 c.limits),c.repeats,c.bonus,c.keeps,c.fall]) ?_)
 refine AO.pu T ?_
 refine AO.x (qBk rfl 2 rfl rfl rfl (qLS _ _ _ (hx6)) rfl rfl rfl) ?_
 refine AO.w (qGn T) ?_
 refine AO.pu T ?_
 refine AO.n (AW.b ?_)
 refine AW.loopS (fun s:Nat=>(⟨[(3,.p 1 0),(38,.R 2),(39,(x5.length:Int)),(40,(s:Int))],[(1,.box [.s (List.map ze3 c.elements),.s (List.map ze0 c.limits),c.repeats,c.bonus,c.keeps,c.fall]),(2,.row 1 (List.map ze0 x5))],61,[]⟩:St)) (fun s=>s ≤ x5.length∧qBw c (x5.drop s) s=some r) (fun s=>x5.length - s) 0 ⟨Nat.zero_le _,hH⟩ ?_ ?_
 exact Le.ct 0 0
 rintro k7 ⟨hk,hH⟩
 replace hH:qBw c (x5.drop k7) k7=some r:=hH
 try dsimp only
 refine AW.boundR (id:=2) (l:=x5) rfl (fun hb11=>?_)
 rcases hd10:x5.drop k7 with _ | ⟨y8,ys9⟩
 rw [hd10,qBw] at hH
 have hlt12:=qAJ hd10
 refine AW.q (AW.r (AO.pu T ?_))
 refine AO.n (AW.q (AW.condF' (b:=decide ((k7:Int) < (x5.length:Int))) rfl (qEQ hlt12) ?_))
 refine AW.exit (AW.q (AW.r ?_))
 refine AO.pu T ?_
 refine AO.n (AW.t ?_)
 have hR:=zS hH;subst hR
 exact retQ.i [] rfl (.c (.c .v))
 rw [hd10,qBw] at hH
 have hlt12:=qAK hd10
 refine AW.q (AW.r (AO.pu T ?_))
 refine AO.n (AW.q (AW.condT' (b:=decide ((k7:Int) < (x5.length:Int))) rfl (qER hlt12) ?_))
 refine AW.k (AW.q ?_)
 refine AW.b (AW.q (AW.r ?_))
 refine AO.pu T ?_
 refine AO.w (ixr T (zgD hd10)) ?_
 refine AO.w (zLr T rfl rfl rfl rfl (zgG (zgD hd10)) rfl rfl rfl) ?_
 refine AO.p2 T ?_
 refine AO.n (AW.q ?_)
 obtain ⟨x18,hx19,hH⟩:=zB hH
 refine AW.r ?_
 iterate 4 refine AO.pu T ?_
 refine AO.w (ixs T (hx19)) ?_
 refine AO.p2 T ?_
 refine AO.n (AW.c (b:=decide (y8 > x18)) rfl (fun hc=>?_) (fun hc=>?_))
 replace hH:=condT hc hH
 refine AW.q (AW.r (AO.pu T ?_))
 refine AO.n (AW.t ?_)
 have hR:=zS hH;subst hR
 exact retQ.i [] rfl (.c (.c .v))
 replace hH:=condF hc hH
 refine AW.k (AW.r ?_)
 refine AO.w (zR rfl rfl rfl rfl (zK hlt12 hb11)) ?_
 refine AO.pu T ?_
 refine AO.n ?_
 refine ⟨k7+1,⟨Nat.succ_le_of_lt hlt12,(by rw [zds hd10];exact hH)⟩,(by have:=hlt12;dsimp only;omega),?_⟩
 exact Le.ct 0 0
 replace hH:=condF hc hH
 refine AW.q (AW.r (AO.p2 T ?_))
 refine AO.n (AW.c (b:=(rule == 8)) rfl (fun hc=>?_) (fun hc=>?_))
 replace hH:=condT hc hH
 refine AW.q ?_
 obtain ⟨x20,hx21,hH⟩:=zB hH
 refine AW.r (AO.pu T ?_)
 refine AO.w (cVs (qMv _ _ (hx21))) ?_
 refine AO.pu T ?_
 refine AO.n (AW.t ?_)
 have hR:=zS hH;subst hR
 exact retQ.i [] rfl (.c (.c .v))
 replace hH:=condF hc hH
 refine AW.k (AW.q ?_)
 obtain ⟨x22,hx23,hH⟩:=zB hH
 refine AW.r (AO.pu T (d:=.g [.s (List.map ze3 c.elements),.s (List.map ze0 c.limits),c.repeats,c.bonus,c.keeps,c.fall]) ?_)
 refine AO.p2 T ?_
 refine AO.w (cVs (qMm _ _ _ _ (hx23))) ?_
 refine AO.pu T ?_
 refine AO.n (AW.t ?_)
 have hR:=zS hH;subst hR
 exact retQ.i [] rfl (.c (.c .v))

def qB9 (c:Code) (l:List Item):Nat→List Int→Int→Option ((List Int))
 | 0,_,_=>none
 | k1+1,v12,v13 =>
  cond (decide (v13 ≤ 8))
   ((qGO c l v13).bind fun x15 =>
   cond (!x15)
    ((qCw (qBE 8 (v12.length+([v13]).length))).bind fun u17 =>
    qB9 c l k1 (v12++[v13]) (w64 (v13+1)))
    (qB9 c l k1 v12 (w64 (v13+1))))
   (some v12)
def qHE (fuel:Nat) (c:Code) (l:List Item):Option (List Int) :=
 qB9 c l fuel [] 1
theorem qLi (fuel:Nat) (c:Code) (l:List Item) (r:(List Int)) (hH:qHE fuel c l=some r):qAE Tryz.prog 211 [.g (ze7 c),.s (List.map ze2 l)] (.w 1 (r.map ze0)):=by
 refine fns T Tryz.func211 ?_
 refine AW.q (AW.r (AO.x (bxs T 1) ?_))
 refine AO.pu T ?_
 refine AO.n (AW.q (AW.r ?_))
 refine AO.pu T ?_
 refine AO.n (AW.q (AW.q ?_))
 refine AW.r (AO.pu T ?_)
 refine AO.n (AW.b ?_)
 refine AW.loopS (fun s:Nat × (List Int) × Int=>(⟨[(1,.s (List.map ze2 l)),(2,.p 1 0),(5,.R 5),(6,s.2.2)],[(1,.box [.s (List.map ze3 c.elements),.s (List.map ze0 c.limits),c.repeats,c.bonus,c.keeps,c.fall]),(5,.row 1 (List.map ze0 s.2.1))],21,[]⟩:St)) (fun s=>qB9 c l s.1 s.2.1 s.2.2=some r) (fun s=>s.1) (fuel,[],1) hH ?_ ?_
 refine Le.trans (Le.void 5 5 1 rfl rfl) ?_
 exact Le.ct 0 0
 rintro ⟨k1,v12,v13⟩ hH
 replace hH:qB9 c l k1 v12 v13=some r:=hH
 try dsimp only
 rcases k1 with _ | k1
 cases (show none=some _ from hH)
 rw [qB9] at hH
 refine AW.q (AW.q (AW.r ?_))
 refine AO.p2 T ?_
 refine AO.n (AW.c (b:=decide (v13 ≤ 8)) rfl (fun hc=>?_) (fun hc=>?_))
 replace hH:=condT hc hH
 refine AW.k (AW.q ?_)
 refine AW.b (AW.q ?_)
 obtain ⟨x15,hx16,hH⟩:=zB hH
 refine AW.r (AO.pu T (d:=.g [.s (List.map ze3 c.elements),.s (List.map ze0 c.limits),c.repeats,c.bonus,c.keeps,c.fall]) ?_)
 refine AO.p2 T ?_
 refine AO.w (cVs (qMq _ _ _ _ (hx16))) ?_
 refine AO.pu T ?_
 refine AO.n (AW.c (b:=(!x15)) rfl (fun hc=>?_) (fun hc=>?_))
 replace hH:=condT hc hH
 obtain ⟨u17,hx18,hH⟩:=zB hH
 refine AW.r (AO.p2 T ?_)
 refine AO.x (mks T 6 ze0 ([v13])) ?_
 refine AO.x (rvs T 7 (hfit:=by exact qA4 (hx18))) ?_
 refine AO.pu T ?_
 refine AO.n (AW.r ?_)
 refine AO.pu T ?_
 refine AO.w aws ?_
 refine AO.pu T ?_
 refine AO.n ?_
 refine ⟨(k1,(v12++[v13]),w64 (v13+1)),hH,Nat.lt_succ_self _,?_⟩
 exact Le.ct 7 5
 replace hH:=condF hc hH
 refine AW.k (AW.r ?_)
 refine AO.pu T ?_
 refine AO.w aws ?_
 refine AO.pu T ?_
 refine AO.n ?_
 refine ⟨(k1,v12,w64 (v13+1)),hH,Nat.lt_succ_self _,?_⟩
 exact Le.ct 0 0
 replace hH:=condF hc hH
 refine AW.exit (AW.q (AW.r ?_))
 refine AO.p2 T ?_
 refine AO.n (AW.t ?_)
 have hR:=zS hH;subst hR
 exact retQ.i [5] rfl (.c (.c (.rowR rfl)))

def qFt (fuel:Nat) (c:Code) (l:List Item):Option Bool :=
 (qHi fuel c l).bind fun x1 =>
 (opt x1 default (qHE fuel c l)).bind fun x3 =>
 some (x1 && ((x3.length:Int) == 0))
theorem qJ0 (fuel:Nat) (c:Code) (l:List Item) (r:Bool) (hH:qFt fuel c l=some r):qAE Tryz.prog 183 [.g (ze7 c),.s (List.map ze2 l)] (.v (.bool r)):=by
 refine fns T Tryz.func183 ?_
 refine AW.q (AW.r (AO.x (bxs T 1) ?_))
 refine AO.pu T ?_
 refine AO.n (AW.q ?_)
 obtain ⟨x1,hx2,hH⟩:=zB hH
 obtain ⟨x3,hx4,hH⟩:=zB hH
 refine AW.r (AO.pu T (d:=.g [.s (List.map ze3 c.elements),.s (List.map ze0 c.limits),c.repeats,c.bonus,c.keeps,c.fall]) ?_)
 refine AO.pu T ?_
 refine AO.w (cVs (qMI fuel _ _ _ (hx2))) ?_
 refine AO.pu T ?_
 refine AO.g T (d:=.g [.s (List.map ze3 c.elements),.s (List.map ze0 c.limits),c.repeats,c.bonus,c.keeps,c.fall]) [] rfl trivial rfl rfl ?_
 refine AO.g T [] rfl trivial rfl rfl ?_
 refine AO.d [9,10] rfl ⟨fun h=>h,fun h=>h,trivial⟩ (fun hg=>qSa rfl rfl rfl rfl (qLi fuel _ _ _ (qEA hx4 hg)) (.c (.c (.map fun y=>.vs rfl)))) rfl ?_
 refine AO.d [11] rfl ⟨fun h=>h,trivial⟩ (fun hg=>zL T rfl rfl rfl) rfl ?_
 refine AO.g T [12] rfl ⟨fun h=>h,trivial⟩ rfl rfl ?_
 refine AO.w qFy ?_
 refine AO.pu T ?_
 refine AO.n (AW.t ?_)
 have hR:=zS hH;subst hR
 exact retQ.i [] rfl (.c (.c .v))

def qA3 (x1:(L1Cur × Code)) (x494:(L1Cur × Int)):Nat→List Int→Int→Int→List ByteArray→List Int→Option ((List Int) × Int × Int × (List ByteArray) × (List Int))
 | 0,_,_,_,_,_=>none
 | k538+1,v560,v561,v562,v563,v564 =>
  cond (decide ((v563.length:Int) < x494.2))
   ((qAA (L1Cur.mk v560 v561 v562) (x1.2.elements.length:Int)).bind fun x566 =>
   (qAb x1.2.elements x566.2).bind fun x568 =>
   (qCw (qBE 16 (v563.length+([x568.name]).length))).bind fun u570 =>
   (qCw (qBE 8 (v564.length+(([0]:List Int)).length))).bind fun u572 =>
   qA3 x1 x494 k538 x566.1.code x566.1.at' x566.1.seed (v563++[x568.name]) (v564++([0]:List Int)))
   (some (v560,v561,v562,v563,v564))
def qA0 (fuel:Nat) (x1:(L1Cur × Code)) (v12:List Int):Nat→List Int→Int→Int→List Item→Int→Option ((L1Cur × Code × (List Item)))
 | 0,_,_,_,_,_=>none
 | k19+1,v393,v394,v395,v396,v397 =>
  cond (decide (v397 > 0))
   (((qAC (L1Cur.mk v393 v394 v395) ([1,1,1,1,2,2,3]:List Int)).bind fun x494 =>
   (qA3 x1 x494 fuel x494.1.code x494.1.at' x494.1.seed [] []).bind fun (v531,v532,v533,v534,v535) =>
   (qDu v396).bind fun x574 =>
   (qCw (qBE 56 (x574.length+([(Item.mk v534 v535 false)]).length))).bind fun u576 =>
   (qEG fuel (x574++[(Item.mk v534 v535 false)])).bind fun x578 =>
   (qFt fuel (Code.mk x1.2.elements v12 x1.2.repeats x1.2.bonus x1.2.keeps x1.2.fall) x578).bind fun x580 =>
   (opt (!x580) ((L1Cur.mk v531 v532 v533),default) (qAH (L1Cur.mk v531 v532 v533) 30)).bind fun x582 =>
   cond (x580 || x582.2)
    (some (x582.1.code,x582.1.at',x582.1.seed,x578))
    (some (x582.1.code,x582.1.at',x582.1.seed,v396))).bind fun (v488,v489,v490,v491) =>
   qA0 fuel x1 v12 k19 v488 v489 v490 v491 (w64 (v397 - 1)))
   (some ((L1Cur.mk v393 v394 v395),(Code.mk x1.2.elements v12 x1.2.repeats x1.2.bonus x1.2.keeps x1.2.fall),v396))
def qA1 (fuel:Nat) (x1:(L1Cur × Code)) (x3:(L1Cur × Bool)):Nat→List Int→Int→Option ((L1Cur × Code × (List Item)))
 | 0,_,_=>none
 | k5+1,v12,v13 =>
  cond (decide (v13 < (x1.2.limits.length:Int)))
   ((qAb v12 v13).bind fun x15 =>
   qA1 fuel x1 x3 k5 (v12.set v13.toNat 9) (w64 (v13+1)))
   ((qAA x3.1 9).bind fun x17 =>
   qA0 fuel x1 v12 fuel x17.1.code x17.1.at' x17.1.seed [] (w64 (1+x17.2)))
def qA2 (x1:(L1Cur × Code)) (x1061:(L1Cur × Int)):Nat→List Int→Int→Int→List ByteArray→List Int→Option ((List Int) × Int × Int × (List ByteArray) × (List Int))
 | 0,_,_,_,_,_=>none
 | k1105+1,v1127,v1128,v1129,v1130,v1131 =>
  cond (decide ((v1130.length:Int) < x1061.2))
   ((qAA (L1Cur.mk v1127 v1128 v1129) (x1.2.elements.length:Int)).bind fun x1133 =>
   (qAb x1.2.elements x1133.2).bind fun x1135 =>
   (qCw (qBE 16 (v1130.length+([x1135.name]).length))).bind fun u1137 =>
   (qCw (qBE 8 (v1131.length+(([0]:List Int)).length))).bind fun u1139 =>
   qA2 x1 x1061 k1105 x1133.1.code x1133.1.at' x1133.1.seed (v1130++[x1135.name]) (v1131++([0]:List Int)))
   (some (v1127,v1128,v1129,v1130,v1131))
def qAz (fuel:Nat) (x1:(L1Cur × Code)):Nat→List Int→Int→Int→List Item→Int→Option ((L1Cur × Code × (List Item)))
 | 0,_,_,_,_,_=>none
 | k586+1,v960,v961,v962,v963,v964 =>
  cond (decide (v964 > 0))
   (((qAC (L1Cur.mk v960 v961 v962) ([1,1,1,1,2,2,3]:List Int)).bind fun x1061 =>
   (qA2 x1 x1061 fuel x1061.1.code x1061.1.at' x1061.1.seed [] []).bind fun (v1098,v1099,v1100,v1101,v1102) =>
   (qDu v963).bind fun x1141 =>
   (qCw (qBE 56 (x1141.length+([(Item.mk v1101 v1102 false)]).length))).bind fun u1143 =>
   (qEG fuel (x1141++[(Item.mk v1101 v1102 false)])).bind fun x1145 =>
   (qFt fuel x1.2 x1145).bind fun x1147 =>
   (opt (!x1147) ((L1Cur.mk v1098 v1099 v1100),default) (qAH (L1Cur.mk v1098 v1099 v1100) 30)).bind fun x1149 =>
   cond (x1147 || x1149.2)
    (some (x1149.1.code,x1149.1.at',x1149.1.seed,x1145))
    (some (x1149.1.code,x1149.1.at',x1149.1.seed,v963))).bind fun (v1055,v1056,v1057,v1058) =>
   qAz fuel x1 k586 v1055 v1056 v1057 v1058 (w64 (v964 - 1)))
   (some ((L1Cur.mk v960 v961 v962),x1.2,v963))
def qCb (fuel:Nat) (c:L1Cur):Option (L1Cur × Code × (List Item)) :=
 (qCM fuel c).bind fun x1 =>
 (qAH x1.1 2).bind fun x3 =>
 cond x3.2
  (qA1 fuel x1 x3 fuel x1.2.limits 0)
  ((qAA x3.1 9).bind fun x584 =>
  qAz fuel x1 fuel x584.1.code x584.1.at' x584.1.seed [] (w64 (1+x584.2)))
theorem qFe (fuel:Nat) (c:L1Cur) (r:(L1Cur × Code × (List Item))) (hH:qCb fuel c=some r):qE7 Tryz.prog 140 [.pw (ze9 c)] [.pw (ze9 r.1)] (.t [.g (qGH r.2.1),.w 3 (r.2.2.map qGM)]):=by
 refine qEy T Tryz.func140 rfl (by decide) rfl rfl ?_
 intro L
 show AW _ _ _ (⟨[(0,.p 1 0)],[(1,.box [.s (List.map ze4 c.code),c.at',.v (.int .u64 c.seed)])],78,[(1,L 1)]⟩:St)
 refine AW.q (AW.r (AO.x (als T 2) ?_))
 refine AO.pu T ?_
 refine AO.n (AW.q ?_)
 obtain ⟨x1,hx2,hH⟩:=zB hH
 refine AW.r (AO.pu T ?_)
 refine AO.x (cMs 3 [1] (S:=qFU fuel _ _ (hx2)) (hp:=by exact zG (.c (.box rfl rfl)) (zGn))) ?_
 refine AO.x (als T 5) ?_
 refine AO.se T [.R 3,.R 4,x1.2.repeats,x1.2.bonus,x1.2.keeps,x1.2.fall] ?_
 refine AO.n (AW.q (AW.q ?_))
 obtain ⟨x3,hx4,hH⟩:=zB hH
 refine AW.r (AO.pu T ?_)
 refine AO.x (cMs 6 [1] (S:=qAL _ _ _ (hx4)) (hp:=by exact zG (.c (.box rfl rfl)) (zG (.c .v) (zGn)))) ?_
 refine AO.n (AW.c (b:=x3.2) rfl (fun hc=>?_) (fun hc=>?_))
 replace hH:=condT hc hH
 refine AW.q (AW.r (AO.p2 T ?_))
 refine AO.w (qGn T) ?_
 refine AO.pu T ?_
 refine AO.n (AW.b ?_)
 refine AW.loopS (fun s:Nat × (List Int) × Int=>(⟨[(0,.p 1 0),(2,.p 2 0),(4,.p 5 0),(17,(x1.2.limits.length:Int)),(18,s.2.2)],[(1,.box [.s (List.map ze4 x3.1.code),x3.1.at',.v (.int .u64 x3.1.seed)]),(2,.box [.w 0 [],.w 0 [],(0:Int),(0:Int),(0:Int),(0:Int)]),(3,.row 4 (List.map ze3 x1.2.elements)),(4,.row 1 (List.map ze0 s.2.1)),(5,.box [.R 3,.R 4,x1.2.repeats,x1.2.bonus,x1.2.keeps,x1.2.fall])],78,[(1,L 1)]⟩:St)) (fun s=>qA1 fuel x1 x3 s.1 s.2.1 s.2.2=some r) (fun s=>s.1) (fuel,x1.2.limits,0) hH ?_ ?_
 exact Le.ct 0 0 (hpin:=⟨⟨rfl,rfl⟩,trivial⟩)
 rintro ⟨k5,v12,v13⟩ hH
 replace hH:qA1 fuel x1 x3 k5 v12 v13=some r:=hH
 try dsimp only
 rcases k5 with _ | k5
 cases (show none=some _ from hH)
 rw [qA1] at hH
 refine AW.q (AW.r (AO.pu T ?_))
 refine AO.n (AW.q (AW.c (b:=decide (v13 < (x1.2.limits.length:Int))) rfl (fun hc=>?_) (fun hc=>?_)))
 replace hH:=condT hc hH
 refine AW.k (AW.q ?_)
 refine AW.b (AW.q (AW.r ?_))
 refine AO.p2 T ?_
 refine AO.n ?_
 obtain ⟨x15,hx16,hH⟩:=zB hH
 refine AW.r ?_
 iterate 3 refine AO.pu T ?_
 refine AO.w (ixr T (hx16)) ?_
 refine AO.x (zSr T rfl rfl rfl rfl rfl (zgG (hx16)) rfl rfl rfl rfl (u':=9) rfl rfl) ?_
 refine AO.n (AW.r ?_)
 refine AO.w aws ?_
 refine AO.pu T ?_
 refine AO.n ?_
 refine ⟨(k5,(v12.set v13.toNat 9),w64 (v13+1)),hH,Nat.lt_succ_self _,?_⟩
 exact Le.ct 0 0 (hpin:=⟨⟨rfl,rfl⟩,trivial⟩)
 replace hH:=condF hc hH
 refine AW.exit (AW.q (AW.r ?_))
 refine AO.pu T ?_
 refine AO.n (AW.q (AW.q ?_))
 obtain ⟨x17,hx18,hH⟩:=zB hH
 refine AW.r (AO.pu T ?_)
 refine AO.x (cMs 6 [1] (S:=qAB _ _ _ (hx18)) (hp:=by exact zG (.c (.box rfl rfl)) (zG (.c .v) (zGn)))) ?_
 refine AO.w aws ?_
 refine AO.pu T ?_
 refine AO.n (AW.b ?_)
 refine AW.loopS (fun s:Nat × (List Int) × Int × Int × (List Item) × Int=>(⟨[(0,.p 1 0),(2,.p 2 0),(4,.p 5 0),(6,.R 95),(7,s.2.2.2.2.2)],[(1,.box [.s (List.map ze4 s.2.1),s.2.2.1,.v (.int .u64 s.2.2.2.1)]),(2,.box [.w 0 [],.w 0 [],(0:Int),(0:Int),(0:Int),(0:Int)]),(3,.row 4 (List.map ze3 x1.2.elements)),(4,.row 1 (List.map ze0 v12)),(5,.box [.R 3,.R 4,x1.2.repeats,x1.2.bonus,x1.2.keeps,x1.2.fall]),(95,.row 3 (List.map qGM s.2.2.2.2.1))],78,[(1,L 1)]⟩:St)) (fun s=>qA0 fuel x1 v12 s.1 s.2.1 s.2.2.1 s.2.2.2.1 s.2.2.2.2.1 s.2.2.2.2.2=some r) (fun s=>s.1) (fuel,x17.1.code,x17.1.at',x17.1.seed,[],w64 (1+x17.2)) hH ?_ ?_
 refine Le.trans (Le.void 6 95 3 rfl rfl) ?_
 exact Le.ct 0 0 (hpin:=⟨⟨rfl,rfl⟩,trivial⟩)
 rintro ⟨k19,v393,v394,v395,v396,v397⟩ hH
 replace hH:qA0 fuel x1 v12 k19 v393 v394 v395 v396 v397=some r:=hH
 try dsimp only
 rcases k19 with _ | k19
 cases (show none=some _ from hH)
 rw [qA0] at hH
 refine AW.q (AW.q (AW.r ?_))
 refine AO.p2 T ?_
 refine AO.n (AW.c (b:=decide (v397 > 0)) rfl (fun hc=>?_) (fun hc=>?_))
 replace hH:=condT hc hH
 refine AW.k ?_
 obtain ⟨o492,hH,hK493⟩:=zB hH
 refine AW.seqJ (fun s:(List Int) × Int × Int × (List Item)=>(⟨[(0,.p 1 0),(2,.p 2 0),(4,.p 5 0),(6,.R 155),(7,v397)],[(1,.box [.s (List.map ze4 s.1),s.2.1,.v (.int .u64 s.2.2.1)]),(2,.box [.w 0 [],.w 0 [],(0:Int),(0:Int),(0:Int),(0:Int)]),(3,.row 4 (List.map ze3 x1.2.elements)),(4,.row 1 (List.map ze0 v12)),(5,.box [.R 3,.R 4,x1.2.repeats,x1.2.bonus,x1.2.keeps,x1.2.fall]),(155,.row 3 (List.map qGM s.2.2.2))],78,[(1,L 1)]⟩:St)) (fun s=>s=o492) ?_ ?_
 refine AW.b (AW.q (AW.r ?_))
 refine AO.pu T (d:=.g [.w 0 [],.w 0 [],.v (.bool false)]) ?_
 refine AO.x (als T 156) ?_
 refine AO.se T [.w 0 [],.w 0 [],.v (.bool false)] ?_
 refine AO.n (AW.q ?_)
 obtain ⟨x494,hx495,hH⟩:=zB hH
 refine AW.r (AO.pu T ?_)
 refine AO.x (mks T 157 ze0 (([1,1,1,1,2,2,3]:List Int))) ?_
 refine AO.le (Le.fM 157 (g:=ze0) rfl (fun y=>.vs rfl)) ?_
 refine AO.x (cMs 158 [1] (S:=qAD _ _ _ (hx495)) (hp:=by exact zG (.c (.box rfl rfl)) (zG (.c .s) (zGn)))) ?_
 refine AO.pu T ?_
 refine AO.n ?_
 obtain ⟨o536,hH,hK537⟩:=zB hH
 refine AW.seqJ (fun s:(List Int) × Int × Int × (List ByteArray) × (List Int)=>(⟨[(0,.p 1 0),(2,.p 2 0),(4,.p 5 0),(6,.R 95),(7,v397),(8,.p 156 0)],[(1,.box [.s (List.map ze4 s.1),s.2.1,.v (.int .u64 s.2.2.1)]),(2,.box [.w 0 [],.w 0 [],(0:Int),(0:Int),(0:Int),(0:Int)]),(3,.row 4 (List.map ze3 x1.2.elements)),(4,.row 1 (List.map ze0 v12)),(5,.box [.R 3,.R 4,x1.2.repeats,x1.2.bonus,x1.2.keeps,x1.2.fall]),(95,.row 3 (List.map qGM v396)),(156,.box [.R 163,.R 165,.v (.bool false)]),(163,.row 1 (List.map ze5 s.2.2.2.1)),(165,.row 1 (List.map ze0 s.2.2.2.2))],78,[(1,L 1)]⟩:St)) (fun s=>s=o536) ?_ ?_
 refine AW.b (AW.loopS (fun s:Nat × (List Int) × Int × Int × (List ByteArray) × (List Int)=>(⟨[(0,.p 1 0),(2,.p 2 0),(4,.p 5 0),(6,.R 95),(7,v397),(8,.p 156 0),(9,x494.2)],[(1,.box [.s (List.map ze4 s.2.1),s.2.2.1,.v (.int .u64 s.2.2.2.1)]),(2,.box [.w 0 [],.w 0 [],(0:Int),(0:Int),(0:Int),(0:Int)]),(3,.row 4 (List.map ze3 x1.2.elements)),(4,.row 1 (List.map ze0 v12)),(5,.box [.R 3,.R 4,x1.2.repeats,x1.2.bonus,x1.2.keeps,x1.2.fall]),(95,.row 3 (List.map qGM v396)),(156,.box [.R 175,.R 177,.v (.bool false)]),(175,.row 1 (List.map ze5 s.2.2.2.2.1)),(177,.row 1 (List.map ze0 s.2.2.2.2.2))],78,[(1,L 1)]⟩:St)) (fun s=>qA3 x1 x494 s.1 s.2.1 s.2.2.1 s.2.2.2.1 s.2.2.2.2.1 s.2.2.2.2.2=some o536) (fun s=>s.1) (fuel,x494.1.code,x494.1.at',x494.1.seed,[],[]) hH ?_ ?_)
 refine Le.trans (Le.voidBox 156 0 175 1 rfl rfl rfl rfl) ?_
 refine Le.trans (Le.voidBox 156 1 177 1 rfl rfl rfl rfl) ?_
 exact Le.ct 0 0 (hpin:=⟨⟨rfl,rfl⟩,trivial⟩)
 rintro ⟨k538,v560,v561,v562,v563,v564⟩ hH
 replace hH:qA3 x1 x494 k538 v560 v561 v562 v563 v564=some o536:=hH
 try dsimp only
 rcases k538 with _ | k538
 cases (show none=some _ from hH)
 rw [qA3] at hH
 refine AW.q (AW.q (AW.r ?_))
 refine AO.p2 T ?_
 refine AO.w (qGn T) ?_
 refine AO.p2 T ?_
 refine AO.n (AW.c (b:=decide ((v563.length:Int) < x494.2)) rfl (fun hc=>?_) (fun hc=>?_))
 replace hH:=condT hc hH
 refine AW.k (AW.b ?_)
 refine AW.q ?_
 obtain ⟨x566,hx567,hH⟩:=zB hH
 obtain ⟨x568,hx569,hH⟩:=zB hH
 obtain ⟨u570,hx571,hH⟩:=zB hH
 refine AW.drawn 13 178 [1] mix (by kernel_rfl) rfl ?_
 iterate 7 refine AD.pu T ?_
 refine AD.vv (qGn T) ?_
 refine AD.kk (cMF [1] (S:=qAB _ _ _ (hx567)) (hp:=by exact zG (.c (.box rfl rfl)) (zG (.c .v) (zGn)))) ?_
 refine AD.vv (ixr T (hx569)) ?_
 refine AD.pu T ?_
 refine AD.vv (zLr T rfl rfl rfl rfl (zgG (hx569)) rfl rfl rfl) ?_
 refine AD.q (FStep.mk T (f:=ze5) (l:=[x568.name]) rfl rfl rfl rfl rfl rfl rfl rfl rfl (fun _=>rfl) rfl rfl rfl rfl) (by simp [qBV]) (Nat.le_succ _) rfl ?_
 refine AD.nil (AO.x (rvs T 179 (hfit:=by exact qA4 (hx571))) ?_)
 refine AO.pu T ?_
 refine AO.se T [.R 179,.R 177,.v (.bool false)] ?_
 refine AO.n ?_
 obtain ⟨u572,hx573,hH⟩:=zB hH
 refine AW.r (AO.p2 T ?_)
 refine AO.x (mks T 180 ze0 (([0]:List Int))) ?_
 refine AO.x (rvs T 181 (hfit:=by exact qA4 (hx573))) ?_
 refine AO.pu T ?_
 refine AO.se T [.R 179,.R 181,.v (.bool false)] ?_
 refine AO.n ?_
 refine ⟨(k538,x566.1.code,x566.1.at',x566.1.seed,(v563++[x568.name]),(v564++([0]:List Int))),hH,Nat.lt_succ_self _,?_⟩
 refine Le.trans (Le.ct 179 175 (σ':=(⟨[(0,.p 1 0),(2,.p 2 0),(4,.p 5 0),(6,.R 95),(7,v397),(8,.p 156 0),(9,x494.2)],[(1,.box [.s (List.map ze4 x566.1.code),x566.1.at',.v (.int .u64 x566.1.seed)]),(2,.box [.w 0 [],.w 0 [],(0:Int),(0:Int),(0:Int),(0:Int)]),(3,.row 4 (List.map ze3 x1.2.elements)),(4,.row 1 (List.map ze0 v12)),(5,.box [.R 3,.R 4,x1.2.repeats,x1.2.bonus,x1.2.keeps,x1.2.fall]),(95,.row 3 (List.map qGM v396)),(156,.box [.R 175,.R 181,.v (.bool false)]),(175,.row 1 (List.map ze5 (v563++[x568.name]))),(181,.row 1 (List.map ze0 (v564++([0]:List Int))))],78,[(1,L 1)]⟩:St)) (hpin:=⟨⟨rfl,rfl⟩,trivial⟩)) ?_
 exact Le.ct 181 177 (hpin:=⟨⟨rfl,rfl⟩,trivial⟩)
 replace hH:=condF hc hH
 refine AW.exit ?_
 refine ⟨_,zS hH,?_⟩
 refine Le.trans (Le.ct 175 163 (σ':=(⟨[(0,.p 1 0),(2,.p 2 0),(4,.p 5 0),(6,.R 95),(7,v397),(8,.p 156 0)],[(1,.box [.s (List.map ze4 v560),v561,.v (.int .u64 v562)]),(2,.box [.w 0 [],.w 0 [],(0:Int),(0:Int),(0:Int),(0:Int)]),(3,.row 4 (List.map ze3 x1.2.elements)),(4,.row 1 (List.map ze0 v12)),(5,.box [.R 3,.R 4,x1.2.repeats,x1.2.bonus,x1.2.keeps,x1.2.fall]),(95,.row 3 (List.map qGM v396)),(156,.box [.R 163,.R 177,.v (.bool false)]),(163,.row 1 (List.map ze5 v563)),(177,.row 1 (List.map ze0 v564))],78,[(1,L 1)]⟩:St)) (hpin:=⟨⟨rfl,rfl⟩,trivial⟩)) ?_
 exact Le.ct 177 165 (hpin:=⟨⟨rfl,rfl⟩,trivial⟩)
 rintro ⟨v531,v532,v533,v534,v535⟩ hs
 subst hs
 replace hH:=hK537
 try dsimp only [qKp,qID] at hH
 try dsimp only
 refine AW.q ?_
 obtain ⟨x574,hx575,hH⟩:=zB hH
 obtain ⟨u576,hx577,hH⟩:=zB hH
 obtain ⟨x578,hx579,hH⟩:=zB hH
 refine AW.le (Le.fM 163 (g:=ze5) rfl (fun y=>.vs rfl)) ?_
 refine AW.le (Le.fM 165 (g:=ze0) rfl (fun y=>.vs rfl)) ?_
 refine AW.drawn 4 182 [] mix (by kernel_rfl) rfl ?_
 refine AD.pu T ?_
 refine AD.q (FStep.callL rfl rfl rfl rfl (es:=[.s (List.map ze2 v396)]) ⟨(.rowR rfl (.map fun y=>qDh y)),trivial⟩ (qDx _ _ (hx575)) (qAO (fun y=>(.cons (qAO (fun y=>(.cons (qAF _) .nil))) (.cons (qAO (fun y=>(.cons (qAF _) .nil))) (.cons (qAF _) .nil))))) rfl rfl) (qDj _ _) (qGc _ _) rfl ?_
 refine AD.p T (d:=.g [.s (List.map ze5 v534),.s (List.map ze0 v535),.v (.bool false)]) rfl rfl rfl ?_
 refine AD.q (FStep.mk T (f:=ze2) (l:=[(Item.mk v534 v535 false)]) rfl rfl rfl rfl rfl rfl rfl rfl rfl (fun _=>rfl) rfl rfl rfl rfl) (by simp [qBV]) (Nat.le_succ _) rfl ?_
 refine AD.nil (AO.le (Le.freezeIn 182 (g:=ze2) rfl (fun y=>qDh y)) ?_)
 refine AO.x (rvs T 184 (hfit:=by exact qA4 (hx577))) ?_
 refine AO.x (qEi rfl 185 rfl rfl (es:=[.s (List.map ze2 (x574++[(Item.mk v534 v535 false)]))]) (by exact ⟨(.rowR rfl (.map fun y=>.vs rfl)),trivial⟩) (qGG fuel _ _ (hx579)) (qAO (fun y=>(.cons (qAO (fun y=>(.cons (qAF _) .nil))) (.cons (qAO (fun y=>(.cons (qAF _) .nil))) (.cons (qAF _) .nil))))) rfl rfl rfl) ?_
 refine AO.pu T ?_
 refine AO.n (AW.q ?_)
 obtain ⟨x580,hx581,hH⟩:=zB hH
 obtain ⟨x582,hx583,hH⟩:=zB hH
 refine AW.r (AO.pu T (d:=.g [.R 3,.R 4,x1.2.repeats,x1.2.bonus,x1.2.keeps,x1.2.fall]) ?_)
 refine AO.pu T ?_
 refine AO.w (zLV rfl rfl rfl (es:=[.g (ze7 (Code.mk x1.2.elements v12 x1.2.repeats x1.2.bonus x1.2.keeps x1.2.fall)),.s (List.map ze2 x578)]) ⟨qE1 (LendL.cons ((.rowR rfl (.map fun y=>.vs rfl))) (LendL.cons ((.rowR rfl (.map fun y=>.vs rfl))) (LendL.cons (.free rfl) (LendL.cons (.free rfl) (LendL.cons (.free rfl) (LendL.cons (.free rfl) LendL.nil)))))),(.rowR rfl (.map fun y=>qDh y)),trivial⟩ (qJ0 fuel _ _ _ (hx581)) (qAF _) rfl) ?_
 refine AO.pu T ?_
 refine AO.g T [] rfl trivial rfl rfl ?_
 refine AO.guardP (id:=1) (cs':=[.s (List.map ze4 x582.1.code),x582.1.at',.v (.int .u64 x582.1.seed)]) (r:=.v (.bool x582.2)) [72] rfl ⟨fun h=>h,trivial⟩ (fun hg=>zM rfl 186 rfl rfl (es:=[.pw (ze9 (L1Cur.mk v531 v532 v533)),.v (.int .i64 30)]) (outs:=[.pw (ze9 x582.1),.u]) (ids:=[1]) (by exact zG (.c (.box rfl rfl)) (zG (.c .v) (zGn))) (by decide) (.inl (by rfl)) (by rfl) (qAL _ _ _ (qEA hx583 hg)) rfl (by rfl) rfl) rfl (fun hg=>by have q:=qUO hx583 hg;subst q;rfl) rfl ?_
 refine AO.w ors ?_
 refine AO.n (AW.c (b:=(x580 || x582.2)) rfl (fun hc=>?_) (fun hc=>?_))
 replace hH:=condT hc hH
 refine AW.r (AO.p2 T ?_)
 refine AO.n ?_
 refine ⟨_,zS hH,?_⟩
 exact Le.ct 185 155 (hpin:=⟨⟨rfl,rfl⟩,trivial⟩)
 replace hH:=condF hc hH
 refine AW.k ?_
 refine ⟨_,zS hH,?_⟩
 exact Le.ct 95 155 (hpin:=⟨⟨rfl,rfl⟩,trivial⟩)
 rintro ⟨v488,v489,v490,v491⟩ hs
 subst hs
 replace hH:=hK493
 try dsimp only [qKp,qID] at hH
 try dsimp only
 refine AW.r (AO.pu T ?_)
 refine AO.w aws ?_
 refine AO.pu T ?_
 refine AO.n ?_
 refine ⟨(k19,v488,v489,v490,v491,w64 (v397 - 1)),hH,Nat.lt_succ_self _,?_⟩
 exact Le.ct 155 95 (hpin:=⟨⟨rfl,rfl⟩,trivial⟩)
 replace hH:=condF hc hH
 refine AW.exit (AW.q (AW.r ?_))
 refine AO.pu T (d:=.g [.R 3,.R 4,x1.2.repeats,x1.2.bonus,x1.2.keeps,x1.2.fall]) ?_
 refine AO.pu T ?_
 refine AO.se T [.R 3,.R 4,x1.2.repeats,x1.2.bonus,x1.2.keeps,x1.2.fall] ?_
 refine AO.pu T ?_
 refine AO.n (AW.t ?_)
 have hR:=zS hH;subst hR
 exact ⟨trivial,rfl,_,[3,4,95],[1],rfl,zG (.c (.box rfl rfl)) (zGn),.t (zG (.g (zC (.rowR rfl) (zC (.rowR rfl) (zC .v (zC .v (zC .v (zC .v (zCn)))))))) (zG (.c (.rowR rfl)) (zGn))),by decide⟩
 replace hH:=condF hc hH
 refine AW.k (AW.q (AW.r ?_))
 refine AO.pu T ?_
 refine AO.n (AW.q (AW.q ?_))
 obtain ⟨x584,hx585,hH⟩:=zB hH
 refine AW.r (AO.pu T ?_)
 refine AO.x (cMs 186 [1] (S:=qAB _ _ _ (hx585)) (hp:=by exact zG (.c (.box rfl rfl)) (zG (.c .v) (zGn)))) ?_
 refine AO.w aws ?_
 refine AO.pu T ?_
 refine AO.n (AW.b ?_)
 refine AW.loopS (fun s:Nat × (List Int) × Int × Int × (List Item) × Int=>(⟨[(0,.p 1 0),(2,.p 2 0),(4,.p 5 0),(6,.R 275),(7,s.2.2.2.2.2)],[(1,.box [.s (List.map ze4 s.2.1),s.2.2.1,.v (.int .u64 s.2.2.2.1)]),(2,.box [.w 0 [],.w 0 [],(0:Int),(0:Int),(0:Int),(0:Int)]),(3,.row 4 (List.map ze3 x1.2.elements)),(4,.row 1 (List.map ze0 x1.2.limits)),(5,.box [.R 3,.R 4,x1.2.repeats,x1.2.bonus,x1.2.keeps,x1.2.fall]),(275,.row 3 (List.map qGM s.2.2.2.2.1))],78,[(1,L 1)]⟩:St)) (fun s=>qAz fuel x1 s.1 s.2.1 s.2.2.1 s.2.2.2.1 s.2.2.2.2.1 s.2.2.2.2.2=some r) (fun s=>s.1) (fuel,x584.1.code,x584.1.at',x584.1.seed,[],w64 (1+x584.2)) hH ?_ ?_
 refine Le.trans (Le.void 6 275 3 rfl rfl) ?_
 exact Le.ct 0 0 (hpin:=⟨⟨rfl,rfl⟩,trivial⟩)
 rintro ⟨k586,v960,v961,v962,v963,v964⟩ hH
 replace hH:qAz fuel x1 k586 v960 v961 v962 v963 v964=some r:=hH
 try dsimp only
 rcases k586 with _ | k586
 cases (show none=some _ from hH)
 rw [qAz] at hH
 refine AW.q (AW.q (AW.r ?_))
 refine AO.p2 T ?_
 refine AO.n (AW.c (b:=decide (v964 > 0)) rfl (fun hc=>?_) (fun hc=>?_))
 replace hH:=condT hc hH
 refine AW.k ?_
 obtain ⟨o1059,hH,hK1060⟩:=zB hH
 refine AW.seqJ (fun s:(List Int) × Int × Int × (List Item)=>(⟨[(0,.p 1 0),(2,.p 2 0),(4,.p 5 0),(6,.R 335),(7,v964)],[(1,.box [.s (List.map ze4 s.1),s.2.1,.v (.int .u64 s.2.2.1)]),(2,.box [.w 0 [],.w 0 [],(0:Int),(0:Int),(0:Int),(0:Int)]),(3,.row 4 (List.map ze3 x1.2.elements)),(4,.row 1 (List.map ze0 x1.2.limits)),(5,.box [.R 3,.R 4,x1.2.repeats,x1.2.bonus,x1.2.keeps,x1.2.fall]),(335,.row 3 (List.map qGM s.2.2.2))],78,[(1,L 1)]⟩:St)) (fun s=>s=o1059) ?_ ?_
 refine AW.b (AW.q (AW.r ?_))
 refine AO.pu T (d:=.g [.w 0 [],.w 0 [],.v (.bool false)]) ?_
 refine AO.x (als T 336) ?_
 refine AO.se T [.w 0 [],.w 0 [],.v (.bool false)] ?_
 refine AO.n (AW.q ?_)
 obtain ⟨x1061,hx1062,hH⟩:=zB hH
 refine AW.r (AO.pu T ?_)
 refine AO.x (mks T 337 ze0 (([1,1,1,1,2,2,3]:List Int))) ?_
 refine AO.le (Le.fM 337 (g:=ze0) rfl (fun y=>.vs rfl)) ?_
 refine AO.x (cMs 338 [1] (S:=qAD _ _ _ (hx1062)) (hp:=by exact zG (.c (.box rfl rfl)) (zG (.c .s) (zGn)))) ?_
 refine AO.pu T ?_
 refine AO.n ?_
 obtain ⟨o1103,hH,hK1104⟩:=zB hH
 refine AW.seqJ (fun s:(List Int) × Int × Int × (List ByteArray) × (List Int)=>(⟨[(0,.p 1 0),(2,.p 2 0),(4,.p 5 0),(6,.R 275),(7,v964),(8,.p 336 0)],[(1,.box [.s (List.map ze4 s.1),s.2.1,.v (.int .u64 s.2.2.1)]),(2,.box [.w 0 [],.w 0 [],(0:Int),(0:Int),(0:Int),(0:Int)]),(3,.row 4 (List.map ze3 x1.2.elements)),(4,.row 1 (List.map ze0 x1.2.limits)),(5,.box [.R 3,.R 4,x1.2.repeats,x1.2.bonus,x1.2.keeps,x1.2.fall]),(275,.row 3 (List.map qGM v963)),(336,.box [.R 343,.R 345,.v (.bool false)]),(343,.row 1 (List.map ze5 s.2.2.2.1)),(345,.row 1 (List.map ze0 s.2.2.2.2))],78,[(1,L 1)]⟩:St)) (fun s=>s=o1103) ?_ ?_
 refine AW.b (AW.loopS (fun s:Nat × (List Int) × Int × Int × (List ByteArray) × (List Int)=>(⟨[(0,.p 1 0),(2,.p 2 0),(4,.p 5 0),(6,.R 275),(7,v964),(8,.p 336 0),(9,x1061.2)],[(1,.box [.s (List.map ze4 s.2.1),s.2.2.1,.v (.int .u64 s.2.2.2.1)]),(2,.box [.w 0 [],.w 0 [],(0:Int),(0:Int),(0:Int),(0:Int)]),(3,.row 4 (List.map ze3 x1.2.elements)),(4,.row 1 (List.map ze0 x1.2.limits)),(5,.box [.R 3,.R 4,x1.2.repeats,x1.2.bonus,x1.2.keeps,x1.2.fall]),(275,.row 3 (List.map qGM v963)),(336,.box [.R 355,.R 357,.v (.bool false)]),(355,.row 1 (List.map ze5 s.2.2.2.2.1)),(357,.row 1 (List.map ze0 s.2.2.2.2.2))],78,[(1,L 1)]⟩:St)) (fun s=>qA2 x1 x1061 s.1 s.2.1 s.2.2.1 s.2.2.2.1 s.2.2.2.2.1 s.2.2.2.2.2=some o1103) (fun s=>s.1) (fuel,x1061.1.code,x1061.1.at',x1061.1.seed,[],[]) hH ?_ ?_)
 refine Le.trans (Le.voidBox 336 0 355 1 rfl rfl rfl rfl) ?_
 refine Le.trans (Le.voidBox 336 1 357 1 rfl rfl rfl rfl) ?_
 exact Le.ct 0 0 (hpin:=⟨⟨rfl,rfl⟩,trivial⟩)
 rintro ⟨k1105,v1127,v1128,v1129,v1130,v1131⟩ hH
 replace hH:qA2 x1 x1061 k1105 v1127 v1128 v1129 v1130 v1131=some o1103:=hH
 try dsimp only
 rcases k1105 with _ | k1105
 cases (show none=some _ from hH)
 rw [qA2] at hH
 refine AW.q (AW.q (AW.r ?_))
 refine AO.p2 T ?_
 refine AO.w (qGn T) ?_
 refine AO.p2 T ?_
 refine AO.n (AW.c (b:=decide ((v1130.length:Int) < x1061.2)) rfl (fun hc=>?_) (fun hc=>?_))
 replace hH:=condT hc hH
 refine AW.k (AW.b ?_)
 refine AW.q ?_
 obtain ⟨x1133,hx1134,hH⟩:=zB hH
 obtain ⟨x1135,hx1136,hH⟩:=zB hH
 obtain ⟨u1137,hx1138,hH⟩:=zB hH
 refine AW.drawn 13 358 [1] mix (by kernel_rfl) rfl ?_
 iterate 7 refine AD.pu T ?_
 refine AD.vv (qGn T) ?_
 refine AD.kk (cMF [1] (S:=qAB _ _ _ (hx1134)) (hp:=by exact zG (.c (.box rfl rfl)) (zG (.c .v) (zGn)))) ?_
 refine AD.vv (ixr T (hx1136)) ?_
 refine AD.pu T ?_
 refine AD.vv (zLr T rfl rfl rfl rfl (zgG (hx1136)) rfl rfl rfl) ?_
 refine AD.q (FStep.mk T (f:=ze5) (l:=[x1135.name]) rfl rfl rfl rfl rfl rfl rfl rfl rfl (fun _=>rfl) rfl rfl rfl rfl) (by simp [qBV]) (Nat.le_succ _) rfl ?_
 refine AD.nil (AO.x (rvs T 359 (hfit:=by exact qA4 (hx1138))) ?_)
 refine AO.pu T ?_
 refine AO.se T [.R 359,.R 357,.v (.bool false)] ?_
 refine AO.n ?_
 obtain ⟨u1139,hx1140,hH⟩:=zB hH
 refine AW.r (AO.p2 T ?_)
 refine AO.x (mks T 360 ze0 (([0]:List Int))) ?_
 refine AO.x (rvs T 361 (hfit:=by exact qA4 (hx1140))) ?_
 refine AO.pu T ?_
 refine AO.se T [.R 359,.R 361,.v (.bool false)] ?_
 refine AO.n ?_
 refine ⟨(k1105,x1133.1.code,x1133.1.at',x1133.1.seed,(v1130++[x1135.name]),(v1131++([0]:List Int))),hH,Nat.lt_succ_self _,?_⟩
 refine Le.trans (Le.ct 359 355 (σ':=(⟨[(0,.p 1 0),(2,.p 2 0),(4,.p 5 0),(6,.R 275),(7,v964),(8,.p 336 0),(9,x1061.2)],[(1,.box [.s (List.map ze4 x1133.1.code),x1133.1.at',.v (.int .u64 x1133.1.seed)]),(2,.box [.w 0 [],.w 0 [],(0:Int),(0:Int),(0:Int),(0:Int)]),(3,.row 4 (List.map ze3 x1.2.elements)),(4,.row 1 (List.map ze0 x1.2.limits)),(5,.box [.R 3,.R 4,x1.2.repeats,x1.2.bonus,x1.2.keeps,x1.2.fall]),(275,.row 3 (List.map qGM v963)),(336,.box [.R 355,.R 361,.v (.bool false)]),(355,.row 1 (List.map ze5 (v1130++[x1135.name]))),(361,.row 1 (List.map ze0 (v1131++([0]:List Int))))],78,[(1,L 1)]⟩:St)) (hpin:=⟨⟨rfl,rfl⟩,trivial⟩)) ?_
 exact Le.ct 361 357 (hpin:=⟨⟨rfl,rfl⟩,trivial⟩)
 replace hH:=condF hc hH
 refine AW.exit ?_
 refine ⟨_,zS hH,?_⟩
 refine Le.trans (Le.ct 355 343 (σ':=(⟨[(0,.p 1 0),(2,.p 2 0),(4,.p 5 0),(6,.R 275),(7,v964),(8,.p 336 0)],[(1,.box [.s (List.map ze4 v1127),v1128,.v (.int .u64 v1129)]),(2,.box [.w 0 [],.w 0 [],(0:Int),(0:Int),(0:Int),(0:Int)]),(3,.row 4 (List.map ze3 x1.2.elements)),(4,.row 1 (List.map ze0 x1.2.limits)),(5,.box [.R 3,.R 4,x1.2.repeats,x1.2.bonus,x1.2.keeps,x1.2.fall]),(275,.row 3 (List.map qGM v963)),(336,.box [.R 343,.R 357,.v (.bool false)]),(343,.row 1 (List.map ze5 v1130)),(357,.row 1 (List.map ze0 v1131))],78,[(1,L 1)]⟩:St)) (hpin:=⟨⟨rfl,rfl⟩,trivial⟩)) ?_
 exact Le.ct 357 345 (hpin:=⟨⟨rfl,rfl⟩,trivial⟩)
 rintro ⟨v1098,v1099,v1100,v1101,v1102⟩ hs
 subst hs
 replace hH:=hK1104
 try dsimp only [qKp,qID] at hH
 try dsimp only
 refine AW.q ?_
 obtain ⟨x1141,hx1142,hH⟩:=zB hH
 obtain ⟨u1143,hx1144,hH⟩:=zB hH
 obtain ⟨x1145,hx1146,hH⟩:=zB hH
 refine AW.le (Le.fM 343 (g:=ze5) rfl (fun y=>.vs rfl)) ?_
 refine AW.le (Le.fM 345 (g:=ze0) rfl (fun y=>.vs rfl)) ?_
 refine AW.drawn 4 362 [] mix (by kernel_rfl) rfl ?_
 refine AD.pu T ?_
 refine AD.q (FStep.callL rfl rfl rfl rfl (es:=[.s (List.map ze2 v963)]) ⟨(.rowR rfl (.map fun y=>qDh y)),trivial⟩ (qDx _ _ (hx1142)) (qAO (fun y=>(.cons (qAO (fun y=>(.cons (qAF _) .nil))) (.cons (qAO (fun y=>(.cons (qAF _) .nil))) (.cons (qAF _) .nil))))) rfl rfl) (qDj _ _) (qGc _ _) rfl ?_
 refine AD.p T (d:=.g [.s (List.map ze5 v1101),.s (List.map ze0 v1102),.v (.bool false)]) rfl rfl rfl ?_
 refine AD.q (FStep.mk T (f:=ze2) (l:=[(Item.mk v1101 v1102 false)]) rfl rfl rfl rfl rfl rfl rfl rfl rfl (fun _=>rfl) rfl rfl rfl rfl) (by simp [qBV]) (Nat.le_succ _) rfl ?_
 refine AD.nil (AO.le (Le.freezeIn 362 (g:=ze2) rfl (fun y=>qDh y)) ?_)
 refine AO.x (rvs T 364 (hfit:=by exact qA4 (hx1144))) ?_
 refine AO.x (qEi rfl 365 rfl rfl (es:=[.s (List.map ze2 (x1141++[(Item.mk v1101 v1102 false)]))]) (by exact ⟨(.rowR rfl (.map fun y=>.vs rfl)),trivial⟩) (qGG fuel _ _ (hx1146)) (qAO (fun y=>(.cons (qAO (fun y=>(.cons (qAF _) .nil))) (.cons (qAO (fun y=>(.cons (qAF _) .nil))) (.cons (qAF _) .nil))))) rfl rfl rfl) ?_
 refine AO.pu T ?_
 refine AO.n (AW.q ?_)
 obtain ⟨x1147,hx1148,hH⟩:=zB hH
 obtain ⟨x1149,hx1150,hH⟩:=zB hH
 refine AW.r (AO.pu T (d:=.g [.R 3,.R 4,x1.2.repeats,x1.2.bonus,x1.2.keeps,x1.2.fall]) ?_)
 refine AO.pu T ?_
 refine AO.w (zLV rfl rfl rfl (es:=[.g (ze7 x1.2),.s (List.map ze2 x1145)]) ⟨qE1 (LendL.cons ((.rowR rfl (.map fun y=>.vs rfl))) (LendL.cons ((.rowR rfl (.map fun y=>.vs rfl))) (LendL.cons (.free rfl) (LendL.cons (.free rfl) (LendL.cons (.free rfl) (LendL.cons (.free rfl) LendL.nil)))))),(.rowR rfl (.map fun y=>qDh y)),trivial⟩ (qJ0 fuel _ _ _ (hx1148)) (qAF _) rfl) ?_
 refine AO.pu T ?_
 refine AO.g T [] rfl trivial rfl rfl ?_
 refine AO.guardP (id:=1) (cs':=[.s (List.map ze4 x1149.1.code),x1149.1.at',.v (.int .u64 x1149.1.seed)]) (r:=.v (.bool x1149.2)) [72] rfl ⟨fun h=>h,trivial⟩ (fun hg=>zM rfl 366 rfl rfl (es:=[.pw (ze9 (L1Cur.mk v1098 v1099 v1100)),.v (.int .i64 30)]) (outs:=[.pw (ze9 x1149.1),.u]) (ids:=[1]) (by exact zG (.c (.box rfl rfl)) (zG (.c .v) (zGn))) (by decide) (.inl (by rfl)) (by rfl) (qAL _ _ _ (qEA hx1150 hg)) rfl (by rfl) rfl) rfl (fun hg=>by have q:=qUO hx1150 hg;subst q;rfl) rfl ?_
 refine AO.w ors ?_
 refine AO.n (AW.c (b:=(x1147 || x1149.2)) rfl (fun hc=>?_) (fun hc=>?_))
 replace hH:=condT hc hH
 refine AW.r (AO.p2 T ?_)
 refine AO.n ?_
 refine ⟨_,zS hH,?_⟩
 exact Le.ct 365 335 (hpin:=⟨⟨rfl,rfl⟩,trivial⟩)
 replace hH:=condF hc hH
 refine AW.k ?_
 refine ⟨_,zS hH,?_⟩
 exact Le.ct 275 335 (hpin:=⟨⟨rfl,rfl⟩,trivial⟩)
 rintro ⟨v1055,v1056,v1057,v1058⟩ hs
 subst hs
 replace hH:=hK1060
 try dsimp only [qKp,qID] at hH
 try dsimp only
 refine AW.r (AO.pu T ?_)
 refine AO.w aws ?_
 refine AO.pu T ?_
 refine AO.n ?_
 refine ⟨(k586,v1055,v1056,v1057,v1058,w64 (v964 - 1)),hH,Nat.lt_succ_self _,?_⟩
 exact Le.ct 335 275 (hpin:=⟨⟨rfl,rfl⟩,trivial⟩)
 replace hH:=condF hc hH
 refine AW.exit (AW.q (AW.r ?_))
 refine AO.pu T (d:=.g [.R 3,.R 4,x1.2.repeats,x1.2.bonus,x1.2.keeps,x1.2.fall]) ?_
 refine AO.pu T ?_
 refine AO.se T [.R 3,.R 4,x1.2.repeats,x1.2.bonus,x1.2.keeps,x1.2.fall] ?_
 refine AO.pu T ?_
 refine AO.n (AW.t ?_)
 have hR:=zS hH;subst hR
 exact ⟨trivial,rfl,_,[3,4,275],[1],rfl,zG (.c (.box rfl rfl)) (zGn),.t (zG (.g (zC (.rowR rfl) (zC (.rowR rfl) (zC .v (zC .v (zC .v (zC .v (zCn)))))))) (zG (.c (.rowR rfl)) (zGn))),by decide⟩

def qAS (fuel:Nat) (x1:(L1Cur × Int)):List ByteArray→Nat→List Element→List Item→Option ((L1Cur × Code × (List Item)))
 | [],k5,v25,v26 =>
  (qEG fuel v26).bind fun x28 =>
  some (x1.1,(Code.mk v25 ([9,9,9,9,9]:List Int) 1 0 80 0),x28)
 | y6::ys7,k5,v25,v26 =>
  (qCw (5 != 0)).bind fun u30 =>
  (qCw (qBE 40 (v25.length+([(Element.mk y6 ((k5:Int).tmod 5) 0 (w64 (100+(w64 (10 * (k5:Int))))))]).length))).bind fun u32 =>
  cond (decide ((k5:Int) < (w64 (14+x1.2))))
   ((qCw (qBE 56 (v26.length+([(Item.mk [y6] ([0]:List Int) false)]).length))).bind fun u34 =>
   qAS fuel x1 ys7 (k5+1) (v25++[(Element.mk y6 ((k5:Int).tmod 5) 0 (w64 (100+(w64 (10 * (k5:Int))))))]) (v26++[(Item.mk [y6] ([0]:List Int) false)]))
   (qAS fuel x1 ys7 (k5+1) (v25++[(Element.mk y6 ((k5:Int).tmod 5) 0 (w64 (100+(w64 (10 * (k5:Int))))))]) v26)
def qDg (fuel:Nat) (c:L1Cur):Option (L1Cur × Code × (List Item)) :=
 (qAA c 2).bind fun x1 =>
 (qCe ).bind fun x3 =>
 qAS fuel x1 x3 0 [] []
theorem qG7 (fuel:Nat) (c:L1Cur) (r:(L1Cur × Code × (List Item))) (hH:qDg fuel c=some r):qE7 Tryz.prog 184 [.pw (ze9 c)] [.pw (ze9 r.1)] (.t [.g (qGH r.2.1),.w 3 (r.2.2.map qGM)]):=by
 refine qEy T Tryz.func184 rfl (by decide) rfl rfl ?_
 intro L
 show AW _ _ _ (⟨[(0,.p 1 0)],[(1,.box [.s (List.map ze4 c.code),c.at',.v (.int .u64 c.seed)])],47,[(1,L 1)]⟩:St)
 refine AW.q (AW.r (AO.x (als T 2) ?_))
 refine AO.pu T ?_
 refine AO.n (AW.q (AW.r ?_))
 refine AO.x (mks T 3 ze0 (([9,9,9,9,9]:List Int))) ?_
 refine AO.pu T (d:=.g [.w 0 [],.R 3,(1:Int),(0:Int),(80:Int),(0:Int)]) ?_
 refine AO.x (als T 4) ?_
 refine AO.se T [.w 0 [],.R 3,(1:Int),(0:Int),(80:Int),(0:Int)] ?_
 refine AO.n (AW.q (AW.r ?_))
 refine AO.pu T ?_
 refine AO.n (AW.q ?_)
 obtain ⟨x1,hx2,hH⟩:=zB hH
 refine AW.r (AO.pu T ?_)
 refine AO.x (cMs 5 [1] (S:=qAB _ _ _ (hx2)) (hp:=by exact zG (.c (.box rfl rfl)) (zG (.c .v) (zGn)))) ?_
 refine AO.w aws ?_
 refine AO.pu T ?_
 refine AO.n (AW.q (AW.q ?_))
 obtain ⟨x3,hx4,hH⟩:=zB hH
 refine AW.r (AO.x (qBk rfl 5 rfl rfl rfl (qDC _ (hx4)) rfl rfl rfl) ?_)
 refine AO.w (qGn T) ?_
 refine AO.pu T ?_
 refine AO.n (AW.b ?_)
 refine AW.loopS (fun s:Nat × (List Element) × (List Item)=>(⟨[(2,.p 2 0),(4,.p 4 0),(5,.R 17),(6,w64 (14+x1.2)),(14,.R 5),(15,(x3.length:Int)),(16,(s.1:Int))],[(1,.box [.s (List.map ze4 x1.1.code),x1.1.at',.v (.int .u64 x1.1.seed)]),(2,.box [.w 0 [],.w 0 [],(0:Int),(0:Int),(0:Int),(0:Int)]),(3,.row 1 (List.map ze0 ([9,9,9,9,9]:List Int))),(4,.box [.R 13,.R 3,(1:Int),(0:Int),(80:Int),(0:Int)]),(5,.row 1 (List.map ze5 x3)),(13,.row 4 (List.map ze3 s.2.1)),(17,.row 3 (List.map ze2 s.2.2))],47,[(1,L 1)]⟩:St)) (fun s=>s.1 ≤ x3.length∧qAS fuel x1 (x3.drop s.1) s.1 s.2.1 s.2.2=some r) (fun s=>x3.length - s.1) (0,[],[]) ⟨Nat.zero_le _,hH⟩ ?_ ?_
 refine Le.trans (Le.void 5 17 3 rfl rfl) ?_
 refine Le.trans (Le.voidBox 4 0 13 4 rfl rfl rfl rfl) ?_
 exact Le.ct 0 0 (hpin:=⟨⟨rfl,rfl⟩,trivial⟩)
 rintro ⟨k5,v25,v26⟩ ⟨hk,hH⟩
 replace hH:qAS fuel x1 (x3.drop k5) k5 v25 v26=some r:=hH
 try dsimp only
 refine AW.boundR (id:=5) (l:=x3) rfl (fun hb9=>?_)
 rcases hd8:x3.drop k5 with _ | ⟨y6,ys7⟩
 rw [hd8,qAS] at hH
 have hlt10:=qAJ hd8
 refine AW.q (AW.r (AO.pu T ?_))
 refine AO.n (AW.q (AW.condF' (b:=decide ((k5:Int) < (x3.length:Int))) rfl (qEQ hlt10) ?_))
 refine AW.exit (AW.q ?_)
 obtain ⟨x28,hx29,hH⟩:=zB hH
 refine AW.drawn 3 18 [] mix (by kernel_rfl) rfl ?_
 refine AD.p T (d:=.g [.R 13,.R 3,(1:Int),(0:Int),(80:Int),(0:Int)]) rfl rfl rfl ?_
 refine AD.pu T ?_
 refine AD.q (FStep.callL rfl rfl rfl rfl (es:=[.s (List.map ze2 v26)]) ⟨(.rowR rfl (.map fun y=>.vs rfl)),trivial⟩ (qGG fuel _ _ (hx29)) (qAO (fun y=>(.cons (qAO (fun y=>(.cons (qAF _) .nil))) (.cons (qAO (fun y=>(.cons (qAF _) .nil))) (.cons (qAF _) .nil))))) rfl rfl) (qDj _ _) (qGc _ _) rfl ?_
 refine AD.nil (AO.se T [.R 13,.R 3,(1:Int),(0:Int),(80:Int),(0:Int)] ?_)
 refine AO.pu T ?_
 refine AO.n (AW.t ?_)
 have hR:=zS hH;subst hR
 exact ⟨trivial,rfl,_,[13,3,18],[1],rfl,zG (.c (.box rfl rfl)) (zGn),.t (zG (.g (zC (.rowR rfl) (zC (.rowR rfl) (zC .v (zC .v (zC .v (zC .v (zCn)))))))) (zG (.c (.rowR rfl)) (zGn))),by decide⟩
 rw [hd8,qAS] at hH
 have hlt10:=qAK hd8
 refine AW.q (AW.r (AO.pu T ?_))
 refine AO.n (AW.q (AW.condT' (b:=decide ((k5:Int) < (x3.length:Int))) rfl (qER hlt10) ?_))
 refine AW.k (AW.q ?_)
 refine AW.b (AW.q (AW.r ?_))
 refine AO.pu T ?_
 refine AO.w (ixr T (zgD hd8)) ?_
 refine AO.w (zLr T rfl rfl rfl rfl (zgG (zgD hd8)) rfl rfl rfl) ?_
 refine AO.p2 T ?_
 refine AO.n (AW.q ?_)
 obtain ⟨u30,hx31,hH⟩:=zB hH
 obtain ⟨u32,hx33,hH⟩:=zB hH
 refine AW.r ?_
 iterate 4 refine AO.pu T ?_
 refine AO.w (qLP rfl rfl rfl (neZ (qA4 (hx31)))) ?_
 refine AO.pu T ?_
 iterate 2 refine AO.w aws ?_
 refine AO.pu T (d:=.g [.v (.string y6),((k5:Int).tmod 5:Int),(0:Int),w64 (100+(w64 (10 * (k5:Int))))]) ?_
 refine AO.x (mks T 19 ze3 ([(Element.mk y6 ((k5:Int).tmod 5) 0 (w64 (100+(w64 (10 * (k5:Int))))))])) ?_
 refine AO.x (rvs T 20 (hfit:=by exact qA4 (hx33))) ?_
 refine AO.pu T ?_
 refine AO.se T [.R 20,.R 3,(1:Int),(0:Int),(80:Int),(0:Int)] ?_
 refine AO.n (AW.q (AW.r ?_))
 iterate 3 refine AO.pu T ?_
 refine AO.n (AW.c (b:=decide ((k5:Int) < (w64 (14+x1.2)))) rfl (fun hc=>?_) (fun hc=>?_))
 replace hH:=condT hc hH
 obtain ⟨u34,hx35,hH⟩:=zB hH
 refine AW.r (AO.p2 T ?_)
 refine AO.x (mks T 21 ze5 ([y6])) ?_
 refine AO.x (mks T 22 ze0 (([0]:List Int))) ?_
 refine AO.pu T (d:=.g [.R 21,.R 22,.v (.bool false)]) ?_
 refine AO.le (Le.fM 21 (g:=ze5) rfl (fun y=>.vs rfl)) ?_
 refine AO.le (Le.fM 22 (g:=ze0) rfl (fun y=>.vs rfl)) ?_
 refine AO.x (mks T 23 ze2 ([(Item.mk [y6] ([0]:List Int) false)])) ?_
 refine AO.x (rvs T 24 (hfit:=by exact qA4 (hx35))) ?_
 refine AO.pu T ?_
 refine AO.n (AW.le (Le.ct 0 0 (σ':=(⟨[(2,.p 2 0),(4,.p 4 0),(5,.R 24),(6,w64 (14+x1.2)),(14,.R 5),(15,(x3.length:Int)),(16,(k5:Int))],[(1,.box [.s (List.map ze4 x1.1.code),x1.1.at',.v (.int .u64 x1.1.seed)]),(2,.box [.w 0 [],.w 0 [],(0:Int),(0:Int),(0:Int),(0:Int)]),(3,.row 1 (List.map ze0 ([9,9,9,9,9]:List Int))),(4,.box [.R 20,.R 3,(1:Int),(0:Int),(80:Int),(0:Int)]),(5,.row 1 (List.map ze5 x3)),(20,.row 4 (List.map ze3 (v25++[(Element.mk y6 ((k5:Int).tmod 5) 0 (w64 (100+(w64 (10 * (k5:Int))))))]))),(24,.row 3 (List.map ze2 (v26++[(Item.mk [y6] ([0]:List Int) false)])))],47,[(1,L 1)]⟩:St)) (hpin:=⟨⟨rfl,rfl⟩,trivial⟩)) ?_)
 refine AW.r (AO.w (zR rfl rfl rfl rfl (zK hlt10 hb9)) ?_)
 refine AO.pu T ?_
 refine AO.n ?_
 refine ⟨(k5+1,(v25++[(Element.mk y6 ((k5:Int).tmod 5) 0 (w64 (100+(w64 (10 * (k5:Int))))))]),(v26++[(Item.mk [y6] ([0]:List Int) false)])),⟨Nat.succ_le_of_lt hlt10,(by rw [zds hd8];exact hH)⟩,(by have:=hlt10;dsimp only;omega),?_⟩
 refine Le.trans (Le.ct 24 17 (σ':=(⟨[(2,.p 2 0),(4,.p 4 0),(5,.R 17),(6,w64 (14+x1.2)),(14,.R 5),(15,(x3.length:Int)),(16,((k5+1:Nat):Int))],[(1,.box [.s (List.map ze4 x1.1.code),x1.1.at',.v (.int .u64 x1.1.seed)]),(2,.box [.w 0 [],.w 0 [],(0:Int),(0:Int),(0:Int),(0:Int)]),(3,.row 1 (List.map ze0 ([9,9,9,9,9]:List Int))),(4,.box [.R 20,.R 3,(1:Int),(0:Int),(80:Int),(0:Int)]),(5,.row 1 (List.map ze5 x3)),(17,.row 3 (List.map ze2 (v26++[(Item.mk [y6] ([0]:List Int) false)]))),(20,.row 4 (List.map ze3 (v25++[(Element.mk y6 ((k5:Int).tmod 5) 0 (w64 (100+(w64 (10 * (k5:Int))))))])))],47,[(1,L 1)]⟩:St)) (hpin:=⟨⟨rfl,rfl⟩,trivial⟩)) ?_
 exact Le.ct 20 13 (hpin:=⟨⟨rfl,rfl⟩,trivial⟩)
 replace hH:=condF hc hH
 refine AW.k (AW.r ?_)
 refine AO.w (zR rfl rfl rfl rfl (zK hlt10 hb9)) ?_
 refine AO.pu T ?_
 refine AO.n ?_
 refine ⟨(k5+1,(v25++[(Element.mk y6 ((k5:Int).tmod 5) 0 (w64 (100+(w64 (10 * (k5:Int))))))]),v26),⟨Nat.succ_le_of_lt hlt10,(by rw [zds hd8];exact hH)⟩,(by have:=hlt10;dsimp only;omega),?_⟩
 exact Le.ct 20 13 (hpin:=⟨⟨rfl,rfl⟩,trivial⟩)

def qC3 (c:L1Cur) (list:List ByteArray):Option (L1Cur × ByteArray) :=
 (qAA c (list.length:Int)).bind fun x1 =>
 (qAb list x1.2).bind fun x3 =>
 some (x1.1,x3)
theorem qEN (c:L1Cur) (list:List ByteArray) (r:(L1Cur × ByteArray)) (hH:qC3 c list=some r):qE7 Tryz.prog 186 [.pw (ze9 c),.s (List.map ze5 list)] [.pw (ze9 r.1),.u] (.v (.string r.2)):=by
 refine qEy T Tryz.func186 rfl (by decide) rfl rfl ?_
 intro L
 show AW _ _ _ (⟨[(0,.p 1 0),(1,.s (List.map ze5 list))],[(1,.box [.s (List.map ze4 c.code),c.at',.v (.int .u64 c.seed)])],12,[(1,L 1)]⟩:St)
 refine AW.q (AW.r (AO.pu T ?_))
 refine AO.n (AW.q ?_)
 obtain ⟨x1,hx2,hH⟩:=zB hH
 obtain ⟨x3,hx4,hH⟩:=zB hH
 refine AW.r ?_
 iterate 3 refine AO.pu T ?_
 refine AO.w (qCC T) ?_
 refine AO.x (cMs 2 [1] (S:=qAB _ _ _ (hx2)) (hp:=by exact zG (.c (.box rfl rfl)) (zG (.c .v) (zGn)))) ?_
 refine AO.w (ixs T (hx4)) ?_
 refine AO.p2 T ?_
 refine AO.n (AW.t ?_)
 have hR:=zS hH;subst hR
 exact ⟨trivial,rfl,_,[],[1],rfl,zG (.c (.box rfl rfl)) (zG (.c .u) (zGn)),.c (.c .v),by decide⟩

def qBH (x1:(L1Cur × Code)) (x5:(L1Cur × Int)) (x39:(List ByteArray)):Nat→List Element→Int→Option ((L1Cur × Code))
 | 0,_,_=>none
 | k43+1,v54,v55 =>
  cond (decide (v55 < (((x39++[(⟨#[90,90]⟩:ByteArray)])).length:Int)))
   ((qAb (x39++[(⟨#[90,90]⟩:ByteArray)]) v55).bind fun x57 =>
   (qCw (qBE 40 (v54.length+([(Element.mk x57 0 0 100)]).length))).bind fun u59 =>
   qBH x1 x5 x39 k43 (v54++[(Element.mk x57 0 0 100)]) (w64 (v55+1)))
   (some (x5.1,(Code.mk v54 x1.2.limits x1.2.repeats x1.2.bonus x1.2.keeps x1.2.fall)))
def qD2 (fuel:Nat) (c:L1Cur):Option (L1Cur × Code) :=
 (qCM fuel c).bind fun x1 =>
 (qAA x1.1 (x1.2.elements.length:Int)).bind fun x3 =>
 (qAA x3.1 30).bind fun x5 =>
 cond (x5.2 == 0)
  ((qC3 x5.1 [(⟨#[]⟩:ByteArray),(⟨#[51,97]⟩:ByteArray),(⟨#[65,66,67,68,69,70]⟩:ByteArray),(⟨#[51,65]⟩:ByteArray),(⟨#[90,90,90,90,90]⟩:ByteArray),(⟨#[48]⟩:ByteArray)]).bind fun x7 =>
  (qAb x1.2.elements x3.2).bind fun x9 =>
  some (x7.1,(Code.mk (x1.2.elements.set x3.2.toNat (Element.mk x7.2 x9.family x9.level x9.base)) x1.2.limits x1.2.repeats x1.2.bonus x1.2.keeps x1.2.fall)))
  (cond (x5.2 == 1)
   ((qAC x5.1 ([(-1),4,5]:List Int)).bind fun x11 =>
   (qAb x1.2.elements x3.2).bind fun x13 =>
   some (x11.1,(Code.mk (x1.2.elements.set x3.2.toNat (Element.mk x13.name x11.2 x13.level x13.base)) x1.2.limits x1.2.repeats x1.2.bonus x1.2.keeps x1.2.fall)))
   (cond (x5.2 == 2)
    ((qAC x5.1 ([(-1),4,5]:List Int)).bind fun x15 =>
    (qAb x1.2.elements x3.2).bind fun x17 =>
    some (x15.1,(Code.mk (x1.2.elements.set x3.2.toNat (Element.mk x17.name x17.family x15.2 x17.base)) x1.2.limits x1.2.repeats x1.2.bonus x1.2.keeps x1.2.fall)))
    (cond (x5.2 == 3)
     ((qAC x5.1 ([0,1,2000,2001]:List Int)).bind fun x19 =>
     (qAb x1.2.elements x3.2).bind fun x21 =>
     some (x19.1,(Code.mk (x1.2.elements.set x3.2.toNat (Element.mk x21.name x21.family x21.level x19.2)) x1.2.limits x1.2.repeats x1.2.bonus x1.2.keeps x1.2.fall)))
     (cond (x5.2 == 4)
      ((qAA x5.1 5).bind fun x23 =>
      (qAC x23.1 ([(-1),9,10]:List Int)).bind fun x25 =>
      (qAb x1.2.limits x23.2).bind fun x27 =>
      some (x25.1,(Code.mk x1.2.elements (x1.2.limits.set x23.2.toNat x25.2) x1.2.repeats x1.2.bonus x1.2.keeps x1.2.fall)))
      (cond (x5.2 == 5)
       ((qCw (qBE 8 (x1.2.limits.length+(([0]:List Int)).length))).bind fun u29 =>
       some (x5.1,(Code.mk x1.2.elements (x1.2.limits++([0]:List Int)) x1.2.repeats x1.2.bonus x1.2.keeps x1.2.fall)))
       (cond (x5.2 == 6)
        ((qAC x5.1 ([0,3,4]:List Int)).bind fun x31 =>
        some (x31.1,(Code.mk x1.2.elements x1.2.limits x31.2 x1.2.bonus x1.2.keeps x1.2.fall)))
        (cond (x5.2 == 7)
         ((qAC x5.1 ([(-1),20,21]:List Int)).bind fun x33 =>
         some (x33.1,(Code.mk x1.2.elements x1.2.limits x1.2.repeats x33.2 x1.2.keeps x1.2.fall)))
         (cond (x5.2 == 8)
          ((qAC x5.1 ([49,50,100,101]:List Int)).bind fun x35 =>
          some (x35.1,(Code.mk x1.2.elements x1.2.limits x1.2.repeats x1.2.bonus x35.2 x1.2.fall)))
          (cond (x5.2 == 9)
           ((qAC x5.1 ([(-1),500,501]:List Int)).bind fun x37 =>
           some (x37.1,(Code.mk x1.2.elements x1.2.limits x1.2.repeats x1.2.bonus x1.2.keeps x37.2)))
           (cond (x5.2 == 10)
            (some (x5.1,(Code.mk [] x1.2.limits x1.2.repeats x1.2.bonus x1.2.keeps x1.2.fall)))
            (cond (x5.2 == 11)
             ((qCe ).bind fun x39 =>
             (qCw (qBE 16 (x39.length+([(⟨#[90,90]⟩:ByteArray)]).length))).bind fun u41 =>
             qBH x1 x5 x39 fuel [] 0)
             (some (x5.1,x1.2)))))))))))))
theorem qI6 (fuel:Nat) (c:L1Cur) (r:(L1Cur × Code)) (hH:qD2 fuel c=some r):qE7 Tryz.prog 185 [.pw (ze9 c)] [.pw (ze9 r.1)] (.g (qGH r.2)):=by
 refine qEy T Tryz.func185 rfl (by decide) rfl rfl ?_
 intro L
 show AW _ _ _ (⟨[(0,.p 1 0)],[(1,.box [.s (List.map ze4 c.code),c.at',.v (.int .u64 c.seed)])],120,[(1,L 1)]⟩:St)
 refine AW.q (AW.r (AO.x (als T 2) ?_))
 refine AO.n (AW.q ?_)
 obtain ⟨x1,hx2,hH⟩:=zB hH
 refine AW.r (AO.pu T ?_)
 refine AO.x (cMs 3 [1] (S:=qFU fuel _ _ (hx2)) (hp:=by exact zG (.c (.box rfl rfl)) (zGn))) ?_
 refine AO.x (als T 5) ?_
 refine AO.se T [.R 3,.R 4,x1.2.repeats,x1.2.bonus,x1.2.keeps,x1.2.fall] ?_
 refine AO.n (AW.q ?_)
 obtain ⟨x3,hx4,hH⟩:=zB hH
 refine AW.r ?_
 iterate 3 refine AO.pu T ?_
 refine AO.w (qGn T) ?_
 refine AO.x (cMs 6 [1] (S:=qAB _ _ _ (hx4)) (hp:=by exact zG (.c (.box rfl rfl)) (zG (.c .v) (zGn)))) ?_
 refine AO.pu T ?_
 refine AO.n (AW.q (AW.q ?_))
 obtain ⟨x5,hx6,hH⟩:=zB hH
 refine AW.r (AO.pu T ?_)
 refine AO.x (cMs 6 [1] (S:=qAB _ _ _ (hx6)) (hp:=by exact zG (.c (.box rfl rfl)) (zG (.c .v) (zGn)))) ?_
 refine AO.n (AW.b ?_)
 refine AW.q (AW.r (AO.p2 T ?_))
 refine AO.n (AW.c (b:=(x5.2 == 0)) rfl (fun hc=>?_) (fun hc=>?_))
 replace hH:=condT hc hH
 obtain ⟨x7,hx8,hH⟩:=zB hH
 obtain ⟨x9,hx10,hH⟩:=zB hH
 refine AW.drawn 6 6 [1] mix (by kernel_rfl) rfl ?_
 iterate 4 refine AD.pu T ?_
 refine AD.vv (qIr T rfl rfl rfl rfl rfl rfl (f:=ze5) (l:=[(⟨#[]⟩:ByteArray),(⟨#[51,97]⟩:ByteArray),(⟨#[65,66,67,68,69,70]⟩:ByteArray),(⟨#[51,65]⟩:ByteArray),(⟨#[90,90,90,90,90]⟩:ByteArray),(⟨#[48]⟩:ByteArray)]) rfl rfl (fun _=>rfl) rfl rfl rfl) ?_
 refine AD.kk (cMF [1] (S:=qEN _ _ _ (hx8)) (hp:=by exact zG (.c (.box rfl rfl)) (zG (.c .s) (zGn)))) ?_
 refine AD.nil (AO.w (ixr T (hx10)) ?_)
 refine AO.pu T ?_
 refine AO.x (zSr T rfl rfl rfl rfl rfl (zgG (hx10)) rfl rfl rfl rfl (u':=(Element.mk x7.2 x9.family x9.level x9.base)) rfl rfl) ?_
 refine AO.n (AW.le (Le.ct 0 0 (σ':=(⟨[(2,.p 2 0),(3,.p 5 0)],[(1,.box [.s (List.map ze4 x7.1.code),x7.1.at',.v (.int .u64 x7.1.seed)]),(2,.box [.w 0 [],.w 0 [],(0:Int),(0:Int),(0:Int),(0:Int)]),(3,.row 4 (List.map ze3 (x1.2.elements.set x3.2.toNat (Element.mk x7.2 x9.family x9.level x9.base)))),(4,.row 1 (List.map ze0 x1.2.limits)),(5,.box [.R 3,.R 4,x1.2.repeats,x1.2.bonus,x1.2.keeps,x1.2.fall])],120,[(1,L 1)]⟩:St)) (hpin:=⟨⟨rfl,rfl⟩,trivial⟩)) ?_)
 refine AW.q (AW.r (AO.pu T (d:=.g [.R 3,.R 4,x1.2.repeats,x1.2.bonus,x1.2.keeps,x1.2.fall]) ?_))
 refine AO.se T [.R 3,.R 4,x1.2.repeats,x1.2.bonus,x1.2.keeps,x1.2.fall] ?_
 refine AO.n (AW.t ?_)
 have hR:=zS hH;subst hR
 exact ⟨trivial,rfl,_,[3,4],[1],rfl,zG (.c (.box rfl rfl)) (zGn),.c (.g (zC (.rowR rfl) (zC (.rowR rfl) (zC .v (zC .v (zC .v (zC .v (zCn)))))))),by decide⟩
 replace hH:=condF hc hH
 refine AW.q (AW.r (AO.p2 T ?_))
 refine AO.n (AW.c (b:=(x5.2 == 1)) rfl (fun hc=>?_) (fun hc=>?_))
 replace hH:=condT hc hH
 obtain ⟨x11,hx12,hH⟩:=zB hH
 obtain ⟨x13,hx14,hH⟩:=zB hH
 refine AW.drawn 6 6 [1] mix (by kernel_rfl) rfl ?_
 iterate 4 refine AD.pu T ?_
 refine AD.vv (qIr T rfl rfl rfl rfl rfl rfl (f:=ze0) (l:=([(-1),4,5]:List Int)) rfl rfl (fun _=>rfl) rfl rfl rfl) ?_
 refine AD.kk (cMF [1] (S:=qAD _ _ _ (hx12)) (hp:=by exact zG (.c (.box rfl rfl)) (zG (.c .s) (zGn)))) ?_
 refine AD.nil (AO.w (ixr T (hx14)) ?_)
 refine AO.pu T ?_
 refine AO.x (zSr T rfl rfl rfl rfl rfl (zgG (hx14)) rfl rfl rfl rfl (u':=(Element.mk x13.name x11.2 x13.level x13.base)) rfl rfl) ?_
 refine AO.n (AW.le (Le.ct 0 0 (σ':=(⟨[(2,.p 2 0),(3,.p 5 0)],[(1,.box [.s (List.map ze4 x11.1.code),x11.1.at',.v (.int .u64 x11.1.seed)]),(2,.box [.w 0 [],.w 0 [],(0:Int),(0:Int),(0:Int),(0:Int)]),(3,.row 4 (List.map ze3 (x1.2.elements.set x3.2.toNat (Element.mk x13.name x11.2 x13.level x13.base)))),(4,.row 1 (List.map ze0 x1.2.limits)),(5,.box [.R 3,.R 4,x1.2.repeats,x1.2.bonus,x1.2.keeps,x1.2.fall])],120,[(1,L 1)]⟩:St)) (hpin:=⟨⟨rfl,rfl⟩,trivial⟩)) ?_)
 refine AW.q (AW.r (AO.pu T (d:=.g [.R 3,.R 4,x1.2.repeats,x1.2.bonus,x1.2.keeps,x1.2.fall]) ?_))
 refine AO.se T [.R 3,.R 4,x1.2.repeats,x1.2.bonus,x1.2.keeps,x1.2.fall] ?_
 refine AO.n (AW.t ?_)
 have hR:=zS hH;subst hR
 exact ⟨trivial,rfl,_,[3,4],[1],rfl,zG (.c (.box rfl rfl)) (zGn),.c (.g (zC (.rowR rfl) (zC (.rowR rfl) (zC .v (zC .v (zC .v (zC .v (zCn)))))))),by decide⟩
 replace hH:=condF hc hH
 refine AW.q (AW.r (AO.p2 T ?_))
 refine AO.n (AW.c (b:=(x5.2 == 2)) rfl (fun hc=>?_) (fun hc=>?_))
 replace hH:=condT hc hH
 obtain ⟨x15,hx16,hH⟩:=zB hH
 obtain ⟨x17,hx18,hH⟩:=zB hH
 refine AW.drawn 6 6 [1] mix (by kernel_rfl) rfl ?_
 iterate 4 refine AD.pu T ?_
 refine AD.vv (qIr T rfl rfl rfl rfl rfl rfl (f:=ze0) (l:=([(-1),4,5]:List Int)) rfl rfl (fun _=>rfl) rfl rfl rfl) ?_
 refine AD.kk (cMF [1] (S:=qAD _ _ _ (hx16)) (hp:=by exact zG (.c (.box rfl rfl)) (zG (.c .s) (zGn)))) ?_
 refine AD.nil (AO.w (ixr T (hx18)) ?_)
 refine AO.pu T ?_
 refine AO.x (zSr T rfl rfl rfl rfl rfl (zgG (hx18)) rfl rfl rfl rfl (u':=(Element.mk x17.name x17.family x15.2 x17.base)) rfl rfl) ?_
 refine AO.n (AW.le (Le.ct 0 0 (σ':=(⟨[(2,.p 2 0),(3,.p 5 0)],[(1,.box [.s (List.map ze4 x15.1.code),x15.1.at',.v (.int .u64 x15.1.seed)]),(2,.box [.w 0 [],.w 0 [],(0:Int),(0:Int),(0:Int),(0:Int)]),(3,.row 4 (List.map ze3 (x1.2.elements.set x3.2.toNat (Element.mk x17.name x17.family x15.2 x17.base)))),(4,.row 1 (List.map ze0 x1.2.limits)),(5,.box [.R 3,.R 4,x1.2.repeats,x1.2.bonus,x1.2.keeps,x1.2.fall])],120,[(1,L 1)]⟩:St)) (hpin:=⟨⟨rfl,rfl⟩,trivial⟩)) ?_)
 refine AW.q (AW.r (AO.pu T (d:=.g [.R 3,.R 4,x1.2.repeats,x1.2.bonus,x1.2.keeps,x1.2.fall]) ?_))
 refine AO.se T [.R 3,.R 4,x1.2.repeats,x1.2.bonus,x1.2.keeps,x1.2.fall] ?_
 refine AO.n (AW.t ?_)
 have hR:=zS hH;subst hR
 exact ⟨trivial,rfl,_,[3,4],[1],rfl,zG (.c (.box rfl rfl)) (zGn),.c (.g (zC (.rowR rfl) (zC (.rowR rfl) (zC .v (zC .v (zC .v (zC .v (zCn)))))))),by decide⟩
 replace hH:=condF hc hH
 refine AW.q (AW.r (AO.p2 T ?_))
 refine AO.n (AW.c (b:=(x5.2 == 3)) rfl (fun hc=>?_) (fun hc=>?_))
 replace hH:=condT hc hH
 obtain ⟨x19,hx20,hH⟩:=zB hH
 obtain ⟨x21,hx22,hH⟩:=zB hH
 refine AW.drawn 6 6 [1] mix (by kernel_rfl) rfl ?_
 iterate 4 refine AD.pu T ?_
 refine AD.vv (qIr T rfl rfl rfl rfl rfl rfl (f:=ze0) (l:=([0,1,2000,2001]:List Int)) rfl rfl (fun _=>rfl) rfl rfl rfl) ?_
 refine AD.kk (cMF [1] (S:=qAD _ _ _ (hx20)) (hp:=by exact zG (.c (.box rfl rfl)) (zG (.c .s) (zGn)))) ?_
 refine AD.nil (AO.w (ixr T (hx22)) ?_)
 refine AO.pu T ?_
 refine AO.x (zSr T rfl rfl rfl rfl rfl (zgG (hx22)) rfl rfl rfl rfl (u':=(Element.mk x21.name x21.family x21.level x19.2)) rfl rfl) ?_
 refine AO.n (AW.le (Le.ct 0 0 (σ':=(⟨[(2,.p 2 0),(3,.p 5 0)],[(1,.box [.s (List.map ze4 x19.1.code),x19.1.at',.v (.int .u64 x19.1.seed)]),(2,.box [.w 0 [],.w 0 [],(0:Int),(0:Int),(0:Int),(0:Int)]),(3,.row 4 (List.map ze3 (x1.2.elements.set x3.2.toNat (Element.mk x21.name x21.family x21.level x19.2)))),(4,.row 1 (List.map ze0 x1.2.limits)),(5,.box [.R 3,.R 4,x1.2.repeats,x1.2.bonus,x1.2.keeps,x1.2.fall])],120,[(1,L 1)]⟩:St)) (hpin:=⟨⟨rfl,rfl⟩,trivial⟩)) ?_)
 refine AW.q (AW.r (AO.pu T (d:=.g [.R 3,.R 4,x1.2.repeats,x1.2.bonus,x1.2.keeps,x1.2.fall]) ?_))
 refine AO.se T [.R 3,.R 4,x1.2.repeats,x1.2.bonus,x1.2.keeps,x1.2.fall] ?_
 refine AO.n (AW.t ?_)
 have hR:=zS hH;subst hR
 exact ⟨trivial,rfl,_,[3,4],[1],rfl,zG (.c (.box rfl rfl)) (zGn),.c (.g (zC (.rowR rfl) (zC (.rowR rfl) (zC .v (zC .v (zC .v (zC .v (zCn)))))))),by decide⟩
 replace hH:=condF hc hH
 refine AW.q (AW.r (AO.p2 T ?_))
 refine AO.n (AW.c (b:=(x5.2 == 4)) rfl (fun hc=>?_) (fun hc=>?_))
 replace hH:=condT hc hH
 obtain ⟨x23,hx24,hH⟩:=zB hH
 obtain ⟨x25,hx26,hH⟩:=zB hH
 obtain ⟨x27,hx28,hH⟩:=zB hH
 refine AW.drawn 7 6 [1] mix (by kernel_rfl) rfl ?_
 iterate 3 refine AD.pu T ?_
 refine AD.kk (cMF [1] (S:=qAB _ _ _ (hx24)) (hp:=by exact zG (.c (.box rfl rfl)) (zG (.c .v) (zGn)))) ?_
 refine AD.pu T ?_
 refine AD.vv (qIr T rfl rfl rfl rfl rfl rfl (f:=ze0) (l:=([(-1),9,10]:List Int)) rfl rfl (fun _=>rfl) rfl rfl rfl) ?_
 refine AD.kk (cMF [1] (S:=qAD _ _ _ (hx26)) (hp:=by exact zG (.c (.box rfl rfl)) (zG (.c .s) (zGn)))) ?_
 refine AD.nil (AO.w (ixr T (hx28)) ?_)
 refine AO.x (zSr T rfl rfl rfl rfl rfl (zgG (hx28)) rfl rfl rfl rfl (u':=x25.2) rfl rfl) ?_
 refine AO.n (AW.le (Le.ct 0 0 (σ':=(⟨[(2,.p 2 0),(3,.p 5 0)],[(1,.box [.s (List.map ze4 x25.1.code),x25.1.at',.v (.int .u64 x25.1.seed)]),(2,.box [.w 0 [],.w 0 [],(0:Int),(0:Int),(0:Int),(0:Int)]),(3,.row 4 (List.map ze3 x1.2.elements)),(4,.row 1 (List.map ze0 (x1.2.limits.set x23.2.toNat x25.2))),(5,.box [.R 3,.R 4,x1.2.repeats,x1.2.bonus,x1.2.keeps,x1.2.fall])],120,[(1,L 1)]⟩:St)) (hpin:=⟨⟨rfl,rfl⟩,trivial⟩)) ?_)
 refine AW.q (AW.r (AO.pu T (d:=.g [.R 3,.R 4,x1.2.repeats,x1.2.bonus,x1.2.keeps,x1.2.fall]) ?_))
 refine AO.se T [.R 3,.R 4,x1.2.repeats,x1.2.bonus,x1.2.keeps,x1.2.fall] ?_
 refine AO.n (AW.t ?_)
 have hR:=zS hH;subst hR
 exact ⟨trivial,rfl,_,[3,4],[1],rfl,zG (.c (.box rfl rfl)) (zGn),.c (.g (zC (.rowR rfl) (zC (.rowR rfl) (zC .v (zC .v (zC .v (zC .v (zCn)))))))),by decide⟩
 replace hH:=condF hc hH
 refine AW.q (AW.r (AO.p2 T ?_))
 refine AO.n (AW.le (Le.ct 0 0 (σ':=(⟨[(0,.p 1 0),(2,.p 2 0),(3,.p 5 0),(15,x5.2),(66,.v (.bool (x5.2 == 5)))],[(1,.box [.s (List.map ze4 x5.1.code),x5.1.at',.v (.int .u64 x5.1.seed)]),(2,.box [.w 0 [],.w 0 [],(0:Int),(0:Int),(0:Int),(0:Int)]),(3,.row 4 (List.map ze3 x1.2.elements)),(4,.row 1 (List.map ze0 x1.2.limits)),(5,.box [.R 3,.R 4,x1.2.repeats,x1.2.bonus,x1.2.keeps,x1.2.fall])],120,[(1,L 1)]⟩:St)) (hpin:=⟨⟨rfl,rfl⟩,trivial⟩)) ?_)
 refine AW.c (b:=(x5.2 == 5)) rfl (fun hc=>?_) (fun hc=>?_)
 replace hH:=condT hc hH
 obtain ⟨u29,hx30,hH⟩:=zB hH
 refine AW.r (AO.p2 T ?_)
 refine AO.x (mks T 6 ze0 (([0]:List Int))) ?_
 refine AO.x (rvs T 7 (hfit:=by exact qA4 (hx30))) ?_
 refine AO.pu T ?_
 refine AO.se T [.R 3,.R 7,x1.2.repeats,x1.2.bonus,x1.2.keeps,x1.2.fall] ?_
 refine AO.n (AW.q (AW.r ?_))
 refine AO.pu T (d:=.g [.R 3,.R 7,x1.2.repeats,x1.2.bonus,x1.2.keeps,x1.2.fall]) ?_
 refine AO.se T [.R 3,.R 7,x1.2.repeats,x1.2.bonus,x1.2.keeps,x1.2.fall] ?_
 refine AO.n (AW.t ?_)
 have hR:=zS hH;subst hR
 exact ⟨trivial,rfl,_,[3,7],[1],rfl,zG (.c (.box rfl rfl)) (zGn),.c (.g (zC (.rowR rfl) (zC (.rowR rfl) (zC .v (zC .v (zC .v (zC .v (zCn)))))))),by decide⟩
 replace hH:=condF hc hH
 refine AW.q (AW.r (AO.p2 T ?_))
 refine AO.n (AW.c (b:=(x5.2 == 6)) rfl (fun hc=>?_) (fun hc=>?_))
 replace hH:=condT hc hH
 obtain ⟨x31,hx32,hH⟩:=zB hH
 refine AW.r (AO.pu T ?_)
 refine AO.x (mks T 8 ze0 (([0,3,4]:List Int))) ?_
 refine AO.le (Le.fM 8 (g:=ze0) rfl (fun y=>.vs rfl)) ?_
 refine AO.x (cMs 9 [1] (S:=qAD _ _ _ (hx32)) (hp:=by exact zG (.c (.box rfl rfl)) (zG (.c .s) (zGn)))) ?_
 refine AO.pu T ?_
 refine AO.se T [.R 3,.R 4,x31.2,x1.2.bonus,x1.2.keeps,x1.2.fall] ?_
 refine AO.n (AW.q (AW.r ?_))
 refine AO.pu T (d:=.g [.R 3,.R 4,x31.2,x1.2.bonus,x1.2.keeps,x1.2.fall]) ?_
 refine AO.se T [.R 3,.R 4,x31.2,x1.2.bonus,x1.2.keeps,x1.2.fall] ?_
 refine AO.n (AW.t ?_)
 have hR:=zS hH;subst hR
 exact ⟨trivial,rfl,_,[3,4],[1],rfl,zG (.c (.box rfl rfl)) (zGn),.c (.g (zC (.rowR rfl) (zC (.rowR rfl) (zC .v (zC .v (zC .v (zC .v (zCn)))))))),by decide⟩
 replace hH:=condF hc hH
 refine AW.q (AW.r (AO.p2 T ?_))
 refine AO.n (AW.c (b:=(x5.2 == 7)) rfl (fun hc=>?_) (fun hc=>?_))
 replace hH:=condT hc hH
 obtain ⟨x33,hx34,hH⟩:=zB hH
 refine AW.r (AO.pu T ?_)
 refine AO.x (mks T 9 ze0 (([(-1),20,21]:List Int))) ?_
 refine AO.le (Le.fM 9 (g:=ze0) rfl (fun y=>.vs rfl)) ?_
 refine AO.x (cMs 10 [1] (S:=qAD _ _ _ (hx34)) (hp:=by exact zG (.c (.box rfl rfl)) (zG (.c .s) (zGn)))) ?_
 refine AO.pu T ?_
 refine AO.se T [.R 3,.R 4,x1.2.repeats,x33.2,x1.2.keeps,x1.2.fall] ?_
 refine AO.n (AW.q (AW.r ?_))
 refine AO.pu T (d:=.g [.R 3,.R 4,x1.2.repeats,x33.2,x1.2.keeps,x1.2.fall]) ?_
 refine AO.se T [.R 3,.R 4,x1.2.repeats,x33.2,x1.2.keeps,x1.2.fall] ?_
 refine AO.n (AW.t ?_)
 have hR:=zS hH;subst hR
 exact ⟨trivial,rfl,_,[3,4],[1],rfl,zG (.c (.box rfl rfl)) (zGn),.c (.g (zC (.rowR rfl) (zC (.rowR rfl) (zC .v (zC .v (zC .v (zC .v (zCn)))))))),by decide⟩
 replace hH:=condF hc hH
 refine AW.q (AW.r (AO.p2 T ?_))
 refine AO.n (AW.c (b:=(x5.2 == 8)) rfl (fun hc=>?_) (fun hc=>?_))
 replace hH:=condT hc hH
 obtain ⟨x35,hx36,hH⟩:=zB hH
 refine AW.r (AO.pu T ?_)
 refine AO.x (mks T 10 ze0 (([49,50,100,101]:List Int))) ?_
 refine AO.le (Le.fM 10 (g:=ze0) rfl (fun y=>.vs rfl)) ?_
 refine AO.x (cMs 11 [1] (S:=qAD _ _ _ (hx36)) (hp:=by exact zG (.c (.box rfl rfl)) (zG (.c .s) (zGn)))) ?_
 refine AO.pu T ?_
 refine AO.se T [.R 3,.R 4,x1.2.repeats,x1.2.bonus,x35.2,x1.2.fall] ?_
 refine AO.n (AW.q (AW.r ?_))
 refine AO.pu T (d:=.g [.R 3,.R 4,x1.2.repeats,x1.2.bonus,x35.2,x1.2.fall]) ?_
 refine AO.se T [.R 3,.R 4,x1.2.repeats,x1.2.bonus,x35.2,x1.2.fall] ?_
 refine AO.n (AW.t ?_)
 have hR:=zS hH;subst hR
 exact ⟨trivial,rfl,_,[3,4],[1],rfl,zG (.c (.box rfl rfl)) (zGn),.c (.g (zC (.rowR rfl) (zC (.rowR rfl) (zC .v (zC .v (zC .v (zC .v (zCn)))))))),by decide⟩
 replace hH:=condF hc hH
 refine AW.q (AW.r (AO.p2 T ?_))
 refine AO.n (AW.c (b:=(x5.2 == 9)) rfl (fun hc=>?_) (fun hc=>?_))
 replace hH:=condT hc hH
 obtain ⟨x37,hx38,hH⟩:=zB hH
 refine AW.r (AO.pu T ?_)
 refine AO.x (mks T 11 ze0 (([(-1),500,501]:List Int))) ?_
 refine AO.le (Le.fM 11 (g:=ze0) rfl (fun y=>.vs rfl)) ?_
 refine AO.x (cMs 12 [1] (S:=qAD _ _ _ (hx38)) (hp:=by exact zG (.c (.box rfl rfl)) (zG (.c .s) (zGn)))) ?_
 refine AO.pu T ?_
 refine AO.se T [.R 3,.R 4,x1.2.repeats,x1.2.bonus,x1.2.keeps,x37.2] ?_
 refine AO.n (AW.q (AW.r ?_))
 refine AO.pu T (d:=.g [.R 3,.R 4,x1.2.repeats,x1.2.bonus,x1.2.keeps,x37.2]) ?_
 refine AO.se T [.R 3,.R 4,x1.2.repeats,x1.2.bonus,x1.2.keeps,x37.2] ?_
 refine AO.n (AW.t ?_)
 have hR:=zS hH;subst hR
 exact ⟨trivial,rfl,_,[3,4],[1],rfl,zG (.c (.box rfl rfl)) (zGn),.c (.g (zC (.rowR rfl) (zC (.rowR rfl) (zC .v (zC .v (zC .v (zC .v (zCn)))))))),by decide⟩
 replace hH:=condF hc hH
 refine AW.q (AW.r (AO.p2 T ?_))
 refine AO.n (AW.c (b:=(x5.2 == 10)) rfl (fun hc=>?_) (fun hc=>?_))
 replace hH:=condT hc hH
 refine AW.r (AO.pu T ?_)
 refine AO.se T [.w 0 [],.R 4,x1.2.repeats,x1.2.bonus,x1.2.keeps,x1.2.fall] ?_
 refine AO.n (AW.q (AW.r ?_))
 refine AO.pu T (d:=.g [.w 0 [],.R 4,x1.2.repeats,x1.2.bonus,x1.2.keeps,x1.2.fall]) ?_
 refine AO.se T [.w 0 [],.R 4,x1.2.repeats,x1.2.bonus,x1.2.keeps,x1.2.fall] ?_
 refine AO.n (AW.t ?_)
 have hR:=zS hH;subst hR
 exact ⟨trivial,rfl,_,[4],[1],rfl,zG (.c (.box rfl rfl)) (zGn),.c (.g (zC .nil (zC (.rowR rfl) (zC .v (zC .v (zC .v (zC .v (zCn)))))))),by decide⟩
 replace hH:=condF hc hH
 refine AW.q (AW.r (AO.p2 T ?_))
 refine AO.n (AW.c (b:=(x5.2 == 11)) rfl (fun hc=>?_) (fun hc=>?_))
 replace hH:=condT hc hH
 refine AW.q (AW.r (AO.pu T ?_))
 refine AO.se T [.w 0 [],.R 4,x1.2.repeats,x1.2.bonus,x1.2.keeps,x1.2.fall] ?_
 refine AO.n (AW.q ?_)
 obtain ⟨x39,hx40,hH⟩:=zB hH
 obtain ⟨u41,hx42,hH⟩:=zB hH
 refine AW.r (AO.x (qBk rfl 12 rfl rfl rfl (qDC _ (hx40)) rfl rfl rfl) ?_)
 refine AO.x (mks T 13 ze5 ([(⟨#[90,90]⟩:ByteArray)])) ?_
 refine AO.x (rvs T 14 (hfit:=by exact qA4 (hx42))) ?_
 refine AO.w (qGn T) ?_
 refine AO.pu T ?_
 refine AO.n (AW.b ?_)
 refine AW.loopS (fun s:Nat × (List Element) × Int=>(⟨[(2,.p 2 0),(3,.p 5 0),(105,.R 14),(106,(((x39++[(⟨#[90,90]⟩:ByteArray)])).length:Int)),(107,s.2.2)],[(1,.box [.s (List.map ze4 x5.1.code),x5.1.at',.v (.int .u64 x5.1.seed)]),(2,.box [.w 0 [],.w 0 [],(0:Int),(0:Int),(0:Int),(0:Int)]),(4,.row 1 (List.map ze0 x1.2.limits)),(5,.box [.R 18,.R 4,x1.2.repeats,x1.2.bonus,x1.2.keeps,x1.2.fall]),(14,.row 1 (List.map ze5 (x39++[(⟨#[90,90]⟩:ByteArray)]))),(18,.row 4 (List.map ze3 s.2.1))],120,[(1,L 1)]⟩:St)) (fun s=>qBH x1 x5 x39 s.1 s.2.1 s.2.2=some r) (fun s=>s.1) (fuel,[],0) hH ?_ ?_
 refine Le.trans (Le.voidBox 5 0 18 4 rfl rfl rfl rfl) ?_
 exact Le.ct 0 0 (hpin:=⟨⟨rfl,rfl⟩,trivial⟩)
 rintro ⟨k43,v54,v55⟩ hH
 replace hH:qBH x1 x5 x39 k43 v54 v55=some r:=hH
 try dsimp only
 rcases k43 with _ | k43
 cases (show none=some _ from hH)
 rw [qBH] at hH
 refine AW.q (AW.r (AO.pu T ?_))
 refine AO.n (AW.q (AW.c (b:=decide (v55 < (((x39++[(⟨#[90,90]⟩:ByteArray)])).length:Int))) rfl (fun hc=>?_) (fun hc=>?_)))
 replace hH:=condT hc hH
 refine AW.k (AW.q ?_)
 refine AW.b (AW.q ?_)
 obtain ⟨x57,hx58,hH⟩:=zB hH
 refine AW.r (AO.w (ixr T (hx58)) ?_)
 refine AO.w (zLr T rfl rfl rfl rfl (zgG (hx58)) rfl rfl rfl) ?_
 refine AO.pu T ?_
 refine AO.n ?_
 obtain ⟨u59,hx60,hH⟩:=zB hH
 refine AW.r ?_
 iterate 3 refine AO.pu T ?_
 refine AO.pu T (d:=.g [.v (.string x57),(0:Int),(0:Int),(100:Int)]) ?_
 refine AO.x (mks T 19 ze3 ([(Element.mk x57 0 0 100)])) ?_
 refine AO.x (rvs T 20 (hfit:=by exact qA4 (hx60))) ?_
 refine AO.pu T ?_
 refine AO.se T [.R 20,.R 4,x1.2.repeats,x1.2.bonus,x1.2.keeps,x1.2.fall] ?_
 refine AO.n (AW.r ?_)
 refine AO.w aws ?_
 refine AO.pu T ?_
 refine AO.n ?_
 refine ⟨(k43,(v54++[(Element.mk x57 0 0 100)]),w64 (v55+1)),hH,Nat.lt_succ_self _,?_⟩
 exact Le.ct 20 18 (hpin:=⟨⟨rfl,rfl⟩,trivial⟩)
 replace hH:=condF hc hH
 refine AW.exit (AW.q (AW.r ?_))
 refine AO.pu T (d:=.g [.R 18,.R 4,x1.2.repeats,x1.2.bonus,x1.2.keeps,x1.2.fall]) ?_
 refine AO.se T [.R 18,.R 4,x1.2.repeats,x1.2.bonus,x1.2.keeps,x1.2.fall] ?_
 refine AO.n (AW.t ?_)
 have hR:=zS hH;subst hR
 exact ⟨trivial,rfl,_,[18,4],[1],rfl,zG (.c (.box rfl rfl)) (zGn),.c (.g (zC (.rowR rfl) (zC (.rowR rfl) (zC .v (zC .v (zC .v (zC .v (zCn)))))))),by decide⟩
 replace hH:=condF hc hH
 refine AW.k (AW.q (AW.r ?_))
 refine AO.pu T (d:=.g [.R 3,.R 4,x1.2.repeats,x1.2.bonus,x1.2.keeps,x1.2.fall]) ?_
 refine AO.se T [.R 3,.R 4,x1.2.repeats,x1.2.bonus,x1.2.keeps,x1.2.fall] ?_
 refine AO.n (AW.t ?_)
 have hR:=zS hH;subst hR
 exact ⟨trivial,rfl,_,[3,4],[1],rfl,zG (.c (.box rfl rfl)) (zGn),.c (.g (zC (.rowR rfl) (zC (.rowR rfl) (zC .v (zC .v (zC .v (zC .v (zCn)))))))),by decide⟩

def qBB (a:Int) (b:Int):Option Int :=
 cond (decide (a < b))
  (some a)
  (some b)
theorem qBZ (a:Int) (b:Int) (r:Int) (hH:qBB a b=some r):qAE Tryz.prog 57 [a,b] (.v (.int .i64 r)):=by
 refine fns T Tryz.func57 ?_
 refine AW.q (AW.r (AO.pu T ?_))
 refine AO.n (AW.q (AW.q ?_))
 refine AW.r ?_
 iterate 3 refine AO.pu T ?_
 refine AO.n (AW.c (b:=decide (a < b)) rfl (fun hc=>?_) (fun hc=>?_))
 replace hH:=condT hc hH
 refine AW.q (AW.r (AO.p2 T ?_))
 refine AO.n (AW.t ?_)
 have hR:=zS hH;subst hR
 exact retQ.i [] rfl (.c (.c .v))
 replace hH:=condF hc hH
 refine AW.k (AW.q (AW.r ?_))
 refine AO.p2 T ?_
 refine AO.n (AW.t ?_)
 have hR:=zS hH;subst hR
 exact retQ.i [] rfl (.c (.c .v))

def qBQ (names:List ByteArray) (x1:(L1Cur × Bool)):Nat→List Int→Int→Int→List ByteArray→List Int→Int→Option ((L1Cur × Item))
 | 0,_,_,_,_,_,_=>none
 | k7+1,v30,v31,v32,v33,v34,v35 =>
  cond (decide (v35 > 0))
   ((qC3 (L1Cur.mk v30 v31 v32) names).bind fun x37 =>
   (qCw (qBE 16 (v33.length+([x37.2]).length))).bind fun u39 =>
   (qAC x37.1 ([0,0,0,1,2,3]:List Int)).bind fun x41 =>
   (qCw (qBE 8 (v34.length+([x41.2]).length))).bind fun u43 =>
   qBQ names x1 k7 x41.1.code x41.1.at' x41.1.seed (v33++[x37.2]) (v34++[x41.2]) (w64 (v35 - 1)))
   ((qAH (L1Cur.mk v30 v31 v32) 12).bind fun x45 =>
   cond x45.2
    ((qC3 x45.1 names).bind fun x47 =>
    (qCw (qBE 16 (v33.length+([x47.2]).length))).bind fun u49 =>
    (qCw (qBE 8 (v34.length+(([0]:List Int)).length))).bind fun u51 =>
    some (x47.1,(Item.mk (v33++[x47.2]) (v34++([0]:List Int)) x1.2)))
    (some (x45.1,(Item.mk v33 v34 x1.2))))
def qEF (fuel:Nat) (c:L1Cur) (names:List ByteArray):Option (L1Cur × Item) :=
 (qAH c 3).bind fun x1 =>
 (qAA x1.1 6).bind fun x3 =>
 (qCw (3 != 0)).bind fun u5 =>
 qBQ names x1 fuel x3.1.code x3.1.at' x3.1.seed [] [] (w64 (1+(w64 (x3.2.tdiv 3))))
theorem qJo (fuel:Nat) (c:L1Cur) (names:List ByteArray) (r:(L1Cur × Item)) (hH:qEF fuel c names=some r):qE7 Tryz.prog 220 [.pw (ze9 c),.s (List.map ze5 names)] [.pw (ze9 r.1),.u] (.g (qGM r.2)):=by
 refine qEy T Tryz.func220 rfl (by decide) rfl rfl ?_
 intro L
 show AW _ _ _ (⟨[(0,.p 1 0),(1,.s (List.map ze5 names))],[(1,.box [.s (List.map ze4 c.code),c.at',.v (.int .u64 c.seed)])],50,[(1,L 1)]⟩:St)
 refine AW.q (AW.r (AO.x (als T 2) ?_))
 refine AO.n (AW.q ?_)
 obtain ⟨x1,hx2,hH⟩:=zB hH
 refine AW.r (AO.pu T ?_)
 refine AO.x (cMs 3 [1] (S:=qAL _ _ _ (hx2)) (hp:=by exact zG (.c (.box rfl rfl)) (zG (.c .v) (zGn)))) ?_
 refine AO.pu T (d:=.g [.w 0 [],.w 0 [],.v (.bool x1.2)]) ?_
 refine AO.x (als T 3) ?_
 refine AO.se T [.w 0 [],.w 0 [],.v (.bool x1.2)] ?_
 refine AO.n (AW.q (AW.q ?_))
 obtain ⟨x3,hx4,hH⟩:=zB hH
 obtain ⟨u5,hx6,hH⟩:=zB hH
 refine AW.r (AO.pu T ?_)
 refine AO.x (cMs 4 [1] (S:=qAB _ _ _ (hx4)) (hp:=by exact zG (.c (.box rfl rfl)) (zG (.c .v) (zGn)))) ?_
 refine AO.w (qGi rfl rfl rfl (neZ (qA4 (hx6)))) ?_
 refine AO.w aws ?_
 refine AO.pu T ?_
 refine AO.n (AW.b ?_)
 refine AW.loopS (fun s:Nat × (List Int) × Int × Int × (List ByteArray) × (List Int) × Int=>(⟨[(0,.p 1 0),(1,.s (List.map ze5 names)),(4,.p 2 0),(5,.p 3 0),(6,s.2.2.2.2.2.2)],[(1,.box [.s (List.map ze4 s.2.1),s.2.2.1,.v (.int .u64 s.2.2.2.1)]),(2,.box [.w 0 [],.w 0 [],.v (.bool false)]),(3,.box [.R 9,.R 11,.v (.bool x1.2)]),(9,.row 1 (List.map ze5 s.2.2.2.2.1)),(11,.row 1 (List.map ze0 s.2.2.2.2.2.1))],50,[(1,L 1)]⟩:St)) (fun s=>qBQ names x1 s.1 s.2.1 s.2.2.1 s.2.2.2.1 s.2.2.2.2.1 s.2.2.2.2.2.1 s.2.2.2.2.2.2=some r) (fun s=>s.1) (fuel,x3.1.code,x3.1.at',x3.1.seed,[],[],w64 (1+(w64 (x3.2.tdiv 3)))) hH ?_ ?_
 refine Le.trans (Le.voidBox 3 0 9 1 rfl rfl rfl rfl) ?_
 refine Le.trans (Le.voidBox 3 1 11 1 rfl rfl rfl rfl) ?_
 exact Le.ct 0 0 (hpin:=⟨⟨rfl,rfl⟩,trivial⟩)
 rintro ⟨k7,v30,v31,v32,v33,v34,v35⟩ hH
 replace hH:qBQ names x1 k7 v30 v31 v32 v33 v34 v35=some r:=hH
 try dsimp only
 rcases k7 with _ | k7
 cases (show none=some _ from hH)
 rw [qBQ] at hH
 refine AW.q (AW.q (AW.r ?_))
 refine AO.p2 T ?_
 refine AO.n (AW.c (b:=decide (v35 > 0)) rfl (fun hc=>?_) (fun hc=>?_))
 replace hH:=condT hc hH
 refine AW.k (AW.q ?_)
 refine AW.b (AW.q ?_)
 obtain ⟨x37,hx38,hH⟩:=zB hH
 obtain ⟨u39,hx40,hH⟩:=zB hH
 refine AW.drawn 6 12 [1] mix (by kernel_rfl) rfl ?_
 iterate 4 refine AD.pu T ?_
 refine AD.kk (cMF [1] (S:=qEN _ _ _ (hx38)) (hp:=by exact zG (.c (.box rfl rfl)) (zG (.c .s) (zGn)))) ?_
 refine AD.q (FStep.mk T (f:=ze5) (l:=[x37.2]) rfl rfl rfl rfl rfl rfl rfl rfl rfl (fun _=>rfl) rfl rfl rfl rfl) (by simp [qBV]) (Nat.le_succ _) rfl ?_
 refine AD.nil (AO.x (rvs T 13 (hfit:=by exact qA4 (hx40))) ?_)
 refine AO.pu T ?_
 refine AO.se T [.R 13,.R 11,.v (.bool x1.2)] ?_
 refine AO.n ?_
 obtain ⟨x41,hx42,hH⟩:=zB hH
 obtain ⟨u43,hx44,hH⟩:=zB hH
 refine AW.drawn 6 14 [1] mix (by kernel_rfl) rfl ?_
 iterate 3 refine AD.pu T ?_
 refine AD.vv (qIr T rfl rfl rfl rfl rfl rfl (f:=ze0) (l:=([0,0,0,1,2,3]:List Int)) rfl rfl (fun _=>rfl) rfl rfl rfl) ?_
 refine AD.kk (cMF [1] (S:=qAD _ _ _ (hx42)) (hp:=by exact zG (.c (.box rfl rfl)) (zG (.c .s) (zGn)))) ?_
 refine AD.q (FStep.mk T (f:=ze0) (l:=[x41.2]) rfl rfl rfl rfl rfl rfl rfl rfl rfl (fun _=>rfl) rfl rfl rfl rfl) (by simp [qBV]) (Nat.le_succ _) rfl ?_
 refine AD.nil (AO.x (rvs T 15 (hfit:=by exact qA4 (hx44))) ?_)
 refine AO.pu T ?_
 refine AO.se T [.R 13,.R 15,.v (.bool x1.2)] ?_
 refine AO.n (AW.r ?_)
 refine AO.pu T ?_
 refine AO.w aws ?_
 refine AO.pu T ?_
 refine AO.n ?_
 refine ⟨(k7,x41.1.code,x41.1.at',x41.1.seed,(v33++[x37.2]),(v34++[x41.2]),w64 (v35 - 1)),hH,Nat.lt_succ_self _,?_⟩
 refine Le.trans (Le.ct 13 9 (σ':=(⟨[(0,.p 1 0),(1,.s (List.map ze5 names)),(4,.p 2 0),(5,.p 3 0),(6,w64 (v35 - 1))],[(1,.box [.s (List.map ze4 x41.1.code),x41.1.at',.v (.int .u64 x41.1.seed)]),(2,.box [.w 0 [],.w 0 [],.v (.bool false)]),(3,.box [.R 9,.R 15,.v (.bool x1.2)]),(9,.row 1 (List.map ze5 (v33++[x37.2]))),(15,.row 1 (List.map ze0 (v34++[x41.2])))],50,[(1,L 1)]⟩:St)) (hpin:=⟨⟨rfl,rfl⟩,trivial⟩)) ?_
 exact Le.ct 15 11 (hpin:=⟨⟨rfl,rfl⟩,trivial⟩)
 replace hH:=condF hc hH
 refine AW.exit (AW.q (AW.q ?_))
 obtain ⟨x45,hx46,hH⟩:=zB hH
 refine AW.r (AO.pu T ?_)
 refine AO.x (cMs 16 [1] (S:=qAL _ _ _ (hx46)) (hp:=by exact zG (.c (.box rfl rfl)) (zG (.c .v) (zGn)))) ?_
 refine AO.n (AW.c (b:=x45.2) rfl (fun hc=>?_) (fun hc=>?_))
 replace hH:=condT hc hH
 refine AW.q ?_
 obtain ⟨x47,hx48,hH⟩:=zB hH
 obtain ⟨u49,hx50,hH⟩:=zB hH
 refine AW.drawn 6 16 [1] mix (by kernel_rfl) rfl ?_
 iterate 4 refine AD.pu T ?_
 refine AD.kk (cMF [1] (S:=qEN _ _ _ (hx48)) (hp:=by exact zG (.c (.box rfl rfl)) (zG (.c .s) (zGn)))) ?_
 refine AD.q (FStep.mk T (f:=ze5) (l:=[x47.2]) rfl rfl rfl rfl rfl rfl rfl rfl rfl (fun _=>rfl) rfl rfl rfl rfl) (by simp [qBV]) (Nat.le_succ _) rfl ?_
 refine AD.nil (AO.x (rvs T 17 (hfit:=by exact qA4 (hx50))) ?_)
 refine AO.pu T ?_
 refine AO.se T [.R 17,.R 11,.v (.bool x1.2)] ?_
 refine AO.n ?_
 obtain ⟨u51,hx52,hH⟩:=zB hH
 refine AW.r (AO.p2 T ?_)
 refine AO.x (mks T 18 ze0 (([0]:List Int))) ?_
 refine AO.x (rvs T 19 (hfit:=by exact qA4 (hx52))) ?_
 refine AO.pu T ?_
 refine AO.se T [.R 17,.R 19,.v (.bool x1.2)] ?_
 refine AO.n (AW.q (AW.r ?_))
 refine AO.pu T (d:=.g [.R 17,.R 19,.v (.bool x1.2)]) ?_
 refine AO.se T [.R 17,.R 19,.v (.bool x1.2)] ?_
 refine AO.n (AW.t ?_)
 have hR:=zS hH;subst hR
 exact ⟨trivial,rfl,_,[17,19],[1],rfl,zG (.c (.box rfl rfl)) (zG (.c .u) (zGn)),.c (.g (zC (.rowR rfl) (zC (.rowR rfl) (zC .v (zCn))))),by decide⟩
 replace hH:=condF hc hH
 refine AW.k (AW.q (AW.r ?_))
 refine AO.pu T (d:=.g [.R 9,.R 11,.v (.bool x1.2)]) ?_
 refine AO.se T [.R 9,.R 11,.v (.bool x1.2)] ?_
 refine AO.n (AW.t ?_)
 have hR:=zS hH;subst hR
 exact ⟨trivial,rfl,_,[9,11],[1],rfl,zG (.c (.box rfl rfl)) (zG (.c .u) (zGn)),.c (.g (zC (.rowR rfl) (zC (.rowR rfl) (zC .v (zCn))))),by decide⟩

end Go.Proofs.YtpmgadenilnabaaGreat

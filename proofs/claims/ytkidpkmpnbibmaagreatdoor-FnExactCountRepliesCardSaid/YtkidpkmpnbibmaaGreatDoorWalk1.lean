/- The walk, part 1: what each function reached by the law FnExactCountReplies computes. No condition. -/
import Derived.Test.YtkidpkmpnbibmaaGreatDoorAm3
import Derived.Test.YtkidpkmpnbibmaaGreatDoorShelf
import Derived.Test.YtkidpkmpnbibmaaGreatDoorProg
set_option maxRecDepth 4000
set_option maxHeartbeats 1000000
set_option linter.unusedVariables false
set_option linter.unusedSimpArgs false
set_option linter.unusedSectionVars false

namespace Go.Proofs.YtkidpkmpnbibmaaGreatDoor
open Go.AM
def teL:List (Option TI):=[
 none,
 none,
 some ⟨.int .i64,1,8,some (.int .i64 0)⟩,
 some ⟨.int .i64,1,8,some (.int .i64 0)⟩,
 some ⟨.bool,1,1,some (.bool false)⟩,
 some ⟨.int .u8,1,1,some (.int .u8 0)⟩,
 some ⟨.int .u8,1,1,some (.int .u8 0)⟩,
 some ⟨.struct [(0,2),(1,3),(2,4),(3,6)],4,24,some (.agg #[.int .i64 0,.int .i64 0,.bool false,.int .u8 0])⟩,
 some ⟨.struct [(0,2),(1,3),(2,4),(3,6)],4,24,some (.agg #[.int .i64 0,.int .i64 0,.bool false,.int .u8 0])⟩,
 some ⟨.str,1,16,some (.string ⟨#[]⟩)⟩,
 some ⟨.str,1,16,some (.string ⟨#[]⟩)⟩,
 some ⟨.str,1,16,some (.string ⟨#[]⟩)⟩,
 some ⟨.int .u64,1,8,some (.int .u64 0)⟩,
 some ⟨.struct [(0,9),(1,12)],2,24,some (.agg #[.string ⟨#[]⟩,.int .u64 0])⟩,
 some ⟨.struct [(0,9),(1,12)],2,24,some (.agg #[.string ⟨#[]⟩,.int .u64 0])⟩,
 some ⟨.ptr 264,1,8,some (.pointer none)⟩,
 some ⟨.ptr 267,1,8,some (.pointer none)⟩,
 some ⟨.ptr 274,1,8,some (.pointer none)⟩,
 some ⟨.struct [(0,17)],1,8,some (.agg #[.pointer none])⟩,
 some ⟨.struct [(0,17)],1,8,some (.agg #[.pointer none])⟩,
 none,
 some ⟨.int .i32,1,4,some (.int .i32 0)⟩,
 none,
 none,
 none,
 none,
 some ⟨.slice 3,1,24,some (.slice none 0 0)⟩,
 none,
 none,
 none,
 none,
 some ⟨.slice 89,1,24,some (.slice none 0 0)⟩,
 none,
 none,
 none,
 none,
 some ⟨.slice 107,1,24,some (.slice none 0 0)⟩,
 some ⟨.struct [(0,36),(1,26),(2,3),(3,3),(4,3),(5,3)],6,80,some (.agg #[.slice none 0 0,.slice none 0 0,.int .i64 0,.int .i64 0,.int .i64 0,.int .i64 0])⟩,
 some ⟨.struct [(0,36),(1,26),(2,3),(3,3),(4,3),(5,3)],6,80,some (.agg #[.slice none 0 0,.slice none 0 0,.int .i64 0,.int .i64 0,.int .i64 0,.int .i64 0])⟩,
 none,
 none,
 none,
 none,
 some ⟨.slice 120,1,24,some (.slice none 0 0)⟩,
 some ⟨.slice 26,1,24,some (.slice none 0 0)⟩,
 some ⟨.struct [(0,44),(1,44)],2,48,some (.agg #[.slice none 0 0,.slice none 0 0])⟩,
 some ⟨.struct [(0,44),(1,44)],2,48,some (.agg #[.slice none 0 0,.slice none 0 0])⟩,
 some ⟨.struct [(0,3),(1,3),(2,3)],3,24,some (.agg #[.int .i64 0,.int .i64 0,.int .i64 0])⟩,
 some ⟨.struct [(0,3),(1,3),(2,3)],3,24,some (.agg #[.int .i64 0,.int .i64 0,.int .i64 0])⟩,
 some ⟨.struct [(0,43),(1,46),(3,48)],6,96,some (.agg #[.slice none 0 0,.slice none 0 0,.slice none 0 0,.int .i64 0,.int .i64 0,.int .i64 0])⟩,
 some ⟨.struct [(0,43),(1,46),(3,48)],6,96,some (.agg #[.slice none 0 0,.slice none 0 0,.slice none 0 0,.int .i64 0,.int .i64 0,.int .i64 0])⟩,
 none,
 none,
 none,
 none,
 some ⟨.slice 5,1,24,some (.slice none 0 0)⟩,
 none,
 none,
 none,
 none,
 none,
 none,
 none,
 none,
 none,
 none,
 some ⟨.ptr 82,1,8,some (.pointer none)⟩,
 none,
 none,
 some ⟨.ptr 86,1,8,some (.pointer none)⟩,
 some ⟨.slice 9,1,24,some (.slice none 0 0)⟩,
 none,
 none,
 some ⟨.ptr 75,1,8,some (.pointer none)⟩,
 some ⟨.struct [(0,73),(1,55)],2,32,some (.agg #[.pointer none,.slice none 0 0])⟩,
 some ⟨.struct [(0,73),(1,55)],2,32,some (.agg #[.pointer none,.slice none 0 0])⟩,
 none,
 none,
 none,
 none,
 none,
 some ⟨.struct [(0,38),(6,50),(12,3),(13,31),(14,26),(15,26),(16,3)],17,264,some (.agg #[.slice none 0 0,.slice none 0 0,.int .i64 0,.int .i64 0,.int .i64 0,.int .i64 0,.slice none 0 0,.slice none 0 0,.slice none 0 0,.int .i64 0,.int .i64 0,.int .i64 0,.int .i64 0,.slice none 0 0,.slice none 0 0,.slice none 0 0,.int .i64 0])⟩,
 some ⟨.struct [(0,38),(6,50),(12,3),(13,31),(14,26),(15,26),(16,3)],17,264,some (.agg #[.slice none 0 0,.slice none 0 0,.int .i64 0,.int .i64 0,.int .i64 0,.int .i64 0,.slice none 0 0,.slice none 0 0,.slice none 0 0,.int .i64 0,.int .i64 0,.int .i64 0,.int .i64 0,.slice none 0 0,.slice none 0 0,.slice none 0 0,.int .i64 0])⟩,
 none,
 none,
 some ⟨.struct [(0,38),(6,50),(12,3),(13,31)],14,208,some (.agg #[.slice none 0 0,.slice none 0 0,.int .i64 0,.int .i64 0,.int .i64 0,.int .i64 0,.slice none 0 0,.slice none 0 0,.slice none 0 0,.int .i64 0,.int .i64 0,.int .i64 0,.int .i64 0,.slice none 0 0])⟩,
 some ⟨.struct [(0,38),(6,50),(12,3),(13,31)],14,208,some (.agg #[.slice none 0 0,.slice none 0 0,.int .i64 0,.int .i64 0,.int .i64 0,.int .i64 0,.slice none 0 0,.slice none 0 0,.slice none 0 0,.int .i64 0,.int .i64 0,.int .i64 0,.int .i64 0,.slice none 0 0])⟩,
 none,
 some ⟨.struct [(0,3),(1,26)],2,32,some (.agg #[.int .i64 0,.slice none 0 0])⟩,
 some ⟨.struct [(0,3),(1,26)],2,32,some (.agg #[.int .i64 0,.slice none 0 0])⟩,
 none,
 none,
 none,
 none,
 none,
 none,
 none,
 none,
 some ⟨.ptr 101,1,8,some (.pointer none)⟩,
 some ⟨.int .u64,1,8,some (.int .u64 0)⟩,
 some ⟨.struct [(0,55),(1,3),(2,99)],3,40,some (.agg #[.slice none 0 0,.int .i64 0,.int .u64 0])⟩,
 some ⟨.struct [(0,55),(1,3),(2,99)],3,40,some (.agg #[.slice none 0 0,.int .i64 0,.int .u64 0])⟩,
 none,
 none,
 none,
 none,
 some ⟨.struct [(0,9),(1,3),(2,3),(3,3)],4,40,some (.agg #[.string ⟨#[]⟩,.int .i64 0,.int .i64 0,.int .i64 0])⟩,
 some ⟨.struct [(0,9),(1,3),(2,3),(3,3)],4,40,some (.agg #[.string ⟨#[]⟩,.int .i64 0,.int .i64 0,.int .i64 0])⟩,
 none,
 none,
 none,
 none,
 none,
 some ⟨.ptr 5,1,8,some (.pointer none)⟩,
 none,
 none,
 none,
 none,
 none,
 some ⟨.struct [(0,70),(1,26),(2,4)],3,56,some (.agg #[.slice none 0 0,.slice none 0 0,.bool false])⟩,
 some ⟨.struct [(0,70),(1,26),(2,4)],3,56,some (.agg #[.slice none 0 0,.slice none 0 0,.bool false])⟩,
 none,
 none,
 none,
 none,
 none,
 none,
 none,
 none,
 none,
 none,
 none,
 none,
 none,
 none,
 none,
 none,
 none,
 none,
 none,
 none,
 none,
 none,
 none,
 none,
 some ⟨.int .u64,1,8,some (.int .u64 0)⟩,
 none,
 none,
 none,
 none,
 none,
 none,
 none,
 none,
 none,
 none,
 none,
 none,
 none,
 none,
 none,
 none,
 none,
 none,
 none,
 none,
 some ⟨.array 4 9,4,64,some (.agg #[.string ⟨#[]⟩,.string ⟨#[]⟩,.string ⟨#[]⟩,.string ⟨#[]⟩])⟩,
 none,
 none,
 none,
 none,
 none,
 none,
 none,
 none,
 none,
 none,
 none,
 none,
 none,
 none,
 none,
 none,
 none,
 none,
 none,
 none,
 none,
 none,
 none,
 none,
 none,
 none,
 none,
 none,
 none,
 none,
 none,
 none,
 none,
 none,
 none,
 none,
 none,
 none,
 none,
 none,
 none,
 none,
 none,
 none,
 none,
 none,
 none,
 none,
 none,
 none,
 none,
 none,
 none,
 none,
 none,
 none,
 none,
 none,
 none,
 none,
 none,
 none,
 none,
 none,
 none,
 none,
 none,
 none,
 some ⟨.array 24 5,24,24,some (.agg #[.int .u8 0,.int .u8 0,.int .u8 0,.int .u8 0,.int .u8 0,.int .u8 0,.int .u8 0,.int .u8 0,.int .u8 0,.int .u8 0,.int .u8 0,.int .u8 0,.int .u8 0,.int .u8 0,.int .u8 0,.int .u8 0,.int .u8 0,.int .u8 0,.int .u8 0,.int .u8 0,.int .u8 0,.int .u8 0,.int .u8 0,.int .u8 0])⟩,
 none,
 none,
 none,
 none,
 none,
 none,
 none,
 none,
 none,
 none,
 none,
 some ⟨.struct [(0,5),(1,5)],2,2,some (.agg #[.int .u8 0,.int .u8 0])⟩,
 some ⟨.struct [(0,5),(1,5)],2,2,some (.agg #[.int .u8 0,.int .u8 0])⟩,
 some ⟨.array 16 248,32,32,some (.agg #[.int .u8 0,.int .u8 0,.int .u8 0,.int .u8 0,.int .u8 0,.int .u8 0,.int .u8 0,.int .u8 0,.int .u8 0,.int .u8 0,.int .u8 0,.int .u8 0,.int .u8 0,.int .u8 0,.int .u8 0,.int .u8 0,.int .u8 0,.int .u8 0,.int .u8 0,.int .u8 0,.int .u8 0,.int .u8 0,.int .u8 0,.int .u8 0,.int .u8 0,.int .u8 0,.int .u8 0,.int .u8 0,.int .u8 0,.int .u8 0,.int .u8 0,.int .u8 0])⟩,
 some ⟨.int .u32,1,4,some (.int .u32 0)⟩,
 none,
 none,
 none,
 some ⟨.array 20 99,20,160,some (.agg #[.int .u64 0,.int .u64 0,.int .u64 0,.int .u64 0,.int .u64 0,.int .u64 0,.int .u64 0,.int .u64 0,.int .u64 0,.int .u64 0,.int .u64 0,.int .u64 0,.int .u64 0,.int .u64 0,.int .u64 0,.int .u64 0,.int .u64 0,.int .u64 0,.int .u64 0,.int .u64 0])⟩,
 none,
 none,
 none,
 none,
 none,
 none,
 some ⟨.array 32 5,32,32,some (.agg #[.int .u8 0,.int .u8 0,.int .u8 0,.int .u8 0,.int .u8 0,.int .u8 0,.int .u8 0,.int .u8 0,.int .u8 0,.int .u8 0,.int .u8 0,.int .u8 0,.int .u8 0,.int .u8 0,.int .u8 0,.int .u8 0,.int .u8 0,.int .u8 0,.int .u8 0,.int .u8 0,.int .u8 0,.int .u8 0,.int .u8 0,.int .u8 0,.int .u8 0,.int .u8 0,.int .u8 0,.int .u8 0,.int .u8 0,.int .u8 0,.int .u8 0,.int .u8 0])⟩,
 none,
 some ⟨.struct [(0,17),(1,17),(2,17),(3,9)],4,40,some (.agg #[.pointer none,.pointer none,.pointer none,.string ⟨#[]⟩])⟩,
 some ⟨.struct [(0,17),(1,17),(2,17),(3,9)],4,40,some (.agg #[.pointer none,.pointer none,.pointer none,.string ⟨#[]⟩])⟩,
 some ⟨.array 0 16,0,0,some (.agg #[])⟩,
 some ⟨.struct [(0,265)],0,0,some (.agg #[])⟩,
 some ⟨.struct [(0,265)],0,0,some (.agg #[])⟩,
 some ⟨.int .u8,1,1,some (.int .u8 0)⟩,
 some ⟨.int .u8,1,1,some (.int .u8 0)⟩,
 none,
 some ⟨.int .i32,1,4,some (.int .i32 0)⟩,
 some ⟨.int .i32,1,4,some (.int .i32 0)⟩,
 some ⟨.struct [(0,12),(1,12),(2,250),(3,268),(4,5),(5,5),(6,269),(7,270),(8,113),(9,271),(10,272)],11,48,some (.agg #[.int .u64 0,.int .u64 0,.int .u32 0,.int .u8 0,.int .u8 0,.int .u8 0,.int .u8 0,.nilFunc,.pointer none,.int .i32 0,.int .i32 0])⟩,
 some ⟨.struct [(0,12),(1,12),(2,250),(3,268),(4,5),(5,5),(6,269),(7,270),(8,113),(9,271),(10,272)],11,48,some (.agg #[.int .u64 0,.int .u64 0,.int .u32 0,.int .u8 0,.int .u8 0,.int .u8 0,.int .u8 0,.nilFunc,.pointer none,.int .i32 0,.int .i32 0])⟩]
def te:TE:=qXx teL
theorem T:qGD Tryz.prog te:=qWM (by kernel_rfl)
theorem mix:Tryz.prog.follows .mixedOrders=true:=by kernel_rfl

def ze0 (x:Int):List D:=[.v (.int .i64 x)]
def qXt (x:Bool):List D:=[.v (.bool x)]
def ze2 (x:ByteArray):List D:=[.v (.string x)]
def qQQ (x:Int):List D:=[.v (.int .u8 x)]
def qWc (x:Int):List D:=[.v (.int .u64 x)]
def qWd (x:Int):List D:=[.v (.int .i32 x)]
def ze3 (x:List Int):List D:=[.s (x.map ze0)]
def ze6 (x:List Int):List D:=[.w 1 (x.map ze0)]
theorem qAe (x:List Int):FrzL (ze6 x) (ze3 x):=.cons (.map fun y=>.vs rfl) .nil
def qVv (x:List ByteArray):List D:=[.s (x.map ze2)]
def qVL (x:List ByteArray):List D:=[.w 1 (x.map ze2)]
theorem qX3 (x:List ByteArray):FrzL (qVL x) (qVv x):=.cons (.map fun y=>.vs rfl) .nil
structure Element where
  name:ByteArray
  family:Int
  level:Int
  base:Int
  deriving Inhabited,DecidableEq
def ze5 (x:Element):List D:=[.v (.string x.name),.v (.int .i64 x.family),.v (.int .i64 x.level),.v (.int .i64 x.base)]
def qRB (x:List Element):List D:=[.s (x.map ze5)]
def qQd (x:List Element):List D:=[.w 4 (x.map ze5)]
theorem qWK (x:List Element):FrzL (qQd x) (qRB x):=.cons (.map fun y=>.vs rfl) .nil
structure Code where
  elements:List Element
  limits:List Int
  repeats:Int
  bonus:Int
  keeps:Int
  fall:Int
  deriving Inhabited,DecidableEq
def ze4 (x:Code):List D:=[.s (x.elements.map ze5),.s (x.limits.map ze0),.v (.int .i64 x.repeats),.v (.int .i64 x.bonus),.v (.int .i64 x.keeps),.v (.int .i64 x.fall)]
def qNu (x:Code):List D:=[.w 4 (x.elements.map ze5),.w 1 (x.limits.map ze0),.v (.int .i64 x.repeats),.v (.int .i64 x.bonus),.v (.int .i64 x.keeps),.v (.int .i64 x.fall)]
theorem qX0 (x:Code):FrzL (qNu x) (ze4 x):=.cons (.map fun y=>.vs rfl) (.cons (.map fun y=>.vs rfl) (.cons (.vs rfl) (.cons (.vs rfl) (.cons (.vs rfl) (.cons (.vs rfl) (.nil))))))
structure Item where
  names:List ByteArray
  marks:List Int
  late:Bool
  deriving Inhabited,DecidableEq
def ze1 (x:Item):List D:=[.s (x.names.map ze2),.s (x.marks.map ze0),.v (.bool x.late)]
def qNe (x:Item):List D:=[.w 1 (x.names.map ze2),.w 1 (x.marks.map ze0),.v (.bool x.late)]
theorem qF4 (x:Item):FrzL (qNe x) (ze1 x):=.cons (.map fun y=>.vs rfl) (.cons (.map fun y=>.vs rfl) (.cons (.vs rfl) (.nil)))
structure Marks where
  grades:List (List Int)
  components:List (List Int)
  deriving Inhabited,DecidableEq
def qIf (x:Marks):List D:=[.s (x.grades.map ze3),.s (x.components.map ze3)]
def qIY (x:Marks):List D:=[.w 1 (x.grades.map ze6),.w 1 (x.components.map ze6)]
theorem qXl (x:Marks):FrzL (qIY x) (qIf x):=.cons (.map fun y=>qAe y) (.cons (.map fun y=>qAe y) (.nil))
structure Slips where
  falls:Int
  seconds:Int
  other:Int
  deriving Inhabited,DecidableEq
def qNx (x:Slips):List D:=[.v (.int .i64 x.falls),.v (.int .i64 x.seconds),.v (.int .i64 x.other)]
structure Performance where
  items:List Item
  marks:Marks
  slips:Slips
  deriving Inhabited,DecidableEq
def qHI (x:Performance):List D:=[.s (x.items.map ze1),.s (x.marks.grades.map ze3),.s (x.marks.components.map ze3),.v (.int .i64 x.slips.falls),.v (.int .i64 x.slips.seconds),.v (.int .i64 x.slips.other)]
def qKs (x:Performance):List D:=[.w 3 (x.items.map qNe),.w 1 (x.marks.grades.map ze6),.w 1 (x.marks.components.map ze6),.v (.int .i64 x.slips.falls),.v (.int .i64 x.slips.seconds),.v (.int .i64 x.slips.other)]
theorem qUX (x:Performance):FrzL (qKs x) (qHI x):=.cons (.map fun y=>qF4 y) (.cons (.map fun y=>qAe y) (.cons (.map fun y=>qAe y) (.cons (.vs rfl) (.cons (.vs rfl) (.cons (.vs rfl) (.nil))))))
structure Result where
  skater:Int
  scores:List Int
  deriving Inhabited,DecidableEq
def ze7 (x:Result):List D:=[.v (.int .i64 x.skater),.s (x.scores.map ze0)]
def qPa (x:Result):List D:=[.v (.int .i64 x.skater),.w 1 (x.scores.map ze0)]
theorem qTA (x:Result):FrzL (qPa x) (ze7 x):=.cons (.vs rfl) (.cons (.map fun y=>.vs rfl) (.nil))
structure CsState where
  code:Code
  p:Performance
  factor:Int
  results:List Result
  no:List Int
  what:List Int
  lines:Int
  deriving Inhabited,DecidableEq
def qSe (x:CsState):List D:=[.s (x.code.elements.map ze5),.s (x.code.limits.map ze0),.v (.int .i64 x.code.repeats),.v (.int .i64 x.code.bonus),.v (.int .i64 x.code.keeps),.v (.int .i64 x.code.fall),.s (x.p.items.map ze1),.s (x.p.marks.grades.map ze3),.s (x.p.marks.components.map ze3),.v (.int .i64 x.p.slips.falls),.v (.int .i64 x.p.slips.seconds),.v (.int .i64 x.p.slips.other),.v (.int .i64 x.factor),.s (x.results.map ze7),.s (x.no.map ze0),.s (x.what.map ze0),.v (.int .i64 x.lines)]
def ze9 (x:CsState):List D:=[.s (x.code.elements.map ze5),.s (x.code.limits.map ze0),.v (.int .i64 x.code.repeats),.v (.int .i64 x.code.bonus),.v (.int .i64 x.code.keeps),.v (.int .i64 x.code.fall),.s (x.p.items.map ze1),.s (x.p.marks.grades.map ze3),.s (x.p.marks.components.map ze3),.v (.int .i64 x.p.slips.falls),.v (.int .i64 x.p.slips.seconds),.v (.int .i64 x.p.slips.other),.v (.int .i64 x.factor),.s (x.results.map ze7),.w 1 (x.no.map ze0),.w 1 (x.what.map ze0),.v (.int .i64 x.lines)]
def ze8 (x:CsState) (i0 i1:Nat):List D:=[.s (x.code.elements.map ze5),.s (x.code.limits.map ze0),.v (.int .i64 x.code.repeats),.v (.int .i64 x.code.bonus),.v (.int .i64 x.code.keeps),.v (.int .i64 x.code.fall),.s (x.p.items.map ze1),.s (x.p.marks.grades.map ze3),.s (x.p.marks.components.map ze3),.v (.int .i64 x.p.slips.falls),.v (.int .i64 x.p.slips.seconds),.v (.int .i64 x.p.slips.other),.v (.int .i64 x.factor),.s (x.results.map ze7),.R i0,.R i1,.v (.int .i64 x.lines)]
theorem qA1 {σ:St} {x:CsState} {i0 i1:Nat} (h0:get σ.h i0=some (.row 1 (x.no.map ze0))) (h1:get σ.h i1=some (.row 1 (x.what.map ze0))):qMx σ (ze8 x i0 i1) (ze9 x) [i0,i1]:=zC .s (zC .s (zC .v (zC .v (zC .v (zC .v (zC .s (zC .s (zC .s (zC .v (zC .v (zC .v (zC .v (zC .s (zC (.rowR h0) (zC (.rowR h1) (zC .v (zCn)))))))))))))))))
theorem qWg (x:CsState):FrzL (ze9 x) (qSe x):=.cons (.vs rfl) (.cons (.vs rfl) (.cons (.vs rfl) (.cons (.vs rfl) (.cons (.vs rfl) (.cons (.vs rfl) (.cons (.vs rfl) (.cons (.vs rfl) (.cons (.vs rfl) (.cons (.vs rfl) (.cons (.vs rfl) (.cons (.vs rfl) (.cons (.vs rfl) (.cons (.vs rfl) (.cons (.map fun y=>.vs rfl) (.cons (.map fun y=>.vs rfl) (.cons (.vs rfl) (.nil)))))))))))))))))
structure ScriptState where
  code:Code
  performance:Performance
  factor:Int
  results:List Result
  deriving Inhabited,DecidableEq
def qIx (x:ScriptState):List D:=[.s (x.code.elements.map ze5),.s (x.code.limits.map ze0),.v (.int .i64 x.code.repeats),.v (.int .i64 x.code.bonus),.v (.int .i64 x.code.keeps),.v (.int .i64 x.code.fall),.s (x.performance.items.map ze1),.s (x.performance.marks.grades.map ze3),.s (x.performance.marks.components.map ze3),.v (.int .i64 x.performance.slips.falls),.v (.int .i64 x.performance.slips.seconds),.v (.int .i64 x.performance.slips.other),.v (.int .i64 x.factor),.s (x.results.map ze7)]
def qOE (x:ScriptState):List D:=[.w 4 (x.code.elements.map ze5),.w 1 (x.code.limits.map ze0),.v (.int .i64 x.code.repeats),.v (.int .i64 x.code.bonus),.v (.int .i64 x.code.keeps),.v (.int .i64 x.code.fall),.w 3 (x.performance.items.map qNe),.w 1 (x.performance.marks.grades.map ze6),.w 1 (x.performance.marks.components.map ze6),.v (.int .i64 x.performance.slips.falls),.v (.int .i64 x.performance.slips.seconds),.v (.int .i64 x.performance.slips.other),.v (.int .i64 x.factor),.w 2 (x.results.map qPa)]
theorem qUY (x:ScriptState):FrzL (qOE x) (qIx x):=.cons (.map fun y=>.vs rfl) (.cons (.map fun y=>.vs rfl) (.cons (.vs rfl) (.cons (.vs rfl) (.cons (.vs rfl) (.cons (.vs rfl) (.cons (.map fun y=>qF4 y) (.cons (.map fun y=>qAe y) (.cons (.map fun y=>qAe y) (.cons (.vs rfl) (.cons (.vs rfl) (.cons (.vs rfl) (.cons (.vs rfl) (.cons (.map fun y=>qTA y) (.nil))))))))))))))

def qEE (judges:Int):Nat→Int→List (List Int)→Option (List (List Int))
 | 0,_,_=>none
 | k21+1,v32,v33 =>
  cond (decide (v32 > 0))
   ((qAv (decide (0 ≤ judges) && qAf 8 judges.toNat)).bind fun u35 =>
   (qAv (qAf 24 (v33.length+([(List.replicate judges.toNat (0:Int))]).length))).bind fun u37 =>
   qEE judges k21 (w64 (v32 - 1)) (v33++[(List.replicate judges.toNat (0:Int))]))
   (some v33)
def qD1 (judges:Int) (v18:List (List Int)):Nat→List (List Int)→Int→Option Marks
 | 0,_,_=>none
 | k39+1,v50,v51 =>
  cond (decide (v51 < 3))
   ((qAv (decide (0 ≤ judges) && qAf 8 judges.toNat)).bind fun u53 =>
   (qAv (qAf 24 (v50.length+([(List.replicate judges.toNat (0:Int))]).length))).bind fun u55 =>
   qD1 judges v18 k39 (v50++[(List.replicate judges.toNat (0:Int))]) (w64 (v51+1)))
   (some (Marks.mk v18 v50))
def qC4 (fuel:Nat) (items:Int) (judges:Int):Option Marks :=
 (qEE judges fuel items []).bind fun v18 =>
 qD1 judges v18 fuel [] 0
theorem qIe (fuel:Nat) (items:Int) (judges:Int) (r:Marks) (hH:qC4 fuel items judges=some r):qAC Tryz.prog 102 [items,judges] (.g (qIY r)):=by
 refine fns T Tryz.func102 ?_
 refine go ?_
 refine AO.x (als T 1) (go ?_)
 refine AO.x (als T 2) ?_
 refine AO.se T [.w 0 [],.w 0 []] ?_
 refine AO.n ?_
 obtain ⟨o19,hH,hK20⟩:=zB hH
 refine AW.seqJ (fun s:List (List Int)=>(⟨[(1,judges),(4,.p 1 0),(5,.p 2 0)],[(1,.box [.w 0 [],.w 0 []]),(2,.box [.R 8,.w 0 []]),(8,ro 1 ze6 s)],31,[]⟩:St)) (fun s=>s=o19) ?_ ?_
 refine AW.b (AW.loopS (fun s:Nat × Int × (List (List Int))=>(⟨[(0,s.2.1),(1,judges),(4,.p 1 0),(5,.p 2 0)],[(1,.box [.w 0 [],.w 0 []]),(2,.box [.R 17,.w 0 []]),(17,ro 1 ze6 s.2.2)],31,[]⟩:St)) (fun s=>qEE judges s.1 s.2.1 s.2.2=some o19) (fun s=>s.1) (fuel,items,[]) hH ?_ ?_)
 refine Le.trans (Le.voidBox 2 0 17 1 rfl rfl rfl rfl) ?_
 exact Le.ct 0 0
 rintro ⟨k21,v32,v33⟩ hH
 try dsimp only at hH ⊢
 rcases k21 with _ | k21
 cases (show none=some _ from hH)
 rw [qEE] at hH
 refine go ?_
 refine AW.cH hH (fun _ hH=>?_) (fun hc hH=>?_)
 refine go ?_
 obtain ⟨u35,hx36,u37,hx38,hH⟩:=qAI hH
 refine AW.drawn 5 18 [] mix (by kernel_rfl) rfl ?_
 refine go ?_
 refine AD.q (FStep.make T rfl rfl rfl rfl rfl rfl rfl (f:=ze0) (zo:=0) (by repeat constructor) (by decide) rfl rfl (Bool.and_eq_true_iff.1 (qAQ (hx36))).1 (Bool.and_eq_true_iff.1 (qAQ (hx36))).2 rfl) (by simp [qAr]) (Nat.le_succ _) rfl ?_
 refine AD.kk (FStep.mk_o T rfl rfl rfl rfl rfl rfl rfl rfl (f:=ze6) (l:=[(List.replicate judges.toNat (0:Int))]) (ids:=[18]) rfl rfl (fun _=>rfl) (by exact zC (.rowR rfl) (zCn)) (by decide) rfl rfl rfl rfl) ?_
 refine AD.nil (AO.x (qE1 T rfl 20 rfl rfl rfl rfl rfl (by decide) rfl rfl rfl rfl rfl (qAQ (hx38)) rfl rfl) ?_)
 refine AO.pu T ?_
 refine AO.se T [.R 20,.w 0 []] ?_
 refine go ?_
 refine ⟨(k21,w64 (v32 - 1),(v33++[(List.replicate judges.toNat (0:Int))])),hH,Nat.lt_succ_self _,?_⟩
 exact Le.ct 20 17
 refine AW.exit ?_
 refine ⟨_,zS hH,?_⟩
 exact Le.ct 17 8
 rintro v18 hs
 subst hs
 replace hH:=hK20
 try dsimp only [qK0,qJT] at hH
 try dsimp only
 refine go ?_
 refine AW.loopS (fun s:Nat × (List (List Int)) × Int=>(⟨[(1,judges),(4,.p 1 0),(5,.p 2 0),(6,s.2.2)],[(1,.box [.w 0 [],.w 0 []]),(2,.box [.R 8,.R 26]),(8,ro 1 ze6 v18),(26,ro 1 ze6 s.2.1)],31,[]⟩:St)) (fun s=>qD1 judges v18 s.1 s.2.1 s.2.2=some r) (fun s=>s.1) (fuel,[],0) hH ?_ ?_
 refine Le.trans (Le.voidBox 2 1 26 1 rfl rfl rfl rfl) ?_
 exact Le.ct 0 0
 rintro ⟨k39,v50,v51⟩ hH
 try dsimp only at hH ⊢
 rcases k39 with _ | k39
 cases (show none=some _ from hH)
 rw [qD1] at hH
 refine go ?_
 refine AW.cH hH (fun _ hH=>?_) (fun _ hH=>?_)
 refine go ?_
 obtain ⟨u53,hx54,u55,hx56,hH⟩:=qAI hH
 refine AW.drawn 5 27 [] mix (by kernel_rfl) rfl ?_
 refine go ?_
 refine AD.q (FStep.make T rfl rfl rfl rfl rfl rfl rfl (f:=ze0) (zo:=0) (by repeat constructor) (by decide) rfl rfl (Bool.and_eq_true_iff.1 (qAQ (hx54))).1 (Bool.and_eq_true_iff.1 (qAQ (hx54))).2 rfl) (by simp [qAr]) (Nat.le_succ _) rfl ?_
 refine AD.kk (FStep.mk_o T rfl rfl rfl rfl rfl rfl rfl rfl (f:=ze6) (l:=[(List.replicate judges.toNat (0:Int))]) (ids:=[27]) rfl rfl (fun _=>rfl) (by exact zC (.rowR rfl) (zCn)) (by decide) rfl rfl rfl rfl) ?_
 refine AD.nil (AO.x (qE1 T rfl 29 rfl rfl rfl rfl rfl (by decide) rfl rfl rfl rfl rfl (qAQ (hx56)) rfl rfl) ?_)
 refine AO.pu T ?_
 refine AO.se T [.R 8,.R 29] ?_
 refine go ?_
 refine ⟨(k39,(v50++[(List.replicate judges.toNat (0:Int))]),w64 (v51+1)),hH,Nat.lt_succ_self _,?_⟩
 exact Le.ct 29 26
 refine go ?_
 refine AO.se T [.R 8,.R 26] ?_
 refine go ?_
 exact fin

def qHY (fuel:Nat):Option CsState :=
 (qC4 fuel 0 3).bind fun x1 =>
 some (CsState.mk (Code.mk [(Element.mk (⟨#[51,65]⟩:ByteArray) 0 0 800)] ([7,7,7,7,7]:List Int) 2 10 80 100) (Performance.mk [] x1 (Slips.mk 0 0 0)) 100 [] [] [] 0)
theorem qOf (fuel:Nat) (r:CsState) (hH:qHY fuel=some r):qAC Tryz.prog 73 [] (.pn (ze9 r)):=by
 refine fns T Tryz.func73 ?_
 refine go ?_
 refine AO.x (bxs T 1) (go ?_)
 refine AO.x (mks T 2 ze5 ([(Element.mk (⟨#[51,65]⟩:ByteArray) 0 0 800)])) ?_
 refine AO.x (mks T 3 ze0 (([7,7,7,7,7]:List Int))) (go ?_)
 refine AO.se T [.R 2,.R 3,(2:Int),(10:Int),(80:Int),(100:Int),.w 0 [],.w 0 [],.w 0 [],(0:Int),(0:Int),(0:Int),(100:Int),.w 0 [],.w 0 [],.w 0 [],(0:Int)] ?_
 refine go ?_
 obtain ⟨x1,hx2,hH⟩:=zB hH
 refine go ?_
 refine AO.x (qAS rfl 4 rfl rfl rfl (qIe fuel _ _ _ (hx2)) rfl rfl rfl) (go ?_)
 refine AO.se T [.R 2,.R 3,(2:Int),(10:Int),(80:Int),(100:Int),.w 0 [],.R 4,.R 5,(0:Int),(0:Int),(0:Int),(100:Int),.w 0 [],.w 0 [],.w 0 [],(0:Int)] ?_
 iterate 6 refine gs ?_
 refine AW.le (Le.nilSBox 1 6 rfl rfl) ?_
 refine AW.le (Le.nilSBox 1 13 rfl rfl) ?_
 refine AW.le (Le.fM 5 (g:=ze3) rfl (fun y=>qAe y)) ?_
 refine AW.le (Le.fM 4 (g:=ze3) rfl (fun y=>qAe y)) ?_
 refine AW.le (Le.fM 3 (g:=ze0) rfl (fun y=>.vs rfl)) ?_
 refine AW.le (Le.fM 2 (g:=ze5) rfl (fun y=>.vs rfl)) ?_
 refine AW.t ?_
 have hR:=zS hH;subst hR
 exact retQ.i [1] rfl (.c (.pb rfl (zC .s (zC .s (zC .v (zC .v (zC .v (zC .v (zC .s (zC .s (zC .s (zC .v (zC .v (zC .v (zC .v (zC .s (zC .nil (zC .nil (zC .v (zCn))))))))))))))))))))

def qDR (sA:ByteArray) (b:Int):Nat→List ByteArray→Int→Int→Option ((List ByteArray))
 | 0,_,_,_=>none
 | k1+1,v17,v18,v19 =>
  cond (decide (v19 < (sA.size:Int)))
   ((qNC sA v19).bind fun b21 =>
   cond ((b21.toNat:Int) == b)
    ((qAv (inB v18 v19 sA.size)).bind fun u23 =>
    (qAv (qAf 16 (v17.length+([(ByteArray.extract sA v18.toNat v19.toNat)]).length))).bind fun u25 =>
    qDR sA b k1 (v17++[(ByteArray.extract sA v18.toNat v19.toNat)]) (w64 (v19+1)) (w64 (v19+1)))
    (qDR sA b k1 v17 v18 (w64 (v19+1))))
   ((qAv (inB v18 sA.size sA.size)).bind fun u27 =>
   (qAv (qAf 16 (v17.length+([(ByteArray.extract sA v18.toNat sA.size)]).length))).bind fun u29 =>
   some (v17++[(ByteArray.extract sA v18.toNat sA.size)]))
def qA0 (fuel:Nat) (sA:ByteArray) (b:Int):Option (List ByteArray) :=
 qDR sA b fuel [] 0 0
theorem qHA (fuel:Nat) (sA:ByteArray) (b:Int) (r:(List ByteArray)) (hH:qA0 fuel sA b=some r):qAC Tryz.prog 92 [.v (.string sA),.v (.int .u8 b)] (.w 1 (r.map ze2)):=by
 refine fns T Tryz.func92 ?_
 refine go ?_
 refine AW.loopS (fun s:Nat × (List ByteArray) × Int × Int=>(⟨[(0,.v (.string sA)),(1,.v (.int .u8 b)),(5,.R 4),(6,s.2.2.1),(7,s.2.2.2)],[(4,ro 1 ze2 s.2.1)],34,[]⟩:St)) (fun s=>qDR sA b s.1 s.2.1 s.2.2.1 s.2.2.2=some r) (fun s=>s.1) (fuel,[],0,0) hH ?_ ?_
 refine Le.trans (Le.void 5 4 1 rfl rfl) ?_
 exact Le.ct 0 0
 rintro ⟨k1,v17,v18,v19⟩ hH
 try dsimp only at hH ⊢
 rcases k1 with _ | k1
 cases (show none=some _ from hH)
 rw [qDR] at hH
 refine go ?_
 refine AW.cH hH (fun hc hH=>?_) (fun _ hH=>?_)
 refine go ?_
 obtain ⟨b21,hx22,hH⟩:=zB hH
 refine go ?_
 refine AO.w (qBI T rfl rfl rfl rfl (hx22)) (go ?_)
 refine AW.cH hH (fun _ hH=>?_) (fun hc hH=>?_)
 refine AW.q ?_
 obtain ⟨u23,hx24,u25,hx26,hH⟩:=qAI hH
 refine go ?_
 refine AO.w (qQL T rfl rfl rfl rfl rfl (qAQ (hx24))) ?_
 refine AO.x (mks T 5 ze2 ([(ByteArray.extract sA v18.toNat v19.toNat)])) ?_
 refine AO.x (rvs T 6 (hfit:=by exact qAQ (hx26))) (go ?_)
 refine ⟨(k1,(v17++[(ByteArray.extract sA v18.toNat v19.toNat)]),w64 (v19+1),w64 (v19+1)),hH,Nat.lt_succ_self _,?_⟩
 exact Le.ct 6 4
 refine go ?_
 refine ⟨(k1,v17,v18,w64 (v19+1)),hH,Nat.lt_succ_self _,?_⟩
 exact Le.ct 0 0
 refine go ?_
 obtain ⟨u27,hx28,u29,hx30,hH⟩:=qAI hH
 refine go ?_
 refine AO.w (qE8 T rfl rfl rfl rfl (qAQ (hx28))) ?_
 refine AO.x (mks T 7 ze2 ([(ByteArray.extract sA v18.toNat sA.size)])) ?_
 refine AO.x (rvs T 8 (hfit:=by exact qAQ (hx30))) (go ?_)
 exact fin

def qFU (fuel:Nat) (script:ByteArray):Option ((List ByteArray) × Bool) :=
 (opt ((!(decide ((script.size:Int) > 2000))) && (!decide (script=(⟨#[]⟩:ByteArray)))) default (qNC script (w64 ((script.size:Int) - 1)))).bind fun b1 =>
 cond (decide ((script.size:Int) > 2000) || ((!decide (script=(⟨#[]⟩:ByteArray))) && ((b1.toNat:Int) != 10)))
  (some ([],false))
  ((qA0 fuel script 10).bind fun x4 =>
  (qFX x4 (w64 ((x4.length:Int) - 1))).bind fun x6 =>
  some (x6,decide ((x6.length:Int) ≤ 40)))
theorem qOJ (fuel:Nat) (script:ByteArray) (r:((List ByteArray) × Bool)) (hH:qFU fuel script=some r):qAC Tryz.prog 67 [.v (.string script)] (.t [.s (r.1.map ze2),.v (.bool r.2)]):=by
 refine fns T Tryz.func67 ?_
 iterate 7 refine gs ?_
 obtain ⟨b1,hx2,hH⟩:=zB hH
 iterate 5 refine gs ?_
 refine AO.g0 T ?_
 refine AO.g1 T 9 ?_
 refine AO.g1 T 10 ?_
 refine AO.g0 T ?_
 refine AO.g0 T ?_
 refine AO.g1 T 13 ?_
 refine AO.d1 14 (fun hg=>aws) ?_
 refine AO.d2 12 15 (fun hg=>qBI T rfl rfl rfl rfl (qEo hx2 hg)) ?_
 refine AO.g1 T 16 ?_
 refine AO.d [11] rfl ⟨fun h=>h,trivial⟩ (fun hg=>zN rfl rfl rfl (by rw [hg];exact Bool.true_and _)) rfl ?_
 iterate 2 refine gs ?_
 refine AW.cH hH (fun _ hH=>?_) (fun _ hH=>?_)
 iterate 6 refine gs ?_
 exact fin
 iterate 2 refine gs ?_
 obtain ⟨x4,hx5,hH⟩:=zB hH
 iterate 2 refine gs ?_
 refine AO.x (qAS rfl 1 rfl rfl rfl (qHA fuel _ _ _ (hx5)) rfl rfl rfl) ?_
 iterate 3 refine gs ?_
 obtain ⟨x6,hx7,hH⟩:=zB hH
 refine AW.le (Le.fM 1 (g:=ze2) rfl (fun y=>.vs rfl)) ?_
 iterate 5 refine gs ?_
 refine AO.w (qD7 T rfl rfl rfl rfl rfl (hx7) (fun _=>rfl)) ?_
 iterate 2 refine gs ?_
 refine AW.le (Le.ct 0 0 (σ':=(⟨[(4,sv ze2 x6)],[],31,[]⟩:St))) ?_
 iterate 10 refine gs ?_
 exact fin

def qJe (l:List ByteArray):Option (List ByteArray) :=
 (qAv (qAf 16 l.length)).bind fun u1 =>
 some l
theorem qO5 (l:List ByteArray) (r:(List ByteArray)) (hH:qJe l=some r):qAC Tryz.prog 124 [.s (List.map ze2 l)] (.w 1 (r.map ze2)):=by
 refine fns T Tryz.func124 ?_
 iterate 5 refine gs ?_
 obtain ⟨u1,hx2,hH⟩:=zB hH
 refine AW.r (AO.x (qF1 T rfl rfl rfl rfl) ?_)
 refine AO.pu T ?_
 refine AO.x (qKt T rfl 1 rfl rfl rfl rfl rfl (by decide) (by decide) rfl rfl (fun _=>rfl) (qAQ (hx2)) rfl rfl) ?_
 iterate 3 refine gs ?_
 exact fin

def qE5 (l:List Int):Option (List Int) :=
 (qAv (qAf 8 l.length)).bind fun u1 =>
 some l
theorem qID (l:List Int) (r:(List Int)) (hH:qE5 l=some r):qAC Tryz.prog 49 [.s (List.map ze0 l)] (.w 1 (r.map ze0)):=by
 refine fns T Tryz.func49 ?_
 iterate 5 refine gs ?_
 obtain ⟨u1,hx2,hH⟩:=zB hH
 refine AW.r (AO.x (qF1 T rfl rfl rfl rfl) ?_)
 refine AO.pu T ?_
 refine AO.x (qKt T rfl 1 rfl rfl rfl rfl rfl (by decide) (by decide) rfl rfl (fun _=>rfl) (qAQ (hx2)) rfl rfl) ?_
 iterate 3 refine gs ?_
 exact fin

def qEf:List Item→Nat→List Item→Option ((List Item))
 | [],k1,v20 =>
  some v20
 | y2::ys3,k1,v20 =>
  (qJe y2.names).bind fun x22 =>
  (qE5 y2.marks).bind fun x24 =>
  (qAv (qAf 56 (v20.length+([(Item.mk x22 x24 y2.late)]).length))).bind fun u26 =>
  qEf ys3 (k1+1) (v20++[(Item.mk x22 x24 y2.late)])
def qGh (l:List Item):Option (List Item) :=
 qEf l 0 []
theorem qJc (l:List Item) (r:(List Item)) (hH:qGh l=some r):qAC Tryz.prog 80 [.s (List.map ze1 l)] (.w 3 (r.map qNe)):=by
 refine fns T Tryz.func80 ?_
 iterate 16 refine gs ?_
 refine AW.loopS (fun s:Nat × (List Item)=>(⟨[(3,.R 10),(6,sv ze1 l),(7,(l.length:Int)),(8,(s.1:Int))],[(10,ro 3 qNe s.2)],26,[]⟩:St)) (fun s=>s.1 ≤ l.length∧qEf (l.drop s.1) s.1 s.2=some r) (fun s=>l.length - s.1) (0,[]) ⟨Nat.zero_le _,hH⟩ ?_ ?_
 refine Le.trans (Le.void 3 10 3 rfl rfl) ?_
 exact Le.ct 0 0
 rintro ⟨k1,v20⟩ ⟨hk,hH⟩
 try dsimp only at hH ⊢
 refine AW.boundM (t:=6) (l:=l) rfl (fun hb5=>?_)
 rcases hd4:l.drop k1 with _ | ⟨y2,ys3⟩
 rw [hd4,qEf] at hH
 have hlt6:=qAG hd4
 iterate 13 refine gs ?_
 exact fin
 rw [hd4,qEf] at hH
 have hlt6:=qAF hd4
 iterate 13 refine gs ?_
 refine AO.x (als T 11) ?_
 refine AO.se T [sv ze2 y2.names,sv ze0 y2.marks,.v (.bool y2.late)] ?_
 refine AO.n ?_
 obtain ⟨x22,hx23,x24,hx25,u26,hx27,hH⟩:=qA9 hH
 refine AW.drawn 11 12 [] mix (by kernel_rfl) rfl ?_
 iterate 3 refine gs ?_
 refine AD.q (FStep.call rfl rfl rfl rfl rfl (qO5 _ _ (hx23)) rfl rfl) (qBD _ _) (qDc _ _) rfl ?_
 iterate 2 refine gs ?_
 refine AD.q (FStep.call rfl rfl rfl rfl rfl (qID _ _ (hx25)) rfl rfl) (qBD _ _) (qDc _ _) rfl ?_
 iterate 2 refine gs ?_
 refine AD.pured T (d:=.g [.R 12,.R 13,.v (.bool y2.late)]) rfl rfl rfl rfl ?_
 refine AD.kk (FStep.mk_o T rfl rfl rfl rfl rfl rfl rfl rfl (f:=qNe) (l:=[(Item.mk x22 x24 y2.late)]) (ids:=[12,13]) rfl rfl (fun _=>rfl) (by exact zC (.rowR rfl) (zC (.rowR rfl) (zC .v (zCn)))) (by decide) rfl rfl rfl rfl) ?_
 refine AD.nil (AO.x (qE1 T rfl 15 rfl rfl rfl rfl rfl (by decide) rfl rfl rfl rfl rfl (qAQ (hx27)) rfl rfl) ?_)
 iterate 6 refine gs ?_
 refine ⟨(k1+1,(v20++[(Item.mk x22 x24 y2.late)])),⟨hlt6,(zds hd4 ▸ hH)⟩,qBr hlt6,?_⟩
 exact Le.ct 15 10

def qEn (l:List Item) (x1:(List Item)):Nat→List Item→Int→Option ((List Item))
 | 0,_,_=>none
 | k3+1,v10,v11 =>
  cond (decide (v11 < (x1.length:Int)))
   ((qAU v10 v11).bind fun x13 =>
   qEn l x1 k3 (v10.set v11.toNat (Item.mk x13.names x13.marks (decide ((w64 (2 * v11)) ≥ (l.length:Int))))) (w64 (v11+1)))
   (some v10)
def qHB (fuel:Nat) (l:List Item):Option (List Item) :=
 (qGh l).bind fun x1 =>
 qEn l x1 fuel x1 0
theorem qPF (fuel:Nat) (l:List Item) (r:(List Item)) (hH:qHB fuel l=some r):qAC Tryz.prog 128 [.s (List.map ze1 l)] (.w 3 (r.map qNe)):=by
 refine fns T Tryz.func128 ?_
 refine go ?_
 obtain ⟨x1,hx2,hH⟩:=zB hH
 refine go ?_
 refine AO.x (qAS rfl 1 rfl rfl rfl (qJc _ _ (hx2)) rfl rfl rfl) (go ?_)
 refine AW.loopS (fun s:Nat × (List Item) × Int=>(⟨[(0,sv ze1 l),(3,.R 1),(8,(x1.length:Int)),(9,s.2.2)],[(1,ro 3 qNe s.2.1)],23,[]⟩:St)) (fun s=>qEn l x1 s.1 s.2.1 s.2.2=some r) (fun s=>s.1) (fuel,x1,0) hH ?_ ?_
 exact Le.ct 0 0
 rintro ⟨k3,v10,v11⟩ hH
 try dsimp only at hH ⊢
 rcases k3 with _ | k3
 cases (show none=some _ from hH)
 rw [qEn] at hH
 refine go ?_
 refine AW.cH hH (fun _ hH=>?_) (fun _ hH=>?_)
 refine go ?_
 obtain ⟨x13,hx14,hH⟩:=zB hH
 refine go ?_
 refine AO.x (zSr T rfl rfl rfl rfl rfl (zgG (hx14)) rfl rfl rfl rfl (u':=(Item.mk x13.names x13.marks (decide ((w64 (2 * v11)) ≥ (l.length:Int))))) rfl rfl) (go ?_)
 refine ⟨(k3,(v10.set v11.toNat (Item.mk x13.names x13.marks (decide ((w64 (2 * v11)) ≥ (l.length:Int))))),w64 (v11+1)),hH,Nat.lt_succ_self _,?_⟩
 exact Le.ct 0 0
 refine go ?_
 exact fin

def qAY (n:Int) (lo:Int) (hi:Int):Option Bool :=
 some (decide (n ≥ lo) && decide (n ≤ hi))
theorem qAZ (n:Int) (lo:Int) (hi:Int) (r:Bool) (hH:qAY n lo hi=some r):qAC Tryz.prog 206 [n,lo,hi] (.v (.bool r)):=by
 refine fns T Tryz.func206 ?_
 refine go ?_
 refine AO.g0 T ?_
 refine AO.g0 T ?_
 refine AO.g2 T 11 12 ?_
 refine go ?_
 exact fin

def qCV (lo:Int) (hi:Int):List Int→Nat→Option Bool
 | [],k1 =>
  some true
 | y2::ys3,k1 =>
  (qAY y2 lo hi).bind fun x12 =>
  cond (!x12)
   (some false)
   (qCV lo hi ys3 (k1+1))
def qCs (l:List Int) (lo:Int) (hi:Int):Option Bool :=
 qCV lo hi l 0
theorem qG0 (l:List Int) (lo:Int) (hi:Int) (r:Bool) (hH:qCs l lo hi=some r):qAC Tryz.prog 262 [.s (List.map ze0 l),lo,hi] (.v (.bool r)):=by
 refine fns T Tryz.func262 ?_
 refine go ?_
 refine AW.loopS (fun s:Nat=>(⟨[(1,lo),(2,hi),(9,sv ze0 l),(10,(l.length:Int)),(11,(s:Int))],[],21,[]⟩:St)) (fun s=>s ≤ l.length∧qCV lo hi (l.drop s) s=some r) (fun s=>l.length - s) 0 ⟨Nat.zero_le _,hH⟩ ?_ ?_
 exact Le.ct 0 0
 rintro k1 ⟨hk,hH⟩
 try dsimp only at hH ⊢
 refine AW.boundM (t:=9) (l:=l) rfl (fun hb5=>?_)
 rcases hd4:l.drop k1 with _ | ⟨y2,ys3⟩
 rw [hd4,qCV] at hH
 have hlt6:=qAG hd4
 refine go ?_
 exact fin
 rw [hd4,qCV] at hH
 have hlt6:=qAF hd4
 refine go ?_
 obtain ⟨x12,hx13,hH⟩:=zB hH
 refine go ?_
 refine AO.w (cVs (qAZ _ _ _ _ (hx13))) (go ?_)
 refine AW.cH hH (fun _ hH=>?_) (fun _ hH=>?_)
 refine go ?_
 exact fin
 refine go ?_
 refine ⟨k1+1,⟨hlt6,(zds hd4 ▸ hH)⟩,qBr hlt6,?_⟩
 exact Le.ct 0 0

def qCa:List Item→Nat→Option Bool
 | [],k1 =>
  some true
 | y2::ys3,k1 =>
  (qCs y2.marks 0 0).bind fun x12 =>
  cond (!x12)
   (some false)
   (qCa ys3 (k1+1))
def qLU (l:List Item):Option Bool :=
 qCa l 0
theorem qN5 (l:List Item) (r:Bool) (hH:qLU l=some r):qAC Tryz.prog 248 [.s (List.map ze1 l)] (.v (.bool r)):=by
 refine fns T Tryz.func248 ?_
 refine go ?_
 refine AW.loopS (fun s:Nat=>(⟨[(5,sv ze1 l),(6,(l.length:Int)),(7,(s:Int))],[],16,[]⟩:St)) (fun s=>s ≤ l.length∧qCa (l.drop s) s=some r) (fun s=>l.length - s) 0 ⟨Nat.zero_le _,hH⟩ ?_ ?_
 exact Le.ct 0 0
 rintro k1 ⟨hk,hH⟩
 try dsimp only at hH ⊢
 refine AW.boundM (t:=5) (l:=l) rfl (fun hb5=>?_)
 rcases hd4:l.drop k1 with _ | ⟨y2,ys3⟩
 rw [hd4,qCa] at hH
 have hlt6:=qAG hd4
 refine go ?_
 exact fin
 rw [hd4,qCa] at hH
 have hlt6:=qAF hd4
 refine go ?_
 refine AO.x (als T 3) ?_
 refine AO.se T [sv ze2 y2.names,sv ze0 y2.marks,.v (.bool y2.late)] ?_
 refine go ?_
 obtain ⟨x12,hx13,hH⟩:=zB hH
 refine go ?_
 refine AO.w (cVs (qG0 _ _ _ _ (hx13))) (go ?_)
 refine AW.cH hH (fun _ hH=>?_) (fun _ hH=>?_)
 refine go ?_
 exact fin
 refine go ?_
 refine ⟨k1+1,⟨hlt6,(zds hd4 ▸ hH)⟩,qBr hlt6,?_⟩
 exact Le.ct 0 0

def qAt:List Item→Nat→Int→Int→Option ((Int × Int))
 | [],k1,v9,v10 =>
  some (v9,v10)
 | y2::ys3,k1,v9,v10 =>
  cond (decide ((y2.names.length:Int) > 1))
   (cond (decide ((y2.names.length:Int) > 2))
    (qAt ys3 (k1+1) (w64 (v9+1)) (w64 (v10+1)))
    (qAt ys3 (k1+1) (w64 (v9+1)) v10))
   (cond (decide ((y2.names.length:Int) > 2))
    (qAt ys3 (k1+1) v9 (w64 (v10+1)))
    (qAt ys3 (k1+1) v9 v10))
def qJK (l:List Item):Option (Int × Int) :=
 qAt l 0 0 0
theorem qL3 (l:List Item) (r:(Int × Int)) (hH:qJK l=some r):qAC Tryz.prog 249 [.s (List.map ze1 l)] (.t [.v (.int .i64 r.1),.v (.int .i64 r.2)]):=by
 refine fns T Tryz.func249 ?_
 refine go ?_
 refine AW.loopS (fun s:Nat × Int × Int=>(⟨[(4,s.2.1),(5,s.2.2),(8,sv ze1 l),(9,(l.length:Int)),(10,(s.1:Int))],[],29,[]⟩:St)) (fun s=>s.1 ≤ l.length∧qAt (l.drop s.1) s.1 s.2.1 s.2.2=some r) (fun s=>l.length - s.1) (0,0,0) ⟨Nat.zero_le _,hH⟩ ?_ ?_
 exact Le.ct 0 0
 rintro ⟨k1,v9,v10⟩ ⟨hk,hH⟩
 try dsimp only at hH ⊢
 refine AW.boundM (t:=8) (l:=l) rfl (fun hb5=>?_)
 rcases hd4:l.drop k1 with _ | ⟨y2,ys3⟩
 rw [hd4,qAt] at hH
 have hlt6:=qAG hd4
 refine go ?_
 exact fin
 rw [hd4,qAt] at hH
 have hlt6:=qAF hd4
 refine go ?_
 refine AO.x (als T 3) ?_
 refine AO.se T [sv ze2 y2.names,sv ze0 y2.marks,.v (.bool y2.late)] ?_
 refine go ?_
 refine AW.cH hH (fun hc hH=>?_) (fun hc hH=>?_)
 refine go ?_
 refine AW.cH hH (fun _ hH=>?_) (fun hc hH=>?_)
 refine go ?_
 refine ⟨(k1+1,w64 (v9+1),w64 (v10+1)),⟨hlt6,(zds hd4 ▸ hH)⟩,qBr hlt6,?_⟩
 exact Le.ct 0 0
 refine go ?_
 refine ⟨(k1+1,w64 (v9+1),v10),⟨hlt6,(zds hd4 ▸ hH)⟩,qBr hlt6,?_⟩
 exact Le.ct 0 0
 refine go ?_
 refine AW.cH hH (fun _ hH=>?_) (fun _ hH=>?_)
 refine go ?_
 refine ⟨(k1+1,v9,w64 (v10+1)),⟨hlt6,(zds hd4 ▸ hH)⟩,qBr hlt6,?_⟩
 exact Le.ct 0 0
 refine go ?_
 refine ⟨(k1+1,v9,v10),⟨hlt6,(zds hd4 ▸ hH)⟩,qBr hlt6,?_⟩
 exact Le.ct 0 0

def qDu (name:ByteArray):List Element→Nat→Option Int
 | [],k1 =>
  some (-1)
 | y2::ys3,k1 =>
  cond (decide (y2.name=name))
   (some (k1:Int))
   (qDu name ys3 (k1+1))
def qFt (c:Code) (name:ByteArray):Option Int :=
 qDu name c.elements 0
theorem qHZ (c:Code) (name:ByteArray) (r:Int) (hH:qFt c name=some r):qAC Tryz.prog 337 [.g (ze4 c),.v (.string name)] (.v (.int .i64 r)):=by
 refine fns T Tryz.func337 ?_
 refine go ?_
 refine AO.x (bxs T 1) (go ?_)
 refine AW.loopS (fun s:Nat=>(⟨[(1,.v (.string name)),(8,sv ze5 c.elements),(9,(c.elements.length:Int)),(10,(s:Int))],[],21,[]⟩:St)) (fun s=>s ≤ c.elements.length∧qDu name (c.elements.drop s) s=some r) (fun s=>c.elements.length - s) 0 ⟨Nat.zero_le _,hH⟩ ?_ ?_
 exact Le.ct 0 0
 rintro k1 ⟨hk,hH⟩
 try dsimp only at hH ⊢
 refine AW.boundM (t:=8) (l:=c.elements) rfl (fun hb5=>?_)
 rcases hd4:c.elements.drop k1 with _ | ⟨y2,ys3⟩
 rw [hd4,qDu] at hH
 have hlt6:=qAG hd4
 refine go ?_
 exact fin
 rw [hd4,qDu] at hH
 have hlt6:=qAF hd4
 refine go ?_
 refine AO.x (als T 4) ?_
 refine AO.pu T ?_
 refine AO.se T [.v (.string y2.name),y2.family,y2.level,y2.base] ?_
 refine go ?_
 refine AW.cH hH (fun _ hH=>?_) (fun _ hH=>?_)
 refine go ?_
 exact fin
 refine go ?_
 refine ⟨k1+1,⟨hlt6,(zds hd4 ▸ hH)⟩,qBr hlt6,?_⟩
 exact Le.ct 0 0

def qGy (c:Code) (it:Item):Option Int :=
 (qAU it.names 0).bind fun x1 =>
 (qFt c x1).bind fun x3 =>
 cond (decide (x3 < 0))
  (some (-1))
  ((qAU c.elements x3).bind fun x5 =>
  some x5.family)
theorem qNj (c:Code) (it:Item) (r:Int) (hH:qGy c it=some r):qAC Tryz.prog 301 [.g (ze4 c),.g (ze1 it)] (.v (.int .i64 r)):=by
 refine fns T Tryz.func301 ?_
 refine go ?_
 refine AO.x (bxs T 1) ?_
 refine AO.x (bxs T 2) (go ?_)
 obtain ⟨x1,hx2,x3,hx4,hH⟩:=qAI hH
 refine AW.drawn 5 3 [] mix (by kernel_rfl) rfl ?_
 refine go ?_
 refine AO.w (cVs (qHZ _ _ _ (hx4))) (go ?_)
 refine AW.cH hH (fun _ hH=>?_) (fun _ hH=>?_)
 refine go ?_
 exact fin
 refine go ?_
 obtain ⟨x5,hx6,hH⟩:=zB hH
 refine go ?_
 exact fin

def qBc (c:Code):List Item→Nat→List Int→Option ((List Int))
 | [],k3,v18 =>
  some v18
 | y4::ys5,k3,v18 =>
  (qGy c y4).bind fun x20 =>
  cond (decide (x20 ≥ 0))
   ((qAU v18 x20).bind fun x22 =>
   qBc c ys5 (k3+1) (v18.set x20.toNat (w64 (x22+1))))
   (qBc c ys5 (k3+1) v18)
def qKG (c:Code) (l:List Item):Option (List Int) :=
 (qAv (decide (0 ≤ 5) && qAf 8 (5:Int).toNat)).bind fun u1 =>
 qBc c l 0 (List.replicate (5:Int).toNat (0:Int))
theorem qNb (c:Code) (l:List Item) (r:(List Int)) (hH:qKG c l=some r):qAC Tryz.prog 250 [.g (ze4 c),.s (List.map ze1 l)] (.w 1 (r.map ze0)):=by
 refine fns T Tryz.func250 ?_
 iterate 2 refine gs ?_
 refine AO.x (bxs T 1) ?_
 iterate 3 refine gs ?_
 obtain ⟨u1,hx2,hH⟩:=zB hH
 refine AW.r (AO.x (qLt T rfl 2 rfl rfl rfl rfl rfl (f:=ze0) (zo:=0) (by repeat constructor) (by decide) rfl rfl (Bool.and_eq_true_iff.1 (qAQ (hx2))).1 (Bool.and_eq_true_iff.1 (qAQ (hx2))).2 rfl rfl) ?_)
 iterate 10 refine gs ?_
 refine AW.loopS (fun s:Nat × (List Int)=>(⟨[(2,.p 1 0),(5,.R 2),(10,sv ze1 l),(11,(l.length:Int)),(12,(s.1:Int))],[(1,.box (ze4 c)),(2,ro 1 ze0 s.2)],29,[]⟩:St)) (fun s=>s.1 ≤ l.length∧qBc c (l.drop s.1) s.1 s.2=some r) (fun s=>l.length - s.1) (0,(List.replicate (5:Int).toNat (0:Int))) ⟨Nat.zero_le _,hH⟩ ?_ ?_
 exact Le.ct 0 0
 rintro ⟨k3,v18⟩ ⟨hk,hH⟩
 try dsimp only at hH ⊢
 refine AW.boundM (t:=10) (l:=l) rfl (fun hb7=>?_)
 rcases hd6:l.drop k3 with _ | ⟨y4,ys5⟩
 rw [hd6,qBc] at hH
 have hlt8:=qAG hd6
 iterate 13 refine gs ?_
 exact fin
 rw [hd6,qBc] at hH
 have hlt8:=qAF hd6
 iterate 13 refine gs ?_
 refine AO.x (als T 5) ?_
 refine AO.se T [sv ze2 y4.names,sv ze0 y4.marks,.v (.bool y4.late)] ?_
 iterate 2 refine gs ?_
 obtain ⟨x20,hx21,hH⟩:=zB hH
 iterate 3 refine gs ?_
 refine AO.w (cVs (qNj _ _ _ (hx21))) ?_
 iterate 7 refine gs ?_
 refine AW.cH hH (fun _ hH=>?_) (fun _ hH=>?_)
 obtain ⟨x22,hx23,hH⟩:=zB hH
 iterate 4 refine gs ?_
 refine AO.w (zLr T rfl rfl rfl rfl (zgG (hx23)) rfl rfl rfl) ?_
 iterate 2 refine gs ?_
 refine AO.x (zSr T rfl rfl rfl rfl rfl (zgG (hx23)) rfl rfl rfl rfl (u':=w64 (x22+1)) rfl rfl) ?_
 iterate 5 refine gs ?_
 refine ⟨(k3+1,(v18.set x20.toNat (w64 (x22+1)))),⟨hlt8,(zds hd6 ▸ hH)⟩,qBr hlt8,?_⟩
 exact Le.ct 0 0
 iterate 5 refine gs ?_
 refine ⟨(k3+1,v18),⟨hlt8,(zds hd6 ▸ hH)⟩,qBr hlt8,?_⟩
 exact Le.ct 0 0

def qC5 (l:List Item):List Item→Nat→Option Bool
 | [],k1 =>
  some true
 | y2::ys3,k1 =>
  cond (!(y2.late == decide ((w64 (2 * (k1:Int))) ≥ (l.length:Int))))
   (some false)
   (qC5 l ys3 (k1+1))
def qMJ (l:List Item):Option Bool :=
 qC5 l l 0
theorem qOt (l:List Item) (r:Bool) (hH:qMJ l=some r):qAC Tryz.prog 251 [.s (List.map ze1 l)] (.v (.bool r)):=by
 refine fns T Tryz.func251 ?_
 refine go ?_
 refine AW.loopS (fun s:Nat=>(⟨[(0,sv ze1 l),(5,sv ze1 l),(6,(l.length:Int)),(7,(s:Int))],[],21,[]⟩:St)) (fun s=>s ≤ l.length∧qC5 l (l.drop s) s=some r) (fun s=>l.length - s) 0 ⟨Nat.zero_le _,hH⟩ ?_ ?_
 exact Le.ct 0 0
 rintro k1 ⟨hk,hH⟩
 try dsimp only at hH ⊢
 refine AW.boundM (t:=0) (l:=l) rfl (fun hb5=>?_)
 rcases hd4:l.drop k1 with _ | ⟨y2,ys3⟩
 rw [hd4,qC5] at hH
 have hlt6:=qAG hd4
 refine go ?_
 exact fin
 rw [hd4,qC5] at hH
 have hlt6:=qAF hd4
 refine go ?_
 refine AO.x (als T 3) ?_
 refine AO.pu T ?_
 refine AO.se T [sv ze2 y2.names,sv ze0 y2.marks,.v (.bool y2.late)] ?_
 refine go ?_
 refine AW.cH hH (fun _ hH=>?_) (fun _ hH=>?_)
 refine go ?_
 exact fin
 refine go ?_
 refine ⟨k1+1,⟨hlt6,(zds hd4 ▸ hH)⟩,qBr hlt6,?_⟩
 exact Le.ct 0 0

def qB0 (name:ByteArray) (y2:Item):List ByteArray→Nat→Int→Int→Option (Int × Int)
 | [],k74,v82,v83 =>
  some (v82,v83)
 | y75::ys76,k74,v82,v83 =>
  cond (decide (y75=name))
   (cond (decide ((y2.names.length:Int) > 1))
    (qB0 name y2 ys76 (k74+1) (w64 (v82+1)) (w64 (v83+1)))
    (qB0 name y2 ys76 (k74+1) (w64 (v82+1)) v83))
   (qB0 name y2 ys76 (k74+1) v82 v83)
def qDO (name:ByteArray):List Item→Nat→Int→Int→Option ((Int × Int))
 | [],k1,v57,v58 =>
  some (v57,v58)
 | y2::ys3,k1,v57,v58 =>
  (qB0 name y2 y2.names 0 v57 v58).bind fun (v70,v71) =>
  qDO name ys3 (k1+1) v70 v71
def qI3 (l:List Item) (name:ByteArray):Option (Int × Int) :=
 qDO name l 0 0 0
theorem qOk (l:List Item) (name:ByteArray) (r:(Int × Int)) (hH:qI3 l name=some r):qAC Tryz.prog 338 [.s (List.map ze1 l),.v (.string name)] (.t [.v (.int .i64 r.1),.v (.int .i64 r.2)]):=by
 refine fns T Tryz.func338 ?_
 iterate 18 refine gs ?_
 refine AW.loopS (fun s:Nat × Int × Int=>(⟨[(1,.v (.string name)),(6,s.2.1),(7,s.2.2),(12,sv ze1 l),(13,(l.length:Int)),(14,(s.1:Int))],[],40,[]⟩:St)) (fun s=>s.1 ≤ l.length∧qDO name (l.drop s.1) s.1 s.2.1 s.2.2=some r) (fun s=>l.length - s.1) (0,0,0) ⟨Nat.zero_le _,hH⟩ ?_ ?_
 exact Le.ct 0 0
 rintro ⟨k1,v57,v58⟩ ⟨hk,hH⟩
 try dsimp only at hH ⊢
 refine AW.boundM (t:=12) (l:=l) rfl (fun hb5=>?_)
 rcases hd4:l.drop k1 with _ | ⟨y2,ys3⟩
 rw [hd4,qDO] at hH
 have hlt6:=qAG hd4
 iterate 15 refine gs ?_
 exact fin
 rw [hd4,qDO] at hH
 have hlt6:=qAF hd4
 iterate 7 refine gs ?_
 obtain ⟨o72,hH,hK73⟩:=zB hH
 refine AW.seqJ (fun s:Int × Int=>(⟨[(1,.v (.string name)),(6,s.1),(7,s.2),(12,sv ze1 l),(13,(l.length:Int)),(14,(k1:Int))],[],40,[]⟩:St)) (fun s=>s=o72) ?_ ?_
 iterate 5 refine gs ?_
 refine AO.x (als T 6) ?_
 refine AO.se T [sv ze2 y2.names,sv ze0 y2.marks,.v (.bool y2.late)] ?_
 iterate 9 refine gs ?_
 refine AW.loopS (fun s:Nat × Int × Int=>(⟨[(1,.v (.string name)),(6,s.2.1),(7,s.2.2),(9,.p 6 0),(12,sv ze1 l),(13,(l.length:Int)),(14,(k1:Int)),(19,sv ze2 y2.names),(20,(y2.names.length:Int)),(21,(s.1:Int))],[(6,.box [sv ze2 y2.names,sv ze0 y2.marks,.v (.bool y2.late)])],40,[]⟩:St)) (fun s=>s.1 ≤ y2.names.length∧qB0 name y2 (y2.names.drop s.1) s.1 s.2.1 s.2.2=some o72) (fun s=>y2.names.length - s.1) (0,v57,v58) ⟨Nat.zero_le _,hH⟩ ?_ ?_
 exact Le.ct 0 0
 rintro ⟨k74,v82,v83⟩ ⟨hk,hH⟩
 try dsimp only at hH ⊢
 refine AW.boundM (t:=19) (l:=y2.names) rfl (fun hb78=>?_)
 rcases hd77:y2.names.drop k74 with _ | ⟨y75,ys76⟩
 rw [hd77,qB0] at hH
 have hlt79:=qAG hd77
 iterate 7 refine gs ?_
 refine ⟨_,zS hH,?_⟩
 exact Le.ct 0 0
 rw [hd77,qB0] at hH
 have hlt79:=qAF hd77
 iterate 21 refine gs ?_
 refine AW.cH hH (fun hc hH=>?_) (fun _ hH=>?_)
 iterate 13 refine gs ?_
 refine AW.cH hH (fun _ hH=>?_) (fun hc hH=>?_)
 iterate 9 refine gs ?_
 refine ⟨(k74+1,w64 (v82+1),w64 (v83+1)),⟨hlt79,(zds hd77 ▸ hH)⟩,qBr hlt79,?_⟩
 exact Le.ct 0 0
 iterate 5 refine gs ?_
 refine ⟨(k74+1,w64 (v82+1),v83),⟨hlt79,(zds hd77 ▸ hH)⟩,qBr hlt79,?_⟩
 exact Le.ct 0 0
 iterate 5 refine gs ?_
 refine ⟨(k74+1,v82,v83),⟨hlt79,(zds hd77 ▸ hH)⟩,qBr hlt79,?_⟩
 exact Le.ct 0 0
 rintro ⟨v70,v71⟩ hs
 subst hs
 replace hH:=hK73
 try dsimp only [qK0,qJT] at hH
 try dsimp only
 iterate 4 refine gs ?_
 refine ⟨(k1+1,v70,v71),⟨hlt6,(zds hd4 ▸ hH)⟩,qBr hlt6,?_⟩
 exact Le.ct 0 0

def qHG (c:Code) (l:List Item) (it:Item) (name:ByteArray) (rule:Int):Option Bool :=
 (qFt c name).bind fun x1 =>
 cond (rule == 2)
  (some (decide (x1 ≥ 0)))
  (cond (rule == 4)
   ((opt ((!((it.names.length:Int) == 1)) && decide (x1 ≥ 0)) default (qAU c.elements x1)).bind fun x3 =>
   some (((it.names.length:Int) == 1) || (decide (x1 ≥ 0) && (x3.family == 0))))
   ((qI3 l name).bind fun x5 =>
   some (decide (x5.1 ≤ c.repeats) && ((x5.1 == 1) || decide (x5.2 > 0)))))
theorem qOz (c:Code) (l:List Item) (it:Item) (name:ByteArray) (rule:Int) (r:Bool) (hH:qHG c l it name rule=some r):qAC Tryz.prog 302 [.g (ze4 c),.s (List.map ze1 l),.g (ze1 it),.v (.string name),rule] (.v (.bool r)):=by
 refine fns T Tryz.func302 ?_
 refine go ?_
 refine AO.x (bxs T 1) ?_
 refine AO.x (bxs T 2) (go ?_)
 obtain ⟨x1,hx2,hH⟩:=zB hH
 refine go ?_
 refine AO.w (cVs (qHZ _ _ _ (hx2))) (go ?_)
 refine AW.cH hH (fun _ hH=>?_) (fun hc hH=>?_)
 refine go ?_
 exact fin
 refine go ?_
 refine AW.cH hH (fun _ hH=>?_) (fun _ hH=>?_)
 refine AW.q ?_
 obtain ⟨x3,hx4,hH⟩:=zB hH
 refine go ?_
 refine AO.g0 T ?_
 refine AO.g1 T 29 ?_
 refine AO.g1 T 30 ?_
 refine AO.g0 T ?_
 refine AO.g1 T 32 ?_
 refine AO.g0 T ?_
 refine AO.d2 33 34 (fun hg=>ixs T (qEo hx4 hg)) ?_
 refine AO.g1 T 35 ?_
 refine AO.g1 T 36 ?_
 refine AO.g1 T 37 ?_
 refine AO.d [31] rfl ⟨fun h=>h,trivial⟩ (fun hg=>zN rfl rfl rfl (by rw [hg];exact Bool.true_and _)) rfl ?_
 iterate 3 refine gs ?_
 refine AW.le (Le.ct 0 0 (σ':=(⟨[(10,.v (.bool (((it.names.length:Int) == 1) || (decide (x1 ≥ 0) && (x3.family == 0)))))],[],59,[]⟩:St))) ?_
 refine AW.t ?_
 exact fin
 refine go ?_
 obtain ⟨x5,hx6,hH⟩:=zB hH
 refine go ?_
 refine AO.w (cVs (qOk _ _ _ (hx6))) (go ?_)
 refine AO.g0 T ?_
 refine AO.g1 T 52 ?_
 refine AO.g1 T 53 ?_
 refine AO.g0 T ?_
 refine AO.g1 T 55 ?_
 refine AO.d [54] rfl ⟨fun h=>h,trivial⟩ (fun hg=>zO rfl rfl rfl (by rw [hg];exact Bool.true_and _)) rfl ?_
 iterate 3 refine gs ?_
 refine AW.le (Le.ct 0 0 (σ':=(⟨[(10,.v (.bool (decide (x5.1 ≤ c.repeats) && ((x5.1 == 1) || decide (x5.2 > 0)))))],[],59,[]⟩:St))) ?_
 refine AW.t ?_
 exact fin

def qA2 (c:Code) (l:List Item) (rule:Int) (y2:Item):List ByteArray→Nat→Option (Except Bool Unit)
 | [],k74 =>
  some (.ok ())
 | y75::ys76,k74 =>
  (qHG c l y2 y75 rule).bind fun x85 =>
  cond (!x85)
   (some (.error false))
   (qA2 c l rule y2 ys76 (k74+1))
def qAh (c:Code) (l:List Item) (rule:Int):List Item→Nat→Option Bool
 | [],k1 =>
  some true
 | y2::ys3,k1 =>
  (qA2 c l rule y2 y2.names 0).bind fun o72=>qK0 o72 fun _ =>
  qAh c l rule ys3 (k1+1)
def qLQ (c:Code) (l:List Item) (rule:Int):Option Bool :=
 qAh c l rule l 0
theorem qN3 (c:Code) (l:List Item) (rule:Int) (r:Bool) (hH:qLQ c l rule=some r):qAC Tryz.prog 252 [.g (ze4 c),.s (List.map ze1 l),rule] (.v (.bool r)):=by
 refine fns T Tryz.func252 ?_
 iterate 2 refine gs ?_
 refine AO.x (bxs T 1) ?_
 iterate 10 refine gs ?_
 refine AW.loopS (fun s:Nat=>(⟨[(1,sv ze1 l),(2,rule),(3,.p 1 0),(11,sv ze1 l),(12,(l.length:Int)),(13,(s:Int))],[(1,.box (ze4 c))],33,[]⟩:St)) (fun s=>s ≤ l.length∧qAh c l rule (l.drop s) s=some r) (fun s=>l.length - s) 0 ⟨Nat.zero_le _,hH⟩ ?_ ?_
 exact Le.ct 0 0
 rintro k1 ⟨hk,hH⟩
 try dsimp only at hH ⊢
 refine AW.boundM (t:=1) (l:=l) rfl (fun hb5=>?_)
 rcases hd4:l.drop k1 with _ | ⟨y2,ys3⟩
 rw [hd4,qAh] at hH
 have hlt6:=qAG hd4
 iterate 12 refine gs ?_
 exact fin
 rw [hd4,qAh] at hH
 have hlt6:=qAF hd4
 iterate 7 refine gs ?_
 obtain ⟨o72,hH,hK73⟩:=zB hH
 refine AW.seqJ (fun s:Unit=>(⟨[(1,sv ze1 l),(2,rule),(3,.p 1 0),(11,sv ze1 l),(12,(l.length:Int)),(13,(k1:Int))],[(1,.box (ze4 c))],33,[]⟩:St)) (fun s=>.ok s=o72) ?_ ?_
 iterate 5 refine gs ?_
 refine AO.x (als T 7) ?_
 refine AO.se T [sv ze2 y2.names,sv ze0 y2.marks,.v (.bool y2.late)] ?_
 iterate 9 refine gs ?_
 refine AW.loopS (fun s:Nat=>(⟨[(1,sv ze1 l),(2,rule),(3,.p 1 0),(8,.p 7 0),(11,sv ze1 l),(12,(l.length:Int)),(13,(k1:Int)),(18,sv ze2 y2.names),(19,(y2.names.length:Int)),(20,(s:Int))],[(1,.box (ze4 c)),(7,.box [sv ze2 y2.names,sv ze0 y2.marks,.v (.bool y2.late)])],33,[]⟩:St)) (fun s=>s ≤ y2.names.length∧qA2 c l rule y2 (y2.names.drop s) s=some o72) (fun s=>y2.names.length - s) 0 ⟨Nat.zero_le _,hH⟩ ?_ ?_
 exact Le.ct 0 0
 rintro k74 ⟨hk,hH⟩
 try dsimp only at hH ⊢
 refine AW.boundM (t:=18) (l:=y2.names) rfl (fun hb78=>?_)
 rcases hd77:y2.names.drop k74 with _ | ⟨y75,ys76⟩
 rw [hd77,qA2] at hH
 have hlt79:=qAG hd77
 iterate 7 refine gs ?_
 refine ⟨_,zS hH,?_⟩
 exact Le.ct 0 0
 rw [hd77,qA2] at hH
 have hlt79:=qAF hd77
 iterate 16 refine gs ?_
 obtain ⟨x85,hx86,hH⟩:=zB hH
 iterate 6 refine gs ?_
 refine AO.w (cVs (qOz _ _ _ _ _ _ (hx86))) ?_
 iterate 2 refine gs ?_
 refine AW.cH hH (fun _ hH=>?_) (fun _ hH=>?_)
 iterate 5 refine gs ?_
 obtain rfl:=zS hH
 replace hH:=hK73
 exact fin
 iterate 5 refine gs ?_
 refine ⟨k74+1,⟨hlt79,(zds hd77 ▸ hH)⟩,qBr hlt79,?_⟩
 exact Le.ct 0 0
 rintro _ hs
 subst hs
 replace hH:=hK73
 try dsimp only [qK0,qJT] at hH
 try dsimp only
 iterate 4 refine gs ?_
 refine ⟨k1+1,⟨hlt6,(zds hd4 ▸ hH)⟩,qBr hlt6,?_⟩
 exact Le.ct 0 0

def qCT (c:Code):List Int→Nat→Option Bool
 | [],k7 =>
  some true
 | y8::ys9,k7 =>
  (qAU c.limits (k7:Int)).bind fun x18 =>
  cond (decide (y8 > x18))
   (some false)
   (qCT c ys9 (k7+1))
def qI2 (c:Code) (l:List Item) (rule:Int):Option Bool :=
 cond (rule == 1)
  (some (decide ((l.length:Int) > 0)))
  (cond (rule == 3)
   ((qLU l).bind fun x1 =>
   some x1)
   (cond (rule == 5)
    ((qJK l).bind fun x3 =>
    some (decide (x3.1 ≤ 3) && decide (x3.2 ≤ 1)))
    (cond (rule == 6)
     ((qKG c l).bind fun x5 =>
     qCT c x5 0)
     (cond (rule == 8)
      ((qMJ l).bind fun x20 =>
      some x20)
      ((qLQ c l rule).bind fun x22 =>
      some x22)))))
theorem qOa (c:Code) (l:List Item) (rule:Int) (r:Bool) (hH:qI2 c l rule=some r):qAC Tryz.prog 186 [.g (ze4 c),.s (List.map ze1 l),rule] (.v (.bool r)):=by
 refine fns T Tryz.func186 ?_
 refine go ?_
 refine AO.x (bxs T 1) (go ?_)
 refine AW.cH hH (fun _ hH=>?_) (fun hc hH=>?_)
 refine go ?_
 exact fin
 refine go ?_
 refine AW.cH hH (fun _ hH=>?_) (fun hc hH=>?_)
 refine AW.q ?_
 obtain ⟨x1,hx2,hH⟩:=zB hH
 refine go ?_
 refine AO.w (cVs (qN5 _ _ (hx2))) (go ?_)
 exact fin
 refine go ?_
 refine AW.cH hH (fun _ hH=>?_) (fun hc hH=>?_)
 refine AW.q ?_
 obtain ⟨x3,hx4,hH⟩:=zB hH
 refine go ?_
 refine AO.w (cVs (qL3 _ _ (hx4))) (go ?_)
 refine AO.g0 T ?_
 refine AO.g1 T 31 ?_
 refine go ?_
 exact fin
 refine go ?_
 refine AW.cH hH (fun hc hH=>?_) (fun hc hH=>?_)
 refine go ?_
 obtain ⟨x5,hx6,hH⟩:=zB hH
 refine go ?_
 refine AO.x (qAS rfl 2 rfl rfl rfl (qNb _ _ _ (hx6)) rfl rfl rfl) (go ?_)
 refine AW.loopS (fun s:Nat=>(⟨[(3,.p 1 0),(38,.R 2),(39,(x5.length:Int)),(40,(s:Int))],[(1,.box (ze4 c)),(2,ro 1 ze0 x5)],61,[]⟩:St)) (fun s=>s ≤ x5.length∧qCT c (x5.drop s) s=some r) (fun s=>x5.length - s) 0 ⟨Nat.zero_le _,hH⟩ ?_ ?_
 exact Le.ct 0 0
 rintro k7 ⟨hk,hH⟩
 try dsimp only at hH ⊢
 refine AW.boundR (id:=2) (l:=x5) rfl (fun hb11=>?_)
 rcases hd10:x5.drop k7 with _ | ⟨y8,ys9⟩
 rw [hd10,qCT] at hH
 have hlt12:=qAG hd10
 refine go ?_
 exact fin
 rw [hd10,qCT] at hH
 have hlt12:=qAF hd10
 refine go ?_
 refine AO.w (zLr T rfl rfl rfl rfl (zgG (zgD hd10)) rfl rfl rfl) (go ?_)
 obtain ⟨x18,hx19,hH⟩:=zB hH
 refine go ?_
 refine AW.cH hH (fun _ hH=>?_) (fun hc hH=>?_)
 refine go ?_
 exact fin
 refine go ?_
 refine ⟨k7+1,⟨hlt12,(zds hd10 ▸ hH)⟩,qBr hlt12,?_⟩
 exact Le.ct 0 0
 refine go ?_
 refine AW.cH hH (fun _ hH=>?_) (fun _ hH=>?_)
 refine AW.q ?_
 obtain ⟨x20,hx21,hH⟩:=zB hH
 refine go ?_
 refine AO.w (cVs (qOt _ _ (hx21))) (go ?_)
 exact fin
 refine go ?_
 obtain ⟨x22,hx23,hH⟩:=zB hH
 refine go ?_
 refine AO.w (cVs (qN3 _ _ _ _ (hx23))) (go ?_)
 exact fin

def qCr (c:Code) (l:List Item):Nat→List Int→Int→Option ((List Int))
 | 0,_,_=>none
 | k1+1,v12,v13 =>
  cond (decide (v13 ≤ 8))
   ((qI2 c l v13).bind fun x15 =>
   cond (!x15)
    ((qAv (qAf 8 (v12.length+([v13]).length))).bind fun u17 =>
    qCr c l k1 (v12++[v13]) (w64 (v13+1)))
    (qCr c l k1 v12 (w64 (v13+1))))
   (some v12)
def qGn (fuel:Nat) (c:Code) (l:List Item):Option (List Int) :=
 qCr c l fuel [] 1
theorem qNl (fuel:Nat) (c:Code) (l:List Item) (r:(List Int)) (hH:qGn fuel c l=some r):qAC Tryz.prog 130 [.g (ze4 c),.s (List.map ze1 l)] (.w 1 (r.map ze0)):=by
 refine fns T Tryz.func130 ?_
 refine go ?_
 refine AO.x (bxs T 1) (go ?_)
 refine AW.loopS (fun s:Nat × (List Int) × Int=>(⟨[(1,sv ze1 l),(2,.p 1 0),(5,.R 5),(6,s.2.2)],[(1,.box (ze4 c)),(5,ro 1 ze0 s.2.1)],21,[]⟩:St)) (fun s=>qCr c l s.1 s.2.1 s.2.2=some r) (fun s=>s.1) (fuel,[],1) hH ?_ ?_
 refine Le.trans (Le.void 5 5 1 rfl rfl) ?_
 exact Le.ct 0 0
 rintro ⟨k1,v12,v13⟩ hH
 try dsimp only at hH ⊢
 rcases k1 with _ | k1
 cases (show none=some _ from hH)
 rw [qCr] at hH
 refine go ?_
 refine AW.cH hH (fun hc hH=>?_) (fun _ hH=>?_)
 refine go ?_
 obtain ⟨x15,hx16,hH⟩:=zB hH
 refine go ?_
 refine AO.w (cVs (qOa _ _ _ _ (hx16))) (go ?_)
 refine AW.cH hH (fun _ hH=>?_) (fun hc hH=>?_)
 obtain ⟨u17,hx18,hH⟩:=zB hH
 refine go ?_
 refine AO.x (mks T 6 ze0 ([v13])) ?_
 refine AO.x (rvs T 7 (hfit:=by exact qAQ (hx18))) (go ?_)
 refine ⟨(k1,(v12++[v13]),w64 (v13+1)),hH,Nat.lt_succ_self _,?_⟩
 exact Le.ct 7 5
 refine go ?_
 refine ⟨(k1,v12,w64 (v13+1)),hH,Nat.lt_succ_self _,?_⟩
 exact Le.ct 0 0
 refine go ?_
 exact fin

def qBZ (fuel:Nat):Nat→Int→Option ByteArray
 | 0,_=>none
 | rf+1,n =>
  cond (decide (n < 10))
   (some (strOfNums [IntKind.wrap .u8 (w64 (48+n))]))
   ((qAv (10 != 0)).bind fun u1 =>
   (qBZ fuel rf (w64 (n.tdiv 10))).bind fun x3 =>
   (qAv (Nat.ble (x3.size+(strOfNums [IntKind.wrap .u8 (w64 (48+(n.tmod 10)))]).size) qEH)).bind fun u5 =>
   some (x3++(strOfNums [IntKind.wrap .u8 (w64 (48+(n.tmod 10)))])))
theorem qJn (fuel:Nat):∀ (rf:Nat) (n:Int) (r:ByteArray) (hH:qBZ fuel rf n=some r),qAC Tryz.prog 89 [n] (.v (.string r)):=by
 intro rf
 induction rf with
 | zero=>intro n r hH;rw [qBZ] at hH;cases hH
 | succ rf ih =>
 intro n r hH
 rw [qBZ] at hH
 refine fns T Tryz.func89 ?_
 refine go ?_
 refine AW.cH hH (fun _ hH=>?_) (fun _ hH=>?_)
 refine go ?_
 refine AO.w (qNm T rfl rfl rfl rfl) ?_
 refine AO.x (mks T 1 qQQ ([IntKind.wrap .u8 (w64 (48+n))])) ?_
 refine AO.w (qMI T rfl rfl rfl rfl rfl rfl (fun _=>rfl) rfl) (go ?_)
 exact fin
 refine go ?_
 obtain ⟨u1,hx2,x3,hx4,u5,hx6,hH⟩:=qA9 hH
 refine AW.drawn 9 2 [] mix (by kernel_rfl) rfl ?_
 refine AD.pu T ?_
 refine AD.vv (qHF rfl rfl rfl (neZ (qAQ (hx2)))) ?_
 refine AD.vv (cVs (ih _ _ (hx4))) ?_
 refine AD.pu T ?_
 refine AD.vv (qQG rfl rfl rfl (neZ (qAQ (hx2)))) ?_
 refine AD.vv aws ?_
 refine AD.vv (qNm T rfl rfl rfl rfl) ?_
 refine AD.q (FStep.mk T (f:=qQQ) (l:=[IntKind.wrap .u8 (w64 (48+(n.tmod 10)))]) rfl rfl rfl rfl rfl rfl rfl rfl rfl (fun _=>rfl) rfl rfl rfl rfl) (by simp [qAr]) (Nat.le_succ _) rfl ?_
 refine AD.vald rfl rfl rfl (qMI T rfl rfl rfl rfl rfl rfl (fun _=>rfl) rfl) ?_
 refine AD.nil (AO.w (qB1 rfl rfl rfl (Nat.le_of_ble_eq_true (qAQ (hx6)))) (go ?_))
 exact fin

def qDK (fuel:Nat) (n:Int):Option ByteArray :=
 cond (decide (n < 0))
  ((qBZ fuel fuel (w64 (-n))).bind fun x1 =>
  (qAv (Nat.ble ((⟨#[45]⟩:ByteArray).size+x1.size) qEH)).bind fun u3 =>
  some ((⟨#[45]⟩:ByteArray)++x1))
  ((qBZ fuel fuel n).bind fun x5 =>
  some x5)
theorem qG8 (fuel:Nat) (n:Int) (r:ByteArray) (hH:qDK fuel n=some r):qAC Tryz.prog 131 [n] (.v (.string r)):=by
 refine fns T Tryz.func131 ?_
 refine go ?_
 refine AW.cH hH (fun _ hH=>?_) (fun _ hH=>?_)
 refine AW.q ?_
 obtain ⟨x1,hx2,u3,hx4,hH⟩:=qAI hH
 refine go ?_
 refine AO.w (qOW rfl rfl) ?_
 refine AO.w (cVs (qJn fuel fuel _ _ (hx2))) ?_
 refine AO.w (qB1 rfl rfl rfl (Nat.le_of_ble_eq_true (qAQ (hx4)))) (go ?_)
 exact fin
 refine go ?_
 obtain ⟨x5,hx6,hH⟩:=zB hH
 refine go ?_
 refine AO.w (cVs (qJn fuel fuel _ _ (hx6))) (go ?_)
 exact fin

def qBv (fuel:Nat):List Int→Nat→ByteArray→Option ByteArray
 | [],k1,v28 =>
  cond (decide (v28=(⟨#[]⟩:ByteArray)))
   (some (⟨#[110,111,110,101]⟩:ByteArray))
   (some v28)
 | y2::ys3,k1,v28 =>
  cond (decide ((k1:Int) > 0))
   ((qAv (Nat.ble (v28.size+(⟨#[32]⟩:ByteArray).size) qEH)).bind fun u31 =>
   (qDK fuel y2).bind fun x33 =>
   (qAv (Nat.ble ((v28++(⟨#[32]⟩:ByteArray)).size+x33.size) qEH)).bind fun u35 =>
   qBv fuel ys3 (k1+1) ((v28++(⟨#[32]⟩:ByteArray))++x33))
   ((qDK fuel y2).bind fun x37 =>
   (qAv (Nat.ble (v28.size+x37.size) qEH)).bind fun u39 =>
   qBv fuel ys3 (k1+1) (v28++x37))
def qBA (fuel:Nat) (l:List Int):Option ByteArray :=
 qBv fuel l 0 (⟨#[]⟩:ByteArray)
theorem qFe (fuel:Nat) (l:List Int) (r:ByteArray) (hH:qBA fuel l=some r):qAC Tryz.prog 129 [.s (List.map ze0 l)] (.v (.string r)):=by
 refine fns T Tryz.func129 ?_
 refine go ?_
 refine AW.loopS (fun s:Nat × ByteArray=>(⟨[(3,.v (.string s.2)),(6,sv ze0 l),(7,(l.length:Int)),(8,(s.1:Int))],[],25,[]⟩:St)) (fun s=>s.1 ≤ l.length∧qBv fuel (l.drop s.1) s.1 s.2=some r) (fun s=>l.length - s.1) (0,(⟨#[]⟩:ByteArray)) ⟨Nat.zero_le _,hH⟩ ?_ ?_
 exact Le.ct 0 0
 rintro ⟨k1,v28⟩ ⟨hk,hH⟩
 try dsimp only at hH ⊢
 refine AW.boundM (t:=6) (l:=l) rfl (fun hb5=>?_)
 rcases hd4:l.drop k1 with _ | ⟨y2,ys3⟩
 rw [hd4,qBv] at hH
 have hlt6:=qAG hd4
 refine go ?_
 refine AW.cH hH (fun _ hH=>?_) (fun _ hH=>?_)
 refine go ?_
 exact fin
 refine go ?_
 exact fin
 rw [hd4,qBv] at hH
 have hlt6:=qAF hd4
 refine go ?_
 refine AW.cH hH (fun _ hH=>?_) (fun _ hH=>?_)
 obtain ⟨u31,hx32,hH⟩:=zB hH
 refine go ?_
 refine AO.w (qB1 rfl rfl rfl (Nat.le_of_ble_eq_true (qAQ (hx32)))) (go ?_)
 obtain ⟨x33,hx34,u35,hx36,hH⟩:=qAI hH
 refine go ?_
 refine AO.w (cVs (qG8 fuel _ _ (hx34))) ?_
 refine AO.w (qB1 rfl rfl rfl (Nat.le_of_ble_eq_true (qAQ (hx36)))) (go ?_)
 refine ⟨(k1+1,((v28++(⟨#[32]⟩:ByteArray))++x33)),⟨hlt6,(zds hd4 ▸ hH)⟩,qBr hlt6,?_⟩
 exact Le.ct 0 0
 refine AW.k ?_
 obtain ⟨x37,hx38,u39,hx40,hH⟩:=qAI hH
 refine go ?_
 refine AO.w (cVs (qG8 fuel _ _ (hx38))) ?_
 refine AO.w (qB1 rfl rfl rfl (Nat.le_of_ble_eq_true (qAQ (hx40)))) (go ?_)
 refine ⟨(k1+1,(v28++x37)),⟨hlt6,(zds hd4 ▸ hH)⟩,qBr hlt6,?_⟩
 exact Le.ct 0 0

def qGL (c:Code) (name:ByteArray) (mark:Int):Option Int :=
 (qFt c name).bind fun x1 =>
 cond (decide (x1 < 0))
  (some (-1))
  ((qAU c.elements x1).bind fun x3 =>
  cond (mark == 1)
   ((qAv (100 != 0)).bind fun u5 =>
   some (w64 ((w64 (x3.base * c.keeps)).tdiv 100)))
   (cond (mark == 2)
    ((qAv (10 != 0)).bind fun u7 =>
    some (w64 ((w64 (x3.base * 9)).tdiv 10)))
    (cond (mark == 3)
     (some 0)
     (some x3.base))))
theorem qKp (c:Code) (name:ByteArray) (mark:Int) (r:Int) (hH:qGL c name mark=some r):qAC Tryz.prog 309 [.g (ze4 c),.v (.string name),mark] (.v (.int .i64 r)):=by
 refine fns T Tryz.func309 ?_
 refine go ?_
 refine AO.x (bxs T 1) (go ?_)
 obtain ⟨x1,hx2,hH⟩:=zB hH
 refine go ?_
 refine AO.w (cVs (qHZ _ _ _ (hx2))) (go ?_)
 refine AW.cH hH (fun _ hH=>?_) (fun hc hH=>?_)
 refine go ?_
 exact fin
 refine go ?_
 obtain ⟨x3,hx4,hH⟩:=zB hH
 refine go ?_
 refine AW.cH hH (fun _ hH=>?_) (fun hc hH=>?_)
 refine AW.q ?_
 obtain ⟨u5,hx6,hH⟩:=zB hH
 refine go ?_
 refine AO.w (qHF rfl rfl rfl (neZ (qAQ (hx6)))) ?_
 iterate 2 refine gs ?_
 refine AW.le (Le.ct 0 0 (σ':=(⟨[(6,w64 ((w64 (x3.base * c.keeps)).tdiv 100))],[],36,[]⟩:St))) ?_
 refine AW.t ?_
 exact fin
 refine go ?_
 refine AW.cH hH (fun _ hH=>?_) (fun hc hH=>?_)
 refine AW.q ?_
 obtain ⟨u7,hx8,hH⟩:=zB hH
 refine go ?_
 refine AO.w (qHF rfl rfl rfl (neZ (qAQ (hx8)))) ?_
 iterate 2 refine gs ?_
 refine AW.le (Le.ct 0 0 (σ':=(⟨[(6,w64 ((w64 (x3.base * 9)).tdiv 10))],[],36,[]⟩:St))) ?_
 refine AW.t ?_
 exact fin
 refine go ?_
 refine AW.cH hH (fun _ hH=>?_) (fun _ hH=>?_)
 refine go ?_
 exact fin
 iterate 6 refine gs ?_
 refine AW.le (Le.ct 0 0 (σ':=(⟨[(6,x3.base)],[],36,[]⟩:St))) ?_
 refine AW.t ?_
 exact fin

def qH2 (a:Int) (b:Int):Option Int :=
 (qAv (b != 0)).bind fun u1 =>
 cond (decide ((a.tmod b) < 0))
  (some (w64 ((w64 (a.tdiv b)) - 1)))
  (some (w64 (a.tdiv b)))
theorem qOw (a:Int) (b:Int) (r:Int) (hH:qH2 a b=some r):qAC Tryz.prog 306 [a,b] (.v (.int .i64 r)):=by
 refine fns T Tryz.func306 ?_
 refine go ?_
 obtain ⟨u1,hx2,hH⟩:=zB hH
 refine go ?_
 refine AO.w (qHF rfl rfl rfl (neZ (qAQ (hx2)))) (go ?_)
 refine AO.w (qQG rfl rfl rfl (neZ (qAQ (hx2)))) (go ?_)
 refine AW.cH hH (fun _ hH=>?_) (fun _ hH=>?_)
 refine go ?_
 exact fin
 refine go ?_
 exact fin

def qDw (a:Int) (b:Int):Option Int :=
 (qH2 (w64 ((w64 (2 * a))+b)) (w64 (2 * b))).bind fun x1 =>
 some x1
theorem qGp (a:Int) (b:Int) (r:Int) (hH:qDw a b=some r):qAC Tryz.prog 255 [a,b] (.v (.int .i64 r)):=by
 refine fns T Tryz.func255 ?_
 refine go ?_
 obtain ⟨x1,hx2,hH⟩:=zB hH
 refine go ?_
 refine AO.w (cVs (qOw _ _ _ (hx2))) (go ?_)
 exact fin

def qB5 (c:Code) (it:Item):List ByteArray→Nat→Int→Option Int
 | [],k1,v16 =>
  cond it.late
   ((qDw (w64 (v16 * (w64 (100+c.bonus)))) 100).bind fun x18 =>
   some x18)
   (some v16)
 | y2::ys3,k1,v16 =>
  (qAU it.marks (k1:Int)).bind fun x20 =>
  (qGL c y2 x20).bind fun x22 =>
  qB5 c it ys3 (k1+1) (w64 (v16+x22))
def qH5 (c:Code) (it:Item):Option Int :=
 qB5 c it it.names 0 0
theorem qO7 (c:Code) (it:Item) (r:Int) (hH:qH5 c it=some r):qAC Tryz.prog 303 [.g (ze4 c),.g (ze1 it)] (.v (.int .i64 r)):=by
 refine fns T Tryz.func303 ?_
 refine go ?_
 refine AO.x (bxs T 1) ?_
 refine AO.x (bxs T 2) (go ?_)
 refine AW.loopS (fun s:Nat × Int=>(⟨[(2,.p 1 0),(3,.p 2 0),(5,s.2),(9,sv ze2 it.names),(10,(it.names.length:Int)),(11,(s.1:Int))],[(1,.box (ze4 c)),(2,.box [sv ze2 it.names,sv ze0 it.marks,.v (.bool it.late)])],36,[]⟩:St)) (fun s=>s.1 ≤ it.names.length∧qB5 c it (it.names.drop s.1) s.1 s.2=some r) (fun s=>it.names.length - s.1) (0,0) ⟨Nat.zero_le _,hH⟩ ?_ ?_
 exact Le.ct 0 0
 rintro ⟨k1,v16⟩ ⟨hk,hH⟩
 try dsimp only at hH ⊢
 refine AW.boundM (t:=9) (l:=it.names) rfl (fun hb5=>?_)
 rcases hd4:it.names.drop k1 with _ | ⟨y2,ys3⟩
 rw [hd4,qB5] at hH
 have hlt6:=qAG hd4
 refine go ?_
 refine AW.cH hH (fun _ hH=>?_) (fun _ hH=>?_)
 refine AW.q ?_
 obtain ⟨x18,hx19,hH⟩:=zB hH
 refine go ?_
 refine AO.w (cVs (qGp _ _ _ (hx19))) (go ?_)
 exact fin
 refine go ?_
 exact fin
 rw [hd4,qB5] at hH
 have hlt6:=qAF hd4
 refine go ?_
 obtain ⟨x20,hx21,x22,hx23,hH⟩:=qAI hH
 refine AW.drawn 9 3 [] mix (by kernel_rfl) rfl ?_
 refine go ?_
 refine AD.vv (cVs (qKp _ _ _ _ (hx23))) ?_
 refine go ?_
 refine ⟨(k1+1,w64 (v16+x22)),⟨hlt6,(zds hd4 ▸ hH)⟩,qBr hlt6,?_⟩
 exact Le.ct 0 0

def qAp (l:List Item) (k:Int):List Item→Nat→Int→Option Int
 | [],k3,v26 =>
  some v26
 | y4::ys5,k3,v26 =>
  (qAU y4.names 0).bind fun x28 =>
  (qAU l k).bind fun x30 =>
  (qAU x30.names 0).bind fun x32 =>
  (opt (decide (x28=x32)) default (qAU y4.marks 0)).bind fun x34 =>
  cond (decide (x28=x32) && (x34 != 3))
   (qAp l k ys5 (k3+1) (w64 (v26+1)))
   (qAp l k ys5 (k3+1) v26)
def qHw (l:List Item) (k:Int):Option Int :=
 (qFX l k).bind fun x1 =>
 qAp l k x1 0 0
theorem qMX (l:List Item) (k:Int) (r:Int) (hH:qHw l k=some r):qAC Tryz.prog 304 [.s (List.map ze1 l),k] (.v (.int .i64 r)):=by
 refine fns T Tryz.func304 ?_
 refine go ?_
 obtain ⟨x1,hx2,hH⟩:=zB hH
 refine go ?_
 refine AO.w (qD7 T rfl rfl rfl rfl rfl (hx2) (fun _=>rfl)) (go ?_)
 refine AW.loopS (fun s:Nat × Int=>(⟨[(0,sv ze1 l),(1,k),(5,s.2),(10,sv ze1 x1),(11,(x1.length:Int)),(12,(s.1:Int))],[],39,[]⟩:St)) (fun s=>s.1 ≤ x1.length∧qAp l k (x1.drop s.1) s.1 s.2=some r) (fun s=>x1.length - s.1) (0,0) ⟨Nat.zero_le _,hH⟩ ?_ ?_
 exact Le.ct 0 0
 rintro ⟨k3,v26⟩ ⟨hk,hH⟩
 try dsimp only at hH ⊢
 refine AW.boundM (t:=10) (l:=x1) rfl (fun hb7=>?_)
 rcases hd6:x1.drop k3 with _ | ⟨y4,ys5⟩
 rw [hd6,qAp] at hH
 have hlt8:=qAG hd6
 refine go ?_
 exact fin
 rw [hd6,qAp] at hH
 have hlt8:=qAF hd6
 refine go ?_
 refine AO.x (als T 3) ?_
 refine AO.se T [sv ze2 y4.names,sv ze0 y4.marks,.v (.bool y4.late)] ?_
 refine go ?_
 obtain ⟨x28,hx29,x30,hx31,x32,hx33,hH⟩:=qA9 hH
 obtain ⟨x34,hx35,hH⟩:=zB hH
 refine AW.drawn 11 4 [] mix (by kernel_rfl) rfl ?_
 refine go ?_
 refine AO.g0 T ?_
 refine AO.g1 T 29 ?_
 refine AO.d1 30 (fun hg=>ixs T (qEo hx35 hg)) ?_
 refine AO.g1 T 31 ?_
 refine AO.g1 T 32 ?_
 iterate 2 refine gs ?_
 refine AW.le (Le.ct 0 0 (σ':=(⟨[(0,sv ze1 l),(1,k),(5,v26),(10,sv ze1 x1),(11,(x1.length:Int)),(12,(k3:Int)),(34,.v (.bool (decide (x28=x32) && (x34 != 3))))],[],39,[]⟩:St))) ?_
 refine AW.cH hH (fun _ hH=>?_) (fun _ hH=>?_)
 refine go ?_
 refine ⟨(k3+1,w64 (v26+1)),⟨hlt8,(zds hd6 ▸ hH)⟩,qBr hlt8,?_⟩
 exact Le.ct 0 0
 refine go ?_
 refine ⟨(k3+1,v26),⟨hlt8,(zds hd6 ▸ hH)⟩,qBr hlt8,?_⟩
 exact Le.ct 0 0

def qEd (c:Code) (l:List Item) (k:Int):Option Int :=
 (qAU l k).bind fun x1 =>
 (qH5 c x1).bind fun x3 =>
 (qHw l k).bind fun x5 =>
 cond (decide (x5 < c.repeats))
  (some x3)
  (cond (x5 == c.repeats)
   ((qAv (10 != 0)).bind fun u7 =>
   some (w64 ((w64 (x3 * 7)).tdiv 10)))
   (some 0))
theorem qHc (c:Code) (l:List Item) (k:Int) (r:Int) (hH:qEd c l k=some r):qAC Tryz.prog 253 [.g (ze4 c),.s (List.map ze1 l),k] (.v (.int .i64 r)):=by
 refine fns T Tryz.func253 ?_
 refine go ?_
 refine AO.x (bxs T 1) (go ?_)
 obtain ⟨x1,hx2,x3,hx4,hH⟩:=qAI hH
 refine AW.drawn 5 2 [] mix (by kernel_rfl) rfl ?_
 refine go ?_
 refine AO.w (cVs (qO7 _ _ _ (hx4))) (go ?_)
 obtain ⟨x5,hx6,hH⟩:=zB hH
 refine go ?_
 refine AO.w (cVs (qMX _ _ _ (hx6))) (go ?_)
 refine AW.cH hH (fun _ hH=>?_) (fun hc hH=>?_)
 refine go ?_
 exact fin
 refine go ?_
 refine AW.cH hH (fun _ hH=>?_) (fun _ hH=>?_)
 refine AW.q ?_
 obtain ⟨u7,hx8,hH⟩:=zB hH
 refine go ?_
 refine AO.w (qHF rfl rfl rfl (neZ (qAQ (hx8)))) ?_
 iterate 2 refine gs ?_
 refine AW.le (Le.ct 0 0 (σ':=(⟨[(6,w64 ((w64 (x3 * 7)).tdiv 10))],[],32,[]⟩:St))) ?_
 refine AW.t ?_
 exact fin
 iterate 5 refine gs ?_
 refine AW.le (Le.ct 0 0 (σ':=(⟨[(6,(0:Int))],[],32,[]⟩:St))) ?_
 refine AW.t ?_
 exact fin

def qEU (c:Code) (l:List Item):List Item→Nat→List Int→Option ((List Int))
 | [],k1,v16 =>
  some v16
 | y2::ys3,k1,v16 =>
  (qEd c l (k1:Int)).bind fun x18 =>
  (qAv (qAf 8 (v16.length+([x18]).length))).bind fun u20 =>
  qEU c l ys3 (k1+1) (v16++[x18])
def qKO (c:Code) (l:List Item):Option (List Int) :=
 qEU c l l 0 []
theorem qP7 (c:Code) (l:List Item) (r:(List Int)) (hH:qKO c l=some r):qAC Tryz.prog 188 [.g (ze4 c),.s (List.map ze1 l)] (.w 1 (r.map ze0)):=by
 refine fns T Tryz.func188 ?_
 refine go ?_
 refine AO.x (bxs T 1) (go ?_)
 refine AW.loopS (fun s:Nat × (List Int)=>(⟨[(1,sv ze1 l),(2,.p 1 0),(5,.R 5),(8,(l.length:Int)),(9,(s.1:Int))],[(1,.box (ze4 c)),(5,ro 1 ze0 s.2)],21,[]⟩:St)) (fun s=>s.1 ≤ l.length∧qEU c l (l.drop s.1) s.1 s.2=some r) (fun s=>l.length - s.1) (0,[]) ⟨Nat.zero_le _,hH⟩ ?_ ?_
 refine Le.trans (Le.void 5 5 1 rfl rfl) ?_
 exact Le.ct 0 0
 rintro ⟨k1,v16⟩ ⟨hk,hH⟩
 try dsimp only at hH ⊢
 refine AW.boundM (t:=1) (l:=l) rfl (fun hb5=>?_)
 rcases hd4:l.drop k1 with _ | ⟨y2,ys3⟩
 rw [hd4,qEU] at hH
 have hlt6:=qAG hd4
 refine go ?_
 exact fin
 rw [hd4,qEU] at hH
 have hlt6:=qAF hd4
 refine go ?_
 obtain ⟨x18,hx19,u20,hx21,hH⟩:=qAI hH
 refine go ?_
 refine AO.w (cVs (qHc _ _ _ _ (hx19))) ?_
 refine AO.x (mks T 6 ze0 ([x18])) ?_
 refine AO.x (rvs T 7 (hfit:=by exact qAQ (hx21))) (go ?_)
 refine ⟨(k1+1,(v16++[x18])),⟨hlt6,(zds hd4 ▸ hH)⟩,qBr hlt6,?_⟩
 exact Le.ct 7 5

def qCX:List Int→Nat→Int→Option Int
 | [],k1,v8 =>
  some v8
 | y2::ys3,k1,v8 =>
  qCX ys3 (k1+1) (w64 (v8+y2))
def qCq (l:List Int):Option Int :=
 qCX l 0 0
theorem qFn (l:List Int) (r:Int) (hH:qCq l=some r):qAC Tryz.prog 187 [.s (List.map ze0 l)] (.v (.int .i64 r)):=by
 refine fns T Tryz.func187 ?_
 refine go ?_
 refine AW.loopS (fun s:Nat × Int=>(⟨[(3,s.2),(6,sv ze0 l),(7,(l.length:Int)),(8,(s.1:Int))],[],17,[]⟩:St)) (fun s=>s.1 ≤ l.length∧qCX (l.drop s.1) s.1 s.2=some r) (fun s=>l.length - s.1) (0,0) ⟨Nat.zero_le _,hH⟩ ?_ ?_
 exact Le.ct 0 0
 rintro ⟨k1,v8⟩ ⟨hk,hH⟩
 try dsimp only at hH ⊢
 refine AW.boundM (t:=6) (l:=l) rfl (fun hb5=>?_)
 rcases hd4:l.drop k1 with _ | ⟨y2,ys3⟩
 rw [hd4,qCX] at hH
 have hlt6:=qAG hd4
 refine go ?_
 exact fin
 rw [hd4,qCX] at hH
 have hlt6:=qAF hd4
 refine go ?_
 refine ⟨(k1+1,w64 (v8+y2)),⟨hlt6,(zds hd4 ▸ hH)⟩,qBr hlt6,?_⟩
 exact Le.ct 0 0

def qG6 (c:Code) (l:List Item):Option Int :=
 (qKO c l).bind fun x1 =>
 (qCq x1).bind fun x3 =>
 some x3
theorem qO9 (c:Code) (l:List Item) (r:Int) (hH:qG6 c l=some r):qAC Tryz.prog 132 [.g (ze4 c),.s (List.map ze1 l)] (.v (.int .i64 r)):=by
 refine fns T Tryz.func132 ?_
 refine go ?_
 refine AO.x (bxs T 1) (go ?_)
 obtain ⟨x1,hx2,x3,hx4,hH⟩:=qAI hH
 refine go ?_
 refine AO.x (qAS rfl 2 rfl rfl rfl (qP7 _ _ _ (hx2)) rfl rfl rfl) ?_
 refine AO.w (zLV rfl rfl rfl (es:=[sv ze0 x1]) ⟨(.rowR rfl (.map fun y=>.vs rfl)),trivial⟩ (qFn _ _ (hx4)) (qAj _) rfl) (go ?_)
 exact fin

def qDb (y2:Int) (v105:List Int):Nat→Int→Option Int
 | 0,_=>none
 | k153+1,v159 =>
  (opt (decide (v159 > 0)) default (qAU v105 (w64 (v159 - 1)))).bind fun x161 =>
  cond (decide (v159 > 0) && decide (x161 < y2))
   (qDb y2 v105 k153 (w64 (v159 - 1)))
   (some v159)
def qCi (fuel:Nat):List Int→Nat→List Int→Option ((List Int))
 | [],k1,v105 =>
  some v105
 | y2::ys3,k1,v105 =>
  ((qDb y2 v105 fuel (v105.length:Int)).bind fun v150 =>
  (qFX v105 v150).bind fun x163 =>
  (qAv (qAf 8 x163.length)).bind fun u165 =>
  (qAv (qAf 8 (x163.length+([y2]).length))).bind fun u167 =>
  (qC0 v105 v150).bind fun x169 =>
  (qAv (qAf 8 (((x163++[y2])).length+x169.length))).bind fun u171 =>
  some ((x163++[y2])++x169)).bind fun v138 =>
  qCi fuel ys3 (k1+1) v138
def qIO (fuel:Nat) (l:List Int):Option (List Int) :=
 qCi fuel l 0 []
theorem qNi (fuel:Nat) (l:List Int) (r:(List Int)) (hH:qIO fuel l=some r):qAC Tryz.prog 360 [.s (List.map ze0 l)] (.w 1 (r.map ze0)):=by
 refine fns T Tryz.func360 ?_
 iterate 16 refine gs ?_
 refine AW.loopS (fun s:Nat × (List Int)=>(⟨[(3,.R 12),(7,sv ze0 l),(8,(l.length:Int)),(9,(s.1:Int))],[(12,ro 1 ze0 s.2)],42,[]⟩:St)) (fun s=>s.1 ≤ l.length∧qCi fuel (l.drop s.1) s.1 s.2=some r) (fun s=>l.length - s.1) (0,[]) ⟨Nat.zero_le _,hH⟩ ?_ ?_
 refine Le.trans (Le.void 3 12 1 rfl rfl) ?_
 exact Le.ct 0 0
 rintro ⟨k1,v105⟩ ⟨hk,hH⟩
 try dsimp only at hH ⊢
 refine AW.boundM (t:=7) (l:=l) rfl (fun hb5=>?_)
 rcases hd4:l.drop k1 with _ | ⟨y2,ys3⟩
 rw [hd4,qCi] at hH
 have hlt6:=qAG hd4
 iterate 13 refine gs ?_
 exact fin
 rw [hd4,qCi] at hH
 have hlt6:=qAF hd4
 iterate 7 refine gs ?_
 obtain ⟨o139,hH,hK140⟩:=zB hH
 refine AW.seqJ (fun s:List Int=>(⟨[(3,.R 20),(7,sv ze0 l),(8,(l.length:Int)),(9,(k1:Int))],[(20,ro 1 ze0 s)],42,[]⟩:St)) (fun s=>s=o139) ?_ ?_
 iterate 13 refine gs ?_
 obtain ⟨o151,hH,hK152⟩:=zB hH
 refine AW.seqJ (fun s:Int=>(⟨[(3,.R 12),(5,y2),(6,s),(7,sv ze0 l),(8,(l.length:Int)),(9,(k1:Int))],[(12,ro 1 ze0 v105)],42,[]⟩:St)) (fun s=>s=o151) ?_ ?_
 refine AW.b (AW.loopS (fun s:Nat × Int=>(⟨[(3,.R 12),(5,y2),(6,s.2),(7,sv ze0 l),(8,(l.length:Int)),(9,(k1:Int))],[(12,ro 1 ze0 v105)],42,[]⟩:St)) (fun s=>qDb y2 v105 s.1 s.2=some o151) (fun s=>s.1) (fuel,(v105.length:Int)) hH ?_ ?_)
 exact Le.ct 0 0
 rintro ⟨k153,v159⟩ hH
 try dsimp only at hH ⊢
 rcases k153 with _ | k153
 cases (show none=some _ from hH)
 rw [qDb] at hH
 iterate 2 refine gs ?_
 obtain ⟨x161,hx162,hH⟩:=zB hH
 iterate 4 refine gs ?_
 refine AO.g0 T ?_
 refine AO.g0 T ?_
 refine AO.d1 19 (fun hg=>aws) ?_
 refine AO.d2 18 20 (fun hg=>zXr T rfl rfl rfl rfl rfl rfl (qEo hx162 hg)) ?_
 refine AO.d1 21 (fun hg=>zLr T rfl rfl rfl rfl (zgG (qEo hx162 hg)) rfl rfl rfl) ?_
 refine AO.g0 T ?_
 refine AO.g2 T 22 23 ?_
 iterate 2 refine gs ?_
 refine AW.cH hH (fun _ hH=>?_) (fun _ hH=>?_)
 iterate 7 refine gs ?_
 refine ⟨(k153,w64 (v159 - 1)),hH,Nat.lt_succ_self _,?_⟩
 exact Le.ct 0 0
 refine AW.exit ?_
 refine ⟨_,zS hH,?_⟩
 exact Le.ct 0 0
 rintro v150 hs
 subst hs
 replace hH:=hK152
 try dsimp only [qK0,qJT] at hH
 try dsimp only
 obtain ⟨x163,hx164,u165,hx166,u167,hx168,hH⟩:=qA9 hH
 obtain ⟨x169,hx170,u171,hx172,hH⟩:=qAI hH
 refine AW.le (Le.fM 12 (g:=ze0) rfl (fun y=>.vs rfl)) ?_
 refine AW.drawn 11 21 [] mix (by kernel_rfl) rfl ?_
 refine AD.v (FStep.mk0 T rfl rfl rfl rfl rfl) ?_
 iterate 2 refine gs ?_
 refine AD.vv (qD7 T rfl rfl rfl rfl rfl (hx164) (fun _=>rfl)) ?_
 refine AD.q (FStep.app_ws T rfl rfl rfl rfl rfl rfl rfl (by decide) (by decide) rfl rfl (fun _=>rfl) (qAQ (hx166)) rfl) (by simp [qAr]) (Nat.le_succ _) rfl ?_
 refine AD.pu T ?_
 refine AD.q (FStep.mk T (f:=ze0) (l:=[y2]) rfl rfl rfl rfl rfl rfl rfl rfl rfl (fun _=>rfl) rfl rfl rfl rfl) (by simp [qAr]) (Nat.le_succ _) rfl ?_
 refine AD.kk (FStep.app_rv T rfl rfl rfl rfl rfl rfl rfl (by decide) rfl rfl rfl rfl (fun _=>rfl) (qAQ (hx168)) rfl) ?_
 iterate 2 refine gs ?_
 refine AD.vv (qDI T rfl rfl rfl rfl rfl (hx170) (fun _=>rfl)) ?_
 refine AD.nil (AO.x (qPZ T rfl 24 rfl rfl rfl rfl rfl (by decide) (by decide) rfl rfl rfl (fun _=>rfl) (qAQ (hx172)) rfl rfl) ?_)
 iterate 2 refine gs ?_
 refine ⟨_,zS hH,?_⟩
 exact Le.ct 24 20
 rintro v138 hs
 subst hs
 replace hH:=hK140
 try dsimp only [qK0,qJT] at hH
 try dsimp only
 iterate 4 refine gs ?_
 refine ⟨(k1+1,v138),⟨hlt6,(zds hd4 ▸ hH)⟩,qBr hlt6,?_⟩
 exact Le.ct 20 12

def qGt (fuel:Nat) (l:List Int):Option (Int × Int) :=
 (qCq l).bind fun x1 =>
 cond (decide ((l.length:Int) < 5))
  (some (x1,(l.length:Int)))
  ((qIO fuel l).bind fun x3 =>
  (qAU x3 0).bind fun x5 =>
  (qAU x3 (w64 ((x3.length:Int) - 1))).bind fun x7 =>
  some (w64 ((w64 (x1 - x5)) - x7),w64 ((l.length:Int) - 2)))
theorem qLR (fuel:Nat) (l:List Int) (r:(Int × Int)) (hH:qGt fuel l=some r):qAC Tryz.prog 356 [.s (List.map ze0 l)] (.t [.v (.int .i64 r.1),.v (.int .i64 r.2)]):=by
 refine fns T Tryz.func356 ?_
 iterate 6 refine gs ?_
 obtain ⟨x1,hx2,hH⟩:=zB hH
 iterate 2 refine gs ?_
 refine AO.w (cVs (qFn _ _ (hx2))) ?_
 iterate 9 refine gs ?_
 refine AW.cH hH (fun _ hH=>?_) (fun _ hH=>?_)
 iterate 9 refine gs ?_
 exact fin
 iterate 2 refine gs ?_
 obtain ⟨x3,hx4,hH⟩:=zB hH
 iterate 2 refine gs ?_
 refine AO.x (qAS rfl 1 rfl rfl rfl (qNi fuel _ _ (hx4)) rfl rfl rfl) ?_
 iterate 3 refine gs ?_
 obtain ⟨x5,hx6,x7,hx8,hH⟩:=qAI hH
 refine AW.drawn 16 2 [] mix (by kernel_rfl) rfl ?_
 iterate 2 refine gs ?_
 refine AD.vv (ixr T (hx6)) ?_
 refine AD.vv (zLr T rfl rfl rfl rfl (zgG (hx6)) rfl rfl rfl) ?_
 refine AD.vv aws ?_
 iterate 2 refine gs ?_
 refine AD.vv (qUV T) ?_
 refine AD.vv aws ?_
 refine AD.vv (ixr T (hx8)) ?_
 refine AD.vv (zLr T rfl rfl rfl rfl (zgG (hx8)) rfl rfl rfl) ?_
 refine AD.vv aws ?_
 iterate 2 refine gs ?_
 refine AD.vv aws ?_
 iterate 4 refine gs ?_
 refine AW.le (Le.ct 0 0 (σ':=(⟨[(2,w64 ((w64 (x1 - x5)) - x7)),(3,w64 ((l.length:Int) - 2))],[],31,[]⟩:St))) ?_
 refine AW.t ?_
 exact fin

def qE9 (a:Int) (b:Int):Option Int :=
 cond (decide (a > b))
  (some a)
  (some b)
theorem qLP (a:Int) (b:Int) (r:Int) (hH:qE9 a b=some r):qAC Tryz.prog 192 [a,b] (.v (.int .i64 r)):=by
 refine fns T Tryz.func192 ?_
 refine go ?_
 refine AW.cH hH (fun _ hH=>?_) (fun _ hH=>?_)
 refine go ?_
 exact fin
 refine go ?_
 exact fin

def qDq (c:Code) (it:Item):List ByteArray→Nat→Int→Option Int
 | [],k1,v20 =>
  some v20
 | y2::ys3,k1,v20 =>
  (qAU it.marks (k1:Int)).bind fun x22 =>
  (qGL c y2 x22).bind fun x24 =>
  (qE9 v20 x24).bind fun x26 =>
  qDq c it ys3 (k1+1) x26
def qH4 (c:Code) (it:Item):Option Int :=
 qDq c it it.names 0 0
theorem qLb (c:Code) (it:Item) (r:Int) (hH:qH4 c it=some r):qAC Tryz.prog 259 [.g (ze4 c),.g (ze1 it)] (.v (.int .i64 r)):=by
 refine fns T Tryz.func259 ?_
 refine go ?_
 refine AO.x (bxs T 1) ?_
 refine AO.x (bxs T 2) (go ?_)
 refine AW.loopS (fun s:Nat × Int=>(⟨[(2,.p 1 0),(3,.p 2 0),(5,s.2),(9,sv ze2 it.names),(10,(it.names.length:Int)),(11,(s.1:Int))],[(1,.box (ze4 c)),(2,.box [sv ze2 it.names,sv ze0 it.marks,.v (.bool it.late)])],28,[]⟩:St)) (fun s=>s.1 ≤ it.names.length∧qDq c it (it.names.drop s.1) s.1 s.2=some r) (fun s=>it.names.length - s.1) (0,0) ⟨Nat.zero_le _,hH⟩ ?_ ?_
 exact Le.ct 0 0
 rintro ⟨k1,v20⟩ ⟨hk,hH⟩
 try dsimp only at hH ⊢
 refine AW.boundM (t:=9) (l:=it.names) rfl (fun hb5=>?_)
 rcases hd4:it.names.drop k1 with _ | ⟨y2,ys3⟩
 rw [hd4,qDq] at hH
 have hlt6:=qAG hd4
 refine go ?_
 exact fin
 rw [hd4,qDq] at hH
 have hlt6:=qAF hd4
 refine go ?_
 obtain ⟨x22,hx23,x24,hx25,x26,hx27,hH⟩:=qA9 hH
 refine AW.drawn 9 3 [] mix (by kernel_rfl) rfl ?_
 refine go ?_
 refine AD.vv (cVs (qKp _ _ _ _ (hx25))) ?_
 refine AD.nil (AO.w (cVs (qLP _ _ _ (hx27))) (go ?_))
 refine ⟨(k1+1,x26),⟨hlt6,(zds hd4 ▸ hH)⟩,qBr hlt6,?_⟩
 exact Le.ct 0 0

def qG9 (fuel:Nat) (c:Code) (l:List Item) (k:Int) (grades:List Int):Option Int :=
 (qEd c l k).bind fun x1 =>
 cond (x1 == 0)
  (some 0)
  ((qGt fuel grades).bind fun x3 =>
  (qAU l k).bind fun x5 =>
  (qH4 c x5).bind fun x7 =>
  (qDw (w64 (x3.1 * x7)) (w64 (10 * x3.2))).bind fun x9 =>
  some x9)
theorem qNU (fuel:Nat) (c:Code) (l:List Item) (k:Int) (grades:List Int) (r:Int) (hH:qG9 fuel c l k grades=some r):qAC Tryz.prog 355 [.g (ze4 c),.s (List.map ze1 l),k,.s (List.map ze0 grades)] (.v (.int .i64 r)):=by
 refine fns T Tryz.func355 ?_
 refine go ?_
 refine AO.x (bxs T 1) (go ?_)
 obtain ⟨x1,hx2,hH⟩:=zB hH
 refine go ?_
 refine AO.w (cVs (qHc _ _ _ _ (hx2))) (go ?_)
 refine AW.cH hH (fun _ hH=>?_) (fun _ hH=>?_)
 refine go ?_
 exact fin
 refine go ?_
 obtain ⟨x3,hx4,hH⟩:=zB hH
 refine go ?_
 refine AO.w (cVs (qLR fuel _ _ (hx4))) (go ?_)
 obtain ⟨x5,hx6,x7,hx8,x9,hx10,hH⟩:=qA9 hH
 refine AW.drawn 10 2 [] mix (by kernel_rfl) rfl ?_
 refine go ?_
 refine AD.vv (cVs (qLb _ _ _ (hx8))) ?_
 refine AD.vv aws ?_
 refine AD.pu T ?_
 refine AD.vv aws ?_
 refine AD.nil (AO.w (cVs (qGp _ _ _ (hx10))) ?_)
 iterate 2 refine gs ?_
 refine AW.le (Le.ct 0 0 (σ':=(⟨[(8,x9)],[],32,[]⟩:St))) ?_
 refine AW.t ?_
 exact fin

def qLj (fuel:Nat) (c:Code) (l:List Item) (k:Int) (grades:List Int):Option Int :=
 (qEd c l k).bind fun x1 =>
 (qG9 fuel c l k grades).bind fun x3 =>
 some (w64 (x1+x3))
theorem qQW (fuel:Nat) (c:Code) (l:List Item) (k:Int) (grades:List Int) (r:Int) (hH:qLj fuel c l k grades=some r):qAC Tryz.prog 339 [.g (ze4 c),.s (List.map ze1 l),k,.s (List.map ze0 grades)] (.v (.int .i64 r)):=by
 refine fns T Tryz.func339 ?_
 refine go ?_
 refine AO.x (bxs T 1) (go ?_)
 obtain ⟨x1,hx2,x3,hx4,hH⟩:=qAI hH
 refine AW.drawn 8 2 [] mix (by kernel_rfl) rfl ?_
 refine go ?_
 refine AD.vv (cVs (qHc _ _ _ _ (hx2))) ?_
 refine go ?_
 refine AO.w (cVs (qNU fuel _ _ _ _ _ (hx4))) (go ?_)
 exact fin

def qI5 (fuel:Nat) (c:Code) (l:List Item) (m:Marks) (k:Int):Option Int :=
 (qAU m.grades k).bind fun x1 =>
 (qLj fuel c l k x1).bind fun x3 =>
 some x3
theorem qOV (fuel:Nat) (c:Code) (l:List Item) (m:Marks) (k:Int) (r:Int) (hH:qI5 fuel c l m k=some r):qAC Tryz.prog 305 [.g (ze4 c),.s (List.map ze1 l),.g (qIf m),k] (.v (.int .i64 r)):=by
 refine fns T Tryz.func305 ?_
 refine go ?_
 refine AO.x (bxs T 1) ?_
 refine AO.x (bxs T 2) (go ?_)
 obtain ⟨x1,hx2,x3,hx4,hH⟩:=qAI hH
 refine AW.drawn 8 3 [] mix (by kernel_rfl) rfl ?_
 refine go ?_
 refine AO.w (cVs (qQW fuel _ _ _ _ _ (hx4))) (go ?_)
 exact fin

def qCo (c:Code) (l:List Item) (m:Marks) (fuel:Nat):List Item→Nat→List Int→Option ((List Int))
 | [],k1,v16 =>
  some v16
 | y2::ys3,k1,v16 =>
  (qI5 fuel c l m (k1:Int)).bind fun x18 =>
  (qAv (qAf 8 (v16.length+([x18]).length))).bind fun u20 =>
  qCo c l m fuel ys3 (k1+1) (v16++[x18])
def qIa (fuel:Nat) (c:Code) (l:List Item) (m:Marks):Option (List Int) :=
 qCo c l m fuel l 0 []
theorem qNN (fuel:Nat) (c:Code) (l:List Item) (m:Marks) (r:(List Int)) (hH:qIa fuel c l m=some r):qAC Tryz.prog 254 [.g (ze4 c),.s (List.map ze1 l),.g (qIf m)] (.w 1 (r.map ze0)):=by
 refine fns T Tryz.func254 ?_
 refine go ?_
 refine AO.x (bxs T 1) ?_
 refine AO.x (bxs T 2) (go ?_)
 refine AW.loopS (fun s:Nat × (List Int)=>(⟨[(1,sv ze1 l),(3,.p 1 0),(5,.p 2 0),(7,.R 6),(10,(l.length:Int)),(11,(s.1:Int))],[(1,.box (ze4 c)),(2,.box [sv ze3 m.grades,sv ze3 m.components]),(6,ro 1 ze0 s.2)],24,[]⟩:St)) (fun s=>s.1 ≤ l.length∧qCo c l m fuel (l.drop s.1) s.1 s.2=some r) (fun s=>l.length - s.1) (0,[]) ⟨Nat.zero_le _,hH⟩ ?_ ?_
 refine Le.trans (Le.void 7 6 1 rfl rfl) ?_
 exact Le.ct 0 0
 rintro ⟨k1,v16⟩ ⟨hk,hH⟩
 try dsimp only at hH ⊢
 refine AW.boundM (t:=1) (l:=l) rfl (fun hb5=>?_)
 rcases hd4:l.drop k1 with _ | ⟨y2,ys3⟩
 rw [hd4,qCo] at hH
 have hlt6:=qAG hd4
 refine go ?_
 exact fin
 rw [hd4,qCo] at hH
 have hlt6:=qAF hd4
 refine go ?_
 obtain ⟨x18,hx19,u20,hx21,hH⟩:=qAI hH
 refine go ?_
 refine AO.w (cVs (qOV fuel _ _ _ _ _ (hx19))) ?_
 refine AO.x (mks T 7 ze0 ([x18])) ?_
 refine AO.x (rvs T 8 (hfit:=by exact qAQ (hx21))) (go ?_)
 refine ⟨(k1+1,(v16++[x18])),⟨hlt6,(zds hd4 ▸ hH)⟩,qBr hlt6,?_⟩
 exact Le.ct 8 6

def qGv (fuel:Nat) (c:Code) (p:Performance):Option Int :=
 (qIa fuel c p.items p.marks).bind fun x1 =>
 (qCq x1).bind fun x3 =>
 some x3
theorem qLd (fuel:Nat) (c:Code) (p:Performance) (r:Int) (hH:qGv fuel c p=some r):qAC Tryz.prog 189 [.g (ze4 c),.g (qHI p)] (.v (.int .i64 r)):=by
 refine fns T Tryz.func189 ?_
 refine go ?_
 refine AO.x (bxs T 1) ?_
 refine AO.x (bxs T 2) (go ?_)
 obtain ⟨x1,hx2,x3,hx4,hH⟩:=qAI hH
 refine go ?_
 refine AO.x (qAS rfl 3 rfl rfl rfl (qNN fuel _ _ _ _ (hx2)) rfl rfl rfl) ?_
 refine AO.w (zLV rfl rfl rfl (es:=[sv ze0 x1]) ⟨(.rowR rfl (.map fun y=>.vs rfl)),trivial⟩ (qFn _ _ (hx4)) (qAj _) rfl) (go ?_)
 exact fin

def qHX (fuel:Nat) (m:Marks) (k:Int):Option Int :=
 (qAU m.components k).bind fun x1 =>
 (qGt fuel x1).bind fun x3 =>
 (qDw x3.1 x3.2).bind fun x5 =>
 some x5
theorem qN9 (fuel:Nat) (m:Marks) (k:Int) (r:Int) (hH:qHX fuel m k=some r):qAC Tryz.prog 340 [.g (qIf m),k] (.v (.int .i64 r)):=by
 refine fns T Tryz.func340 ?_
 refine go ?_
 refine AO.x (bxs T 1) (go ?_)
 obtain ⟨x1,hx2,x3,hx4,hH⟩:=qAI hH
 refine go ?_
 refine AO.w (cVs (qLR fuel _ _ (hx4))) (go ?_)
 obtain ⟨x5,hx6,hH⟩:=zB hH
 refine go ?_
 refine AO.w (cVs (qGp _ _ _ (hx6))) (go ?_)
 exact fin

def qGP (a:Int) (b:Int):Option Int :=
 cond (decide (a < b))
  (some a)
  (some b)
theorem qKc (a:Int) (b:Int) (r:Int) (hH:qGP a b=some r):qAC Tryz.prog 308 [a,b] (.v (.int .i64 r)):=by
 refine fns T Tryz.func308 ?_
 refine go ?_
 refine AW.cH hH (fun _ hH=>?_) (fun _ hH=>?_)
 refine go ?_
 exact fin
 refine go ?_
 exact fin

def qCj (m:Marks) (most:Int) (fuel:Nat):List (List Int)→Nat→List Int→Option ((List Int))
 | [],k1,v20 =>
  some v20
 | y2::ys3,k1,v20 =>
  (qHX fuel m (k1:Int)).bind fun x22 =>
  (qGP x22 most).bind fun x24 =>
  (qAv (qAf 8 (v20.length+([x24]).length))).bind fun u26 =>
  qCj m most fuel ys3 (k1+1) (v20++[x24])
def qFk (fuel:Nat) (m:Marks) (most:Int):Option (List Int) :=
 qCj m most fuel m.components 0 []
theorem qHp (fuel:Nat) (m:Marks) (most:Int) (r:(List Int)) (hH:qFk fuel m most=some r):qAC Tryz.prog 307 [.g (qIf m),most] (.w 1 (r.map ze0)):=by
 refine fns T Tryz.func307 ?_
 refine go ?_
 refine AO.x (bxs T 1) (go ?_)
 refine AW.loopS (fun s:Nat × (List Int)=>(⟨[(1,most),(2,.p 1 0),(5,.R 5),(9,(m.components.length:Int)),(10,(s.1:Int))],[(1,.box [sv ze3 m.grades,sv ze3 m.components]),(5,ro 1 ze0 s.2)],23,[]⟩:St)) (fun s=>s.1 ≤ m.components.length∧qCj m most fuel (m.components.drop s.1) s.1 s.2=some r) (fun s=>m.components.length - s.1) (0,[]) ⟨Nat.zero_le _,hH⟩ ?_ ?_
 refine Le.trans (Le.void 5 5 1 rfl rfl) ?_
 exact Le.ct 0 0
 rintro ⟨k1,v20⟩ ⟨hk,hH⟩
 try dsimp only at hH ⊢
 refine AW.boundBox (id:=1) (j:=1) (l:=m.components) rfl rfl (fun hb5=>?_)
 rcases hd4:m.components.drop k1 with _ | ⟨y2,ys3⟩
 rw [hd4,qCj] at hH
 have hlt6:=qAG hd4
 refine go ?_
 exact fin
 rw [hd4,qCj] at hH
 have hlt6:=qAF hd4
 refine go ?_
 obtain ⟨x22,hx23,x24,hx25,u26,hx27,hH⟩:=qA9 hH
 refine go ?_
 refine AO.w (cVs (qN9 fuel _ _ _ (hx23))) ?_
 refine AO.pu T ?_
 refine AO.w (cVs (qKc _ _ _ (hx25))) ?_
 refine AO.x (mks T 6 ze0 ([x24])) ?_
 refine AO.x (rvs T 7 (hfit:=by exact qAQ (hx27))) (go ?_)
 refine ⟨(k1+1,(v20++[x24])),⟨hlt6,(zds hd4 ▸ hH)⟩,qBr hlt6,?_⟩
 exact Le.ct 7 5

def qIq (fuel:Nat) (m:Marks) (falls:Int):Option Int :=
 cond (falls == 0)
  ((qFk fuel m 1000).bind fun x1 =>
  (qCq x1).bind fun x3 =>
  some x3)
  (cond (falls == 1)
   ((qFk fuel m 950).bind fun x5 =>
   (qCq x5).bind fun x7 =>
   some x7)
   ((qFk fuel m 900).bind fun x9 =>
   (qCq x9).bind fun x11 =>
   some x11))
theorem qP4 (fuel:Nat) (m:Marks) (falls:Int) (r:Int) (hH:qIq fuel m falls=some r):qAC Tryz.prog 256 [.g (qIf m),falls] (.v (.int .i64 r)):=by
 refine fns T Tryz.func256 ?_
 refine go ?_
 refine AO.x (bxs T 1) (go ?_)
 refine AW.cH hH (fun _ hH=>?_) (fun hc hH=>?_)
 refine go ?_
 obtain ⟨x1,hx2,x3,hx4,hH⟩:=qAI hH
 refine go ?_
 refine AO.x (qAS rfl 2 rfl rfl rfl (qHp fuel _ _ _ (hx2)) rfl rfl rfl) ?_
 refine AO.w (zLV rfl rfl rfl (es:=[sv ze0 x1]) ⟨(.rowR rfl (.map fun y=>.vs rfl)),trivial⟩ (qFn _ _ (hx4)) (qAj _) rfl) (go ?_)
 exact fin
 refine go ?_
 refine AW.cH hH (fun _ hH=>?_) (fun _ hH=>?_)
 refine go ?_
 obtain ⟨x5,hx6,x7,hx8,hH⟩:=qAI hH
 refine go ?_
 refine AO.x (qAS rfl 3 rfl rfl rfl (qHp fuel _ _ _ (hx6)) rfl rfl rfl) ?_
 refine AO.w (zLV rfl rfl rfl (es:=[sv ze0 x5]) ⟨(.rowR rfl (.map fun y=>.vs rfl)),trivial⟩ (qFn _ _ (hx8)) (qAj _) rfl) (go ?_)
 exact fin
 refine go ?_
 obtain ⟨x9,hx10,x11,hx12,hH⟩:=qAI hH
 refine go ?_
 refine AO.x (qAS rfl 4 rfl rfl rfl (qHp fuel _ _ _ (hx10)) rfl rfl rfl) ?_
 refine AO.w (zLV rfl rfl rfl (es:=[sv ze0 x9]) ⟨(.rowR rfl (.map fun y=>.vs rfl)),trivial⟩ (qFn _ _ (hx12)) (qAj _) rfl) (go ?_)
 exact fin

def qFs (fuel:Nat) (m:Marks) (factor:Int) (falls:Int):Option Int :=
 (qIq fuel m falls).bind fun x1 =>
 (qDw (w64 (x1 * factor)) 100).bind fun x3 =>
 some x3
theorem qL0 (fuel:Nat) (m:Marks) (factor:Int) (falls:Int) (r:Int) (hH:qFs fuel m factor falls=some r):qAC Tryz.prog 190 [.g (qIf m),factor,falls] (.v (.int .i64 r)):=by
 refine fns T Tryz.func190 ?_
 refine go ?_
 refine AO.x (bxs T 1) (go ?_)
 obtain ⟨x1,hx2,x3,hx4,hH⟩:=qAI hH
 refine go ?_
 refine AO.w (cVs (qP4 fuel _ _ _ (hx2))) (go ?_)
 refine AO.w (cVs (qGp _ _ _ (hx4))) (go ?_)
 exact fin

def qD8 (fall:Int) (falls:Int):Nat→Int→Int→Option Int
 | 0,_,_=>none
 | k1+1,v12,v13 =>
  cond (decide (v13 < falls))
   ((qAv (2 != 0)).bind fun u15 =>
   (qGP 3 (w64 ((w64 (v13.tdiv 2))+1))).bind fun x17 =>
   qD8 fall falls k1 (w64 (v12+(w64 (fall * x17)))) (w64 (v13+1)))
   (some v12)
def qIw (fuel:Nat) (fall:Int) (falls:Int):Option Int :=
 qD8 fall falls fuel 0 0
theorem qOC (fuel:Nat) (fall:Int) (falls:Int) (r:Int) (hH:qIw fuel fall falls=some r):qAC Tryz.prog 257 [fall,falls] (.v (.int .i64 r)):=by
 refine fns T Tryz.func257 ?_
 refine go ?_
 refine AW.loopS (fun s:Nat × Int × Int=>(⟨[(0,fall),(1,falls),(5,s.2.1),(6,s.2.2)],[],21,[]⟩:St)) (fun s=>qD8 fall falls s.1 s.2.1 s.2.2=some r) (fun s=>s.1) (fuel,0,0) hH ?_ ?_
 exact Le.ct 0 0
 rintro ⟨k1,v12,v13⟩ hH
 try dsimp only at hH ⊢
 rcases k1 with _ | k1
 cases (show none=some _ from hH)
 rw [qD8] at hH
 refine go ?_
 refine AW.cH hH (fun _ hH=>?_) (fun _ hH=>?_)
 refine go ?_
 obtain ⟨u15,hx16,x17,hx18,hH⟩:=qAI hH
 refine go ?_
 refine AO.w (qHF rfl rfl rfl (neZ (qAQ (hx16)))) ?_
 refine AO.w aws ?_
 refine AO.w (cVs (qKc _ _ _ (hx18))) (go ?_)
 refine ⟨(k1,w64 (v12+(w64 (fall * x17))),w64 (v13+1)),hH,Nat.lt_succ_self _,?_⟩
 exact Le.ct 0 0
 refine go ?_
 exact fin

def qJg (seconds:Int):Option Int :=
 (qAv (5 != 0)).bind fun u1 =>
 some (w64 ((w64 ((w64 (seconds+4)).tdiv 5)) * 100))
theorem qO4 (seconds:Int) (r:Int) (hH:qJg seconds=some r):qAC Tryz.prog 258 [seconds] (.v (.int .i64 r)):=by
 refine fns T Tryz.func258 ?_
 refine go ?_
 obtain ⟨u1,hx2,hH⟩:=zB hH
 refine go ?_
 refine AO.w (qHF rfl rfl rfl (neZ (qAQ (hx2)))) (go ?_)
 exact fin

def qIl (fuel:Nat) (c:Code) (sA:Slips):Option Int :=
 (qIw fuel c.fall sA.falls).bind fun x1 =>
 (qJg sA.seconds).bind fun x3 =>
 some (w64 ((w64 (x1+x3))+sA.other))
theorem qPj (fuel:Nat) (c:Code) (sA:Slips) (r:Int) (hH:qIl fuel c sA=some r):qAC Tryz.prog 191 [.g (ze4 c),.g (qNx sA)] (.v (.int .i64 r)):=by
 refine fns T Tryz.func191 ?_
 refine go ?_
 refine AO.x (bxs T 1) ?_
 refine AO.x (bxs T 2) (go ?_)
 obtain ⟨x1,hx2,x3,hx4,hH⟩:=qAI hH
 refine AW.drawn 11 3 [] mix (by kernel_rfl) rfl ?_
 refine go ?_
 refine AD.vv (cVs (qOC fuel _ _ _ (hx2))) ?_
 refine go ?_
 refine AD.vv (cVs (qO4 _ _ (hx4))) ?_
 refine AD.vv aws ?_
 refine go ?_
 exact fin

def qFR (fuel:Nat) (c:Code) (p:Performance) (factor:Int):Option (List Int) :=
 (qGv fuel c p).bind fun x1 =>
 (qFs fuel p.marks factor p.slips.falls).bind fun x3 =>
 (qIl fuel c p.slips).bind fun x5 =>
 (qE9 0 (w64 ((w64 (x1+x3)) - x5))).bind fun x7 =>
 some [x1,x3,x5,x7]
theorem qKg (fuel:Nat) (c:Code) (p:Performance) (factor:Int) (r:(List Int)) (hH:qFR fuel c p factor=some r):qAC Tryz.prog 133 [.g (ze4 c),.g (qHI p),factor] (.w 1 (r.map ze0)):=by
 refine fns T Tryz.func133 ?_
 refine go ?_
 refine AO.x (bxs T 1) ?_
 refine AO.x (bxs T 2) (go ?_)
 obtain ⟨x1,hx2,x3,hx4,x5,hx6,hH⟩:=qA9 hH
 refine AW.drawn 13 3 [] mix (by kernel_rfl) rfl ?_
 refine go ?_
 refine AD.vv (cVs (qLd fuel _ _ _ (hx2))) ?_
 refine go ?_
 refine AD.vv (cVs (qL0 fuel _ _ _ _ (hx4))) ?_
 refine go ?_
 refine AO.w (cVs (qPj fuel _ _ _ (hx6))) (go ?_)
 obtain ⟨x7,hx8,hH⟩:=zB hH
 refine go ?_
 refine AO.w (cVs (qLP _ _ _ (hx8))) ?_
 refine AO.x (mks T 3 ze0 ([x1,x3,x5,x7])) ?_
 iterate 2 refine gs ?_
 refine AW.le (Le.ct 0 0 (σ':=(⟨[(6,.R 3)],[(3,ro 1 ze0 [x1,x3,x5,x7])],34,[]⟩:St))) ?_
 refine AW.t ?_
 exact fin

def qEm (sA:ByteArray):Nat→Int→Option Bool
 | 0,_=>none
 | k1+1,v7 =>
  cond (decide (v7 < (sA.size:Int)))
   ((qNC sA v7).bind fun b9 =>
   cond ((decide ((b9.toNat:Int) < 65) || decide ((b9.toNat:Int) > 90)) && (decide ((b9.toNat:Int) < 48) || decide ((b9.toNat:Int) > 57)))
    (some false)
    (qEm sA k1 (w64 (v7+1))))
   ((qAY (sA.size:Int) 1 5).bind fun x11 =>
   some x11)
def qJb (fuel:Nat) (sA:ByteArray):Option Bool :=
 qEm sA fuel 0
theorem qOn (fuel:Nat) (sA:ByteArray) (r:Bool) (hH:qJb fuel sA=some r):qAC Tryz.prog 315 [.v (.string sA)] (.v (.bool r)):=by
 refine fns T Tryz.func315 ?_
 refine go ?_
 refine AW.loopS (fun s:Nat × Int=>(⟨[(0,.v (.string sA)),(3,s.2)],[],35,[]⟩:St)) (fun s=>qEm sA s.1 s.2=some r) (fun s=>s.1) (fuel,0) hH ?_ ?_
 exact Le.ct 0 0
 rintro ⟨k1,v7⟩ hH
 try dsimp only at hH ⊢
 rcases k1 with _ | k1
 cases (show none=some _ from hH)
 rw [qEm] at hH
 refine go ?_
 refine AW.cH hH (fun hc hH=>?_) (fun _ hH=>?_)
 refine go ?_
 obtain ⟨b9,hx10,hH⟩:=zB hH
 refine go ?_
 refine AO.w (qBI T rfl rfl rfl rfl (hx10)) (go ?_)
 refine AO.g0 T ?_
 refine AO.g0 T ?_
 refine AO.d2 15 16 (fun hg=>qBI T rfl rfl rfl rfl (hx10)) ?_
 refine AO.g1 T 17 ?_
 refine go ?_
 refine AO.g0 T ?_
 refine AO.g0 T ?_
 refine AO.d2 21 22 (fun hg=>qBI T rfl rfl rfl rfl (hx10)) ?_
 refine AO.g1 T 23 ?_
 refine AO.g1 T 24 ?_
 refine AO.g0 T ?_
 refine AO.g0 T ?_
 refine AO.d2 26 27 (fun hg=>qBI T rfl rfl rfl rfl (hx10)) ?_
 refine AO.g1 T 28 ?_
 refine AO.d [25] rfl ⟨fun h=>h,trivial⟩ (fun hg=>zO rfl rfl rfl (by rw [hg];exact Bool.true_and _)) rfl ?_
 iterate 2 refine gs ?_
 refine AW.le (Le.ct 0 0 (σ':=(⟨[(0,.v (.string sA)),(3,v7),(31,.v (.bool ((decide ((b9.toNat:Int) < 65) || decide ((b9.toNat:Int) > 90)) && (decide ((b9.toNat:Int) < 48) || decide ((b9.toNat:Int) > 57)))))],[],35,[]⟩:St))) ?_
 refine AW.cH hH (fun _ hH=>?_) (fun hc hH=>?_)
 refine go ?_
 exact fin
 refine go ?_
 refine ⟨(k1,w64 (v7+1)),hH,Nat.lt_succ_self _,?_⟩
 exact Le.ct 0 0
 refine go ?_
 obtain ⟨x11,hx12,hH⟩:=zB hH
 refine go ?_
 refine AO.w (cVs (qAZ _ _ _ _ (hx12))) (go ?_)
 exact fin

def qHl (fuel:Nat) (x:Element):Option Bool :=
 (qJb fuel x.name).bind fun x1 =>
 (opt x1 default (qAY x.family 0 4)).bind fun x3 =>
 (opt (x1 && x3) default (qAY x.level 0 4)).bind fun x5 =>
 (opt ((x1 && x3) && x5) default (qAY x.base 1 2000)).bind fun x7 =>
 some (((x1 && x3) && x5) && x7)
theorem qM4 (fuel:Nat) (x:Element) (r:Bool) (hH:qHl fuel x=some r):qAC Tryz.prog 265 [.g (ze5 x)] (.v (.bool r)):=by
 refine fns T Tryz.func265 ?_
 refine go ?_
 refine AO.x (bxs T 1) (go ?_)
 obtain ⟨x1,hx2,x3,hx4,x5,hx6,hH⟩:=qA9 hH
 obtain ⟨x7,hx8,hH⟩:=zB hH
 refine go ?_
 refine AO.w (cVs (qOn fuel _ _ (hx2))) ?_
 refine AO.pu T ?_
 refine AO.g0 T ?_
 refine AO.g1 T 7 ?_
 refine AO.d1 8 (fun hg=>cVs (qAZ _ _ _ _ (qEo hx4 hg))) ?_
 refine go ?_
 refine AO.g0 T ?_
 refine AO.g1 T 12 ?_
 refine AO.d1 13 (fun hg=>cVs (qAZ _ _ _ _ (qEo hx6 hg))) ?_
 refine go ?_
 refine AO.g0 T ?_
 refine AO.g1 T 17 ?_
 refine AO.d1 18 (fun hg=>cVs (qAZ _ _ _ _ (qEo hx8 hg))) ?_
 refine go ?_
 exact fin

def qB6 (c:Code) (fuel:Nat):List Element→Nat→Option Bool
 | [],k1 =>
  (qAY (c.elements.length:Int) 1 24).bind fun x16 =>
  (opt (x16 && ((c.limits.length:Int) == 5)) default (qCs c.limits 0 9)).bind fun x18 =>
  (opt ((x16 && ((c.limits.length:Int) == 5)) && x18) default (qAY c.repeats 1 3)).bind fun x20 =>
  (opt (((x16 && ((c.limits.length:Int) == 5)) && x18) && x20) default (qAY c.bonus 0 20)).bind fun x22 =>
  (opt ((((x16 && ((c.limits.length:Int) == 5)) && x18) && x20) && x22) default (qAY c.keeps 50 100)).bind fun x24 =>
  (opt (((((x16 && ((c.limits.length:Int) == 5)) && x18) && x20) && x22) && x24) default (qAY c.fall 0 500)).bind fun x26 =>
  some ((((((x16 && ((c.limits.length:Int) == 5)) && x18) && x20) && x22) && x24) && x26)
 | y2::ys3,k1 =>
  (qHl fuel y2).bind fun x28 =>
  (opt ((!(!x28)) && decide ((k1:Int) > 0)) default (qAU c.elements (w64 ((k1:Int) - 1)))).bind fun x30 =>
  cond ((!x28) || (decide ((k1:Int) > 0) && (!qMP x30.name y2.name)))
   (some false)
   (qB6 c fuel ys3 (k1+1))
def qC8 (fuel:Nat) (c:Code):Option Bool :=
 qB6 c fuel c.elements 0
theorem qI9 (fuel:Nat) (c:Code) (r:Bool) (hH:qC8 fuel c=some r):qAC Tryz.prog 207 [.g (ze4 c)] (.v (.bool r)):=by
 refine fns T Tryz.func207 ?_
 refine go ?_
 refine AO.x (bxs T 1) (go ?_)
 refine AW.loopS (fun s:Nat=>(⟨[(1,.p 1 0),(6,sv ze5 c.elements),(7,(c.elements.length:Int)),(8,(s:Int))],[(1,.box (ze4 c))],68,[]⟩:St)) (fun s=>s ≤ c.elements.length∧qB6 c fuel (c.elements.drop s) s=some r) (fun s=>c.elements.length - s) 0 ⟨Nat.zero_le _,hH⟩ ?_ ?_
 exact Le.ct 0 0
 rintro k1 ⟨hk,hH⟩
 try dsimp only at hH ⊢
 refine AW.boundM (t:=6) (l:=c.elements) rfl (fun hb5=>?_)
 rcases hd4:c.elements.drop k1 with _ | ⟨y2,ys3⟩
 rw [hd4,qB6] at hH
 have hlt6:=qAG hd4
 refine go ?_
 obtain ⟨x16,hx17,x18,hx19,x20,hx21,hH⟩:=qA9 hH
 obtain ⟨x22,hx23,x24,hx25,x26,hx27,hH⟩:=qA9 hH
 refine go ?_
 refine AO.w (cVs (qAZ _ _ _ _ (hx17))) ?_
 refine AO.pu T ?_
 refine AO.g0 T ?_
 refine AO.g1 T 38 ?_
 refine AO.d1 39 (fun hg=>qLc T) ?_
 refine AO.g1 T 40 ?_
 refine go ?_
 refine AO.g0 T ?_
 refine AO.g1 T 44 ?_
 refine AO.d1 45 (fun hg=>cVs (qG0 _ _ _ _ (qEo hx19 hg))) ?_
 refine go ?_
 refine AO.g0 T ?_
 refine AO.g1 T 49 ?_
 refine AO.d1 50 (fun hg=>cVs (qAZ _ _ _ _ (qEo hx21 hg))) ?_
 refine go ?_
 refine AO.g0 T ?_
 refine AO.g1 T 54 ?_
 refine AO.d1 55 (fun hg=>cVs (qAZ _ _ _ _ (qEo hx23 hg))) ?_
 refine go ?_
 refine AO.g0 T ?_
 refine AO.g1 T 59 ?_
 refine AO.d1 60 (fun hg=>cVs (qAZ _ _ _ _ (qEo hx25 hg))) ?_
 refine go ?_
 refine AO.g0 T ?_
 refine AO.g1 T 64 ?_
 refine AO.d1 65 (fun hg=>cVs (qAZ _ _ _ _ (qEo hx27 hg))) ?_
 iterate 3 refine gs ?_
 refine AW.le (Le.ct 0 0 (σ':=(⟨[(2,.v (.bool ((((((x16 && ((c.limits.length:Int) == 5)) && x18) && x20) && x22) && x24) && x26)))],[],68,[]⟩:St))) ?_
 refine AW.t ?_
 exact fin
 rw [hd4,qB6] at hH
 have hlt6:=qAF hd4
 refine go ?_
 refine AO.x (als T 4) ?_
 refine AO.pu T ?_
 refine AO.se T [.v (.string y2.name),y2.family,y2.level,y2.base] ?_
 refine go ?_
 obtain ⟨x28,hx29,x30,hx31,hH⟩:=qAI hH
 refine AW.drawn 16 5 [] mix (by kernel_rfl) rfl ?_
 refine go ?_
 refine AD.vv (cVs (qM4 fuel _ _ (hx29))) ?_
 refine go ?_
 refine AD.pureG T [] rfl trivial rfl rfl ?_
 refine AD.pureG T [17] rfl ⟨fun h=>h,trivial⟩ rfl rfl ?_
 refine AD.pureG T [18] rfl ⟨fun h=>h,trivial⟩ rfl rfl ?_
 refine AD.pureG T [] rfl trivial rfl rfl ?_
 refine AD.pureG T [20] rfl ⟨fun h=>h,trivial⟩ rfl rfl ?_
 refine AD.pureG T [] rfl trivial rfl rfl ?_
 refine AD.guard [22] rfl ⟨fun h=>h,trivial⟩ (fun hg=>aws) rfl ?_
 refine AD.guard [21,23] rfl ⟨fun h=>h,fun h=>h,trivial⟩ (fun hg=>ixs T (qEo hx31 hg)) rfl ?_
 refine AD.pureG T [24] rfl ⟨fun h=>h,trivial⟩ rfl rfl ?_
 refine AD.pureG T [25] rfl ⟨fun h=>h,trivial⟩ rfl rfl ?_
 refine AD.pureG T [] rfl trivial rfl rfl ?_
 refine AD.pureG T [27] rfl ⟨fun h=>h,trivial⟩ rfl rfl ?_
 refine AD.nil (AO.g2 T 26 28 ?_)
 refine AO.d [19] rfl ⟨fun h=>h,trivial⟩ (fun hg=>zN rfl rfl rfl (by rw [hg];exact Bool.true_and _)) rfl ?_
 iterate 2 refine gs ?_
 refine AW.le (Le.ct 0 0 (σ':=(⟨[(1,.p 1 0),(6,sv ze5 c.elements),(7,(c.elements.length:Int)),(8,(k1:Int)),(31,.v (.bool ((!x28) || (decide ((k1:Int) > 0) && (!qMP x30.name y2.name)))))],[(1,.box (ze4 c))],68,[]⟩:St))) ?_
 refine AW.cH hH (fun _ hH=>?_) (fun _ hH=>?_)
 refine go ?_
 exact fin
 refine go ?_
 refine ⟨k1+1,⟨hlt6,(zds hd4 ▸ hH)⟩,qBr hlt6,?_⟩
 exact Le.ct 0 0

def qJl (b:Int):Option Bool :=
 some ((decide (b ≥ 65) && decide (b ≤ 90)) || (decide (b ≥ 48) && decide (b ≤ 57)))
theorem qO0 (b:Int) (r:Bool) (hH:qJl b=some r):qAC Tryz.prog 312 [.v (.int .u8 b)] (.v (.bool r)):=by
 refine fns T Tryz.func312 ?_
 refine go ?_
 refine AO.g0 T ?_
 refine AO.g1 T 6 ?_
 refine go ?_
 refine AO.g0 T ?_
 refine AO.g1 T 10 ?_
 refine AO.g1 T 11 ?_
 refine AO.g0 T ?_
 refine AO.g1 T 13 ?_
 refine AO.d [12] rfl ⟨fun h=>h,trivial⟩ (fun hg=>zN rfl rfl rfl (by rw [hg];exact Bool.true_and _)) rfl ?_
 refine go ?_
 exact fin

def qEh (sA:ByteArray):Nat→Int→Option Bool
 | 0,_=>none
 | k1+1,v11 =>
  cond (decide (v11 < (sA.size:Int)))
   ((qNC sA v11).bind fun b13 =>
   (qJl (b13.toNat:Int)).bind fun x15 =>
   cond (!x15)
    (some false)
    (qEh sA k1 (w64 (v11+1))))
   ((qAY (sA.size:Int) 1 5).bind fun x17 =>
   some x17)
def qFv (fuel:Nat) (sA:ByteArray):Option Bool :=
 qEh sA fuel 0
theorem qOs (fuel:Nat) (sA:ByteArray) (r:Bool) (hH:qFv fuel sA=some r):qAC Tryz.prog 261 [.v (.string sA)] (.v (.bool r)):=by
 refine fns T Tryz.func261 ?_
 refine go ?_
 refine AW.loopS (fun s:Nat × Int=>(⟨[(0,.v (.string sA)),(3,s.2)],[],18,[]⟩:St)) (fun s=>qEh sA s.1 s.2=some r) (fun s=>s.1) (fuel,0) hH ?_ ?_
 exact Le.ct 0 0
 rintro ⟨k1,v11⟩ hH
 try dsimp only at hH ⊢
 rcases k1 with _ | k1
 cases (show none=some _ from hH)
 rw [qEh] at hH
 refine go ?_
 refine AW.cH hH (fun hc hH=>?_) (fun _ hH=>?_)
 refine go ?_
 obtain ⟨b13,hx14,x15,hx16,hH⟩:=qAI hH
 refine go ?_
 refine AO.w (qBI T rfl rfl rfl rfl (hx14)) ?_
 refine AO.w (cVs (qO0 _ _ (hx16))) (go ?_)
 refine AW.cH hH (fun _ hH=>?_) (fun hc hH=>?_)
 refine go ?_
 exact fin
 refine go ?_
 refine ⟨(k1,w64 (v11+1)),hH,Nat.lt_succ_self _,?_⟩
 exact Le.ct 0 0
 refine go ?_
 obtain ⟨x17,hx18,hH⟩:=zB hH
 refine go ?_
 refine AO.w (cVs (qAZ _ _ _ _ (hx18))) (go ?_)
 exact fin

def qB7 (it:Item) (fuel:Nat):List ByteArray→Nat→Option Bool
 | [],k1 =>
  (qAY (it.names.length:Int) 1 3).bind fun x12 =>
  (opt (x12 && ((it.marks.length:Int) == (it.names.length:Int))) default (qCs it.marks 0 3)).bind fun x14 =>
  some ((x12 && ((it.marks.length:Int) == (it.names.length:Int))) && x14)
 | y2::ys3,k1 =>
  (qFv fuel y2).bind fun x16 =>
  cond (!x16)
   (some false)
   (qB7 it fuel ys3 (k1+1))
def qDj (fuel:Nat) (it:Item):Option Bool :=
 qB7 it fuel it.names 0
theorem qI1 (fuel:Nat) (it:Item) (r:Bool) (hH:qDj fuel it=some r):qAC Tryz.prog 202 [.g (ze1 it)] (.v (.bool r)):=by
 refine fns T Tryz.func202 ?_
 refine go ?_
 refine AO.x (bxs T 1) (go ?_)
 refine AW.loopS (fun s:Nat=>(⟨[(1,.p 1 0),(6,sv ze2 it.names),(7,(it.names.length:Int)),(8,(s:Int))],[(1,.box [sv ze2 it.names,sv ze0 it.marks,.v (.bool it.late)])],34,[]⟩:St)) (fun s=>s ≤ it.names.length∧qB7 it fuel (it.names.drop s) s=some r) (fun s=>it.names.length - s) 0 ⟨Nat.zero_le _,hH⟩ ?_ ?_
 exact Le.ct 0 0
 rintro k1 ⟨hk,hH⟩
 try dsimp only at hH ⊢
 refine AW.boundM (t:=6) (l:=it.names) rfl (fun hb5=>?_)
 rcases hd4:it.names.drop k1 with _ | ⟨y2,ys3⟩
 rw [hd4,qB7] at hH
 have hlt6:=qAG hd4
 refine go ?_
 obtain ⟨x12,hx13,x14,hx15,hH⟩:=qAI hH
 refine go ?_
 refine AO.w (cVs (qAZ _ _ _ _ (hx13))) ?_
 refine AO.pu T ?_
 refine AO.g0 T ?_
 refine AO.g1 T 21 ?_
 refine AO.d1 22 (fun hg=>qLc T) ?_
 refine AO.g0 T ?_
 refine AO.g1 T 24 ?_
 refine AO.d1 25 (fun hg=>qLc T) ?_
 refine AO.g2 T 23 26 ?_
 refine go ?_
 refine AO.g0 T ?_
 refine AO.g1 T 30 ?_
 refine AO.d1 31 (fun hg=>cVs (qG0 _ _ _ _ (qEo hx15 hg))) ?_
 refine go ?_
 exact fin
 rw [hd4,qB7] at hH
 have hlt6:=qAF hd4
 refine go ?_
 obtain ⟨x16,hx17,hH⟩:=zB hH
 refine go ?_
 refine AO.w (cVs (qOs fuel _ _ (hx17))) (go ?_)
 refine AW.cH hH (fun _ hH=>?_) (fun _ hH=>?_)
 refine go ?_
 exact fin
 refine go ?_
 refine ⟨k1+1,⟨hlt6,(zds hd4 ▸ hH)⟩,qBr hlt6,?_⟩
 exact Le.ct 0 0

def qCA (l:List Item) (fuel:Nat):List Item→Nat→Option Bool
 | [],k1 =>
  some (decide ((l.length:Int) ≤ 14))
 | y2::ys3,k1 =>
  (qDj fuel y2).bind fun x12 =>
  cond (!x12)
   (some false)
   (qCA l fuel ys3 (k1+1))
def qFJ (fuel:Nat) (l:List Item):Option Bool :=
 qCA l fuel l 0
theorem qO3 (fuel:Nat) (l:List Item) (r:Bool) (hH:qFJ fuel l=some r):qAC Tryz.prog 341 [.s (List.map ze1 l)] (.v (.bool r)):=by
 refine fns T Tryz.func341 ?_
 refine go ?_
 refine AW.loopS (fun s:Nat=>(⟨[(0,sv ze1 l),(5,sv ze1 l),(6,(l.length:Int)),(7,(s:Int))],[],18,[]⟩:St)) (fun s=>s ≤ l.length∧qCA l fuel (l.drop s) s=some r) (fun s=>l.length - s) 0 ⟨Nat.zero_le _,hH⟩ ?_ ?_
 exact Le.ct 0 0
 rintro k1 ⟨hk,hH⟩
 try dsimp only at hH ⊢
 refine AW.boundM (t:=0) (l:=l) rfl (fun hb5=>?_)
 rcases hd4:l.drop k1 with _ | ⟨y2,ys3⟩
 rw [hd4,qCA] at hH
 have hlt6:=qAG hd4
 refine go ?_
 exact fin
 rw [hd4,qCA] at hH
 have hlt6:=qAF hd4
 refine go ?_
 refine AO.x (als T 3) ?_
 refine AO.se T [sv ze2 y2.names,sv ze0 y2.marks,.v (.bool y2.late)] ?_
 refine go ?_
 obtain ⟨x12,hx13,hH⟩:=zB hH
 refine go ?_
 refine AO.w (cVs (qI1 fuel _ _ (hx13))) (go ?_)
 refine AW.cH hH (fun _ hH=>?_) (fun _ hH=>?_)
 refine go ?_
 exact fin
 refine go ?_
 refine ⟨k1+1,⟨hlt6,(zds hd4 ▸ hH)⟩,qBr hlt6,?_⟩
 exact Le.ct 0 0

def qDC (c:Code):List ByteArray→Nat→Option (Except Bool Unit)
 | [],k74 =>
  some (.ok ())
 | y75::ys76,k74 =>
  (qFt c y75).bind fun x85 =>
  cond (decide (x85 < 0))
   (some (.error false))
   (qDC c ys76 (k74+1))
def qDM (c:Code):List Item→Nat→Option Bool
 | [],k1 =>
  some true
 | y2::ys3,k1 =>
  (qDC c y2.names 0).bind fun o72=>qK0 o72 fun _ =>
  qDM c ys3 (k1+1)
def qFW (c:Code) (l:List Item):Option Bool :=
 qDM c l 0
theorem qOU (c:Code) (l:List Item) (r:Bool) (hH:qFW c l=some r):qAC Tryz.prog 342 [.g (ze4 c),.s (List.map ze1 l)] (.v (.bool r)):=by
 refine fns T Tryz.func342 ?_
 iterate 2 refine gs ?_
 refine AO.x (bxs T 1) ?_
 iterate 10 refine gs ?_
 refine AW.loopS (fun s:Nat=>(⟨[(2,.p 1 0),(9,sv ze1 l),(10,(l.length:Int)),(11,(s:Int))],[(1,.box (ze4 c))],28,[]⟩:St)) (fun s=>s ≤ l.length∧qDM c (l.drop s) s=some r) (fun s=>l.length - s) 0 ⟨Nat.zero_le _,hH⟩ ?_ ?_
 exact Le.ct 0 0
 rintro k1 ⟨hk,hH⟩
 try dsimp only at hH ⊢
 refine AW.boundM (t:=9) (l:=l) rfl (fun hb5=>?_)
 rcases hd4:l.drop k1 with _ | ⟨y2,ys3⟩
 rw [hd4,qDM] at hH
 have hlt6:=qAG hd4
 iterate 12 refine gs ?_
 exact fin
 rw [hd4,qDM] at hH
 have hlt6:=qAF hd4
 iterate 7 refine gs ?_
 obtain ⟨o72,hH,hK73⟩:=zB hH
 refine AW.seqJ (fun s:Unit=>(⟨[(2,.p 1 0),(9,sv ze1 l),(10,(l.length:Int)),(11,(k1:Int))],[(1,.box (ze4 c))],28,[]⟩:St)) (fun s=>.ok s=o72) ?_ ?_
 iterate 5 refine gs ?_
 refine AO.x (als T 7) ?_
 refine AO.se T [sv ze2 y2.names,sv ze0 y2.marks,.v (.bool y2.late)] ?_
 iterate 9 refine gs ?_
 refine AW.loopS (fun s:Nat=>(⟨[(2,.p 1 0),(9,sv ze1 l),(10,(l.length:Int)),(11,(k1:Int)),(16,sv ze2 y2.names),(17,(y2.names.length:Int)),(18,(s:Int))],[(1,.box (ze4 c))],28,[]⟩:St)) (fun s=>s ≤ y2.names.length∧qDC c (y2.names.drop s) s=some o72) (fun s=>y2.names.length - s) 0 ⟨Nat.zero_le _,hH⟩ ?_ ?_
 exact Le.ct 0 0
 rintro k74 ⟨hk,hH⟩
 try dsimp only at hH ⊢
 refine AW.boundM (t:=16) (l:=y2.names) rfl (fun hb78=>?_)
 rcases hd77:y2.names.drop k74 with _ | ⟨y75,ys76⟩
 rw [hd77,qDC] at hH
 have hlt79:=qAG hd77
 iterate 7 refine gs ?_
 refine ⟨_,zS hH,?_⟩
 exact Le.ct 0 0
 rw [hd77,qDC] at hH
 have hlt79:=qAF hd77
 iterate 16 refine gs ?_
 obtain ⟨x85,hx86,hH⟩:=zB hH
 iterate 3 refine gs ?_
 refine AO.w (cVs (qHZ _ _ _ (hx86))) ?_
 iterate 2 refine gs ?_
 refine AW.cH hH (fun _ hH=>?_) (fun _ hH=>?_)
 iterate 5 refine gs ?_
 obtain rfl:=zS hH
 replace hH:=hK73
 exact fin
 iterate 5 refine gs ?_
 refine ⟨k74+1,⟨hlt79,(zds hd77 ▸ hH)⟩,qBr hlt79,?_⟩
 exact Le.ct 0 0
 rintro _ hs
 subst hs
 replace hH:=hK73
 try dsimp only [qK0,qJT] at hH
 try dsimp only
 iterate 4 refine gs ?_
 refine ⟨k1+1,⟨hlt6,(zds hd4 ▸ hH)⟩,qBr hlt6,?_⟩
 exact Le.ct 0 0

def qJU (fuel:Nat) (c:Code) (l:List Item):Option Bool :=
 (qC8 fuel c).bind fun x1 =>
 (opt x1 default (qFJ fuel l)).bind fun x3 =>
 (opt (x1 && x3) default (qFW c l)).bind fun x5 =>
 some ((x1 && x3) && x5)
theorem qO1 (fuel:Nat) (c:Code) (l:List Item) (r:Bool) (hH:qJU fuel c l=some r):qAC Tryz.prog 313 [.g (ze4 c),.s (List.map ze1 l)] (.v (.bool r)):=by
 refine fns T Tryz.func313 ?_
 refine go ?_
 refine AO.x (bxs T 1) (go ?_)
 obtain ⟨x1,hx2,x3,hx4,x5,hx6,hH⟩:=qA9 hH
 refine go ?_
 refine AO.w (cVs (qI9 fuel _ _ (hx2))) ?_
 refine AO.pu T ?_
 refine AO.g0 T ?_
 refine AO.d1 8 (fun hg=>cVs (qO3 fuel _ _ (qEo hx4 hg))) ?_
 refine go ?_
 refine AO.g T (d:=.g (ze4 c)) [] rfl trivial rfl rfl ?_
 refine AO.g0 T ?_
 refine AO.d2 12 13 (fun hg=>cVs (qOU _ _ _ (qEo hx6 hg))) ?_
 refine go ?_
 exact fin

def qBz (l:List Int) (judges:Int) (component:Bool):List Int→Nat→Option Bool
 | [],k1 =>
  cond component
   ((opt ((l.length:Int) == judges) default (qCs l 0 1000)).bind fun x12 =>
   some (((l.length:Int) == judges) && x12))
   ((opt ((l.length:Int) == judges) default (qCs l (-5) 5)).bind fun x14 =>
   some (((l.length:Int) == judges) && x14))
 | y2::ys3,k1 =>
  (opt component default (qAv (25 != 0))).bind fun u16 =>
  cond (component && ((y2.tmod 25) != 0))
   (some false)
   (qBz l judges component ys3 (k1+1))
def qG3 (l:List Int) (judges:Int) (component:Bool):Option Bool :=
 qBz l judges component l 0
theorem qLW (l:List Int) (judges:Int) (component:Bool) (r:Bool) (hH:qG3 l judges component=some r):qAC Tryz.prog 267 [.s (List.map ze0 l),judges,.v (.bool component)] (.v (.bool r)):=by
 refine fns T Tryz.func267 ?_
 refine go ?_
 refine AW.loopS (fun s:Nat=>(⟨[(0,sv ze0 l),(1,judges),(2,.v (.bool component)),(9,sv ze0 l),(10,(l.length:Int)),(11,(s:Int))],[],39,[]⟩:St)) (fun s=>s ≤ l.length∧qBz l judges component (l.drop s) s=some r) (fun s=>l.length - s) 0 ⟨Nat.zero_le _,hH⟩ ?_ ?_
 exact Le.ct 0 0
 rintro k1 ⟨hk,hH⟩
 try dsimp only at hH ⊢
 refine AW.boundM (t:=0) (l:=l) rfl (fun hb5=>?_)
 rcases hd4:l.drop k1 with _ | ⟨y2,ys3⟩
 rw [hd4,qBz] at hH
 have hlt6:=qAG hd4
 refine go ?_
 refine AW.cH hH (fun _ hH=>?_) (fun hc hH=>?_)
 refine AW.q ?_
 obtain ⟨x12,hx13,hH⟩:=zB hH
 refine go ?_
 refine AO.g0 T ?_
 refine AO.d1 28 (fun hg=>cVs (qG0 _ _ _ _ (qEo hx13 hg))) ?_
 refine go ?_
 exact fin
 refine go ?_
 obtain ⟨x14,hx15,hH⟩:=zB hH
 refine go ?_
 refine AO.g0 T ?_
 refine AO.d1 36 (fun hg=>cVs (qG0 _ _ _ _ (qEo hx15 hg))) ?_
 refine go ?_
 exact fin
 rw [hd4,qBz] at hH
 have hlt6:=qAF hd4
 refine go ?_
 obtain ⟨u16,hx17,hH⟩:=zB hH
 refine go ?_
 refine AO.g0 T ?_
 refine AO.d1 17 (fun hg=>qQG rfl rfl rfl (neZ (qAQ (qEo hx17 hg)))) ?_
 refine AO.g1 T 18 ?_
 refine go ?_
 refine AW.cH hH (fun _ hH=>?_) (fun _ hH=>?_)
 refine go ?_
 exact fin
 refine go ?_
 refine ⟨k1+1,⟨hlt6,(zds hd4 ▸ hH)⟩,qBr hlt6,?_⟩
 exact Le.ct 0 0

def qEV (x1:List Int):List (List Int)→Nat→Option Bool
 | [],k14 =>
  (qAY (x1.length:Int) 3 9).bind fun x25 =>
  some x25
 | y15::ys16,k14 =>
  (qG3 y15 (x1.length:Int) true).bind fun x27 =>
  cond (!x27)
   (some false)
   (qEV x1 ys16 (k14+1))
def qET (m:Marks) (x1:List Int):List (List Int)→Nat→Option Bool
 | [],k3 =>
  qEV x1 m.components 0
 | y4::ys5,k3 =>
  (qG3 y4 (x1.length:Int) false).bind fun x29 =>
  cond (!x29)
   (some false)
   (qET m x1 ys5 (k3+1))
def qE7 (m:Marks):Option Bool :=
 cond (((m.components.length:Int) != 3) || decide ((m.grades.length:Int) > 14))
  (some false)
  ((qAU m.components 0).bind fun x1 =>
  qET m x1 m.grades 0)
theorem qJw (m:Marks) (r:Bool) (hH:qE7 m=some r):qAC Tryz.prog 212 [.g (qIf m)] (.v (.bool r)):=by
 refine fns T Tryz.func212 ?_
 refine go ?_
 refine AO.x (bxs T 1) (go ?_)
 refine AO.g0 T ?_
 refine AO.g1 T 13 ?_
 refine AO.d1 14 (fun hg=>qLc T) ?_
 refine AO.g1 T 15 ?_
 refine go ?_
 refine AW.cH hH (fun _ hH=>?_) (fun hc hH=>?_)
 refine go ?_
 exact fin
 refine go ?_
 obtain ⟨x1,hx2,hH⟩:=zB hH
 refine go ?_
 refine AW.loopS (fun s:Nat=>(⟨[(1,.p 1 0),(3,(x1.length:Int)),(24,sv ze3 m.grades),(25,(m.grades.length:Int)),(26,(s:Int))],[(1,.box [sv ze3 m.grades,sv ze3 m.components])],49,[]⟩:St)) (fun s=>s ≤ m.grades.length∧qET m x1 (m.grades.drop s) s=some r) (fun s=>m.grades.length - s) 0 ⟨Nat.zero_le _,hH⟩ ?_ ?_
 exact Le.ct 0 0
 rintro k3 ⟨hk,hH⟩
 try dsimp only at hH ⊢
 refine AW.boundM (t:=24) (l:=m.grades) rfl (fun hb7=>?_)
 rcases hd6:m.grades.drop k3 with _ | ⟨y4,ys5⟩
 rw [hd6,qET] at hH
 have hlt8:=qAG hd6
 refine go ?_
 refine AW.loopS (fun s:Nat=>(⟨[(3,(x1.length:Int)),(36,sv ze3 m.components),(37,(m.components.length:Int)),(38,(s:Int))],[],49,[]⟩:St)) (fun s=>s ≤ m.components.length∧qEV x1 (m.components.drop s) s=some r) (fun s=>m.components.length - s) 0 ⟨Nat.zero_le _,hH⟩ ?_ ?_
 exact Le.ct 0 0
 rintro k14 ⟨hk,hH⟩
 try dsimp only at hH ⊢
 refine AW.boundM (t:=36) (l:=m.components) rfl (fun hb18=>?_)
 rcases hd17:m.components.drop k14 with _ | ⟨y15,ys16⟩
 rw [hd17,qEV] at hH
 have hlt19:=qAG hd17
 refine go ?_
 obtain ⟨x25,hx26,hH⟩:=zB hH
 refine go ?_
 refine AO.w (cVs (qAZ _ _ _ _ (hx26))) (go ?_)
 exact fin
 rw [hd17,qEV] at hH
 have hlt19:=qAF hd17
 refine go ?_
 obtain ⟨x27,hx28,hH⟩:=zB hH
 refine go ?_
 refine AO.w (cVs (qLW _ _ _ _ (hx28))) (go ?_)
 refine AW.cH hH (fun _ hH=>?_) (fun hc hH=>?_)
 refine go ?_
 exact fin
 refine go ?_
 refine ⟨k14+1,⟨hlt19,(zds hd17 ▸ hH)⟩,qBr hlt19,?_⟩
 exact Le.ct 0 0
 rw [hd6,qET] at hH
 have hlt8:=qAF hd6
 refine go ?_
 obtain ⟨x29,hx30,hH⟩:=zB hH
 refine go ?_
 refine AO.w (cVs (qLW _ _ _ _ (hx30))) (go ?_)
 refine AW.cH hH (fun _ hH=>?_) (fun _ hH=>?_)
 refine go ?_
 exact fin
 refine go ?_
 refine ⟨k3+1,⟨hlt8,(zds hd6 ▸ hH)⟩,qBr hlt8,?_⟩
 exact Le.ct 0 0

def qJj (m:Marks) (items:Int):Option Bool :=
 (qE7 m).bind fun x1 =>
 some (x1 && ((m.grades.length:Int) == items))
theorem qPE (m:Marks) (items:Int) (r:Bool) (hH:qJj m items=some r):qAC Tryz.prog 314 [.g (qIf m),items] (.v (.bool r)):=by
 refine fns T Tryz.func314 ?_
 refine go ?_
 refine AO.x (bxs T 1) (go ?_)
 obtain ⟨x1,hx2,hH⟩:=zB hH
 refine go ?_
 refine AO.w (cVs (qJw _ _ (hx2))) ?_
 refine AO.pu T ?_
 refine AO.g0 T ?_
 refine AO.g1 T 8 ?_
 refine AO.d1 9 (fun hg=>qLc T) ?_
 refine AO.g0 T ?_
 refine AO.g2 T 10 11 ?_
 refine go ?_
 exact fin

def qJy (fuel:Nat) (c:Code) (l:List Item) (m:Marks):Option Bool :=
 (qJU fuel c l).bind fun x1 =>
 (opt x1 default (qJj m (l.length:Int))).bind fun x3 =>
 some (x1 && x3)
theorem qOr (fuel:Nat) (c:Code) (l:List Item) (m:Marks) (r:Bool) (hH:qJy fuel c l m=some r):qAC Tryz.prog 263 [.g (ze4 c),.s (List.map ze1 l),.g (qIf m)] (.v (.bool r)):=by
 refine fns T Tryz.func263 ?_
 refine go ?_
 refine AO.x (bxs T 1) ?_
 refine AO.x (bxs T 2) (go ?_)
 obtain ⟨x1,hx2,x3,hx4,hH⟩:=qAI hH
 refine go ?_
 refine AO.w (cVs (qO1 fuel _ _ _ (hx2))) ?_
 refine AO.pu T ?_
 refine AO.g T (d:=.g [sv ze3 m.grades,sv ze3 m.components]) [] rfl trivial rfl rfl ?_
 refine AO.g0 T ?_
 refine AO.d1 12 (fun hg=>qLc T) ?_
 refine AO.d2 11 13 (fun hg=>cVs (qPE _ _ _ (qEo hx4 hg))) ?_
 refine go ?_
 exact fin

def qHD (sA:Slips):Option Bool :=
 (qAY sA.falls 0 9).bind fun x1 =>
 (opt x1 default (qAY sA.seconds 0 60)).bind fun x3 =>
 (opt (x1 && x3) default (qAY sA.other 0 500)).bind fun x5 =>
 some ((x1 && x3) && x5)
theorem qOo (sA:Slips) (r:Bool) (hH:qHD sA=some r):qAC Tryz.prog 264 [.g (qNx sA)] (.v (.bool r)):=by
 refine fns T Tryz.func264 ?_
 refine go ?_
 refine AO.x (bxs T 1) (go ?_)
 obtain ⟨x1,hx2,x3,hx4,x5,hx6,hH⟩:=qA9 hH
 refine go ?_
 refine AO.w (cVs (qAZ _ _ _ _ (hx2))) ?_
 refine AO.pu T ?_
 refine AO.g0 T ?_
 refine AO.g1 T 7 ?_
 refine AO.d1 8 (fun hg=>cVs (qAZ _ _ _ _ (qEo hx4 hg))) ?_
 refine go ?_
 refine AO.g0 T ?_
 refine AO.g1 T 12 ?_
 refine AO.d1 13 (fun hg=>cVs (qAZ _ _ _ _ (qEo hx6 hg))) ?_
 refine go ?_
 exact fin

def qBW (fuel:Nat) (c:Code) (p:Performance):Option Bool :=
 (qJy fuel c p.items p.marks).bind fun x1 =>
 (opt x1 default (qHD p.slips)).bind fun x3 =>
 some (x1 && x3)
theorem qLY (fuel:Nat) (c:Code) (p:Performance) (r:Bool) (hH:qBW fuel c p=some r):qAC Tryz.prog 204 [.g (ze4 c),.g (qHI p)] (.v (.bool r)):=by
 refine fns T Tryz.func204 ?_
 refine go ?_
 refine AO.x (bxs T 1) ?_
 refine AO.x (bxs T 2) (go ?_)
 obtain ⟨x1,hx2,x3,hx4,hH⟩:=qAI hH
 refine go ?_
 refine AO.w (cVs (qOr fuel _ _ _ _ (hx2))) ?_
 refine AO.pu T ?_
 refine AO.g0 T ?_
 refine AO.g T (d:=.g [p.slips.falls,p.slips.seconds,p.slips.other]) [12] rfl ⟨fun h=>h,trivial⟩ rfl rfl ?_
 refine AO.d1 13 (fun hg=>cVs (qOo _ _ (qEo hx4 hg))) ?_
 refine go ?_
 exact fin

def qEw (factor:Int):Option Bool :=
 (qAY factor 10 400).bind fun x1 =>
 some x1
theorem qJ1 (factor:Int) (r:Bool) (hH:qEw factor=some r):qAC Tryz.prog 147 [factor] (.v (.bool r)):=by
 refine fns T Tryz.func147 ?_
 refine go ?_
 obtain ⟨x1,hx2,hH⟩:=zB hH
 refine go ?_
 refine AO.w (cVs (qAZ _ _ _ _ (hx2))) (go ?_)
 exact fin

def qGC (fuel:Nat) (c:Code) (p:Performance) (factor:Int):Option Bool :=
 (qBW fuel c p).bind fun x1 =>
 (opt x1 default (qEw factor)).bind fun x3 =>
 some (x1 && x3)
theorem qKe (fuel:Nat) (c:Code) (p:Performance) (factor:Int) (r:Bool) (hH:qGC fuel c p factor=some r):qAC Tryz.prog 193 [.g (ze4 c),.g (qHI p),factor] (.v (.bool r)):=by
 refine fns T Tryz.func193 ?_
 refine go ?_
 refine AO.x (bxs T 1) ?_
 refine AO.x (bxs T 2) (go ?_)
 obtain ⟨x1,hx2,x3,hx4,hH⟩:=qAI hH
 refine go ?_
 refine AO.w (cVs (qLY fuel _ _ _ (hx2))) ?_
 refine AO.pu T ?_
 refine AO.g0 T ?_
 refine AO.d1 11 (fun hg=>cVs (qJ1 _ _ (qEo hx4 hg))) ?_
 refine go ?_
 exact fin

def qD0 (m:Marks):Option Int :=
 (qAU m.components 0).bind fun x1 =>
 some (x1.length:Int)
theorem qHx (m:Marks) (r:Int) (hH:qD0 m=some r):qAC Tryz.prog 139 [.g (qIf m)] (.v (.int .i64 r)):=by
 refine fns T Tryz.func139 ?_
 refine go ?_
 refine AO.x (bxs T 1) (go ?_)
 obtain ⟨x1,hx2,hH⟩:=zB hH
 refine go ?_
 exact fin

def qF9 (p:Performance):Option Int :=
 (qD0 p.marks).bind fun x1 =>
 cond (decide (x1 ≥ 5))
  (some (w64 (x1 - 2)))
  (some x1)
theorem qKY (p:Performance) (r:Int) (hH:qF9 p=some r):qAC Tryz.prog 195 [.g (qHI p)] (.v (.int .i64 r)):=by
 refine fns T Tryz.func195 ?_
 refine go ?_
 refine AO.x (bxs T 1) (go ?_)
 obtain ⟨x1,hx2,hH⟩:=zB hH
 refine go ?_
 refine AO.w (cVs (qHx _ _ (hx2))) (go ?_)
 refine AW.cH hH (fun _ hH=>?_) (fun _ hH=>?_)
 refine go ?_
 exact fin
 refine go ?_
 exact fin

def qHK (a:Int) (b:Int):Option Int :=
 (qAv (b != 0)).bind fun u1 =>
 some (w64 ((w64 ((w64 (a+b)) - 1)).tdiv b))
theorem qKb (a:Int) (b:Int) (r:Int) (hH:qHK a b=some r):qAC Tryz.prog 194 [a,b] (.v (.int .i64 r)):=by
 refine fns T Tryz.func194 ?_
 refine go ?_
 obtain ⟨u1,hx2,hH⟩:=zB hH
 refine go ?_
 refine AO.w (qHF rfl rfl rfl (neZ (qAQ (hx2)))) (go ?_)
 exact fin

def qJd (c:Code) (p:Performance) (k:Int):Option Int :=
 (qEd c p.items k).bind fun x1 =>
 cond (x1 == 0)
  (some 0)
  ((qAU p.items k).bind fun x3 =>
  (qH4 c x3).bind fun x5 =>
  (qF9 p).bind fun x7 =>
  (qHK x5 x7).bind fun x9 =>
  some x9)
theorem qQY (c:Code) (p:Performance) (k:Int) (r:Int) (hH:qJd c p k=some r):qAC Tryz.prog 196 [.g (ze4 c),.g (qHI p),k] (.v (.int .i64 r)):=by
 refine fns T Tryz.func196 ?_
 refine go ?_
 refine AO.x (bxs T 1) ?_
 refine AO.x (bxs T 2) (go ?_)
 obtain ⟨x1,hx2,hH⟩:=zB hH
 refine go ?_
 refine AO.w (cVs (qHc _ _ _ _ (hx2))) (go ?_)
 refine AW.cH hH (fun _ hH=>?_) (fun _ hH=>?_)
 refine go ?_
 exact fin
 refine go ?_
 obtain ⟨x3,hx4,x5,hx6,x7,hx8,hH⟩:=qA9 hH
 obtain ⟨x9,hx10,hH⟩:=zB hH
 refine AW.drawn 8 3 [] mix (by kernel_rfl) rfl ?_
 refine go ?_
 refine AD.vv (cVs (qLb _ _ _ (hx6))) ?_
 refine go ?_
 refine AO.w (cVs (qKY _ _ (hx8))) ?_
 refine AO.w (cVs (qKb _ _ _ (hx10))) (go ?_)
 exact fin

def qBT (c:Code) (p:Performance):List Item→Nat→Int→Option ((Int × Bool))
 | [],k9,v20 =>
  some (v20,true)
 | y10::ys11,k9,v20 =>
  (qJd c p (k9:Int)).bind fun x22 =>
  qBT c p ys11 (k9+1) (w64 (v20+x22))
def qEA (fuel:Nat) (c:Code) (p:Performance) (factor:Int):Option (Int × Bool) :=
 (qGC fuel c p factor).bind fun x1 =>
 cond (!x1)
  (some (0,false))
  ((qF9 p).bind fun x3 =>
  (qHK 1000 x3).bind fun x5 =>
  (qHK (w64 ((w64 (factor * 3)) * x5)) 100).bind fun x7 =>
  qBT c p p.items 0 x7)
theorem qLF (fuel:Nat) (c:Code) (p:Performance) (factor:Int) (r:(Int × Bool)) (hH:qEA fuel c p factor=some r):qAC Tryz.prog 134 [.g (ze4 c),.g (qHI p),factor] (.t [.v (.int .i64 r.1),.v (.bool r.2)]):=by
 refine fns T Tryz.func134 ?_
 refine go ?_
 refine AO.x (bxs T 1) ?_
 refine AO.x (bxs T 2) (go ?_)
 obtain ⟨x1,hx2,hH⟩:=zB hH
 refine go ?_
 refine AO.w (cVs (qKe fuel _ _ _ _ (hx2))) (go ?_)
 refine AW.cH hH (fun _ hH=>?_) (fun _ hH=>?_)
 refine go ?_
 exact fin
 refine go ?_
 obtain ⟨x3,hx4,x5,hx6,x7,hx8,hH⟩:=qA9 hH
 refine go ?_
 refine AO.w (cVs (qKY _ _ (hx4))) ?_
 refine AO.w (cVs (qKb _ _ _ (hx6))) ?_
 refine AO.w aws ?_
 refine AO.w (cVs (qKb _ _ _ (hx8))) (go ?_)
 refine AW.loopS (fun s:Nat × Int=>(⟨[(3,.p 1 0),(4,.p 2 0),(8,s.2),(24,(p.items.length:Int)),(25,(s.1:Int))],[(1,.box (ze4 c)),(2,.box (qHI p))],36,[]⟩:St)) (fun s=>s.1 ≤ p.items.length∧qBT c p (p.items.drop s.1) s.1 s.2=some r) (fun s=>p.items.length - s.1) (0,x7) ⟨Nat.zero_le _,hH⟩ ?_ ?_
 exact Le.ct 0 0
 rintro ⟨k9,v20⟩ ⟨hk,hH⟩
 try dsimp only at hH ⊢
 refine AW.boundBox (id:=2) (j:=0) (l:=p.items) rfl rfl (fun hb13=>?_)
 rcases hd12:p.items.drop k9 with _ | ⟨y10,ys11⟩
 rw [hd12,qBT] at hH
 have hlt14:=qAG hd12
 refine go ?_
 exact fin
 rw [hd12,qBT] at hH
 have hlt14:=qAF hd12
 refine go ?_
 obtain ⟨x22,hx23,hH⟩:=zB hH
 refine go ?_
 refine AO.w (cVs (qQY _ _ _ _ (hx23))) (go ?_)
 refine ⟨(k9+1,w64 (v20+x22)),⟨hlt14,(zds hd12 ▸ hH)⟩,qBr hlt14,?_⟩
 exact Le.ct 0 0

def qC7 (fuel:Nat) (c:Code) (p:Performance) (factor:Int):Option Int :=
 (qFR fuel c p factor).bind fun x1 =>
 (qAU x1 3).bind fun x3 =>
 some x3
theorem qG2 (fuel:Nat) (c:Code) (p:Performance) (factor:Int) (r:Int) (hH:qC7 fuel c p factor=some r):qAC Tryz.prog 197 [.g (ze4 c),.g (qHI p),factor] (.v (.int .i64 r)):=by
 refine fns T Tryz.func197 ?_
 refine go ?_
 refine AO.x (bxs T 1) ?_
 refine AO.x (bxs T 2) (go ?_)
 obtain ⟨x1,hx2,x3,hx4,hH⟩:=qAI hH
 refine go ?_
 refine AO.x (qAS rfl 3 rfl rfl rfl (qKg fuel _ _ _ _ (hx2)) rfl rfl rfl) (go ?_)
 refine AO.w (zLr T rfl rfl rfl rfl (zgG (hx4)) rfl rfl rfl) (go ?_)
 exact fin

def qEO (k1:Nat) (k434:Nat) (y435:Int):Nat→List (List Int)→Int→Option (List (List Int))
 | 0,_,_=>none
 | k507+1,v514,v515 =>
  cond (decide (v515 ≤ 3))
   (cond (v515 != y435)
    ((qAv (qAf 24 (v514.length+([[(k1:Int),(k434:Int),v515]]).length))).bind fun u517 =>
    qEO k1 k434 y435 k507 (v514++[[(k1:Int),(k434:Int),v515]]) (w64 (v515+1)))
    (qEO k1 k434 y435 k507 v514 (w64 (v515+1))))
   (some v514)
def qEW (fuel:Nat) (k1:Nat):List Int→Nat→List (List Int)→Option (List (List Int))
 | [],k434,v491 =>
  some v491
 | y435::ys436,k434,v491 =>
  (qEO k1 k434 y435 fuel v491 0).bind fun v504 =>
  qEW fuel k1 ys436 (k434+1) v504
def qEb (fuel:Nat):List Item→Nat→List (List Int)→Option ((List (List Int)))
 | [],k1,v346 =>
  some v346
 | y2::ys3,k1,v346 =>
  (qEW fuel k1 y2.marks 0 v346).bind fun v431 =>
  qEb fuel ys3 (k1+1) v431
def qKL (fuel:Nat) (l:List Item):Option (List (List Int)) :=
 qEb fuel l 0 []
theorem qP8 (fuel:Nat) (l:List Item) (r:(List (List Int))) (hH:qKL fuel l=some r):qAC Tryz.prog 198 [.s (List.map ze1 l)] (.w 1 (r.map ze3)):=by
 refine fns T Tryz.func198 ?_
 iterate 16 refine gs ?_
 refine AW.loopS (fun s:Nat × (List (List Int))=>(⟨[(3,.R 7),(9,sv ze1 l),(10,(l.length:Int)),(11,(s.1:Int))],[(7,ro 1 ze3 s.2)],41,[]⟩:St)) (fun s=>s.1 ≤ l.length∧qEb fuel (l.drop s.1) s.1 s.2=some r) (fun s=>l.length - s.1) (0,[]) ⟨Nat.zero_le _,hH⟩ ?_ ?_
 refine Le.trans (Le.void 3 7 1 rfl rfl) ?_
 exact Le.ct 0 0
 rintro ⟨k1,v346⟩ ⟨hk,hH⟩
 try dsimp only at hH ⊢
 refine AW.boundM (t:=9) (l:=l) rfl (fun hb5=>?_)
 rcases hd4:l.drop k1 with _ | ⟨y2,ys3⟩
 rw [hd4,qEb] at hH
 have hlt6:=qAG hd4
 iterate 13 refine gs ?_
 exact fin
 rw [hd4,qEb] at hH
 have hlt6:=qAF hd4
 iterate 7 refine gs ?_
 obtain ⟨o432,hH,hK433⟩:=zB hH
 refine AW.seqJ (fun s:List (List Int)=>(⟨[(3,.R 7),(9,sv ze1 l),(10,(l.length:Int)),(11,(k1:Int))],[(7,ro 1 ze3 s)],41,[]⟩:St)) (fun s=>s=o432) ?_ ?_
 iterate 6 refine gs ?_
 refine AO.x (als T 276) ?_
 refine AO.pu T ?_
 refine AO.se T [sv ze2 y2.names,sv ze0 y2.marks,.v (.bool y2.late)] ?_
 iterate 9 refine gs ?_
 refine AW.loopS (fun s:Nat × (List (List Int))=>(⟨[(3,.R 7),(4,(k1:Int)),(9,sv ze1 l),(10,(l.length:Int)),(11,(k1:Int)),(17,sv ze0 y2.marks),(18,(y2.marks.length:Int)),(19,(s.1:Int))],[(7,ro 1 ze3 s.2)],41,[]⟩:St)) (fun s=>s.1 ≤ y2.marks.length∧qEW fuel k1 (y2.marks.drop s.1) s.1 s.2=some o432) (fun s=>y2.marks.length - s.1) (0,v346) ⟨Nat.zero_le _,hH⟩ ?_ ?_
 exact Le.ct 0 0
 rintro ⟨k434,v491⟩ ⟨hk,hH⟩
 try dsimp only at hH ⊢
 refine AW.boundM (t:=17) (l:=y2.marks) rfl (fun hb438=>?_)
 rcases hd437:y2.marks.drop k434 with _ | ⟨y435,ys436⟩
 rw [hd437,qEW] at hH
 have hlt439:=qAG hd437
 iterate 7 refine gs ?_
 refine ⟨_,zS hH,?_⟩
 exact Le.ct 0 0
 rw [hd437,qEW] at hH
 have hlt439:=qAF hd437
 iterate 7 refine gs ?_
 obtain ⟨o505,hH,hK506⟩:=zB hH
 refine AW.seqJ (fun s:List (List Int)=>(⟨[(3,.R 7),(4,(k1:Int)),(9,sv ze1 l),(10,(l.length:Int)),(11,(k1:Int)),(17,sv ze0 y2.marks),(18,(y2.marks.length:Int)),(19,(k434:Int))],[(7,ro 1 ze3 s)],41,[]⟩:St)) (fun s=>s=o505) ?_ ?_
 iterate 14 refine gs ?_
 refine AW.loopS (fun s:Nat × (List (List Int)) × Int=>(⟨[(3,.R 7),(4,(k1:Int)),(6,(k434:Int)),(7,y435),(8,s.2.2),(9,sv ze1 l),(10,(l.length:Int)),(11,(k1:Int)),(17,sv ze0 y2.marks),(18,(y2.marks.length:Int)),(19,(k434:Int))],[(7,ro 1 ze3 s.2.1)],41,[]⟩:St)) (fun s=>qEO k1 k434 y435 s.1 s.2.1 s.2.2=some o505) (fun s=>s.1) (fuel,v491,0) hH ?_ ?_
 exact Le.ct 0 0
 rintro ⟨k507,v514,v515⟩ hH
 try dsimp only at hH ⊢
 rcases k507 with _ | k507
 cases (show none=some _ from hH)
 rw [qEO] at hH
 iterate 6 refine gs ?_
 refine AW.cH hH (fun hc hH=>?_) (fun _ hH=>?_)
 iterate 9 refine gs ?_
 refine AW.cH hH (fun _ hH=>?_) (fun hc hH=>?_)
 obtain ⟨u517,hx518,hH⟩:=zB hH
 iterate 5 refine gs ?_
 refine AO.x (mks T 328 ze0 ([(k1:Int),(k434:Int),v515])) ?_
 refine AO.le (Le.fM 328 (g:=ze0) rfl (fun y=>.vs rfl)) ?_
 refine AO.x (mks T 329 ze3 ([[(k1:Int),(k434:Int),v515]])) ?_
 refine AO.x (rvs T 330 (hfit:=by exact qAQ (hx518))) ?_
 iterate 7 refine gs ?_
 refine ⟨(k507,(v514++[[(k1:Int),(k434:Int),v515]]),w64 (v515+1)),hH,Nat.lt_succ_self _,?_⟩
 exact Le.ct 330 7
 iterate 6 refine gs ?_
 refine ⟨(k507,v514,w64 (v515+1)),hH,Nat.lt_succ_self _,?_⟩
 exact Le.ct 0 0
 refine AW.exit ?_
 refine ⟨_,zS hH,?_⟩
 exact Le.ct 0 0
 rintro v504 hs
 subst hs
 replace hH:=hK506
 try dsimp only [qK0,qJT] at hH
 try dsimp only
 iterate 4 refine gs ?_
 refine ⟨(k434+1,v504),⟨hlt439,(zds hd437 ▸ hH)⟩,qBr hlt439,?_⟩
 exact Le.ct 0 0
 rintro v431 hs
 subst hs
 replace hH:=hK433
 try dsimp only [qK0,qJT] at hH
 try dsimp only
 iterate 4 refine gs ?_
 refine ⟨(k1+1,v431),⟨hlt6,(zds hd4 ▸ hH)⟩,qBr hlt6,?_⟩
 exact Le.ct 0 0

def qDg (v16:List (List Int)):List (List Int)→Nat→List (List Int)→Option Marks
 | [],k18,v33 =>
  some (Marks.mk v16 v33)
 | y19::ys20,k18,v33 =>
  (qE5 y19).bind fun x35 =>
  (qAv (qAf 24 (v33.length+([x35]).length))).bind fun u37 =>
  qDg v16 ys20 (k18+1) (v33++[x35])
def qEN (m:Marks):List (List Int)→Nat→List (List Int)→Option Marks
 | [],k1,v16 =>
  qDg v16 m.components 0 []
 | y2::ys3,k1,v16 =>
  (qE5 y2).bind fun x39 =>
  (qAv (qAf 24 (v16.length+([x39]).length))).bind fun u41 =>
  qEN m ys3 (k1+1) (v16++[x39])
def qE4 (m:Marks):Option Marks :=
 qEN m m.grades 0 []
theorem qH3 (m:Marks) (r:Marks) (hH:qE4 m=some r):qAC Tryz.prog 81 [.g (qIf m)] (.g (qIY r)):=by
 refine fns T Tryz.func81 ?_
 refine go ?_
 refine AO.x (bxs T 1) ?_
 refine AO.x (als T 2) (go ?_)
 refine AO.x (als T 3) ?_
 refine AO.se T [.w 0 [],.w 0 []] ?_
 refine go ?_
 refine AW.loopS (fun s:Nat × (List (List Int))=>(⟨[(1,.p 1 0),(2,.p 2 0),(3,.p 3 0),(10,sv ze3 m.grades),(11,(m.grades.length:Int)),(12,(s.1:Int))],[(1,.box [sv ze3 m.grades,sv ze3 m.components]),(2,.box [.w 0 [],.w 0 []]),(3,.box [.R 9,.w 0 []]),(9,ro 1 ze6 s.2)],40,[]⟩:St)) (fun s=>s.1 ≤ m.grades.length∧qEN m (m.grades.drop s.1) s.1 s.2=some r) (fun s=>m.grades.length - s.1) (0,[]) ⟨Nat.zero_le _,hH⟩ ?_ ?_
 refine Le.trans (Le.voidBox 3 0 9 1 rfl rfl rfl rfl) ?_
 exact Le.ct 0 0
 rintro ⟨k1,v16⟩ ⟨hk,hH⟩
 try dsimp only at hH ⊢
 refine AW.boundM (t:=10) (l:=m.grades) rfl (fun hb5=>?_)
 rcases hd4:m.grades.drop k1 with _ | ⟨y2,ys3⟩
 rw [hd4,qEN] at hH
 have hlt6:=qAG hd4
 refine go ?_
 refine AW.loopS (fun s:Nat × (List (List Int))=>(⟨[(2,.p 2 0),(3,.p 3 0),(25,sv ze3 m.components),(26,(m.components.length:Int)),(27,(s.1:Int))],[(2,.box [.w 0 [],.w 0 []]),(3,.box [.R 9,.R 15]),(9,ro 1 ze6 v16),(15,ro 1 ze6 s.2)],40,[]⟩:St)) (fun s=>s.1 ≤ m.components.length∧qDg v16 (m.components.drop s.1) s.1 s.2=some r) (fun s=>m.components.length - s.1) (0,[]) ⟨Nat.zero_le _,hH⟩ ?_ ?_
 refine Le.trans (Le.voidBox 3 1 15 1 rfl rfl rfl rfl) ?_
 exact Le.ct 0 0
 rintro ⟨k18,v33⟩ ⟨hk,hH⟩
 try dsimp only at hH ⊢
 refine AW.boundM (t:=25) (l:=m.components) rfl (fun hb22=>?_)
 rcases hd21:m.components.drop k18 with _ | ⟨y19,ys20⟩
 rw [hd21,qDg] at hH
 have hlt23:=qAG hd21
 refine go ?_
 refine AO.se T [.R 9,.R 15] ?_
 refine go ?_
 exact fin
 rw [hd21,qDg] at hH
 have hlt23:=qAF hd21
 refine go ?_
 obtain ⟨x35,hx36,u37,hx38,hH⟩:=qAI hH
 refine AW.drawn 5 16 [] mix (by kernel_rfl) rfl ?_
 refine go ?_
 refine AD.q (FStep.call rfl rfl rfl rfl rfl (qID _ _ (hx36)) rfl rfl) (qBD _ _) (qDc _ _) rfl ?_
 refine AD.kk (FStep.mk_o T rfl rfl rfl rfl rfl rfl rfl rfl (f:=ze6) (l:=[x35]) (ids:=[16]) rfl rfl (fun _=>rfl) (by exact zC (.rowR rfl) (zCn)) (by decide) rfl rfl rfl rfl) ?_
 refine AD.nil (AO.x (qE1 T rfl 18 rfl rfl rfl rfl rfl (by decide) rfl rfl rfl rfl rfl (qAQ (hx38)) rfl rfl) ?_)
 refine AO.pu T ?_
 refine AO.se T [.R 9,.R 18] ?_
 refine go ?_
 refine ⟨(k18+1,(v33++[x35])),⟨hlt23,(zds hd21 ▸ hH)⟩,qBr hlt23,?_⟩
 exact Le.ct 18 15
 rw [hd4,qEN] at hH
 have hlt6:=qAF hd4
 refine go ?_
 obtain ⟨x39,hx40,u41,hx42,hH⟩:=qAI hH
 refine AW.drawn 5 19 [] mix (by kernel_rfl) rfl ?_
 refine go ?_
 refine AD.q (FStep.call rfl rfl rfl rfl rfl (qID _ _ (hx40)) rfl rfl) (qBD _ _) (qDc _ _) rfl ?_
 refine AD.kk (FStep.mk_o T rfl rfl rfl rfl rfl rfl rfl rfl (f:=ze6) (l:=[x39]) (ids:=[19]) rfl rfl (fun _=>rfl) (by exact zC (.rowR rfl) (zCn)) (by decide) rfl rfl rfl rfl) ?_
 refine AD.nil (AO.x (qE1 T rfl 21 rfl rfl rfl rfl rfl (by decide) rfl rfl rfl rfl rfl (qAQ (hx42)) rfl rfl) ?_)
 refine AO.pu T ?_
 refine AO.se T [.R 21,.w 0 []] ?_
 refine go ?_
 refine ⟨(k1+1,(v16++[x39])),⟨hlt6,(zds hd4 ▸ hH)⟩,qBr hlt6,?_⟩
 exact Le.ct 21 9

def qAX (p:Performance) (l:List Item):Option Performance :=
 (qGh l).bind fun x1 =>
 (qE4 p.marks).bind fun x3 =>
 some (Performance.mk x1 x3 p.slips)
theorem qGE (p:Performance) (l:List Item) (r:Performance) (hH:qAX p l=some r):qAC Tryz.prog 55 [.g (qHI p),.s (List.map ze1 l)] (.g (qKs r)):=by
 refine fns T Tryz.func55 ?_
 refine go ?_
 refine AO.x (bxs T 1) ?_
 refine AO.x (als T 2) (go ?_)
 obtain ⟨x1,hx2,x3,hx4,hH⟩:=qAI hH
 refine AW.drawn 7 3 [] mix (by kernel_rfl) rfl ?_
 refine AD.pu T ?_
 refine AD.q (FStep.call rfl rfl rfl rfl rfl (qJc _ _ (hx2)) rfl rfl) (qBD _ _) (qDc _ _) rfl ?_
 refine go ?_
 refine AD.q (FStep.call rfl rfl rfl rfl rfl (qH3 _ _ (hx4)) rfl rfl) (qBD _ _) (qDc _ _) rfl ?_
 refine go ?_
 refine AO.se T [.R 3,.R 4,.R 5,p.slips.falls,p.slips.seconds,p.slips.other] ?_
 refine go ?_
 exact fin

def qIC (fuel:Nat) (c:Code) (p:Performance) (factor:Int) (item:Int) (name:Int) (mark:Int):Option Int :=
 (qAX p p.items).bind fun x1 =>
 (qAU x1.items item).bind fun x3 =>
 (qAU x3.marks name).bind fun x5 =>
 (qC7 fuel c (Performance.mk (x1.items.set item.toNat (Item.mk x3.names (x3.marks.set name.toNat mark) x3.late)) x1.marks x1.slips) factor).bind fun x7 =>
 some x7
theorem qOx (fuel:Nat) (c:Code) (p:Performance) (factor:Int) (item:Int) (name:Int) (mark:Int) (r:Int) (hH:qIC fuel c p factor item name mark=some r):qAC Tryz.prog 199 [.g (ze4 c),.g (qHI p),factor,item,name,mark] (.v (.int .i64 r)):=by
 refine fns T Tryz.func199 ?_
 iterate 2 refine gs ?_
 refine AO.x (bxs T 1) ?_
 refine AO.x (bxs T 2) ?_
 iterate 3 refine gs ?_
 obtain ⟨x1,hx2,hH⟩:=zB hH
 iterate 4 refine gs ?_
 refine AO.x (qAS rfl 3 rfl rfl rfl (qGE _ _ _ (hx2)) rfl rfl rfl) ?_
 refine AO.x (als T 6) ?_
 refine AO.se T [.R 3,.R 4,.R 5,x1.slips.falls,x1.slips.seconds,x1.slips.other] ?_
 iterate 2 refine gs ?_
 obtain ⟨x3,hx4,x5,hx6,hH⟩:=qAI hH
 refine AW.le (Le.openM 3 item.toNat 1 7 rfl (zgG (hx4)) rfl rfl) ?_
 iterate 4 refine gs ?_
 refine AO.w (qDx T rfl rfl rfl rfl rfl rfl (hx4)) ?_
 refine AO.pu T ?_
 refine AO.w (qCM T rfl rfl rfl rfl rfl) ?_
 iterate 3 refine gs ?_
 refine AO.x (zSr T rfl rfl rfl rfl rfl (zgG (hx6)) rfl rfl rfl rfl (u':=mark) rfl rfl) ?_
 refine AO.le (Le.closeM 3 item.toNat 1 7 rfl rfl (zgG (hx4)) rfl (u':=(Item.mk x3.names (x3.marks.set name.toNat mark) x3.late)) rfl) ?_
 iterate 2 refine gs ?_
 obtain ⟨x7,hx8,hH⟩:=zB hH
 iterate 4 refine gs ?_
 refine AO.w (zLV rfl rfl rfl (es:=[.g (ze4 c),.g (qHI (Performance.mk (x1.items.set item.toNat (Item.mk x3.names (x3.marks.set name.toNat mark) x3.late)) x1.marks x1.slips)),factor]) ⟨.free rfl,qHy (LendL.cons ((.rowR rfl (.map fun y=>qF4 y))) (LendL.cons ((.rowR rfl (.map fun y=>qAe y))) (LendL.cons ((.rowR rfl (.map fun y=>qAe y))) (LendL.cons (.free rfl) (LendL.cons (.free rfl) (LendL.cons (.free rfl) LendL.nil)))))),.free rfl,trivial⟩ (qG2 fuel _ _ _ _ (hx8)) (qAj _) rfl) ?_
 iterate 2 refine gs ?_
 refine AW.le (Le.ct 0 0 (σ':=(⟨[(12,x7)],[],31,[]⟩:St))) ?_
 refine AW.t ?_
 exact fin

def qBP (c:Code) (p:Performance) (factor:Int) (fuel:Nat):List (List Int)→Nat→List Int→Int→Bool→Option ((Int × Int × Int × Bool))
 | [],k7,v32,v33,v34 =>
  (qAU v32 0).bind fun x36 =>
  (qAU v32 1).bind fun x38 =>
  (qAU v32 2).bind fun x40 =>
  some (x36,x38,x40,v34)
 | y8::ys9,k7,v32,v33,v34 =>
  (qAU y8 0).bind fun x42 =>
  (qAU y8 1).bind fun x44 =>
  (qAU y8 2).bind fun x46 =>
  (qIC fuel c p factor x42 x44 x46).bind fun x48 =>
  cond (decide (x48 > v33))
   (qBP c p factor fuel ys9 (k7+1) y8 x48 true)
   (qBP c p factor fuel ys9 (k7+1) v32 v33 v34)
def qEe (fuel:Nat) (c:Code) (p:Performance) (factor:Int):Option (Int × Int × Int × Bool) :=
 (qGC fuel c p factor).bind fun x1 =>
 cond (!x1)
  (some (0,0,0,false))
  ((qC7 fuel c p factor).bind fun x3 =>
  (qKL fuel p.items).bind fun x5 =>
  qBP c p factor fuel x5 0 ([0,0,0]:List Int) x3 false)
theorem qLo (fuel:Nat) (c:Code) (p:Performance) (factor:Int) (r:(Int × Int × Int × Bool)) (hH:qEe fuel c p factor=some r):qAC Tryz.prog 135 [.g (ze4 c),.g (qHI p),factor] (.t [.v (.int .i64 r.1),.v (.int .i64 r.2.1),.v (.int .i64 r.2.2.1),.v (.bool r.2.2.2)]):=by
 refine fns T Tryz.func135 ?_
 refine go ?_
 refine AO.x (bxs T 1) ?_
 refine AO.x (bxs T 2) (go ?_)
 obtain ⟨x1,hx2,hH⟩:=zB hH
 refine go ?_
 refine AO.w (cVs (qKe fuel _ _ _ _ (hx2))) (go ?_)
 refine AW.cH hH (fun _ hH=>?_) (fun hc hH=>?_)
 refine go ?_
 exact fin
 refine go ?_
 refine AO.x (mks T 3 ze0 (([0,0,0]:List Int))) (go ?_)
 obtain ⟨x3,hx4,hH⟩:=zB hH
 refine go ?_
 refine AO.w (cVs (qG2 fuel _ _ _ _ (hx4))) (go ?_)
 obtain ⟨x5,hx6,hH⟩:=zB hH
 refine go ?_
 refine AO.x (qAS rfl 4 rfl rfl rfl (qP8 fuel _ _ (hx6)) rfl rfl rfl) ?_
 iterate 3 refine gs ?_
 refine AW.le (Le.ct 0 0 (σ':=(⟨[(2,factor),(3,.p 1 0),(4,.p 2 0),(10,.R 3),(11,x3),(12,.v (.bool false)),(28,.R 4),(29,(x5.length:Int)),(30,(0:Int))],[(1,.box (ze4 c)),(2,.box (qHI p)),(3,ro 1 ze0 ([0,0,0]:List Int)),(4,ro 1 ze3 x5)],63,[]⟩:St))) ?_
 refine AW.b (AW.loopS (fun s:Nat × (List Int) × Int × Bool=>(⟨[(2,factor),(3,.p 1 0),(4,.p 2 0),(10,sv ze0 s.2.1),(11,s.2.2.1),(12,.v (.bool s.2.2.2)),(28,.R 4),(29,(x5.length:Int)),(30,(s.1:Int))],[(1,.box (ze4 c)),(2,.box (qHI p)),(4,ro 1 ze3 x5)],63,[]⟩:St)) (fun s=>s.1 ≤ x5.length∧qBP c p factor fuel (x5.drop s.1) s.1 s.2.1 s.2.2.1 s.2.2.2=some r) (fun s=>x5.length - s.1) (0,([0,0,0]:List Int),x3,false) ⟨Nat.zero_le _,hH⟩ ?_ ?_)
 refine Le.trans (Le.fM 3 (g:=ze0) rfl (fun y=>.vs rfl)) ?_
 exact Le.ct 0 0
 rintro ⟨k7,v32,v33,v34⟩ ⟨hk,hH⟩
 try dsimp only at hH ⊢
 refine AW.boundR (id:=4) (l:=x5) rfl (fun hb11=>?_)
 rcases hd10:x5.drop k7 with _ | ⟨y8,ys9⟩
 rw [hd10,qBP] at hH
 have hlt12:=qAG hd10
 refine go ?_
 obtain ⟨x36,hx37,x38,hx39,x40,hx41,hH⟩:=qA9 hH
 refine AW.drawn 13 5 [] mix (by kernel_rfl) rfl ?_
 refine go ?_
 exact fin
 rw [hd10,qBP] at hH
 have hlt12:=qAF hd10
 refine go ?_
 refine AO.w (zLr T rfl rfl rfl rfl (zgG (zgD hd10)) rfl rfl rfl) (go ?_)
 obtain ⟨x42,hx43,x44,hx45,x46,hx47,hH⟩:=qA9 hH
 obtain ⟨x48,hx49,hH⟩:=zB hH
 refine AW.drawn 12 5 [] mix (by kernel_rfl) rfl ?_
 refine go ?_
 refine AO.w (cVs (qOx fuel _ _ _ _ _ _ _ (hx49))) (go ?_)
 refine AW.cH hH (fun _ hH=>?_) (fun _ hH=>?_)
 iterate 10 refine gs ?_
 refine AW.le (Le.ct 0 0 (σ':=(⟨[(2,factor),(3,.p 1 0),(4,.p 2 0),(10,sv ze0 y8),(11,x48),(28,.R 4),(29,(x5.length:Int)),(30,(k7:Int))],[(1,.box (ze4 c)),(2,.box (qHI p)),(4,ro 1 ze3 x5)],63,[]⟩:St))) ?_
 refine go ?_
 refine ⟨(k7+1,y8,x48,true),⟨hlt12,(zds hd10 ▸ hH)⟩,qBr hlt12,?_⟩
 exact Le.ct 0 0
 refine go ?_
 refine ⟨(k7+1,v32,v33,v34),⟨hlt12,(zds hd10 ▸ hH)⟩,qBr hlt12,?_⟩
 exact Le.ct 0 0

def qI0  : Option (List ByteArray) :=
 some [(⟨#[110,111,110,101]⟩:ByteArray),(⟨#[100,111,119,110]⟩:ByteArray),(⟨#[101,100,103,101]⟩:ByteArray),(⟨#[118,111,105,100]⟩:ByteArray)]
theorem qKR  (r:(List ByteArray)) (hH:qI0  = some r):qAC Tryz.prog 136 [] (.w 1 (r.map ze2)):=by
 refine fns T Tryz.func136 ?_
 refine go ?_
 refine AO.x (mks T 1 ze2 ([(⟨#[110,111,110,101]⟩:ByteArray),(⟨#[100,111,119,110]⟩:ByteArray),(⟨#[101,100,103,101]⟩:ByteArray),(⟨#[118,111,105,100]⟩:ByteArray)])) (go ?_)
 exact fin

def qCe:List Int→Nat→Int→Int→Option ((Int × Int))
 | [],k1,v9,v10 =>
  some (v9,v10)
 | y2::ys3,k1,v9,v10 =>
  cond (decide (y2 ≥ 0))
   (qCe ys3 (k1+1) (w64 (v9+y2)) (w64 (v10+1)))
   (qCe ys3 (k1+1) v9 v10)
def qHW (rA:Result):Option (Int × Int) :=
 qCe rA.scores 0 0 0
theorem qKf (rA:Result) (r:(Int × Int)) (hH:qHW rA=some r):qAC Tryz.prog 310 [.g (ze7 rA)] (.t [.v (.int .i64 r.1),.v (.int .i64 r.2)]):=by
 refine fns T Tryz.func310 ?_
 refine go ?_
 refine AO.x (bxs T 1) (go ?_)
 refine AW.loopS (fun s:Nat × Int × Int=>(⟨[(4,s.2.1),(5,s.2.2),(9,sv ze0 rA.scores),(10,(rA.scores.length:Int)),(11,(s.1:Int))],[],25,[]⟩:St)) (fun s=>s.1 ≤ rA.scores.length∧qCe (rA.scores.drop s.1) s.1 s.2.1 s.2.2=some r) (fun s=>rA.scores.length - s.1) (0,0,0) ⟨Nat.zero_le _,hH⟩ ?_ ?_
 exact Le.ct 0 0
 rintro ⟨k1,v9,v10⟩ ⟨hk,hH⟩
 try dsimp only at hH ⊢
 refine AW.boundM (t:=9) (l:=rA.scores) rfl (fun hb5=>?_)
 rcases hd4:rA.scores.drop k1 with _ | ⟨y2,ys3⟩
 rw [hd4,qCe] at hH
 have hlt6:=qAG hd4
 refine go ?_
 exact fin
 rw [hd4,qCe] at hH
 have hlt6:=qAF hd4
 refine go ?_
 refine AW.cH hH (fun _ hH=>?_) (fun _ hH=>?_)
 refine go ?_
 refine ⟨(k1+1,w64 (v9+y2),w64 (v10+1)),⟨hlt6,(zds hd4 ▸ hH)⟩,qBr hlt6,?_⟩
 exact Le.ct 0 0
 refine go ?_
 refine ⟨(k1+1,v9,v10),⟨hlt6,(zds hd4 ▸ hH)⟩,qBr hlt6,?_⟩
 exact Le.ct 0 0

def qEX (n:Int):Option Int :=
 cond (decide (n > 0))
  (some 1)
  (cond (decide (n < 0))
   (some (-1))
   (some 0))
theorem qIv (n:Int) (r:Int) (hH:qEX n=some r):qAC Tryz.prog 311 [n] (.v (.int .i64 r)):=by
 refine fns T Tryz.func311 ?_
 refine go ?_
 refine AW.cH hH (fun _ hH=>?_) (fun hc hH=>?_)
 refine go ?_
 exact fin
 refine go ?_
 refine AW.cH hH (fun _ hH=>?_) (fun _ hH=>?_)
 refine go ?_
 exact fin
 refine go ?_
 exact fin

def qDy (a:Result) (b:Result):Nat→Int→Option Int
 | 0,_=>none
 | k9+1,v23 =>
  cond (decide (v23 ≥ 0))
   ((qAU a.scores v23).bind fun x25 =>
   (qAU b.scores v23).bind fun x27 =>
   cond (x25 != x27)
    ((qEX (w64 (x25 - x27))).bind fun x29 =>
    some x29)
    (qDy a b k9 (w64 (v23 - 1))))
   (some 0)
def qGZ (fuel:Nat) (a:Result) (b:Result):Option Int :=
 (qHW a).bind fun x1 =>
 (qHW b).bind fun x3 =>
 cond (x1.2 != x3.2)
  ((qEX (w64 (x1.2 - x3.2))).bind fun x5 =>
  some x5)
  (cond (x1.1 != x3.1)
   ((qEX (w64 (x1.1 - x3.1))).bind fun x7 =>
   some x7)
   (qDy a b fuel (w64 ((a.scores.length:Int) - 1))))
theorem qMd (fuel:Nat) (a:Result) (b:Result) (r:Int) (hH:qGZ fuel a b=some r):qAC Tryz.prog 260 [.g (ze7 a),.g (ze7 b)] (.v (.int .i64 r)):=by
 refine fns T Tryz.func260 ?_
 refine go ?_
 refine AO.x (bxs T 1) ?_
 refine AO.x (bxs T 2) (go ?_)
 obtain ⟨x1,hx2,hH⟩:=zB hH
 refine go ?_
 refine AO.w (cVs (qKf _ _ (hx2))) (go ?_)
 obtain ⟨x3,hx4,hH⟩:=zB hH
 refine go ?_
 refine AO.w (cVs (qKf _ _ (hx4))) (go ?_)
 refine AW.cH hH (fun _ hH=>?_) (fun hc hH=>?_)
 refine AW.q ?_
 obtain ⟨x5,hx6,hH⟩:=zB hH
 refine go ?_
 refine AO.w (cVs (qIv _ _ (hx6))) ?_
 iterate 2 refine gs ?_
 refine AW.le (Le.ct 0 0 (σ':=(⟨[(4,x5)],[],65,[]⟩:St))) ?_
 refine AW.t ?_
 exact fin
 refine go ?_
 refine AW.cH hH (fun _ hH=>?_) (fun hc hH=>?_)
 refine AW.q ?_
 obtain ⟨x7,hx8,hH⟩:=zB hH
 refine go ?_
 refine AO.w (cVs (qIv _ _ (hx8))) ?_
 iterate 2 refine gs ?_
 refine AW.le (Le.ct 0 0 (σ':=(⟨[(4,x7)],[],65,[]⟩:St))) ?_
 refine AW.t ?_
 exact fin
 iterate 10 refine gs ?_
 refine AW.le (Le.ct 0 0 (σ':=(⟨[(2,.p 1 0),(3,.p 2 0),(9,w64 ((a.scores.length:Int) - 1))],[(1,.box [a.skater,sv ze0 a.scores]),(2,.box [b.skater,sv ze0 b.scores])],65,[]⟩:St))) ?_
 refine AW.b (AW.loopS (fun s:Nat × Int=>(⟨[(2,.p 1 0),(3,.p 2 0),(9,s.2)],[(1,.box [a.skater,sv ze0 a.scores]),(2,.box [b.skater,sv ze0 b.scores])],65,[]⟩:St)) (fun s=>qDy a b s.1 s.2=some r) (fun s=>s.1) (fuel,w64 ((a.scores.length:Int) - 1)) hH ?_ ?_)
 exact Le.ct 0 0
 rintro ⟨k9,v23⟩ hH
 try dsimp only at hH ⊢
 rcases k9 with _ | k9
 cases (show none=some _ from hH)
 rw [qDy] at hH
 refine go ?_
 refine AW.cH hH (fun hc hH=>?_) (fun _ hH=>?_)
 refine go ?_
 obtain ⟨x25,hx26,x27,hx28,hH⟩:=qAI hH
 refine AW.drawn 10 3 [] mix (by kernel_rfl) rfl ?_
 refine go ?_
 refine AW.cH hH (fun _ hH=>?_) (fun hc hH=>?_)
 refine AW.q ?_
 obtain ⟨x29,hx30,hH⟩:=zB hH
 refine AW.drawn 10 3 [] mix (by kernel_rfl) rfl ?_
 refine go ?_
 refine AO.w (cVs (qIv _ _ (hx30))) ?_
 iterate 2 refine gs ?_
 refine AW.le (Le.ct 0 0 (σ':=(⟨[(4,x29)],[],65,[]⟩:St))) ?_
 refine AW.t ?_
 exact fin
 refine go ?_
 refine ⟨(k9,w64 (v23 - 1)),hH,Nat.lt_succ_self _,?_⟩
 exact Le.ct 0 0
 refine go ?_
 exact fin

def qBR (l:List Result) (i:Int) (fuel:Nat):List Result→Nat→Int→Option Int
 | [],k1,v16 =>
  some v16
 | y2::ys3,k1,v16 =>
  (qAU l i).bind fun x18 =>
  (qGZ fuel y2 x18).bind fun x20 =>
  cond (decide (x20 > 0))
   (qBR l i fuel ys3 (k1+1) (w64 (v16+1)))
   (qBR l i fuel ys3 (k1+1) v16)
def qCS (fuel:Nat) (l:List Result) (i:Int):Option Int :=
 qBR l i fuel l 0 1
theorem qKo (fuel:Nat) (l:List Result) (i:Int) (r:Int) (hH:qCS fuel l i=some r):qAC Tryz.prog 200 [.s (List.map ze7 l),i] (.v (.int .i64 r)):=by
 refine fns T Tryz.func200 ?_
 refine go ?_
 refine AW.loopS (fun s:Nat × Int=>(⟨[(0,sv ze7 l),(1,i),(5,s.2),(8,sv ze7 l),(9,(l.length:Int)),(10,(s.1:Int))],[],25,[]⟩:St)) (fun s=>s.1 ≤ l.length∧qBR l i fuel (l.drop s.1) s.1 s.2=some r) (fun s=>l.length - s.1) (0,1) ⟨Nat.zero_le _,hH⟩ ?_ ?_
 exact Le.ct 0 0
 rintro ⟨k1,v16⟩ ⟨hk,hH⟩
 try dsimp only at hH ⊢
 refine AW.boundM (t:=0) (l:=l) rfl (fun hb5=>?_)
 rcases hd4:l.drop k1 with _ | ⟨y2,ys3⟩
 rw [hd4,qBR] at hH
 have hlt6:=qAG hd4
 refine go ?_
 exact fin
 rw [hd4,qBR] at hH
 have hlt6:=qAF hd4
 refine go ?_
 refine AO.x (als T 3) ?_
 refine AO.se T [y2.skater,sv ze0 y2.scores] ?_
 refine go ?_
 obtain ⟨x18,hx19,x20,hx21,hH⟩:=qAI hH
 refine AW.drawn 5 4 [] mix (by kernel_rfl) rfl ?_
 refine go ?_
 refine AO.w (cVs (qMd fuel _ _ _ (hx21))) (go ?_)
 refine AW.cH hH (fun _ hH=>?_) (fun _ hH=>?_)
 refine go ?_
 refine ⟨(k1+1,w64 (v16+1)),⟨hlt6,(zds hd4 ▸ hH)⟩,qBr hlt6,?_⟩
 exact Le.ct 0 0
 refine go ?_
 refine ⟨(k1+1,v16),⟨hlt6,(zds hd4 ▸ hH)⟩,qBr hlt6,?_⟩
 exact Le.ct 0 0

def qCm (l:List Result) (fuel:Nat):List Result→Nat→List Int→Option ((List Int))
 | [],k1,v16 =>
  some v16
 | y2::ys3,k1,v16 =>
  (qCS fuel l (k1:Int)).bind fun x18 =>
  (qAv (qAf 8 (v16.length+([x18]).length))).bind fun u20 =>
  qCm l fuel ys3 (k1+1) (v16++[x18])
def qGu (fuel:Nat) (l:List Result):Option (List Int) :=
 qCm l fuel l 0 []
theorem qNd (fuel:Nat) (l:List Result) (r:(List Int)) (hH:qGu fuel l=some r):qAC Tryz.prog 137 [.s (List.map ze7 l)] (.w 1 (r.map ze0)):=by
 refine fns T Tryz.func137 ?_
 refine go ?_
 refine AW.loopS (fun s:Nat × (List Int)=>(⟨[(0,sv ze7 l),(3,.R 4),(6,(l.length:Int)),(7,(s.1:Int))],[(4,ro 1 ze0 s.2)],18,[]⟩:St)) (fun s=>s.1 ≤ l.length∧qCm l fuel (l.drop s.1) s.1 s.2=some r) (fun s=>l.length - s.1) (0,[]) ⟨Nat.zero_le _,hH⟩ ?_ ?_
 refine Le.trans (Le.void 3 4 1 rfl rfl) ?_
 exact Le.ct 0 0
 rintro ⟨k1,v16⟩ ⟨hk,hH⟩
 try dsimp only at hH ⊢
 refine AW.boundM (t:=0) (l:=l) rfl (fun hb5=>?_)
 rcases hd4:l.drop k1 with _ | ⟨y2,ys3⟩
 rw [hd4,qCm] at hH
 have hlt6:=qAG hd4
 refine go ?_
 exact fin
 rw [hd4,qCm] at hH
 have hlt6:=qAF hd4
 refine go ?_
 obtain ⟨x18,hx19,u20,hx21,hH⟩:=qAI hH
 refine go ?_
 refine AO.w (cVs (qKo fuel _ _ _ (hx19))) ?_
 refine AO.x (mks T 5 ze0 ([x18])) ?_
 refine AO.x (rvs T 6 (hfit:=by exact qAQ (hx21))) (go ?_)
 refine ⟨(k1+1,(v16++[x18])),⟨hlt6,(zds hd4 ▸ hH)⟩,qBr hlt6,?_⟩
 exact Le.ct 6 4

def qAV (fuel:Nat) (x:CsState) (w:ByteArray):Option (CsState × ByteArray) :=
 cond (decide (w=(⟨#[108,97,116,101]⟩:ByteArray)))
  ((qHB fuel x.p.items).bind fun x2 =>
  some ((CsState.mk x.code (Performance.mk x2 x.p.marks x.p.slips) x.factor x.results x.no x.what x.lines),(⟨#[111,107]⟩:ByteArray)))
  (cond (decide (w=(⟨#[99,104,101,99,107]⟩:ByteArray)))
   ((qGn fuel x.code x.p.items).bind fun x5 =>
   (qBA fuel x5).bind fun x7 =>
   some (x,x7))
   (cond (decide (w=(⟨#[98,97,115,101]⟩:ByteArray)))
    ((qG6 x.code x.p.items).bind fun x10 =>
    (qDK fuel x10).bind fun x12 =>
    some (x,x12))
    (cond (decide (w=(⟨#[115,99,111,114,101]⟩:ByteArray)))
     ((qFR fuel x.code x.p x.factor).bind fun x15 =>
     (qBA fuel x15).bind fun x17 =>
     some (x,x17))
     (cond (decide (w=(⟨#[98,111,117,110,100]⟩:ByteArray)))
      ((qEA fuel x.code x.p x.factor).bind fun x20 =>
      (qDK fuel x20.1).bind fun x22 =>
      some (x,x22))
      (cond (decide (w=(⟨#[98,101,115,116]⟩:ByteArray)))
       ((qEe fuel x.code x.p x.factor).bind fun x25 =>
       cond (!x25.2.2.2)
        (some (x,(⟨#[110,111,110,101]⟩:ByteArray)))
        ((qBA fuel [x25.1,x25.2.1]).bind fun x27 =>
        (qAv (Nat.ble (x27.size+(⟨#[32]⟩:ByteArray).size) qEH)).bind fun u29 =>
        (qI0 ).bind fun x31 =>
        (qAU x31 x25.2.2.1).bind fun x33 =>
        (qAv (Nat.ble ((x27++(⟨#[32]⟩:ByteArray)).size+x33.size) qEH)).bind fun u35 =>
        some (x,((x27++(⟨#[32]⟩:ByteArray))++x33))))
       (cond (decide (w=(⟨#[112,108,97,99,101,115]⟩:ByteArray)))
        ((qGu fuel x.results).bind fun x38 =>
        (qBA fuel x38).bind fun x40 =>
        some (x,x40))
        (some (x,(⟨#[119,104,97,116]⟩:ByteArray)))))))))
theorem qKW (fuel:Nat) (x:CsState) (w:ByteArray) (r:(CsState × ByteArray)) (hH:qAV fuel x w=some r):qGB Tryz.prog 103 [.pn (ze9 x),.v (.string w)] [.pn (ze9 r.1),.u] (.v (.string r.2)):=by
 refine qIT T Tryz.func103 rfl (by decide) rfl rfl [.p 1 0,.v (.string w)] [(1,.box (ze8 x 2 3)),(3,ro 1 ze0 x.what),(2,ro 1 ze0 x.no)] 4 (by kernel_rfl) [1] rfl rfl ?_
 intro L
 show AW _ _ _ (⟨[(0,.p 1 0),(1,.v (.string w))],[(1,.box (ze8 x 2 3)),(3,ro 1 ze0 x.what),(2,ro 1 ze0 x.no)],126,[(1,L 1)]⟩:St)
 refine go ?_
 refine AW.cH hH (fun _ hH=>?_) (fun _ hH=>?_)
 refine AW.q ?_
 obtain ⟨x2,hx3,hH⟩:=zB hH
 refine go ?_
 refine AO.x (qAS rfl 4 rfl rfl rfl (qPF fuel _ _ (hx3)) rfl rfl rfl) (go ?_)
 refine AO.se T [sv ze5 x.code.elements,sv ze0 x.code.limits,x.code.repeats,x.code.bonus,x.code.keeps,x.code.fall,.R 4,sv ze3 x.p.marks.grades,sv ze3 x.p.marks.components,x.p.slips.falls,x.p.slips.seconds,x.p.slips.other,x.factor,sv ze7 x.results,.R 2,.R 3,x.lines] ?_
 iterate 5 refine gs ?_
 refine AW.le (Le.fM 4 (g:=ze1) rfl (fun y=>qF4 y)) ?_
 refine AW.t ?_
 exact qEM
 refine go ?_
 refine AW.cH hH (fun _ hH=>?_) (fun _ hH=>?_)
 refine AW.q ?_
 obtain ⟨x5,hx6,x7,hx8,hH⟩:=qAI hH
 refine AW.drawn 9 5 [] mix (by kernel_rfl) rfl ?_
 refine go ?_
 refine AO.x (qAS rfl 5 rfl rfl rfl (qNl fuel _ _ _ (hx6)) rfl rfl rfl) ?_
 refine AO.w (zLV rfl rfl rfl (es:=[sv ze0 x5]) ⟨(.rowR rfl (.map fun y=>.vs rfl)),trivial⟩ (qFe fuel _ _ (hx8)) (qAj _) rfl) (go ?_)
 exact qEM
 refine go ?_
 refine AW.cH hH (fun _ hH=>?_) (fun _ hH=>?_)
 refine AW.q ?_
 obtain ⟨x10,hx11,x12,hx13,hH⟩:=qAI hH
 refine AW.drawn 9 6 [] mix (by kernel_rfl) rfl ?_
 refine go ?_
 refine AO.w (cVs (qO9 _ _ _ (hx11))) ?_
 refine AO.w (cVs (qG8 fuel _ _ (hx13))) (go ?_)
 exact qEM
 refine go ?_
 refine AW.cH hH (fun _ hH=>?_) (fun _ hH=>?_)
 refine AW.q ?_
 obtain ⟨x15,hx16,x17,hx18,hH⟩:=qAI hH
 refine AW.drawn 12 6 [] mix (by kernel_rfl) rfl ?_
 refine go ?_
 refine AO.x (qAS rfl 6 rfl rfl rfl (qKg fuel _ _ _ _ (hx16)) rfl rfl rfl) ?_
 refine AO.w (zLV rfl rfl rfl (es:=[sv ze0 x15]) ⟨(.rowR rfl (.map fun y=>.vs rfl)),trivial⟩ (qFe fuel _ _ (hx18)) (qAj _) rfl) ?_
 iterate 2 refine gs ?_
 refine AW.le (Le.ct 0 0 (σ':=(⟨[(4,.v (.string x17))],[(1,.box (ze8 x 2 3)),(2,ro 1 ze0 x.no),(3,ro 1 ze0 x.what)],126,[(1,L 1)]⟩:St)) (hpin:=⟨⟨rfl,rfl⟩,trivial⟩)) ?_
 refine AW.t ?_
 exact qEM
 refine go ?_
 refine AW.cH hH (fun _ hH=>?_) (fun _ hH=>?_)
 refine AW.q ?_
 obtain ⟨x20,hx21,hH⟩:=zB hH
 refine AW.drawn 17 7 [] mix (by kernel_rfl) rfl ?_
 refine go ?_
 refine AD.vv (cVs (qLF fuel _ _ _ _ (hx21))) ?_
 iterate 7 refine gs ?_
 refine AW.le (Le.ct 0 0 (σ':=(⟨[(5,x20.1)],[(1,.box (ze8 x 2 3)),(2,ro 1 ze0 x.no),(3,ro 1 ze0 x.what)],126,[(1,L 1)]⟩:St)) (hpin:=⟨⟨rfl,rfl⟩,trivial⟩)) ?_
 refine AW.q ?_
 obtain ⟨x22,hx23,hH⟩:=zB hH
 refine go ?_
 refine AO.w (cVs (qG8 fuel _ _ (hx23))) (go ?_)
 exact qEM
 refine go ?_
 refine AW.cH hH (fun _ hH=>?_) (fun _ hH=>?_)
 refine AW.q ?_
 obtain ⟨x25,hx26,hH⟩:=zB hH
 refine AW.drawn 21 7 [] mix (by kernel_rfl) rfl ?_
 refine go ?_
 refine AD.vv (cVs (qLo fuel _ _ _ _ (hx26))) ?_
 iterate 11 refine gs ?_
 refine AW.le (Le.ct 0 0 (σ':=(⟨[(7,x25.1),(8,x25.2.1),(9,x25.2.2.1),(10,.v (.bool x25.2.2.2))],[(1,.box (ze8 x 2 3)),(2,ro 1 ze0 x.no),(3,ro 1 ze0 x.what)],126,[(1,L 1)]⟩:St)) (hpin:=⟨⟨rfl,rfl⟩,trivial⟩)) ?_
 refine go ?_
 refine AW.cH hH (fun _ hH=>?_) (fun _ hH=>?_)
 refine go ?_
 exact qEM
 refine go ?_
 obtain ⟨x27,hx28,u29,hx30,x31,hx32,hH⟩:=qA9 hH
 obtain ⟨x33,hx34,u35,hx36,hH⟩:=qAI hH
 refine go ?_
 refine AO.x (mks T 7 ze0 ([x25.1,x25.2.1])) ?_
 refine AO.w (zLV rfl rfl rfl (es:=[sv ze0 [x25.1,x25.2.1]]) ⟨(.rowR rfl (.map fun y=>.vs rfl)),trivial⟩ (qFe fuel _ _ (hx28)) (qAj _) rfl) ?_
 refine AO.w (qB1 rfl rfl rfl (Nat.le_of_ble_eq_true (qAQ (hx30)))) ?_
 refine AO.x (qAS rfl 8 rfl rfl rfl (qKR _ (hx32)) rfl rfl rfl) (go ?_)
 refine AO.w (zLr T rfl rfl rfl rfl (zgG (hx34)) rfl rfl rfl) ?_
 refine AO.w (qB1 rfl rfl rfl (Nat.le_of_ble_eq_true (qAQ (hx36)))) (go ?_)
 exact qEM
 refine go ?_
 refine AW.cH hH (fun _ hH=>?_) (fun _ hH=>?_)
 refine AW.q ?_
 obtain ⟨x38,hx39,x40,hx41,hH⟩:=qAI hH
 refine go ?_
 refine AO.x (qAS rfl 9 rfl rfl rfl (qNd fuel _ _ (hx39)) rfl rfl rfl) ?_
 refine AO.w (zLV rfl rfl rfl (es:=[sv ze0 x38]) ⟨(.rowR rfl (.map fun y=>.vs rfl)),trivial⟩ (qFe fuel _ _ (hx41)) (qAj _) rfl) (go ?_)
 exact qEM
 refine go ?_
 exact qEM

def qDs  : Option (List ByteArray) :=
 some [(⟨#[]⟩:ByteArray),(⟨#[60]⟩:ByteArray),(⟨#[101]⟩:ByteArray),(⟨#[42]⟩:ByteArray)]
theorem qG4  (r:(List ByteArray)) (hH:qDs  = some r):qAC Tryz.prog 201 [] (.w 1 (r.map ze2)):=by
 refine fns T Tryz.func201 ?_
 refine go ?_
 refine AO.x (mks T 1 ze2 ([(⟨#[]⟩:ByteArray),(⟨#[60]⟩:ByteArray),(⟨#[101]⟩:ByteArray),(⟨#[42]⟩:ByteArray)])) (go ?_)
 exact fin

def qC6 (it:Item):List ByteArray→Nat→ByteArray→Option ByteArray
 | [],k1,v52 =>
  cond it.late
   ((qAv (Nat.ble (v52.size+(⟨#[32,120]⟩:ByteArray).size) qEH)).bind fun u54 =>
   some (v52++(⟨#[32,120]⟩:ByteArray)))
   (some v52)
 | y2::ys3,k1,v52 =>
  cond (decide ((k1:Int) > 0))
   ((qAv (Nat.ble (v52.size+(⟨#[43]⟩:ByteArray).size) qEH)).bind fun u56 =>
   (qDs ).bind fun x58 =>
   (qAU it.marks (k1:Int)).bind fun x60 =>
   (qAU x58 x60).bind fun x62 =>
   (qAv (Nat.ble (y2.size+x62.size) qEH)).bind fun u64 =>
   (qAv (Nat.ble ((v52++(⟨#[43]⟩:ByteArray)).size+(y2++x62).size) qEH)).bind fun u66 =>
   qC6 it ys3 (k1+1) ((v52++(⟨#[43]⟩:ByteArray))++(y2++x62)))
   ((qDs ).bind fun x68 =>
   (qAU it.marks (k1:Int)).bind fun x70 =>
   (qAU x68 x70).bind fun x72 =>
   (qAv (Nat.ble (y2.size+x72.size) qEH)).bind fun u74 =>
   (qAv (Nat.ble (v52.size+(y2++x72).size) qEH)).bind fun u76 =>
   qC6 it ys3 (k1+1) (v52++(y2++x72)))
def qGw (it:Item):Option ByteArray :=
 qC6 it it.names 0 (⟨#[]⟩:ByteArray)
theorem qLa (it:Item) (r:ByteArray) (hH:qGw it=some r):qAC Tryz.prog 203 [.g (ze1 it)] (.v (.string r)):=by
 refine fns T Tryz.func203 ?_
 refine go ?_
 refine AO.x (bxs T 1) (go ?_)
 refine AW.loopS (fun s:Nat × ByteArray=>(⟨[(1,.p 1 0),(3,.v (.string s.2)),(7,sv ze2 it.names),(8,(it.names.length:Int)),(9,(s.1:Int))],[(1,.box [sv ze2 it.names,sv ze0 it.marks,.v (.bool it.late)])],36,[]⟩:St)) (fun s=>s.1 ≤ it.names.length∧qC6 it (it.names.drop s.1) s.1 s.2=some r) (fun s=>it.names.length - s.1) (0,(⟨#[]⟩:ByteArray)) ⟨Nat.zero_le _,hH⟩ ?_ ?_
 exact Le.ct 0 0
 rintro ⟨k1,v52⟩ ⟨hk,hH⟩
 try dsimp only at hH ⊢
 refine AW.boundM (t:=7) (l:=it.names) rfl (fun hb5=>?_)
 rcases hd4:it.names.drop k1 with _ | ⟨y2,ys3⟩
 rw [hd4,qC6] at hH
 have hlt6:=qAG hd4
 refine go ?_
 refine AW.cH hH (fun _ hH=>?_) (fun hc hH=>?_)
 obtain ⟨u54,hx55,hH⟩:=zB hH
 refine go ?_
 refine AO.w (qB1 rfl rfl rfl (Nat.le_of_ble_eq_true (qAQ (hx55)))) (go ?_)
 exact fin
 refine go ?_
 exact fin
 rw [hd4,qC6] at hH
 have hlt6:=qAF hd4
 refine go ?_
 refine AW.cH hH (fun _ hH=>?_) (fun _ hH=>?_)
 obtain ⟨u56,hx57,hH⟩:=zB hH
 refine go ?_
 refine AO.w (qB1 rfl rfl rfl (Nat.le_of_ble_eq_true (qAQ (hx57)))) (go ?_)
 obtain ⟨x58,hx59,x60,hx61,x62,hx63,hH⟩:=qA9 hH
 obtain ⟨u64,hx65,u66,hx67,hH⟩:=qAI hH
 refine AW.drawn 11 6 [] mix (by kernel_rfl) rfl ?_
 refine go ?_
 refine AD.q (FStep.call rfl rfl rfl rfl rfl (qG4 _ (hx59)) rfl rfl) (qBD _ _) (qDc _ _) rfl ?_
 refine go ?_
 refine AD.vald rfl rfl rfl (zXr T rfl rfl rfl rfl rfl rfl (hx63)) ?_
 refine AD.vald rfl rfl rfl (zLr T rfl rfl rfl rfl (zgG (hx63)) rfl rfl rfl) ?_
 refine AD.vv (qB1 rfl rfl rfl (Nat.le_of_ble_eq_true (qAQ (hx65)))) ?_
 refine AD.nil (AO.w (qB1 rfl rfl rfl (Nat.le_of_ble_eq_true (qAQ (hx67)))) ?_)
 iterate 2 refine gs ?_
 refine AW.le (Le.ct 0 0 (σ':=(⟨[(1,.p 1 0),(3,.v (.string ((v52++(⟨#[43]⟩:ByteArray))++(y2++x62)))),(7,sv ze2 it.names),(8,(it.names.length:Int)),(9,(k1:Int))],[(1,.box [sv ze2 it.names,sv ze0 it.marks,.v (.bool it.late)])],36,[]⟩:St))) ?_
 refine go ?_
 refine ⟨(k1+1,((v52++(⟨#[43]⟩:ByteArray))++(y2++x62))),⟨hlt6,(zds hd4 ▸ hH)⟩,qBr hlt6,?_⟩
 exact Le.ct 0 0
 refine AW.k ?_
 obtain ⟨x68,hx69,x70,hx71,x72,hx73,hH⟩:=qA9 hH
 obtain ⟨u74,hx75,u76,hx77,hH⟩:=qAI hH
 refine AW.drawn 11 7 [] mix (by kernel_rfl) rfl ?_
 refine go ?_
 refine AD.q (FStep.call rfl rfl rfl rfl rfl (qG4 _ (hx69)) rfl rfl) (qBD _ _) (qDc _ _) rfl ?_
 refine go ?_
 refine AD.vald rfl rfl rfl (zXr T rfl rfl rfl rfl rfl rfl (hx73)) ?_
 refine AD.vald rfl rfl rfl (zLr T rfl rfl rfl rfl (zgG (hx73)) rfl rfl rfl) ?_
 refine AD.vv (qB1 rfl rfl rfl (Nat.le_of_ble_eq_true (qAQ (hx75)))) ?_
 refine AD.nil (AO.w (qB1 rfl rfl rfl (Nat.le_of_ble_eq_true (qAQ (hx77)))) (go ?_))
 refine ⟨(k1+1,(v52++(y2++x72))),⟨hlt6,(zds hd4 ▸ hH)⟩,qBr hlt6,?_⟩
 exact Le.ct 0 0

def qB2 (y9:ByteArray) (v128:List ByteArray) (v129:List Int):List ByteArray→Nat→Int→Option ((List ByteArray) × (List Int))
 | [],k167,v178 =>
  cond (decide (v178 > 0))
   ((qAv (inB 0 (w64 ((y9.size:Int) - 1)) y9.size)).bind fun u180 =>
   (qAv (qAf 16 (v128.length+([(ByteArray.extract y9 0 (w64 ((y9.size:Int) - 1)).toNat)]).length))).bind fun u182 =>
   (qAv (qAf 8 (v129.length+([v178]).length))).bind fun u184 =>
   some ((v128++[(ByteArray.extract y9 0 (w64 ((y9.size:Int) - 1)).toNat)]),(v129++[v178])))
   ((qAv (qAf 16 (v128.length+([y9]).length))).bind fun u186 =>
   (qAv (qAf 8 (v129.length+([v178]).length))).bind fun u188 =>
   some ((v128++[y9]),(v129++[v178])))
 | y168::ys169,k167,v178 =>
  (opt (decide ((k167:Int) > 0) && decide ((y9.size:Int) > 0)) default (qAv (inB (w64 ((y9.size:Int) - 1)) y9.size y9.size))).bind fun u190 =>
  cond ((decide ((k167:Int) > 0) && decide ((y9.size:Int) > 0)) && decide ((ByteArray.extract y9 (w64 ((y9.size:Int) - 1)).toNat y9.size)=y168))
   (qB2 y9 v128 v129 ys169 (k167+1) (k167:Int))
   (qB2 y9 v128 v129 ys169 (k167+1) v178)
def qB9 (sA:ByteArray) (fuel:Nat):List ByteArray→Nat→List ByteArray→List Int→Option ((Item × Bool))
 | [],k8,v128,v129 =>
  (qDj fuel (Item.mk v128 v129 true)).bind fun x131 =>
  (opt (!(!x131)) default (qGw (Item.mk v128 v129 true))).bind fun x133 =>
  cond ((!x131) || (!decide (x133=sA)))
   (some ((Item.mk [] [] false),false))
   (some ((Item.mk v128 v129 true),true))
 | y9::ys10,k8,v128,v129 =>
  ((qDs ).bind fun x165 =>
  qB2 y9 v128 v129 x165 0 0).bind fun (v161,v162) =>
  qB9 sA fuel ys10 (k8+1) v161 v162
def qB3 (y195:ByteArray) (v314:List ByteArray) (v315:List Int):List ByteArray→Nat→Int→Option ((List ByteArray) × (List Int))
 | [],k353,v364 =>
  cond (decide (v364 > 0))
   ((qAv (inB 0 (w64 ((y195.size:Int) - 1)) y195.size)).bind fun u366 =>
   (qAv (qAf 16 (v314.length+([(ByteArray.extract y195 0 (w64 ((y195.size:Int) - 1)).toNat)]).length))).bind fun u368 =>
   (qAv (qAf 8 (v315.length+([v364]).length))).bind fun u370 =>
   some ((v314++[(ByteArray.extract y195 0 (w64 ((y195.size:Int) - 1)).toNat)]),(v315++[v364])))
   ((qAv (qAf 16 (v314.length+([y195]).length))).bind fun u372 =>
   (qAv (qAf 8 (v315.length+([v364]).length))).bind fun u374 =>
   some ((v314++[y195]),(v315++[v364])))
 | y354::ys355,k353,v364 =>
  (opt (decide ((k353:Int) > 0) && decide ((y195.size:Int) > 0)) default (qAv (inB (w64 ((y195.size:Int) - 1)) y195.size y195.size))).bind fun u376 =>
  cond ((decide ((k353:Int) > 0) && decide ((y195.size:Int) > 0)) && decide ((ByteArray.extract y195 (w64 ((y195.size:Int) - 1)).toNat y195.size)=y354))
   (qB3 y195 v314 v315 ys355 (k353+1) (k353:Int))
   (qB3 y195 v314 v315 ys355 (k353+1) v364)
def qB8 (sA:ByteArray) (fuel:Nat):List ByteArray→Nat→List ByteArray→List Int→Option ((Item × Bool))
 | [],k194,v314,v315 =>
  (qDj fuel (Item.mk v314 v315 false)).bind fun x317 =>
  (opt (!(!x317)) default (qGw (Item.mk v314 v315 false))).bind fun x319 =>
  cond ((!x317) || (!decide (x319=sA)))
   (some ((Item.mk [] [] false),false))
   (some ((Item.mk v314 v315 false),true))
 | y195::ys196,k194,v314,v315 =>
  ((qDs ).bind fun x351 =>
  qB3 y195 v314 v315 x351 0 0).bind fun (v347,v348) =>
  qB8 sA fuel ys196 (k194+1) v347 v348
def qGH (fuel:Nat) (sA:ByteArray):Option (Item × Bool) :=
 (opt (decide ((sA.size:Int) ≥ 2)) default (qAv (inB (w64 ((sA.size:Int) - 2)) sA.size sA.size))).bind fun u1 =>
 cond (decide ((sA.size:Int) ≥ 2) && decide ((ByteArray.extract sA (w64 ((sA.size:Int) - 2)).toNat sA.size)=(⟨#[32,120]⟩:ByteArray)))
  ((qAv (inB 0 (w64 ((sA.size:Int) - 2)) sA.size)).bind fun u4 =>
  (qA0 fuel (ByteArray.extract sA 0 (w64 ((sA.size:Int) - 2)).toNat) 43).bind fun x6 =>
  qB9 sA fuel x6 0 [] [])
  ((qA0 fuel sA 43).bind fun x192 =>
  qB8 sA fuel x192 0 [] [])
theorem qOl (fuel:Nat) (sA:ByteArray) (r:(Item × Bool)) (hH:qGH fuel sA=some r):qAC Tryz.prog 138 [.v (.string sA)] (.t [.g (qNe r.1),.v (.bool r.2)]):=by
 refine fns T Tryz.func138 ?_
 iterate 2 refine gs ?_
 refine AO.x (als T 1) ?_
 iterate 5 refine gs ?_
 refine AO.x (als T 2) ?_
 refine AO.se T [.w 0 [],.w 0 [],.v (.bool false)] ?_
 iterate 8 refine gs ?_
 obtain ⟨u1,hx2,hH⟩:=zB hH
 iterate 5 refine gs ?_
 refine AO.g0 T ?_
 refine AO.g0 T ?_
 refine AO.g1 T 18 ?_
 refine AO.d1 19 (fun hg=>aws) ?_
 refine AO.d2 17 20 (fun hg=>qE8 T rfl rfl rfl rfl (qAQ (qEo hx2 hg))) ?_
 refine AO.g1 T 21 ?_
 iterate 2 refine gs ?_
 refine AW.cH hH (fun _ hH=>?_) (fun _ hH=>?_)
 iterate 3 refine gs ?_
 refine AO.se T [.w 0 [],.w 0 [],.v (.bool true)] ?_
 refine AO.n ?_
 obtain ⟨u4,hx5,hH⟩:=zB hH
 iterate 5 refine gs ?_
 refine AO.w (qGi T rfl rfl rfl rfl (qAQ (hx5))) ?_
 iterate 2 refine gs ?_
 refine AW.le (Le.ct 0 0 (σ':=(⟨[(0,.v (.string sA)),(2,.p 1 0),(4,.p 2 0),(5,.v (.string (ByteArray.extract sA 0 (w64 ((sA.size:Int) - 2)).toNat)))],[(1,.box [.w 0 [],.w 0 [],.v (.bool false)]),(2,.box [.w 0 [],.w 0 [],.v (.bool true)])],93,[]⟩:St))) ?_
 iterate 2 refine gs ?_
 obtain ⟨x6,hx7,hH⟩:=zB hH
 iterate 2 refine gs ?_
 refine AO.x (qAS rfl 3 rfl rfl rfl (qHA fuel _ _ _ (hx7)) rfl rfl rfl) ?_
 iterate 4 refine gs ?_
 refine AW.loopS (fun s:Nat × (List ByteArray) × (List Int)=>(⟨[(0,.v (.string sA)),(2,.p 1 0),(4,.p 2 0),(31,.R 3),(32,(x6.length:Int)),(33,(s.1:Int))],[(1,.box [.w 0 [],.w 0 [],.v (.bool false)]),(2,.box [.R 24,.R 26,.v (.bool true)]),(3,ro 1 ze2 x6),(24,ro 1 ze2 s.2.1),(26,ro 1 ze0 s.2.2)],93,[]⟩:St)) (fun s=>s.1 ≤ x6.length∧qB9 sA fuel (x6.drop s.1) s.1 s.2.1 s.2.2=some r) (fun s=>x6.length - s.1) (0,[],[]) ⟨Nat.zero_le _,hH⟩ ?_ ?_
 refine Le.trans (Le.voidBox 2 0 24 1 rfl rfl rfl rfl) ?_
 refine Le.trans (Le.voidBox 2 1 26 1 rfl rfl rfl rfl) ?_
 exact Le.ct 0 0
 rintro ⟨k8,v128,v129⟩ ⟨hk,hH⟩
 try dsimp only at hH ⊢
 refine AW.boundR (id:=3) (l:=x6) rfl (fun hb12=>?_)
 rcases hd11:x6.drop k8 with _ | ⟨y9,ys10⟩
 rw [hd11,qB9] at hH
 have hlt13:=qAG hd11
 iterate 9 refine gs ?_
 obtain ⟨x131,hx132,x133,hx134,hH⟩:=qAI hH
 iterate 2 refine gs ?_
 refine AO.w (zLV rfl rfl rfl (es:=[.g (ze1 (Item.mk v128 v129 true))]) ⟨qHy (LendL.cons ((.rowR rfl (.map fun y=>.vs rfl))) (LendL.cons ((.rowR rfl (.map fun y=>.vs rfl))) (LendL.cons (.free rfl) LendL.nil))),trivial⟩ (qI1 fuel _ _ (hx132)) (qAj _) rfl) ?_
 iterate 2 refine gs ?_
 refine AO.g T (d:=.g [.R 24,.R 26,.v (.bool true)]) [] rfl trivial rfl rfl ?_
 refine AO.d1 86 (fun hg=>zLV rfl rfl rfl (es:=[.g (ze1 (Item.mk v128 v129 true))]) ⟨qHy (LendL.cons ((.rowR rfl (.map fun y=>.vs rfl))) (LendL.cons ((.rowR rfl (.map fun y=>.vs rfl))) (LendL.cons (.free rfl) LendL.nil))),trivial⟩ (qLa _ _ (qEo hx134 hg)) (qAj _) rfl) ?_
 refine AO.g0 T ?_
 refine AO.g2 T 87 88 ?_
 iterate 2 refine gs ?_
 refine AW.cH hH (fun _ hH=>?_) (fun hc hH=>?_)
 iterate 3 refine gs ?_
 refine AO.se T [.w 0 [],.w 0 [],.v (.bool false)] ?_
 iterate 3 refine gs ?_
 exact fin
 iterate 4 refine gs ?_
 refine AO.se T [.R 24,.R 26,.v (.bool true)] ?_
 iterate 3 refine gs ?_
 exact fin
 rw [hd11,qB9] at hH
 have hlt13:=qAF hd11
 iterate 7 refine gs ?_
 obtain ⟨o163,hH,hK164⟩:=zB hH
 refine AW.seqJ (fun s:(List ByteArray) × (List Int)=>(⟨[(0,.v (.string sA)),(2,.p 1 0),(4,.p 2 0),(31,.R 3),(32,(x6.length:Int)),(33,(k8:Int))],[(1,.box [.w 0 [],.w 0 [],.v (.bool false)]),(2,.box [.R 42,.R 44,.v (.bool true)]),(3,ro 1 ze2 x6),(42,ro 1 ze2 s.1),(44,ro 1 ze0 s.2)],93,[]⟩:St)) (fun s=>s=o163) ?_ ?_
 iterate 4 refine gs ?_
 refine AO.w (zLr T rfl rfl rfl rfl (zgG (zgD hd11)) rfl rfl rfl) ?_
 iterate 8 refine gs ?_
 obtain ⟨x165,hx166,hH⟩:=zB hH
 refine AW.r (AO.x (qAS rfl 49 rfl rfl rfl (qG4 _ (hx166)) rfl rfl rfl) ?_)
 iterate 4 refine gs ?_
 refine AW.loopS (fun s:Nat × Int=>(⟨[(0,.v (.string sA)),(2,.p 1 0),(4,.p 2 0),(7,.v (.string y9)),(8,s.2),(31,.R 3),(32,(x6.length:Int)),(33,(k8:Int)),(37,.R 49),(38,(x165.length:Int)),(39,(s.1:Int))],[(1,.box [.w 0 [],.w 0 [],.v (.bool false)]),(2,.box [.R 24,.R 26,.v (.bool true)]),(3,ro 1 ze2 x6),(24,ro 1 ze2 v128),(26,ro 1 ze0 v129),(49,ro 1 ze2 x165)],93,[]⟩:St)) (fun s=>s.1 ≤ x165.length∧qB2 y9 v128 v129 (x165.drop s.1) s.1 s.2=some o163) (fun s=>x165.length - s.1) (0,0) ⟨Nat.zero_le _,hH⟩ ?_ ?_
 exact Le.ct 0 0
 rintro ⟨k167,v178⟩ ⟨hk,hH⟩
 try dsimp only at hH ⊢
 refine AW.boundR (id:=49) (l:=x165) rfl (fun hb171=>?_)
 rcases hd170:x165.drop k167 with _ | ⟨y168,ys169⟩
 rw [hd170,qB2] at hH
 have hlt172:=qAG hd170
 iterate 13 refine gs ?_
 refine AW.cH hH (fun _ hH=>?_) (fun hc hH=>?_)
 obtain ⟨u180,hx181,hH⟩:=zB hH
 iterate 5 refine gs ?_
 refine AO.w (qGi T rfl rfl rfl rfl (qAQ (hx181))) ?_
 iterate 3 refine gs ?_
 obtain ⟨u182,hx183,hH⟩:=zB hH
 iterate 4 refine gs ?_
 refine AO.x (mks T 50 ze2 ([(ByteArray.extract y9 0 (w64 ((y9.size:Int) - 1)).toNat)])) ?_
 refine AO.x (rvs T 51 (hfit:=by exact qAQ (hx183))) ?_
 refine AO.pu T ?_
 refine AO.se T [.R 51,.R 26,.v (.bool true)] ?_
 refine AO.n ?_
 obtain ⟨u184,hx185,hH⟩:=zB hH
 iterate 4 refine gs ?_
 refine AO.x (mks T 52 ze0 ([v178])) ?_
 refine AO.x (rvs T 53 (hfit:=by exact qAQ (hx185))) ?_
 refine AO.pu T ?_
 refine AO.se T [.R 51,.R 53,.v (.bool true)] ?_
 refine AO.n ?_
 refine ⟨_,zS hH,?_⟩
 refine Le.trans (Le.ct 51 42 (σ':=(⟨[(0,.v (.string sA)),(2,.p 1 0),(4,.p 2 0),(31,.R 3),(32,(x6.length:Int)),(33,(k8:Int))],[(1,.box [.w 0 [],.w 0 [],.v (.bool false)]),(2,.box [.R 42,.R 53,.v (.bool true)]),(3,ro 1 ze2 x6),(42,ro 1 ze2 (v128++[(ByteArray.extract y9 0 (w64 ((y9.size:Int) - 1)).toNat)])),(53,ro 1 ze0 (v129++[v178]))],93,[]⟩:St))) ?_
 exact Le.ct 53 44
 iterate 2 refine gs ?_
 obtain ⟨u186,hx187,hH⟩:=zB hH
 iterate 4 refine gs ?_
 refine AO.x (mks T 54 ze2 ([y9])) ?_
 refine AO.x (rvs T 55 (hfit:=by exact qAQ (hx187))) ?_
 refine AO.pu T ?_
 refine AO.se T [.R 55,.R 26,.v (.bool true)] ?_
 refine AO.n ?_
 obtain ⟨u188,hx189,hH⟩:=zB hH
 iterate 4 refine gs ?_
 refine AO.x (mks T 56 ze0 ([v178])) ?_
 refine AO.x (rvs T 57 (hfit:=by exact qAQ (hx189))) ?_
 refine AO.pu T ?_
 refine AO.se T [.R 55,.R 57,.v (.bool true)] ?_
 refine AO.n ?_
 refine ⟨_,zS hH,?_⟩
 refine Le.trans (Le.ct 55 42 (σ':=(⟨[(0,.v (.string sA)),(2,.p 1 0),(4,.p 2 0),(31,.R 3),(32,(x6.length:Int)),(33,(k8:Int))],[(1,.box [.w 0 [],.w 0 [],.v (.bool false)]),(2,.box [.R 42,.R 57,.v (.bool true)]),(3,ro 1 ze2 x6),(42,ro 1 ze2 (v128++[y9])),(57,ro 1 ze0 (v129++[v178]))],93,[]⟩:St))) ?_
 exact Le.ct 57 44
 rw [hd170,qB2] at hH
 have hlt172:=qAF hd170
 iterate 13 refine gs ?_
 refine AO.w (zLr T rfl rfl rfl rfl (zgG (zgD hd170)) rfl rfl rfl) ?_
 iterate 4 refine gs ?_
 obtain ⟨u190,hx191,hH⟩:=zB hH
 iterate 4 refine gs ?_
 refine AO.g0 T ?_
 refine AO.g1 T 47 ?_
 refine AO.g1 T 48 ?_
 iterate 2 refine gs ?_
 refine AO.g0 T ?_
 refine AO.g0 T ?_
 refine AO.g1 T 53 ?_
 refine AO.d1 54 (fun hg=>aws) ?_
 refine AO.d2 52 55 (fun hg=>qE8 T rfl rfl rfl rfl (qAQ (qEo hx191 hg))) ?_
 refine AO.g0 T ?_
 refine AO.g2 T 56 57 ?_
 iterate 2 refine gs ?_
 refine AW.cH hH (fun _ hH=>?_) (fun hc hH=>?_)
 iterate 4 refine gs ?_
 refine AW.le (Le.ct 0 0 (σ':=(⟨[(0,.v (.string sA)),(2,.p 1 0),(4,.p 2 0),(7,.v (.string y9)),(8,(k167:Int)),(31,.R 3),(32,(x6.length:Int)),(33,(k8:Int)),(37,.R 49),(38,(x165.length:Int)),(39,(k167:Int))],[(1,.box [.w 0 [],.w 0 [],.v (.bool false)]),(2,.box [.R 24,.R 26,.v (.bool true)]),(3,ro 1 ze2 x6),(24,ro 1 ze2 v128),(26,ro 1 ze0 v129),(49,ro 1 ze2 x165)],93,[]⟩:St))) ?_
 iterate 4 refine gs ?_
 refine ⟨(k167+1,(k167:Int)),⟨hlt172,(zds hd170 ▸ hH)⟩,qBr hlt172,?_⟩
 exact Le.ct 0 0
 iterate 5 refine gs ?_
 refine ⟨(k167+1,v178),⟨hlt172,(zds hd170 ▸ hH)⟩,qBr hlt172,?_⟩
 exact Le.ct 0 0
 rintro ⟨v161,v162⟩ hs
 subst hs
 replace hH:=hK164
 try dsimp only [qK0,qJT] at hH
 try dsimp only
 iterate 4 refine gs ?_
 refine ⟨(k8+1,v161,v162),⟨hlt13,(zds hd11 ▸ hH)⟩,qBr hlt13,?_⟩
 refine Le.trans (Le.ct 42 24 (σ':=(⟨[(0,.v (.string sA)),(2,.p 1 0),(4,.p 2 0),(31,.R 3),(32,(x6.length:Int)),(33,((k8+1:Nat):Int))],[(1,.box [.w 0 [],.w 0 [],.v (.bool false)]),(2,.box [.R 24,.R 44,.v (.bool true)]),(3,ro 1 ze2 x6),(24,ro 1 ze2 v161),(44,ro 1 ze0 v162)],93,[]⟩:St))) ?_
 exact Le.ct 44 26
 iterate 3 refine gs ?_
 obtain ⟨x192,hx193,hH⟩:=zB hH
 iterate 2 refine gs ?_
 refine AO.x (qAS rfl 58 rfl rfl rfl (qHA fuel _ _ _ (hx193)) rfl rfl rfl) ?_
 iterate 4 refine gs ?_
 refine AW.loopS (fun s:Nat × (List ByteArray) × (List Int)=>(⟨[(0,.v (.string sA)),(2,.p 1 0),(4,.p 2 0),(31,.R 58),(32,(x192.length:Int)),(33,(s.1:Int))],[(1,.box [.w 0 [],.w 0 [],.v (.bool false)]),(2,.box [.R 79,.R 81,.v (.bool false)]),(58,ro 1 ze2 x192),(79,ro 1 ze2 s.2.1),(81,ro 1 ze0 s.2.2)],93,[]⟩:St)) (fun s=>s.1 ≤ x192.length∧qB8 sA fuel (x192.drop s.1) s.1 s.2.1 s.2.2=some r) (fun s=>x192.length - s.1) (0,[],[]) ⟨Nat.zero_le _,hH⟩ ?_ ?_
 refine Le.trans (Le.voidBox 2 0 79 1 rfl rfl rfl rfl) ?_
 refine Le.trans (Le.voidBox 2 1 81 1 rfl rfl rfl rfl) ?_
 exact Le.ct 0 0
 rintro ⟨k194,v314,v315⟩ ⟨hk,hH⟩
 try dsimp only at hH ⊢
 refine AW.boundR (id:=58) (l:=x192) rfl (fun hb198=>?_)
 rcases hd197:x192.drop k194 with _ | ⟨y195,ys196⟩
 rw [hd197,qB8] at hH
 have hlt199:=qAG hd197
 iterate 9 refine gs ?_
 obtain ⟨x317,hx318,x319,hx320,hH⟩:=qAI hH
 iterate 2 refine gs ?_
 refine AO.w (zLV rfl rfl rfl (es:=[.g (ze1 (Item.mk v314 v315 false))]) ⟨qHy (LendL.cons ((.rowR rfl (.map fun y=>.vs rfl))) (LendL.cons ((.rowR rfl (.map fun y=>.vs rfl))) (LendL.cons (.free rfl) LendL.nil))),trivial⟩ (qI1 fuel _ _ (hx318)) (qAj _) rfl) ?_
 iterate 2 refine gs ?_
 refine AO.g T (d:=.g [.R 79,.R 81,.v (.bool false)]) [] rfl trivial rfl rfl ?_
 refine AO.d1 86 (fun hg=>zLV rfl rfl rfl (es:=[.g (ze1 (Item.mk v314 v315 false))]) ⟨qHy (LendL.cons ((.rowR rfl (.map fun y=>.vs rfl))) (LendL.cons ((.rowR rfl (.map fun y=>.vs rfl))) (LendL.cons (.free rfl) LendL.nil))),trivial⟩ (qLa _ _ (qEo hx320 hg)) (qAj _) rfl) ?_
 refine AO.g0 T ?_
 refine AO.g2 T 87 88 ?_
 iterate 2 refine gs ?_
 refine AW.cH hH (fun _ hH=>?_) (fun hc hH=>?_)
 iterate 3 refine gs ?_
 refine AO.se T [.w 0 [],.w 0 [],.v (.bool false)] ?_
 iterate 3 refine gs ?_
 exact fin
 iterate 4 refine gs ?_
 refine AO.se T [.R 79,.R 81,.v (.bool false)] ?_
 iterate 3 refine gs ?_
 exact fin
 rw [hd197,qB8] at hH
 have hlt199:=qAF hd197
 iterate 7 refine gs ?_
 obtain ⟨o349,hH,hK350⟩:=zB hH
 refine AW.seqJ (fun s:(List ByteArray) × (List Int)=>(⟨[(0,.v (.string sA)),(2,.p 1 0),(4,.p 2 0),(31,.R 58),(32,(x192.length:Int)),(33,(k194:Int))],[(1,.box [.w 0 [],.w 0 [],.v (.bool false)]),(2,.box [.R 97,.R 99,.v (.bool false)]),(58,ro 1 ze2 x192),(97,ro 1 ze2 s.1),(99,ro 1 ze0 s.2)],93,[]⟩:St)) (fun s=>s=o349) ?_ ?_
 iterate 4 refine gs ?_
 refine AO.w (zLr T rfl rfl rfl rfl (zgG (zgD hd197)) rfl rfl rfl) ?_
 iterate 8 refine gs ?_
 obtain ⟨x351,hx352,hH⟩:=zB hH
 refine AW.r (AO.x (qAS rfl 104 rfl rfl rfl (qG4 _ (hx352)) rfl rfl rfl) ?_)
 iterate 4 refine gs ?_
 refine AW.loopS (fun s:Nat × Int=>(⟨[(0,.v (.string sA)),(2,.p 1 0),(4,.p 2 0),(7,.v (.string y195)),(8,s.2),(31,.R 58),(32,(x192.length:Int)),(33,(k194:Int)),(37,.R 104),(38,(x351.length:Int)),(39,(s.1:Int))],[(1,.box [.w 0 [],.w 0 [],.v (.bool false)]),(2,.box [.R 79,.R 81,.v (.bool false)]),(58,ro 1 ze2 x192),(79,ro 1 ze2 v314),(81,ro 1 ze0 v315),(104,ro 1 ze2 x351)],93,[]⟩:St)) (fun s=>s.1 ≤ x351.length∧qB3 y195 v314 v315 (x351.drop s.1) s.1 s.2=some o349) (fun s=>x351.length - s.1) (0,0) ⟨Nat.zero_le _,hH⟩ ?_ ?_
 exact Le.ct 0 0
 rintro ⟨k353,v364⟩ ⟨hk,hH⟩
 try dsimp only at hH ⊢
 refine AW.boundR (id:=104) (l:=x351) rfl (fun hb357=>?_)
 rcases hd356:x351.drop k353 with _ | ⟨y354,ys355⟩
 rw [hd356,qB3] at hH
 have hlt358:=qAG hd356
 iterate 13 refine gs ?_
 refine AW.cH hH (fun _ hH=>?_) (fun hc hH=>?_)
 obtain ⟨u366,hx367,hH⟩:=zB hH
 iterate 5 refine gs ?_
 refine AO.w (qGi T rfl rfl rfl rfl (qAQ (hx367))) ?_
 iterate 3 refine gs ?_
 obtain ⟨u368,hx369,hH⟩:=zB hH
 iterate 4 refine gs ?_
 refine AO.x (mks T 105 ze2 ([(ByteArray.extract y195 0 (w64 ((y195.size:Int) - 1)).toNat)])) ?_
 refine AO.x (rvs T 106 (hfit:=by exact qAQ (hx369))) ?_
 refine AO.pu T ?_
 refine AO.se T [.R 106,.R 81,.v (.bool false)] ?_
 refine AO.n ?_
 obtain ⟨u370,hx371,hH⟩:=zB hH
 iterate 4 refine gs ?_
 refine AO.x (mks T 107 ze0 ([v364])) ?_
 refine AO.x (rvs T 108 (hfit:=by exact qAQ (hx371))) ?_
 refine AO.pu T ?_
 refine AO.se T [.R 106,.R 108,.v (.bool false)] ?_
 refine AO.n ?_
 refine ⟨_,zS hH,?_⟩
 refine Le.trans (Le.ct 106 97 (σ':=(⟨[(0,.v (.string sA)),(2,.p 1 0),(4,.p 2 0),(31,.R 58),(32,(x192.length:Int)),(33,(k194:Int))],[(1,.box [.w 0 [],.w 0 [],.v (.bool false)]),(2,.box [.R 97,.R 108,.v (.bool false)]),(58,ro 1 ze2 x192),(97,ro 1 ze2 (v314++[(ByteArray.extract y195 0 (w64 ((y195.size:Int) - 1)).toNat)])),(108,ro 1 ze0 (v315++[v364]))],93,[]⟩:St))) ?_
 exact Le.ct 108 99
 iterate 2 refine gs ?_
 obtain ⟨u372,hx373,hH⟩:=zB hH
 iterate 4 refine gs ?_
 refine AO.x (mks T 109 ze2 ([y195])) ?_
 refine AO.x (rvs T 110 (hfit:=by exact qAQ (hx373))) ?_
 refine AO.pu T ?_
 refine AO.se T [.R 110,.R 81,.v (.bool false)] ?_
 refine AO.n ?_
 obtain ⟨u374,hx375,hH⟩:=zB hH
 iterate 4 refine gs ?_
 refine AO.x (mks T 111 ze0 ([v364])) ?_
 refine AO.x (rvs T 112 (hfit:=by exact qAQ (hx375))) ?_
 refine AO.pu T ?_
 refine AO.se T [.R 110,.R 112,.v (.bool false)] ?_
 refine AO.n ?_
 refine ⟨_,zS hH,?_⟩
 refine Le.trans (Le.ct 110 97 (σ':=(⟨[(0,.v (.string sA)),(2,.p 1 0),(4,.p 2 0),(31,.R 58),(32,(x192.length:Int)),(33,(k194:Int))],[(1,.box [.w 0 [],.w 0 [],.v (.bool false)]),(2,.box [.R 97,.R 112,.v (.bool false)]),(58,ro 1 ze2 x192),(97,ro 1 ze2 (v314++[y195])),(112,ro 1 ze0 (v315++[v364]))],93,[]⟩:St))) ?_
 exact Le.ct 112 99
 rw [hd356,qB3] at hH
 have hlt358:=qAF hd356
 iterate 13 refine gs ?_
 refine AO.w (zLr T rfl rfl rfl rfl (zgG (zgD hd356)) rfl rfl rfl) ?_
 iterate 4 refine gs ?_
 obtain ⟨u376,hx377,hH⟩:=zB hH
 iterate 4 refine gs ?_
 refine AO.g0 T ?_
 refine AO.g1 T 47 ?_
 refine AO.g1 T 48 ?_
 iterate 2 refine gs ?_
 refine AO.g0 T ?_
 refine AO.g0 T ?_
 refine AO.g1 T 53 ?_
 refine AO.d1 54 (fun hg=>aws) ?_
 refine AO.d2 52 55 (fun hg=>qE8 T rfl rfl rfl rfl (qAQ (qEo hx377 hg))) ?_
 refine AO.g0 T ?_
 refine AO.g2 T 56 57 ?_
 iterate 2 refine gs ?_
 refine AW.cH hH (fun _ hH=>?_) (fun _ hH=>?_)
 iterate 4 refine gs ?_
 refine AW.le (Le.ct 0 0 (σ':=(⟨[(0,.v (.string sA)),(2,.p 1 0),(4,.p 2 0),(7,.v (.string y195)),(8,(k353:Int)),(31,.R 58),(32,(x192.length:Int)),(33,(k194:Int)),(37,.R 104),(38,(x351.length:Int)),(39,(k353:Int))],[(1,.box [.w 0 [],.w 0 [],.v (.bool false)]),(2,.box [.R 79,.R 81,.v (.bool false)]),(58,ro 1 ze2 x192),(79,ro 1 ze2 v314),(81,ro 1 ze0 v315),(104,ro 1 ze2 x351)],93,[]⟩:St))) ?_
 iterate 4 refine gs ?_
 refine ⟨(k353+1,(k353:Int)),⟨hlt358,(zds hd356 ▸ hH)⟩,qBr hlt358,?_⟩
 exact Le.ct 0 0
 iterate 5 refine gs ?_
 refine ⟨(k353+1,v364),⟨hlt358,(zds hd356 ▸ hH)⟩,qBr hlt358,?_⟩
 exact Le.ct 0 0
 rintro ⟨v347,v348⟩ hs
 subst hs
 replace hH:=hK350
 try dsimp only [qK0,qJT] at hH
 try dsimp only
 iterate 4 refine gs ?_
 refine ⟨(k194+1,v347,v348),⟨hlt199,(zds hd197 ▸ hH)⟩,qBr hlt199,?_⟩
 refine Le.trans (Le.ct 97 79 (σ':=(⟨[(0,.v (.string sA)),(2,.p 1 0),(4,.p 2 0),(31,.R 58),(32,(x192.length:Int)),(33,((k194+1:Nat):Int))],[(1,.box [.w 0 [],.w 0 [],.v (.bool false)]),(2,.box [.R 79,.R 99,.v (.bool false)]),(58,ro 1 ze2 x192),(79,ro 1 ze2 v347),(99,ro 1 ze0 v348)],93,[]⟩:St))) ?_
 exact Le.ct 99 81

def qAL (fuel:Nat) (x:CsState) (c:Code) (p:Performance):Option (CsState × ByteArray) :=
 (qBW fuel c p).bind fun x1 =>
 cond (!x1)
  (some (x,(⟨#[110,111]⟩:ByteArray)))
  (some ((CsState.mk c p x.factor x.results x.no x.what x.lines),(⟨#[111,107]⟩:ByteArray)))
theorem qBE (fuel:Nat) (x:CsState) (c:Code) (p:Performance) (r:(CsState × ByteArray)) (hH:qAL fuel x c p=some r):qGB Tryz.prog 140 [.pn (ze9 x),.g (ze4 c),.g (qHI p)] [.pn (ze9 r.1),.u,.u] (.v (.string r.2)):=by
 refine qIT T Tryz.func140 rfl (by decide) rfl rfl [.p 1 0,.g (ze4 c),.g (qHI p)] [(1,.box (ze8 x 2 3)),(3,ro 1 ze0 x.what),(2,ro 1 ze0 x.no)] 4 (by kernel_rfl) [1] rfl rfl ?_
 intro L
 show AW _ _ _ (⟨[(0,.p 1 0),(1,.g (ze4 c)),(2,.g (qHI p))],[(1,.box (ze8 x 2 3)),(3,ro 1 ze0 x.what),(2,ro 1 ze0 x.no)],19,[(1,L 1)]⟩:St)
 refine go ?_
 refine AO.x (bxs T 4) ?_
 refine AO.x (bxs T 5) (go ?_)
 obtain ⟨x1,hx2,hH⟩:=zB hH
 refine go ?_
 refine AO.w (cVs (qLY fuel _ _ _ (hx2))) (go ?_)
 refine AW.cH hH (fun _ hH=>?_) (fun _ hH=>?_)
 refine go ?_
 exact qEM
 refine go ?_
 refine AO.se T [sv ze5 c.elements,sv ze0 c.limits,c.repeats,c.bonus,c.keeps,c.fall,sv ze1 x.p.items,sv ze3 x.p.marks.grades,sv ze3 x.p.marks.components,x.p.slips.falls,x.p.slips.seconds,x.p.slips.other,x.factor,sv ze7 x.results,.R 2,.R 3,x.lines] ?_
 refine go ?_
 refine AO.se T [sv ze5 c.elements,sv ze0 c.limits,c.repeats,c.bonus,c.keeps,c.fall,sv ze1 p.items,sv ze3 p.marks.grades,sv ze3 p.marks.components,p.slips.falls,p.slips.seconds,p.slips.other,x.factor,sv ze7 x.results,.R 2,.R 3,x.lines] ?_
 refine go ?_
 exact qEM

def qCG (fuel:Nat) (x:CsState) (sA:ByteArray):Option (CsState × ByteArray) :=
 (qGH fuel sA).bind fun x1 =>
 cond ((!x1.2) || ((x.p.items.length:Int) == 14))
  (some (x,(⟨#[110,111]⟩:ByteArray)))
  ((qGh x.p.items).bind fun x3 =>
  (qAv (qAf 56 (x3.length+([x1.1]).length))).bind fun u5 =>
  (qAX x.p (x3++[x1.1])).bind fun x7 =>
  (qD0 x7.marks).bind fun x9 =>
  (qAv (decide (0 ≤ x9) && qAf 8 x9.toNat)).bind fun u11 =>
  (qAv (qAf 24 (x7.marks.grades.length+([(List.replicate x9.toNat (0:Int))]).length))).bind fun u13 =>
  (qAL fuel x x.code (Performance.mk x7.items (Marks.mk (x7.marks.grades++[(List.replicate x9.toNat (0:Int))]) x7.marks.components) x7.slips)).bind fun x15 =>
  some (x15.1,x15.2))
theorem qK8 (fuel:Nat) (x:CsState) (sA:ByteArray) (r:(CsState × ByteArray)) (hH:qCG fuel x sA=some r):qGB Tryz.prog 104 [.pn (ze9 x),.v (.string sA)] [.pn (ze9 r.1),.u] (.v (.string r.2)):=by
 refine qIT T Tryz.func104 rfl (by decide) rfl rfl [.p 1 0,.v (.string sA)] [(1,.box (ze8 x 2 3)),(3,ro 1 ze0 x.what),(2,ro 1 ze0 x.no)] 4 (by kernel_rfl) [1] rfl rfl ?_
 intro L
 show AW _ _ _ (⟨[(0,.p 1 0),(1,.v (.string sA))],[(1,.box (ze8 x 2 3)),(3,ro 1 ze0 x.what),(2,ro 1 ze0 x.no)],56,[(1,L 1)]⟩:St)
 refine go ?_
 obtain ⟨x1,hx2,hH⟩:=zB hH
 refine go ?_
 refine AO.x (qAS rfl 4 rfl rfl rfl (qOl fuel _ _ (hx2)) rfl rfl rfl) (go ?_)
 refine AO.x (als T 6) ?_
 refine AO.se T [.R 4,.R 5,.v (.bool x1.1.late)] ?_
 refine go ?_
 refine AO.g0 T ?_
 refine AO.g1 T 16 ?_
 refine AO.g1 T 17 ?_
 refine AO.g1 T 18 ?_
 refine AO.g1 T 19 ?_
 refine AO.d1 20 (fun hg=>qLc T) ?_
 refine AO.g1 T 21 ?_
 refine go ?_
 refine AW.cH hH (fun _ hH=>?_) (fun _ hH=>?_)
 refine go ?_
 exact qEM
 refine go ?_
 obtain ⟨x3,hx4,u5,hx6,x7,hx8,hH⟩:=qA9 hH
 refine AW.le (Le.fM 4 (g:=ze2) rfl (fun y=>.vs rfl)) ?_
 refine AW.le (Le.fM 5 (g:=ze0) rfl (fun y=>.vs rfl)) ?_
 refine AW.drawn 15 7 [] mix (by kernel_rfl) rfl ?_
 refine go ?_
 refine AD.q (FStep.frzInE (k0:=7) (sz:=3) (l:=x3) (p:=qNe) (q:=ze1) (fun y=>qF4 y) (FStep.call rfl rfl rfl rfl rfl (qJc _ _ (hx4)) rfl rfl) rfl) (by simp [qAr];exact Nat.lt_succ_self _) (Nat.le_succ _) rfl ?_
 refine go ?_
 refine AD.q (FStep.mk T (f:=ze1) (l:=[x1.1]) rfl rfl rfl rfl rfl rfl rfl rfl rfl (fun _=>rfl) rfl rfl rfl rfl) (by simp [qAr]) (Nat.le_succ _) rfl ?_
 refine AD.kk (FStep.app_rv T rfl rfl rfl rfl rfl rfl rfl (by decide) rfl rfl rfl rfl (fun _=>rfl) (qAQ (hx6)) rfl) ?_
 refine AD.qd rfl (FStep.callL rfl rfl rfl rfl (es:=[.g (qHI x.p),sv ze1 (x3++[x1.1])]) ⟨.free rfl,(.rowR rfl (.map fun y=>.vs rfl)),trivial⟩ (qGE _ _ _ (hx8)) (qV0 (zfl (.cons (qId (fun y=>(.cons (qId (fun y=>(.cons (qAj _) .nil))) (.cons (qId (fun y=>(.cons (qAj _) .nil))) (.cons (qAj _) .nil))))) (.cons (qId (fun y=>(.cons (qId (fun y=>(.cons (qAj _) .nil))) .nil))) (.cons (qId (fun y=>(.cons (qId (fun y=>(.cons (qAj _) .nil))) .nil))) (.cons (qAj _) (.cons (qAj _) (.cons (qAj _) .nil)))))))) rfl rfl) (qBD _ _) (qDc _ _) rfl ?_
 refine AD.q (FStep.alloc T rfl rfl rfl rfl rfl rfl) (by simp [qAr]) (Nat.le_succ _) rfl ?_
 refine AD.nil (AO.se T [.R 10,.R 11,.R 12,x7.slips.falls,x7.slips.seconds,x7.slips.other] ?_)
 refine AO.n (AW.le (Le.ct 0 0 (σ':=(⟨[(0,.p 1 0),(7,.p 13 0)],[(1,.box (ze8 x 2 3)),(2,ro 1 ze0 x.no),(3,ro 1 ze0 x.what),(10,ro 3 qNe x7.items),(11,ro 1 ze6 x7.marks.grades),(12,ro 1 ze6 x7.marks.components),(13,.box [.R 10,.R 11,.R 12,x7.slips.falls,x7.slips.seconds,x7.slips.other])],56,[(1,L 1)]⟩:St)) (hpin:=⟨⟨rfl,rfl⟩,trivial⟩)) ?_)
 refine AW.q ?_
 obtain ⟨x9,hx10,u11,hx12,u13,hx14,hH⟩:=qA9 hH
 refine AW.drawn 8 14 [] mix (by kernel_rfl) rfl ?_
 refine go ?_
 refine AD.vv (zLV rfl rfl rfl (es:=[.g (qIf x7.marks)]) ⟨qHy (LendL.cons ((.rowR rfl (.map fun y=>qAe y))) (LendL.cons ((.rowR rfl (.map fun y=>qAe y))) LendL.nil)),trivial⟩ (qHx _ _ (hx10)) (qAj _) rfl) ?_
 refine AD.q (FStep.make T rfl rfl rfl rfl rfl rfl rfl (f:=ze0) (zo:=0) (by repeat constructor) (by decide) rfl rfl (Bool.and_eq_true_iff.1 (qAQ (hx12))).1 (Bool.and_eq_true_iff.1 (qAQ (hx12))).2 rfl) (by simp [qAr]) (Nat.le_succ _) rfl ?_
 refine AD.kk (FStep.mk_o T rfl rfl rfl rfl rfl rfl rfl rfl (f:=ze6) (l:=[(List.replicate x9.toNat (0:Int))]) (ids:=[14]) rfl rfl (fun _=>rfl) (by exact zC (.rowR rfl) (zCn)) (by decide) rfl rfl rfl rfl) ?_
 refine AD.nil (AO.x (qE1 T rfl 16 rfl rfl rfl rfl rfl (by decide) rfl rfl rfl rfl rfl (qAQ (hx14)) rfl rfl) (go ?_))
 refine AO.se T [.R 10,.R 16,.R 12,x7.slips.falls,x7.slips.seconds,x7.slips.other] ?_
 refine go ?_
 obtain ⟨x15,hx16,hH⟩:=zB hH
 refine AW.le (Le.fM 10 (g:=ze1) rfl (fun y=>qF4 y)) ?_
 refine AW.le (Le.fM 16 (g:=ze3) rfl (fun y=>qAe y)) ?_
 refine AW.le (Le.fM 12 (g:=ze3) rfl (fun y=>qAe y)) ?_
 refine AW.drawn 6 17 [] mix (by kernel_rfl) rfl ?_
 refine go ?_
 refine AO.x (qBf (ze8 x15.1 17 18) [(18,ro 1 ze0 x15.1.what),(17,ro 1 ze0 x15.1.no)] 19 (by kernel_rfl) rfl 17 rfl rfl rfl rfl (es:=[.pn (ze9 x),.g (ze4 x.code),.g (qHI (Performance.mk x7.items (Marks.mk (x7.marks.grades++[(List.replicate x9.toNat (0:Int))]) x7.marks.components) x7.slips))]) (us:=[.u,.u]) (cs:=ze9 x15.1) (ids:=[1,2,3]) (by exact zG (.pb rfl (qA1 rfl rfl)) (zG (.g (zC .s (zC .s (zC .v (zC .v (zC .v (zC .v (zCn)))))))) (zG (.g (zC .s (zC .s (zC .s (zC .v (zC .v (zC .v (zCn)))))))) (zGn)))) (by decide) (by decide) (qBE fuel _ _ _ _ (hx16)) rfl rfl (by rfl) rfl) (go ?_)
 exact qEM

def qDm (sA:ByteArray):Nat→Int→Int→Option Int
 | 0,_,_=>none
 | k5+1,v12,v13 =>
  cond (decide (v13 < (sA.size:Int)))
   ((qNC sA v13).bind fun b15 =>
   cond (decide ((b15.toNat:Int) < 48) || decide ((b15.toNat:Int) > 57))
    (some (-1))
    (qDm sA k5 (w64 ((w64 (10 * v12))+(IntKind.wrap .i64 (IntKind.wrap .u8 ((b15.toNat:Int) - 48))))) (w64 (v13+1))))
   (some v12)
def qDA (fuel:Nat) (sA:ByteArray):Option Int :=
 (qAY (sA.size:Int) 1 6).bind fun x1 =>
 (opt (!(!x1)) default (qNC sA 0)).bind fun b3 =>
 cond ((!x1) || (((b3.toNat:Int) == 48) && decide ((sA.size:Int) > 1)))
  (some (-1))
  (qDm sA fuel 0 0)
theorem qHU (fuel:Nat) (sA:ByteArray) (r:Int) (hH:qDA fuel sA=some r):qAC Tryz.prog 143 [.v (.string sA)] (.v (.int .i64 r)):=by
 refine fns T Tryz.func143 ?_
 refine go ?_
 obtain ⟨x1,hx2,b3,hx4,hH⟩:=qAI hH
 refine go ?_
 refine AO.w (cVs (qAZ _ _ _ _ (hx2))) (go ?_)
 refine AO.g0 T ?_
 refine AO.d1 10 (fun hg=>qBI T rfl rfl rfl rfl (qEo hx4 hg)) ?_
 refine AO.g1 T 11 ?_
 refine AO.g1 T 12 ?_
 refine AO.g0 T ?_
 refine AO.g1 T 14 ?_
 refine AO.g1 T 15 ?_
 refine AO.d [13] rfl ⟨fun h=>h,trivial⟩ (fun hg=>zN rfl rfl rfl (by rw [hg];exact Bool.true_and _)) rfl ?_
 refine go ?_
 refine AW.cH hH (fun _ hH=>?_) (fun hc hH=>?_)
 refine go ?_
 exact fin
 refine go ?_
 refine AW.loopS (fun s:Nat × Int × Int=>(⟨[(0,.v (.string sA)),(3,s.2.1),(4,s.2.2)],[],44,[]⟩:St)) (fun s=>qDm sA s.1 s.2.1 s.2.2=some r) (fun s=>s.1) (fuel,0,0) hH ?_ ?_
 exact Le.ct 0 0
 rintro ⟨k5,v12,v13⟩ hH
 try dsimp only at hH ⊢
 rcases k5 with _ | k5
 cases (show none=some _ from hH)
 rw [qDm] at hH
 refine go ?_
 refine AW.cH hH (fun hc hH=>?_) (fun _ hH=>?_)
 refine go ?_
 obtain ⟨b15,hx16,hH⟩:=zB hH
 refine go ?_
 refine AO.w (qBI T rfl rfl rfl rfl (hx16)) (go ?_)
 refine AO.g0 T ?_
 refine AO.g0 T ?_
 refine AO.d2 30 31 (fun hg=>qBI T rfl rfl rfl rfl (hx16)) ?_
 refine AO.g1 T 32 ?_
 refine go ?_
 refine AW.cH hH (fun _ hH=>?_) (fun hc hH=>?_)
 refine go ?_
 exact fin
 refine go ?_
 refine AO.w (qBI T rfl rfl rfl rfl (hx16)) ?_
 refine AO.w aws ?_
 refine AO.w (qNm T rfl rfl rfl rfl) (go ?_)
 refine ⟨(k5,w64 ((w64 (10 * v12))+(IntKind.wrap .i64 (IntKind.wrap .u8 ((b15.toNat:Int) - 48)))),w64 (v13+1)),hH,Nat.lt_succ_self _,?_⟩
 exact Le.ct 0 0
 refine go ?_
 exact fin

def qGr (fuel:Nat) (sA:ByteArray):Option Int :=
 (opt (decide ((sA.size:Int) > 1)) default (qNC sA 0)).bind fun b1 =>
 cond (decide ((sA.size:Int) > 1) && ((b1.toNat:Int) == 45))
  ((qAv (inB 1 sA.size sA.size)).bind fun u3 =>
  (qDA fuel (ByteArray.extract sA (1:Int).toNat sA.size)).bind fun x5 =>
  cond (decide (x5 ≥ 0))
   (some (w64 ((-1) * x5)))
   (some 9999))
  ((qDA fuel sA).bind fun x7 =>
  cond (decide (x7 ≥ 0))
   (some (w64 (1 * x7)))
   (some 9999))
theorem qNS (fuel:Nat) (sA:ByteArray) (r:Int) (hH:qGr fuel sA=some r):qAC Tryz.prog 142 [.v (.string sA)] (.v (.int .i64 r)):=by
 refine fns T Tryz.func142 ?_
 refine go ?_
 obtain ⟨b1,hx2,hH⟩:=zB hH
 refine go ?_
 refine AO.g0 T ?_
 refine AO.d1 9 (fun hg=>qBI T rfl rfl rfl rfl (qEo hx2 hg)) ?_
 refine AO.g1 T 10 ?_
 refine go ?_
 refine AW.cH hH (fun hc hH=>?_) (fun hc hH=>?_)
 refine go ?_
 obtain ⟨u3,hx4,hH⟩:=zB hH
 refine go ?_
 refine AO.w (qE8 T rfl rfl rfl rfl (qAQ (hx4))) (go ?_)
 obtain ⟨x5,hx6,hH⟩:=zB hH
 refine go ?_
 refine AO.w (cVs (qHU fuel _ _ (hx6))) (go ?_)
 refine AW.cH hH (fun _ hH=>?_) (fun hc hH=>?_)
 refine go ?_
 exact fin
 refine go ?_
 exact fin
 refine go ?_
 obtain ⟨x7,hx8,hH⟩:=zB hH
 refine go ?_
 refine AO.w (cVs (qHU fuel _ _ (hx8))) (go ?_)
 refine AW.cH hH (fun _ hH=>?_) (fun _ hH=>?_)
 refine go ?_
 exact fin
 refine go ?_
 exact fin

end Go.Proofs.YtkidpkmpnbibmaaGreatDoor

/- The walk, part 1: what each function reached by the law FnExactScriptResults computes. No condition. -/
import Derived.Test.YtkidpkmpnbibmaaGreatDoorSrAm4
import Derived.Test.YtkidpkmpnbibmaaGreatDoorSrShelf
import Derived.Test.YtkidpkmpnbibmaaGreatDoorProg
set_option maxRecDepth 4000
set_option maxHeartbeats 1000000
set_option linter.unusedVariables false
set_option linter.unusedSimpArgs false
set_option linter.unusedSectionVars false
namespace Go.Proofs.YtkidpkmpnbibmaaGreatDoor
open Go.AM Tryz
def teL:List (Option TI):=[
 none,
 none,
 some ⟨.int .i64,1,8,some (.int .i64 0)⟩,
 some ⟨.int .i64,1,8,some (.int .i64 0)⟩,
 some ⟨.bool,1,1,some (.bool false)⟩,
 some ⟨.int .u8,1,1,some (.int .u8 0)⟩,
 some ⟨.int .u8,1,1,some (.int .u8 0)⟩,
 some ⟨.struct [(0,2),(1,3),(2,4),(3,6)],4,24,some (.agg #[.int .i64 0,.int .i64 0,.bool false,.int .u8 0])⟩,
 some ⟨.struct [(0,2),(1,3),(2,4),(3,6)],4,24,some (.agg #[.int .i64 0,.int .i64 0,.bool false,.int .u8 0])⟩,
 some ⟨.str,1,16,some (.string ⟨#[]⟩)⟩,
 some ⟨.str,1,16,some (.string ⟨#[]⟩)⟩,
 some ⟨.str,1,16,some (.string ⟨#[]⟩)⟩,
 some ⟨.int .u64,1,8,some (.int .u64 0)⟩,
 some ⟨.struct [(0,9),(1,12)],2,24,some (.agg #[.string ⟨#[]⟩,.int .u64 0])⟩,
 some ⟨.struct [(0,9),(1,12)],2,24,some (.agg #[.string ⟨#[]⟩,.int .u64 0])⟩,
 some ⟨.ptr 264,1,8,some (.pointer none)⟩,
 some ⟨.ptr 267,1,8,some (.pointer none)⟩,
 some ⟨.ptr 274,1,8,some (.pointer none)⟩,
 some ⟨.struct [(0,17)],1,8,some (.agg #[.pointer none])⟩,
 some ⟨.struct [(0,17)],1,8,some (.agg #[.pointer none])⟩,
 none,
 some ⟨.int .i32,1,4,some (.int .i32 0)⟩,
 none,
 none,
 none,
 none,
 some ⟨.slice 3,1,24,some (.slice none 0 0)⟩,
 none,
 none,
 none,
 none,
 some ⟨.slice 89,1,24,some (.slice none 0 0)⟩,
 none,
 none,
 none,
 none,
 some ⟨.slice 107,1,24,some (.slice none 0 0)⟩,
 some ⟨.struct [(0,36),(1,26),(2,3),(3,3),(4,3),(5,3)],6,80,some (.agg #[.slice none 0 0,.slice none 0 0,.int .i64 0,.int .i64 0,.int .i64 0,.int .i64 0])⟩,
 some ⟨.struct [(0,36),(1,26),(2,3),(3,3),(4,3),(5,3)],6,80,some (.agg #[.slice none 0 0,.slice none 0 0,.int .i64 0,.int .i64 0,.int .i64 0,.int .i64 0])⟩,
 none,
 none,
 none,
 none,
 some ⟨.slice 120,1,24,some (.slice none 0 0)⟩,
 some ⟨.slice 26,1,24,some (.slice none 0 0)⟩,
 some ⟨.struct [(0,44),(1,44)],2,48,some (.agg #[.slice none 0 0,.slice none 0 0])⟩,
 some ⟨.struct [(0,44),(1,44)],2,48,some (.agg #[.slice none 0 0,.slice none 0 0])⟩,
 some ⟨.struct [(0,3),(1,3),(2,3)],3,24,some (.agg #[.int .i64 0,.int .i64 0,.int .i64 0])⟩,
 some ⟨.struct [(0,3),(1,3),(2,3)],3,24,some (.agg #[.int .i64 0,.int .i64 0,.int .i64 0])⟩,
 some ⟨.struct [(0,43),(1,46),(3,48)],6,96,some (.agg #[.slice none 0 0,.slice none 0 0,.slice none 0 0,.int .i64 0,.int .i64 0,.int .i64 0])⟩,
 some ⟨.struct [(0,43),(1,46),(3,48)],6,96,some (.agg #[.slice none 0 0,.slice none 0 0,.slice none 0 0,.int .i64 0,.int .i64 0,.int .i64 0])⟩,
 none,
 none,
 none,
 none,
 some ⟨.slice 5,1,24,some (.slice none 0 0)⟩,
 none,
 none,
 none,
 none,
 none,
 none,
 none,
 none,
 none,
 none,
 some ⟨.ptr 82,1,8,some (.pointer none)⟩,
 none,
 none,
 some ⟨.ptr 86,1,8,some (.pointer none)⟩,
 some ⟨.slice 9,1,24,some (.slice none 0 0)⟩,
 none,
 none,
 some ⟨.ptr 75,1,8,some (.pointer none)⟩,
 some ⟨.struct [(0,73),(1,55)],2,32,some (.agg #[.pointer none,.slice none 0 0])⟩,
 some ⟨.struct [(0,73),(1,55)],2,32,some (.agg #[.pointer none,.slice none 0 0])⟩,
 none,
 none,
 none,
 none,
 none,
 some ⟨.struct [(0,38),(6,50),(12,3),(13,31),(14,26),(15,26),(16,3)],17,264,some (.agg #[.slice none 0 0,.slice none 0 0,.int .i64 0,.int .i64 0,.int .i64 0,.int .i64 0,.slice none 0 0,.slice none 0 0,.slice none 0 0,.int .i64 0,.int .i64 0,.int .i64 0,.int .i64 0,.slice none 0 0,.slice none 0 0,.slice none 0 0,.int .i64 0])⟩,
 some ⟨.struct [(0,38),(6,50),(12,3),(13,31),(14,26),(15,26),(16,3)],17,264,some (.agg #[.slice none 0 0,.slice none 0 0,.int .i64 0,.int .i64 0,.int .i64 0,.int .i64 0,.slice none 0 0,.slice none 0 0,.slice none 0 0,.int .i64 0,.int .i64 0,.int .i64 0,.int .i64 0,.slice none 0 0,.slice none 0 0,.slice none 0 0,.int .i64 0])⟩,
 none,
 none,
 some ⟨.struct [(0,38),(6,50),(12,3),(13,31)],14,208,some (.agg #[.slice none 0 0,.slice none 0 0,.int .i64 0,.int .i64 0,.int .i64 0,.int .i64 0,.slice none 0 0,.slice none 0 0,.slice none 0 0,.int .i64 0,.int .i64 0,.int .i64 0,.int .i64 0,.slice none 0 0])⟩,
 some ⟨.struct [(0,38),(6,50),(12,3),(13,31)],14,208,some (.agg #[.slice none 0 0,.slice none 0 0,.int .i64 0,.int .i64 0,.int .i64 0,.int .i64 0,.slice none 0 0,.slice none 0 0,.slice none 0 0,.int .i64 0,.int .i64 0,.int .i64 0,.int .i64 0,.slice none 0 0])⟩,
 none,
 some ⟨.struct [(0,3),(1,26)],2,32,some (.agg #[.int .i64 0,.slice none 0 0])⟩,
 some ⟨.struct [(0,3),(1,26)],2,32,some (.agg #[.int .i64 0,.slice none 0 0])⟩,
 none,
 none,
 none,
 none,
 none,
 none,
 none,
 none,
 some ⟨.ptr 101,1,8,some (.pointer none)⟩,
 some ⟨.int .u64,1,8,some (.int .u64 0)⟩,
 some ⟨.struct [(0,55),(1,3),(2,99)],3,40,some (.agg #[.slice none 0 0,.int .i64 0,.int .u64 0])⟩,
 some ⟨.struct [(0,55),(1,3),(2,99)],3,40,some (.agg #[.slice none 0 0,.int .i64 0,.int .u64 0])⟩,
 none,
 none,
 none,
 none,
 some ⟨.struct [(0,9),(1,3),(2,3),(3,3)],4,40,some (.agg #[.string ⟨#[]⟩,.int .i64 0,.int .i64 0,.int .i64 0])⟩,
 some ⟨.struct [(0,9),(1,3),(2,3),(3,3)],4,40,some (.agg #[.string ⟨#[]⟩,.int .i64 0,.int .i64 0,.int .i64 0])⟩,
 none,
 none,
 none,
 none,
 none,
 some ⟨.ptr 5,1,8,some (.pointer none)⟩,
 none,
 none,
 none,
 none,
 none,
 some ⟨.struct [(0,70),(1,26),(2,4)],3,56,some (.agg #[.slice none 0 0,.slice none 0 0,.bool false])⟩,
 some ⟨.struct [(0,70),(1,26),(2,4)],3,56,some (.agg #[.slice none 0 0,.slice none 0 0,.bool false])⟩,
 none,
 none,
 none,
 none,
 none,
 none,
 none,
 none,
 none,
 none,
 none,
 none,
 none,
 none,
 none,
 none,
 none,
 none,
 none,
 none,
 none,
 none,
 none,
 none,
 some ⟨.int .u64,1,8,some (.int .u64 0)⟩,
 none,
 none,
 none,
 none,
 none,
 none,
 none,
 none,
 none,
 none,
 none,
 none,
 none,
 none,
 none,
 none,
 none,
 none,
 none,
 none,
 some ⟨.array 4 9,4,64,some (.agg #[.string ⟨#[]⟩,.string ⟨#[]⟩,.string ⟨#[]⟩,.string ⟨#[]⟩])⟩,
 none,
 none,
 none,
 none,
 none,
 none,
 none,
 none,
 none,
 none,
 none,
 none,
 none,
 none,
 none,
 none,
 none,
 none,
 none,
 none,
 none,
 none,
 none,
 none,
 none,
 none,
 none,
 none,
 none,
 none,
 none,
 none,
 none,
 none,
 none,
 none,
 none,
 none,
 none,
 none,
 none,
 none,
 none,
 none,
 none,
 none,
 none,
 none,
 none,
 none,
 none,
 none,
 none,
 none,
 none,
 none,
 none,
 none,
 none,
 none,
 none,
 none,
 none,
 none,
 none,
 none,
 none,
 none,
 some ⟨.array 24 5,24,24,some (.agg #[.int .u8 0,.int .u8 0,.int .u8 0,.int .u8 0,.int .u8 0,.int .u8 0,.int .u8 0,.int .u8 0,.int .u8 0,.int .u8 0,.int .u8 0,.int .u8 0,.int .u8 0,.int .u8 0,.int .u8 0,.int .u8 0,.int .u8 0,.int .u8 0,.int .u8 0,.int .u8 0,.int .u8 0,.int .u8 0,.int .u8 0,.int .u8 0])⟩,
 none,
 none,
 none,
 none,
 none,
 none,
 none,
 none,
 none,
 none,
 none,
 some ⟨.struct [(0,5),(1,5)],2,2,some (.agg #[.int .u8 0,.int .u8 0])⟩,
 some ⟨.struct [(0,5),(1,5)],2,2,some (.agg #[.int .u8 0,.int .u8 0])⟩,
 some ⟨.array 16 248,32,32,some (.agg #[.int .u8 0,.int .u8 0,.int .u8 0,.int .u8 0,.int .u8 0,.int .u8 0,.int .u8 0,.int .u8 0,.int .u8 0,.int .u8 0,.int .u8 0,.int .u8 0,.int .u8 0,.int .u8 0,.int .u8 0,.int .u8 0,.int .u8 0,.int .u8 0,.int .u8 0,.int .u8 0,.int .u8 0,.int .u8 0,.int .u8 0,.int .u8 0,.int .u8 0,.int .u8 0,.int .u8 0,.int .u8 0,.int .u8 0,.int .u8 0,.int .u8 0,.int .u8 0])⟩,
 some ⟨.int .u32,1,4,some (.int .u32 0)⟩,
 none,
 none,
 none,
 some ⟨.array 20 99,20,160,some (.agg #[.int .u64 0,.int .u64 0,.int .u64 0,.int .u64 0,.int .u64 0,.int .u64 0,.int .u64 0,.int .u64 0,.int .u64 0,.int .u64 0,.int .u64 0,.int .u64 0,.int .u64 0,.int .u64 0,.int .u64 0,.int .u64 0,.int .u64 0,.int .u64 0,.int .u64 0,.int .u64 0])⟩,
 none,
 none,
 none,
 none,
 none,
 none,
 some ⟨.array 32 5,32,32,some (.agg #[.int .u8 0,.int .u8 0,.int .u8 0,.int .u8 0,.int .u8 0,.int .u8 0,.int .u8 0,.int .u8 0,.int .u8 0,.int .u8 0,.int .u8 0,.int .u8 0,.int .u8 0,.int .u8 0,.int .u8 0,.int .u8 0,.int .u8 0,.int .u8 0,.int .u8 0,.int .u8 0,.int .u8 0,.int .u8 0,.int .u8 0,.int .u8 0,.int .u8 0,.int .u8 0,.int .u8 0,.int .u8 0,.int .u8 0,.int .u8 0,.int .u8 0,.int .u8 0])⟩,
 none,
 some ⟨.struct [(0,17),(1,17),(2,17),(3,9)],4,40,some (.agg #[.pointer none,.pointer none,.pointer none,.string ⟨#[]⟩])⟩,
 some ⟨.struct [(0,17),(1,17),(2,17),(3,9)],4,40,some (.agg #[.pointer none,.pointer none,.pointer none,.string ⟨#[]⟩])⟩,
 some ⟨.array 0 16,0,0,some (.agg #[])⟩,
 some ⟨.struct [(0,265)],0,0,some (.agg #[])⟩,
 some ⟨.struct [(0,265)],0,0,some (.agg #[])⟩,
 some ⟨.int .u8,1,1,some (.int .u8 0)⟩,
 some ⟨.int .u8,1,1,some (.int .u8 0)⟩,
 none,
 some ⟨.int .i32,1,4,some (.int .i32 0)⟩,
 some ⟨.int .i32,1,4,some (.int .i32 0)⟩,
 some ⟨.struct [(0,12),(1,12),(2,250),(3,268),(4,5),(5,5),(6,269),(7,270),(8,113),(9,271),(10,272)],11,48,some (.agg #[.int .u64 0,.int .u64 0,.int .u32 0,.int .u8 0,.int .u8 0,.int .u8 0,.int .u8 0,.nilFunc,.pointer none,.int .i32 0,.int .i32 0])⟩,
 some ⟨.struct [(0,12),(1,12),(2,250),(3,268),(4,5),(5,5),(6,269),(7,270),(8,113),(9,271),(10,272)],11,48,some (.agg #[.int .u64 0,.int .u64 0,.int .u32 0,.int .u8 0,.int .u8 0,.int .u8 0,.int .u8 0,.nilFunc,.pointer none,.int .i32 0,.int .i32 0])⟩]
def te:TE:=qYl teL
theorem T:qGk prog te:=qWd (by kernel_rfl)
theorem mix:prog.follows .mixedOrders=true:=by kernel_rfl
def ze0 (x:Int):List D:=[.v (.int .i64 x)]
def qYe (x:Bool):List D:=[.v (.bool x)]
def ze2 (x:ByteArray):List D:=[.v (.string x)]
def qQl (x:Int):List D:=[.v (.int .u8 x)]
def qXN (x:Int):List D:=[.v (.int .u64 x)]
def qXO (x:Int):List D:=[.v (.int .i32 x)]
def ze3 (x:List Int):List D:=[.s (x.map ze0)]
def ze8 (x:List Int):List D:=[.w 1 (x.map ze0)]
theorem qAl (x:List Int):FrzL (ze8 x) (ze3 x):=.cons (.map fun y=>.vs rfl) .nil
def qWh (x:List ByteArray):List D:=[.s (x.map ze2)]
def qVu (x:List ByteArray):List D:=[.w 1 (x.map ze2)]
theorem qYg (x:List ByteArray):FrzL (qVu x) (qWh x):=.cons (.map fun y=>.vs rfl) .nil
structure Element where
 name:ByteArray
 family:Int
 level:Int
 base:Int
 deriving Inhabited,DecidableEq
def ze5 (x:Element):List D:=[.v (.string x.name),.v (.int .i64 x.family),.v (.int .i64 x.level),.v (.int .i64 x.base)]
def qRh (x:List Element):List D:=[.s (x.map ze5)]
def qQv (x:List Element):List D:=[.w 4 (x.map ze5)]
theorem qWn (x:List Element):FrzL (qQv x) (qRh x):=.cons (.map fun y=>.vs rfl) .nil
structure Result where
 skater:Int
 scores:List Int
 deriving Inhabited,DecidableEq
def ze6 (x:Result):List D:=[.v (.int .i64 x.skater),.s (x.scores.map ze0)]
def qGA (x:Result):List D:=[.v (.int .i64 x.skater),.w 1 (x.scores.map ze0)]
theorem qHw (x:Result):FrzL (qGA x) (ze6 x):=.cons (.vs rfl) (.cons (.map fun y=>.vs rfl) (.nil))
structure Code where
 elements:List Element
 limits:List Int
 repeats:Int
 bonus:Int
 keeps:Int
 fall:Int
 deriving Inhabited,DecidableEq
def ze4 (x:Code):List D:=[.s (x.elements.map ze5),.s (x.limits.map ze0),.v (.int .i64 x.repeats),.v (.int .i64 x.bonus),.v (.int .i64 x.keeps),.v (.int .i64 x.fall)]
def qOJ (x:Code):List D:=[.w 4 (x.elements.map ze5),.w 1 (x.limits.map ze0),.v (.int .i64 x.repeats),.v (.int .i64 x.bonus),.v (.int .i64 x.keeps),.v (.int .i64 x.fall)]
theorem qYr (x:Code):FrzL (qOJ x) (ze4 x):=.cons (.map fun y=>.vs rfl) (.cons (.map fun y=>.vs rfl) (.cons (.vs rfl) (.cons (.vs rfl) (.cons (.vs rfl) (.cons (.vs rfl) (.nil))))))
structure Item where
 names:List ByteArray
 marks:List Int
 late:Bool
 deriving Inhabited,DecidableEq
def ze1 (x:Item):List D:=[.s (x.names.map ze2),.s (x.marks.map ze0),.v (.bool x.late)]
def qCU (x:Item):List D:=[.w 1 (x.names.map ze2),.w 1 (x.marks.map ze0),.v (.bool x.late)]
theorem qGs (x:Item):FrzL (qCU x) (ze1 x):=.cons (.map fun y=>.vs rfl) (.cons (.map fun y=>.vs rfl) (.cons (.vs rfl) (.nil)))
structure Marks where
 grades:List (List Int)
 components:List (List Int)
 deriving Inhabited,DecidableEq
def qAf (x:Marks):List D:=[.s (x.grades.map ze3),.s (x.components.map ze3)]
def qIq (x:Marks):List D:=[.w 1 (x.grades.map ze8),.w 1 (x.components.map ze8)]
theorem qYb (x:Marks):FrzL (qIq x) (qAf x):=.cons (.map fun y=>qAl y) (.cons (.map fun y=>qAl y) (.nil))
structure Slips where
 falls:Int
 seconds:Int
 other:Int
 deriving Inhabited,DecidableEq
def qOF (x:Slips):List D:=[.v (.int .i64 x.falls),.v (.int .i64 x.seconds),.v (.int .i64 x.other)]
structure Performance where
 items:List Item
 marks:Marks
 slips:Slips
 deriving Inhabited,DecidableEq
def qHY (x:Performance):List D:=[.s (x.items.map ze1),.s (x.marks.grades.map ze3),.s (x.marks.components.map ze3),.v (.int .i64 x.slips.falls),.v (.int .i64 x.slips.seconds),.v (.int .i64 x.slips.other)]
def qKv (x:Performance):List D:=[.w 3 (x.items.map qCU),.w 1 (x.marks.grades.map ze8),.w 1 (x.marks.components.map ze8),.v (.int .i64 x.slips.falls),.v (.int .i64 x.slips.seconds),.v (.int .i64 x.slips.other)]
theorem qVC (x:Performance):FrzL (qKv x) (qHY x):=.cons (.map fun y=>qGs y) (.cons (.map fun y=>qAl y) (.cons (.map fun y=>qAl y) (.cons (.vs rfl) (.cons (.vs rfl) (.cons (.vs rfl) (.nil))))))
structure CsState where
 code:Code
 p:Performance
 factor:Int
 results:List Result
 no:List Int
 what:List Int
 lines:Int
 deriving Inhabited,DecidableEq
def qS1 (x:CsState):List D:=[.s (x.code.elements.map ze5),.s (x.code.limits.map ze0),.v (.int .i64 x.code.repeats),.v (.int .i64 x.code.bonus),.v (.int .i64 x.code.keeps),.v (.int .i64 x.code.fall),.s (x.p.items.map ze1),.s (x.p.marks.grades.map ze3),.s (x.p.marks.components.map ze3),.v (.int .i64 x.p.slips.falls),.v (.int .i64 x.p.slips.seconds),.v (.int .i64 x.p.slips.other),.v (.int .i64 x.factor),.s (x.results.map ze6),.s (x.no.map ze0),.s (x.what.map ze0),.v (.int .i64 x.lines)]
def ze9 (x:CsState):List D:=[.s (x.code.elements.map ze5),.s (x.code.limits.map ze0),.v (.int .i64 x.code.repeats),.v (.int .i64 x.code.bonus),.v (.int .i64 x.code.keeps),.v (.int .i64 x.code.fall),.s (x.p.items.map ze1),.s (x.p.marks.grades.map ze3),.s (x.p.marks.components.map ze3),.v (.int .i64 x.p.slips.falls),.v (.int .i64 x.p.slips.seconds),.v (.int .i64 x.p.slips.other),.v (.int .i64 x.factor),.s (x.results.map ze6),.w 1 (x.no.map ze0),.w 1 (x.what.map ze0),.v (.int .i64 x.lines)]
def ze7 (x:CsState) (i0 i1:Nat):List D:=[.s (x.code.elements.map ze5),.s (x.code.limits.map ze0),.v (.int .i64 x.code.repeats),.v (.int .i64 x.code.bonus),.v (.int .i64 x.code.keeps),.v (.int .i64 x.code.fall),.s (x.p.items.map ze1),.s (x.p.marks.grades.map ze3),.s (x.p.marks.components.map ze3),.v (.int .i64 x.p.slips.falls),.v (.int .i64 x.p.slips.seconds),.v (.int .i64 x.p.slips.other),.v (.int .i64 x.factor),.s (x.results.map ze6),.R i0,.R i1,.v (.int .i64 x.lines)]
theorem qA3 {σ:St} {x:CsState} {i0 i1:Nat} (h0:get σ.h i0=some (.row 1 (x.no.map ze0))) (h1:get σ.h i1=some (.row 1 (x.what.map ze0))):qMQ σ (ze7 x i0 i1) (ze9 x) [i0,i1]:=zC .s (zC .s (zC .v (zC .v (zC .v (zC .v (zC .s (zC .s (zC .s (zC .v (zC .v (zC .v (zC .v (zC .s (zC (.rowR h0) (zC (.rowR h1) (zC .v (zCn)))))))))))))))))
theorem qXU (x:CsState):FrzL (ze9 x) (qS1 x):=.cons (.vs rfl) (.cons (.vs rfl) (.cons (.vs rfl) (.cons (.vs rfl) (.cons (.vs rfl) (.cons (.vs rfl) (.cons (.vs rfl) (.cons (.vs rfl) (.cons (.vs rfl) (.cons (.vs rfl) (.cons (.vs rfl) (.cons (.vs rfl) (.cons (.vs rfl) (.cons (.vs rfl) (.cons (.map fun y=>.vs rfl) (.cons (.map fun y=>.vs rfl) (.cons (.vs rfl) (.nil)))))))))))))))))
structure ScriptState where
 code:Code
 performance:Performance
 factor:Int
 results:List Result
 deriving Inhabited,DecidableEq
def qPc (x:ScriptState):List D:=[.s (x.code.elements.map ze5),.s (x.code.limits.map ze0),.v (.int .i64 x.code.repeats),.v (.int .i64 x.code.bonus),.v (.int .i64 x.code.keeps),.v (.int .i64 x.code.fall),.s (x.performance.items.map ze1),.s (x.performance.marks.grades.map ze3),.s (x.performance.marks.components.map ze3),.v (.int .i64 x.performance.slips.falls),.v (.int .i64 x.performance.slips.seconds),.v (.int .i64 x.performance.slips.other),.v (.int .i64 x.factor),.s (x.results.map ze6)]
def qHp (x:ScriptState):List D:=[.s (x.code.elements.map ze5),.s (x.code.limits.map ze0),.v (.int .i64 x.code.repeats),.v (.int .i64 x.code.bonus),.v (.int .i64 x.code.keeps),.v (.int .i64 x.code.fall),.s (x.performance.items.map ze1),.s (x.performance.marks.grades.map ze3),.s (x.performance.marks.components.map ze3),.v (.int .i64 x.performance.slips.falls),.v (.int .i64 x.performance.slips.seconds),.v (.int .i64 x.performance.slips.other),.v (.int .i64 x.factor),.w 2 (x.results.map qGA)]
def qH4 (x:ScriptState) (i0:Nat):List D:=[.s (x.code.elements.map ze5),.s (x.code.limits.map ze0),.v (.int .i64 x.code.repeats),.v (.int .i64 x.code.bonus),.v (.int .i64 x.code.keeps),.v (.int .i64 x.code.fall),.s (x.performance.items.map ze1),.s (x.performance.marks.grades.map ze3),.s (x.performance.marks.components.map ze3),.v (.int .i64 x.performance.slips.falls),.v (.int .i64 x.performance.slips.seconds),.v (.int .i64 x.performance.slips.other),.v (.int .i64 x.factor),.R i0]
theorem qAJ {σ:St} {x:ScriptState} {i0:Nat} (h0:get σ.h i0=some (.row 2 (x.results.map qGA))):qMQ σ (qH4 x i0) (qHp x) [i0]:=zC .s (zC .s (zC .v (zC .v (zC .v (zC .v (zC .s (zC .s (zC .s (zC .v (zC .v (zC .v (zC .v (zC (.rowR h0) (zCn))))))))))))))
theorem qVD (x:ScriptState):FrzL (qHp x) (qPc x):=.cons (.vs rfl) (.cons (.vs rfl) (.cons (.vs rfl) (.cons (.vs rfl) (.cons (.vs rfl) (.cons (.vs rfl) (.cons (.vs rfl) (.cons (.vs rfl) (.cons (.vs rfl) (.cons (.vs rfl) (.cons (.vs rfl) (.cons (.vs rfl) (.cons (.vs rfl) (.cons (.map fun y=>qHw y) (.nil))))))))))))))
def qED (judges:Int):Nat→Int→List (List Int)→Option (List (List Int))
 |0,_,_=>none
 |k21+1,v32,v33 =>
  cond (decide (v32>0))
   ((qAz (decide (0≤judges)&&qAh 8 judges.toNat)).bind fun u35 =>
   (qAz (qAh 24 (v33.length+([(List.replicate judges.toNat (0:Int))]).length))).bind fun u37 =>
   qED judges k21 (w64 (v32-1)) (v33++[(List.replicate judges.toNat (0:Int))]))
   (some v33)
def qEK (judges:Int) (v18:List (List Int)):Nat→List (List Int)→Int→Option Marks
 |0,_,_=>none
 |k39+1,v50,v51 =>
  cond (decide (v51<3))
   ((qAz (decide (0≤judges)&&qAh 8 judges.toNat)).bind fun u53 =>
   (qAz (qAh 24 (v50.length+([(List.replicate judges.toNat (0:Int))]).length))).bind fun u55 =>
   qEK judges v18 k39 (v50++[(List.replicate judges.toNat (0:Int))]) (w64 (v51+1)))
   (some (Marks.mk v18 v50))
def qDE (fl:Nat) (items:Int) (judges:Int):Option Marks :=
 (qED judges fl items []).bind fun v18 =>
 qEK judges v18 fl [] 0
theorem qIw (fl:Nat) (items:Int) (judges:Int) (r:Marks) (hH:qDE fl items judges=some r):qAC prog 102 [items,judges] (.g (qIq r)):=by
 refine fns T func102 ?_
 refine go ?_
 refine AO.x (als T 1) (go ?_)
 refine AO.x (als T 2) ?_
 refine AO.se T [.w 0 [],.w 0 []] ?_
 refine AO.n ?_
 obtain⟨o19,hH,hK20⟩:=zB hH
 refine AW.seqJ (fun s:List (List Int)=>(⟨[(1,judges),(4,.p 1 0),(5,.p 2 0)],[(1,.box [.w 0 [],.w 0 []]),(2,.box [.R 8,.w 0 []]),(8,ro 1 ze8 s)],31,[]⟩:St)) (fun s=>s=o19) ?_ ?_
 refine AW.b (AW.loopS (fun s:Nat×Int×(List (List Int))=>(⟨[(0,s.2.1),(1,judges),(4,.p 1 0),(5,.p 2 0)],[(1,.box [.w 0 [],.w 0 []]),(2,.box [.R 17,.w 0 []]),(17,ro 1 ze8 s.2.2)],31,[]⟩:St)) (fun s=>qED judges s.1 s.2.1 s.2.2=some o19) (fun s=>s.1) (fl,items,[]) hH ?_ ?_)
 refine Le.trans (Le.voidBox 2 0 17 1 rfl rfl rfl rfl) ?_
 exact Le.ct 0 0
 rintro⟨k21,v32,v33⟩ hH
 try dsimp only at hH⊢
 rcases k21 with _|k21
 cases (show none=some _ from hH)
 rw[qED]at hH
 refine go ?_
 refine AW.cH hH (fun _ hH=>?_) (fun hc hH=>?_)
 refine go ?_
 obtain⟨u35,hx36,u37,hx38,hH⟩:=qAI hH
 refine AW.drawn 5 18 [] mix (by kernel_rfl) rfl ?_
 refine go ?_
 refine AD.q (FStep.make T rfl rfl rfl rfl rfl rfl rfl (f:=ze0) (zo:=0) (by repeat constructor) (by decide) rfl rfl (Bool.and_eq_true_iff.1 (qAS (hx36))).1 (Bool.and_eq_true_iff.1 (qAS (hx36))).2 rfl) (by simp[qAu]) (Nat.le_succ _) rfl ?_
 refine AD.kk (FStep.mk_o T rfl rfl rfl rfl rfl rfl rfl rfl (f:=ze8) (l:=[(List.replicate judges.toNat (0:Int))]) (ids:=[18]) rfl rfl (fun _=>rfl) (by exact zC (.rowR rfl) (zCn)) (by decide) rfl rfl rfl rfl) ?_
 refine AD.nil (AO.x (qE2 T rfl 20 rfl rfl rfl rfl rfl (by decide) rfl rfl rfl rfl rfl (qAS (hx38)) rfl rfl) ?_)
 refine AO.pu T ?_
 refine AO.se T [.R 20,.w 0 []] ?_
 refine go ?_
 refine⟨(k21,w64 (v32-1),(v33++[(List.replicate judges.toNat (0:Int))])),hH,Nat.lt_succ_self _,?_⟩
 exact Le.ct 20 17
 refine AW.exit ?_
 refine⟨_,zS hH,?_⟩
 exact Le.ct 17 8
 rintro v18 hs
 subst hs
 replace hH:=hK20
 try dsimp only[qLN,qJm]at hH
 try dsimp only
 refine go ?_
 refine AW.loopS (fun s:Nat×(List (List Int))×Int=>(⟨[(1,judges),(4,.p 1 0),(5,.p 2 0),(6,s.2.2)],[(1,.box [.w 0 [],.w 0 []]),(2,.box [.R 8,.R 26]),(8,ro 1 ze8 v18),(26,ro 1 ze8 s.2.1)],31,[]⟩:St)) (fun s=>qEK judges v18 s.1 s.2.1 s.2.2=some r) (fun s=>s.1) (fl,[],0) hH ?_ ?_
 refine Le.trans (Le.voidBox 2 1 26 1 rfl rfl rfl rfl) ?_
 exact Le.ct 0 0
 rintro⟨k39,v50,v51⟩ hH
 try dsimp only at hH⊢
 rcases k39 with _|k39
 cases (show none=some _ from hH)
 rw[qEK]at hH
 refine go ?_
 refine AW.cH hH (fun _ hH=>?_) (fun _ hH=>?_)
 refine go ?_
 obtain⟨u53,hx54,u55,hx56,hH⟩:=qAI hH
 refine AW.drawn 5 27 [] mix (by kernel_rfl) rfl ?_
 refine go ?_
 refine AD.q (FStep.make T rfl rfl rfl rfl rfl rfl rfl (f:=ze0) (zo:=0) (by repeat constructor) (by decide) rfl rfl (Bool.and_eq_true_iff.1 (qAS (hx54))).1 (Bool.and_eq_true_iff.1 (qAS (hx54))).2 rfl) (by simp[qAu]) (Nat.le_succ _) rfl ?_
 refine AD.kk (FStep.mk_o T rfl rfl rfl rfl rfl rfl rfl rfl (f:=ze8) (l:=[(List.replicate judges.toNat (0:Int))]) (ids:=[27]) rfl rfl (fun _=>rfl) (by exact zC (.rowR rfl) (zCn)) (by decide) rfl rfl rfl rfl) ?_
 refine AD.nil (AO.x (qE2 T rfl 29 rfl rfl rfl rfl rfl (by decide) rfl rfl rfl rfl rfl (qAS (hx56)) rfl rfl) ?_)
 refine AO.pu T ?_
 refine AO.se T [.R 8,.R 29] ?_
 refine go ?_
 refine⟨(k39,(v50++[(List.replicate judges.toNat (0:Int))]),w64 (v51+1)),hH,Nat.lt_succ_self _,?_⟩
 exact Le.ct 29 26
 refine go ?_
 refine AO.se T [.R 8,.R 26] ?_
 refine go ?_
 exact fin
def qHr (fl:Nat):Option CsState :=
 (qDE fl 0 3).bind fun x1 =>
 some (CsState.mk (Code.mk [(Element.mk (⟨#[51,65]⟩:ByteArray) 0 0 800)] ([7,7,7,7,7]:List Int) 2 10 80 100) (Performance.mk [] x1 (Slips.mk 0 0 0)) 100 [] [] [] 0)
theorem qO4 (fl:Nat) (r:CsState) (hH:qHr fl=some r):qAC prog 73 [] (.pn (ze9 r)):=by
 refine fns T func73 ?_
 refine go ?_
 refine AO.x (bxs T 1) (go ?_)
 refine AO.x (mks T 2 ze5 ([(Element.mk (⟨#[51,65]⟩:ByteArray) 0 0 800)])) ?_
 refine AO.x (mks T 3 ze0 (([7,7,7,7,7]:List Int))) (go ?_)
 refine AO.se T [.R 2,.R 3,(2:Int),(10:Int),(80:Int),(100:Int),.w 0 [],.w 0 [],.w 0 [],(0:Int),(0:Int),(0:Int),(100:Int),.w 0 [],.w 0 [],.w 0 [],(0:Int)] ?_
 refine go ?_
 obtain⟨x1,hx2,hH⟩:=zB hH
 refine go ?_
 refine AO.x (qAU rfl 4 rfl rfl rfl (qIw fl _ _ _ (hx2)) rfl rfl rfl) (go ?_)
 refine AO.se T [.R 2,.R 3,(2:Int),(10:Int),(80:Int),(100:Int),.w 0 [],.R 4,.R 5,(0:Int),(0:Int),(0:Int),(100:Int),.w 0 [],.w 0 [],.w 0 [],(0:Int)] ?_
 refine gs6 ?_
 refine AW.le (Le.nilSBox 1 6 rfl rfl) ?_
 refine AW.le (Le.nilSBox 1 13 rfl rfl) ?_
 refine AW.le (Le.fM 5 (g:=ze3) rfl (fun y=>qAl y)) ?_
 refine AW.le (Le.fM 4 (g:=ze3) rfl (fun y=>qAl y)) ?_
 refine AW.le (Le.fM 3 (g:=ze0) rfl (fun y=>.vs rfl)) ?_
 refine AW.le (Le.fM 2 (g:=ze5) rfl (fun y=>.vs rfl)) ?_
 refine AW.t ?_
 have hR:=zS hH;subst hR
 exact retQ.i [1] rfl (.c (.pb rfl (zC .s (zC .s (zC .v (zC .v (zC .v (zC .v (zC .s (zC .s (zC .s (zC .v (zC .v (zC .v (zC .v (zC .s (zC .nil (zC .nil (zC .v (zCn))))))))))))))))))))
def qDV (sA:ByteArray) (b:Int):Nat→List ByteArray→Int→Int→Option ((List ByteArray))
 |0,_,_,_=>none
 |k1+1,v17,v18,v19 =>
  cond (decide (v19<(sA.size:Int)))
   ((qNk sA v19).bind fun b21 =>
   cond ((b21.toNat:Int)==b)
    ((qAz (inB v18 v19 sA.size)).bind fun u23 =>
    (qAz (qAh 16 (v17.length+([(ByteArray.extract sA v18.toNat v19.toNat)]).length))).bind fun u25 =>
    qDV sA b k1 (v17++[(ByteArray.extract sA v18.toNat v19.toNat)]) (w64 (v19+1)) (w64 (v19+1)))
    (qDV sA b k1 v17 v18 (w64 (v19+1))))
   ((qAz (inB v18 sA.size sA.size)).bind fun u27 =>
   (qAz (qAh 16 (v17.length+([(ByteArray.extract sA v18.toNat sA.size)]).length))).bind fun u29 =>
   some (v17++[(ByteArray.extract sA v18.toNat sA.size)]))
def qA1 (fl:Nat) (sA:ByteArray) (b:Int):Option (List ByteArray) :=
 qDV sA b fl [] 0 0
theorem qHF (fl:Nat) (sA:ByteArray) (b:Int) (r:(List ByteArray)) (hH:qA1 fl sA b=some r):qAC prog 92 [.v (.string sA),.v (.int .u8 b)] (.w 1 (r.map ze2)):=by
 refine fns T func92 ?_
 refine go ?_
 refine AW.loopS (fun s:Nat×(List ByteArray)×Int×Int=>(⟨[(0,.v (.string sA)),(1,.v (.int .u8 b)),(5,.R 4),(6,s.2.2.1),(7,s.2.2.2)],[(4,ro 1 ze2 s.2.1)],34,[]⟩:St)) (fun s=>qDV sA b s.1 s.2.1 s.2.2.1 s.2.2.2=some r) (fun s=>s.1) (fl,[],0,0) hH ?_ ?_
 refine Le.trans (Le.void 5 4 1 rfl rfl) ?_
 exact Le.ct 0 0
 rintro⟨k1,v17,v18,v19⟩ hH
 try dsimp only at hH⊢
 rcases k1 with _|k1
 cases (show none=some _ from hH)
 rw[qDV]at hH
 refine go ?_
 refine AW.cH hH (fun hc hH=>?_) (fun _ hH=>?_)
 refine go ?_
 obtain⟨b21,hx22,hH⟩:=zB hH
 refine go ?_
 refine AO.w (qBL T rfl rfl rfl rfl (hx22)) (go ?_)
 refine AW.cH hH (fun _ hH=>?_) (fun hc hH=>?_)
 refine AW.q ?_
 obtain⟨u23,hx24,u25,hx26,hH⟩:=qAI hH
 refine go ?_
 refine AO.w (qQ6 T rfl rfl rfl rfl rfl (qAS (hx24))) ?_
 refine AO.x (mks T 5 ze2 ([(ByteArray.extract sA v18.toNat v19.toNat)])) ?_
 refine AO.x (rvs T 6 (hfit:=by exact qAS (hx26))) (go ?_)
 refine⟨(k1,(v17++[(ByteArray.extract sA v18.toNat v19.toNat)]),w64 (v19+1),w64 (v19+1)),hH,Nat.lt_succ_self _,?_⟩
 exact Le.ct 6 4
 refine go ?_
 refine⟨(k1,v17,v18,w64 (v19+1)),hH,Nat.lt_succ_self _,?_⟩
 exact Le.ct 0 0
 refine go ?_
 obtain⟨u27,hx28,u29,hx30,hH⟩:=qAI hH
 refine go ?_
 refine AO.w (qFB T rfl rfl rfl rfl (qAS (hx28))) ?_
 refine AO.x (mks T 7 ze2 ([(ByteArray.extract sA v18.toNat sA.size)])) ?_
 refine AO.x (rvs T 8 (hfit:=by exact qAS (hx30))) (go ?_)
 exact fin
def qFe (fl:Nat) (script:ByteArray):Option ((List ByteArray)×Bool) :=
 (opt ((!(decide ((script.size:Int)>2000)))&&(!decide (script=(⟨#[]⟩:ByteArray)))) default (qNk script (w64 ((script.size:Int)-1)))).bind fun b1 =>
 cond (decide ((script.size:Int)>2000)||((!decide (script=(⟨#[]⟩:ByteArray)))&&((b1.toNat:Int) != 10)))
  (some ([],false))
  ((qA1 fl script 10).bind fun x4 =>
  (qFj x4 (w64 ((x4.length:Int)-1))).bind fun x6 =>
  some (x6,decide ((x6.length:Int)≤40)))
theorem qOu (fl:Nat) (script:ByteArray) (r:((List ByteArray)×Bool)) (hH:qFe fl script=some r):qAC prog 67 [.v (.string script)] (.t [.s (r.1.map ze2),.v (.bool r.2)]):=by
 refine fns T func67 ?_
 refine gs7 ?_
 obtain⟨b1,hx2,hH⟩:=zB hH
 refine gs5 ?_
 refine AO.g0 T ?_
 refine AO.g1 T 9 ?_
 refine AO.g1 T 10 ?_
 refine AO.g0 T ?_
 refine AO.g0 T ?_
 refine AO.g1 T 13 ?_
 refine AO.d1 14 (fun hg=>aws) ?_
 refine AO.d2 12 15 (fun hg=>qBL T rfl rfl rfl rfl (qEv hx2 hg)) ?_
 refine AO.g1 T 16 ?_
 refine AO.d [11] rfl ⟨fun h=>h,trivial⟩ (fun hg=>zN rfl rfl rfl (by rw[hg];exact Bool.true_and _)) rfl ?_
 refine gs2 ?_
 refine AW.cH hH (fun _ hH=>?_) (fun _ hH=>?_)
 refine gs6 ?_
 exact fin
 refine gs2 ?_
 obtain⟨x4,hx5,hH⟩:=zB hH
 refine gs2 ?_
 refine AO.x (qAU rfl 1 rfl rfl rfl (qHF fl _ _ _ (hx5)) rfl rfl rfl) ?_
 refine gs3 ?_
 obtain⟨x6,hx7,hH⟩:=zB hH
 refine AW.le (Le.fM 1 (g:=ze2) rfl (fun y=>.vs rfl)) ?_
 refine gs5 ?_
 refine AO.w (qEJ T rfl rfl rfl rfl rfl (hx7) (fun _=>rfl)) ?_
 refine gs2 ?_
 refine AW.le (Le.ct 0 0 (σ':=(⟨[(4,sv ze2 x6)],[],31,[]⟩:St))) ?_
 iterate 10 refine gs ?_
 exact fin
def qJ0 (l:List ByteArray):Option (List ByteArray) :=
 (qAz (qAh 16 l.length)).bind fun u1 =>
 some l
theorem qPJ (l:List ByteArray) (r:(List ByteArray)) (hH:qJ0 l=some r):qAC prog 124 [.s (List.map ze2 l)] (.w 1 (r.map ze2)):=by
 refine fns T func124 ?_
 refine gs5 ?_
 obtain⟨u1,hx2,hH⟩:=zB hH
 refine AW.r (AO.x (qGG T rfl rfl rfl rfl) ?_)
 refine AO.pu T ?_
 refine AO.x (qLK T rfl 1 rfl rfl rfl rfl rfl (by decide) (by decide) rfl rfl (fun _=>rfl) (qAS (hx2)) rfl rfl) ?_
 refine gs3 ?_
 exact fin
def qFE (l:List Int):Option (List Int) :=
 (qAz (qAh 8 l.length)).bind fun u1 =>
 some l
theorem qIT (l:List Int) (r:(List Int)) (hH:qFE l=some r):qAC prog 49 [.s (List.map ze0 l)] (.w 1 (r.map ze0)):=by
 refine fns T func49 ?_
 refine gs5 ?_
 obtain⟨u1,hx2,hH⟩:=zB hH
 refine AW.r (AO.x (qGG T rfl rfl rfl rfl) ?_)
 refine AO.pu T ?_
 refine AO.x (qLK T rfl 1 rfl rfl rfl rfl rfl (by decide) (by decide) rfl rfl (fun _=>rfl) (qAS (hx2)) rfl rfl) ?_
 refine gs3 ?_
 exact fin
def qEc:List Item→Nat→List Item→Option ((List Item))
 | [],k1,v20 =>
  some v20
 |y2::ys3,k1,v20 =>
  (qJ0 y2.names).bind fun x22 =>
  (qFE y2.marks).bind fun x24 =>
  (qAz (qAh 56 (v20.length+([(Item.mk x22 x24 y2.late)]).length))).bind fun u26 =>
  qEc ys3 (k1+1) (v20++[(Item.mk x22 x24 y2.late)])
def qGx (l:List Item):Option (List Item) :=
 qEc l 0 []
theorem qJy (l:List Item) (r:(List Item)) (hH:qGx l=some r):qAC prog 80 [.s (List.map ze1 l)] (.w 3 (r.map qCU)):=by
 refine fns T func80 ?_
 iterate 16 refine gs ?_
 refine AW.loopS (fun s:Nat×(List Item)=>(⟨[(3,.R 10),(6,sv ze1 l),(7,(l.length:Int)),(8,(s.1:Int))],[(10,ro 3 qCU s.2)],26,[]⟩:St)) (fun s=>s.1≤l.length∧qEc (l.drop s.1) s.1 s.2=some r) (fun s=>l.length-s.1) (0,[]) ⟨Nat.zero_le _,hH⟩ ?_ ?_
 refine Le.trans (Le.void 3 10 3 rfl rfl) ?_
 exact Le.ct 0 0
 rintro⟨k1,v20⟩ ⟨hk,hH⟩
 try dsimp only at hH⊢
 refine AW.boundM (t:=6) (l:=l) rfl (fun hb5=>?_)
 rcases hd4:l.drop k1 with _|⟨y2,ys3⟩
 rw[hd4,qEc]at hH
 have hlt6:=qAF hd4
 iterate 13 refine gs ?_
 exact fin
 rw[hd4,qEc]at hH
 have hlt6:=qAG hd4
 iterate 13 refine gs ?_
 refine AO.x (als T 11) ?_
 refine AO.se T [sv ze2 y2.names,sv ze0 y2.marks,.v (.bool y2.late)] ?_
 refine AO.n ?_
 obtain⟨x22,hx23,x24,hx25,u26,hx27,hH⟩:=qBB hH
 refine AW.drawn 11 12 [] mix (by kernel_rfl) rfl ?_
 refine gs3 ?_
 refine AD.q (FStep.call rfl rfl rfl rfl rfl (qPJ _ _ (hx23)) rfl rfl) (qBF _ _) (qDh _ _) rfl ?_
 refine gs2 ?_
 refine AD.q (FStep.call rfl rfl rfl rfl rfl (qIT _ _ (hx25)) rfl rfl) (qBF _ _) (qDh _ _) rfl ?_
 refine gs2 ?_
 refine AD.pured T (d:=.g [.R 12,.R 13,.v (.bool y2.late)]) rfl rfl rfl rfl ?_
 refine AD.kk (FStep.mk_o T rfl rfl rfl rfl rfl rfl rfl rfl (f:=qCU) (l:=[(Item.mk x22 x24 y2.late)]) (ids:=[12,13]) rfl rfl (fun _=>rfl) (by exact zC (.rowR rfl) (zC (.rowR rfl) (zC .v (zCn)))) (by decide) rfl rfl rfl rfl) ?_
 refine AD.nil (AO.x (qE2 T rfl 15 rfl rfl rfl rfl rfl (by decide) rfl rfl rfl rfl rfl (qAS (hx27)) rfl rfl) ?_)
 refine gs6 ?_
 refine⟨(k1+1,(v20++[(Item.mk x22 x24 y2.late)])),⟨hlt6,(zds hd4▸hH)⟩,qCC hlt6,?_⟩
 exact Le.ct 15 10
def qEt (l:List Item) (x1:(List Item)):Nat→List Item→Int→Option ((List Item))
 |0,_,_=>none
 |k3+1,v10,v11 =>
  cond (decide (v11<(x1.length:Int)))
   ((qAV v10 v11).bind fun x13 =>
   qEt l x1 k3 (v10.set v11.toNat (Item.mk x13.names x13.marks (decide ((w64 (2*v11))≥(l.length:Int))))) (w64 (v11+1)))
   (some v10)
def qG9 (fl:Nat) (l:List Item):Option (List Item) :=
 (qGx l).bind fun x1 =>
 qEt l x1 fl x1 0
theorem qPd (fl:Nat) (l:List Item) (r:(List Item)) (hH:qG9 fl l=some r):qAC prog 128 [.s (List.map ze1 l)] (.w 3 (r.map qCU)):=by
 refine fns T func128 ?_
 refine go ?_
 obtain⟨x1,hx2,hH⟩:=zB hH
 refine go ?_
 refine AO.x (qAU rfl 1 rfl rfl rfl (qJy _ _ (hx2)) rfl rfl rfl) (go ?_)
 refine AW.loopS (fun s:Nat×(List Item)×Int=>(⟨[(0,sv ze1 l),(3,.R 1),(8,(x1.length:Int)),(9,s.2.2)],[(1,ro 3 qCU s.2.1)],23,[]⟩:St)) (fun s=>qEt l x1 s.1 s.2.1 s.2.2=some r) (fun s=>s.1) (fl,x1,0) hH ?_ ?_
 exact Le.ct 0 0
 rintro⟨k3,v10,v11⟩ hH
 try dsimp only at hH⊢
 rcases k3 with _|k3
 cases (show none=some _ from hH)
 rw[qEt]at hH
 refine go ?_
 refine AW.cH hH (fun _ hH=>?_) (fun _ hH=>?_)
 refine go ?_
 obtain⟨x13,hx14,hH⟩:=zB hH
 refine go ?_
 refine AO.x (zSr T rfl rfl rfl rfl rfl (zgG (hx14)) rfl rfl rfl rfl (u':=(Item.mk x13.names x13.marks (decide ((w64 (2*v11))≥(l.length:Int))))) rfl rfl) (go ?_)
 refine⟨(k3,(v10.set v11.toNat (Item.mk x13.names x13.marks (decide ((w64 (2*v11))≥(l.length:Int))))),w64 (v11+1)),hH,Nat.lt_succ_self _,?_⟩
 exact Le.ct 0 0
 refine go ?_
 exact fin
def qAZ (n:Int) (lo:Int) (hi:Int):Option Bool :=
 some (decide (n≥lo)&&decide (n≤hi))
theorem qAb (n:Int) (lo:Int) (hi:Int) (r:Bool) (hH:qAZ n lo hi=some r):qAC prog 206 [n,lo,hi] (.v (.bool r)):=by
 refine fns T func206 ?_
 refine go ?_
 refine AO.g0 T ?_
 refine AO.g0 T ?_
 refine AO.g2 T 11 12 ?_
 refine go ?_
 exact fin
def qCa (lo:Int) (hi:Int):List Int→Nat→Option Bool
 | [],k1 =>
  some true
 |y2::ys3,k1 =>
  (qAZ y2 lo hi).bind fun x12 =>
  cond (!x12)
   (some false)
   (qCa lo hi ys3 (k1+1))
def qCp (l:List Int) (lo:Int) (hi:Int):Option Bool :=
 qCa lo hi l 0
theorem qHG (l:List Int) (lo:Int) (hi:Int) (r:Bool) (hH:qCp l lo hi=some r):qAC prog 262 [.s (List.map ze0 l),lo,hi] (.v (.bool r)):=by
 refine fns T func262 ?_
 refine go ?_
 refine AW.loopS (fun s:Nat=>(⟨[(1,lo),(2,hi),(9,sv ze0 l),(10,(l.length:Int)),(11,(s:Int))],[],21,[]⟩:St)) (fun s=>s≤l.length∧qCa lo hi (l.drop s) s=some r) (fun s=>l.length-s) 0 ⟨Nat.zero_le _,hH⟩ ?_ ?_
 exact Le.ct 0 0
 rintro k1 ⟨hk,hH⟩
 try dsimp only at hH⊢
 refine AW.boundM (t:=9) (l:=l) rfl (fun hb5=>?_)
 rcases hd4:l.drop k1 with _|⟨y2,ys3⟩
 rw[hd4,qCa]at hH
 have hlt6:=qAF hd4
 refine go ?_
 exact fin
 rw[hd4,qCa]at hH
 have hlt6:=qAG hd4
 refine go ?_
 obtain⟨x12,hx13,hH⟩:=zB hH
 refine go ?_
 refine AO.w (cVs (qAb _ _ _ _ (hx13))) (go ?_)
 refine AW.cH hH (fun _ hH=>?_) (fun _ hH=>?_)
 refine go ?_
 exact fin
 refine go ?_
 refine⟨k1+1,⟨hlt6,(zds hd4▸hH)⟩,qCC hlt6,?_⟩
 exact Le.ct 0 0
def qCf:List Item→Nat→Option Bool
 | [],k1 =>
  some true
 |y2::ys3,k1 =>
  (qCp y2.marks 0 0).bind fun x12 =>
  cond (!x12)
   (some false)
   (qCf ys3 (k1+1))
def qLl (l:List Item):Option Bool :=
 qCf l 0
theorem qOx (l:List Item) (r:Bool) (hH:qLl l=some r):qAC prog 248 [.s (List.map ze1 l)] (.v (.bool r)):=by
 refine fns T func248 ?_
 refine go ?_
 refine AW.loopS (fun s:Nat=>(⟨[(5,sv ze1 l),(6,(l.length:Int)),(7,(s:Int))],[],16,[]⟩:St)) (fun s=>s≤l.length∧qCf (l.drop s) s=some r) (fun s=>l.length-s) 0 ⟨Nat.zero_le _,hH⟩ ?_ ?_
 exact Le.ct 0 0
 rintro k1 ⟨hk,hH⟩
 try dsimp only at hH⊢
 refine AW.boundM (t:=5) (l:=l) rfl (fun hb5=>?_)
 rcases hd4:l.drop k1 with _|⟨y2,ys3⟩
 rw[hd4,qCf]at hH
 have hlt6:=qAF hd4
 refine go ?_
 exact fin
 rw[hd4,qCf]at hH
 have hlt6:=qAG hd4
 refine go ?_
 refine AO.x (als T 3) ?_
 refine AO.se T [sv ze2 y2.names,sv ze0 y2.marks,.v (.bool y2.late)] ?_
 refine go ?_
 obtain⟨x12,hx13,hH⟩:=zB hH
 refine go ?_
 refine AO.w (cVs (qHG _ _ _ _ (hx13))) (go ?_)
 refine AW.cH hH (fun _ hH=>?_) (fun _ hH=>?_)
 refine go ?_
 exact fin
 refine go ?_
 refine⟨k1+1,⟨hlt6,(zds hd4▸hH)⟩,qCC hlt6,?_⟩
 exact Le.ct 0 0
def qAw:List Item→Nat→Int→Int→Option ((Int×Int))
 | [],k1,v9,v10 =>
  some (v9,v10)
 |y2::ys3,k1,v9,v10 =>
  cond (decide ((y2.names.length:Int)>1))
   (cond (decide ((y2.names.length:Int)>2))
    (qAw ys3 (k1+1) (w64 (v9+1)) (w64 (v10+1)))
    (qAw ys3 (k1+1) (w64 (v9+1)) v10))
   (cond (decide ((y2.names.length:Int)>2))
    (qAw ys3 (k1+1) v9 (w64 (v10+1)))
    (qAw ys3 (k1+1) v9 v10))
def qJa (l:List Item):Option (Int×Int) :=
 qAw l 0 0 0
theorem qMv (l:List Item) (r:(Int×Int)) (hH:qJa l=some r):qAC prog 249 [.s (List.map ze1 l)] (.t [.v (.int .i64 r.1),.v (.int .i64 r.2)]):=by
 refine fns T func249 ?_
 refine go ?_
 refine AW.loopS (fun s:Nat×Int×Int=>(⟨[(4,s.2.1),(5,s.2.2),(8,sv ze1 l),(9,(l.length:Int)),(10,(s.1:Int))],[],29,[]⟩:St)) (fun s=>s.1≤l.length∧qAw (l.drop s.1) s.1 s.2.1 s.2.2=some r) (fun s=>l.length-s.1) (0,0,0) ⟨Nat.zero_le _,hH⟩ ?_ ?_
 exact Le.ct 0 0
 rintro⟨k1,v9,v10⟩ ⟨hk,hH⟩
 try dsimp only at hH⊢
 refine AW.boundM (t:=8) (l:=l) rfl (fun hb5=>?_)
 rcases hd4:l.drop k1 with _|⟨y2,ys3⟩
 rw[hd4,qAw]at hH
 have hlt6:=qAF hd4
 refine go ?_
 exact fin
 rw[hd4,qAw]at hH
 have hlt6:=qAG hd4
 refine go ?_
 refine AO.x (als T 3) ?_
 refine AO.se T [sv ze2 y2.names,sv ze0 y2.marks,.v (.bool y2.late)] ?_
 refine go ?_
 refine AW.cH hH (fun hc hH=>?_) (fun hc hH=>?_)
 refine go ?_
 refine AW.cH hH (fun _ hH=>?_) (fun hc hH=>?_)
 refine go ?_
 refine⟨(k1+1,w64 (v9+1),w64 (v10+1)),⟨hlt6,(zds hd4▸hH)⟩,qCC hlt6,?_⟩
 exact Le.ct 0 0
 refine go ?_
 refine⟨(k1+1,w64 (v9+1),v10),⟨hlt6,(zds hd4▸hH)⟩,qCC hlt6,?_⟩
 exact Le.ct 0 0
 refine go ?_
 refine AW.cH hH (fun _ hH=>?_) (fun _ hH=>?_)
 refine go ?_
 refine⟨(k1+1,v9,w64 (v10+1)),⟨hlt6,(zds hd4▸hH)⟩,qCC hlt6,?_⟩
 exact Le.ct 0 0
 refine go ?_
 refine⟨(k1+1,v9,v10),⟨hlt6,(zds hd4▸hH)⟩,qCC hlt6,?_⟩
 exact Le.ct 0 0
def qD2 (name:ByteArray):List Element→Nat→Option Int
 | [],k1 =>
  some (-1)
 |y2::ys3,k1 =>
  cond (decide (y2.name=name))
   (some (k1:Int))
   (qD2 name ys3 (k1+1))
def qF8 (c:Code) (name:ByteArray):Option Int :=
 qD2 name c.elements 0
theorem qHm (c:Code) (name:ByteArray) (r:Int) (hH:qF8 c name=some r):qAC prog 337 [.g (ze4 c),.v (.string name)] (.v (.int .i64 r)):=by
 refine fns T func337 ?_
 refine go ?_
 refine AO.x (bxs T 1) (go ?_)
 refine AW.loopS (fun s:Nat=>(⟨[(1,.v (.string name)),(8,sv ze5 c.elements),(9,(c.elements.length:Int)),(10,(s:Int))],[],21,[]⟩:St)) (fun s=>s≤c.elements.length∧qD2 name (c.elements.drop s) s=some r) (fun s=>c.elements.length-s) 0 ⟨Nat.zero_le _,hH⟩ ?_ ?_
 exact Le.ct 0 0
 rintro k1 ⟨hk,hH⟩
 try dsimp only at hH⊢
 refine AW.boundM (t:=8) (l:=c.elements) rfl (fun hb5=>?_)
 rcases hd4:c.elements.drop k1 with _|⟨y2,ys3⟩
 rw[hd4,qD2]at hH
 have hlt6:=qAF hd4
 refine go ?_
 exact fin
 rw[hd4,qD2]at hH
 have hlt6:=qAG hd4
 refine go ?_
 refine AO.x (als T 4) ?_
 refine AO.pu T ?_
 refine AO.se T [.v (.string y2.name),y2.family,y2.level,y2.base] ?_
 refine go ?_
 refine AW.cH hH (fun _ hH=>?_) (fun _ hH=>?_)
 refine go ?_
 exact fin
 refine go ?_
 refine⟨k1+1,⟨hlt6,(zds hd4▸hH)⟩,qCC hlt6,?_⟩
 exact Le.ct 0 0
def qHN (c:Code) (it:Item):Option Int :=
 (qAV it.names 0).bind fun x1 =>
 (qF8 c x1).bind fun x3 =>
 cond (decide (x3<0))
  (some (-1))
  ((qAV c.elements x3).bind fun x5 =>
  some x5.family)
theorem qN4 (c:Code) (it:Item) (r:Int) (hH:qHN c it=some r):qAC prog 301 [.g (ze4 c),.g (ze1 it)] (.v (.int .i64 r)):=by
 refine fns T func301 ?_
 refine go ?_
 refine AO.x (bxs T 1) ?_
 refine AO.x (bxs T 2) (go ?_)
 obtain⟨x1,hx2,x3,hx4,hH⟩:=qAI hH
 refine AW.drawn 5 3 [] mix (by kernel_rfl) rfl ?_
 refine go ?_
 refine AO.w (cVs (qHm _ _ _ (hx4))) (go ?_)
 refine AW.cH hH (fun _ hH=>?_) (fun _ hH=>?_)
 refine go ?_
 exact fin
 refine go ?_
 obtain⟨x5,hx6,hH⟩:=zB hH
 refine go ?_
 exact fin
def qBg (c:Code):List Item→Nat→List Int→Option ((List Int))
 | [],k3,v18 =>
  some v18
 |y4::ys5,k3,v18 =>
  (qHN c y4).bind fun x20 =>
  cond (decide (x20≥0))
   ((qAV v18 x20).bind fun x22 =>
   qBg c ys5 (k3+1) (v18.set x20.toNat (w64 (x22+1))))
   (qBg c ys5 (k3+1) v18)
def qLC (c:Code) (l:List Item):Option (List Int) :=
 (qAz (decide (0≤5)&&qAh 8 (5:Int).toNat)).bind fun u1 =>
 qBg c l 0 (List.replicate (5:Int).toNat (0:Int))
theorem qNo (c:Code) (l:List Item) (r:(List Int)) (hH:qLC c l=some r):qAC prog 250 [.g (ze4 c),.s (List.map ze1 l)] (.w 1 (r.map ze0)):=by
 refine fns T func250 ?_
 refine gs2 ?_
 refine AO.x (bxs T 1) ?_
 refine gs3 ?_
 obtain⟨u1,hx2,hH⟩:=zB hH
 refine AW.r (AO.x (qL4 T rfl 2 rfl rfl rfl rfl rfl (f:=ze0) (zo:=0) (by repeat constructor) (by decide) rfl rfl (Bool.and_eq_true_iff.1 (qAS (hx2))).1 (Bool.and_eq_true_iff.1 (qAS (hx2))).2 rfl rfl) ?_)
 iterate 10 refine gs ?_
 refine AW.loopS (fun s:Nat×(List Int)=>(⟨[(2,.p 1 0),(5,.R 2),(10,sv ze1 l),(11,(l.length:Int)),(12,(s.1:Int))],[(1,.box (ze4 c)),(2,ro 1 ze0 s.2)],29,[]⟩:St)) (fun s=>s.1≤l.length∧qBg c (l.drop s.1) s.1 s.2=some r) (fun s=>l.length-s.1) (0,(List.replicate (5:Int).toNat (0:Int))) ⟨Nat.zero_le _,hH⟩ ?_ ?_
 exact Le.ct 0 0
 rintro⟨k3,v18⟩ ⟨hk,hH⟩
 try dsimp only at hH⊢
 refine AW.boundM (t:=10) (l:=l) rfl (fun hb7=>?_)
 rcases hd6:l.drop k3 with _|⟨y4,ys5⟩
 rw[hd6,qBg]at hH
 have hlt8:=qAF hd6
 iterate 13 refine gs ?_
 exact fin
 rw[hd6,qBg]at hH
 have hlt8:=qAG hd6
 iterate 13 refine gs ?_
 refine AO.x (als T 5) ?_
 refine AO.se T [sv ze2 y4.names,sv ze0 y4.marks,.v (.bool y4.late)] ?_
 refine gs2 ?_
 obtain⟨x20,hx21,hH⟩:=zB hH
 refine gs3 ?_
 refine AO.w (cVs (qN4 _ _ _ (hx21))) ?_
 refine gs7 ?_
 refine AW.cH hH (fun _ hH=>?_) (fun _ hH=>?_)
 obtain⟨x22,hx23,hH⟩:=zB hH
 refine gs4 ?_
 refine AO.w (zLr T rfl rfl rfl rfl (zgG (hx23)) rfl rfl rfl) ?_
 refine gs2 ?_
 refine AO.x (zSr T rfl rfl rfl rfl rfl (zgG (hx23)) rfl rfl rfl rfl (u':=w64 (x22+1)) rfl rfl) ?_
 refine gs5 ?_
 refine⟨(k3+1,(v18.set x20.toNat (w64 (x22+1)))),⟨hlt8,(zds hd6▸hH)⟩,qCC hlt8,?_⟩
 exact Le.ct 0 0
 refine gs5 ?_
 refine⟨(k3+1,v18),⟨hlt8,(zds hd6▸hH)⟩,qCC hlt8,?_⟩
 exact Le.ct 0 0
def qDB (l:List Item):List Item→Nat→Option Bool
 | [],k1 =>
  some true
 |y2::ys3,k1 =>
  cond (!(y2.late==decide ((w64 (2*(k1:Int)))≥(l.length:Int))))
   (some false)
   (qDB l ys3 (k1+1))
def qMj (l:List Item):Option Bool :=
 qDB l l 0
theorem qPS (l:List Item) (r:Bool) (hH:qMj l=some r):qAC prog 251 [.s (List.map ze1 l)] (.v (.bool r)):=by
 refine fns T func251 ?_
 refine go ?_
 refine AW.loopS (fun s:Nat=>(⟨[(0,sv ze1 l),(5,sv ze1 l),(6,(l.length:Int)),(7,(s:Int))],[],21,[]⟩:St)) (fun s=>s≤l.length∧qDB l (l.drop s) s=some r) (fun s=>l.length-s) 0 ⟨Nat.zero_le _,hH⟩ ?_ ?_
 exact Le.ct 0 0
 rintro k1 ⟨hk,hH⟩
 try dsimp only at hH⊢
 refine AW.boundM (t:=0) (l:=l) rfl (fun hb5=>?_)
 rcases hd4:l.drop k1 with _|⟨y2,ys3⟩
 rw[hd4,qDB]at hH
 have hlt6:=qAF hd4
 refine go ?_
 exact fin
 rw[hd4,qDB]at hH
 have hlt6:=qAG hd4
 refine go ?_
 refine AO.x (als T 3) ?_
 refine AO.pu T ?_
 refine AO.se T [sv ze2 y2.names,sv ze0 y2.marks,.v (.bool y2.late)] ?_
 refine go ?_
 refine AW.cH hH (fun _ hH=>?_) (fun _ hH=>?_)
 refine go ?_
 exact fin
 refine go ?_
 refine⟨k1+1,⟨hlt6,(zds hd4▸hH)⟩,qCC hlt6,?_⟩
 exact Le.ct 0 0
def qB5 (name:ByteArray) (y2:Item):List ByteArray→Nat→Int→Int→Option (Int×Int)
 | [],k74,v82,v83 =>
  some (v82,v83)
 |y75::ys76,k74,v82,v83 =>
  cond (decide (y75=name))
   (cond (decide ((y2.names.length:Int)>1))
    (qB5 name y2 ys76 (k74+1) (w64 (v82+1)) (w64 (v83+1)))
    (qB5 name y2 ys76 (k74+1) (w64 (v82+1)) v83))
   (qB5 name y2 ys76 (k74+1) v82 v83)
def qDJ (name:ByteArray):List Item→Nat→Int→Int→Option ((Int×Int))
 | [],k1,v57,v58 =>
  some (v57,v58)
 |y2::ys3,k1,v57,v58 =>
  (qB5 name y2 y2.names 0 v57 v58).bind fun (v70,v71) =>
  qDJ name ys3 (k1+1) v70 v71
def qJT (l:List Item) (name:ByteArray):Option (Int×Int) :=
 qDJ name l 0 0 0
theorem qO9 (l:List Item) (name:ByteArray) (r:(Int×Int)) (hH:qJT l name=some r):qAC prog 338 [.s (List.map ze1 l),.v (.string name)] (.t [.v (.int .i64 r.1),.v (.int .i64 r.2)]):=by
 refine fns T func338 ?_
 iterate 18 refine gs ?_
 refine AW.loopS (fun s:Nat×Int×Int=>(⟨[(1,.v (.string name)),(6,s.2.1),(7,s.2.2),(12,sv ze1 l),(13,(l.length:Int)),(14,(s.1:Int))],[],40,[]⟩:St)) (fun s=>s.1≤l.length∧qDJ name (l.drop s.1) s.1 s.2.1 s.2.2=some r) (fun s=>l.length-s.1) (0,0,0) ⟨Nat.zero_le _,hH⟩ ?_ ?_
 exact Le.ct 0 0
 rintro⟨k1,v57,v58⟩ ⟨hk,hH⟩
 try dsimp only at hH⊢
 refine AW.boundM (t:=12) (l:=l) rfl (fun hb5=>?_)
 rcases hd4:l.drop k1 with _|⟨y2,ys3⟩
 rw[hd4,qDJ]at hH
 have hlt6:=qAF hd4
 iterate 15 refine gs ?_
 exact fin
 rw[hd4,qDJ]at hH
 have hlt6:=qAG hd4
 refine gs7 ?_
 obtain⟨o72,hH,hK73⟩:=zB hH
 refine AW.seqJ (fun s:Int×Int=>(⟨[(1,.v (.string name)),(6,s.1),(7,s.2),(12,sv ze1 l),(13,(l.length:Int)),(14,(k1:Int))],[],40,[]⟩:St)) (fun s=>s=o72) ?_ ?_
 refine gs5 ?_
 refine AO.x (als T 6) ?_
 refine AO.se T [sv ze2 y2.names,sv ze0 y2.marks,.v (.bool y2.late)] ?_
 refine gs9 ?_
 refine AW.loopS (fun s:Nat×Int×Int=>(⟨[(1,.v (.string name)),(6,s.2.1),(7,s.2.2),(9,.p 6 0),(12,sv ze1 l),(13,(l.length:Int)),(14,(k1:Int)),(19,sv ze2 y2.names),(20,(y2.names.length:Int)),(21,(s.1:Int))],[(6,.box [sv ze2 y2.names,sv ze0 y2.marks,.v (.bool y2.late)])],40,[]⟩:St)) (fun s=>s.1≤y2.names.length∧qB5 name y2 (y2.names.drop s.1) s.1 s.2.1 s.2.2=some o72) (fun s=>y2.names.length-s.1) (0,v57,v58) ⟨Nat.zero_le _,hH⟩ ?_ ?_
 exact Le.ct 0 0
 rintro⟨k74,v82,v83⟩ ⟨hk,hH⟩
 try dsimp only at hH⊢
 refine AW.boundM (t:=19) (l:=y2.names) rfl (fun hb78=>?_)
 rcases hd77:y2.names.drop k74 with _|⟨y75,ys76⟩
 rw[hd77,qB5]at hH
 have hlt79:=qAF hd77
 refine gs7 ?_
 refine⟨_,zS hH,?_⟩
 exact Le.ct 0 0
 rw[hd77,qB5]at hH
 have hlt79:=qAG hd77
 iterate 21 refine gs ?_
 refine AW.cH hH (fun hc hH=>?_) (fun _ hH=>?_)
 iterate 13 refine gs ?_
 refine AW.cH hH (fun _ hH=>?_) (fun hc hH=>?_)
 refine gs9 ?_
 refine⟨(k74+1,w64 (v82+1),w64 (v83+1)),⟨hlt79,(zds hd77▸hH)⟩,qCC hlt79,?_⟩
 exact Le.ct 0 0
 refine gs5 ?_
 refine⟨(k74+1,w64 (v82+1),v83),⟨hlt79,(zds hd77▸hH)⟩,qCC hlt79,?_⟩
 exact Le.ct 0 0
 refine gs5 ?_
 refine⟨(k74+1,v82,v83),⟨hlt79,(zds hd77▸hH)⟩,qCC hlt79,?_⟩
 exact Le.ct 0 0
 rintro⟨v70,v71⟩ hs
 subst hs
 replace hH:=hK73
 try dsimp only[qLN,qJm]at hH
 try dsimp only
 refine gs4 ?_
 refine⟨(k1+1,v70,v71),⟨hlt6,(zds hd4▸hH)⟩,qCC hlt6,?_⟩
 exact Le.ct 0 0
def qG0 (c:Code) (l:List Item) (it:Item) (name:ByteArray) (rule:Int):Option Bool :=
 (qF8 c name).bind fun x1 =>
 cond (rule==2)
  (some (decide (x1≥0)))
  (cond (rule==4)
   ((opt ((!((it.names.length:Int)==1))&&decide (x1≥0)) default (qAV c.elements x1)).bind fun x3 =>
   some (((it.names.length:Int)==1)||(decide (x1≥0)&&(x3.family==0))))
   ((qJT l name).bind fun x5 =>
   some (decide (x5.1≤c.repeats)&&((x5.1==1)||decide (x5.2>0)))))
theorem qPj (c:Code) (l:List Item) (it:Item) (name:ByteArray) (rule:Int) (r:Bool) (hH:qG0 c l it name rule=some r):qAC prog 302 [.g (ze4 c),.s (List.map ze1 l),.g (ze1 it),.v (.string name),rule] (.v (.bool r)):=by
 refine fns T func302 ?_
 refine go ?_
 refine AO.x (bxs T 1) ?_
 refine AO.x (bxs T 2) (go ?_)
 obtain⟨x1,hx2,hH⟩:=zB hH
 refine go ?_
 refine AO.w (cVs (qHm _ _ _ (hx2))) (go ?_)
 refine AW.cH hH (fun _ hH=>?_) (fun hc hH=>?_)
 refine go ?_
 exact fin
 refine go ?_
 refine AW.cH hH (fun _ hH=>?_) (fun _ hH=>?_)
 refine AW.q ?_
 obtain⟨x3,hx4,hH⟩:=zB hH
 refine go ?_
 refine AO.g0 T ?_
 refine AO.g1 T 29 ?_
 refine AO.g1 T 30 ?_
 refine AO.g0 T ?_
 refine AO.g1 T 32 ?_
 refine AO.g0 T ?_
 refine AO.d2 33 34 (fun hg=>ixs T (qEv hx4 hg)) ?_
 refine AO.g1 T 35 ?_
 refine AO.g1 T 36 ?_
 refine AO.g1 T 37 ?_
 refine AO.d [31] rfl ⟨fun h=>h,trivial⟩ (fun hg=>zN rfl rfl rfl (by rw[hg];exact Bool.true_and _)) rfl ?_
 refine gs3 ?_
 refine AW.le (Le.ct 0 0 (σ':=(⟨[(10,.v (.bool (((it.names.length:Int)==1)||(decide (x1≥0)&&(x3.family==0)))))],[],59,[]⟩:St))) ?_
 refine AW.t ?_
 exact fin
 refine go ?_
 obtain⟨x5,hx6,hH⟩:=zB hH
 refine go ?_
 refine AO.w (cVs (qO9 _ _ _ (hx6))) (go ?_)
 refine AO.g0 T ?_
 refine AO.g1 T 52 ?_
 refine AO.g1 T 53 ?_
 refine AO.g0 T ?_
 refine AO.g1 T 55 ?_
 refine AO.d [54] rfl ⟨fun h=>h,trivial⟩ (fun hg=>zO rfl rfl rfl (by rw[hg];exact Bool.true_and _)) rfl ?_
 refine gs3 ?_
 refine AW.le (Le.ct 0 0 (σ':=(⟨[(10,.v (.bool (decide (x5.1≤c.repeats)&&((x5.1==1)||decide (x5.2>0)))))],[],59,[]⟩:St))) ?_
 refine AW.t ?_
 exact fin
def qA4 (c:Code) (l:List Item) (rule:Int) (y2:Item):List ByteArray→Nat→Option (Except Bool Unit)
 | [],k74 =>
  some (.ok ())
 |y75::ys76,k74 =>
  (qG0 c l y2 y75 rule).bind fun x85 =>
  cond (!x85)
   (some (.error false))
   (qA4 c l rule y2 ys76 (k74+1))
def qAj (c:Code) (l:List Item) (rule:Int):List Item→Nat→Option Bool
 | [],k1 =>
  some true
 |y2::ys3,k1 =>
  (qA4 c l rule y2 y2.names 0).bind fun o72=>qLN o72 fun _ =>
  qAj c l rule ys3 (k1+1)
def qLi (c:Code) (l:List Item) (rule:Int):Option Bool :=
 qAj c l rule l 0
theorem qOz (c:Code) (l:List Item) (rule:Int) (r:Bool) (hH:qLi c l rule=some r):qAC prog 252 [.g (ze4 c),.s (List.map ze1 l),rule] (.v (.bool r)):=by
 refine fns T func252 ?_
 refine gs2 ?_
 refine AO.x (bxs T 1) ?_
 iterate 10 refine gs ?_
 refine AW.loopS (fun s:Nat=>(⟨[(1,sv ze1 l),(2,rule),(3,.p 1 0),(11,sv ze1 l),(12,(l.length:Int)),(13,(s:Int))],[(1,.box (ze4 c))],33,[]⟩:St)) (fun s=>s≤l.length∧qAj c l rule (l.drop s) s=some r) (fun s=>l.length-s) 0 ⟨Nat.zero_le _,hH⟩ ?_ ?_
 exact Le.ct 0 0
 rintro k1 ⟨hk,hH⟩
 try dsimp only at hH⊢
 refine AW.boundM (t:=1) (l:=l) rfl (fun hb5=>?_)
 rcases hd4:l.drop k1 with _|⟨y2,ys3⟩
 rw[hd4,qAj]at hH
 have hlt6:=qAF hd4
 iterate 12 refine gs ?_
 exact fin
 rw[hd4,qAj]at hH
 have hlt6:=qAG hd4
 refine gs7 ?_
 obtain⟨o72,hH,hK73⟩:=zB hH
 refine AW.seqJ (fun s:Unit=>(⟨[(1,sv ze1 l),(2,rule),(3,.p 1 0),(11,sv ze1 l),(12,(l.length:Int)),(13,(k1:Int))],[(1,.box (ze4 c))],33,[]⟩:St)) (fun s=>.ok s=o72) ?_ ?_
 refine gs5 ?_
 refine AO.x (als T 7) ?_
 refine AO.se T [sv ze2 y2.names,sv ze0 y2.marks,.v (.bool y2.late)] ?_
 refine gs9 ?_
 refine AW.loopS (fun s:Nat=>(⟨[(1,sv ze1 l),(2,rule),(3,.p 1 0),(8,.p 7 0),(11,sv ze1 l),(12,(l.length:Int)),(13,(k1:Int)),(18,sv ze2 y2.names),(19,(y2.names.length:Int)),(20,(s:Int))],[(1,.box (ze4 c)),(7,.box [sv ze2 y2.names,sv ze0 y2.marks,.v (.bool y2.late)])],33,[]⟩:St)) (fun s=>s≤y2.names.length∧qA4 c l rule y2 (y2.names.drop s) s=some o72) (fun s=>y2.names.length-s) 0 ⟨Nat.zero_le _,hH⟩ ?_ ?_
 exact Le.ct 0 0
 rintro k74 ⟨hk,hH⟩
 try dsimp only at hH⊢
 refine AW.boundM (t:=18) (l:=y2.names) rfl (fun hb78=>?_)
 rcases hd77:y2.names.drop k74 with _|⟨y75,ys76⟩
 rw[hd77,qA4]at hH
 have hlt79:=qAF hd77
 refine gs7 ?_
 refine⟨_,zS hH,?_⟩
 exact Le.ct 0 0
 rw[hd77,qA4]at hH
 have hlt79:=qAG hd77
 iterate 16 refine gs ?_
 obtain⟨x85,hx86,hH⟩:=zB hH
 refine gs6 ?_
 refine AO.w (cVs (qPj _ _ _ _ _ _ (hx86))) ?_
 refine gs2 ?_
 refine AW.cH hH (fun _ hH=>?_) (fun _ hH=>?_)
 refine gs5 ?_
 obtain rfl:=zS hH
 replace hH:=hK73
 exact fin
 refine gs5 ?_
 refine⟨k74+1,⟨hlt79,(zds hd77▸hH)⟩,qCC hlt79,?_⟩
 exact Le.ct 0 0
 rintro _ hs
 subst hs
 replace hH:=hK73
 try dsimp only[qLN,qJm]at hH
 try dsimp only
 refine gs4 ?_
 refine⟨k1+1,⟨hlt6,(zds hd4▸hH)⟩,qCC hlt6,?_⟩
 exact Le.ct 0 0
def qCk (c:Code):List Int→Nat→Option Bool
 | [],k7 =>
  some true
 |y8::ys9,k7 =>
  (qAV c.limits (k7:Int)).bind fun x18 =>
  cond (decide (y8>x18))
   (some false)
   (qCk c ys9 (k7+1))
def qJS (c:Code) (l:List Item) (rule:Int):Option Bool :=
 cond (rule==1)
  (some (decide ((l.length:Int)>0)))
  (cond (rule==3)
   ((qLl l).bind fun x1 =>
   some x1)
   (cond (rule==5)
    ((qJa l).bind fun x3 =>
    some (decide (x3.1≤3)&&decide (x3.2≤1)))
    (cond (rule==6)
     ((qLC c l).bind fun x5 =>
     qCk c x5 0)
     (cond (rule==8)
      ((qMj l).bind fun x20 =>
      some x20)
      ((qLi c l rule).bind fun x22 =>
      some x22)))))
theorem qO2 (c:Code) (l:List Item) (rule:Int) (r:Bool) (hH:qJS c l rule=some r):qAC prog 186 [.g (ze4 c),.s (List.map ze1 l),rule] (.v (.bool r)):=by
 refine fns T func186 ?_
 refine go ?_
 refine AO.x (bxs T 1) (go ?_)
 refine AW.cH hH (fun _ hH=>?_) (fun hc hH=>?_)
 refine go ?_
 exact fin
 refine go ?_
 refine AW.cH hH (fun _ hH=>?_) (fun hc hH=>?_)
 refine AW.q ?_
 obtain⟨x1,hx2,hH⟩:=zB hH
 refine go ?_
 refine AO.w (cVs (qOx _ _ (hx2))) (go ?_)
 exact fin
 refine go ?_
 refine AW.cH hH (fun _ hH=>?_) (fun hc hH=>?_)
 refine AW.q ?_
 obtain⟨x3,hx4,hH⟩:=zB hH
 refine go ?_
 refine AO.w (cVs (qMv _ _ (hx4))) (go ?_)
 refine AO.g0 T ?_
 refine AO.g1 T 31 ?_
 refine go ?_
 exact fin
 refine go ?_
 refine AW.cH hH (fun hc hH=>?_) (fun hc hH=>?_)
 refine go ?_
 obtain⟨x5,hx6,hH⟩:=zB hH
 refine go ?_
 refine AO.x (qAU rfl 2 rfl rfl rfl (qNo _ _ _ (hx6)) rfl rfl rfl) (go ?_)
 refine AW.loopS (fun s:Nat=>(⟨[(3,.p 1 0),(38,.R 2),(39,(x5.length:Int)),(40,(s:Int))],[(1,.box (ze4 c)),(2,ro 1 ze0 x5)],61,[]⟩:St)) (fun s=>s≤x5.length∧qCk c (x5.drop s) s=some r) (fun s=>x5.length-s) 0 ⟨Nat.zero_le _,hH⟩ ?_ ?_
 exact Le.ct 0 0
 rintro k7 ⟨hk,hH⟩
 try dsimp only at hH⊢
 refine AW.boundR (id:=2) (l:=x5) rfl (fun hb11=>?_)
 rcases hd10:x5.drop k7 with _|⟨y8,ys9⟩
 rw[hd10,qCk]at hH
 have hlt12:=qAF hd10
 refine go ?_
 exact fin
 rw[hd10,qCk]at hH
 have hlt12:=qAG hd10
 refine go ?_
 refine AO.w (zLr T rfl rfl rfl rfl (zgG (zgD hd10)) rfl rfl rfl) (go ?_)
 obtain⟨x18,hx19,hH⟩:=zB hH
 refine go ?_
 refine AW.cH hH (fun _ hH=>?_) (fun hc hH=>?_)
 refine go ?_
 exact fin
 refine go ?_
 refine⟨k7+1,⟨hlt12,(zds hd10▸hH)⟩,qCC hlt12,?_⟩
 exact Le.ct 0 0
 refine go ?_
 refine AW.cH hH (fun _ hH=>?_) (fun _ hH=>?_)
 refine AW.q ?_
 obtain⟨x20,hx21,hH⟩:=zB hH
 refine go ?_
 refine AO.w (cVs (qPS _ _ (hx21))) (go ?_)
 exact fin
 refine go ?_
 obtain⟨x22,hx23,hH⟩:=zB hH
 refine go ?_
 refine AO.w (cVs (qOz _ _ _ _ (hx23))) (go ?_)
 exact fin
def qCw (c:Code) (l:List Item):Nat→List Int→Int→Option ((List Int))
 |0,_,_=>none
 |k1+1,v12,v13 =>
  cond (decide (v13≤8))
   ((qJS c l v13).bind fun x15 =>
   cond (!x15)
    ((qAz (qAh 8 (v12.length+([v13]).length))).bind fun u17 =>
    qCw c l k1 (v12++[v13]) (w64 (v13+1)))
    (qCw c l k1 v12 (w64 (v13+1))))
   (some v12)
def qG4 (fl:Nat) (c:Code) (l:List Item):Option (List Int) :=
 qCw c l fl [] 1
theorem qN6 (fl:Nat) (c:Code) (l:List Item) (r:(List Int)) (hH:qG4 fl c l=some r):qAC prog 130 [.g (ze4 c),.s (List.map ze1 l)] (.w 1 (r.map ze0)):=by
 refine fns T func130 ?_
 refine go ?_
 refine AO.x (bxs T 1) (go ?_)
 refine AW.loopS (fun s:Nat×(List Int)×Int=>(⟨[(1,sv ze1 l),(2,.p 1 0),(5,.R 5),(6,s.2.2)],[(1,.box (ze4 c)),(5,ro 1 ze0 s.2.1)],21,[]⟩:St)) (fun s=>qCw c l s.1 s.2.1 s.2.2=some r) (fun s=>s.1) (fl,[],1) hH ?_ ?_
 refine Le.trans (Le.void 5 5 1 rfl rfl) ?_
 exact Le.ct 0 0
 rintro⟨k1,v12,v13⟩ hH
 try dsimp only at hH⊢
 rcases k1 with _|k1
 cases (show none=some _ from hH)
 rw[qCw]at hH
 refine go ?_
 refine AW.cH hH (fun hc hH=>?_) (fun _ hH=>?_)
 refine go ?_
 obtain⟨x15,hx16,hH⟩:=zB hH
 refine go ?_
 refine AO.w (cVs (qO2 _ _ _ _ (hx16))) (go ?_)
 refine AW.cH hH (fun _ hH=>?_) (fun hc hH=>?_)
 obtain⟨u17,hx18,hH⟩:=zB hH
 refine go ?_
 refine AO.x (mks T 6 ze0 ([v13])) ?_
 refine AO.x (rvs T 7 (hfit:=by exact qAS (hx18))) (go ?_)
 refine⟨(k1,(v12++[v13]),w64 (v13+1)),hH,Nat.lt_succ_self _,?_⟩
 exact Le.ct 7 5
 refine go ?_
 refine⟨(k1,v12,w64 (v13+1)),hH,Nat.lt_succ_self _,?_⟩
 exact Le.ct 0 0
 refine go ?_
 exact fin
def qBe (fl:Nat):Nat→Int→Option ByteArray
 |0,_=>none
 |rf+1,n =>
  cond (decide (n<10))
   (some (strOfNums [IntKind.wrap .u8 (w64 (48+n))]))
   ((qAz (10 != 0)).bind fun u1 =>
   (qBe fl rf (w64 (n.tdiv 10))).bind fun x3 =>
   (qAz (Nat.ble (x3.size+(strOfNums [IntKind.wrap .u8 (w64 (48+(n.tmod 10)))]).size) qEO)).bind fun u5 =>
   some (x3++(strOfNums [IntKind.wrap .u8 (w64 (48+(n.tmod 10)))])))
theorem qKF (fl:Nat):∀(rf:Nat) (n:Int) (r:ByteArray) (hH:qBe fl rf n=some r),qAC prog 89 [n] (.v (.string r)):=by
 intro rf
 induction rf with
 |zero=>intro n r hH;rw[qBe]at hH;cases hH
 |succ rf ih =>
 intro n r hH
 rw[qBe]at hH
 refine fns T func89 ?_
 refine go ?_
 refine AW.cH hH (fun _ hH=>?_) (fun _ hH=>?_)
 refine go ?_
 refine AO.w (qOQ T rfl rfl rfl rfl) ?_
 refine AO.x (mks T 1 qQl ([IntKind.wrap .u8 (w64 (48+n))])) ?_
 refine AO.w (qMl T rfl rfl rfl rfl rfl rfl (fun _=>rfl) rfl) (go ?_)
 exact fin
 refine go ?_
 obtain⟨u1,hx2,x3,hx4,u5,hx6,hH⟩:=qBB hH
 refine AW.drawn 9 2 [] mix (by kernel_rfl) rfl ?_
 refine AD.pu T ?_
 refine AD.vv (qHQ rfl rfl rfl (neZ (qAS (hx2)))) ?_
 refine AD.vv (cVs (ih _ _ (hx4))) ?_
 refine AD.pu T ?_
 refine AD.vv (qRA rfl rfl rfl (neZ (qAS (hx2)))) ?_
 refine AD.vv aws ?_
 refine AD.vv (qOQ T rfl rfl rfl rfl) ?_
 refine AD.q (FStep.mk T (f:=qQl) (l:=[IntKind.wrap .u8 (w64 (48+(n.tmod 10)))]) rfl rfl rfl rfl rfl rfl rfl rfl rfl (fun _=>rfl) rfl rfl rfl rfl) (by simp[qAu]) (Nat.le_succ _) rfl ?_
 refine AD.vald rfl rfl rfl (qMl T rfl rfl rfl rfl rfl rfl (fun _=>rfl) rfl) ?_
 refine AD.nil (AO.w (qB1 rfl rfl rfl (Nat.le_of_ble_eq_true (qAS (hx6)))) (go ?_))
 exact fin
def qDR (fl:Nat) (n:Int):Option ByteArray :=
 cond (decide (n<0))
  ((qBe fl fl (w64 (-n))).bind fun x1 =>
  (qAz (Nat.ble ((⟨#[45]⟩:ByteArray).size+x1.size) qEO)).bind fun u3 =>
  some ((⟨#[45]⟩:ByteArray)++x1))
  ((qBe fl fl n).bind fun x5 =>
  some x5)
theorem qHS (fl:Nat) (n:Int) (r:ByteArray) (hH:qDR fl n=some r):qAC prog 131 [n] (.v (.string r)):=by
 refine fns T func131 ?_
 refine go ?_
 refine AW.cH hH (fun _ hH=>?_) (fun _ hH=>?_)
 refine AW.q ?_
 obtain⟨x1,hx2,u3,hx4,hH⟩:=qAI hH
 refine go ?_
 refine AO.w (qOm rfl rfl) ?_
 refine AO.w (cVs (qKF fl fl _ _ (hx2))) ?_
 refine AO.w (qB1 rfl rfl rfl (Nat.le_of_ble_eq_true (qAS (hx4)))) (go ?_)
 exact fin
 refine go ?_
 obtain⟨x5,hx6,hH⟩:=zB hH
 refine go ?_
 refine AO.w (cVs (qKF fl fl _ _ (hx6))) (go ?_)
 exact fin
def qB4 (fl:Nat):List Int→Nat→ByteArray→Option ByteArray
 | [],k1,v28 =>
  cond (decide (v28=(⟨#[]⟩:ByteArray)))
   (some (⟨#[110,111,110,101]⟩:ByteArray))
   (some v28)
 |y2::ys3,k1,v28 =>
  cond (decide ((k1:Int)>0))
   ((qAz (Nat.ble (v28.size+(⟨#[32]⟩:ByteArray).size) qEO)).bind fun u31 =>
   (qDR fl y2).bind fun x33 =>
   (qAz (Nat.ble ((v28++(⟨#[32]⟩:ByteArray)).size+x33.size) qEO)).bind fun u35 =>
   qB4 fl ys3 (k1+1) ((v28++(⟨#[32]⟩:ByteArray))++x33))
   ((qDR fl y2).bind fun x37 =>
   (qAz (Nat.ble (v28.size+x37.size) qEO)).bind fun u39 =>
   qB4 fl ys3 (k1+1) (v28++x37))
def qBC (fl:Nat) (l:List Int):Option ByteArray :=
 qB4 fl l 0 (⟨#[]⟩:ByteArray)
theorem qFv (fl:Nat) (l:List Int) (r:ByteArray) (hH:qBC fl l=some r):qAC prog 129 [.s (List.map ze0 l)] (.v (.string r)):=by
 refine fns T func129 ?_
 refine go ?_
 refine AW.loopS (fun s:Nat×ByteArray=>(⟨[(3,.v (.string s.2)),(6,sv ze0 l),(7,(l.length:Int)),(8,(s.1:Int))],[],25,[]⟩:St)) (fun s=>s.1≤l.length∧qB4 fl (l.drop s.1) s.1 s.2=some r) (fun s=>l.length-s.1) (0,(⟨#[]⟩:ByteArray)) ⟨Nat.zero_le _,hH⟩ ?_ ?_
 exact Le.ct 0 0
 rintro⟨k1,v28⟩ ⟨hk,hH⟩
 try dsimp only at hH⊢
 refine AW.boundM (t:=6) (l:=l) rfl (fun hb5=>?_)
 rcases hd4:l.drop k1 with _|⟨y2,ys3⟩
 rw[hd4,qB4]at hH
 have hlt6:=qAF hd4
 refine go ?_
 refine AW.cH hH (fun _ hH=>?_) (fun _ hH=>?_)
 refine go ?_
 exact fin
 refine go ?_
 exact fin
 rw[hd4,qB4]at hH
 have hlt6:=qAG hd4
 refine go ?_
 refine AW.cH hH (fun _ hH=>?_) (fun _ hH=>?_)
 obtain⟨u31,hx32,hH⟩:=zB hH
 refine go ?_
 refine AO.w (qB1 rfl rfl rfl (Nat.le_of_ble_eq_true (qAS (hx32)))) (go ?_)
 obtain⟨x33,hx34,u35,hx36,hH⟩:=qAI hH
 refine go ?_
 refine AO.w (cVs (qHS fl _ _ (hx34))) ?_
 refine AO.w (qB1 rfl rfl rfl (Nat.le_of_ble_eq_true (qAS (hx36)))) (go ?_)
 refine⟨(k1+1,((v28++(⟨#[32]⟩:ByteArray))++x33)),⟨hlt6,(zds hd4▸hH)⟩,qCC hlt6,?_⟩
 exact Le.ct 0 0
 refine AW.k ?_
 obtain⟨x37,hx38,u39,hx40,hH⟩:=qAI hH
 refine go ?_
 refine AO.w (cVs (qHS fl _ _ (hx38))) ?_
 refine AO.w (qB1 rfl rfl rfl (Nat.le_of_ble_eq_true (qAS (hx40)))) (go ?_)
 refine⟨(k1+1,(v28++x37)),⟨hlt6,(zds hd4▸hH)⟩,qCC hlt6,?_⟩
 exact Le.ct 0 0
def qGQ (c:Code) (name:ByteArray) (mark:Int):Option Int :=
 (qF8 c name).bind fun x1 =>
 cond (decide (x1<0))
  (some (-1))
  ((qAV c.elements x1).bind fun x3 =>
  cond (mark==1)
   ((qAz (100 != 0)).bind fun u5 =>
   some (w64 ((w64 (x3.base*c.keeps)).tdiv 100)))
   (cond (mark==2)
    ((qAz (10 != 0)).bind fun u7 =>
    some (w64 ((w64 (x3.base*9)).tdiv 10)))
    (cond (mark==3)
     (some 0)
     (some x3.base))))
theorem qKp (c:Code) (name:ByteArray) (mark:Int) (r:Int) (hH:qGQ c name mark=some r):qAC prog 309 [.g (ze4 c),.v (.string name),mark] (.v (.int .i64 r)):=by
 refine fns T func309 ?_
 refine go ?_
 refine AO.x (bxs T 1) (go ?_)
 obtain⟨x1,hx2,hH⟩:=zB hH
 refine go ?_
 refine AO.w (cVs (qHm _ _ _ (hx2))) (go ?_)
 refine AW.cH hH (fun _ hH=>?_) (fun hc hH=>?_)
 refine go ?_
 exact fin
 refine go ?_
 obtain⟨x3,hx4,hH⟩:=zB hH
 refine go ?_
 refine AW.cH hH (fun _ hH=>?_) (fun hc hH=>?_)
 refine AW.q ?_
 obtain⟨u5,hx6,hH⟩:=zB hH
 refine go ?_
 refine AO.w (qHQ rfl rfl rfl (neZ (qAS (hx6)))) ?_
 refine gs2 ?_
 refine AW.le (Le.ct 0 0 (σ':=(⟨[(6,w64 ((w64 (x3.base*c.keeps)).tdiv 100))],[],36,[]⟩:St))) ?_
 refine AW.t ?_
 exact fin
 refine go ?_
 refine AW.cH hH (fun _ hH=>?_) (fun hc hH=>?_)
 refine AW.q ?_
 obtain⟨u7,hx8,hH⟩:=zB hH
 refine go ?_
 refine AO.w (qHQ rfl rfl rfl (neZ (qAS (hx8)))) ?_
 refine gs2 ?_
 refine AW.le (Le.ct 0 0 (σ':=(⟨[(6,w64 ((w64 (x3.base*9)).tdiv 10))],[],36,[]⟩:St))) ?_
 refine AW.t ?_
 exact fin
 refine go ?_
 refine AW.cH hH (fun _ hH=>?_) (fun _ hH=>?_)
 refine go ?_
 exact fin
 refine gs6 ?_
 refine AW.le (Le.ct 0 0 (σ':=(⟨[(6,x3.base)],[],36,[]⟩:St))) ?_
 refine AW.t ?_
 exact fin
def qIW (a:Int) (b:Int):Option Int :=
 (qAz (b != 0)).bind fun u1 =>
 cond (decide ((a.tmod b)<0))
  (some (w64 ((w64 (a.tdiv b))-1)))
  (some (w64 (a.tdiv b)))
theorem qPH (a:Int) (b:Int) (r:Int) (hH:qIW a b=some r):qAC prog 306 [a,b] (.v (.int .i64 r)):=by
 refine fns T func306 ?_
 refine go ?_
 obtain⟨u1,hx2,hH⟩:=zB hH
 refine go ?_
 refine AO.w (qHQ rfl rfl rfl (neZ (qAS (hx2)))) (go ?_)
 refine AO.w (qRA rfl rfl rfl (neZ (qAS (hx2)))) (go ?_)
 refine AW.cH hH (fun _ hH=>?_) (fun _ hH=>?_)
 refine go ?_
 exact fin
 refine go ?_
 exact fin
def qDx (a:Int) (b:Int):Option Int :=
 (qIW (w64 ((w64 (2*a))+b)) (w64 (2*b))).bind fun x1 =>
 some x1
theorem qHK (a:Int) (b:Int) (r:Int) (hH:qDx a b=some r):qAC prog 255 [a,b] (.v (.int .i64 r)):=by
 refine fns T func255 ?_
 refine go ?_
 obtain⟨x1,hx2,hH⟩:=zB hH
 refine go ?_
 refine AO.w (cVs (qPH _ _ _ (hx2))) (go ?_)
 exact fin
def qB8 (c:Code) (it:Item):List ByteArray→Nat→Int→Option Int
 | [],k1,v16 =>
  cond it.late
   ((qDx (w64 (v16*(w64 (100+c.bonus)))) 100).bind fun x18 =>
   some x18)
   (some v16)
 |y2::ys3,k1,v16 =>
  (qAV it.marks (k1:Int)).bind fun x20 =>
  (qGQ c y2 x20).bind fun x22 =>
  qB8 c it ys3 (k1+1) (w64 (v16+x22))
def qIO (c:Code) (it:Item):Option Int :=
 qB8 c it it.names 0 0
theorem qPG (c:Code) (it:Item) (r:Int) (hH:qIO c it=some r):qAC prog 303 [.g (ze4 c),.g (ze1 it)] (.v (.int .i64 r)):=by
 refine fns T func303 ?_
 refine go ?_
 refine AO.x (bxs T 1) ?_
 refine AO.x (bxs T 2) (go ?_)
 refine AW.loopS (fun s:Nat×Int=>(⟨[(2,.p 1 0),(3,.p 2 0),(5,s.2),(9,sv ze2 it.names),(10,(it.names.length:Int)),(11,(s.1:Int))],[(1,.box (ze4 c)),(2,.box [sv ze2 it.names,sv ze0 it.marks,.v (.bool it.late)])],36,[]⟩:St)) (fun s=>s.1≤it.names.length∧qB8 c it (it.names.drop s.1) s.1 s.2=some r) (fun s=>it.names.length-s.1) (0,0) ⟨Nat.zero_le _,hH⟩ ?_ ?_
 exact Le.ct 0 0
 rintro⟨k1,v16⟩ ⟨hk,hH⟩
 try dsimp only at hH⊢
 refine AW.boundM (t:=9) (l:=it.names) rfl (fun hb5=>?_)
 rcases hd4:it.names.drop k1 with _|⟨y2,ys3⟩
 rw[hd4,qB8]at hH
 have hlt6:=qAF hd4
 refine go ?_
 refine AW.cH hH (fun _ hH=>?_) (fun _ hH=>?_)
 refine AW.q ?_
 obtain⟨x18,hx19,hH⟩:=zB hH
 refine go ?_
 refine AO.w (cVs (qHK _ _ _ (hx19))) (go ?_)
 exact fin
 refine go ?_
 exact fin
 rw[hd4,qB8]at hH
 have hlt6:=qAG hd4
 refine go ?_
 obtain⟨x20,hx21,x22,hx23,hH⟩:=qAI hH
 refine AW.drawn 9 3 [] mix (by kernel_rfl) rfl ?_
 refine go ?_
 refine AD.vv (cVs (qKp _ _ _ _ (hx23))) ?_
 refine go ?_
 refine⟨(k1+1,w64 (v16+x22)),⟨hlt6,(zds hd4▸hH)⟩,qCC hlt6,?_⟩
 exact Le.ct 0 0
def qAt (l:List Item) (k:Int):List Item→Nat→Int→Option Int
 | [],k3,v26 =>
  some v26
 |y4::ys5,k3,v26 =>
  (qAV y4.names 0).bind fun x28 =>
  (qAV l k).bind fun x30 =>
  (qAV x30.names 0).bind fun x32 =>
  (opt (decide (x28=x32)) default (qAV y4.marks 0)).bind fun x34 =>
  cond (decide (x28=x32)&&(x34 != 3))
   (qAt l k ys5 (k3+1) (w64 (v26+1)))
   (qAt l k ys5 (k3+1) v26)
def qIF (l:List Item) (k:Int):Option Int :=
 (qFj l k).bind fun x1 =>
 qAt l k x1 0 0
theorem qMz (l:List Item) (k:Int) (r:Int) (hH:qIF l k=some r):qAC prog 304 [.s (List.map ze1 l),k] (.v (.int .i64 r)):=by
 refine fns T func304 ?_
 refine go ?_
 obtain⟨x1,hx2,hH⟩:=zB hH
 refine go ?_
 refine AO.w (qEJ T rfl rfl rfl rfl rfl (hx2) (fun _=>rfl)) (go ?_)
 refine AW.loopS (fun s:Nat×Int=>(⟨[(0,sv ze1 l),(1,k),(5,s.2),(10,sv ze1 x1),(11,(x1.length:Int)),(12,(s.1:Int))],[],39,[]⟩:St)) (fun s=>s.1≤x1.length∧qAt l k (x1.drop s.1) s.1 s.2=some r) (fun s=>x1.length-s.1) (0,0) ⟨Nat.zero_le _,hH⟩ ?_ ?_
 exact Le.ct 0 0
 rintro⟨k3,v26⟩ ⟨hk,hH⟩
 try dsimp only at hH⊢
 refine AW.boundM (t:=10) (l:=x1) rfl (fun hb7=>?_)
 rcases hd6:x1.drop k3 with _|⟨y4,ys5⟩
 rw[hd6,qAt]at hH
 have hlt8:=qAF hd6
 refine go ?_
 exact fin
 rw[hd6,qAt]at hH
 have hlt8:=qAG hd6
 refine go ?_
 refine AO.x (als T 3) ?_
 refine AO.se T [sv ze2 y4.names,sv ze0 y4.marks,.v (.bool y4.late)] ?_
 refine go ?_
 obtain⟨x28,hx29,x30,hx31,x32,hx33,hH⟩:=qBB hH
 obtain⟨x34,hx35,hH⟩:=zB hH
 refine AW.drawn 11 4 [] mix (by kernel_rfl) rfl ?_
 refine go ?_
 refine AO.g0 T ?_
 refine AO.g1 T 29 ?_
 refine AO.d1 30 (fun hg=>ixs T (qEv hx35 hg)) ?_
 refine AO.g1 T 31 ?_
 refine AO.g1 T 32 ?_
 refine gs2 ?_
 refine AW.le (Le.ct 0 0 (σ':=(⟨[(0,sv ze1 l),(1,k),(5,v26),(10,sv ze1 x1),(11,(x1.length:Int)),(12,(k3:Int)),(34,.v (.bool (decide (x28=x32)&&(x34 != 3))))],[],39,[]⟩:St))) ?_
 refine AW.cH hH (fun _ hH=>?_) (fun _ hH=>?_)
 refine go ?_
 refine⟨(k3+1,w64 (v26+1)),⟨hlt8,(zds hd6▸hH)⟩,qCC hlt8,?_⟩
 exact Le.ct 0 0
 refine go ?_
 refine⟨(k3+1,v26),⟨hlt8,(zds hd6▸hH)⟩,qCC hlt8,?_⟩
 exact Le.ct 0 0
def qEk (c:Code) (l:List Item) (k:Int):Option Int :=
 (qAV l k).bind fun x1 =>
 (qIO c x1).bind fun x3 =>
 (qIF l k).bind fun x5 =>
 cond (decide (x5<c.repeats))
  (some x3)
  (cond (x5==c.repeats)
   ((qAz (10 != 0)).bind fun u7 =>
   some (w64 ((w64 (x3*7)).tdiv 10)))
   (some 0))
theorem qHt (c:Code) (l:List Item) (k:Int) (r:Int) (hH:qEk c l k=some r):qAC prog 253 [.g (ze4 c),.s (List.map ze1 l),k] (.v (.int .i64 r)):=by
 refine fns T func253 ?_
 refine go ?_
 refine AO.x (bxs T 1) (go ?_)
 obtain⟨x1,hx2,x3,hx4,hH⟩:=qAI hH
 refine AW.drawn 5 2 [] mix (by kernel_rfl) rfl ?_
 refine go ?_
 refine AO.w (cVs (qPG _ _ _ (hx4))) (go ?_)
 obtain⟨x5,hx6,hH⟩:=zB hH
 refine go ?_
 refine AO.w (cVs (qMz _ _ _ (hx6))) (go ?_)
 refine AW.cH hH (fun _ hH=>?_) (fun hc hH=>?_)
 refine go ?_
 exact fin
 refine go ?_
 refine AW.cH hH (fun _ hH=>?_) (fun _ hH=>?_)
 refine AW.q ?_
 obtain⟨u7,hx8,hH⟩:=zB hH
 refine go ?_
 refine AO.w (qHQ rfl rfl rfl (neZ (qAS (hx8)))) ?_
 refine gs2 ?_
 refine AW.le (Le.ct 0 0 (σ':=(⟨[(6,w64 ((w64 (x3*7)).tdiv 10))],[],32,[]⟩:St))) ?_
 refine AW.t ?_
 exact fin
 refine gs5 ?_
 refine AW.le (Le.ct 0 0 (σ':=(⟨[(6,(0:Int))],[],32,[]⟩:St))) ?_
 refine AW.t ?_
 exact fin
def qEZ (c:Code) (l:List Item):List Item→Nat→List Int→Option ((List Int))
 | [],k1,v16 =>
  some v16
 |y2::ys3,k1,v16 =>
  (qEk c l (k1:Int)).bind fun x18 =>
  (qAz (qAh 8 (v16.length+([x18]).length))).bind fun u20 =>
  qEZ c l ys3 (k1+1) (v16++[x18])
def qKe (c:Code) (l:List Item):Option (List Int) :=
 qEZ c l l 0 []
theorem qQF (c:Code) (l:List Item) (r:(List Int)) (hH:qKe c l=some r):qAC prog 188 [.g (ze4 c),.s (List.map ze1 l)] (.w 1 (r.map ze0)):=by
 refine fns T func188 ?_
 refine go ?_
 refine AO.x (bxs T 1) (go ?_)
 refine AW.loopS (fun s:Nat×(List Int)=>(⟨[(1,sv ze1 l),(2,.p 1 0),(5,.R 5),(8,(l.length:Int)),(9,(s.1:Int))],[(1,.box (ze4 c)),(5,ro 1 ze0 s.2)],21,[]⟩:St)) (fun s=>s.1≤l.length∧qEZ c l (l.drop s.1) s.1 s.2=some r) (fun s=>l.length-s.1) (0,[]) ⟨Nat.zero_le _,hH⟩ ?_ ?_
 refine Le.trans (Le.void 5 5 1 rfl rfl) ?_
 exact Le.ct 0 0
 rintro⟨k1,v16⟩ ⟨hk,hH⟩
 try dsimp only at hH⊢
 refine AW.boundM (t:=1) (l:=l) rfl (fun hb5=>?_)
 rcases hd4:l.drop k1 with _|⟨y2,ys3⟩
 rw[hd4,qEZ]at hH
 have hlt6:=qAF hd4
 refine go ?_
 exact fin
 rw[hd4,qEZ]at hH
 have hlt6:=qAG hd4
 refine go ?_
 obtain⟨x18,hx19,u20,hx21,hH⟩:=qAI hH
 refine go ?_
 refine AO.w (cVs (qHt _ _ _ _ (hx19))) ?_
 refine AO.x (mks T 6 ze0 ([x18])) ?_
 refine AO.x (rvs T 7 (hfit:=by exact qAS (hx21))) (go ?_)
 refine⟨(k1+1,(v16++[x18])),⟨hlt6,(zds hd4▸hH)⟩,qCC hlt6,?_⟩
 exact Le.ct 7 5
def qCg:List Int→Nat→Int→Option Int
 | [],k1,v8 =>
  some v8
 |y2::ys3,k1,v8 =>
  qCg ys3 (k1+1) (w64 (v8+y2))
def qCv (l:List Int):Option Int :=
 qCg l 0 0
theorem qGC (l:List Int) (r:Int) (hH:qCv l=some r):qAC prog 187 [.s (List.map ze0 l)] (.v (.int .i64 r)):=by
 refine fns T func187 ?_
 refine go ?_
 refine AW.loopS (fun s:Nat×Int=>(⟨[(3,s.2),(6,sv ze0 l),(7,(l.length:Int)),(8,(s.1:Int))],[],17,[]⟩:St)) (fun s=>s.1≤l.length∧qCg (l.drop s.1) s.1 s.2=some r) (fun s=>l.length-s.1) (0,0) ⟨Nat.zero_le _,hH⟩ ?_ ?_
 exact Le.ct 0 0
 rintro⟨k1,v8⟩ ⟨hk,hH⟩
 try dsimp only at hH⊢
 refine AW.boundM (t:=6) (l:=l) rfl (fun hb5=>?_)
 rcases hd4:l.drop k1 with _|⟨y2,ys3⟩
 rw[hd4,qCg]at hH
 have hlt6:=qAF hd4
 refine go ?_
 exact fin
 rw[hd4,qCg]at hH
 have hlt6:=qAG hd4
 refine go ?_
 refine⟨(k1+1,w64 (v8+y2)),⟨hlt6,(zds hd4▸hH)⟩,qCC hlt6,?_⟩
 exact Le.ct 0 0
def qG3 (c:Code) (l:List Item):Option Int :=
 (qKe c l).bind fun x1 =>
 (qCv x1).bind fun x3 =>
 some x3
theorem qPg (c:Code) (l:List Item) (r:Int) (hH:qG3 c l=some r):qAC prog 132 [.g (ze4 c),.s (List.map ze1 l)] (.v (.int .i64 r)):=by
 refine fns T func132 ?_
 refine go ?_
 refine AO.x (bxs T 1) (go ?_)
 obtain⟨x1,hx2,x3,hx4,hH⟩:=qAI hH
 refine go ?_
 refine AO.x (qAU rfl 2 rfl rfl rfl (qQF _ _ _ (hx2)) rfl rfl rfl) ?_
 refine AO.w (zLV rfl rfl rfl (es:=[sv ze0 x1]) ⟨(.rowR rfl (.map fun y=>.vs rfl)),trivial⟩ (qGC _ _ (hx4)) (qAc _) rfl) (go ?_)
 exact fin
def qDf (y2:Int) (v105:List Int):Nat→Int→Option Int
 |0,_=>none
 |k153+1,v159 =>
  (opt (decide (v159>0)) default (qAV v105 (w64 (v159-1)))).bind fun x161 =>
  cond (decide (v159>0)&&decide (x161<y2))
   (qDf y2 v105 k153 (w64 (v159-1)))
   (some v159)
def qCq (fl:Nat):List Int→Nat→List Int→Option ((List Int))
 | [],k1,v105 =>
  some v105
 |y2::ys3,k1,v105 =>
  ((qDf y2 v105 fl (v105.length:Int)).bind fun v150 =>
  (qFj v105 v150).bind fun x163 =>
  (qAz (qAh 8 x163.length)).bind fun u165 =>
  (qAz (qAh 8 (x163.length+([y2]).length))).bind fun u167 =>
  (qC7 v105 v150).bind fun x169 =>
  (qAz (qAh 8 (((x163++[y2])).length+x169.length))).bind fun u171 =>
  some ((x163++[y2])++x169)).bind fun v138 =>
  qCq fl ys3 (k1+1) v138
def qI1 (fl:Nat) (l:List Int):Option (List Int) :=
 qCq fl l 0 []
theorem qNp (fl:Nat) (l:List Int) (r:(List Int)) (hH:qI1 fl l=some r):qAC prog 360 [.s (List.map ze0 l)] (.w 1 (r.map ze0)):=by
 refine fns T func360 ?_
 iterate 16 refine gs ?_
 refine AW.loopS (fun s:Nat×(List Int)=>(⟨[(3,.R 12),(7,sv ze0 l),(8,(l.length:Int)),(9,(s.1:Int))],[(12,ro 1 ze0 s.2)],42,[]⟩:St)) (fun s=>s.1≤l.length∧qCq fl (l.drop s.1) s.1 s.2=some r) (fun s=>l.length-s.1) (0,[]) ⟨Nat.zero_le _,hH⟩ ?_ ?_
 refine Le.trans (Le.void 3 12 1 rfl rfl) ?_
 exact Le.ct 0 0
 rintro⟨k1,v105⟩ ⟨hk,hH⟩
 try dsimp only at hH⊢
 refine AW.boundM (t:=7) (l:=l) rfl (fun hb5=>?_)
 rcases hd4:l.drop k1 with _|⟨y2,ys3⟩
 rw[hd4,qCq]at hH
 have hlt6:=qAF hd4
 iterate 13 refine gs ?_
 exact fin
 rw[hd4,qCq]at hH
 have hlt6:=qAG hd4
 refine gs7 ?_
 obtain⟨o139,hH,hK140⟩:=zB hH
 refine AW.seqJ (fun s:List Int=>(⟨[(3,.R 20),(7,sv ze0 l),(8,(l.length:Int)),(9,(k1:Int))],[(20,ro 1 ze0 s)],42,[]⟩:St)) (fun s=>s=o139) ?_ ?_
 iterate 13 refine gs ?_
 obtain⟨o151,hH,hK152⟩:=zB hH
 refine AW.seqJ (fun s:Int=>(⟨[(3,.R 12),(5,y2),(6,s),(7,sv ze0 l),(8,(l.length:Int)),(9,(k1:Int))],[(12,ro 1 ze0 v105)],42,[]⟩:St)) (fun s=>s=o151) ?_ ?_
 refine AW.b (AW.loopS (fun s:Nat×Int=>(⟨[(3,.R 12),(5,y2),(6,s.2),(7,sv ze0 l),(8,(l.length:Int)),(9,(k1:Int))],[(12,ro 1 ze0 v105)],42,[]⟩:St)) (fun s=>qDf y2 v105 s.1 s.2=some o151) (fun s=>s.1) (fl,(v105.length:Int)) hH ?_ ?_)
 exact Le.ct 0 0
 rintro⟨k153,v159⟩ hH
 try dsimp only at hH⊢
 rcases k153 with _|k153
 cases (show none=some _ from hH)
 rw[qDf]at hH
 refine gs2 ?_
 obtain⟨x161,hx162,hH⟩:=zB hH
 refine gs4 ?_
 refine AO.g0 T ?_
 refine AO.g0 T ?_
 refine AO.d1 19 (fun hg=>aws) ?_
 refine AO.d2 18 20 (fun hg=>zXr T rfl rfl rfl rfl rfl rfl (qEv hx162 hg)) ?_
 refine AO.d1 21 (fun hg=>zLr T rfl rfl rfl rfl (zgG (qEv hx162 hg)) rfl rfl rfl) ?_
 refine AO.g0 T ?_
 refine AO.g2 T 22 23 ?_
 refine gs2 ?_
 refine AW.cH hH (fun _ hH=>?_) (fun _ hH=>?_)
 refine gs7 ?_
 refine⟨(k153,w64 (v159-1)),hH,Nat.lt_succ_self _,?_⟩
 exact Le.ct 0 0
 refine AW.exit ?_
 refine⟨_,zS hH,?_⟩
 exact Le.ct 0 0
 rintro v150 hs
 subst hs
 replace hH:=hK152
 try dsimp only[qLN,qJm]at hH
 try dsimp only
 obtain⟨x163,hx164,u165,hx166,u167,hx168,hH⟩:=qBB hH
 obtain⟨x169,hx170,u171,hx172,hH⟩:=qAI hH
 refine AW.le (Le.fM 12 (g:=ze0) rfl (fun y=>.vs rfl)) ?_
 refine AW.drawn 11 21 [] mix (by kernel_rfl) rfl ?_
 refine AD.v (FStep.mk0 T rfl rfl rfl rfl rfl) ?_
 refine gs2 ?_
 refine AD.vv (qEJ T rfl rfl rfl rfl rfl (hx164) (fun _=>rfl)) ?_
 refine AD.q (FStep.app_ws T rfl rfl rfl rfl rfl rfl rfl (by decide) (by decide) rfl rfl (fun _=>rfl) (qAS (hx166)) rfl) (by simp[qAu]) (Nat.le_succ _) rfl ?_
 refine AD.pu T ?_
 refine AD.q (FStep.mk T (f:=ze0) (l:=[y2]) rfl rfl rfl rfl rfl rfl rfl rfl rfl (fun _=>rfl) rfl rfl rfl rfl) (by simp[qAu]) (Nat.le_succ _) rfl ?_
 refine AD.kk (FStep.app_rv T rfl rfl rfl rfl rfl rfl rfl (by decide) rfl rfl rfl rfl (fun _=>rfl) (qAS (hx168)) rfl) ?_
 refine gs2 ?_
 refine AD.vv (qDS T rfl rfl rfl rfl rfl (hx170) (fun _=>rfl)) ?_
 refine AD.nil (AO.x (qP2 T rfl 24 rfl rfl rfl rfl rfl (by decide) (by decide) rfl rfl rfl (fun _=>rfl) (qAS (hx172)) rfl rfl) ?_)
 refine gs2 ?_
 refine⟨_,zS hH,?_⟩
 exact Le.ct 24 20
 rintro v138 hs
 subst hs
 replace hH:=hK140
 try dsimp only[qLN,qJm]at hH
 try dsimp only
 refine gs4 ?_
 refine⟨(k1+1,v138),⟨hlt6,(zds hd4▸hH)⟩,qCC hlt6,?_⟩
 exact Le.ct 20 12
def qHW (fl:Nat) (l:List Int):Option (Int×Int) :=
 (qCv l).bind fun x1 =>
 cond (decide ((l.length:Int)<5))
  (some (x1,(l.length:Int)))
  ((qI1 fl l).bind fun x3 =>
  (qAV x3 0).bind fun x5 =>
  (qAV x3 (w64 ((x3.length:Int)-1))).bind fun x7 =>
  some (w64 ((w64 (x1-x5))-x7),w64 ((l.length:Int)-2)))
theorem qLu (fl:Nat) (l:List Int) (r:(Int×Int)) (hH:qHW fl l=some r):qAC prog 356 [.s (List.map ze0 l)] (.t [.v (.int .i64 r.1),.v (.int .i64 r.2)]):=by
 refine fns T func356 ?_
 refine gs6 ?_
 obtain⟨x1,hx2,hH⟩:=zB hH
 refine gs2 ?_
 refine AO.w (cVs (qGC _ _ (hx2))) ?_
 refine gs9 ?_
 refine AW.cH hH (fun _ hH=>?_) (fun _ hH=>?_)
 refine gs9 ?_
 exact fin
 refine gs2 ?_
 obtain⟨x3,hx4,hH⟩:=zB hH
 refine gs2 ?_
 refine AO.x (qAU rfl 1 rfl rfl rfl (qNp fl _ _ (hx4)) rfl rfl rfl) ?_
 refine gs3 ?_
 obtain⟨x5,hx6,x7,hx8,hH⟩:=qAI hH
 refine AW.drawn 16 2 [] mix (by kernel_rfl) rfl ?_
 refine gs2 ?_
 refine AD.vv (ixr T (hx6)) ?_
 refine AD.vv (zLr T rfl rfl rfl rfl (zgG (hx6)) rfl rfl rfl) ?_
 refine AD.vv aws ?_
 refine gs2 ?_
 refine AD.vv (qV6 T) ?_
 refine AD.vv aws ?_
 refine AD.vv (ixr T (hx8)) ?_
 refine AD.vv (zLr T rfl rfl rfl rfl (zgG (hx8)) rfl rfl rfl) ?_
 refine AD.vv aws ?_
 refine gs2 ?_
 refine AD.vv aws ?_
 refine gs4 ?_
 refine AW.le (Le.ct 0 0 (σ':=(⟨[(2,w64 ((w64 (x1-x5))-x7)),(3,w64 ((l.length:Int)-2))],[],31,[]⟩:St))) ?_
 refine AW.t ?_
 exact fin
def qFK (a:Int) (b:Int):Option Int :=
 cond (decide (a>b))
  (some a)
  (some b)
theorem qLs (a:Int) (b:Int) (r:Int) (hH:qFK a b=some r):qAC prog 192 [a,b] (.v (.int .i64 r)):=by
 refine fns T func192 ?_
 refine go ?_
 refine AW.cH hH (fun _ hH=>?_) (fun _ hH=>?_)
 refine go ?_
 exact fin
 refine go ?_
 exact fin
def qD0 (c:Code) (it:Item):List ByteArray→Nat→Int→Option Int
 | [],k1,v20 =>
  some v20
 |y2::ys3,k1,v20 =>
  (qAV it.marks (k1:Int)).bind fun x22 =>
  (qGQ c y2 x22).bind fun x24 =>
  (qFK v20 x24).bind fun x26 =>
  qD0 c it ys3 (k1+1) x26
def qIP (c:Code) (it:Item):Option Int :=
 qD0 c it it.names 0 0
theorem qLj (c:Code) (it:Item) (r:Int) (hH:qIP c it=some r):qAC prog 259 [.g (ze4 c),.g (ze1 it)] (.v (.int .i64 r)):=by
 refine fns T func259 ?_
 refine go ?_
 refine AO.x (bxs T 1) ?_
 refine AO.x (bxs T 2) (go ?_)
 refine AW.loopS (fun s:Nat×Int=>(⟨[(2,.p 1 0),(3,.p 2 0),(5,s.2),(9,sv ze2 it.names),(10,(it.names.length:Int)),(11,(s.1:Int))],[(1,.box (ze4 c)),(2,.box [sv ze2 it.names,sv ze0 it.marks,.v (.bool it.late)])],28,[]⟩:St)) (fun s=>s.1≤it.names.length∧qD0 c it (it.names.drop s.1) s.1 s.2=some r) (fun s=>it.names.length-s.1) (0,0) ⟨Nat.zero_le _,hH⟩ ?_ ?_
 exact Le.ct 0 0
 rintro⟨k1,v20⟩ ⟨hk,hH⟩
 try dsimp only at hH⊢
 refine AW.boundM (t:=9) (l:=it.names) rfl (fun hb5=>?_)
 rcases hd4:it.names.drop k1 with _|⟨y2,ys3⟩
 rw[hd4,qD0]at hH
 have hlt6:=qAF hd4
 refine go ?_
 exact fin
 rw[hd4,qD0]at hH
 have hlt6:=qAG hd4
 refine go ?_
 obtain⟨x22,hx23,x24,hx25,x26,hx27,hH⟩:=qBB hH
 refine AW.drawn 9 3 [] mix (by kernel_rfl) rfl ?_
 refine go ?_
 refine AD.vv (cVs (qKp _ _ _ _ (hx25))) ?_
 refine AD.nil (AO.w (cVs (qLs _ _ _ (hx27))) (go ?_))
 refine⟨(k1+1,x26),⟨hlt6,(zds hd4▸hH)⟩,qCC hlt6,?_⟩
 exact Le.ct 0 0
def qHV (fl:Nat) (c:Code) (l:List Item) (k:Int) (grades:List Int):Option Int :=
 (qEk c l k).bind fun x1 =>
 cond (x1==0)
  (some 0)
  ((qHW fl grades).bind fun x3 =>
  (qAV l k).bind fun x5 =>
  (qIP c x5).bind fun x7 =>
  (qDx (w64 (x3.1*x7)) (w64 (10*x3.2))).bind fun x9 =>
  some x9)
theorem qNr (fl:Nat) (c:Code) (l:List Item) (k:Int) (grades:List Int) (r:Int) (hH:qHV fl c l k grades=some r):qAC prog 355 [.g (ze4 c),.s (List.map ze1 l),k,.s (List.map ze0 grades)] (.v (.int .i64 r)):=by
 refine fns T func355 ?_
 refine go ?_
 refine AO.x (bxs T 1) (go ?_)
 obtain⟨x1,hx2,hH⟩:=zB hH
 refine go ?_
 refine AO.w (cVs (qHt _ _ _ _ (hx2))) (go ?_)
 refine AW.cH hH (fun _ hH=>?_) (fun _ hH=>?_)
 refine go ?_
 exact fin
 refine go ?_
 obtain⟨x3,hx4,hH⟩:=zB hH
 refine go ?_
 refine AO.w (cVs (qLu fl _ _ (hx4))) (go ?_)
 obtain⟨x5,hx6,x7,hx8,x9,hx10,hH⟩:=qBB hH
 refine AW.drawn 10 2 [] mix (by kernel_rfl) rfl ?_
 refine go ?_
 refine AD.vv (cVs (qLj _ _ _ (hx8))) ?_
 refine AD.vv aws ?_
 refine AD.pu T ?_
 refine AD.vv aws ?_
 refine AD.nil (AO.w (cVs (qHK _ _ _ (hx10))) ?_)
 refine gs2 ?_
 refine AW.le (Le.ct 0 0 (σ':=(⟨[(8,x9)],[],32,[]⟩:St))) ?_
 refine AW.t ?_
 exact fin
def qL6 (fl:Nat) (c:Code) (l:List Item) (k:Int) (grades:List Int):Option Int :=
 (qEk c l k).bind fun x1 =>
 (qHV fl c l k grades).bind fun x3 =>
 some (w64 (x1+x3))
theorem qQs (fl:Nat) (c:Code) (l:List Item) (k:Int) (grades:List Int) (r:Int) (hH:qL6 fl c l k grades=some r):qAC prog 339 [.g (ze4 c),.s (List.map ze1 l),k,.s (List.map ze0 grades)] (.v (.int .i64 r)):=by
 refine fns T func339 ?_
 refine go ?_
 refine AO.x (bxs T 1) (go ?_)
 obtain⟨x1,hx2,x3,hx4,hH⟩:=qAI hH
 refine AW.drawn 8 2 [] mix (by kernel_rfl) rfl ?_
 refine go ?_
 refine AD.vv (cVs (qHt _ _ _ _ (hx2))) ?_
 refine go ?_
 refine AO.w (cVs (qNr fl _ _ _ _ _ (hx4))) (go ?_)
 exact fin
def qJP (fl:Nat) (c:Code) (l:List Item) (m:Marks) (k:Int):Option Int :=
 (qAV m.grades k).bind fun x1 =>
 (qL6 fl c l k x1).bind fun x3 =>
 some x3
theorem qOl (fl:Nat) (c:Code) (l:List Item) (m:Marks) (k:Int) (r:Int) (hH:qJP fl c l m k=some r):qAC prog 305 [.g (ze4 c),.s (List.map ze1 l),.g (qAf m),k] (.v (.int .i64 r)):=by
 refine fns T func305 ?_
 refine go ?_
 refine AO.x (bxs T 1) ?_
 refine AO.x (bxs T 2) (go ?_)
 obtain⟨x1,hx2,x3,hx4,hH⟩:=qAI hH
 refine AW.drawn 8 3 [] mix (by kernel_rfl) rfl ?_
 refine go ?_
 refine AO.w (cVs (qQs fl _ _ _ _ _ (hx4))) (go ?_)
 exact fin
def qCm (c:Code) (l:List Item) (m:Marks) (fl:Nat):List Item→Nat→List Int→Option ((List Int))
 | [],k1,v16 =>
  some v16
 |y2::ys3,k1,v16 =>
  (qJP fl c l m (k1:Int)).bind fun x18 =>
  (qAz (qAh 8 (v16.length+([x18]).length))).bind fun u20 =>
  qCm c l m fl ys3 (k1+1) (v16++[x18])
def qIs (fl:Nat) (c:Code) (l:List Item) (m:Marks):Option (List Int) :=
 qCm c l m fl l 0 []
theorem qN1 (fl:Nat) (c:Code) (l:List Item) (m:Marks) (r:(List Int)) (hH:qIs fl c l m=some r):qAC prog 254 [.g (ze4 c),.s (List.map ze1 l),.g (qAf m)] (.w 1 (r.map ze0)):=by
 refine fns T func254 ?_
 refine go ?_
 refine AO.x (bxs T 1) ?_
 refine AO.x (bxs T 2) (go ?_)
 refine AW.loopS (fun s:Nat×(List Int)=>(⟨[(1,sv ze1 l),(3,.p 1 0),(5,.p 2 0),(7,.R 6),(10,(l.length:Int)),(11,(s.1:Int))],[(1,.box (ze4 c)),(2,.box [sv ze3 m.grades,sv ze3 m.components]),(6,ro 1 ze0 s.2)],24,[]⟩:St)) (fun s=>s.1≤l.length∧qCm c l m fl (l.drop s.1) s.1 s.2=some r) (fun s=>l.length-s.1) (0,[]) ⟨Nat.zero_le _,hH⟩ ?_ ?_
 refine Le.trans (Le.void 7 6 1 rfl rfl) ?_
 exact Le.ct 0 0
 rintro⟨k1,v16⟩ ⟨hk,hH⟩
 try dsimp only at hH⊢
 refine AW.boundM (t:=1) (l:=l) rfl (fun hb5=>?_)
 rcases hd4:l.drop k1 with _|⟨y2,ys3⟩
 rw[hd4,qCm]at hH
 have hlt6:=qAF hd4
 refine go ?_
 exact fin
 rw[hd4,qCm]at hH
 have hlt6:=qAG hd4
 refine go ?_
 obtain⟨x18,hx19,u20,hx21,hH⟩:=qAI hH
 refine go ?_
 refine AO.w (cVs (qOl fl _ _ _ _ _ (hx19))) ?_
 refine AO.x (mks T 7 ze0 ([x18])) ?_
 refine AO.x (rvs T 8 (hfit:=by exact qAS (hx21))) (go ?_)
 refine⟨(k1+1,(v16++[x18])),⟨hlt6,(zds hd4▸hH)⟩,qCC hlt6,?_⟩
 exact Le.ct 8 6
def qG2 (fl:Nat) (c:Code) (p:Performance):Option Int :=
 (qIs fl c p.items p.marks).bind fun x1 =>
 (qCv x1).bind fun x3 =>
 some x3
theorem qMM (fl:Nat) (c:Code) (p:Performance) (r:Int) (hH:qG2 fl c p=some r):qAC prog 189 [.g (ze4 c),.g (qHY p)] (.v (.int .i64 r)):=by
 refine fns T func189 ?_
 refine go ?_
 refine AO.x (bxs T 1) ?_
 refine AO.x (bxs T 2) (go ?_)
 obtain⟨x1,hx2,x3,hx4,hH⟩:=qAI hH
 refine go ?_
 refine AO.x (qAU rfl 3 rfl rfl rfl (qN1 fl _ _ _ _ (hx2)) rfl rfl rfl) ?_
 refine AO.w (zLV rfl rfl rfl (es:=[sv ze0 x1]) ⟨(.rowR rfl (.map fun y=>.vs rfl)),trivial⟩ (qGC _ _ (hx4)) (qAc _) rfl) (go ?_)
 exact fin
def qHl (fl:Nat) (m:Marks) (k:Int):Option Int :=
 (qAV m.components k).bind fun x1 =>
 (qHW fl x1).bind fun x3 =>
 (qDx x3.1 x3.2).bind fun x5 =>
 some x5
theorem qOZ (fl:Nat) (m:Marks) (k:Int) (r:Int) (hH:qHl fl m k=some r):qAC prog 340 [.g (qAf m),k] (.v (.int .i64 r)):=by
 refine fns T func340 ?_
 refine go ?_
 refine AO.x (bxs T 1) (go ?_)
 obtain⟨x1,hx2,x3,hx4,hH⟩:=qAI hH
 refine go ?_
 refine AO.w (cVs (qLu fl _ _ (hx4))) (go ?_)
 obtain⟨x5,hx6,hH⟩:=zB hH
 refine go ?_
 refine AO.w (cVs (qHK _ _ _ (hx6))) (go ?_)
 exact fin
def qGe (a:Int) (b:Int):Option Int :=
 cond (decide (a<b))
  (some a)
  (some b)
theorem qLF (a:Int) (b:Int) (r:Int) (hH:qGe a b=some r):qAC prog 308 [a,b] (.v (.int .i64 r)):=by
 refine fns T func308 ?_
 refine go ?_
 refine AW.cH hH (fun _ hH=>?_) (fun _ hH=>?_)
 refine go ?_
 exact fin
 refine go ?_
 exact fin
def qCz (m:Marks) (most:Int) (fl:Nat):List (List Int)→Nat→List Int→Option ((List Int))
 | [],k1,v20 =>
  some v20
 |y2::ys3,k1,v20 =>
  (qHl fl m (k1:Int)).bind fun x22 =>
  (qGe x22 most).bind fun x24 =>
  (qAz (qAh 8 (v20.length+([x24]).length))).bind fun u26 =>
  qCz m most fl ys3 (k1+1) (v20++[x24])
def qFx (fl:Nat) (m:Marks) (most:Int):Option (List Int) :=
 qCz m most fl m.components 0 []
theorem qID (fl:Nat) (m:Marks) (most:Int) (r:(List Int)) (hH:qFx fl m most=some r):qAC prog 307 [.g (qAf m),most] (.w 1 (r.map ze0)):=by
 refine fns T func307 ?_
 refine go ?_
 refine AO.x (bxs T 1) (go ?_)
 refine AW.loopS (fun s:Nat×(List Int)=>(⟨[(1,most),(2,.p 1 0),(5,.R 5),(9,(m.components.length:Int)),(10,(s.1:Int))],[(1,.box [sv ze3 m.grades,sv ze3 m.components]),(5,ro 1 ze0 s.2)],23,[]⟩:St)) (fun s=>s.1≤m.components.length∧qCz m most fl (m.components.drop s.1) s.1 s.2=some r) (fun s=>m.components.length-s.1) (0,[]) ⟨Nat.zero_le _,hH⟩ ?_ ?_
 refine Le.trans (Le.void 5 5 1 rfl rfl) ?_
 exact Le.ct 0 0
 rintro⟨k1,v20⟩ ⟨hk,hH⟩
 try dsimp only at hH⊢
 refine AW.boundBox (id:=1) (j:=1) (l:=m.components) rfl rfl (fun hb5=>?_)
 rcases hd4:m.components.drop k1 with _|⟨y2,ys3⟩
 rw[hd4,qCz]at hH
 have hlt6:=qAF hd4
 refine go ?_
 exact fin
 rw[hd4,qCz]at hH
 have hlt6:=qAG hd4
 refine go ?_
 obtain⟨x22,hx23,x24,hx25,u26,hx27,hH⟩:=qBB hH
 refine go ?_
 refine AO.w (cVs (qOZ fl _ _ _ (hx23))) ?_
 refine AO.pu T ?_
 refine AO.w (cVs (qLF _ _ _ (hx25))) ?_
 refine AO.x (mks T 6 ze0 ([x24])) ?_
 refine AO.x (rvs T 7 (hfit:=by exact qAS (hx27))) (go ?_)
 refine⟨(k1+1,(v20++[x24])),⟨hlt6,(zds hd4▸hH)⟩,qCC hlt6,?_⟩
 exact Le.ct 7 5
def qI9 (fl:Nat) (m:Marks) (falls:Int):Option Int :=
 cond (falls==0)
  ((qFx fl m 1000).bind fun x1 =>
  (qCv x1).bind fun x3 =>
  some x3)
  (cond (falls==1)
   ((qFx fl m 950).bind fun x5 =>
   (qCv x5).bind fun x7 =>
   some x7)
   ((qFx fl m 900).bind fun x9 =>
   (qCv x9).bind fun x11 =>
   some x11))
theorem qQP (fl:Nat) (m:Marks) (falls:Int) (r:Int) (hH:qI9 fl m falls=some r):qAC prog 256 [.g (qAf m),falls] (.v (.int .i64 r)):=by
 refine fns T func256 ?_
 refine go ?_
 refine AO.x (bxs T 1) (go ?_)
 refine AW.cH hH (fun _ hH=>?_) (fun hc hH=>?_)
 refine go ?_
 obtain⟨x1,hx2,x3,hx4,hH⟩:=qAI hH
 refine go ?_
 refine AO.x (qAU rfl 2 rfl rfl rfl (qID fl _ _ _ (hx2)) rfl rfl rfl) ?_
 refine AO.w (zLV rfl rfl rfl (es:=[sv ze0 x1]) ⟨(.rowR rfl (.map fun y=>.vs rfl)),trivial⟩ (qGC _ _ (hx4)) (qAc _) rfl) (go ?_)
 exact fin
 refine go ?_
 refine AW.cH hH (fun _ hH=>?_) (fun _ hH=>?_)
 refine go ?_
 obtain⟨x5,hx6,x7,hx8,hH⟩:=qAI hH
 refine go ?_
 refine AO.x (qAU rfl 3 rfl rfl rfl (qID fl _ _ _ (hx6)) rfl rfl rfl) ?_
 refine AO.w (zLV rfl rfl rfl (es:=[sv ze0 x5]) ⟨(.rowR rfl (.map fun y=>.vs rfl)),trivial⟩ (qGC _ _ (hx8)) (qAc _) rfl) (go ?_)
 exact fin
 refine go ?_
 obtain⟨x9,hx10,x11,hx12,hH⟩:=qAI hH
 refine go ?_
 refine AO.x (qAU rfl 4 rfl rfl rfl (qID fl _ _ _ (hx10)) rfl rfl rfl) ?_
 refine AO.w (zLV rfl rfl rfl (es:=[sv ze0 x9]) ⟨(.rowR rfl (.map fun y=>.vs rfl)),trivial⟩ (qGC _ _ (hx12)) (qAc _) rfl) (go ?_)
 exact fin
def qF6 (fl:Nat) (m:Marks) (factor:Int) (falls:Int):Option Int :=
 (qI9 fl m falls).bind fun x1 =>
 (qDx (w64 (x1*factor)) 100).bind fun x3 =>
 some x3
theorem qMb (fl:Nat) (m:Marks) (factor:Int) (falls:Int) (r:Int) (hH:qF6 fl m factor falls=some r):qAC prog 190 [.g (qAf m),factor,falls] (.v (.int .i64 r)):=by
 refine fns T func190 ?_
 refine go ?_
 refine AO.x (bxs T 1) (go ?_)
 obtain⟨x1,hx2,x3,hx4,hH⟩:=qAI hH
 refine go ?_
 refine AO.w (cVs (qQP fl _ _ _ (hx2))) (go ?_)
 refine AO.w (cVs (qHK _ _ _ (hx4))) (go ?_)
 exact fin
def qD5 (fall:Int) (falls:Int):Nat→Int→Int→Option Int
 |0,_,_=>none
 |k1+1,v12,v13 =>
  cond (decide (v13<falls))
   ((qAz (2 != 0)).bind fun u15 =>
   (qGe 3 (w64 ((w64 (v13.tdiv 2))+1))).bind fun x17 =>
   qD5 fall falls k1 (w64 (v12+(w64 (fall*x17)))) (w64 (v13+1)))
   (some v12)
def qJN (fl:Nat) (fall:Int) (falls:Int):Option Int :=
 qD5 fall falls fl 0 0
theorem qO0 (fl:Nat) (fall:Int) (falls:Int) (r:Int) (hH:qJN fl fall falls=some r):qAC prog 257 [fall,falls] (.v (.int .i64 r)):=by
 refine fns T func257 ?_
 refine go ?_
 refine AW.loopS (fun s:Nat×Int×Int=>(⟨[(0,fall),(1,falls),(5,s.2.1),(6,s.2.2)],[],21,[]⟩:St)) (fun s=>qD5 fall falls s.1 s.2.1 s.2.2=some r) (fun s=>s.1) (fl,0,0) hH ?_ ?_
 exact Le.ct 0 0
 rintro⟨k1,v12,v13⟩ hH
 try dsimp only at hH⊢
 rcases k1 with _|k1
 cases (show none=some _ from hH)
 rw[qD5]at hH
 refine go ?_
 refine AW.cH hH (fun _ hH=>?_) (fun _ hH=>?_)
 refine go ?_
 obtain⟨u15,hx16,x17,hx18,hH⟩:=qAI hH
 refine go ?_
 refine AO.w (qHQ rfl rfl rfl (neZ (qAS (hx16)))) ?_
 refine AO.w aws ?_
 refine AO.w (cVs (qLF _ _ _ (hx18))) (go ?_)
 refine⟨(k1,w64 (v12+(w64 (fall*x17))),w64 (v13+1)),hH,Nat.lt_succ_self _,?_⟩
 exact Le.ct 0 0
 refine go ?_
 exact fin
def qKJ (seconds:Int):Option Int :=
 (qAz (5 != 0)).bind fun u1 =>
 some (w64 ((w64 ((w64 (seconds+4)).tdiv 5))*100))
theorem qPW (seconds:Int) (r:Int) (hH:qKJ seconds=some r):qAC prog 258 [seconds] (.v (.int .i64 r)):=by
 refine fns T func258 ?_
 refine go ?_
 obtain⟨u1,hx2,hH⟩:=zB hH
 refine go ?_
 refine AO.w (qHQ rfl rfl rfl (neZ (qAS (hx2)))) (go ?_)
 exact fin
def qJD (fl:Nat) (c:Code) (sA:Slips):Option Int :=
 (qJN fl c.fall sA.falls).bind fun x1 =>
 (qKJ sA.seconds).bind fun x3 =>
 some (w64 ((w64 (x1+x3))+sA.other))
theorem qQZ (fl:Nat) (c:Code) (sA:Slips) (r:Int) (hH:qJD fl c sA=some r):qAC prog 191 [.g (ze4 c),.g (qOF sA)] (.v (.int .i64 r)):=by
 refine fns T func191 ?_
 refine go ?_
 refine AO.x (bxs T 1) ?_
 refine AO.x (bxs T 2) (go ?_)
 obtain⟨x1,hx2,x3,hx4,hH⟩:=qAI hH
 refine AW.drawn 11 3 [] mix (by kernel_rfl) rfl ?_
 refine go ?_
 refine AD.vv (cVs (qO0 fl _ _ _ (hx2))) ?_
 refine go ?_
 refine AD.vv (cVs (qPW _ _ (hx4))) ?_
 refine AD.vv aws ?_
 refine go ?_
 exact fin
def qFd (fl:Nat) (c:Code) (p:Performance) (factor:Int):Option (List Int) :=
 (qG2 fl c p).bind fun x1 =>
 (qF6 fl p.marks factor p.slips.falls).bind fun x3 =>
 (qJD fl c p.slips).bind fun x5 =>
 (qFK 0 (w64 ((w64 (x1+x3))-x5))).bind fun x7 =>
 some [x1,x3,x5,x7]
theorem qK5 (fl:Nat) (c:Code) (p:Performance) (factor:Int) (r:(List Int)) (hH:qFd fl c p factor=some r):qAC prog 133 [.g (ze4 c),.g (qHY p),factor] (.w 1 (r.map ze0)):=by
 refine fns T func133 ?_
 refine go ?_
 refine AO.x (bxs T 1) ?_
 refine AO.x (bxs T 2) (go ?_)
 obtain⟨x1,hx2,x3,hx4,x5,hx6,hH⟩:=qBB hH
 refine AW.drawn 13 3 [] mix (by kernel_rfl) rfl ?_
 refine go ?_
 refine AD.vv (cVs (qMM fl _ _ _ (hx2))) ?_
 refine go ?_
 refine AD.vv (cVs (qMb fl _ _ _ _ (hx4))) ?_
 refine go ?_
 refine AO.w (cVs (qQZ fl _ _ _ (hx6))) (go ?_)
 obtain⟨x7,hx8,hH⟩:=zB hH
 refine go ?_
 refine AO.w (cVs (qLs _ _ _ (hx8))) ?_
 refine AO.x (mks T 3 ze0 ([x1,x3,x5,x7])) ?_
 refine gs2 ?_
 refine AW.le (Le.ct 0 0 (σ':=(⟨[(6,.R 3)],[(3,ro 1 ze0 [x1,x3,x5,x7])],34,[]⟩:St))) ?_
 refine AW.t ?_
 exact fin
def qEu (sA:ByteArray):Nat→Int→Option Bool
 |0,_=>none
 |k1+1,v7 =>
  cond (decide (v7<(sA.size:Int)))
   ((qNk sA v7).bind fun b9 =>
   cond ((decide ((b9.toNat:Int)<65)||decide ((b9.toNat:Int)>90))&&(decide ((b9.toNat:Int)<48)||decide ((b9.toNat:Int)>57)))
    (some false)
    (qEu sA k1 (w64 (v7+1))))
   ((qAZ (sA.size:Int) 1 5).bind fun x11 =>
   some x11)
def qKH (fl:Nat) (sA:ByteArray):Option Bool :=
 qEu sA fl 0
theorem qPE (fl:Nat) (sA:ByteArray) (r:Bool) (hH:qKH fl sA=some r):qAC prog 315 [.v (.string sA)] (.v (.bool r)):=by
 refine fns T func315 ?_
 refine go ?_
 refine AW.loopS (fun s:Nat×Int=>(⟨[(0,.v (.string sA)),(3,s.2)],[],35,[]⟩:St)) (fun s=>qEu sA s.1 s.2=some r) (fun s=>s.1) (fl,0) hH ?_ ?_
 exact Le.ct 0 0
 rintro⟨k1,v7⟩ hH
 try dsimp only at hH⊢
 rcases k1 with _|k1
 cases (show none=some _ from hH)
 rw[qEu]at hH
 refine go ?_
 refine AW.cH hH (fun hc hH=>?_) (fun _ hH=>?_)
 refine go ?_
 obtain⟨b9,hx10,hH⟩:=zB hH
 refine go ?_
 refine AO.w (qBL T rfl rfl rfl rfl (hx10)) (go ?_)
 refine AO.g0 T ?_
 refine AO.g0 T ?_
 refine AO.d2 15 16 (fun hg=>qBL T rfl rfl rfl rfl (hx10)) ?_
 refine AO.g1 T 17 ?_
 refine go ?_
 refine AO.g0 T ?_
 refine AO.g0 T ?_
 refine AO.d2 21 22 (fun hg=>qBL T rfl rfl rfl rfl (hx10)) ?_
 refine AO.g1 T 23 ?_
 refine AO.g1 T 24 ?_
 refine AO.g0 T ?_
 refine AO.g0 T ?_
 refine AO.d2 26 27 (fun hg=>qBL T rfl rfl rfl rfl (hx10)) ?_
 refine AO.g1 T 28 ?_
 refine AO.d [25] rfl ⟨fun h=>h,trivial⟩ (fun hg=>zO rfl rfl rfl (by rw[hg];exact Bool.true_and _)) rfl ?_
 refine gs2 ?_
 refine AW.le (Le.ct 0 0 (σ':=(⟨[(0,.v (.string sA)),(3,v7),(31,.v (.bool ((decide ((b9.toNat:Int)<65)||decide ((b9.toNat:Int)>90))&&(decide ((b9.toNat:Int)<48)||decide ((b9.toNat:Int)>57)))))],[],35,[]⟩:St))) ?_
 refine AW.cH hH (fun _ hH=>?_) (fun hc hH=>?_)
 refine go ?_
 exact fin
 refine go ?_
 refine⟨(k1,w64 (v7+1)),hH,Nat.lt_succ_self _,?_⟩
 exact Le.ct 0 0
 refine go ?_
 obtain⟨x11,hx12,hH⟩:=zB hH
 refine go ?_
 refine AO.w (cVs (qAb _ _ _ _ (hx12))) (go ?_)
 exact fin
def qIB (fl:Nat) (x:Element):Option Bool :=
 (qKH fl x.name).bind fun x1 =>
 (opt x1 default (qAZ x.family 0 4)).bind fun x3 =>
 (opt (x1&&x3) default (qAZ x.level 0 4)).bind fun x5 =>
 (opt ((x1&&x3)&&x5) default (qAZ x.base 1 2000)).bind fun x7 =>
 some (((x1&&x3)&&x5)&&x7)
theorem qM8 (fl:Nat) (x:Element) (r:Bool) (hH:qIB fl x=some r):qAC prog 265 [.g (ze5 x)] (.v (.bool r)):=by
 refine fns T func265 ?_
 refine go ?_
 refine AO.x (bxs T 1) (go ?_)
 obtain⟨x1,hx2,x3,hx4,x5,hx6,hH⟩:=qBB hH
 obtain⟨x7,hx8,hH⟩:=zB hH
 refine go ?_
 refine AO.w (cVs (qPE fl _ _ (hx2))) ?_
 refine AO.pu T ?_
 refine AO.g0 T ?_
 refine AO.g1 T 7 ?_
 refine AO.d1 8 (fun hg=>cVs (qAb _ _ _ _ (qEv hx4 hg))) ?_
 refine go ?_
 refine AO.g0 T ?_
 refine AO.g1 T 12 ?_
 refine AO.d1 13 (fun hg=>cVs (qAb _ _ _ _ (qEv hx6 hg))) ?_
 refine go ?_
 refine AO.g0 T ?_
 refine AO.g1 T 17 ?_
 refine AO.d1 18 (fun hg=>cVs (qAb _ _ _ _ (qEv hx8 hg))) ?_
 refine go ?_
 exact fin
def qCD (c:Code) (fl:Nat):List Element→Nat→Option Bool
 | [],k1 =>
  (qAZ (c.elements.length:Int) 1 24).bind fun x16 =>
  (opt (x16&&((c.limits.length:Int)==5)) default (qCp c.limits 0 9)).bind fun x18 =>
  (opt ((x16&&((c.limits.length:Int)==5))&&x18) default (qAZ c.repeats 1 3)).bind fun x20 =>
  (opt (((x16&&((c.limits.length:Int)==5))&&x18)&&x20) default (qAZ c.bonus 0 20)).bind fun x22 =>
  (opt ((((x16&&((c.limits.length:Int)==5))&&x18)&&x20)&&x22) default (qAZ c.keeps 50 100)).bind fun x24 =>
  (opt (((((x16&&((c.limits.length:Int)==5))&&x18)&&x20)&&x22)&&x24) default (qAZ c.fall 0 500)).bind fun x26 =>
  some ((((((x16&&((c.limits.length:Int)==5))&&x18)&&x20)&&x22)&&x24)&&x26)
 |y2::ys3,k1 =>
  (qIB fl y2).bind fun x28 =>
  (opt ((!(!x28))&&decide ((k1:Int)>0)) default (qAV c.elements (w64 ((k1:Int)-1)))).bind fun x30 =>
  cond ((!x28)||(decide ((k1:Int)>0)&&(!qMp x30.name y2.name)))
   (some false)
   (qCD c fl ys3 (k1+1))
def qDD (fl:Nat) (c:Code):Option Bool :=
 qCD c fl c.elements 0
theorem qJQ (fl:Nat) (c:Code) (r:Bool) (hH:qDD fl c=some r):qAC prog 207 [.g (ze4 c)] (.v (.bool r)):=by
 refine fns T func207 ?_
 refine go ?_
 refine AO.x (bxs T 1) (go ?_)
 refine AW.loopS (fun s:Nat=>(⟨[(1,.p 1 0),(6,sv ze5 c.elements),(7,(c.elements.length:Int)),(8,(s:Int))],[(1,.box (ze4 c))],68,[]⟩:St)) (fun s=>s≤c.elements.length∧qCD c fl (c.elements.drop s) s=some r) (fun s=>c.elements.length-s) 0 ⟨Nat.zero_le _,hH⟩ ?_ ?_
 exact Le.ct 0 0
 rintro k1 ⟨hk,hH⟩
 try dsimp only at hH⊢
 refine AW.boundM (t:=6) (l:=c.elements) rfl (fun hb5=>?_)
 rcases hd4:c.elements.drop k1 with _|⟨y2,ys3⟩
 rw[hd4,qCD]at hH
 have hlt6:=qAF hd4
 refine go ?_
 obtain⟨x16,hx17,x18,hx19,x20,hx21,hH⟩:=qBB hH
 obtain⟨x22,hx23,x24,hx25,x26,hx27,hH⟩:=qBB hH
 refine go ?_
 refine AO.w (cVs (qAb _ _ _ _ (hx17))) ?_
 refine AO.pu T ?_
 refine AO.g0 T ?_
 refine AO.g1 T 38 ?_
 refine AO.d1 39 (fun hg=>qLn T) ?_
 refine AO.g1 T 40 ?_
 refine go ?_
 refine AO.g0 T ?_
 refine AO.g1 T 44 ?_
 refine AO.d1 45 (fun hg=>cVs (qHG _ _ _ _ (qEv hx19 hg))) ?_
 refine go ?_
 refine AO.g0 T ?_
 refine AO.g1 T 49 ?_
 refine AO.d1 50 (fun hg=>cVs (qAb _ _ _ _ (qEv hx21 hg))) ?_
 refine go ?_
 refine AO.g0 T ?_
 refine AO.g1 T 54 ?_
 refine AO.d1 55 (fun hg=>cVs (qAb _ _ _ _ (qEv hx23 hg))) ?_
 refine go ?_
 refine AO.g0 T ?_
 refine AO.g1 T 59 ?_
 refine AO.d1 60 (fun hg=>cVs (qAb _ _ _ _ (qEv hx25 hg))) ?_
 refine go ?_
 refine AO.g0 T ?_
 refine AO.g1 T 64 ?_
 refine AO.d1 65 (fun hg=>cVs (qAb _ _ _ _ (qEv hx27 hg))) ?_
 refine gs3 ?_
 refine AW.le (Le.ct 0 0 (σ':=(⟨[(2,.v (.bool ((((((x16&&((c.limits.length:Int)==5))&&x18)&&x20)&&x22)&&x24)&&x26)))],[],68,[]⟩:St))) ?_
 refine AW.t ?_
 exact fin
 rw[hd4,qCD]at hH
 have hlt6:=qAG hd4
 refine go ?_
 refine AO.x (als T 4) ?_
 refine AO.pu T ?_
 refine AO.se T [.v (.string y2.name),y2.family,y2.level,y2.base] ?_
 refine go ?_
 obtain⟨x28,hx29,x30,hx31,hH⟩:=qAI hH
 refine AW.drawn 16 5 [] mix (by kernel_rfl) rfl ?_
 refine go ?_
 refine AD.vv (cVs (qM8 fl _ _ (hx29))) ?_
 refine go ?_
 refine AD.pureG T [] rfl trivial rfl rfl ?_
 refine AD.pureG T [17] rfl ⟨fun h=>h,trivial⟩ rfl rfl ?_
 refine AD.pureG T [18] rfl ⟨fun h=>h,trivial⟩ rfl rfl ?_
 refine AD.pureG T [] rfl trivial rfl rfl ?_
 refine AD.pureG T [20] rfl ⟨fun h=>h,trivial⟩ rfl rfl ?_
 refine AD.pureG T [] rfl trivial rfl rfl ?_
 refine AD.guard [22] rfl ⟨fun h=>h,trivial⟩ (fun hg=>aws) rfl ?_
 refine AD.guard [21,23] rfl ⟨fun h=>h,fun h=>h,trivial⟩ (fun hg=>ixs T (qEv hx31 hg)) rfl ?_
 refine AD.pureG T [24] rfl ⟨fun h=>h,trivial⟩ rfl rfl ?_
 refine AD.pureG T [25] rfl ⟨fun h=>h,trivial⟩ rfl rfl ?_
 refine AD.pureG T [] rfl trivial rfl rfl ?_
 refine AD.pureG T [27] rfl ⟨fun h=>h,trivial⟩ rfl rfl ?_
 refine AD.nil (AO.g2 T 26 28 ?_)
 refine AO.d [19] rfl ⟨fun h=>h,trivial⟩ (fun hg=>zN rfl rfl rfl (by rw[hg];exact Bool.true_and _)) rfl ?_
 refine gs2 ?_
 refine AW.le (Le.ct 0 0 (σ':=(⟨[(1,.p 1 0),(6,sv ze5 c.elements),(7,(c.elements.length:Int)),(8,(k1:Int)),(31,.v (.bool ((!x28)||(decide ((k1:Int)>0)&&(!qMp x30.name y2.name)))))],[(1,.box (ze4 c))],68,[]⟩:St))) ?_
 refine AW.cH hH (fun _ hH=>?_) (fun _ hH=>?_)
 refine go ?_
 exact fin
 refine go ?_
 refine⟨k1+1,⟨hlt6,(zds hd4▸hH)⟩,qCC hlt6,?_⟩
 exact Le.ct 0 0
def qJx (b:Int):Option Bool :=
 some ((decide (b≥65)&&decide (b≤90))||(decide (b≥48)&&decide (b≤57)))
theorem qPh (b:Int) (r:Bool) (hH:qJx b=some r):qAC prog 312 [.v (.int .u8 b)] (.v (.bool r)):=by
 refine fns T func312 ?_
 refine go ?_
 refine AO.g0 T ?_
 refine AO.g1 T 6 ?_
 refine go ?_
 refine AO.g0 T ?_
 refine AO.g1 T 10 ?_
 refine AO.g1 T 11 ?_
 refine AO.g0 T ?_
 refine AO.g1 T 13 ?_
 refine AO.d [12] rfl ⟨fun h=>h,trivial⟩ (fun hg=>zN rfl rfl rfl (by rw[hg];exact Bool.true_and _)) rfl ?_
 refine go ?_
 exact fin
def qEo (sA:ByteArray):Nat→Int→Option Bool
 |0,_=>none
 |k1+1,v11 =>
  cond (decide (v11<(sA.size:Int)))
   ((qNk sA v11).bind fun b13 =>
   (qJx (b13.toNat:Int)).bind fun x15 =>
   cond (!x15)
    (some false)
    (qEo sA k1 (w64 (v11+1))))
   ((qAZ (sA.size:Int) 1 5).bind fun x17 =>
   some x17)
def qGE (fl:Nat) (sA:ByteArray):Option Bool :=
 qEo sA fl 0
theorem qPI (fl:Nat) (sA:ByteArray) (r:Bool) (hH:qGE fl sA=some r):qAC prog 261 [.v (.string sA)] (.v (.bool r)):=by
 refine fns T func261 ?_
 refine go ?_
 refine AW.loopS (fun s:Nat×Int=>(⟨[(0,.v (.string sA)),(3,s.2)],[],18,[]⟩:St)) (fun s=>qEo sA s.1 s.2=some r) (fun s=>s.1) (fl,0) hH ?_ ?_
 exact Le.ct 0 0
 rintro⟨k1,v11⟩ hH
 try dsimp only at hH⊢
 rcases k1 with _|k1
 cases (show none=some _ from hH)
 rw[qEo]at hH
 refine go ?_
 refine AW.cH hH (fun hc hH=>?_) (fun _ hH=>?_)
 refine go ?_
 obtain⟨b13,hx14,x15,hx16,hH⟩:=qAI hH
 refine go ?_
 refine AO.w (qBL T rfl rfl rfl rfl (hx14)) ?_
 refine AO.w (cVs (qPh _ _ (hx16))) (go ?_)
 refine AW.cH hH (fun _ hH=>?_) (fun hc hH=>?_)
 refine go ?_
 exact fin
 refine go ?_
 refine⟨(k1,w64 (v11+1)),hH,Nat.lt_succ_self _,?_⟩
 exact Le.ct 0 0
 refine go ?_
 obtain⟨x17,hx18,hH⟩:=zB hH
 refine go ?_
 refine AO.w (cVs (qAb _ _ _ _ (hx18))) (go ?_)
 exact fin
def qB0 (it:Item) (fl:Nat):List ByteArray→Nat→Option Bool
 | [],k1 =>
  (qAZ (it.names.length:Int) 1 3).bind fun x12 =>
  (opt (x12&&((it.marks.length:Int)==(it.names.length:Int))) default (qCp it.marks 0 3)).bind fun x14 =>
  some ((x12&&((it.marks.length:Int)==(it.names.length:Int)))&&x14)
 |y2::ys3,k1 =>
  (qGE fl y2).bind fun x16 =>
  cond (!x16)
   (some false)
   (qB0 it fl ys3 (k1+1))
def qDl (fl:Nat) (it:Item):Option Bool :=
 qB0 it fl it.names 0
theorem qJV (fl:Nat) (it:Item) (r:Bool) (hH:qDl fl it=some r):qAC prog 202 [.g (ze1 it)] (.v (.bool r)):=by
 refine fns T func202 ?_
 refine go ?_
 refine AO.x (bxs T 1) (go ?_)
 refine AW.loopS (fun s:Nat=>(⟨[(1,.p 1 0),(6,sv ze2 it.names),(7,(it.names.length:Int)),(8,(s:Int))],[(1,.box [sv ze2 it.names,sv ze0 it.marks,.v (.bool it.late)])],34,[]⟩:St)) (fun s=>s≤it.names.length∧qB0 it fl (it.names.drop s) s=some r) (fun s=>it.names.length-s) 0 ⟨Nat.zero_le _,hH⟩ ?_ ?_
 exact Le.ct 0 0
 rintro k1 ⟨hk,hH⟩
 try dsimp only at hH⊢
 refine AW.boundM (t:=6) (l:=it.names) rfl (fun hb5=>?_)
 rcases hd4:it.names.drop k1 with _|⟨y2,ys3⟩
 rw[hd4,qB0]at hH
 have hlt6:=qAF hd4
 refine go ?_
 obtain⟨x12,hx13,x14,hx15,hH⟩:=qAI hH
 refine go ?_
 refine AO.w (cVs (qAb _ _ _ _ (hx13))) ?_
 refine AO.pu T ?_
 refine AO.g0 T ?_
 refine AO.g1 T 21 ?_
 refine AO.d1 22 (fun hg=>qLn T) ?_
 refine AO.g0 T ?_
 refine AO.g1 T 24 ?_
 refine AO.d1 25 (fun hg=>qLn T) ?_
 refine AO.g2 T 23 26 ?_
 refine go ?_
 refine AO.g0 T ?_
 refine AO.g1 T 30 ?_
 refine AO.d1 31 (fun hg=>cVs (qHG _ _ _ _ (qEv hx15 hg))) ?_
 refine go ?_
 exact fin
 rw[hd4,qB0]at hH
 have hlt6:=qAG hd4
 refine go ?_
 obtain⟨x16,hx17,hH⟩:=zB hH
 refine go ?_
 refine AO.w (cVs (qPI fl _ _ (hx17))) (go ?_)
 refine AW.cH hH (fun _ hH=>?_) (fun _ hH=>?_)
 refine go ?_
 exact fin
 refine go ?_
 refine⟨k1+1,⟨hlt6,(zds hd4▸hH)⟩,qCC hlt6,?_⟩
 exact Le.ct 0 0
def qB6 (l:List Item) (fl:Nat):List Item→Nat→Option Bool
 | [],k1 =>
  some (decide ((l.length:Int)≤14))
 |y2::ys3,k1 =>
  (qDl fl y2).bind fun x12 =>
  cond (!x12)
   (some false)
   (qB6 l fl ys3 (k1+1))
def qFM (fl:Nat) (l:List Item):Option Bool :=
 qB6 l fl l 0
theorem qPY (fl:Nat) (l:List Item) (r:Bool) (hH:qFM fl l=some r):qAC prog 341 [.s (List.map ze1 l)] (.v (.bool r)):=by
 refine fns T func341 ?_
 refine go ?_
 refine AW.loopS (fun s:Nat=>(⟨[(0,sv ze1 l),(5,sv ze1 l),(6,(l.length:Int)),(7,(s:Int))],[],18,[]⟩:St)) (fun s=>s≤l.length∧qB6 l fl (l.drop s) s=some r) (fun s=>l.length-s) 0 ⟨Nat.zero_le _,hH⟩ ?_ ?_
 exact Le.ct 0 0
 rintro k1 ⟨hk,hH⟩
 try dsimp only at hH⊢
 refine AW.boundM (t:=0) (l:=l) rfl (fun hb5=>?_)
 rcases hd4:l.drop k1 with _|⟨y2,ys3⟩
 rw[hd4,qB6]at hH
 have hlt6:=qAF hd4
 refine go ?_
 exact fin
 rw[hd4,qB6]at hH
 have hlt6:=qAG hd4
 refine go ?_
 refine AO.x (als T 3) ?_
 refine AO.se T [sv ze2 y2.names,sv ze0 y2.marks,.v (.bool y2.late)] ?_
 refine go ?_
 obtain⟨x12,hx13,hH⟩:=zB hH
 refine go ?_
 refine AO.w (cVs (qJV fl _ _ (hx13))) (go ?_)
 refine AW.cH hH (fun _ hH=>?_) (fun _ hH=>?_)
 refine go ?_
 exact fin
 refine go ?_
 refine⟨k1+1,⟨hlt6,(zds hd4▸hH)⟩,qCC hlt6,?_⟩
 exact Le.ct 0 0
def qDM (c:Code):List ByteArray→Nat→Option (Except Bool Unit)
 | [],k74 =>
  some (.ok ())
 |y75::ys76,k74 =>
  (qF8 c y75).bind fun x85 =>
  cond (decide (x85<0))
   (some (.error false))
   (qDM c ys76 (k74+1))
def qDU (c:Code):List Item→Nat→Option Bool
 | [],k1 =>
  some true
 |y2::ys3,k1 =>
  (qDM c y2.names 0).bind fun o72=>qLN o72 fun _ =>
  qDU c ys3 (k1+1)
def qFa (c:Code) (l:List Item):Option Bool :=
 qDU c l 0
theorem qOS (c:Code) (l:List Item) (r:Bool) (hH:qFa c l=some r):qAC prog 342 [.g (ze4 c),.s (List.map ze1 l)] (.v (.bool r)):=by
 refine fns T func342 ?_
 refine gs2 ?_
 refine AO.x (bxs T 1) ?_
 iterate 10 refine gs ?_
 refine AW.loopS (fun s:Nat=>(⟨[(2,.p 1 0),(9,sv ze1 l),(10,(l.length:Int)),(11,(s:Int))],[(1,.box (ze4 c))],28,[]⟩:St)) (fun s=>s≤l.length∧qDU c (l.drop s) s=some r) (fun s=>l.length-s) 0 ⟨Nat.zero_le _,hH⟩ ?_ ?_
 exact Le.ct 0 0
 rintro k1 ⟨hk,hH⟩
 try dsimp only at hH⊢
 refine AW.boundM (t:=9) (l:=l) rfl (fun hb5=>?_)
 rcases hd4:l.drop k1 with _|⟨y2,ys3⟩
 rw[hd4,qDU]at hH
 have hlt6:=qAF hd4
 iterate 12 refine gs ?_
 exact fin
 rw[hd4,qDU]at hH
 have hlt6:=qAG hd4
 refine gs7 ?_
 obtain⟨o72,hH,hK73⟩:=zB hH
 refine AW.seqJ (fun s:Unit=>(⟨[(2,.p 1 0),(9,sv ze1 l),(10,(l.length:Int)),(11,(k1:Int))],[(1,.box (ze4 c))],28,[]⟩:St)) (fun s=>.ok s=o72) ?_ ?_
 refine gs5 ?_
 refine AO.x (als T 7) ?_
 refine AO.se T [sv ze2 y2.names,sv ze0 y2.marks,.v (.bool y2.late)] ?_
 refine gs9 ?_
 refine AW.loopS (fun s:Nat=>(⟨[(2,.p 1 0),(9,sv ze1 l),(10,(l.length:Int)),(11,(k1:Int)),(16,sv ze2 y2.names),(17,(y2.names.length:Int)),(18,(s:Int))],[(1,.box (ze4 c))],28,[]⟩:St)) (fun s=>s≤y2.names.length∧qDM c (y2.names.drop s) s=some o72) (fun s=>y2.names.length-s) 0 ⟨Nat.zero_le _,hH⟩ ?_ ?_
 exact Le.ct 0 0
 rintro k74 ⟨hk,hH⟩
 try dsimp only at hH⊢
 refine AW.boundM (t:=16) (l:=y2.names) rfl (fun hb78=>?_)
 rcases hd77:y2.names.drop k74 with _|⟨y75,ys76⟩
 rw[hd77,qDM]at hH
 have hlt79:=qAF hd77
 refine gs7 ?_
 refine⟨_,zS hH,?_⟩
 exact Le.ct 0 0
 rw[hd77,qDM]at hH
 have hlt79:=qAG hd77
 iterate 16 refine gs ?_
 obtain⟨x85,hx86,hH⟩:=zB hH
 refine gs3 ?_
 refine AO.w (cVs (qHm _ _ _ (hx86))) ?_
 refine gs2 ?_
 refine AW.cH hH (fun _ hH=>?_) (fun _ hH=>?_)
 refine gs5 ?_
 obtain rfl:=zS hH
 replace hH:=hK73
 exact fin
 refine gs5 ?_
 refine⟨k74+1,⟨hlt79,(zds hd77▸hH)⟩,qCC hlt79,?_⟩
 exact Le.ct 0 0
 rintro _ hs
 subst hs
 replace hH:=hK73
 try dsimp only[qLN,qJm]at hH
 try dsimp only
 refine gs4 ?_
 refine⟨k1+1,⟨hlt6,(zds hd4▸hH)⟩,qCC hlt6,?_⟩
 exact Le.ct 0 0
def qKD (fl:Nat) (c:Code) (l:List Item):Option Bool :=
 (qDD fl c).bind fun x1 =>
 (opt x1 default (qFM fl l)).bind fun x3 =>
 (opt (x1&&x3) default (qFa c l)).bind fun x5 =>
 some ((x1&&x3)&&x5)
theorem qPX (fl:Nat) (c:Code) (l:List Item) (r:Bool) (hH:qKD fl c l=some r):qAC prog 313 [.g (ze4 c),.s (List.map ze1 l)] (.v (.bool r)):=by
 refine fns T func313 ?_
 refine go ?_
 refine AO.x (bxs T 1) (go ?_)
 obtain⟨x1,hx2,x3,hx4,x5,hx6,hH⟩:=qBB hH
 refine go ?_
 refine AO.w (cVs (qJQ fl _ _ (hx2))) ?_
 refine AO.pu T ?_
 refine AO.g0 T ?_
 refine AO.d1 8 (fun hg=>cVs (qPY fl _ _ (qEv hx4 hg))) ?_
 refine go ?_
 refine AO.g T (d:=.g (ze4 c)) [] rfl trivial rfl rfl ?_
 refine AO.g0 T ?_
 refine AO.d2 12 13 (fun hg=>cVs (qOS _ _ _ (qEv hx6 hg))) ?_
 refine go ?_
 exact fin
def qB3 (l:List Int) (judges:Int) (component:Bool):List Int→Nat→Option Bool
 | [],k1 =>
  cond component
   ((opt ((l.length:Int)==judges) default (qCp l 0 1000)).bind fun x12 =>
   some (((l.length:Int)==judges)&&x12))
   ((opt ((l.length:Int)==judges) default (qCp l (-5) 5)).bind fun x14 =>
   some (((l.length:Int)==judges)&&x14))
 |y2::ys3,k1 =>
  (opt component default (qAz (25 != 0))).bind fun u16 =>
  cond (component&&((y2.tmod 25) != 0))
   (some false)
   (qB3 l judges component ys3 (k1+1))
def qHE (l:List Int) (judges:Int) (component:Bool):Option Bool :=
 qB3 l judges component l 0
theorem qLr (l:List Int) (judges:Int) (component:Bool) (r:Bool) (hH:qHE l judges component=some r):qAC prog 267 [.s (List.map ze0 l),judges,.v (.bool component)] (.v (.bool r)):=by
 refine fns T func267 ?_
 refine go ?_
 refine AW.loopS (fun s:Nat=>(⟨[(0,sv ze0 l),(1,judges),(2,.v (.bool component)),(9,sv ze0 l),(10,(l.length:Int)),(11,(s:Int))],[],39,[]⟩:St)) (fun s=>s≤l.length∧qB3 l judges component (l.drop s) s=some r) (fun s=>l.length-s) 0 ⟨Nat.zero_le _,hH⟩ ?_ ?_
 exact Le.ct 0 0
 rintro k1 ⟨hk,hH⟩
 try dsimp only at hH⊢
 refine AW.boundM (t:=0) (l:=l) rfl (fun hb5=>?_)
 rcases hd4:l.drop k1 with _|⟨y2,ys3⟩
 rw[hd4,qB3]at hH
 have hlt6:=qAF hd4
 refine go ?_
 refine AW.cH hH (fun _ hH=>?_) (fun hc hH=>?_)
 refine AW.q ?_
 obtain⟨x12,hx13,hH⟩:=zB hH
 refine go ?_
 refine AO.g0 T ?_
 refine AO.d1 28 (fun hg=>cVs (qHG _ _ _ _ (qEv hx13 hg))) ?_
 refine go ?_
 exact fin
 refine go ?_
 obtain⟨x14,hx15,hH⟩:=zB hH
 refine go ?_
 refine AO.g0 T ?_
 refine AO.d1 36 (fun hg=>cVs (qHG _ _ _ _ (qEv hx15 hg))) ?_
 refine go ?_
 exact fin
 rw[hd4,qB3]at hH
 have hlt6:=qAG hd4
 refine go ?_
 obtain⟨u16,hx17,hH⟩:=zB hH
 refine go ?_
 refine AO.g0 T ?_
 refine AO.d1 17 (fun hg=>qRA rfl rfl rfl (neZ (qAS (qEv hx17 hg)))) ?_
 refine AO.g1 T 18 ?_
 refine go ?_
 refine AW.cH hH (fun _ hH=>?_) (fun _ hH=>?_)
 refine go ?_
 exact fin
 refine go ?_
 refine⟨k1+1,⟨hlt6,(zds hd4▸hH)⟩,qCC hlt6,?_⟩
 exact Le.ct 0 0
def qEa (x1:List Int):List (List Int)→Nat→Option Bool
 | [],k14 =>
  (qAZ (x1.length:Int) 3 9).bind fun x25 =>
  some x25
 |y15::ys16,k14 =>
  (qHE y15 (x1.length:Int) true).bind fun x27 =>
  cond (!x27)
   (some false)
   (qEa x1 ys16 (k14+1))
def qEg (m:Marks) (x1:List Int):List (List Int)→Nat→Option Bool
 | [],k3 =>
  qEa x1 m.components 0
 |y4::ys5,k3 =>
  (qHE y4 (x1.length:Int) false).bind fun x29 =>
  cond (!x29)
   (some false)
   (qEg m x1 ys5 (k3+1))
def qFF (m:Marks):Option Bool :=
 cond (((m.components.length:Int) != 3)||decide ((m.grades.length:Int)>14))
  (some false)
  ((qAV m.components 0).bind fun x1 =>
  qEg m x1 m.grades 0)
theorem qJ8 (m:Marks) (r:Bool) (hH:qFF m=some r):qAC prog 212 [.g (qAf m)] (.v (.bool r)):=by
 refine fns T func212 ?_
 refine go ?_
 refine AO.x (bxs T 1) (go ?_)
 refine AO.g0 T ?_
 refine AO.g1 T 13 ?_
 refine AO.d1 14 (fun hg=>qLn T) ?_
 refine AO.g1 T 15 ?_
 refine go ?_
 refine AW.cH hH (fun _ hH=>?_) (fun hc hH=>?_)
 refine go ?_
 exact fin
 refine go ?_
 obtain⟨x1,hx2,hH⟩:=zB hH
 refine go ?_
 refine AW.loopS (fun s:Nat=>(⟨[(1,.p 1 0),(3,(x1.length:Int)),(24,sv ze3 m.grades),(25,(m.grades.length:Int)),(26,(s:Int))],[(1,.box [sv ze3 m.grades,sv ze3 m.components])],49,[]⟩:St)) (fun s=>s≤m.grades.length∧qEg m x1 (m.grades.drop s) s=some r) (fun s=>m.grades.length-s) 0 ⟨Nat.zero_le _,hH⟩ ?_ ?_
 exact Le.ct 0 0
 rintro k3 ⟨hk,hH⟩
 try dsimp only at hH⊢
 refine AW.boundM (t:=24) (l:=m.grades) rfl (fun hb7=>?_)
 rcases hd6:m.grades.drop k3 with _|⟨y4,ys5⟩
 rw[hd6,qEg]at hH
 have hlt8:=qAF hd6
 refine go ?_
 refine AW.loopS (fun s:Nat=>(⟨[(3,(x1.length:Int)),(36,sv ze3 m.components),(37,(m.components.length:Int)),(38,(s:Int))],[],49,[]⟩:St)) (fun s=>s≤m.components.length∧qEa x1 (m.components.drop s) s=some r) (fun s=>m.components.length-s) 0 ⟨Nat.zero_le _,hH⟩ ?_ ?_
 exact Le.ct 0 0
 rintro k14 ⟨hk,hH⟩
 try dsimp only at hH⊢
 refine AW.boundM (t:=36) (l:=m.components) rfl (fun hb18=>?_)
 rcases hd17:m.components.drop k14 with _|⟨y15,ys16⟩
 rw[hd17,qEa]at hH
 have hlt19:=qAF hd17
 refine go ?_
 obtain⟨x25,hx26,hH⟩:=zB hH
 refine go ?_
 refine AO.w (cVs (qAb _ _ _ _ (hx26))) (go ?_)
 exact fin
 rw[hd17,qEa]at hH
 have hlt19:=qAG hd17
 refine go ?_
 obtain⟨x27,hx28,hH⟩:=zB hH
 refine go ?_
 refine AO.w (cVs (qLr _ _ _ _ (hx28))) (go ?_)
 refine AW.cH hH (fun _ hH=>?_) (fun hc hH=>?_)
 refine go ?_
 exact fin
 refine go ?_
 refine⟨k14+1,⟨hlt19,(zds hd17▸hH)⟩,qCC hlt19,?_⟩
 exact Le.ct 0 0
 rw[hd6,qEg]at hH
 have hlt8:=qAG hd6
 refine go ?_
 obtain⟨x29,hx30,hH⟩:=zB hH
 refine go ?_
 refine AO.w (cVs (qLr _ _ _ _ (hx30))) (go ?_)
 refine AW.cH hH (fun _ hH=>?_) (fun _ hH=>?_)
 refine go ?_
 exact fin
 refine go ?_
 refine⟨k3+1,⟨hlt8,(zds hd6▸hH)⟩,qCC hlt8,?_⟩
 exact Le.ct 0 0
def qKK (m:Marks) (items:Int):Option Bool :=
 (qFF m).bind fun x1 =>
 some (x1&&((m.grades.length:Int)==items))
theorem qPb (m:Marks) (items:Int) (r:Bool) (hH:qKK m items=some r):qAC prog 314 [.g (qAf m),items] (.v (.bool r)):=by
 refine fns T func314 ?_
 refine go ?_
 refine AO.x (bxs T 1) (go ?_)
 obtain⟨x1,hx2,hH⟩:=zB hH
 refine go ?_
 refine AO.w (cVs (qJ8 _ _ (hx2))) ?_
 refine AO.pu T ?_
 refine AO.g0 T ?_
 refine AO.g1 T 8 ?_
 refine AO.d1 9 (fun hg=>qLn T) ?_
 refine AO.g0 T ?_
 refine AO.g2 T 10 11 ?_
 refine go ?_
 exact fin
def qKL (fl:Nat) (c:Code) (l:List Item) (m:Marks):Option Bool :=
 (qKD fl c l).bind fun x1 =>
 (opt x1 default (qKK m (l.length:Int))).bind fun x3 =>
 some (x1&&x3)
theorem qPO (fl:Nat) (c:Code) (l:List Item) (m:Marks) (r:Bool) (hH:qKL fl c l m=some r):qAC prog 263 [.g (ze4 c),.s (List.map ze1 l),.g (qAf m)] (.v (.bool r)):=by
 refine fns T func263 ?_
 refine go ?_
 refine AO.x (bxs T 1) ?_
 refine AO.x (bxs T 2) (go ?_)
 obtain⟨x1,hx2,x3,hx4,hH⟩:=qAI hH
 refine go ?_
 refine AO.w (cVs (qPX fl _ _ _ (hx2))) ?_
 refine AO.pu T ?_
 refine AO.g T (d:=.g [sv ze3 m.grades,sv ze3 m.components]) [] rfl trivial rfl rfl ?_
 refine AO.g0 T ?_
 refine AO.d1 12 (fun hg=>qLn T) ?_
 refine AO.d2 11 13 (fun hg=>cVs (qPb _ _ _ (qEv hx4 hg))) ?_
 refine go ?_
 exact fin
def qHB (sA:Slips):Option Bool :=
 (qAZ sA.falls 0 9).bind fun x1 =>
 (opt x1 default (qAZ sA.seconds 0 60)).bind fun x3 =>
 (opt (x1&&x3) default (qAZ sA.other 0 500)).bind fun x5 =>
 some ((x1&&x3)&&x5)
theorem qPL (sA:Slips) (r:Bool) (hH:qHB sA=some r):qAC prog 264 [.g (qOF sA)] (.v (.bool r)):=by
 refine fns T func264 ?_
 refine go ?_
 refine AO.x (bxs T 1) (go ?_)
 obtain⟨x1,hx2,x3,hx4,x5,hx6,hH⟩:=qBB hH
 refine go ?_
 refine AO.w (cVs (qAb _ _ _ _ (hx2))) ?_
 refine AO.pu T ?_
 refine AO.g0 T ?_
 refine AO.g1 T 7 ?_
 refine AO.d1 8 (fun hg=>cVs (qAb _ _ _ _ (qEv hx4 hg))) ?_
 refine go ?_
 refine AO.g0 T ?_
 refine AO.g1 T 12 ?_
 refine AO.d1 13 (fun hg=>cVs (qAb _ _ _ _ (qEv hx6 hg))) ?_
 refine go ?_
 exact fin
def qBZ (fl:Nat) (c:Code) (p:Performance):Option Bool :=
 (qKL fl c p.items p.marks).bind fun x1 =>
 (opt x1 default (qHB p.slips)).bind fun x3 =>
 some (x1&&x3)
theorem qLv (fl:Nat) (c:Code) (p:Performance) (r:Bool) (hH:qBZ fl c p=some r):qAC prog 204 [.g (ze4 c),.g (qHY p)] (.v (.bool r)):=by
 refine fns T func204 ?_
 refine go ?_
 refine AO.x (bxs T 1) ?_
 refine AO.x (bxs T 2) (go ?_)
 obtain⟨x1,hx2,x3,hx4,hH⟩:=qAI hH
 refine go ?_
 refine AO.w (cVs (qPO fl _ _ _ _ (hx2))) ?_
 refine AO.pu T ?_
 refine AO.g0 T ?_
 refine AO.g T (d:=.g [p.slips.falls,p.slips.seconds,p.slips.other]) [12] rfl ⟨fun h=>h,trivial⟩ rfl rfl ?_
 refine AO.d1 13 (fun hg=>cVs (qPL _ _ (qEv hx4 hg))) ?_
 refine go ?_
 exact fin
def qE1 (factor:Int):Option Bool :=
 (qAZ factor 10 400).bind fun x1 =>
 some x1
theorem qKM (factor:Int) (r:Bool) (hH:qE1 factor=some r):qAC prog 147 [factor] (.v (.bool r)):=by
 refine fns T func147 ?_
 refine go ?_
 obtain⟨x1,hx2,hH⟩:=zB hH
 refine go ?_
 refine AO.w (cVs (qAb _ _ _ _ (hx2))) (go ?_)
 exact fin
def qGX (fl:Nat) (c:Code) (p:Performance) (factor:Int):Option Bool :=
 (qBZ fl c p).bind fun x1 =>
 (opt x1 default (qE1 factor)).bind fun x3 =>
 some (x1&&x3)
theorem qKf (fl:Nat) (c:Code) (p:Performance) (factor:Int) (r:Bool) (hH:qGX fl c p factor=some r):qAC prog 193 [.g (ze4 c),.g (qHY p),factor] (.v (.bool r)):=by
 refine fns T func193 ?_
 refine go ?_
 refine AO.x (bxs T 1) ?_
 refine AO.x (bxs T 2) (go ?_)
 obtain⟨x1,hx2,x3,hx4,hH⟩:=qAI hH
 refine go ?_
 refine AO.w (cVs (qLv fl _ _ _ (hx2))) ?_
 refine AO.pu T ?_
 refine AO.g0 T ?_
 refine AO.d1 11 (fun hg=>cVs (qKM _ _ (qEv hx4 hg))) ?_
 refine go ?_
 exact fin
def qEB (m:Marks):Option Int :=
 (qAV m.components 0).bind fun x1 =>
 some (x1.length:Int)
theorem qIA (m:Marks) (r:Int) (hH:qEB m=some r):qAC prog 139 [.g (qAf m)] (.v (.int .i64 r)):=by
 refine fns T func139 ?_
 refine go ?_
 refine AO.x (bxs T 1) (go ?_)
 obtain⟨x1,hx2,hH⟩:=zB hH
 refine go ?_
 exact fin
def qGZ (p:Performance):Option Int :=
 (qEB p.marks).bind fun x1 =>
 cond (decide (x1≥5))
  (some (w64 (x1-2)))
  (some x1)
theorem qKj (p:Performance) (r:Int) (hH:qGZ p=some r):qAC prog 195 [.g (qHY p)] (.v (.int .i64 r)):=by
 refine fns T func195 ?_
 refine go ?_
 refine AO.x (bxs T 1) (go ?_)
 obtain⟨x1,hx2,hH⟩:=zB hH
 refine go ?_
 refine AO.w (cVs (qIA _ _ (hx2))) (go ?_)
 refine AW.cH hH (fun _ hH=>?_) (fun _ hH=>?_)
 refine go ?_
 exact fin
 refine go ?_
 exact fin
def qHi (a:Int) (b:Int):Option Int :=
 (qAz (b != 0)).bind fun u1 =>
 some (w64 ((w64 ((w64 (a+b))-1)).tdiv b))
theorem qKy (a:Int) (b:Int) (r:Int) (hH:qHi a b=some r):qAC prog 194 [a,b] (.v (.int .i64 r)):=by
 refine fns T func194 ?_
 refine go ?_
 obtain⟨u1,hx2,hH⟩:=zB hH
 refine go ?_
 refine AO.w (qHQ rfl rfl rfl (neZ (qAS (hx2)))) (go ?_)
 exact fin
def qKB (c:Code) (p:Performance) (k:Int):Option Int :=
 (qEk c p.items k).bind fun x1 =>
 cond (x1==0)
  (some 0)
  ((qAV p.items k).bind fun x3 =>
  (qIP c x3).bind fun x5 =>
  (qGZ p).bind fun x7 =>
  (qHi x5 x7).bind fun x9 =>
  some x9)
theorem qRH (c:Code) (p:Performance) (k:Int) (r:Int) (hH:qKB c p k=some r):qAC prog 196 [.g (ze4 c),.g (qHY p),k] (.v (.int .i64 r)):=by
 refine fns T func196 ?_
 refine go ?_
 refine AO.x (bxs T 1) ?_
 refine AO.x (bxs T 2) (go ?_)
 obtain⟨x1,hx2,hH⟩:=zB hH
 refine go ?_
 refine AO.w (cVs (qHt _ _ _ _ (hx2))) (go ?_)
 refine AW.cH hH (fun _ hH=>?_) (fun _ hH=>?_)
 refine go ?_
 exact fin
 refine go ?_
 obtain⟨x3,hx4,x5,hx6,x7,hx8,hH⟩:=qBB hH
 obtain⟨x9,hx10,hH⟩:=zB hH
 refine AW.drawn 8 3 [] mix (by kernel_rfl) rfl ?_
 refine go ?_
 refine AD.vv (cVs (qLj _ _ _ (hx6))) ?_
 refine go ?_
 refine AO.w (cVs (qKj _ _ (hx8))) ?_
 refine AO.w (cVs (qKy _ _ _ (hx10))) (go ?_)
 exact fin
def qBV (c:Code) (p:Performance):List Item→Nat→Int→Option ((Int×Bool))
 | [],k9,v20 =>
  some (v20,true)
 |y10::ys11,k9,v20 =>
  (qKB c p (k9:Int)).bind fun x22 =>
  qBV c p ys11 (k9+1) (w64 (v20+x22))
def qD8 (fl:Nat) (c:Code) (p:Performance) (factor:Int):Option (Int×Bool) :=
 (qGX fl c p factor).bind fun x1 =>
 cond (!x1)
  (some (0,false))
  ((qGZ p).bind fun x3 =>
  (qHi 1000 x3).bind fun x5 =>
  (qHi (w64 ((w64 (factor*3))*x5)) 100).bind fun x7 =>
  qBV c p p.items 0 x7)
theorem qLX (fl:Nat) (c:Code) (p:Performance) (factor:Int) (r:(Int×Bool)) (hH:qD8 fl c p factor=some r):qAC prog 134 [.g (ze4 c),.g (qHY p),factor] (.t [.v (.int .i64 r.1),.v (.bool r.2)]):=by
 refine fns T func134 ?_
 refine go ?_
 refine AO.x (bxs T 1) ?_
 refine AO.x (bxs T 2) (go ?_)
 obtain⟨x1,hx2,hH⟩:=zB hH
 refine go ?_
 refine AO.w (cVs (qKf fl _ _ _ _ (hx2))) (go ?_)
 refine AW.cH hH (fun _ hH=>?_) (fun _ hH=>?_)
 refine go ?_
 exact fin
 refine go ?_
 obtain⟨x3,hx4,x5,hx6,x7,hx8,hH⟩:=qBB hH
 refine go ?_
 refine AO.w (cVs (qKj _ _ (hx4))) ?_
 refine AO.w (cVs (qKy _ _ _ (hx6))) ?_
 refine AO.w aws ?_
 refine AO.w (cVs (qKy _ _ _ (hx8))) (go ?_)
 refine AW.loopS (fun s:Nat×Int=>(⟨[(3,.p 1 0),(4,.p 2 0),(8,s.2),(24,(p.items.length:Int)),(25,(s.1:Int))],[(1,.box (ze4 c)),(2,.box (qHY p))],36,[]⟩:St)) (fun s=>s.1≤p.items.length∧qBV c p (p.items.drop s.1) s.1 s.2=some r) (fun s=>p.items.length-s.1) (0,x7) ⟨Nat.zero_le _,hH⟩ ?_ ?_
 exact Le.ct 0 0
 rintro⟨k9,v20⟩ ⟨hk,hH⟩
 try dsimp only at hH⊢
 refine AW.boundBox (id:=2) (j:=0) (l:=p.items) rfl rfl (fun hb13=>?_)
 rcases hd12:p.items.drop k9 with _|⟨y10,ys11⟩
 rw[hd12,qBV]at hH
 have hlt14:=qAF hd12
 refine go ?_
 exact fin
 rw[hd12,qBV]at hH
 have hlt14:=qAG hd12
 refine go ?_
 obtain⟨x22,hx23,hH⟩:=zB hH
 refine go ?_
 refine AO.w (cVs (qRH _ _ _ _ (hx23))) (go ?_)
 refine⟨(k9+1,w64 (v20+x22)),⟨hlt14,(zds hd12▸hH)⟩,qCC hlt14,?_⟩
 exact Le.ct 0 0
def qDA (fl:Nat) (c:Code) (p:Performance) (factor:Int):Option Int :=
 (qFd fl c p factor).bind fun x1 =>
 (qAV x1 3).bind fun x3 =>
 some x3
theorem qHX (fl:Nat) (c:Code) (p:Performance) (factor:Int) (r:Int) (hH:qDA fl c p factor=some r):qAC prog 197 [.g (ze4 c),.g (qHY p),factor] (.v (.int .i64 r)):=by
 refine fns T func197 ?_
 refine go ?_
 refine AO.x (bxs T 1) ?_
 refine AO.x (bxs T 2) (go ?_)
 obtain⟨x1,hx2,x3,hx4,hH⟩:=qAI hH
 refine go ?_
 refine AO.x (qAU rfl 3 rfl rfl rfl (qK5 fl _ _ _ _ (hx2)) rfl rfl rfl) (go ?_)
 refine AO.w (zLr T rfl rfl rfl rfl (zgG (hx4)) rfl rfl rfl) (go ?_)
 exact fin
def qEm (k1:Nat) (k434:Nat) (y435:Int):Nat→List (List Int)→Int→Option (List (List Int))
 |0,_,_=>none
 |k507+1,v514,v515 =>
  cond (decide (v515≤3))
   (cond (v515 != y435)
    ((qAz (qAh 24 (v514.length+([[(k1:Int),(k434:Int),v515]]).length))).bind fun u517 =>
    qEm k1 k434 y435 k507 (v514++[[(k1:Int),(k434:Int),v515]]) (w64 (v515+1)))
    (qEm k1 k434 y435 k507 v514 (w64 (v515+1))))
   (some v514)
def qEh (fl:Nat) (k1:Nat):List Int→Nat→List (List Int)→Option (List (List Int))
 | [],k434,v491 =>
  some v491
 |y435::ys436,k434,v491 =>
  (qEm k1 k434 y435 fl v491 0).bind fun v504 =>
  qEh fl k1 ys436 (k434+1) v504
def qEf (fl:Nat):List Item→Nat→List (List Int)→Option ((List (List Int)))
 | [],k1,v346 =>
  some v346
 |y2::ys3,k1,v346 =>
  (qEh fl k1 y2.marks 0 v346).bind fun v431 =>
  qEf fl ys3 (k1+1) v431
def qKd (fl:Nat) (l:List Item):Option (List (List Int)) :=
 qEf fl l 0 []
theorem qQL (fl:Nat) (l:List Item) (r:(List (List Int))) (hH:qKd fl l=some r):qAC prog 198 [.s (List.map ze1 l)] (.w 1 (r.map ze3)):=by
 refine fns T func198 ?_
 iterate 16 refine gs ?_
 refine AW.loopS (fun s:Nat×(List (List Int))=>(⟨[(3,.R 7),(9,sv ze1 l),(10,(l.length:Int)),(11,(s.1:Int))],[(7,ro 1 ze3 s.2)],41,[]⟩:St)) (fun s=>s.1≤l.length∧qEf fl (l.drop s.1) s.1 s.2=some r) (fun s=>l.length-s.1) (0,[]) ⟨Nat.zero_le _,hH⟩ ?_ ?_
 refine Le.trans (Le.void 3 7 1 rfl rfl) ?_
 exact Le.ct 0 0
 rintro⟨k1,v346⟩ ⟨hk,hH⟩
 try dsimp only at hH⊢
 refine AW.boundM (t:=9) (l:=l) rfl (fun hb5=>?_)
 rcases hd4:l.drop k1 with _|⟨y2,ys3⟩
 rw[hd4,qEf]at hH
 have hlt6:=qAF hd4
 iterate 13 refine gs ?_
 exact fin
 rw[hd4,qEf]at hH
 have hlt6:=qAG hd4
 refine gs7 ?_
 obtain⟨o432,hH,hK433⟩:=zB hH
 refine AW.seqJ (fun s:List (List Int)=>(⟨[(3,.R 7),(9,sv ze1 l),(10,(l.length:Int)),(11,(k1:Int))],[(7,ro 1 ze3 s)],41,[]⟩:St)) (fun s=>s=o432) ?_ ?_
 refine gs6 ?_
 refine AO.x (als T 276) ?_
 refine AO.pu T ?_
 refine AO.se T [sv ze2 y2.names,sv ze0 y2.marks,.v (.bool y2.late)] ?_
 refine gs9 ?_
 refine AW.loopS (fun s:Nat×(List (List Int))=>(⟨[(3,.R 7),(4,(k1:Int)),(9,sv ze1 l),(10,(l.length:Int)),(11,(k1:Int)),(17,sv ze0 y2.marks),(18,(y2.marks.length:Int)),(19,(s.1:Int))],[(7,ro 1 ze3 s.2)],41,[]⟩:St)) (fun s=>s.1≤y2.marks.length∧qEh fl k1 (y2.marks.drop s.1) s.1 s.2=some o432) (fun s=>y2.marks.length-s.1) (0,v346) ⟨Nat.zero_le _,hH⟩ ?_ ?_
 exact Le.ct 0 0
 rintro⟨k434,v491⟩ ⟨hk,hH⟩
 try dsimp only at hH⊢
 refine AW.boundM (t:=17) (l:=y2.marks) rfl (fun hb438=>?_)
 rcases hd437:y2.marks.drop k434 with _|⟨y435,ys436⟩
 rw[hd437,qEh]at hH
 have hlt439:=qAF hd437
 refine gs7 ?_
 refine⟨_,zS hH,?_⟩
 exact Le.ct 0 0
 rw[hd437,qEh]at hH
 have hlt439:=qAG hd437
 refine gs7 ?_
 obtain⟨o505,hH,hK506⟩:=zB hH
 refine AW.seqJ (fun s:List (List Int)=>(⟨[(3,.R 7),(4,(k1:Int)),(9,sv ze1 l),(10,(l.length:Int)),(11,(k1:Int)),(17,sv ze0 y2.marks),(18,(y2.marks.length:Int)),(19,(k434:Int))],[(7,ro 1 ze3 s)],41,[]⟩:St)) (fun s=>s=o505) ?_ ?_
 iterate 14 refine gs ?_
 refine AW.loopS (fun s:Nat×(List (List Int))×Int=>(⟨[(3,.R 7),(4,(k1:Int)),(6,(k434:Int)),(7,y435),(8,s.2.2),(9,sv ze1 l),(10,(l.length:Int)),(11,(k1:Int)),(17,sv ze0 y2.marks),(18,(y2.marks.length:Int)),(19,(k434:Int))],[(7,ro 1 ze3 s.2.1)],41,[]⟩:St)) (fun s=>qEm k1 k434 y435 s.1 s.2.1 s.2.2=some o505) (fun s=>s.1) (fl,v491,0) hH ?_ ?_
 exact Le.ct 0 0
 rintro⟨k507,v514,v515⟩ hH
 try dsimp only at hH⊢
 rcases k507 with _|k507
 cases (show none=some _ from hH)
 rw[qEm]at hH
 refine gs6 ?_
 refine AW.cH hH (fun hc hH=>?_) (fun _ hH=>?_)
 refine gs9 ?_
 refine AW.cH hH (fun _ hH=>?_) (fun hc hH=>?_)
 obtain⟨u517,hx518,hH⟩:=zB hH
 refine gs5 ?_
 refine AO.x (mks T 328 ze0 ([(k1:Int),(k434:Int),v515])) ?_
 refine AO.le (Le.fM 328 (g:=ze0) rfl (fun y=>.vs rfl)) ?_
 refine AO.x (mks T 329 ze3 ([[(k1:Int),(k434:Int),v515]])) ?_
 refine AO.x (rvs T 330 (hfit:=by exact qAS (hx518))) ?_
 refine gs7 ?_
 refine⟨(k507,(v514++[[(k1:Int),(k434:Int),v515]]),w64 (v515+1)),hH,Nat.lt_succ_self _,?_⟩
 exact Le.ct 330 7
 refine gs6 ?_
 refine⟨(k507,v514,w64 (v515+1)),hH,Nat.lt_succ_self _,?_⟩
 exact Le.ct 0 0
 refine AW.exit ?_
 refine⟨_,zS hH,?_⟩
 exact Le.ct 0 0
 rintro v504 hs
 subst hs
 replace hH:=hK506
 try dsimp only[qLN,qJm]at hH
 try dsimp only
 refine gs4 ?_
 refine⟨(k434+1,v504),⟨hlt439,(zds hd437▸hH)⟩,qCC hlt439,?_⟩
 exact Le.ct 0 0
 rintro v431 hs
 subst hs
 replace hH:=hK433
 try dsimp only[qLN,qJm]at hH
 try dsimp only
 refine gs4 ?_
 refine⟨(k1+1,v431),⟨hlt6,(zds hd4▸hH)⟩,qCC hlt6,?_⟩
 exact Le.ct 0 0
def qDo (v16:List (List Int)):List (List Int)→Nat→List (List Int)→Option Marks
 | [],k18,v33 =>
  some (Marks.mk v16 v33)
 |y19::ys20,k18,v33 =>
  (qFE y19).bind fun x35 =>
  (qAz (qAh 24 (v33.length+([x35]).length))).bind fun u37 =>
  qDo v16 ys20 (k18+1) (v33++[x35])
def qEl (m:Marks):List (List Int)→Nat→List (List Int)→Option Marks
 | [],k1,v16 =>
  qDo v16 m.components 0 []
 |y2::ys3,k1,v16 =>
  (qFE y2).bind fun x39 =>
  (qAz (qAh 24 (v16.length+([x39]).length))).bind fun u41 =>
  qEl m ys3 (k1+1) (v16++[x39])
def qFC (m:Marks):Option Marks :=
 qEl m m.grades 0 []
theorem qIU (m:Marks) (r:Marks) (hH:qFC m=some r):qAC prog 81 [.g (qAf m)] (.g (qIq r)):=by
 refine fns T func81 ?_
 refine go ?_
 refine AO.x (bxs T 1) ?_
 refine AO.x (als T 2) (go ?_)
 refine AO.x (als T 3) ?_
 refine AO.se T [.w 0 [],.w 0 []] ?_
 refine go ?_
 refine AW.loopS (fun s:Nat×(List (List Int))=>(⟨[(1,.p 1 0),(2,.p 2 0),(3,.p 3 0),(10,sv ze3 m.grades),(11,(m.grades.length:Int)),(12,(s.1:Int))],[(1,.box [sv ze3 m.grades,sv ze3 m.components]),(2,.box [.w 0 [],.w 0 []]),(3,.box [.R 9,.w 0 []]),(9,ro 1 ze8 s.2)],40,[]⟩:St)) (fun s=>s.1≤m.grades.length∧qEl m (m.grades.drop s.1) s.1 s.2=some r) (fun s=>m.grades.length-s.1) (0,[]) ⟨Nat.zero_le _,hH⟩ ?_ ?_
 refine Le.trans (Le.voidBox 3 0 9 1 rfl rfl rfl rfl) ?_
 exact Le.ct 0 0
 rintro⟨k1,v16⟩ ⟨hk,hH⟩
 try dsimp only at hH⊢
 refine AW.boundM (t:=10) (l:=m.grades) rfl (fun hb5=>?_)
 rcases hd4:m.grades.drop k1 with _|⟨y2,ys3⟩
 rw[hd4,qEl]at hH
 have hlt6:=qAF hd4
 refine go ?_
 refine AW.loopS (fun s:Nat×(List (List Int))=>(⟨[(2,.p 2 0),(3,.p 3 0),(25,sv ze3 m.components),(26,(m.components.length:Int)),(27,(s.1:Int))],[(2,.box [.w 0 [],.w 0 []]),(3,.box [.R 9,.R 15]),(9,ro 1 ze8 v16),(15,ro 1 ze8 s.2)],40,[]⟩:St)) (fun s=>s.1≤m.components.length∧qDo v16 (m.components.drop s.1) s.1 s.2=some r) (fun s=>m.components.length-s.1) (0,[]) ⟨Nat.zero_le _,hH⟩ ?_ ?_
 refine Le.trans (Le.voidBox 3 1 15 1 rfl rfl rfl rfl) ?_
 exact Le.ct 0 0
 rintro⟨k18,v33⟩ ⟨hk,hH⟩
 try dsimp only at hH⊢
 refine AW.boundM (t:=25) (l:=m.components) rfl (fun hb22=>?_)
 rcases hd21:m.components.drop k18 with _|⟨y19,ys20⟩
 rw[hd21,qDo]at hH
 have hlt23:=qAF hd21
 refine go ?_
 refine AO.se T [.R 9,.R 15] ?_
 refine go ?_
 exact fin
 rw[hd21,qDo]at hH
 have hlt23:=qAG hd21
 refine go ?_
 obtain⟨x35,hx36,u37,hx38,hH⟩:=qAI hH
 refine AW.drawn 5 16 [] mix (by kernel_rfl) rfl ?_
 refine go ?_
 refine AD.q (FStep.call rfl rfl rfl rfl rfl (qIT _ _ (hx36)) rfl rfl) (qBF _ _) (qDh _ _) rfl ?_
 refine AD.kk (FStep.mk_o T rfl rfl rfl rfl rfl rfl rfl rfl (f:=ze8) (l:=[x35]) (ids:=[16]) rfl rfl (fun _=>rfl) (by exact zC (.rowR rfl) (zCn)) (by decide) rfl rfl rfl rfl) ?_
 refine AD.nil (AO.x (qE2 T rfl 18 rfl rfl rfl rfl rfl (by decide) rfl rfl rfl rfl rfl (qAS (hx38)) rfl rfl) ?_)
 refine AO.pu T ?_
 refine AO.se T [.R 9,.R 18] ?_
 refine go ?_
 refine⟨(k18+1,(v33++[x35])),⟨hlt23,(zds hd21▸hH)⟩,qCC hlt23,?_⟩
 exact Le.ct 18 15
 rw[hd4,qEl]at hH
 have hlt6:=qAG hd4
 refine go ?_
 obtain⟨x39,hx40,u41,hx42,hH⟩:=qAI hH
 refine AW.drawn 5 19 [] mix (by kernel_rfl) rfl ?_
 refine go ?_
 refine AD.q (FStep.call rfl rfl rfl rfl rfl (qIT _ _ (hx40)) rfl rfl) (qBF _ _) (qDh _ _) rfl ?_
 refine AD.kk (FStep.mk_o T rfl rfl rfl rfl rfl rfl rfl rfl (f:=ze8) (l:=[x39]) (ids:=[19]) rfl rfl (fun _=>rfl) (by exact zC (.rowR rfl) (zCn)) (by decide) rfl rfl rfl rfl) ?_
 refine AD.nil (AO.x (qE2 T rfl 21 rfl rfl rfl rfl rfl (by decide) rfl rfl rfl rfl rfl (qAS (hx42)) rfl rfl) ?_)
 refine AO.pu T ?_
 refine AO.se T [.R 21,.w 0 []] ?_
 refine go ?_
 refine⟨(k1+1,(v16++[x39])),⟨hlt6,(zds hd4▸hH)⟩,qCC hlt6,?_⟩
 exact Le.ct 21 9
def qAY (p:Performance) (l:List Item):Option Performance :=
 (qGx l).bind fun x1 =>
 (qFC p.marks).bind fun x3 =>
 some (Performance.mk x1 x3 p.slips)
theorem qGO (p:Performance) (l:List Item) (r:Performance) (hH:qAY p l=some r):qAC prog 55 [.g (qHY p),.s (List.map ze1 l)] (.g (qKv r)):=by
 refine fns T func55 ?_
 refine go ?_
 refine AO.x (bxs T 1) ?_
 refine AO.x (als T 2) (go ?_)
 obtain⟨x1,hx2,x3,hx4,hH⟩:=qAI hH
 refine AW.drawn 7 3 [] mix (by kernel_rfl) rfl ?_
 refine AD.pu T ?_
 refine AD.q (FStep.call rfl rfl rfl rfl rfl (qJy _ _ (hx2)) rfl rfl) (qBF _ _) (qDh _ _) rfl ?_
 refine go ?_
 refine AD.q (FStep.call rfl rfl rfl rfl rfl (qIU _ _ (hx4)) rfl rfl) (qBF _ _) (qDh _ _) rfl ?_
 refine go ?_
 refine AO.se T [.R 3,.R 4,.R 5,p.slips.falls,p.slips.seconds,p.slips.other] ?_
 refine go ?_
 exact fin
def qIV (fl:Nat) (c:Code) (p:Performance) (factor:Int) (item:Int) (name:Int) (mark:Int):Option Int :=
 (qAY p p.items).bind fun x1 =>
 (qAV x1.items item).bind fun x3 =>
 (qAV x3.marks name).bind fun x5 =>
 (qDA fl c (Performance.mk (x1.items.set item.toNat (Item.mk x3.names (x3.marks.set name.toNat mark) x3.late)) x1.marks x1.slips) factor).bind fun x7 =>
 some x7
theorem qPQ (fl:Nat) (c:Code) (p:Performance) (factor:Int) (item:Int) (name:Int) (mark:Int) (r:Int) (hH:qIV fl c p factor item name mark=some r):qAC prog 199 [.g (ze4 c),.g (qHY p),factor,item,name,mark] (.v (.int .i64 r)):=by
 refine fns T func199 ?_
 refine gs2 ?_
 refine AO.x (bxs T 1) ?_
 refine AO.x (bxs T 2) ?_
 refine gs3 ?_
 obtain⟨x1,hx2,hH⟩:=zB hH
 refine gs4 ?_
 refine AO.x (qAU rfl 3 rfl rfl rfl (qGO _ _ _ (hx2)) rfl rfl rfl) ?_
 refine AO.x (als T 6) ?_
 refine AO.se T [.R 3,.R 4,.R 5,x1.slips.falls,x1.slips.seconds,x1.slips.other] ?_
 refine gs2 ?_
 obtain⟨x3,hx4,x5,hx6,hH⟩:=qAI hH
 refine AW.le (Le.openM 3 item.toNat 1 7 rfl (zgG (hx4)) rfl rfl) ?_
 refine gs4 ?_
 refine AO.w (qDd T rfl rfl rfl rfl rfl rfl (hx4)) ?_
 refine AO.pu T ?_
 refine AO.w (qBl T rfl rfl rfl rfl rfl) ?_
 refine gs3 ?_
 refine AO.x (zSr T rfl rfl rfl rfl rfl (zgG (hx6)) rfl rfl rfl rfl (u':=mark) rfl rfl) ?_
 refine AO.le (Le.closeM 3 item.toNat 1 7 rfl rfl (zgG (hx4)) rfl (u':=(Item.mk x3.names (x3.marks.set name.toNat mark) x3.late)) rfl) ?_
 refine gs2 ?_
 obtain⟨x7,hx8,hH⟩:=zB hH
 refine gs4 ?_
 refine AO.w (zLV rfl rfl rfl (es:=[.g (ze4 c),.g (qHY (Performance.mk (x1.items.set item.toNat (Item.mk x3.names (x3.marks.set name.toNat mark) x3.late)) x1.marks x1.slips)),factor]) ⟨.free rfl,qIK (LendL.cons ((.rowR rfl (.map fun y=>qGs y))) (LendL.cons ((.rowR rfl (.map fun y=>qAl y))) (LendL.cons ((.rowR rfl (.map fun y=>qAl y))) (LendL.cons (.free rfl) (LendL.cons (.free rfl) (LendL.cons (.free rfl) LendL.nil)))))),.free rfl,trivial⟩ (qHX fl _ _ _ _ (hx8)) (qAc _) rfl) ?_
 refine gs2 ?_
 refine AW.le (Le.ct 0 0 (σ':=(⟨[(12,x7)],[],31,[]⟩:St))) ?_
 refine AW.t ?_
 exact fin
def qBS (c:Code) (p:Performance) (factor:Int) (fl:Nat):List (List Int)→Nat→List Int→Int→Bool→Option ((Int×Int×Int×Bool))
 | [],k7,v32,v33,v34 =>
  (qAV v32 0).bind fun x36 =>
  (qAV v32 1).bind fun x38 =>
  (qAV v32 2).bind fun x40 =>
  some (x36,x38,x40,v34)
 |y8::ys9,k7,v32,v33,v34 =>
  (qAV y8 0).bind fun x42 =>
  (qAV y8 1).bind fun x44 =>
  (qAV y8 2).bind fun x46 =>
  (qIV fl c p factor x42 x44 x46).bind fun x48 =>
  cond (decide (x48>v33))
   (qBS c p factor fl ys9 (k7+1) y8 x48 true)
   (qBS c p factor fl ys9 (k7+1) v32 v33 v34)
def qEV (fl:Nat) (c:Code) (p:Performance) (factor:Int):Option (Int×Int×Int×Bool) :=
 (qGX fl c p factor).bind fun x1 =>
 cond (!x1)
  (some (0,0,0,false))
  ((qDA fl c p factor).bind fun x3 =>
  (qKd fl p.items).bind fun x5 =>
  qBS c p factor fl x5 0 ([0,0,0]:List Int) x3 false)
theorem qLy (fl:Nat) (c:Code) (p:Performance) (factor:Int) (r:(Int×Int×Int×Bool)) (hH:qEV fl c p factor=some r):qAC prog 135 [.g (ze4 c),.g (qHY p),factor] (.t [.v (.int .i64 r.1),.v (.int .i64 r.2.1),.v (.int .i64 r.2.2.1),.v (.bool r.2.2.2)]):=by
 refine fns T func135 ?_
 refine go ?_
 refine AO.x (bxs T 1) ?_
 refine AO.x (bxs T 2) (go ?_)
 obtain⟨x1,hx2,hH⟩:=zB hH
 refine go ?_
 refine AO.w (cVs (qKf fl _ _ _ _ (hx2))) (go ?_)
 refine AW.cH hH (fun _ hH=>?_) (fun hc hH=>?_)
 refine go ?_
 exact fin
 refine go ?_
 refine AO.x (mks T 3 ze0 (([0,0,0]:List Int))) (go ?_)
 obtain⟨x3,hx4,hH⟩:=zB hH
 refine go ?_
 refine AO.w (cVs (qHX fl _ _ _ _ (hx4))) (go ?_)
 obtain⟨x5,hx6,hH⟩:=zB hH
 refine go ?_
 refine AO.x (qAU rfl 4 rfl rfl rfl (qQL fl _ _ (hx6)) rfl rfl rfl) ?_
 refine gs3 ?_
 refine AW.le (Le.ct 0 0 (σ':=(⟨[(2,factor),(3,.p 1 0),(4,.p 2 0),(10,.R 3),(11,x3),(12,.v (.bool false)),(28,.R 4),(29,(x5.length:Int)),(30,(0:Int))],[(1,.box (ze4 c)),(2,.box (qHY p)),(3,ro 1 ze0 ([0,0,0]:List Int)),(4,ro 1 ze3 x5)],63,[]⟩:St))) ?_
 refine AW.b (AW.loopS (fun s:Nat×(List Int)×Int×Bool=>(⟨[(2,factor),(3,.p 1 0),(4,.p 2 0),(10,sv ze0 s.2.1),(11,s.2.2.1),(12,.v (.bool s.2.2.2)),(28,.R 4),(29,(x5.length:Int)),(30,(s.1:Int))],[(1,.box (ze4 c)),(2,.box (qHY p)),(4,ro 1 ze3 x5)],63,[]⟩:St)) (fun s=>s.1≤x5.length∧qBS c p factor fl (x5.drop s.1) s.1 s.2.1 s.2.2.1 s.2.2.2=some r) (fun s=>x5.length-s.1) (0,([0,0,0]:List Int),x3,false) ⟨Nat.zero_le _,hH⟩ ?_ ?_)
 refine Le.trans (Le.fM 3 (g:=ze0) rfl (fun y=>.vs rfl)) ?_
 exact Le.ct 0 0
 rintro⟨k7,v32,v33,v34⟩ ⟨hk,hH⟩
 try dsimp only at hH⊢
 refine AW.boundR (id:=4) (l:=x5) rfl (fun hb11=>?_)
 rcases hd10:x5.drop k7 with _|⟨y8,ys9⟩
 rw[hd10,qBS]at hH
 have hlt12:=qAF hd10
 refine go ?_
 obtain⟨x36,hx37,x38,hx39,x40,hx41,hH⟩:=qBB hH
 refine AW.drawn 13 5 [] mix (by kernel_rfl) rfl ?_
 refine go ?_
 exact fin
 rw[hd10,qBS]at hH
 have hlt12:=qAG hd10
 refine go ?_
 refine AO.w (zLr T rfl rfl rfl rfl (zgG (zgD hd10)) rfl rfl rfl) (go ?_)
 obtain⟨x42,hx43,x44,hx45,x46,hx47,hH⟩:=qBB hH
 obtain⟨x48,hx49,hH⟩:=zB hH
 refine AW.drawn 12 5 [] mix (by kernel_rfl) rfl ?_
 refine go ?_
 refine AO.w (cVs (qPQ fl _ _ _ _ _ _ _ (hx49))) (go ?_)
 refine AW.cH hH (fun _ hH=>?_) (fun _ hH=>?_)
 iterate 10 refine gs ?_
 refine AW.le (Le.ct 0 0 (σ':=(⟨[(2,factor),(3,.p 1 0),(4,.p 2 0),(10,sv ze0 y8),(11,x48),(28,.R 4),(29,(x5.length:Int)),(30,(k7:Int))],[(1,.box (ze4 c)),(2,.box (qHY p)),(4,ro 1 ze3 x5)],63,[]⟩:St))) ?_
 refine go ?_
 refine⟨(k7+1,y8,x48,true),⟨hlt12,(zds hd10▸hH)⟩,qCC hlt12,?_⟩
 exact Le.ct 0 0
 refine go ?_
 refine⟨(k7+1,v32,v33,v34),⟨hlt12,(zds hd10▸hH)⟩,qCC hlt12,?_⟩
 exact Le.ct 0 0
def qJM  : Option (List ByteArray) :=
 some [(⟨#[110,111,110,101]⟩:ByteArray),(⟨#[100,111,119,110]⟩:ByteArray),(⟨#[101,100,103,101]⟩:ByteArray),(⟨#[118,111,105,100]⟩:ByteArray)]
theorem qKr  (r:(List ByteArray)) (hH:qJM=some r):qAC prog 136 [] (.w 1 (r.map ze2)):=by
 refine fns T func136 ?_
 refine go ?_
 refine AO.x (mks T 1 ze2 ([(⟨#[110,111,110,101]⟩:ByteArray),(⟨#[100,111,119,110]⟩:ByteArray),(⟨#[101,100,103,101]⟩:ByteArray),(⟨#[118,111,105,100]⟩:ByteArray)])) (go ?_)
 exact fin
def qCX:List Int→Nat→Int→Int→Option ((Int×Int))
 | [],k1,v9,v10 =>
  some (v9,v10)
 |y2::ys3,k1,v9,v10 =>
  cond (decide (y2≥0))
   (qCX ys3 (k1+1) (w64 (v9+y2)) (w64 (v10+1)))
   (qCX ys3 (k1+1) v9 v10)
def qHs (rA:Result):Option (Int×Int) :=
 qCX rA.scores 0 0 0
theorem qK6 (rA:Result) (r:(Int×Int)) (hH:qHs rA=some r):qAC prog 310 [.g (ze6 rA)] (.t [.v (.int .i64 r.1),.v (.int .i64 r.2)]):=by
 refine fns T func310 ?_
 refine go ?_
 refine AO.x (bxs T 1) (go ?_)
 refine AW.loopS (fun s:Nat×Int×Int=>(⟨[(4,s.2.1),(5,s.2.2),(9,sv ze0 rA.scores),(10,(rA.scores.length:Int)),(11,(s.1:Int))],[],25,[]⟩:St)) (fun s=>s.1≤rA.scores.length∧qCX (rA.scores.drop s.1) s.1 s.2.1 s.2.2=some r) (fun s=>rA.scores.length-s.1) (0,0,0) ⟨Nat.zero_le _,hH⟩ ?_ ?_
 exact Le.ct 0 0
 rintro⟨k1,v9,v10⟩ ⟨hk,hH⟩
 try dsimp only at hH⊢
 refine AW.boundM (t:=9) (l:=rA.scores) rfl (fun hb5=>?_)
 rcases hd4:rA.scores.drop k1 with _|⟨y2,ys3⟩
 rw[hd4,qCX]at hH
 have hlt6:=qAF hd4
 refine go ?_
 exact fin
 rw[hd4,qCX]at hH
 have hlt6:=qAG hd4
 refine go ?_
 refine AW.cH hH (fun _ hH=>?_) (fun _ hH=>?_)
 refine go ?_
 refine⟨(k1+1,w64 (v9+y2),w64 (v10+1)),⟨hlt6,(zds hd4▸hH)⟩,qCC hlt6,?_⟩
 exact Le.ct 0 0
 refine go ?_
 refine⟨(k1+1,v9,v10),⟨hlt6,(zds hd4▸hH)⟩,qCC hlt6,?_⟩
 exact Le.ct 0 0
def qEU (n:Int):Option Int :=
 cond (decide (n>0))
  (some 1)
  (cond (decide (n<0))
   (some (-1))
   (some 0))
theorem qJJ (n:Int) (r:Int) (hH:qEU n=some r):qAC prog 311 [n] (.v (.int .i64 r)):=by
 refine fns T func311 ?_
 refine go ?_
 refine AW.cH hH (fun _ hH=>?_) (fun hc hH=>?_)
 refine go ?_
 exact fin
 refine go ?_
 refine AW.cH hH (fun _ hH=>?_) (fun _ hH=>?_)
 refine go ?_
 exact fin
 refine go ?_
 exact fin
def qD4 (a:Result) (b:Result):Nat→Int→Option Int
 |0,_=>none
 |k9+1,v23 =>
  cond (decide (v23≥0))
   ((qAV a.scores v23).bind fun x25 =>
   (qAV b.scores v23).bind fun x27 =>
   cond (x25 != x27)
    ((qEU (w64 (x25-x27))).bind fun x29 =>
    some x29)
    (qD4 a b k9 (w64 (v23-1))))
   (some 0)
def qGg (fl:Nat) (a:Result) (b:Result):Option Int :=
 (qHs a).bind fun x1 =>
 (qHs b).bind fun x3 =>
 cond (x1.2 != x3.2)
  ((qEU (w64 (x1.2-x3.2))).bind fun x5 =>
  some x5)
  (cond (x1.1 != x3.1)
   ((qEU (w64 (x1.1-x3.1))).bind fun x7 =>
   some x7)
   (qD4 a b fl (w64 ((a.scores.length:Int)-1))))
theorem qNL (fl:Nat) (a:Result) (b:Result) (r:Int) (hH:qGg fl a b=some r):qAC prog 260 [.g (ze6 a),.g (ze6 b)] (.v (.int .i64 r)):=by
 refine fns T func260 ?_
 refine go ?_
 refine AO.x (bxs T 1) ?_
 refine AO.x (bxs T 2) (go ?_)
 obtain⟨x1,hx2,hH⟩:=zB hH
 refine go ?_
 refine AO.w (cVs (qK6 _ _ (hx2))) (go ?_)
 obtain⟨x3,hx4,hH⟩:=zB hH
 refine go ?_
 refine AO.w (cVs (qK6 _ _ (hx4))) (go ?_)
 refine AW.cH hH (fun _ hH=>?_) (fun hc hH=>?_)
 refine AW.q ?_
 obtain⟨x5,hx6,hH⟩:=zB hH
 refine go ?_
 refine AO.w (cVs (qJJ _ _ (hx6))) ?_
 refine gs2 ?_
 refine AW.le (Le.ct 0 0 (σ':=(⟨[(4,x5)],[],65,[]⟩:St))) ?_
 refine AW.t ?_
 exact fin
 refine go ?_
 refine AW.cH hH (fun _ hH=>?_) (fun hc hH=>?_)
 refine AW.q ?_
 obtain⟨x7,hx8,hH⟩:=zB hH
 refine go ?_
 refine AO.w (cVs (qJJ _ _ (hx8))) ?_
 refine gs2 ?_
 refine AW.le (Le.ct 0 0 (σ':=(⟨[(4,x7)],[],65,[]⟩:St))) ?_
 refine AW.t ?_
 exact fin
 iterate 10 refine gs ?_
 refine AW.le (Le.ct 0 0 (σ':=(⟨[(2,.p 1 0),(3,.p 2 0),(9,w64 ((a.scores.length:Int)-1))],[(1,.box [a.skater,sv ze0 a.scores]),(2,.box [b.skater,sv ze0 b.scores])],65,[]⟩:St))) ?_
 refine AW.b (AW.loopS (fun s:Nat×Int=>(⟨[(2,.p 1 0),(3,.p 2 0),(9,s.2)],[(1,.box [a.skater,sv ze0 a.scores]),(2,.box [b.skater,sv ze0 b.scores])],65,[]⟩:St)) (fun s=>qD4 a b s.1 s.2=some r) (fun s=>s.1) (fl,w64 ((a.scores.length:Int)-1)) hH ?_ ?_)
 exact Le.ct 0 0
 rintro⟨k9,v23⟩ hH
 try dsimp only at hH⊢
 rcases k9 with _|k9
 cases (show none=some _ from hH)
 rw[qD4]at hH
 refine go ?_
 refine AW.cH hH (fun hc hH=>?_) (fun _ hH=>?_)
 refine go ?_
 obtain⟨x25,hx26,x27,hx28,hH⟩:=qAI hH
 refine AW.drawn 10 3 [] mix (by kernel_rfl) rfl ?_
 refine go ?_
 refine AW.cH hH (fun _ hH=>?_) (fun hc hH=>?_)
 refine AW.q ?_
 obtain⟨x29,hx30,hH⟩:=zB hH
 refine AW.drawn 10 3 [] mix (by kernel_rfl) rfl ?_
 refine go ?_
 refine AO.w (cVs (qJJ _ _ (hx30))) ?_
 refine gs2 ?_
 refine AW.le (Le.ct 0 0 (σ':=(⟨[(4,x29)],[],65,[]⟩:St))) ?_
 refine AW.t ?_
 exact fin
 refine go ?_
 refine⟨(k9,w64 (v23-1)),hH,Nat.lt_succ_self _,?_⟩
 exact Le.ct 0 0
 refine go ?_
 exact fin
def qBT (l:List Result) (i:Int) (fl:Nat):List Result→Nat→Int→Option Int
 | [],k1,v16 =>
  some v16
 |y2::ys3,k1,v16 =>
  (qAV l i).bind fun x18 =>
  (qGg fl y2 x18).bind fun x20 =>
  cond (decide (x20>0))
   (qBT l i fl ys3 (k1+1) (w64 (v16+1)))
   (qBT l i fl ys3 (k1+1) v16)
def qCW (fl:Nat) (l:List Result) (i:Int):Option Int :=
 qBT l i fl l 0 1
theorem qK8 (fl:Nat) (l:List Result) (i:Int) (r:Int) (hH:qCW fl l i=some r):qAC prog 200 [.s (List.map ze6 l),i] (.v (.int .i64 r)):=by
 refine fns T func200 ?_
 refine go ?_
 refine AW.loopS (fun s:Nat×Int=>(⟨[(0,sv ze6 l),(1,i),(5,s.2),(8,sv ze6 l),(9,(l.length:Int)),(10,(s.1:Int))],[],25,[]⟩:St)) (fun s=>s.1≤l.length∧qBT l i fl (l.drop s.1) s.1 s.2=some r) (fun s=>l.length-s.1) (0,1) ⟨Nat.zero_le _,hH⟩ ?_ ?_
 exact Le.ct 0 0
 rintro⟨k1,v16⟩ ⟨hk,hH⟩
 try dsimp only at hH⊢
 refine AW.boundM (t:=0) (l:=l) rfl (fun hb5=>?_)
 rcases hd4:l.drop k1 with _|⟨y2,ys3⟩
 rw[hd4,qBT]at hH
 have hlt6:=qAF hd4
 refine go ?_
 exact fin
 rw[hd4,qBT]at hH
 have hlt6:=qAG hd4
 refine go ?_
 refine AO.x (als T 3) ?_
 refine AO.se T [y2.skater,sv ze0 y2.scores] ?_
 refine go ?_
 obtain⟨x18,hx19,x20,hx21,hH⟩:=qAI hH
 refine AW.drawn 5 4 [] mix (by kernel_rfl) rfl ?_
 refine go ?_
 refine AO.w (cVs (qNL fl _ _ _ (hx21))) (go ?_)
 refine AW.cH hH (fun _ hH=>?_) (fun _ hH=>?_)
 refine go ?_
 refine⟨(k1+1,w64 (v16+1)),⟨hlt6,(zds hd4▸hH)⟩,qCC hlt6,?_⟩
 exact Le.ct 0 0
 refine go ?_
 refine⟨(k1+1,v16),⟨hlt6,(zds hd4▸hH)⟩,qCC hlt6,?_⟩
 exact Le.ct 0 0
def qCn (l:List Result) (fl:Nat):List Result→Nat→List Int→Option ((List Int))
 | [],k1,v16 =>
  some v16
 |y2::ys3,k1,v16 =>
  (qCW fl l (k1:Int)).bind fun x18 =>
  (qAz (qAh 8 (v16.length+([x18]).length))).bind fun u20 =>
  qCn l fl ys3 (k1+1) (v16++[x18])
def qHI (fl:Nat) (l:List Result):Option (List Int) :=
 qCn l fl l 0 []
theorem qOD (fl:Nat) (l:List Result) (r:(List Int)) (hH:qHI fl l=some r):qAC prog 137 [.s (List.map ze6 l)] (.w 1 (r.map ze0)):=by
 refine fns T func137 ?_
 refine go ?_
 refine AW.loopS (fun s:Nat×(List Int)=>(⟨[(0,sv ze6 l),(3,.R 4),(6,(l.length:Int)),(7,(s.1:Int))],[(4,ro 1 ze0 s.2)],18,[]⟩:St)) (fun s=>s.1≤l.length∧qCn l fl (l.drop s.1) s.1 s.2=some r) (fun s=>l.length-s.1) (0,[]) ⟨Nat.zero_le _,hH⟩ ?_ ?_
 refine Le.trans (Le.void 3 4 1 rfl rfl) ?_
 exact Le.ct 0 0
 rintro⟨k1,v16⟩ ⟨hk,hH⟩
 try dsimp only at hH⊢
 refine AW.boundM (t:=0) (l:=l) rfl (fun hb5=>?_)
 rcases hd4:l.drop k1 with _|⟨y2,ys3⟩
 rw[hd4,qCn]at hH
 have hlt6:=qAF hd4
 refine go ?_
 exact fin
 rw[hd4,qCn]at hH
 have hlt6:=qAG hd4
 refine go ?_
 obtain⟨x18,hx19,u20,hx21,hH⟩:=qAI hH
 refine go ?_
 refine AO.w (cVs (qK8 fl _ _ _ (hx19))) ?_
 refine AO.x (mks T 5 ze0 ([x18])) ?_
 refine AO.x (rvs T 6 (hfit:=by exact qAS (hx21))) (go ?_)
 refine⟨(k1+1,(v16++[x18])),⟨hlt6,(zds hd4▸hH)⟩,qCC hlt6,?_⟩
 exact Le.ct 6 4
def qAX (fl:Nat) (x:CsState) (w:ByteArray):Option (CsState×ByteArray) :=
 cond (decide (w=(⟨#[108,97,116,101]⟩:ByteArray)))
  ((qG9 fl x.p.items).bind fun x2 =>
  some ((CsState.mk x.code (Performance.mk x2 x.p.marks x.p.slips) x.factor x.results x.no x.what x.lines),(⟨#[111,107]⟩:ByteArray)))
  (cond (decide (w=(⟨#[99,104,101,99,107]⟩:ByteArray)))
   ((qG4 fl x.code x.p.items).bind fun x5 =>
   (qBC fl x5).bind fun x7 =>
   some (x,x7))
   (cond (decide (w=(⟨#[98,97,115,101]⟩:ByteArray)))
    ((qG3 x.code x.p.items).bind fun x10 =>
    (qDR fl x10).bind fun x12 =>
    some (x,x12))
    (cond (decide (w=(⟨#[115,99,111,114,101]⟩:ByteArray)))
     ((qFd fl x.code x.p x.factor).bind fun x15 =>
     (qBC fl x15).bind fun x17 =>
     some (x,x17))
     (cond (decide (w=(⟨#[98,111,117,110,100]⟩:ByteArray)))
      ((qD8 fl x.code x.p x.factor).bind fun x20 =>
      (qDR fl x20.1).bind fun x22 =>
      some (x,x22))
      (cond (decide (w=(⟨#[98,101,115,116]⟩:ByteArray)))
       ((qEV fl x.code x.p x.factor).bind fun x25 =>
       cond (!x25.2.2.2)
        (some (x,(⟨#[110,111,110,101]⟩:ByteArray)))
        ((qBC fl [x25.1,x25.2.1]).bind fun x27 =>
        (qAz (Nat.ble (x27.size+(⟨#[32]⟩:ByteArray).size) qEO)).bind fun u29 =>
        (qJM ).bind fun x31 =>
        (qAV x31 x25.2.2.1).bind fun x33 =>
        (qAz (Nat.ble ((x27++(⟨#[32]⟩:ByteArray)).size+x33.size) qEO)).bind fun u35 =>
        some (x,((x27++(⟨#[32]⟩:ByteArray))++x33))))
       (cond (decide (w=(⟨#[112,108,97,99,101,115]⟩:ByteArray)))
        ((qHI fl x.results).bind fun x38 =>
        (qBC fl x38).bind fun x40 =>
        some (x,x40))
        (some (x,(⟨#[119,104,97,116]⟩:ByteArray)))))))))
theorem qK4 (fl:Nat) (x:CsState) (w:ByteArray) (r:(CsState×ByteArray)) (hH:qAX fl x w=some r):qF3 prog 103 [.pn (ze9 x),.v (.string w)] [.pn (ze9 r.1),.u] (.v (.string r.2)):=by
 refine qFN T func103 rfl (by decide) rfl rfl [.p 1 0,.v (.string w)] [(1,.box (ze7 x 2 3)),(3,ro 1 ze0 x.what),(2,ro 1 ze0 x.no)] 4 (by kernel_rfl) [1] rfl rfl ?_
 intro L
 show AW _ _ _ (⟨[(0,.p 1 0),(1,.v (.string w))],[(1,.box (ze7 x 2 3)),(3,ro 1 ze0 x.what),(2,ro 1 ze0 x.no)],126,[(1,L 1)]⟩:St)
 refine go ?_
 refine AW.cH hH (fun _ hH=>?_) (fun _ hH=>?_)
 refine AW.q ?_
 obtain⟨x2,hx3,hH⟩:=zB hH
 refine go ?_
 refine AO.x (qAU rfl 4 rfl rfl rfl (qPd fl _ _ (hx3)) rfl rfl rfl) (go ?_)
 refine AO.se T [sv ze5 x.code.elements,sv ze0 x.code.limits,x.code.repeats,x.code.bonus,x.code.keeps,x.code.fall,.R 4,sv ze3 x.p.marks.grades,sv ze3 x.p.marks.components,x.p.slips.falls,x.p.slips.seconds,x.p.slips.other,x.factor,sv ze6 x.results,.R 2,.R 3,x.lines] ?_
 refine gs5 ?_
 refine AW.le (Le.fM 4 (g:=ze1) rfl (fun y=>qGs y)) ?_
 refine AW.t ?_
 exact qEW
 refine go ?_
 refine AW.cH hH (fun _ hH=>?_) (fun _ hH=>?_)
 refine AW.q ?_
 obtain⟨x5,hx6,x7,hx8,hH⟩:=qAI hH
 refine AW.drawn 9 5 [] mix (by kernel_rfl) rfl ?_
 refine go ?_
 refine AO.x (qAU rfl 5 rfl rfl rfl (qN6 fl _ _ _ (hx6)) rfl rfl rfl) ?_
 refine AO.w (zLV rfl rfl rfl (es:=[sv ze0 x5]) ⟨(.rowR rfl (.map fun y=>.vs rfl)),trivial⟩ (qFv fl _ _ (hx8)) (qAc _) rfl) (go ?_)
 exact qEW
 refine go ?_
 refine AW.cH hH (fun _ hH=>?_) (fun _ hH=>?_)
 refine AW.q ?_
 obtain⟨x10,hx11,x12,hx13,hH⟩:=qAI hH
 refine AW.drawn 9 6 [] mix (by kernel_rfl) rfl ?_
 refine go ?_
 refine AO.w (cVs (qPg _ _ _ (hx11))) ?_
 refine AO.w (cVs (qHS fl _ _ (hx13))) (go ?_)
 exact qEW
 refine go ?_
 refine AW.cH hH (fun _ hH=>?_) (fun _ hH=>?_)
 refine AW.q ?_
 obtain⟨x15,hx16,x17,hx18,hH⟩:=qAI hH
 refine AW.drawn 12 6 [] mix (by kernel_rfl) rfl ?_
 refine go ?_
 refine AO.x (qAU rfl 6 rfl rfl rfl (qK5 fl _ _ _ _ (hx16)) rfl rfl rfl) ?_
 refine AO.w (zLV rfl rfl rfl (es:=[sv ze0 x15]) ⟨(.rowR rfl (.map fun y=>.vs rfl)),trivial⟩ (qFv fl _ _ (hx18)) (qAc _) rfl) ?_
 refine gs2 ?_
 refine AW.le (Le.ct 0 0 (σ':=(⟨[(4,.v (.string x17))],[(1,.box (ze7 x 2 3)),(2,ro 1 ze0 x.no),(3,ro 1 ze0 x.what)],126,[(1,L 1)]⟩:St)) (hpin:=⟨⟨rfl,rfl⟩,trivial⟩)) ?_
 refine AW.t ?_
 exact qEW
 refine go ?_
 refine AW.cH hH (fun _ hH=>?_) (fun _ hH=>?_)
 refine AW.q ?_
 obtain⟨x20,hx21,hH⟩:=zB hH
 refine AW.drawn 17 7 [] mix (by kernel_rfl) rfl ?_
 refine go ?_
 refine AD.vv (cVs (qLX fl _ _ _ _ (hx21))) ?_
 refine gs7 ?_
 refine AW.le (Le.ct 0 0 (σ':=(⟨[(5,x20.1)],[(1,.box (ze7 x 2 3)),(2,ro 1 ze0 x.no),(3,ro 1 ze0 x.what)],126,[(1,L 1)]⟩:St)) (hpin:=⟨⟨rfl,rfl⟩,trivial⟩)) ?_
 refine AW.q ?_
 obtain⟨x22,hx23,hH⟩:=zB hH
 refine go ?_
 refine AO.w (cVs (qHS fl _ _ (hx23))) (go ?_)
 exact qEW
 refine go ?_
 refine AW.cH hH (fun _ hH=>?_) (fun _ hH=>?_)
 refine AW.q ?_
 obtain⟨x25,hx26,hH⟩:=zB hH
 refine AW.drawn 21 7 [] mix (by kernel_rfl) rfl ?_
 refine go ?_
 refine AD.vv (cVs (qLy fl _ _ _ _ (hx26))) ?_
 iterate 11 refine gs ?_
 refine AW.le (Le.ct 0 0 (σ':=(⟨[(7,x25.1),(8,x25.2.1),(9,x25.2.2.1),(10,.v (.bool x25.2.2.2))],[(1,.box (ze7 x 2 3)),(2,ro 1 ze0 x.no),(3,ro 1 ze0 x.what)],126,[(1,L 1)]⟩:St)) (hpin:=⟨⟨rfl,rfl⟩,trivial⟩)) ?_
 refine go ?_
 refine AW.cH hH (fun _ hH=>?_) (fun _ hH=>?_)
 refine go ?_
 exact qEW
 refine go ?_
 obtain⟨x27,hx28,u29,hx30,x31,hx32,hH⟩:=qBB hH
 obtain⟨x33,hx34,u35,hx36,hH⟩:=qAI hH
 refine go ?_
 refine AO.x (mks T 7 ze0 ([x25.1,x25.2.1])) ?_
 refine AO.w (zLV rfl rfl rfl (es:=[sv ze0 [x25.1,x25.2.1]]) ⟨(.rowR rfl (.map fun y=>.vs rfl)),trivial⟩ (qFv fl _ _ (hx28)) (qAc _) rfl) ?_
 refine AO.w (qB1 rfl rfl rfl (Nat.le_of_ble_eq_true (qAS (hx30)))) ?_
 refine AO.x (qAU rfl 8 rfl rfl rfl (qKr _ (hx32)) rfl rfl rfl) (go ?_)
 refine AO.w (zLr T rfl rfl rfl rfl (zgG (hx34)) rfl rfl rfl) ?_
 refine AO.w (qB1 rfl rfl rfl (Nat.le_of_ble_eq_true (qAS (hx36)))) (go ?_)
 exact qEW
 refine go ?_
 refine AW.cH hH (fun _ hH=>?_) (fun _ hH=>?_)
 refine AW.q ?_
 obtain⟨x38,hx39,x40,hx41,hH⟩:=qAI hH
 refine go ?_
 refine AO.x (qAU rfl 9 rfl rfl rfl (qOD fl _ _ (hx39)) rfl rfl rfl) ?_
 refine AO.w (zLV rfl rfl rfl (es:=[sv ze0 x38]) ⟨(.rowR rfl (.map fun y=>.vs rfl)),trivial⟩ (qFv fl _ _ (hx41)) (qAc _) rfl) (go ?_)
 exact qEW
 refine go ?_
 exact qEW
def qDr  : Option (List ByteArray) :=
 some [(⟨#[]⟩:ByteArray),(⟨#[60]⟩:ByteArray),(⟨#[101]⟩:ByteArray),(⟨#[42]⟩:ByteArray)]
theorem qG7  (r:(List ByteArray)) (hH:qDr=some r):qAC prog 201 [] (.w 1 (r.map ze2)):=by
 refine fns T func201 ?_
 refine go ?_
 refine AO.x (mks T 1 ze2 ([(⟨#[]⟩:ByteArray),(⟨#[60]⟩:ByteArray),(⟨#[101]⟩:ByteArray),(⟨#[42]⟩:ByteArray)])) (go ?_)
 exact fin
def qDC (it:Item):List ByteArray→Nat→ByteArray→Option ByteArray
 | [],k1,v52 =>
  cond it.late
   ((qAz (Nat.ble (v52.size+(⟨#[32,120]⟩:ByteArray).size) qEO)).bind fun u54 =>
   some (v52++(⟨#[32,120]⟩:ByteArray)))
   (some v52)
 |y2::ys3,k1,v52 =>
  cond (decide ((k1:Int)>0))
   ((qAz (Nat.ble (v52.size+(⟨#[43]⟩:ByteArray).size) qEO)).bind fun u56 =>
   (qDr ).bind fun x58 =>
   (qAV it.marks (k1:Int)).bind fun x60 =>
   (qAV x58 x60).bind fun x62 =>
   (qAz (Nat.ble (y2.size+x62.size) qEO)).bind fun u64 =>
   (qAz (Nat.ble ((v52++(⟨#[43]⟩:ByteArray)).size+(y2++x62).size) qEO)).bind fun u66 =>
   qDC it ys3 (k1+1) ((v52++(⟨#[43]⟩:ByteArray))++(y2++x62)))
   ((qDr ).bind fun x68 =>
   (qAV it.marks (k1:Int)).bind fun x70 =>
   (qAV x68 x70).bind fun x72 =>
   (qAz (Nat.ble (y2.size+x72.size) qEO)).bind fun u74 =>
   (qAz (Nat.ble (v52.size+(y2++x72).size) qEO)).bind fun u76 =>
   qDC it ys3 (k1+1) (v52++(y2++x72)))
def qHJ (it:Item):Option ByteArray :=
 qDC it it.names 0 (⟨#[]⟩:ByteArray)
theorem qLw (it:Item) (r:ByteArray) (hH:qHJ it=some r):qAC prog 203 [.g (ze1 it)] (.v (.string r)):=by
 refine fns T func203 ?_
 refine go ?_
 refine AO.x (bxs T 1) (go ?_)
 refine AW.loopS (fun s:Nat×ByteArray=>(⟨[(1,.p 1 0),(3,.v (.string s.2)),(7,sv ze2 it.names),(8,(it.names.length:Int)),(9,(s.1:Int))],[(1,.box [sv ze2 it.names,sv ze0 it.marks,.v (.bool it.late)])],36,[]⟩:St)) (fun s=>s.1≤it.names.length∧qDC it (it.names.drop s.1) s.1 s.2=some r) (fun s=>it.names.length-s.1) (0,(⟨#[]⟩:ByteArray)) ⟨Nat.zero_le _,hH⟩ ?_ ?_
 exact Le.ct 0 0
 rintro⟨k1,v52⟩ ⟨hk,hH⟩
 try dsimp only at hH⊢
 refine AW.boundM (t:=7) (l:=it.names) rfl (fun hb5=>?_)
 rcases hd4:it.names.drop k1 with _|⟨y2,ys3⟩
 rw[hd4,qDC]at hH
 have hlt6:=qAF hd4
 refine go ?_
 refine AW.cH hH (fun _ hH=>?_) (fun hc hH=>?_)
 obtain⟨u54,hx55,hH⟩:=zB hH
 refine go ?_
 refine AO.w (qB1 rfl rfl rfl (Nat.le_of_ble_eq_true (qAS (hx55)))) (go ?_)
 exact fin
 refine go ?_
 exact fin
 rw[hd4,qDC]at hH
 have hlt6:=qAG hd4
 refine go ?_
 refine AW.cH hH (fun _ hH=>?_) (fun _ hH=>?_)
 obtain⟨u56,hx57,hH⟩:=zB hH
 refine go ?_
 refine AO.w (qB1 rfl rfl rfl (Nat.le_of_ble_eq_true (qAS (hx57)))) (go ?_)
 obtain⟨x58,hx59,x60,hx61,x62,hx63,hH⟩:=qBB hH
 obtain⟨u64,hx65,u66,hx67,hH⟩:=qAI hH
 refine AW.drawn 11 6 [] mix (by kernel_rfl) rfl ?_
 refine go ?_
 refine AD.q (FStep.call rfl rfl rfl rfl rfl (qG7 _ (hx59)) rfl rfl) (qBF _ _) (qDh _ _) rfl ?_
 refine go ?_
 refine AD.vald rfl rfl rfl (zXr T rfl rfl rfl rfl rfl rfl (hx63)) ?_
 refine AD.vald rfl rfl rfl (zLr T rfl rfl rfl rfl (zgG (hx63)) rfl rfl rfl) ?_
 refine AD.vv (qB1 rfl rfl rfl (Nat.le_of_ble_eq_true (qAS (hx65)))) ?_
 refine AD.nil (AO.w (qB1 rfl rfl rfl (Nat.le_of_ble_eq_true (qAS (hx67)))) ?_)
 refine gs2 ?_
 refine AW.le (Le.ct 0 0 (σ':=(⟨[(1,.p 1 0),(3,.v (.string ((v52++(⟨#[43]⟩:ByteArray))++(y2++x62)))),(7,sv ze2 it.names),(8,(it.names.length:Int)),(9,(k1:Int))],[(1,.box [sv ze2 it.names,sv ze0 it.marks,.v (.bool it.late)])],36,[]⟩:St))) ?_
 refine go ?_
 refine⟨(k1+1,((v52++(⟨#[43]⟩:ByteArray))++(y2++x62))),⟨hlt6,(zds hd4▸hH)⟩,qCC hlt6,?_⟩
 exact Le.ct 0 0
 refine AW.k ?_
 obtain⟨x68,hx69,x70,hx71,x72,hx73,hH⟩:=qBB hH
 obtain⟨u74,hx75,u76,hx77,hH⟩:=qAI hH
 refine AW.drawn 11 7 [] mix (by kernel_rfl) rfl ?_
 refine go ?_
 refine AD.q (FStep.call rfl rfl rfl rfl rfl (qG7 _ (hx69)) rfl rfl) (qBF _ _) (qDh _ _) rfl ?_
 refine go ?_
 refine AD.vald rfl rfl rfl (zXr T rfl rfl rfl rfl rfl rfl (hx73)) ?_
 refine AD.vald rfl rfl rfl (zLr T rfl rfl rfl rfl (zgG (hx73)) rfl rfl rfl) ?_
 refine AD.vv (qB1 rfl rfl rfl (Nat.le_of_ble_eq_true (qAS (hx75)))) ?_
 refine AD.nil (AO.w (qB1 rfl rfl rfl (Nat.le_of_ble_eq_true (qAS (hx77)))) (go ?_))
 refine⟨(k1+1,(v52++(y2++x72))),⟨hlt6,(zds hd4▸hH)⟩,qCC hlt6,?_⟩
 exact Le.ct 0 0
def qBx (y9:ByteArray) (v128:List ByteArray) (v129:List Int):List ByteArray→Nat→Int→Option ((List ByteArray)×(List Int))
 | [],k167,v178 =>
  cond (decide (v178>0))
   ((qAz (inB 0 (w64 ((y9.size:Int)-1)) y9.size)).bind fun u180 =>
   (qAz (qAh 16 (v128.length+([(ByteArray.extract y9 0 (w64 ((y9.size:Int)-1)).toNat)]).length))).bind fun u182 =>
   (qAz (qAh 8 (v129.length+([v178]).length))).bind fun u184 =>
   some ((v128++[(ByteArray.extract y9 0 (w64 ((y9.size:Int)-1)).toNat)]),(v129++[v178])))
   ((qAz (qAh 16 (v128.length+([y9]).length))).bind fun u186 =>
   (qAz (qAh 8 (v129.length+([v178]).length))).bind fun u188 =>
   some ((v128++[y9]),(v129++[v178])))
 |y168::ys169,k167,v178 =>
  (opt (decide ((k167:Int)>0)&&decide ((y9.size:Int)>0)) default (qAz (inB (w64 ((y9.size:Int)-1)) y9.size y9.size))).bind fun u190 =>
  cond ((decide ((k167:Int)>0)&&decide ((y9.size:Int)>0))&&decide ((ByteArray.extract y9 (w64 ((y9.size:Int)-1)).toNat y9.size)=y168))
   (qBx y9 v128 v129 ys169 (k167+1) (k167:Int))
   (qBx y9 v128 v129 ys169 (k167+1) v178)
def qBy (sA:ByteArray) (fl:Nat):List ByteArray→Nat→List ByteArray→List Int→Option ((Item×Bool))
 | [],k8,v128,v129 =>
  (qDl fl (Item.mk v128 v129 true)).bind fun x131 =>
  (opt (!(!x131)) default (qHJ (Item.mk v128 v129 true))).bind fun x133 =>
  cond ((!x131)||(!decide (x133=sA)))
   (some ((Item.mk [] [] false),false))
   (some ((Item.mk v128 v129 true),true))
 |y9::ys10,k8,v128,v129 =>
  ((qDr ).bind fun x165 =>
  qBx y9 v128 v129 x165 0 0).bind fun (v161,v162) =>
  qBy sA fl ys10 (k8+1) v161 v162
def qB9 (y195:ByteArray) (v314:List ByteArray) (v315:List Int):List ByteArray→Nat→Int→Option ((List ByteArray)×(List Int))
 | [],k353,v364 =>
  cond (decide (v364>0))
   ((qAz (inB 0 (w64 ((y195.size:Int)-1)) y195.size)).bind fun u366 =>
   (qAz (qAh 16 (v314.length+([(ByteArray.extract y195 0 (w64 ((y195.size:Int)-1)).toNat)]).length))).bind fun u368 =>
   (qAz (qAh 8 (v315.length+([v364]).length))).bind fun u370 =>
   some ((v314++[(ByteArray.extract y195 0 (w64 ((y195.size:Int)-1)).toNat)]),(v315++[v364])))
   ((qAz (qAh 16 (v314.length+([y195]).length))).bind fun u372 =>
   (qAz (qAh 8 (v315.length+([v364]).length))).bind fun u374 =>
   some ((v314++[y195]),(v315++[v364])))
 |y354::ys355,k353,v364 =>
  (opt (decide ((k353:Int)>0)&&decide ((y195.size:Int)>0)) default (qAz (inB (w64 ((y195.size:Int)-1)) y195.size y195.size))).bind fun u376 =>
  cond ((decide ((k353:Int)>0)&&decide ((y195.size:Int)>0))&&decide ((ByteArray.extract y195 (w64 ((y195.size:Int)-1)).toNat y195.size)=y354))
   (qB9 y195 v314 v315 ys355 (k353+1) (k353:Int))
   (qB9 y195 v314 v315 ys355 (k353+1) v364)
def qBz (sA:ByteArray) (fl:Nat):List ByteArray→Nat→List ByteArray→List Int→Option ((Item×Bool))
 | [],k194,v314,v315 =>
  (qDl fl (Item.mk v314 v315 false)).bind fun x317 =>
  (opt (!(!x317)) default (qHJ (Item.mk v314 v315 false))).bind fun x319 =>
  cond ((!x317)||(!decide (x319=sA)))
   (some ((Item.mk [] [] false),false))
   (some ((Item.mk v314 v315 false),true))
 |y195::ys196,k194,v314,v315 =>
  ((qDr ).bind fun x351 =>
  qB9 y195 v314 v315 x351 0 0).bind fun (v347,v348) =>
  qBz sA fl ys196 (k194+1) v347 v348
def qGU (fl:Nat) (sA:ByteArray):Option (Item×Bool) :=
 (opt (decide ((sA.size:Int)≥2)) default (qAz (inB (w64 ((sA.size:Int)-2)) sA.size sA.size))).bind fun u1 =>
 cond (decide ((sA.size:Int)≥2)&&decide ((ByteArray.extract sA (w64 ((sA.size:Int)-2)).toNat sA.size)=(⟨#[32,120]⟩:ByteArray)))
  ((qAz (inB 0 (w64 ((sA.size:Int)-2)) sA.size)).bind fun u4 =>
  (qA1 fl (ByteArray.extract sA 0 (w64 ((sA.size:Int)-2)).toNat) 43).bind fun x6 =>
  qBy sA fl x6 0 [] [])
  ((qA1 fl sA 43).bind fun x192 =>
  qBz sA fl x192 0 [] [])
theorem qOf (fl:Nat) (sA:ByteArray) (r:(Item×Bool)) (hH:qGU fl sA=some r):qAC prog 138 [.v (.string sA)] (.t [.g (qCU r.1),.v (.bool r.2)]):=by
 refine fns T func138 ?_
 refine gs2 ?_
 refine AO.x (als T 1) ?_
 refine gs5 ?_
 refine AO.x (als T 2) ?_
 refine AO.se T [.w 0 [],.w 0 [],.v (.bool false)] ?_
 refine gs8 ?_
 obtain⟨u1,hx2,hH⟩:=zB hH
 refine gs5 ?_
 refine AO.g0 T ?_
 refine AO.g0 T ?_
 refine AO.g1 T 18 ?_
 refine AO.d1 19 (fun hg=>aws) ?_
 refine AO.d2 17 20 (fun hg=>qFB T rfl rfl rfl rfl (qAS (qEv hx2 hg))) ?_
 refine AO.g1 T 21 ?_
 refine gs2 ?_
 refine AW.cH hH (fun _ hH=>?_) (fun _ hH=>?_)
 refine gs3 ?_
 refine AO.se T [.w 0 [],.w 0 [],.v (.bool true)] ?_
 refine AO.n ?_
 obtain⟨u4,hx5,hH⟩:=zB hH
 refine gs5 ?_
 refine AO.w (qGw T rfl rfl rfl rfl (qAS (hx5))) ?_
 refine gs2 ?_
 refine AW.le (Le.ct 0 0 (σ':=(⟨[(0,.v (.string sA)),(2,.p 1 0),(4,.p 2 0),(5,.v (.string (ByteArray.extract sA 0 (w64 ((sA.size:Int)-2)).toNat)))],[(1,.box [.w 0 [],.w 0 [],.v (.bool false)]),(2,.box [.w 0 [],.w 0 [],.v (.bool true)])],93,[]⟩:St))) ?_
 refine gs2 ?_
 obtain⟨x6,hx7,hH⟩:=zB hH
 refine gs2 ?_
 refine AO.x (qAU rfl 3 rfl rfl rfl (qHF fl _ _ _ (hx7)) rfl rfl rfl) ?_
 refine gs4 ?_
 refine AW.loopS (fun s:Nat×(List ByteArray)×(List Int)=>(⟨[(0,.v (.string sA)),(2,.p 1 0),(4,.p 2 0),(31,.R 3),(32,(x6.length:Int)),(33,(s.1:Int))],[(1,.box [.w 0 [],.w 0 [],.v (.bool false)]),(2,.box [.R 24,.R 26,.v (.bool true)]),(3,ro 1 ze2 x6),(24,ro 1 ze2 s.2.1),(26,ro 1 ze0 s.2.2)],93,[]⟩:St)) (fun s=>s.1≤x6.length∧qBy sA fl (x6.drop s.1) s.1 s.2.1 s.2.2=some r) (fun s=>x6.length-s.1) (0,[],[]) ⟨Nat.zero_le _,hH⟩ ?_ ?_
 refine Le.trans (Le.voidBox 2 0 24 1 rfl rfl rfl rfl) ?_
 refine Le.trans (Le.voidBox 2 1 26 1 rfl rfl rfl rfl) ?_
 exact Le.ct 0 0
 rintro⟨k8,v128,v129⟩ ⟨hk,hH⟩
 try dsimp only at hH⊢
 refine AW.boundR (id:=3) (l:=x6) rfl (fun hb12=>?_)
 rcases hd11:x6.drop k8 with _|⟨y9,ys10⟩
 rw[hd11,qBy]at hH
 have hlt13:=qAF hd11
 refine gs9 ?_
 obtain⟨x131,hx132,x133,hx134,hH⟩:=qAI hH
 refine gs2 ?_
 refine AO.w (zLV rfl rfl rfl (es:=[.g (ze1 (Item.mk v128 v129 true))]) ⟨qIK (LendL.cons ((.rowR rfl (.map fun y=>.vs rfl))) (LendL.cons ((.rowR rfl (.map fun y=>.vs rfl))) (LendL.cons (.free rfl) LendL.nil))),trivial⟩ (qJV fl _ _ (hx132)) (qAc _) rfl) ?_
 refine gs2 ?_
 refine AO.g T (d:=.g [.R 24,.R 26,.v (.bool true)]) [] rfl trivial rfl rfl ?_
 refine AO.d1 86 (fun hg=>zLV rfl rfl rfl (es:=[.g (ze1 (Item.mk v128 v129 true))]) ⟨qIK (LendL.cons ((.rowR rfl (.map fun y=>.vs rfl))) (LendL.cons ((.rowR rfl (.map fun y=>.vs rfl))) (LendL.cons (.free rfl) LendL.nil))),trivial⟩ (qLw _ _ (qEv hx134 hg)) (qAc _) rfl) ?_
 refine AO.g0 T ?_
 refine AO.g2 T 87 88 ?_
 refine gs2 ?_
 refine AW.cH hH (fun _ hH=>?_) (fun hc hH=>?_)
 refine gs3 ?_
 refine AO.se T [.w 0 [],.w 0 [],.v (.bool false)] ?_
 refine gs3 ?_
 exact fin
 refine gs4 ?_
 refine AO.se T [.R 24,.R 26,.v (.bool true)] ?_
 refine gs3 ?_
 exact fin
 rw[hd11,qBy]at hH
 have hlt13:=qAG hd11
 refine gs7 ?_
 obtain⟨o163,hH,hK164⟩:=zB hH
 refine AW.seqJ (fun s:(List ByteArray)×(List Int)=>(⟨[(0,.v (.string sA)),(2,.p 1 0),(4,.p 2 0),(31,.R 3),(32,(x6.length:Int)),(33,(k8:Int))],[(1,.box [.w 0 [],.w 0 [],.v (.bool false)]),(2,.box [.R 42,.R 44,.v (.bool true)]),(3,ro 1 ze2 x6),(42,ro 1 ze2 s.1),(44,ro 1 ze0 s.2)],93,[]⟩:St)) (fun s=>s=o163) ?_ ?_
 refine gs4 ?_
 refine AO.w (zLr T rfl rfl rfl rfl (zgG (zgD hd11)) rfl rfl rfl) ?_
 refine gs8 ?_
 obtain⟨x165,hx166,hH⟩:=zB hH
 refine AW.r (AO.x (qAU rfl 49 rfl rfl rfl (qG7 _ (hx166)) rfl rfl rfl) ?_)
 refine gs4 ?_
 refine AW.loopS (fun s:Nat×Int=>(⟨[(0,.v (.string sA)),(2,.p 1 0),(4,.p 2 0),(7,.v (.string y9)),(8,s.2),(31,.R 3),(32,(x6.length:Int)),(33,(k8:Int)),(37,.R 49),(38,(x165.length:Int)),(39,(s.1:Int))],[(1,.box [.w 0 [],.w 0 [],.v (.bool false)]),(2,.box [.R 24,.R 26,.v (.bool true)]),(3,ro 1 ze2 x6),(24,ro 1 ze2 v128),(26,ro 1 ze0 v129),(49,ro 1 ze2 x165)],93,[]⟩:St)) (fun s=>s.1≤x165.length∧qBx y9 v128 v129 (x165.drop s.1) s.1 s.2=some o163) (fun s=>x165.length-s.1) (0,0) ⟨Nat.zero_le _,hH⟩ ?_ ?_
 exact Le.ct 0 0
 rintro⟨k167,v178⟩ ⟨hk,hH⟩
 try dsimp only at hH⊢
 refine AW.boundR (id:=49) (l:=x165) rfl (fun hb171=>?_)
 rcases hd170:x165.drop k167 with _|⟨y168,ys169⟩
 rw[hd170,qBx]at hH
 have hlt172:=qAF hd170
 iterate 13 refine gs ?_
 refine AW.cH hH (fun _ hH=>?_) (fun hc hH=>?_)
 obtain⟨u180,hx181,hH⟩:=zB hH
 refine gs5 ?_
 refine AO.w (qGw T rfl rfl rfl rfl (qAS (hx181))) ?_
 refine gs3 ?_
 obtain⟨u182,hx183,hH⟩:=zB hH
 refine gs4 ?_
 refine AO.x (mks T 50 ze2 ([(ByteArray.extract y9 0 (w64 ((y9.size:Int)-1)).toNat)])) ?_
 refine AO.x (rvs T 51 (hfit:=by exact qAS (hx183))) ?_
 refine AO.pu T ?_
 refine AO.se T [.R 51,.R 26,.v (.bool true)] ?_
 refine AO.n ?_
 obtain⟨u184,hx185,hH⟩:=zB hH
 refine gs4 ?_
 refine AO.x (mks T 52 ze0 ([v178])) ?_
 refine AO.x (rvs T 53 (hfit:=by exact qAS (hx185))) ?_
 refine AO.pu T ?_
 refine AO.se T [.R 51,.R 53,.v (.bool true)] ?_
 refine AO.n ?_
 refine⟨_,zS hH,?_⟩
 refine Le.trans (Le.ct 51 42 (σ':=(⟨[(0,.v (.string sA)),(2,.p 1 0),(4,.p 2 0),(31,.R 3),(32,(x6.length:Int)),(33,(k8:Int))],[(1,.box [.w 0 [],.w 0 [],.v (.bool false)]),(2,.box [.R 42,.R 53,.v (.bool true)]),(3,ro 1 ze2 x6),(42,ro 1 ze2 (v128++[(ByteArray.extract y9 0 (w64 ((y9.size:Int)-1)).toNat)])),(53,ro 1 ze0 (v129++[v178]))],93,[]⟩:St))) ?_
 exact Le.ct 53 44
 refine gs2 ?_
 obtain⟨u186,hx187,hH⟩:=zB hH
 refine gs4 ?_
 refine AO.x (mks T 54 ze2 ([y9])) ?_
 refine AO.x (rvs T 55 (hfit:=by exact qAS (hx187))) ?_
 refine AO.pu T ?_
 refine AO.se T [.R 55,.R 26,.v (.bool true)] ?_
 refine AO.n ?_
 obtain⟨u188,hx189,hH⟩:=zB hH
 refine gs4 ?_
 refine AO.x (mks T 56 ze0 ([v178])) ?_
 refine AO.x (rvs T 57 (hfit:=by exact qAS (hx189))) ?_
 refine AO.pu T ?_
 refine AO.se T [.R 55,.R 57,.v (.bool true)] ?_
 refine AO.n ?_
 refine⟨_,zS hH,?_⟩
 refine Le.trans (Le.ct 55 42 (σ':=(⟨[(0,.v (.string sA)),(2,.p 1 0),(4,.p 2 0),(31,.R 3),(32,(x6.length:Int)),(33,(k8:Int))],[(1,.box [.w 0 [],.w 0 [],.v (.bool false)]),(2,.box [.R 42,.R 57,.v (.bool true)]),(3,ro 1 ze2 x6),(42,ro 1 ze2 (v128++[y9])),(57,ro 1 ze0 (v129++[v178]))],93,[]⟩:St))) ?_
 exact Le.ct 57 44
 rw[hd170,qBx]at hH
 have hlt172:=qAG hd170
 iterate 13 refine gs ?_
 refine AO.w (zLr T rfl rfl rfl rfl (zgG (zgD hd170)) rfl rfl rfl) ?_
 refine gs4 ?_
 obtain⟨u190,hx191,hH⟩:=zB hH
 refine gs4 ?_
 refine AO.g0 T ?_
 refine AO.g1 T 47 ?_
 refine AO.g1 T 48 ?_
 refine gs2 ?_
 refine AO.g0 T ?_
 refine AO.g0 T ?_
 refine AO.g1 T 53 ?_
 refine AO.d1 54 (fun hg=>aws) ?_
 refine AO.d2 52 55 (fun hg=>qFB T rfl rfl rfl rfl (qAS (qEv hx191 hg))) ?_
 refine AO.g0 T ?_
 refine AO.g2 T 56 57 ?_
 refine gs2 ?_
 refine AW.cH hH (fun _ hH=>?_) (fun hc hH=>?_)
 refine gs4 ?_
 refine AW.le (Le.ct 0 0 (σ':=(⟨[(0,.v (.string sA)),(2,.p 1 0),(4,.p 2 0),(7,.v (.string y9)),(8,(k167:Int)),(31,.R 3),(32,(x6.length:Int)),(33,(k8:Int)),(37,.R 49),(38,(x165.length:Int)),(39,(k167:Int))],[(1,.box [.w 0 [],.w 0 [],.v (.bool false)]),(2,.box [.R 24,.R 26,.v (.bool true)]),(3,ro 1 ze2 x6),(24,ro 1 ze2 v128),(26,ro 1 ze0 v129),(49,ro 1 ze2 x165)],93,[]⟩:St))) ?_
 refine gs4 ?_
 refine⟨(k167+1,(k167:Int)),⟨hlt172,(zds hd170▸hH)⟩,qCC hlt172,?_⟩
 exact Le.ct 0 0
 refine gs5 ?_
 refine⟨(k167+1,v178),⟨hlt172,(zds hd170▸hH)⟩,qCC hlt172,?_⟩
 exact Le.ct 0 0
 rintro⟨v161,v162⟩ hs
 subst hs
 replace hH:=hK164
 try dsimp only[qLN,qJm]at hH
 try dsimp only
 refine gs4 ?_
 refine⟨(k8+1,v161,v162),⟨hlt13,(zds hd11▸hH)⟩,qCC hlt13,?_⟩
 refine Le.trans (Le.ct 42 24 (σ':=(⟨[(0,.v (.string sA)),(2,.p 1 0),(4,.p 2 0),(31,.R 3),(32,(x6.length:Int)),(33,((k8+1:Nat):Int))],[(1,.box [.w 0 [],.w 0 [],.v (.bool false)]),(2,.box [.R 24,.R 44,.v (.bool true)]),(3,ro 1 ze2 x6),(24,ro 1 ze2 v161),(44,ro 1 ze0 v162)],93,[]⟩:St))) ?_
 exact Le.ct 44 26
 refine gs3 ?_
 obtain⟨x192,hx193,hH⟩:=zB hH
 refine gs2 ?_
 refine AO.x (qAU rfl 58 rfl rfl rfl (qHF fl _ _ _ (hx193)) rfl rfl rfl) ?_
 refine gs4 ?_
 refine AW.loopS (fun s:Nat×(List ByteArray)×(List Int)=>(⟨[(0,.v (.string sA)),(2,.p 1 0),(4,.p 2 0),(31,.R 58),(32,(x192.length:Int)),(33,(s.1:Int))],[(1,.box [.w 0 [],.w 0 [],.v (.bool false)]),(2,.box [.R 79,.R 81,.v (.bool false)]),(58,ro 1 ze2 x192),(79,ro 1 ze2 s.2.1),(81,ro 1 ze0 s.2.2)],93,[]⟩:St)) (fun s=>s.1≤x192.length∧qBz sA fl (x192.drop s.1) s.1 s.2.1 s.2.2=some r) (fun s=>x192.length-s.1) (0,[],[]) ⟨Nat.zero_le _,hH⟩ ?_ ?_
 refine Le.trans (Le.voidBox 2 0 79 1 rfl rfl rfl rfl) ?_
 refine Le.trans (Le.voidBox 2 1 81 1 rfl rfl rfl rfl) ?_
 exact Le.ct 0 0
 rintro⟨k194,v314,v315⟩ ⟨hk,hH⟩
 try dsimp only at hH⊢
 refine AW.boundR (id:=58) (l:=x192) rfl (fun hb198=>?_)
 rcases hd197:x192.drop k194 with _|⟨y195,ys196⟩
 rw[hd197,qBz]at hH
 have hlt199:=qAF hd197
 refine gs9 ?_
 obtain⟨x317,hx318,x319,hx320,hH⟩:=qAI hH
 refine gs2 ?_
 refine AO.w (zLV rfl rfl rfl (es:=[.g (ze1 (Item.mk v314 v315 false))]) ⟨qIK (LendL.cons ((.rowR rfl (.map fun y=>.vs rfl))) (LendL.cons ((.rowR rfl (.map fun y=>.vs rfl))) (LendL.cons (.free rfl) LendL.nil))),trivial⟩ (qJV fl _ _ (hx318)) (qAc _) rfl) ?_
 refine gs2 ?_
 refine AO.g T (d:=.g [.R 79,.R 81,.v (.bool false)]) [] rfl trivial rfl rfl ?_
 refine AO.d1 86 (fun hg=>zLV rfl rfl rfl (es:=[.g (ze1 (Item.mk v314 v315 false))]) ⟨qIK (LendL.cons ((.rowR rfl (.map fun y=>.vs rfl))) (LendL.cons ((.rowR rfl (.map fun y=>.vs rfl))) (LendL.cons (.free rfl) LendL.nil))),trivial⟩ (qLw _ _ (qEv hx320 hg)) (qAc _) rfl) ?_
 refine AO.g0 T ?_
 refine AO.g2 T 87 88 ?_
 refine gs2 ?_
 refine AW.cH hH (fun _ hH=>?_) (fun hc hH=>?_)
 refine gs3 ?_
 refine AO.se T [.w 0 [],.w 0 [],.v (.bool false)] ?_
 refine gs3 ?_
 exact fin
 refine gs4 ?_
 refine AO.se T [.R 79,.R 81,.v (.bool false)] ?_
 refine gs3 ?_
 exact fin
 rw[hd197,qBz]at hH
 have hlt199:=qAG hd197
 refine gs7 ?_
 obtain⟨o349,hH,hK350⟩:=zB hH
 refine AW.seqJ (fun s:(List ByteArray)×(List Int)=>(⟨[(0,.v (.string sA)),(2,.p 1 0),(4,.p 2 0),(31,.R 58),(32,(x192.length:Int)),(33,(k194:Int))],[(1,.box [.w 0 [],.w 0 [],.v (.bool false)]),(2,.box [.R 97,.R 99,.v (.bool false)]),(58,ro 1 ze2 x192),(97,ro 1 ze2 s.1),(99,ro 1 ze0 s.2)],93,[]⟩:St)) (fun s=>s=o349) ?_ ?_
 refine gs4 ?_
 refine AO.w (zLr T rfl rfl rfl rfl (zgG (zgD hd197)) rfl rfl rfl) ?_
 refine gs8 ?_
 obtain⟨x351,hx352,hH⟩:=zB hH
 refine AW.r (AO.x (qAU rfl 104 rfl rfl rfl (qG7 _ (hx352)) rfl rfl rfl) ?_)
 refine gs4 ?_
 refine AW.loopS (fun s:Nat×Int=>(⟨[(0,.v (.string sA)),(2,.p 1 0),(4,.p 2 0),(7,.v (.string y195)),(8,s.2),(31,.R 58),(32,(x192.length:Int)),(33,(k194:Int)),(37,.R 104),(38,(x351.length:Int)),(39,(s.1:Int))],[(1,.box [.w 0 [],.w 0 [],.v (.bool false)]),(2,.box [.R 79,.R 81,.v (.bool false)]),(58,ro 1 ze2 x192),(79,ro 1 ze2 v314),(81,ro 1 ze0 v315),(104,ro 1 ze2 x351)],93,[]⟩:St)) (fun s=>s.1≤x351.length∧qB9 y195 v314 v315 (x351.drop s.1) s.1 s.2=some o349) (fun s=>x351.length-s.1) (0,0) ⟨Nat.zero_le _,hH⟩ ?_ ?_
 exact Le.ct 0 0
 rintro⟨k353,v364⟩ ⟨hk,hH⟩
 try dsimp only at hH⊢
 refine AW.boundR (id:=104) (l:=x351) rfl (fun hb357=>?_)
 rcases hd356:x351.drop k353 with _|⟨y354,ys355⟩
 rw[hd356,qB9]at hH
 have hlt358:=qAF hd356
 iterate 13 refine gs ?_
 refine AW.cH hH (fun _ hH=>?_) (fun hc hH=>?_)
 obtain⟨u366,hx367,hH⟩:=zB hH
 refine gs5 ?_
 refine AO.w (qGw T rfl rfl rfl rfl (qAS (hx367))) ?_
 refine gs3 ?_
 obtain⟨u368,hx369,hH⟩:=zB hH
 refine gs4 ?_
 refine AO.x (mks T 105 ze2 ([(ByteArray.extract y195 0 (w64 ((y195.size:Int)-1)).toNat)])) ?_
 refine AO.x (rvs T 106 (hfit:=by exact qAS (hx369))) ?_
 refine AO.pu T ?_
 refine AO.se T [.R 106,.R 81,.v (.bool false)] ?_
 refine AO.n ?_
 obtain⟨u370,hx371,hH⟩:=zB hH
 refine gs4 ?_
 refine AO.x (mks T 107 ze0 ([v364])) ?_
 refine AO.x (rvs T 108 (hfit:=by exact qAS (hx371))) ?_
 refine AO.pu T ?_
 refine AO.se T [.R 106,.R 108,.v (.bool false)] ?_
 refine AO.n ?_
 refine⟨_,zS hH,?_⟩
 refine Le.trans (Le.ct 106 97 (σ':=(⟨[(0,.v (.string sA)),(2,.p 1 0),(4,.p 2 0),(31,.R 58),(32,(x192.length:Int)),(33,(k194:Int))],[(1,.box [.w 0 [],.w 0 [],.v (.bool false)]),(2,.box [.R 97,.R 108,.v (.bool false)]),(58,ro 1 ze2 x192),(97,ro 1 ze2 (v314++[(ByteArray.extract y195 0 (w64 ((y195.size:Int)-1)).toNat)])),(108,ro 1 ze0 (v315++[v364]))],93,[]⟩:St))) ?_
 exact Le.ct 108 99
 refine gs2 ?_
 obtain⟨u372,hx373,hH⟩:=zB hH
 refine gs4 ?_
 refine AO.x (mks T 109 ze2 ([y195])) ?_
 refine AO.x (rvs T 110 (hfit:=by exact qAS (hx373))) ?_
 refine AO.pu T ?_
 refine AO.se T [.R 110,.R 81,.v (.bool false)] ?_
 refine AO.n ?_
 obtain⟨u374,hx375,hH⟩:=zB hH
 refine gs4 ?_
 refine AO.x (mks T 111 ze0 ([v364])) ?_
 refine AO.x (rvs T 112 (hfit:=by exact qAS (hx375))) ?_
 refine AO.pu T ?_
 refine AO.se T [.R 110,.R 112,.v (.bool false)] ?_
 refine AO.n ?_
 refine⟨_,zS hH,?_⟩
 refine Le.trans (Le.ct 110 97 (σ':=(⟨[(0,.v (.string sA)),(2,.p 1 0),(4,.p 2 0),(31,.R 58),(32,(x192.length:Int)),(33,(k194:Int))],[(1,.box [.w 0 [],.w 0 [],.v (.bool false)]),(2,.box [.R 97,.R 112,.v (.bool false)]),(58,ro 1 ze2 x192),(97,ro 1 ze2 (v314++[y195])),(112,ro 1 ze0 (v315++[v364]))],93,[]⟩:St))) ?_
 exact Le.ct 112 99
 rw[hd356,qB9]at hH
 have hlt358:=qAG hd356
 iterate 13 refine gs ?_
 refine AO.w (zLr T rfl rfl rfl rfl (zgG (zgD hd356)) rfl rfl rfl) ?_
 refine gs4 ?_
 obtain⟨u376,hx377,hH⟩:=zB hH
 refine gs4 ?_
 refine AO.g0 T ?_
 refine AO.g1 T 47 ?_
 refine AO.g1 T 48 ?_
 refine gs2 ?_
 refine AO.g0 T ?_
 refine AO.g0 T ?_
 refine AO.g1 T 53 ?_
 refine AO.d1 54 (fun hg=>aws) ?_
 refine AO.d2 52 55 (fun hg=>qFB T rfl rfl rfl rfl (qAS (qEv hx377 hg))) ?_
 refine AO.g0 T ?_
 refine AO.g2 T 56 57 ?_
 refine gs2 ?_
 refine AW.cH hH (fun _ hH=>?_) (fun _ hH=>?_)
 refine gs4 ?_
 refine AW.le (Le.ct 0 0 (σ':=(⟨[(0,.v (.string sA)),(2,.p 1 0),(4,.p 2 0),(7,.v (.string y195)),(8,(k353:Int)),(31,.R 58),(32,(x192.length:Int)),(33,(k194:Int)),(37,.R 104),(38,(x351.length:Int)),(39,(k353:Int))],[(1,.box [.w 0 [],.w 0 [],.v (.bool false)]),(2,.box [.R 79,.R 81,.v (.bool false)]),(58,ro 1 ze2 x192),(79,ro 1 ze2 v314),(81,ro 1 ze0 v315),(104,ro 1 ze2 x351)],93,[]⟩:St))) ?_
 refine gs4 ?_
 refine⟨(k353+1,(k353:Int)),⟨hlt358,(zds hd356▸hH)⟩,qCC hlt358,?_⟩
 exact Le.ct 0 0
 refine gs5 ?_
 refine⟨(k353+1,v364),⟨hlt358,(zds hd356▸hH)⟩,qCC hlt358,?_⟩
 exact Le.ct 0 0
 rintro⟨v347,v348⟩ hs
 subst hs
 replace hH:=hK350
 try dsimp only[qLN,qJm]at hH
 try dsimp only
 refine gs4 ?_
 refine⟨(k194+1,v347,v348),⟨hlt199,(zds hd197▸hH)⟩,qCC hlt199,?_⟩
 refine Le.trans (Le.ct 97 79 (σ':=(⟨[(0,.v (.string sA)),(2,.p 1 0),(4,.p 2 0),(31,.R 58),(32,(x192.length:Int)),(33,((k194+1:Nat):Int))],[(1,.box [.w 0 [],.w 0 [],.v (.bool false)]),(2,.box [.R 79,.R 99,.v (.bool false)]),(58,ro 1 ze2 x192),(79,ro 1 ze2 v347),(99,ro 1 ze0 v348)],93,[]⟩:St))) ?_
 exact Le.ct 99 81
def qAM (fl:Nat) (x:CsState) (c:Code) (p:Performance):Option (CsState×ByteArray) :=
 (qBZ fl c p).bind fun x1 =>
 cond (!x1)
  (some (x,(⟨#[110,111]⟩:ByteArray)))
  (some ((CsState.mk c p x.factor x.results x.no x.what x.lines),(⟨#[111,107]⟩:ByteArray)))
theorem qBH (fl:Nat) (x:CsState) (c:Code) (p:Performance) (r:(CsState×ByteArray)) (hH:qAM fl x c p=some r):qF3 prog 140 [.pn (ze9 x),.g (ze4 c),.g (qHY p)] [.pn (ze9 r.1),.u,.u] (.v (.string r.2)):=by
 refine qFN T func140 rfl (by decide) rfl rfl [.p 1 0,.g (ze4 c),.g (qHY p)] [(1,.box (ze7 x 2 3)),(3,ro 1 ze0 x.what),(2,ro 1 ze0 x.no)] 4 (by kernel_rfl) [1] rfl rfl ?_
 intro L
 show AW _ _ _ (⟨[(0,.p 1 0),(1,.g (ze4 c)),(2,.g (qHY p))],[(1,.box (ze7 x 2 3)),(3,ro 1 ze0 x.what),(2,ro 1 ze0 x.no)],19,[(1,L 1)]⟩:St)
 refine go ?_
 refine AO.x (bxs T 4) ?_
 refine AO.x (bxs T 5) (go ?_)
 obtain⟨x1,hx2,hH⟩:=zB hH
 refine go ?_
 refine AO.w (cVs (qLv fl _ _ _ (hx2))) (go ?_)
 refine AW.cH hH (fun _ hH=>?_) (fun _ hH=>?_)
 refine go ?_
 exact qEW
 refine go ?_
 refine AO.se T [sv ze5 c.elements,sv ze0 c.limits,c.repeats,c.bonus,c.keeps,c.fall,sv ze1 x.p.items,sv ze3 x.p.marks.grades,sv ze3 x.p.marks.components,x.p.slips.falls,x.p.slips.seconds,x.p.slips.other,x.factor,sv ze6 x.results,.R 2,.R 3,x.lines] ?_
 refine go ?_
 refine AO.se T [sv ze5 c.elements,sv ze0 c.limits,c.repeats,c.bonus,c.keeps,c.fall,sv ze1 p.items,sv ze3 p.marks.grades,sv ze3 p.marks.components,p.slips.falls,p.slips.seconds,p.slips.other,x.factor,sv ze6 x.results,.R 2,.R 3,x.lines] ?_
 refine go ?_
 exact qEW
def qCI (fl:Nat) (x:CsState) (sA:ByteArray):Option (CsState×ByteArray) :=
 (qGU fl sA).bind fun x1 =>
 cond ((!x1.2)||((x.p.items.length:Int)==14))
  (some (x,(⟨#[110,111]⟩:ByteArray)))
  ((qGx x.p.items).bind fun x3 =>
  (qAz (qAh 56 (x3.length+([x1.1]).length))).bind fun u5 =>
  (qAY x.p (x3++[x1.1])).bind fun x7 =>
  (qEB x7.marks).bind fun x9 =>
  (qAz (decide (0≤x9)&&qAh 8 x9.toNat)).bind fun u11 =>
  (qAz (qAh 24 (x7.marks.grades.length+([(List.replicate x9.toNat (0:Int))]).length))).bind fun u13 =>
  (qAM fl x x.code (Performance.mk x7.items (Marks.mk (x7.marks.grades++[(List.replicate x9.toNat (0:Int))]) x7.marks.components) x7.slips)).bind fun x15 =>
  some (x15.1,x15.2))
theorem qLW (fl:Nat) (x:CsState) (sA:ByteArray) (r:(CsState×ByteArray)) (hH:qCI fl x sA=some r):qF3 prog 104 [.pn (ze9 x),.v (.string sA)] [.pn (ze9 r.1),.u] (.v (.string r.2)):=by
 refine qFN T func104 rfl (by decide) rfl rfl [.p 1 0,.v (.string sA)] [(1,.box (ze7 x 2 3)),(3,ro 1 ze0 x.what),(2,ro 1 ze0 x.no)] 4 (by kernel_rfl) [1] rfl rfl ?_
 intro L
 show AW _ _ _ (⟨[(0,.p 1 0),(1,.v (.string sA))],[(1,.box (ze7 x 2 3)),(3,ro 1 ze0 x.what),(2,ro 1 ze0 x.no)],56,[(1,L 1)]⟩:St)
 refine go ?_
 obtain⟨x1,hx2,hH⟩:=zB hH
 refine go ?_
 refine AO.x (qAU rfl 4 rfl rfl rfl (qOf fl _ _ (hx2)) rfl rfl rfl) (go ?_)
 refine AO.x (als T 6) ?_
 refine AO.se T [.R 4,.R 5,.v (.bool x1.1.late)] ?_
 refine go ?_
 refine AO.g0 T ?_
 refine AO.g1 T 16 ?_
 refine AO.g1 T 17 ?_
 refine AO.g1 T 18 ?_
 refine AO.g1 T 19 ?_
 refine AO.d1 20 (fun hg=>qLn T) ?_
 refine AO.g1 T 21 ?_
 refine go ?_
 refine AW.cH hH (fun _ hH=>?_) (fun _ hH=>?_)
 refine go ?_
 exact qEW
 refine go ?_
 obtain⟨x3,hx4,u5,hx6,x7,hx8,hH⟩:=qBB hH
 refine AW.le (Le.fM 4 (g:=ze2) rfl (fun y=>.vs rfl)) ?_
 refine AW.le (Le.fM 5 (g:=ze0) rfl (fun y=>.vs rfl)) ?_
 refine AW.drawn 15 7 [] mix (by kernel_rfl) rfl ?_
 refine go ?_
 refine AD.q (FStep.frzInE (k0:=7) (sz:=3) (l:=x3) (p:=qCU) (q:=ze1) (fun y=>qGs y) (FStep.call rfl rfl rfl rfl rfl (qJy _ _ (hx4)) rfl rfl) rfl) (by simp[qAu];exact Nat.lt_succ_self _) (Nat.le_succ _) rfl ?_
 refine go ?_
 refine AD.q (FStep.mk T (f:=ze1) (l:=[x1.1]) rfl rfl rfl rfl rfl rfl rfl rfl rfl (fun _=>rfl) rfl rfl rfl rfl) (by simp[qAu]) (Nat.le_succ _) rfl ?_
 refine AD.kk (FStep.app_rv T rfl rfl rfl rfl rfl rfl rfl (by decide) rfl rfl rfl rfl (fun _=>rfl) (qAS (hx6)) rfl) ?_
 refine AD.qd rfl (FStep.callL rfl rfl rfl rfl (es:=[.g (qHY x.p),sv ze1 (x3++[x1.1])]) ⟨.free rfl,(.rowR rfl (.map fun y=>.vs rfl)),trivial⟩ (qGO _ _ _ (hx8)) (qXL (zfl (.cons (qHz (fun y=>(.cons (qHz (fun y=>(.cons (qAc _) .nil))) (.cons (qHz (fun y=>(.cons (qAc _) .nil))) (.cons (qAc _) .nil))))) (.cons (qHz (fun y=>(.cons (qHz (fun y=>(.cons (qAc _) .nil))) .nil))) (.cons (qHz (fun y=>(.cons (qHz (fun y=>(.cons (qAc _) .nil))) .nil))) (.cons (qAc _) (.cons (qAc _) (.cons (qAc _) .nil)))))))) rfl rfl) (qBF _ _) (qDh _ _) rfl ?_
 refine AD.q (FStep.alloc T rfl rfl rfl rfl rfl rfl) (by simp[qAu]) (Nat.le_succ _) rfl ?_
 refine AD.nil (AO.se T [.R 10,.R 11,.R 12,x7.slips.falls,x7.slips.seconds,x7.slips.other] ?_)
 refine AO.n (AW.le (Le.ct 0 0 (σ':=(⟨[(0,.p 1 0),(7,.p 13 0)],[(1,.box (ze7 x 2 3)),(2,ro 1 ze0 x.no),(3,ro 1 ze0 x.what),(10,ro 3 qCU x7.items),(11,ro 1 ze8 x7.marks.grades),(12,ro 1 ze8 x7.marks.components),(13,.box [.R 10,.R 11,.R 12,x7.slips.falls,x7.slips.seconds,x7.slips.other])],56,[(1,L 1)]⟩:St)) (hpin:=⟨⟨rfl,rfl⟩,trivial⟩)) ?_)
 refine AW.q ?_
 obtain⟨x9,hx10,u11,hx12,u13,hx14,hH⟩:=qBB hH
 refine AW.drawn 8 14 [] mix (by kernel_rfl) rfl ?_
 refine go ?_
 refine AD.vv (zLV rfl rfl rfl (es:=[.g (qAf x7.marks)]) ⟨qIK (LendL.cons ((.rowR rfl (.map fun y=>qAl y))) (LendL.cons ((.rowR rfl (.map fun y=>qAl y))) LendL.nil)),trivial⟩ (qIA _ _ (hx10)) (qAc _) rfl) ?_
 refine AD.q (FStep.make T rfl rfl rfl rfl rfl rfl rfl (f:=ze0) (zo:=0) (by repeat constructor) (by decide) rfl rfl (Bool.and_eq_true_iff.1 (qAS (hx12))).1 (Bool.and_eq_true_iff.1 (qAS (hx12))).2 rfl) (by simp[qAu]) (Nat.le_succ _) rfl ?_
 refine AD.kk (FStep.mk_o T rfl rfl rfl rfl rfl rfl rfl rfl (f:=ze8) (l:=[(List.replicate x9.toNat (0:Int))]) (ids:=[14]) rfl rfl (fun _=>rfl) (by exact zC (.rowR rfl) (zCn)) (by decide) rfl rfl rfl rfl) ?_
 refine AD.nil (AO.x (qE2 T rfl 16 rfl rfl rfl rfl rfl (by decide) rfl rfl rfl rfl rfl (qAS (hx14)) rfl rfl) (go ?_))
 refine AO.se T [.R 10,.R 16,.R 12,x7.slips.falls,x7.slips.seconds,x7.slips.other] ?_
 refine go ?_
 obtain⟨x15,hx16,hH⟩:=zB hH
 refine AW.le (Le.fM 10 (g:=ze1) rfl (fun y=>qGs y)) ?_
 refine AW.le (Le.fM 16 (g:=ze3) rfl (fun y=>qAl y)) ?_
 refine AW.le (Le.fM 12 (g:=ze3) rfl (fun y=>qAl y)) ?_
 refine AW.drawn 6 17 [] mix (by kernel_rfl) rfl ?_
 refine go ?_
 refine AO.x (qAd (ze7 x15.1 17 18) [(18,ro 1 ze0 x15.1.what),(17,ro 1 ze0 x15.1.no)] 19 (by kernel_rfl) rfl 17 rfl rfl rfl rfl (es:=[.pn (ze9 x),.g (ze4 x.code),.g (qHY (Performance.mk x7.items (Marks.mk (x7.marks.grades++[(List.replicate x9.toNat (0:Int))]) x7.marks.components) x7.slips))]) (us:=[.u,.u]) (cs:=ze9 x15.1) (ids:=[1,2,3]) (by exact zG (.pb rfl (qA3 rfl rfl)) (zG (.g (zC .s (zC .s (zC .v (zC .v (zC .v (zC .v (zCn)))))))) (zG (.g (zC .s (zC .s (zC .s (zC .v (zC .v (zC .v (zCn)))))))) (zGn)))) (by decide) (by decide) (qBH fl _ _ _ _ (hx16)) rfl rfl (by rfl) rfl) (go ?_)
 exact qEW
def qDz (sA:ByteArray):Nat→Int→Int→Option Int
 |0,_,_=>none
 |k5+1,v12,v13 =>
  cond (decide (v13<(sA.size:Int)))
   ((qNk sA v13).bind fun b15 =>
   cond (decide ((b15.toNat:Int)<48)||decide ((b15.toNat:Int)>57))
    (some (-1))
    (qDz sA k5 (w64 ((w64 (10*v12))+(IntKind.wrap .i64 (IntKind.wrap .u8 ((b15.toNat:Int)-48))))) (w64 (v13+1))))
   (some v12)
def qDF (fl:Nat) (sA:ByteArray):Option Int :=
 (qAZ (sA.size:Int) 1 6).bind fun x1 =>
 (opt (!(!x1)) default (qNk sA 0)).bind fun b3 =>
 cond ((!x1)||(((b3.toNat:Int)==48)&&decide ((sA.size:Int)>1)))
  (some (-1))
  (qDz sA fl 0 0)
theorem qHq (fl:Nat) (sA:ByteArray) (r:Int) (hH:qDF fl sA=some r):qAC prog 143 [.v (.string sA)] (.v (.int .i64 r)):=by
 refine fns T func143 ?_
 refine go ?_
 obtain⟨x1,hx2,b3,hx4,hH⟩:=qAI hH
 refine go ?_
 refine AO.w (cVs (qAb _ _ _ _ (hx2))) (go ?_)
 refine AO.g0 T ?_
 refine AO.d1 10 (fun hg=>qBL T rfl rfl rfl rfl (qEv hx4 hg)) ?_
 refine AO.g1 T 11 ?_
 refine AO.g1 T 12 ?_
 refine AO.g0 T ?_
 refine AO.g1 T 14 ?_
 refine AO.g1 T 15 ?_
 refine AO.d [13] rfl ⟨fun h=>h,trivial⟩ (fun hg=>zN rfl rfl rfl (by rw[hg];exact Bool.true_and _)) rfl ?_
 refine go ?_
 refine AW.cH hH (fun _ hH=>?_) (fun hc hH=>?_)
 refine go ?_
 exact fin
 refine go ?_
 refine AW.loopS (fun s:Nat×Int×Int=>(⟨[(0,.v (.string sA)),(3,s.2.1),(4,s.2.2)],[],44,[]⟩:St)) (fun s=>qDz sA s.1 s.2.1 s.2.2=some r) (fun s=>s.1) (fl,0,0) hH ?_ ?_
 exact Le.ct 0 0
 rintro⟨k5,v12,v13⟩ hH
 try dsimp only at hH⊢
 rcases k5 with _|k5
 cases (show none=some _ from hH)
 rw[qDz]at hH
 refine go ?_
 refine AW.cH hH (fun hc hH=>?_) (fun _ hH=>?_)
 refine go ?_
 obtain⟨b15,hx16,hH⟩:=zB hH
 refine go ?_
 refine AO.w (qBL T rfl rfl rfl rfl (hx16)) (go ?_)
 refine AO.g0 T ?_
 refine AO.g0 T ?_
 refine AO.d2 30 31 (fun hg=>qBL T rfl rfl rfl rfl (hx16)) ?_
 refine AO.g1 T 32 ?_
 refine go ?_
 refine AW.cH hH (fun _ hH=>?_) (fun hc hH=>?_)
 refine go ?_
 exact fin
 refine go ?_
 refine AO.w (qBL T rfl rfl rfl rfl (hx16)) ?_
 refine AO.w aws ?_
 refine AO.w (qOQ T rfl rfl rfl rfl) (go ?_)
 refine⟨(k5,w64 ((w64 (10*v12))+(IntKind.wrap .i64 (IntKind.wrap .u8 ((b15.toNat:Int)-48)))),w64 (v13+1)),hH,Nat.lt_succ_self _,?_⟩
 exact Le.ct 0 0
 refine go ?_
 exact fin
def qHD (fl:Nat) (sA:ByteArray):Option Int :=
 (opt (decide ((sA.size:Int)>1)) default (qNk sA 0)).bind fun b1 =>
 cond (decide ((sA.size:Int)>1)&&((b1.toNat:Int)==45))
  ((qAz (inB 1 sA.size sA.size)).bind fun u3 =>
  (qDF fl (ByteArray.extract sA (1:Int).toNat sA.size)).bind fun x5 =>
  cond (decide (x5≥0))
   (some (w64 ((-1)*x5)))
   (some 9999))
  ((qDF fl sA).bind fun x7 =>
  cond (decide (x7≥0))
   (some (w64 (1*x7)))
   (some 9999))
theorem qNm (fl:Nat) (sA:ByteArray) (r:Int) (hH:qHD fl sA=some r):qAC prog 142 [.v (.string sA)] (.v (.int .i64 r)):=by
 refine fns T func142 ?_
 refine go ?_
 obtain⟨b1,hx2,hH⟩:=zB hH
 refine go ?_
 refine AO.g0 T ?_
 refine AO.d1 9 (fun hg=>qBL T rfl rfl rfl rfl (qEv hx2 hg)) ?_
 refine AO.g1 T 10 ?_
 refine go ?_
 refine AW.cH hH (fun hc hH=>?_) (fun hc hH=>?_)
 refine go ?_
 obtain⟨u3,hx4,hH⟩:=zB hH
 refine go ?_
 refine AO.w (qFB T rfl rfl rfl rfl (qAS (hx4))) (go ?_)
 obtain⟨x5,hx6,hH⟩:=zB hH
 refine go ?_
 refine AO.w (cVs (qHq fl _ _ (hx6))) (go ?_)
 refine AW.cH hH (fun _ hH=>?_) (fun hc hH=>?_)
 refine go ?_
 exact fin
 refine go ?_
 exact fin
 refine go ?_
 obtain⟨x7,hx8,hH⟩:=zB hH
 refine go ?_
 refine AO.w (cVs (qHq fl _ _ (hx8))) (go ?_)
 refine AW.cH hH (fun _ hH=>?_) (fun _ hH=>?_)
 refine go ?_
 exact fin
 refine go ?_
 exact fin
end Go.Proofs.YtkidpkmpnbibmaaGreatDoor

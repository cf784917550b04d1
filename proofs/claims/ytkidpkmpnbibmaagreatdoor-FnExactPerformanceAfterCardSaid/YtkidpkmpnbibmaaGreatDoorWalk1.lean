/- The walk, part 1: what each function reached by the law FnExactPerformanceAfter computes. No condition. -/
import Derived.Test.YtkidpkmpnbibmaaGreatDoorAm4
import Derived.Test.YtkidpkmpnbibmaaGreatDoorShelf
import Derived.Test.YtkidpkmpnbibmaaGreatDoorProg
set_option maxRecDepth 4000
set_option maxHeartbeats 1000000
set_option linter.unusedVariables false
set_option linter.unusedSimpArgs false
set_option linter.unusedSectionVars false
namespace Go.Proofs.YtkidpkmpnbibmaaGreatDoor
open Go.AM Tryz
abbrev aa:=ByteArray
abbrev ac:=List Int
abbrev ad:=Option Bool
def teL:List (Option TI):=[
 none,
 none,
 some ⟨.int .i64,1,8,some (.int .i64 0)⟩,
 some ⟨.int .i64,1,8,some (.int .i64 0)⟩,
 some ⟨.bool,1,1,some (.bool false)⟩,
 some ⟨.int .u8,1,1,some (.int .u8 0)⟩,
 some ⟨.int .u8,1,1,some (.int .u8 0)⟩,
 some ⟨.struct [(0,2),(1,3),(2,4),(3,6)],4,24,some (.agg #[.int .i64 0,.int .i64 0,.bool false,.int .u8 0])⟩,
 some ⟨.struct [(0,2),(1,3),(2,4),(3,6)],4,24,some (.agg #[.int .i64 0,.int .i64 0,.bool false,.int .u8 0])⟩,
 some ⟨.str,1,16,some (.string ⟨#[]⟩)⟩,
 some ⟨.str,1,16,some (.string ⟨#[]⟩)⟩,
 some ⟨.str,1,16,some (.string ⟨#[]⟩)⟩,
 some ⟨.int .u64,1,8,some (.int .u64 0)⟩,
 some ⟨.struct [(0,9),(1,12)],2,24,some (.agg #[.string ⟨#[]⟩,.int .u64 0])⟩,
 some ⟨.struct [(0,9),(1,12)],2,24,some (.agg #[.string ⟨#[]⟩,.int .u64 0])⟩,
 some ⟨.ptr 264,1,8,some (.pointer none)⟩,
 some ⟨.ptr 267,1,8,some (.pointer none)⟩,
 some ⟨.ptr 274,1,8,some (.pointer none)⟩,
 some ⟨.struct [(0,17)],1,8,some (.agg #[.pointer none])⟩,
 some ⟨.struct [(0,17)],1,8,some (.agg #[.pointer none])⟩,
 none,
 some ⟨.int .i32,1,4,some (.int .i32 0)⟩,
 none,
 none,
 none,
 none,
 some ⟨.slice 3,1,24,some (.slice none 0 0)⟩,
 none,
 none,
 none,
 none,
 some ⟨.slice 89,1,24,some (.slice none 0 0)⟩,
 none,
 none,
 none,
 none,
 some ⟨.slice 107,1,24,some (.slice none 0 0)⟩,
 some ⟨.struct [(0,36),(1,26),(2,3),(3,3),(4,3),(5,3)],6,80,some (.agg #[.slice none 0 0,.slice none 0 0,.int .i64 0,.int .i64 0,.int .i64 0,.int .i64 0])⟩,
 some ⟨.struct [(0,36),(1,26),(2,3),(3,3),(4,3),(5,3)],6,80,some (.agg #[.slice none 0 0,.slice none 0 0,.int .i64 0,.int .i64 0,.int .i64 0,.int .i64 0])⟩,
 none,
 none,
 none,
 none,
 some ⟨.slice 120,1,24,some (.slice none 0 0)⟩,
 some ⟨.slice 26,1,24,some (.slice none 0 0)⟩,
 some ⟨.struct [(0,44),(1,44)],2,48,some (.agg #[.slice none 0 0,.slice none 0 0])⟩,
 some ⟨.struct [(0,44),(1,44)],2,48,some (.agg #[.slice none 0 0,.slice none 0 0])⟩,
 some ⟨.struct [(0,3),(1,3),(2,3)],3,24,some (.agg #[.int .i64 0,.int .i64 0,.int .i64 0])⟩,
 some ⟨.struct [(0,3),(1,3),(2,3)],3,24,some (.agg #[.int .i64 0,.int .i64 0,.int .i64 0])⟩,
 some ⟨.struct [(0,43),(1,46),(3,48)],6,96,some (.agg #[.slice none 0 0,.slice none 0 0,.slice none 0 0,.int .i64 0,.int .i64 0,.int .i64 0])⟩,
 some ⟨.struct [(0,43),(1,46),(3,48)],6,96,some (.agg #[.slice none 0 0,.slice none 0 0,.slice none 0 0,.int .i64 0,.int .i64 0,.int .i64 0])⟩,
 none,
 none,
 none,
 none,
 some ⟨.slice 5,1,24,some (.slice none 0 0)⟩,
 none,
 none,
 none,
 none,
 none,
 none,
 none,
 none,
 none,
 none,
 some ⟨.ptr 82,1,8,some (.pointer none)⟩,
 none,
 none,
 some ⟨.ptr 86,1,8,some (.pointer none)⟩,
 some ⟨.slice 9,1,24,some (.slice none 0 0)⟩,
 none,
 none,
 some ⟨.ptr 75,1,8,some (.pointer none)⟩,
 some ⟨.struct [(0,73),(1,55)],2,32,some (.agg #[.pointer none,.slice none 0 0])⟩,
 some ⟨.struct [(0,73),(1,55)],2,32,some (.agg #[.pointer none,.slice none 0 0])⟩,
 none,
 none,
 none,
 none,
 none,
 some ⟨.struct [(0,38),(6,50),(12,3),(13,31),(14,26),(15,26),(16,3)],17,264,some (.agg #[.slice none 0 0,.slice none 0 0,.int .i64 0,.int .i64 0,.int .i64 0,.int .i64 0,.slice none 0 0,.slice none 0 0,.slice none 0 0,.int .i64 0,.int .i64 0,.int .i64 0,.int .i64 0,.slice none 0 0,.slice none 0 0,.slice none 0 0,.int .i64 0])⟩,
 some ⟨.struct [(0,38),(6,50),(12,3),(13,31),(14,26),(15,26),(16,3)],17,264,some (.agg #[.slice none 0 0,.slice none 0 0,.int .i64 0,.int .i64 0,.int .i64 0,.int .i64 0,.slice none 0 0,.slice none 0 0,.slice none 0 0,.int .i64 0,.int .i64 0,.int .i64 0,.int .i64 0,.slice none 0 0,.slice none 0 0,.slice none 0 0,.int .i64 0])⟩,
 none,
 none,
 some ⟨.struct [(0,38),(6,50),(12,3),(13,31)],14,208,some (.agg #[.slice none 0 0,.slice none 0 0,.int .i64 0,.int .i64 0,.int .i64 0,.int .i64 0,.slice none 0 0,.slice none 0 0,.slice none 0 0,.int .i64 0,.int .i64 0,.int .i64 0,.int .i64 0,.slice none 0 0])⟩,
 some ⟨.struct [(0,38),(6,50),(12,3),(13,31)],14,208,some (.agg #[.slice none 0 0,.slice none 0 0,.int .i64 0,.int .i64 0,.int .i64 0,.int .i64 0,.slice none 0 0,.slice none 0 0,.slice none 0 0,.int .i64 0,.int .i64 0,.int .i64 0,.int .i64 0,.slice none 0 0])⟩,
 none,
 some ⟨.struct [(0,3),(1,26)],2,32,some (.agg #[.int .i64 0,.slice none 0 0])⟩,
 some ⟨.struct [(0,3),(1,26)],2,32,some (.agg #[.int .i64 0,.slice none 0 0])⟩,
 none,
 none,
 none,
 none,
 none,
 none,
 none,
 none,
 some ⟨.ptr 101,1,8,some (.pointer none)⟩,
 some ⟨.int .u64,1,8,some (.int .u64 0)⟩,
 some ⟨.struct [(0,55),(1,3),(2,99)],3,40,some (.agg #[.slice none 0 0,.int .i64 0,.int .u64 0])⟩,
 some ⟨.struct [(0,55),(1,3),(2,99)],3,40,some (.agg #[.slice none 0 0,.int .i64 0,.int .u64 0])⟩,
 none,
 none,
 none,
 none,
 some ⟨.struct [(0,9),(1,3),(2,3),(3,3)],4,40,some (.agg #[.string ⟨#[]⟩,.int .i64 0,.int .i64 0,.int .i64 0])⟩,
 some ⟨.struct [(0,9),(1,3),(2,3),(3,3)],4,40,some (.agg #[.string ⟨#[]⟩,.int .i64 0,.int .i64 0,.int .i64 0])⟩,
 none,
 none,
 none,
 none,
 none,
 some ⟨.ptr 5,1,8,some (.pointer none)⟩,
 none,
 none,
 none,
 none,
 none,
 some ⟨.struct [(0,70),(1,26),(2,4)],3,56,some (.agg #[.slice none 0 0,.slice none 0 0,.bool false])⟩,
 some ⟨.struct [(0,70),(1,26),(2,4)],3,56,some (.agg #[.slice none 0 0,.slice none 0 0,.bool false])⟩,
 none,
 none,
 none,
 none,
 none,
 none,
 none,
 none,
 none,
 none,
 none,
 none,
 none,
 none,
 none,
 none,
 none,
 none,
 none,
 none,
 none,
 none,
 none,
 none,
 some ⟨.int .u64,1,8,some (.int .u64 0)⟩,
 none,
 none,
 none,
 none,
 none,
 none,
 none,
 none,
 none,
 none,
 none,
 none,
 none,
 none,
 none,
 none,
 none,
 none,
 none,
 none,
 some ⟨.array 4 9,4,64,some (.agg #[.string ⟨#[]⟩,.string ⟨#[]⟩,.string ⟨#[]⟩,.string ⟨#[]⟩])⟩,
 none,
 none,
 none,
 none,
 none,
 none,
 none,
 none,
 none,
 none,
 none,
 none,
 none,
 none,
 none,
 none,
 none,
 none,
 none,
 none,
 none,
 none,
 none,
 none,
 none,
 none,
 none,
 none,
 none,
 none,
 none,
 none,
 none,
 none,
 none,
 none,
 none,
 none,
 none,
 none,
 none,
 none,
 none,
 none,
 none,
 none,
 none,
 none,
 none,
 none,
 none,
 none,
 none,
 none,
 none,
 none,
 none,
 none,
 none,
 none,
 none,
 none,
 none,
 none,
 none,
 none,
 none,
 none,
 some ⟨.array 24 5,24,24,some (.agg #[.int .u8 0,.int .u8 0,.int .u8 0,.int .u8 0,.int .u8 0,.int .u8 0,.int .u8 0,.int .u8 0,.int .u8 0,.int .u8 0,.int .u8 0,.int .u8 0,.int .u8 0,.int .u8 0,.int .u8 0,.int .u8 0,.int .u8 0,.int .u8 0,.int .u8 0,.int .u8 0,.int .u8 0,.int .u8 0,.int .u8 0,.int .u8 0])⟩,
 none,
 none,
 none,
 none,
 none,
 none,
 none,
 none,
 none,
 none,
 none,
 some ⟨.struct [(0,5),(1,5)],2,2,some (.agg #[.int .u8 0,.int .u8 0])⟩,
 some ⟨.struct [(0,5),(1,5)],2,2,some (.agg #[.int .u8 0,.int .u8 0])⟩,
 some ⟨.array 16 248,32,32,some (.agg #[.int .u8 0,.int .u8 0,.int .u8 0,.int .u8 0,.int .u8 0,.int .u8 0,.int .u8 0,.int .u8 0,.int .u8 0,.int .u8 0,.int .u8 0,.int .u8 0,.int .u8 0,.int .u8 0,.int .u8 0,.int .u8 0,.int .u8 0,.int .u8 0,.int .u8 0,.int .u8 0,.int .u8 0,.int .u8 0,.int .u8 0,.int .u8 0,.int .u8 0,.int .u8 0,.int .u8 0,.int .u8 0,.int .u8 0,.int .u8 0,.int .u8 0,.int .u8 0])⟩,
 some ⟨.int .u32,1,4,some (.int .u32 0)⟩,
 none,
 none,
 none,
 some ⟨.array 20 99,20,160,some (.agg #[.int .u64 0,.int .u64 0,.int .u64 0,.int .u64 0,.int .u64 0,.int .u64 0,.int .u64 0,.int .u64 0,.int .u64 0,.int .u64 0,.int .u64 0,.int .u64 0,.int .u64 0,.int .u64 0,.int .u64 0,.int .u64 0,.int .u64 0,.int .u64 0,.int .u64 0,.int .u64 0])⟩,
 none,
 none,
 none,
 none,
 none,
 none,
 some ⟨.array 32 5,32,32,some (.agg #[.int .u8 0,.int .u8 0,.int .u8 0,.int .u8 0,.int .u8 0,.int .u8 0,.int .u8 0,.int .u8 0,.int .u8 0,.int .u8 0,.int .u8 0,.int .u8 0,.int .u8 0,.int .u8 0,.int .u8 0,.int .u8 0,.int .u8 0,.int .u8 0,.int .u8 0,.int .u8 0,.int .u8 0,.int .u8 0,.int .u8 0,.int .u8 0,.int .u8 0,.int .u8 0,.int .u8 0,.int .u8 0,.int .u8 0,.int .u8 0,.int .u8 0,.int .u8 0])⟩,
 none,
 some ⟨.struct [(0,17),(1,17),(2,17),(3,9)],4,40,some (.agg #[.pointer none,.pointer none,.pointer none,.string ⟨#[]⟩])⟩,
 some ⟨.struct [(0,17),(1,17),(2,17),(3,9)],4,40,some (.agg #[.pointer none,.pointer none,.pointer none,.string ⟨#[]⟩])⟩,
 some ⟨.array 0 16,0,0,some (.agg #[])⟩,
 some ⟨.struct [(0,265)],0,0,some (.agg #[])⟩,
 some ⟨.struct [(0,265)],0,0,some (.agg #[])⟩,
 some ⟨.int .u8,1,1,some (.int .u8 0)⟩,
 some ⟨.int .u8,1,1,some (.int .u8 0)⟩,
 none,
 some ⟨.int .i32,1,4,some (.int .i32 0)⟩,
 some ⟨.int .i32,1,4,some (.int .i32 0)⟩,
 some ⟨.struct [(0,12),(1,12),(2,250),(3,268),(4,5),(5,5),(6,269),(7,270),(8,113),(9,271),(10,272)],11,48,some (.agg #[.int .u64 0,.int .u64 0,.int .u32 0,.int .u8 0,.int .u8 0,.int .u8 0,.int .u8 0,.nilFunc,.pointer none,.int .i32 0,.int .i32 0])⟩,
 some ⟨.struct [(0,12),(1,12),(2,250),(3,268),(4,5),(5,5),(6,269),(7,270),(8,113),(9,271),(10,272)],11,48,some (.agg #[.int .u64 0,.int .u64 0,.int .u32 0,.int .u8 0,.int .u8 0,.int .u8 0,.int .u8 0,.nilFunc,.pointer none,.int .i32 0,.int .i32 0])⟩]
def te:TE:=qZf teL
theorem T:qGp prog te:=qXh (by kernel_rfl)
theorem mix:prog.follows .mixedOrders=true:=by kernel_rfl
def ze0 (x:Int):List D:=[.v (.int .i64 x)]
def qZt (x:Bool):List D:=[.v (.bool x)]
def ze2 (x:aa):List D:=[.v (.string x)]
def qO7 (x:Int):List D:=[.v (.int .u8 x)]
def qYW (x:Int):List D:=[.v (.int .u64 x)]
def qYV (x:Int):List D:=[.v (.int .i32 x)]
def ze5 (x:ac):List D:=[.s (x.map ze0)]
def ze1 (x:ac):List D:=[.w 1 (x.map ze0)]
theorem qAR (x:ac):FrzL (ze1 x) (ze5 x):=.cons (.map fun y=>.vs rfl) .nil
def qXs (x:List aa):List D:=[.s (x.map ze2)]
def qV9 (x:List aa):List D:=[.w 1 (x.map ze2)]
theorem qZp (x:List aa):FrzL (qV9 x) (qXs x):=.cons (.map fun y=>.vs rfl) .nil
structure Element where
 name:aa
 family:Int
 level:Int
 base:Int
 deriving Inhabited,DecidableEq
def ze7 (x:Element):List D:=[.v (.string x.name),.v (.int .i64 x.family),.v (.int .i64 x.level),.v (.int .i64 x.base)]
def qSS (x:List Element):List D:=[.s (x.map ze7)]
def qRs (x:List Element):List D:=[.w 4 (x.map ze7)]
theorem qXv (x:List Element):FrzL (qRs x) (qSS x):=.cons (.map fun y=>.vs rfl) .nil
structure Item where
 names:List aa
 marks:ac
 late:Bool
 deriving Inhabited,DecidableEq
def ze3 (x:Item):List D:=[.s (x.names.map ze2),.s (x.marks.map ze0),.v (.bool x.late)]
def ze6 (x:Item):List D:=[.w 1 (x.names.map ze2),.w 1 (x.marks.map ze0),.v (.bool x.late)]
theorem qCJ (x:Item):FrzL (ze6 x) (ze3 x):=.cons (.map fun y=>.vs rfl) (.cons (.map fun y=>.vs rfl) (.cons (.vs rfl) (.nil)))
structure Marks where
 grades:List ac
 components:List ac
 deriving Inhabited,DecidableEq
def qAb (x:Marks):List D:=[.s (x.grades.map ze5),.s (x.components.map ze5)]
def qEy (x:Marks):List D:=[.w 1 (x.grades.map ze1),.w 1 (x.components.map ze1)]
theorem qZc (x:Marks):FrzL (qEy x) (qAb x):=.cons (.map fun y=>qAR y) (.cons (.map fun y=>qAR y) (.nil))
structure Slips where
 falls:Int
 seconds:Int
 other:Int
 deriving Inhabited,DecidableEq
def qLn (x:Slips):List D:=[.v (.int .i64 x.falls),.v (.int .i64 x.seconds),.v (.int .i64 x.other)]
structure Performance where
 items:List Item
 marks:Marks
 slips:Slips
 deriving Inhabited,DecidableEq
def ze8 (x:Performance):List D:=[.s (x.items.map ze3),.s (x.marks.grades.map ze5),.s (x.marks.components.map ze5),.v (.int .i64 x.slips.falls),.v (.int .i64 x.slips.seconds),.v (.int .i64 x.slips.other)]
def qGA (x:Performance):List D:=[.w 3 (x.items.map ze6),.w 1 (x.marks.grades.map ze1),.w 1 (x.marks.components.map ze1),.v (.int .i64 x.slips.falls),.v (.int .i64 x.slips.seconds),.v (.int .i64 x.slips.other)]
theorem qV5 (x:Performance):FrzL (qGA x) (ze8 x):=.cons (.map fun y=>qCJ y) (.cons (.map fun y=>qAR y) (.cons (.map fun y=>qAR y) (.cons (.vs rfl) (.cons (.vs rfl) (.cons (.vs rfl) (.nil))))))
structure Code where
 elements:List Element
 limits:ac
 repeats:Int
 bonus:Int
 keeps:Int
 fall:Int
 deriving Inhabited,DecidableEq
def ze4 (x:Code):List D:=[.s (x.elements.map ze7),.s (x.limits.map ze0),.v (.int .i64 x.repeats),.v (.int .i64 x.bonus),.v (.int .i64 x.keeps),.v (.int .i64 x.fall)]
def qO0 (x:Code):List D:=[.w 4 (x.elements.map ze7),.w 1 (x.limits.map ze0),.v (.int .i64 x.repeats),.v (.int .i64 x.bonus),.v (.int .i64 x.keeps),.v (.int .i64 x.fall)]
theorem qZk (x:Code):FrzL (qO0 x) (ze4 x):=.cons (.map fun y=>.vs rfl) (.cons (.map fun y=>.vs rfl) (.cons (.vs rfl) (.cons (.vs rfl) (.cons (.vs rfl) (.cons (.vs rfl) (.nil))))))
structure Result where
 skater:Int
 scores:ac
 deriving Inhabited,DecidableEq
def ze9 (x:Result):List D:=[.v (.int .i64 x.skater),.s (x.scores.map ze0)]
def qTa (x:Result):List D:=[.v (.int .i64 x.skater),.w 1 (x.scores.map ze0)]
theorem qY0 (x:Result):FrzL (qTa x) (ze9 x):=.cons (.vs rfl) (.cons (.map fun y=>.vs rfl) (.nil))
structure CsState where
 code:Code
 p:Performance
 factor:Int
 results:List Result
 no:ac
 what:ac
 lines:Int
 deriving Inhabited,DecidableEq
def qTn (x:CsState):List D:=[.s (x.code.elements.map ze7),.s (x.code.limits.map ze0),.v (.int .i64 x.code.repeats),.v (.int .i64 x.code.bonus),.v (.int .i64 x.code.keeps),.v (.int .i64 x.code.fall),.s (x.p.items.map ze3),.s (x.p.marks.grades.map ze5),.s (x.p.marks.components.map ze5),.v (.int .i64 x.p.slips.falls),.v (.int .i64 x.p.slips.seconds),.v (.int .i64 x.p.slips.other),.v (.int .i64 x.factor),.s (x.results.map ze9),.s (x.no.map ze0),.s (x.what.map ze0),.v (.int .i64 x.lines)]
def qGH (x:CsState):List D:=[.s (x.code.elements.map ze7),.s (x.code.limits.map ze0),.v (.int .i64 x.code.repeats),.v (.int .i64 x.code.bonus),.v (.int .i64 x.code.keeps),.v (.int .i64 x.code.fall),.s (x.p.items.map ze3),.s (x.p.marks.grades.map ze5),.s (x.p.marks.components.map ze5),.v (.int .i64 x.p.slips.falls),.v (.int .i64 x.p.slips.seconds),.v (.int .i64 x.p.slips.other),.v (.int .i64 x.factor),.s (x.results.map ze9),.w 1 (x.no.map ze0),.w 1 (x.what.map ze0),.v (.int .i64 x.lines)]
def qF2 (x:CsState) (i0 i1:Nat):List D:=[.s (x.code.elements.map ze7),.s (x.code.limits.map ze0),.v (.int .i64 x.code.repeats),.v (.int .i64 x.code.bonus),.v (.int .i64 x.code.keeps),.v (.int .i64 x.code.fall),.s (x.p.items.map ze3),.s (x.p.marks.grades.map ze5),.s (x.p.marks.components.map ze5),.v (.int .i64 x.p.slips.falls),.v (.int .i64 x.p.slips.seconds),.v (.int .i64 x.p.slips.other),.v (.int .i64 x.factor),.s (x.results.map ze9),.R i0,.R i1,.v (.int .i64 x.lines)]
theorem qA4 {σ:St} {x:CsState} {i0 i1:Nat} (h0:get σ.h i0=some (.row 1 (x.no.map ze0))) (h1:get σ.h i1=some (.row 1 (x.what.map ze0))):qM6 σ (qF2 x i0 i1) (qGH x) [i0,i1]:=zC .s (zC .s (zC .v (zC .v (zC .v (zC .v (zC .s (zC .s (zC .s (zC .v (zC .v (zC .v (zC .v (zC .s (zC (.rowR h0) (zC (.rowR h1) (zC .v (zCn)))))))))))))))))
theorem qYR (x:CsState):FrzL (qGH x) (qTn x):=.cons (.vs rfl) (.cons (.vs rfl) (.cons (.vs rfl) (.cons (.vs rfl) (.cons (.vs rfl) (.cons (.vs rfl) (.cons (.vs rfl) (.cons (.vs rfl) (.cons (.vs rfl) (.cons (.vs rfl) (.cons (.vs rfl) (.cons (.vs rfl) (.cons (.vs rfl) (.cons (.vs rfl) (.cons (.map fun y=>.vs rfl) (.cons (.map fun y=>.vs rfl) (.cons (.vs rfl) (.nil)))))))))))))))))
structure ScriptState where
 code:Code
 performance:Performance
 factor:Int
 results:List Result
 deriving Inhabited,DecidableEq
def qP5 (x:ScriptState):List D:=[.s (x.code.elements.map ze7),.s (x.code.limits.map ze0),.v (.int .i64 x.code.repeats),.v (.int .i64 x.code.bonus),.v (.int .i64 x.code.keeps),.v (.int .i64 x.code.fall),.s (x.performance.items.map ze3),.s (x.performance.marks.grades.map ze5),.s (x.performance.marks.components.map ze5),.v (.int .i64 x.performance.slips.falls),.v (.int .i64 x.performance.slips.seconds),.v (.int .i64 x.performance.slips.other),.v (.int .i64 x.factor),.s (x.results.map ze9)]
def qIF (x:ScriptState):List D:=[.s (x.code.elements.map ze7),.s (x.code.limits.map ze0),.v (.int .i64 x.code.repeats),.v (.int .i64 x.code.bonus),.v (.int .i64 x.code.keeps),.v (.int .i64 x.code.fall),.w 3 (x.performance.items.map ze6),.w 1 (x.performance.marks.grades.map ze1),.w 1 (x.performance.marks.components.map ze1),.v (.int .i64 x.performance.slips.falls),.v (.int .i64 x.performance.slips.seconds),.v (.int .i64 x.performance.slips.other),.v (.int .i64 x.factor),.s (x.results.map ze9)]
def qHv (x:ScriptState) (i0 i1 i2:Nat):List D:=[.s (x.code.elements.map ze7),.s (x.code.limits.map ze0),.v (.int .i64 x.code.repeats),.v (.int .i64 x.code.bonus),.v (.int .i64 x.code.keeps),.v (.int .i64 x.code.fall),.R i0,.R i1,.R i2,.v (.int .i64 x.performance.slips.falls),.v (.int .i64 x.performance.slips.seconds),.v (.int .i64 x.performance.slips.other),.v (.int .i64 x.factor),.s (x.results.map ze9)]
theorem qJl {σ:St} {x:ScriptState} {i0 i1 i2:Nat} (h0:get σ.h i0=some (.row 3 (x.performance.items.map ze6))) (h1:get σ.h i1=some (.row 1 (x.performance.marks.grades.map ze1))) (h2:get σ.h i2=some (.row 1 (x.performance.marks.components.map ze1))):qM6 σ (qHv x i0 i1 i2) (qIF x) [i0,i1,i2]:=zC .s (zC .s (zC .v (zC .v (zC .v (zC .v (zC (.rowR h0) (zC (.rowR h1) (zC (.rowR h2) (zC .v (zC .v (zC .v (zC .v (zC .s (zCn))))))))))))))
theorem qV7 (x:ScriptState):FrzL (qIF x) (qP5 x):=.cons (.vs rfl) (.cons (.vs rfl) (.cons (.vs rfl) (.cons (.vs rfl) (.cons (.vs rfl) (.cons (.vs rfl) (.cons (.map fun y=>qCJ y) (.cons (.map fun y=>qAR y) (.cons (.map fun y=>qAR y) (.cons (.vs rfl) (.cons (.vs rfl) (.cons (.vs rfl) (.cons (.vs rfl) (.cons (.vs rfl) (.nil))))))))))))))
def qEU (judges:Int):Nat->Int->List ac->Option (List ac)
 |0,_,_=>none
 |k21+1,v32,v33 =>
  cond (decide (v32>0))
   ((qAq (decide (0<=judges)&&qAi 8 judges.toNat)).bind fun u35 =>
   (qAq (qAi 24 (v33.length+([(List.replicate judges.toNat (0:Int))]).length))).bind fun u37 =>
   qEU judges k21 (w64 (v32-1)) (v33++[(List.replicate judges.toNat (0:Int))]))
   (some v33)
def qEK (judges:Int) (v18:List ac):Nat->List ac->Int->Option Marks
 |0,_,_=>none
 |k39+1,v50,v51 =>
  cond (decide (v51<3))
   ((qAq (decide (0<=judges)&&qAi 8 judges.toNat)).bind fun u53 =>
   (qAq (qAi 24 (v50.length+([(List.replicate judges.toNat (0:Int))]).length))).bind fun u55 =>
   qEK judges v18 k39 (v50++[(List.replicate judges.toNat (0:Int))]) (w64 (v51+1)))
   (some (Marks.mk v18 v50))
def qDI (fl:Nat) (items:Int) (judges:Int):Option Marks :=
 (qEU judges fl items []).bind fun v18 =>
 qEK judges v18 fl [] 0
theorem qI8 (fl:Nat) (items:Int) (judges:Int) (r:Marks) (hH:qDI fl items judges=some r):qAC prog 102 [items,judges] (.g (qEy r)):=by
 refine fns T func102 ?_
 refine go ?_
 refine AO.x (als T 1) (go ?_)
 refine AO.x (als T 2) ?_
 refine AO.se T [.w 0 [],.w 0 []] ?_
 refine AO.n ?_
 obtain⟨o19,hH,hK20⟩:=zB hH
 refine AW.seqJ (fun s:List ac=>(⟨[(1,judges),(4,.p 1 0),(5,.p 2 0)],[(1,.box [.w 0 [],.w 0 []]),(2,.box [.R 8,.w 0 []]),(8,ro 1 ze1 s)],31,[]⟩:St)) (fun s=>s=o19) ?_ ?_
 refine AW.b (AW.loopS (fun s:Nat×Int×(List ac)=>(⟨[(0,s.2.1),(1,judges),(4,.p 1 0),(5,.p 2 0)],[(1,.box [.w 0 [],.w 0 []]),(2,.box [.R 17,.w 0 []]),(17,ro 1 ze1 s.2.2)],31,[]⟩:St)) (fun s=>qEU judges s.1 s.2.1 s.2.2=some o19) (fun s=>s.1) (fl,items,[]) hH ?_ ?_)
 refine Le.trans (Le.voidBox 2 0 17 1 rfl rfl rfl rfl) ?_
 exact Le.ct 0 0
 rintro⟨k21,v32,v33⟩ hH
 try dsimp only at hH⊢
 rcases k21 with _|k21
 cases (show none=some _ from hH)
 rw[qEU]at hH
 refine go ?_
 refine AW.cH hH (fun _ hH=>?_) (fun hc hH=>?_)
 refine go ?_
 obtain⟨u35,hx36,u37,hx38,hH⟩:=qAH hH
 refine AW.drawn 5 18 [] mix (by kernel_rfl) rfl ?_
 refine go ?_
 refine AD.q (FStep.make T rfl rfl rfl rfl rfl rfl rfl (f:=ze0) (zo:=0) (by repeat constructor) (by decide) rfl rfl (Bool.and_eq_true_iff.1 (qAP (hx36))).1 (Bool.and_eq_true_iff.1 (qAP (hx36))).2 rfl) (by simp[qA1]) (Nat.le_succ _) rfl ?_
 refine AD.kk (FStep.mk_o T rfl rfl rfl rfl rfl rfl rfl rfl (f:=ze1) (l:=[(List.replicate judges.toNat (0:Int))]) (ids:=[18]) rfl rfl (fun _=>rfl) (by exact zC (.rowR rfl) (zCn)) (by decide) rfl rfl rfl rfl) ?_
 refine AD.nil (AO.x (qEe T rfl 20 rfl rfl rfl rfl rfl (by decide) rfl rfl rfl rfl rfl (qAP (hx38)) rfl rfl) ?_)
 refine AO.pu T ?_
 refine AO.se T [.R 20,.w 0 []] ?_
 refine go ?_
 refine⟨(k21,w64 (v32-1),(v33++[(List.replicate judges.toNat (0:Int))])),hH,Nat.lt_succ_self _,?_⟩
 exact Le.ct 20 17
 refine AW.exit ?_
 refine⟨_,zS hH,?_⟩
 exact Le.ct 17 8
 rintro v18 hs
 subst hs
 replace hH:=hK20
 try dsimp only[qLW,qJg]at hH
 try dsimp only
 refine go ?_
 refine AW.loopS (fun s:Nat×(List ac)×Int=>(⟨[(1,judges),(4,.p 1 0),(5,.p 2 0),(6,s.2.2)],[(1,.box [.w 0 [],.w 0 []]),(2,.box [.R 8,.R 26]),(8,ro 1 ze1 v18),(26,ro 1 ze1 s.2.1)],31,[]⟩:St)) (fun s=>qEK judges v18 s.1 s.2.1 s.2.2=some r) (fun s=>s.1) (fl,[],0) hH ?_ ?_
 refine Le.trans (Le.voidBox 2 1 26 1 rfl rfl rfl rfl) ?_
 exact Le.ct 0 0
 rintro⟨k39,v50,v51⟩ hH
 try dsimp only at hH⊢
 rcases k39 with _|k39
 cases (show none=some _ from hH)
 rw[qEK]at hH
 refine go ?_
 refine AW.cH hH (fun _ hH=>?_) (fun _ hH=>?_)
 refine go ?_
 obtain⟨u53,hx54,u55,hx56,hH⟩:=qAH hH
 refine AW.drawn 5 27 [] mix (by kernel_rfl) rfl ?_
 refine go ?_
 refine AD.q (FStep.make T rfl rfl rfl rfl rfl rfl rfl (f:=ze0) (zo:=0) (by repeat constructor) (by decide) rfl rfl (Bool.and_eq_true_iff.1 (qAP (hx54))).1 (Bool.and_eq_true_iff.1 (qAP (hx54))).2 rfl) (by simp[qA1]) (Nat.le_succ _) rfl ?_
 refine AD.kk (FStep.mk_o T rfl rfl rfl rfl rfl rfl rfl rfl (f:=ze1) (l:=[(List.replicate judges.toNat (0:Int))]) (ids:=[27]) rfl rfl (fun _=>rfl) (by exact zC (.rowR rfl) (zCn)) (by decide) rfl rfl rfl rfl) ?_
 refine AD.nil (AO.x (qEe T rfl 29 rfl rfl rfl rfl rfl (by decide) rfl rfl rfl rfl rfl (qAP (hx56)) rfl rfl) ?_)
 refine AO.pu T ?_
 refine AO.se T [.R 8,.R 29] ?_
 refine go ?_
 refine⟨(k39,(v50++[(List.replicate judges.toNat (0:Int))]),w64 (v51+1)),hH,Nat.lt_succ_self _,?_⟩
 exact Le.ct 29 26
 refine go ?_
 refine AO.se T [.R 8,.R 26] ?_
 refine go ?_
 exact fin
def qII (fl:Nat):Option CsState :=
 (qDI fl 0 3).bind fun x1 =>
 some (CsState.mk (Code.mk [(Element.mk (⟨#[51,65]⟩:aa) 0 0 800)] ([7,7,7,7,7]:ac) 2 10 80 100) (Performance.mk [] x1 (Slips.mk 0 0 0)) 100 [] [] [] 0)
theorem qPn (fl:Nat) (r:CsState) (hH:qII fl=some r):qAC prog 73 [] (.pn (qGH r)):=by
 refine fns T func73 ?_
 refine go ?_
 refine AO.x (bxs T 1) (go ?_)
 refine AO.x (mks T 2 ze7 ([(Element.mk (⟨#[51,65]⟩:aa) 0 0 800)])) ?_
 refine AO.x (mks T 3 ze0 (([7,7,7,7,7]:ac))) (go ?_)
 refine AO.se T [.R 2,.R 3,(2:Int),(10:Int),(80:Int),(100:Int),.w 0 [],.w 0 [],.w 0 [],(0:Int),(0:Int),(0:Int),(100:Int),.w 0 [],.w 0 [],.w 0 [],(0:Int)] ?_
 refine go ?_
 obtain⟨x1,hx2,hH⟩:=zB hH
 refine go ?_
 refine AO.x (qAV rfl 4 rfl rfl rfl (qI8 fl _ _ _ (hx2)) rfl rfl rfl) (go ?_)
 refine AO.se T [.R 2,.R 3,(2:Int),(10:Int),(80:Int),(100:Int),.w 0 [],.R 4,.R 5,(0:Int),(0:Int),(0:Int),(100:Int),.w 0 [],.w 0 [],.w 0 [],(0:Int)] ?_
 refine gs6 ?_
 refine AW.le (Le.nilSBox 1 6 rfl rfl) ?_
 refine AW.le (Le.nilSBox 1 13 rfl rfl) ?_
 refine AW.le (Le.fM 5 (g:=ze5) rfl (fun y=>qAR y)) ?_
 refine AW.le (Le.fM 4 (g:=ze5) rfl (fun y=>qAR y)) ?_
 refine AW.le (Le.fM 3 (g:=ze0) rfl (fun y=>.vs rfl)) ?_
 refine AW.le (Le.fM 2 (g:=ze7) rfl (fun y=>.vs rfl)) ?_
 refine AW.t ?_
 have hR:=zS hH;subst hR
 exact retQ.i [1] rfl (.c (.pb rfl (zC .s (zC .s (zC .v (zC .v (zC .v (zC .v (zC .s (zC .s (zC .s (zC .v (zC .v (zC .v (zC .v (zC .s (zC .nil (zC .nil (zC .v (zCn))))))))))))))))))))
def qDi (sA:aa) (b:Int):Nat->List aa->Int->Int->Option ((List aa))
 |0,_,_,_=>none
 |k1+1,v17,v18,v19 =>
  cond (decide (v19<(sA.size:Int)))
   ((qOD sA v19).bind fun b21 =>
   cond ((b21.toNat:Int)==b)
    ((qAq (inB v18 v19 sA.size)).bind fun u23 =>
    (qAq (qAi 16 (v17.length+([(ByteArray.extract sA v18.toNat v19.toNat)]).length))).bind fun u25 =>
    qDi sA b k1 (v17++[(ByteArray.extract sA v18.toNat v19.toNat)]) (w64 (v19+1)) (w64 (v19+1)))
    (qDi sA b k1 v17 v18 (w64 (v19+1))))
   ((qAq (inB v18 sA.size sA.size)).bind fun u27 =>
   (qAq (qAi 16 (v17.length+([(ByteArray.extract sA v18.toNat sA.size)]).length))).bind fun u29 =>
   some (v17++[(ByteArray.extract sA v18.toNat sA.size)]))
def qA2 (fl:Nat) (sA:aa) (b:Int):Option (List aa) :=
 qDi sA b fl [] 0 0
theorem qHZ (fl:Nat) (sA:aa) (b:Int) (r:(List aa)) (hH:qA2 fl sA b=some r):qAC prog 92 [.v (.string sA),.v (.int .u8 b)] (.w 1 (r.map ze2)):=by
 refine fns T func92 ?_
 refine go ?_
 refine AW.loopS (fun s:Nat×(List aa)×Int×Int=>(⟨[(0,.v (.string sA)),(1,.v (.int .u8 b)),(5,.R 4),(6,s.2.2.1),(7,s.2.2.2)],[(4,ro 1 ze2 s.2.1)],34,[]⟩:St)) (fun s=>qDi sA b s.1 s.2.1 s.2.2.1 s.2.2.2=some r) (fun s=>s.1) (fl,[],0,0) hH ?_ ?_
 refine Le.trans (Le.void 5 4 1 rfl rfl) ?_
 exact Le.ct 0 0
 rintro⟨k1,v17,v18,v19⟩ hH
 try dsimp only at hH⊢
 rcases k1 with _|k1
 cases (show none=some _ from hH)
 rw[qDi]at hH
 refine go ?_
 refine AW.cH hH (fun hc hH=>?_) (fun _ hH=>?_)
 refine go ?_
 obtain⟨b21,hx22,hH⟩:=zB hH
 refine go ?_
 refine AO.w (qBM T rfl rfl rfl rfl (hx22)) (go ?_)
 refine AW.cH hH (fun _ hH=>?_) (fun hc hH=>?_)
 refine AW.q ?_
 obtain⟨u23,hx24,u25,hx26,hH⟩:=qAH hH
 refine go ?_
 refine AO.w (qRk T rfl rfl rfl rfl rfl (qAP (hx24))) ?_
 refine AO.x (mks T 5 ze2 ([(ByteArray.extract sA v18.toNat v19.toNat)])) ?_
 refine AO.x (rvs T 6 (hfit:=by exact qAP (hx26))) (go ?_)
 refine⟨(k1,(v17++[(ByteArray.extract sA v18.toNat v19.toNat)]),w64 (v19+1),w64 (v19+1)),hH,Nat.lt_succ_self _,?_⟩
 exact Le.ct 6 4
 refine go ?_
 refine⟨(k1,v17,v18,w64 (v19+1)),hH,Nat.lt_succ_self _,?_⟩
 exact Le.ct 0 0
 refine go ?_
 obtain⟨u27,hx28,u29,hx30,hH⟩:=qAH hH
 refine go ?_
 refine AO.w (qFS T rfl rfl rfl rfl (qAP (hx28))) ?_
 refine AO.x (mks T 7 ze2 ([(ByteArray.extract sA v18.toNat sA.size)])) ?_
 refine AO.x (rvs T 8 (hfit:=by exact qAP (hx30))) (go ?_)
 exact fin
def qFu (fl:Nat) (script:aa):Option ((List aa)×Bool) :=
 (opt ((!(decide ((script.size:Int)>2000)))&&(!decide (script=(⟨#[]⟩:aa)))) default (qOD script (w64 ((script.size:Int)-1)))).bind fun b1 =>
 cond (decide ((script.size:Int)>2000)||((!decide (script=(⟨#[]⟩:aa)))&&((b1.toNat:Int) != 10)))
  (some ([],false))
  ((qA2 fl script 10).bind fun x4 =>
  (qFw x4 (w64 ((x4.length:Int)-1))).bind fun x6 =>
  some (x6,decide ((x6.length:Int)<=40)))
theorem qPG (fl:Nat) (script:aa) (r:((List aa)×Bool)) (hH:qFu fl script=some r):qAC prog 67 [.v (.string script)] (.t [.s (r.1.map ze2),.v (.bool r.2)]):=by
 refine fns T func67 ?_
 refine gs7 ?_
 obtain⟨b1,hx2,hH⟩:=zB hH
 refine gs5 ?_
 refine AO.g0 T ?_
 refine AO.g1 T 9 ?_
 refine AO.g1 T 10 ?_
 refine AO.g0 T ?_
 refine AO.g0 T ?_
 refine AO.g1 T 13 ?_
 refine AO.d1 14 (fun hg=>aws) ?_
 refine AO.d2 12 15 (fun hg=>qBM T rfl rfl rfl rfl (qE9 hx2 hg)) ?_
 refine AO.g1 T 16 ?_
 refine AO.d [11] rfl ⟨fun h=>h,trivial⟩ (fun hg=>zN rfl rfl rfl (by rw[hg];exact Bool.true_and _)) rfl ?_
 refine gs2 ?_
 refine AW.cH hH (fun _ hH=>?_) (fun _ hH=>?_)
 refine gs6 ?_
 exact fin
 refine gs2 ?_
 obtain⟨x4,hx5,hH⟩:=zB hH
 refine gs2 ?_
 refine AO.x (qAV rfl 1 rfl rfl rfl (qHZ fl _ _ _ (hx5)) rfl rfl rfl) ?_
 refine gs3 ?_
 obtain⟨x6,hx7,hH⟩:=zB hH
 refine AW.le (Le.fM 1 (g:=ze2) rfl (fun y=>.vs rfl)) ?_
 refine gs5 ?_
 refine AO.w (qEL T rfl rfl rfl rfl rfl (hx7) (fun _=>rfl)) ?_
 refine gs2 ?_
 refine AW.le (Le.ct 0 0 (σ':=(⟨[(4,sv ze2 x6)],[],31,[]⟩:St))) ?_
 iterate 10 refine gs ?_
 exact fin
def qKl (l:List aa):Option (List aa) :=
 (qAq (qAi 16 l.length)).bind fun u1 =>
 some l
theorem qQD (l:List aa) (r:(List aa)) (hH:qKl l=some r):qAC prog 124 [.s (List.map ze2 l)] (.w 1 (r.map ze2)):=by
 refine fns T func124 ?_
 refine gs5 ?_
 obtain⟨u1,hx2,hH⟩:=zB hH
 refine AW.r (AO.x (qGV T rfl rfl rfl rfl) ?_)
 refine AO.pu T ?_
 refine AO.x (qLp T rfl 1 rfl rfl rfl rfl rfl (by decide) (by decide) rfl rfl (fun _=>rfl) (qAP (hx2)) rfl rfl) ?_
 refine gs3 ?_
 exact fin
def qFO (l:ac):Option ac :=
 (qAq (qAi 8 l.length)).bind fun u1 =>
 some l
theorem qI0 (l:ac) (r:(ac)) (hH:qFO l=some r):qAC prog 49 [.s (List.map ze0 l)] (.w 1 (r.map ze0)):=by
 refine fns T func49 ?_
 refine gs5 ?_
 obtain⟨u1,hx2,hH⟩:=zB hH
 refine AW.r (AO.x (qGV T rfl rfl rfl rfl) ?_)
 refine AO.pu T ?_
 refine AO.x (qLp T rfl 1 rfl rfl rfl rfl rfl (by decide) (by decide) rfl rfl (fun _=>rfl) (qAP (hx2)) rfl rfl) ?_
 refine gs3 ?_
 exact fin
def qEk:List Item->Nat->List Item->Option ((List Item))
 | [],k1,v20 =>
  some v20
 |y2::ys3,k1,v20 =>
  (qKl y2.names).bind fun x22 =>
  (qFO y2.marks).bind fun x24 =>
  (qAq (qAi 56 (v20.length+([(Item.mk x22 x24 y2.late)]).length))).bind fun u26 =>
  qEk ys3 (k1+1) (v20++[(Item.mk x22 x24 y2.late)])
def qHJ (l:List Item):Option (List Item) :=
 qEk l 0 []
theorem qKf (l:List Item) (r:(List Item)) (hH:qHJ l=some r):qAC prog 80 [.s (List.map ze3 l)] (.w 3 (r.map ze6)):=by
 refine fns T func80 ?_
 iterate 16 refine gs ?_
 refine AW.loopS (fun s:Nat×(List Item)=>(⟨[(3,.R 10),(6,sv ze3 l),(7,(l.length:Int)),(8,(s.1:Int))],[(10,ro 3 ze6 s.2)],26,[]⟩:St)) (fun s=>s.1<=l.length/\qEk (l.drop s.1) s.1 s.2=some r) (fun s=>l.length-s.1) (0,[]) ⟨Nat.zero_le _,hH⟩ ?_ ?_
 refine Le.trans (Le.void 3 10 3 rfl rfl) ?_
 exact Le.ct 0 0
 rintro⟨k1,v20⟩ ⟨hk,hH⟩
 try dsimp only at hH⊢
 refine AW.boundM (t:=6) (l:=l) rfl (fun hb5=>?_)
 rcases hd4:l.drop k1 with _|⟨y2,ys3⟩
 rw[hd4,qEk]at hH
 have hlt6:=qAF hd4
 iterate 13 refine gs ?_
 exact fin
 rw[hd4,qEk]at hH
 have hlt6:=qAG hd4
 iterate 13 refine gs ?_
 refine AO.x (als T 11) ?_
 refine AO.se T [sv ze2 y2.names,sv ze0 y2.marks,.v (.bool y2.late)] ?_
 refine AO.n ?_
 obtain⟨x22,hx23,x24,hx25,u26,hx27,hH⟩:=qBC hH
 refine AW.drawn 11 12 [] mix (by kernel_rfl) rfl ?_
 refine gs3 ?_
 refine AD.q (FStep.call rfl rfl rfl rfl rfl (qQD _ _ (hx23)) rfl rfl) (qAu _ _) (qC5 _ _) rfl ?_
 refine gs2 ?_
 refine AD.q (FStep.call rfl rfl rfl rfl rfl (qI0 _ _ (hx25)) rfl rfl) (qAu _ _) (qC5 _ _) rfl ?_
 refine gs2 ?_
 refine AD.pured T (d:=.g [.R 12,.R 13,.v (.bool y2.late)]) rfl rfl rfl rfl ?_
 refine AD.kk (FStep.mk_o T rfl rfl rfl rfl rfl rfl rfl rfl (f:=ze6) (l:=[(Item.mk x22 x24 y2.late)]) (ids:=[12,13]) rfl rfl (fun _=>rfl) (by exact zC (.rowR rfl) (zC (.rowR rfl) (zC .v (zCn)))) (by decide) rfl rfl rfl rfl) ?_
 refine AD.nil (AO.x (qEe T rfl 15 rfl rfl rfl rfl rfl (by decide) rfl rfl rfl rfl rfl (qAP (hx27)) rfl rfl) ?_)
 refine gs6 ?_
 refine⟨(k1+1,(v20++[(Item.mk x22 x24 y2.late)])),⟨hlt6,(zds hd4▸hH)⟩,qBl hlt6,?_⟩
 exact Le.ct 15 10
def qE2 (l:List Item) (x1:(List Item)):Nat->List Item->Int->Option ((List Item))
 |0,_,_=>none
 |k3+1,v10,v11 =>
  cond (decide (v11<(x1.length:Int)))
   ((qAT v10 v11).bind fun x13 =>
   qE2 l x1 k3 (v10.set v11.toNat (Item.mk x13.names x13.marks (decide ((w64 (2*v11))>=(l.length:Int))))) (w64 (v11+1)))
   (some v10)
def qHt (fl:Nat) (l:List Item):Option (List Item) :=
 (qHJ l).bind fun x1 =>
 qE2 l x1 fl x1 0
theorem qPu (fl:Nat) (l:List Item) (r:(List Item)) (hH:qHt fl l=some r):qAC prog 128 [.s (List.map ze3 l)] (.w 3 (r.map ze6)):=by
 refine fns T func128 ?_
 refine go ?_
 obtain⟨x1,hx2,hH⟩:=zB hH
 refine go ?_
 refine AO.x (qAV rfl 1 rfl rfl rfl (qKf _ _ (hx2)) rfl rfl rfl) (go ?_)
 refine AW.loopS (fun s:Nat×(List Item)×Int=>(⟨[(0,sv ze3 l),(3,.R 1),(8,(x1.length:Int)),(9,s.2.2)],[(1,ro 3 ze6 s.2.1)],23,[]⟩:St)) (fun s=>qE2 l x1 s.1 s.2.1 s.2.2=some r) (fun s=>s.1) (fl,x1,0) hH ?_ ?_
 exact Le.ct 0 0
 rintro⟨k3,v10,v11⟩ hH
 try dsimp only at hH⊢
 rcases k3 with _|k3
 cases (show none=some _ from hH)
 rw[qE2]at hH
 refine go ?_
 refine AW.cH hH (fun _ hH=>?_) (fun _ hH=>?_)
 refine go ?_
 obtain⟨x13,hx14,hH⟩:=zB hH
 refine go ?_
 refine AO.x (zSr T rfl rfl rfl rfl rfl (zgG (hx14)) rfl rfl rfl rfl (u':=(Item.mk x13.names x13.marks (decide ((w64 (2*v11))>=(l.length:Int))))) rfl rfl) (go ?_)
 refine⟨(k3,(v10.set v11.toNat (Item.mk x13.names x13.marks (decide ((w64 (2*v11))>=(l.length:Int))))),w64 (v11+1)),hH,Nat.lt_succ_self _,?_⟩
 exact Le.ct 0 0
 refine go ?_
 exact fin
def qAa (n:Int) (lo:Int) (hi:Int):ad :=
 some (decide (n>=lo)&&decide (n<=hi))
theorem qAc (n:Int) (lo:Int) (hi:Int) (r:Bool) (hH:qAa n lo hi=some r):qAC prog 206 [n,lo,hi] (.v (.bool r)):=by
 refine fns T func206 ?_
 refine go ?_
 refine AO.g0 T ?_
 refine AO.g0 T ?_
 refine AO.g2 T 11 12 ?_
 refine go ?_
 exact fin
def qCo (lo:Int) (hi:Int):ac->Nat->ad
 | [],k1 =>
  some true
 |y2::ys3,k1 =>
  (qAa y2 lo hi).bind fun x12 =>
  cond (!x12)
   (some false)
   (qCo lo hi ys3 (k1+1))
def qCz (l:ac) (lo:Int) (hi:Int):ad :=
 qCo lo hi l 0
theorem qHr (l:ac) (lo:Int) (hi:Int) (r:Bool) (hH:qCz l lo hi=some r):qAC prog 262 [.s (List.map ze0 l),lo,hi] (.v (.bool r)):=by
 refine fns T func262 ?_
 refine go ?_
 refine AW.loopS (fun s:Nat=>(⟨[(1,lo),(2,hi),(9,sv ze0 l),(10,(l.length:Int)),(11,(s:Int))],[],21,[]⟩:St)) (fun s=>s<=l.length/\qCo lo hi (l.drop s) s=some r) (fun s=>l.length-s) 0 ⟨Nat.zero_le _,hH⟩ ?_ ?_
 exact Le.ct 0 0
 rintro k1 ⟨hk,hH⟩
 try dsimp only at hH⊢
 refine AW.boundM (t:=9) (l:=l) rfl (fun hb5=>?_)
 rcases hd4:l.drop k1 with _|⟨y2,ys3⟩
 rw[hd4,qCo]at hH
 have hlt6:=qAF hd4
 refine go ?_
 exact fin
 rw[hd4,qCo]at hH
 have hlt6:=qAG hd4
 refine go ?_
 obtain⟨x12,hx13,hH⟩:=zB hH
 refine go ?_
 refine AO.w (cVs (qAc _ _ _ _ (hx13))) (go ?_)
 refine AW.cH hH (fun _ hH=>?_) (fun _ hH=>?_)
 refine go ?_
 exact fin
 refine go ?_
 refine⟨k1+1,⟨hlt6,(zds hd4▸hH)⟩,qBl hlt6,?_⟩
 exact Le.ct 0 0
def qCm:List Item->Nat->ad
 | [],k1 =>
  some true
 |y2::ys3,k1 =>
  (qCz y2.marks 0 0).bind fun x12 =>
  cond (!x12)
   (some false)
   (qCm ys3 (k1+1))
def qMS (l:List Item):ad :=
 qCm l 0
theorem qPI (l:List Item) (r:Bool) (hH:qMS l=some r):qAC prog 248 [.s (List.map ze3 l)] (.v (.bool r)):=by
 refine fns T func248 ?_
 refine go ?_
 refine AW.loopS (fun s:Nat=>(⟨[(5,sv ze3 l),(6,(l.length:Int)),(7,(s:Int))],[],16,[]⟩:St)) (fun s=>s<=l.length/\qCm (l.drop s) s=some r) (fun s=>l.length-s) 0 ⟨Nat.zero_le _,hH⟩ ?_ ?_
 exact Le.ct 0 0
 rintro k1 ⟨hk,hH⟩
 try dsimp only at hH⊢
 refine AW.boundM (t:=5) (l:=l) rfl (fun hb5=>?_)
 rcases hd4:l.drop k1 with _|⟨y2,ys3⟩
 rw[hd4,qCm]at hH
 have hlt6:=qAF hd4
 refine go ?_
 exact fin
 rw[hd4,qCm]at hH
 have hlt6:=qAG hd4
 refine go ?_
 refine AO.x (als T 3) ?_
 refine AO.se T [sv ze2 y2.names,sv ze0 y2.marks,.v (.bool y2.late)] ?_
 refine go ?_
 obtain⟨x12,hx13,hH⟩:=zB hH
 refine go ?_
 refine AO.w (cVs (qHr _ _ _ _ (hx13))) (go ?_)
 refine AW.cH hH (fun _ hH=>?_) (fun _ hH=>?_)
 refine go ?_
 exact fin
 refine go ?_
 refine⟨k1+1,⟨hlt6,(zds hd4▸hH)⟩,qBl hlt6,?_⟩
 exact Le.ct 0 0
def qAw:List Item->Nat->Int->Int->Option ((Int×Int))
 | [],k1,v9,v10 =>
  some (v9,v10)
 |y2::ys3,k1,v9,v10 =>
  cond (decide ((y2.names.length:Int)>1))
   (cond (decide ((y2.names.length:Int)>2))
    (qAw ys3 (k1+1) (w64 (v9+1)) (w64 (v10+1)))
    (qAw ys3 (k1+1) (w64 (v9+1)) v10))
   (cond (decide ((y2.names.length:Int)>2))
    (qAw ys3 (k1+1) v9 (w64 (v10+1)))
    (qAw ys3 (k1+1) v9 v10))
def qJ5 (l:List Item):Option (Int×Int) :=
 qAw l 0 0 0
theorem qMz (l:List Item) (r:(Int×Int)) (hH:qJ5 l=some r):qAC prog 249 [.s (List.map ze3 l)] (.t [.v (.int .i64 r.1),.v (.int .i64 r.2)]):=by
 refine fns T func249 ?_
 refine go ?_
 refine AW.loopS (fun s:Nat×Int×Int=>(⟨[(4,s.2.1),(5,s.2.2),(8,sv ze3 l),(9,(l.length:Int)),(10,(s.1:Int))],[],29,[]⟩:St)) (fun s=>s.1<=l.length/\qAw (l.drop s.1) s.1 s.2.1 s.2.2=some r) (fun s=>l.length-s.1) (0,0,0) ⟨Nat.zero_le _,hH⟩ ?_ ?_
 exact Le.ct 0 0
 rintro⟨k1,v9,v10⟩ ⟨hk,hH⟩
 try dsimp only at hH⊢
 refine AW.boundM (t:=8) (l:=l) rfl (fun hb5=>?_)
 rcases hd4:l.drop k1 with _|⟨y2,ys3⟩
 rw[hd4,qAw]at hH
 have hlt6:=qAF hd4
 refine go ?_
 exact fin
 rw[hd4,qAw]at hH
 have hlt6:=qAG hd4
 refine go ?_
 refine AO.x (als T 3) ?_
 refine AO.se T [sv ze2 y2.names,sv ze0 y2.marks,.v (.bool y2.late)] ?_
 refine go ?_
 refine AW.cH hH (fun hc hH=>?_) (fun hc hH=>?_)
 refine go ?_
 refine AW.cH hH (fun _ hH=>?_) (fun hc hH=>?_)
 refine go ?_
 refine⟨(k1+1,w64 (v9+1),w64 (v10+1)),⟨hlt6,(zds hd4▸hH)⟩,qBl hlt6,?_⟩
 exact Le.ct 0 0
 refine go ?_
 refine⟨(k1+1,w64 (v9+1),v10),⟨hlt6,(zds hd4▸hH)⟩,qBl hlt6,?_⟩
 exact Le.ct 0 0
 refine go ?_
 refine AW.cH hH (fun _ hH=>?_) (fun _ hH=>?_)
 refine go ?_
 refine⟨(k1+1,v9,w64 (v10+1)),⟨hlt6,(zds hd4▸hH)⟩,qBl hlt6,?_⟩
 exact Le.ct 0 0
 refine go ?_
 refine⟨(k1+1,v9,v10),⟨hlt6,(zds hd4▸hH)⟩,qBl hlt6,?_⟩
 exact Le.ct 0 0
def qD7 (name:aa):List Element->Nat->Option Int
 | [],k1 =>
  some (-1)
 |y2::ys3,k1 =>
  cond (decide (y2.name=name))
   (some (k1:Int))
   (qD7 name ys3 (k1+1))
def qGT (c:Code) (name:aa):Option Int :=
 qD7 name c.elements 0
theorem qIC (c:Code) (name:aa) (r:Int) (hH:qGT c name=some r):qAC prog 337 [.g (ze4 c),.v (.string name)] (.v (.int .i64 r)):=by
 refine fns T func337 ?_
 refine go ?_
 refine AO.x (bxs T 1) (go ?_)
 refine AW.loopS (fun s:Nat=>(⟨[(1,.v (.string name)),(8,sv ze7 c.elements),(9,(c.elements.length:Int)),(10,(s:Int))],[],21,[]⟩:St)) (fun s=>s<=c.elements.length/\qD7 name (c.elements.drop s) s=some r) (fun s=>c.elements.length-s) 0 ⟨Nat.zero_le _,hH⟩ ?_ ?_
 exact Le.ct 0 0
 rintro k1 ⟨hk,hH⟩
 try dsimp only at hH⊢
 refine AW.boundM (t:=8) (l:=c.elements) rfl (fun hb5=>?_)
 rcases hd4:c.elements.drop k1 with _|⟨y2,ys3⟩
 rw[hd4,qD7]at hH
 have hlt6:=qAF hd4
 refine go ?_
 exact fin
 rw[hd4,qD7]at hH
 have hlt6:=qAG hd4
 refine go ?_
 refine AO.x (als T 4) ?_
 refine AO.pu T ?_
 refine AO.se T [.v (.string y2.name),y2.family,y2.level,y2.base] ?_
 refine go ?_
 refine AW.cH hH (fun _ hH=>?_) (fun _ hH=>?_)
 refine go ?_
 exact fin
 refine go ?_
 refine⟨k1+1,⟨hlt6,(zds hd4▸hH)⟩,qBl hlt6,?_⟩
 exact Le.ct 0 0
def qHo (c:Code) (it:Item):Option Int :=
 (qAT it.names 0).bind fun x1 =>
 (qGT c x1).bind fun x3 =>
 cond (decide (x3<0))
  (some (-1))
  ((qAT c.elements x3).bind fun x5 =>
  some x5.family)
theorem qOR (c:Code) (it:Item) (r:Int) (hH:qHo c it=some r):qAC prog 301 [.g (ze4 c),.g (ze3 it)] (.v (.int .i64 r)):=by
 refine fns T func301 ?_
 refine go ?_
 refine AO.x (bxs T 1) ?_
 refine AO.x (bxs T 2) (go ?_)
 obtain⟨x1,hx2,x3,hx4,hH⟩:=qAH hH
 refine AW.drawn 5 3 [] mix (by kernel_rfl) rfl ?_
 refine go ?_
 refine AO.w (cVs (qIC _ _ _ (hx4))) (go ?_)
 refine AW.cH hH (fun _ hH=>?_) (fun _ hH=>?_)
 refine go ?_
 exact fin
 refine go ?_
 obtain⟨x5,hx6,hH⟩:=zB hH
 refine go ?_
 exact fin
def qBh (c:Code):List Item->Nat->ac->Option ((ac))
 | [],k3,v18 =>
  some v18
 |y4::ys5,k3,v18 =>
  (qHo c y4).bind fun x20 =>
  cond (decide (x20>=0))
   ((qAT v18 x20).bind fun x22 =>
   qBh c ys5 (k3+1) (v18.set x20.toNat (w64 (x22+1))))
   (qBh c ys5 (k3+1) v18)
def qLe (c:Code) (l:List Item):Option ac :=
 (qAq (decide (0<=5)&&qAi 8 (5:Int).toNat)).bind fun u1 =>
 qBh c l 0 (List.replicate (5:Int).toNat (0:Int))
theorem qOd (c:Code) (l:List Item) (r:(ac)) (hH:qLe c l=some r):qAC prog 250 [.g (ze4 c),.s (List.map ze3 l)] (.w 1 (r.map ze0)):=by
 refine fns T func250 ?_
 refine gs2 ?_
 refine AO.x (bxs T 1) ?_
 refine gs3 ?_
 obtain⟨u1,hx2,hH⟩:=zB hH
 refine AW.r (AO.x (qMq T rfl 2 rfl rfl rfl rfl rfl (f:=ze0) (zo:=0) (by repeat constructor) (by decide) rfl rfl (Bool.and_eq_true_iff.1 (qAP (hx2))).1 (Bool.and_eq_true_iff.1 (qAP (hx2))).2 rfl rfl) ?_)
 iterate 10 refine gs ?_
 refine AW.loopS (fun s:Nat×(ac)=>(⟨[(2,.p 1 0),(5,.R 2),(10,sv ze3 l),(11,(l.length:Int)),(12,(s.1:Int))],[(1,.box (ze4 c)),(2,ro 1 ze0 s.2)],29,[]⟩:St)) (fun s=>s.1<=l.length/\qBh c (l.drop s.1) s.1 s.2=some r) (fun s=>l.length-s.1) (0,(List.replicate (5:Int).toNat (0:Int))) ⟨Nat.zero_le _,hH⟩ ?_ ?_
 exact Le.ct 0 0
 rintro⟨k3,v18⟩ ⟨hk,hH⟩
 try dsimp only at hH⊢
 refine AW.boundM (t:=10) (l:=l) rfl (fun hb7=>?_)
 rcases hd6:l.drop k3 with _|⟨y4,ys5⟩
 rw[hd6,qBh]at hH
 have hlt8:=qAF hd6
 iterate 13 refine gs ?_
 exact fin
 rw[hd6,qBh]at hH
 have hlt8:=qAG hd6
 iterate 13 refine gs ?_
 refine AO.x (als T 5) ?_
 refine AO.se T [sv ze2 y4.names,sv ze0 y4.marks,.v (.bool y4.late)] ?_
 refine gs2 ?_
 obtain⟨x20,hx21,hH⟩:=zB hH
 refine gs3 ?_
 refine AO.w (cVs (qOR _ _ _ (hx21))) ?_
 refine gs7 ?_
 refine AW.cH hH (fun _ hH=>?_) (fun _ hH=>?_)
 obtain⟨x22,hx23,hH⟩:=zB hH
 refine gs4 ?_
 refine AO.w (zLr T rfl rfl rfl rfl (zgG (hx23)) rfl rfl rfl) ?_
 refine gs2 ?_
 refine AO.x (zSr T rfl rfl rfl rfl rfl (zgG (hx23)) rfl rfl rfl rfl (u':=w64 (x22+1)) rfl rfl) ?_
 refine gs5 ?_
 refine⟨(k3+1,(v18.set x20.toNat (w64 (x22+1)))),⟨hlt8,(zds hd6▸hH)⟩,qBl hlt8,?_⟩
 exact Le.ct 0 0
 refine gs5 ?_
 refine⟨(k3+1,v18),⟨hlt8,(zds hd6▸hH)⟩,qBl hlt8,?_⟩
 exact Le.ct 0 0
def qDL (l:List Item):List Item->Nat->ad
 | [],k1 =>
  some true
 |y2::ys3,k1 =>
  cond (!(y2.late==decide ((w64 (2*(k1:Int)))>=(l.length:Int))))
   (some false)
   (qDL l ys3 (k1+1))
def qNO (l:List Item):ad :=
 qDL l l 0
theorem qPx (l:List Item) (r:Bool) (hH:qNO l=some r):qAC prog 251 [.s (List.map ze3 l)] (.v (.bool r)):=by
 refine fns T func251 ?_
 refine go ?_
 refine AW.loopS (fun s:Nat=>(⟨[(0,sv ze3 l),(5,sv ze3 l),(6,(l.length:Int)),(7,(s:Int))],[],21,[]⟩:St)) (fun s=>s<=l.length/\qDL l (l.drop s) s=some r) (fun s=>l.length-s) 0 ⟨Nat.zero_le _,hH⟩ ?_ ?_
 exact Le.ct 0 0
 rintro k1 ⟨hk,hH⟩
 try dsimp only at hH⊢
 refine AW.boundM (t:=0) (l:=l) rfl (fun hb5=>?_)
 rcases hd4:l.drop k1 with _|⟨y2,ys3⟩
 rw[hd4,qDL]at hH
 have hlt6:=qAF hd4
 refine go ?_
 exact fin
 rw[hd4,qDL]at hH
 have hlt6:=qAG hd4
 refine go ?_
 refine AO.x (als T 3) ?_
 refine AO.pu T ?_
 refine AO.se T [sv ze2 y2.names,sv ze0 y2.marks,.v (.bool y2.late)] ?_
 refine go ?_
 refine AW.cH hH (fun _ hH=>?_) (fun _ hH=>?_)
 refine go ?_
 exact fin
 refine go ?_
 refine⟨k1+1,⟨hlt6,(zds hd4▸hH)⟩,qBl hlt6,?_⟩
 exact Le.ct 0 0
def qBz (name:aa) (y2:Item):List aa->Nat->Int->Int->Option (Int×Int)
 | [],k74,v82,v83 =>
  some (v82,v83)
 |y75::ys76,k74,v82,v83 =>
  cond (decide (y75=name))
   (cond (decide ((y2.names.length:Int)>1))
    (qBz name y2 ys76 (k74+1) (w64 (v82+1)) (w64 (v83+1)))
    (qBz name y2 ys76 (k74+1) (w64 (v82+1)) v83))
   (qBz name y2 ys76 (k74+1) v82 v83)
def qDQ (name:aa):List Item->Nat->Int->Int->Option ((Int×Int))
 | [],k1,v57,v58 =>
  some (v57,v58)
 |y2::ys3,k1,v57,v58 =>
  (qBz name y2 y2.names 0 v57 v58).bind fun (v70,v71) =>
  qDQ name ys3 (k1+1) v70 v71
def qJp (l:List Item) (name:aa):Option (Int×Int) :=
 qDQ name l 0 0 0
theorem qPa (l:List Item) (name:aa) (r:(Int×Int)) (hH:qJp l name=some r):qAC prog 338 [.s (List.map ze3 l),.v (.string name)] (.t [.v (.int .i64 r.1),.v (.int .i64 r.2)]):=by
 refine fns T func338 ?_
 iterate 18 refine gs ?_
 refine AW.loopS (fun s:Nat×Int×Int=>(⟨[(1,.v (.string name)),(6,s.2.1),(7,s.2.2),(12,sv ze3 l),(13,(l.length:Int)),(14,(s.1:Int))],[],40,[]⟩:St)) (fun s=>s.1<=l.length/\qDQ name (l.drop s.1) s.1 s.2.1 s.2.2=some r) (fun s=>l.length-s.1) (0,0,0) ⟨Nat.zero_le _,hH⟩ ?_ ?_
 exact Le.ct 0 0
 rintro⟨k1,v57,v58⟩ ⟨hk,hH⟩
 try dsimp only at hH⊢
 refine AW.boundM (t:=12) (l:=l) rfl (fun hb5=>?_)
 rcases hd4:l.drop k1 with _|⟨y2,ys3⟩
 rw[hd4,qDQ]at hH
 have hlt6:=qAF hd4
 iterate 15 refine gs ?_
 exact fin
 rw[hd4,qDQ]at hH
 have hlt6:=qAG hd4
 refine gs7 ?_
 obtain⟨o72,hH,hK73⟩:=zB hH
 refine AW.seqJ (fun s:Int×Int=>(⟨[(1,.v (.string name)),(6,s.1),(7,s.2),(12,sv ze3 l),(13,(l.length:Int)),(14,(k1:Int))],[],40,[]⟩:St)) (fun s=>s=o72) ?_ ?_
 refine gs5 ?_
 refine AO.x (als T 6) ?_
 refine AO.se T [sv ze2 y2.names,sv ze0 y2.marks,.v (.bool y2.late)] ?_
 refine gs9 ?_
 refine AW.loopS (fun s:Nat×Int×Int=>(⟨[(1,.v (.string name)),(6,s.2.1),(7,s.2.2),(9,.p 6 0),(12,sv ze3 l),(13,(l.length:Int)),(14,(k1:Int)),(19,sv ze2 y2.names),(20,(y2.names.length:Int)),(21,(s.1:Int))],[(6,.box [sv ze2 y2.names,sv ze0 y2.marks,.v (.bool y2.late)])],40,[]⟩:St)) (fun s=>s.1<=y2.names.length/\qBz name y2 (y2.names.drop s.1) s.1 s.2.1 s.2.2=some o72) (fun s=>y2.names.length-s.1) (0,v57,v58) ⟨Nat.zero_le _,hH⟩ ?_ ?_
 exact Le.ct 0 0
 rintro⟨k74,v82,v83⟩ ⟨hk,hH⟩
 try dsimp only at hH⊢
 refine AW.boundM (t:=19) (l:=y2.names) rfl (fun hb78=>?_)
 rcases hd77:y2.names.drop k74 with _|⟨y75,ys76⟩
 rw[hd77,qBz]at hH
 have hlt79:=qAF hd77
 refine gs7 ?_
 refine⟨_,zS hH,?_⟩
 exact Le.ct 0 0
 rw[hd77,qBz]at hH
 have hlt79:=qAG hd77
 iterate 21 refine gs ?_
 refine AW.cH hH (fun hc hH=>?_) (fun _ hH=>?_)
 iterate 13 refine gs ?_
 refine AW.cH hH (fun _ hH=>?_) (fun hc hH=>?_)
 refine gs9 ?_
 refine⟨(k74+1,w64 (v82+1),w64 (v83+1)),⟨hlt79,(zds hd77▸hH)⟩,qBl hlt79,?_⟩
 exact Le.ct 0 0
 refine gs5 ?_
 refine⟨(k74+1,w64 (v82+1),v83),⟨hlt79,(zds hd77▸hH)⟩,qBl hlt79,?_⟩
 exact Le.ct 0 0
 refine gs5 ?_
 refine⟨(k74+1,v82,v83),⟨hlt79,(zds hd77▸hH)⟩,qBl hlt79,?_⟩
 exact Le.ct 0 0
 rintro⟨v70,v71⟩ hs
 subst hs
 replace hH:=hK73
 try dsimp only[qLW,qJg]at hH
 try dsimp only
 refine gs4 ?_
 refine⟨(k1+1,v70,v71),⟨hlt6,(zds hd4▸hH)⟩,qBl hlt6,?_⟩
 exact Le.ct 0 0
def qHM (c:Code) (l:List Item) (it:Item) (name:aa) (rule:Int):ad :=
 (qGT c name).bind fun x1 =>
 cond (rule==2)
  (some (decide (x1>=0)))
  (cond (rule==4)
   ((opt ((!((it.names.length:Int)==1))&&decide (x1>=0)) default (qAT c.elements x1)).bind fun x3 =>
   some (((it.names.length:Int)==1)||(decide (x1>=0)&&(x3.family==0))))
   ((qJp l name).bind fun x5 =>
   some (decide (x5.1<=c.repeats)&&((x5.1==1)||decide (x5.2>0)))))
theorem qPr (c:Code) (l:List Item) (it:Item) (name:aa) (rule:Int) (r:Bool) (hH:qHM c l it name rule=some r):qAC prog 302 [.g (ze4 c),.s (List.map ze3 l),.g (ze3 it),.v (.string name),rule] (.v (.bool r)):=by
 refine fns T func302 ?_
 refine go ?_
 refine AO.x (bxs T 1) ?_
 refine AO.x (bxs T 2) (go ?_)
 obtain⟨x1,hx2,hH⟩:=zB hH
 refine go ?_
 refine AO.w (cVs (qIC _ _ _ (hx2))) (go ?_)
 refine AW.cH hH (fun _ hH=>?_) (fun hc hH=>?_)
 refine go ?_
 exact fin
 refine go ?_
 refine AW.cH hH (fun _ hH=>?_) (fun _ hH=>?_)
 refine AW.q ?_
 obtain⟨x3,hx4,hH⟩:=zB hH
 refine go ?_
 refine AO.g0 T ?_
 refine AO.g1 T 29 ?_
 refine AO.g1 T 30 ?_
 refine AO.g0 T ?_
 refine AO.g1 T 32 ?_
 refine AO.g0 T ?_
 refine AO.d2 33 34 (fun hg=>ixs T (qE9 hx4 hg)) ?_
 refine AO.g1 T 35 ?_
 refine AO.g1 T 36 ?_
 refine AO.g1 T 37 ?_
 refine AO.d [31] rfl ⟨fun h=>h,trivial⟩ (fun hg=>zN rfl rfl rfl (by rw[hg];exact Bool.true_and _)) rfl ?_
 refine gs3 ?_
 refine AW.le (Le.ct 0 0 (σ':=(⟨[(10,.v (.bool (((it.names.length:Int)==1)||(decide (x1>=0)&&(x3.family==0)))))],[],59,[]⟩:St))) ?_
 refine AW.t ?_
 exact fin
 refine go ?_
 obtain⟨x5,hx6,hH⟩:=zB hH
 refine go ?_
 refine AO.w (cVs (qPa _ _ _ (hx6))) (go ?_)
 refine AO.g0 T ?_
 refine AO.g1 T 52 ?_
 refine AO.g1 T 53 ?_
 refine AO.g0 T ?_
 refine AO.g1 T 55 ?_
 refine AO.d [54] rfl ⟨fun h=>h,trivial⟩ (fun hg=>zO rfl rfl rfl (by rw[hg];exact Bool.true_and _)) rfl ?_
 refine gs3 ?_
 refine AW.le (Le.ct 0 0 (σ':=(⟨[(10,.v (.bool (decide (x5.1<=c.repeats)&&((x5.1==1)||decide (x5.2>0)))))],[],59,[]⟩:St))) ?_
 refine AW.t ?_
 exact fin
def qA5 (c:Code) (l:List Item) (rule:Int) (y2:Item):List aa->Nat->Option (Except Bool Unit)
 | [],k74 =>
  some (.ok ())
 |y75::ys76,k74 =>
  (qHM c l y2 y75 rule).bind fun x85 =>
  cond (!x85)
   (some (.error false))
   (qA5 c l rule y2 ys76 (k74+1))
def qAl (c:Code) (l:List Item) (rule:Int):List Item->Nat->ad
 | [],k1 =>
  some true
 |y2::ys3,k1 =>
  (qA5 c l rule y2 y2.names 0).bind fun o72=>qLW o72 fun _ =>
  qAl c l rule ys3 (k1+1)
def qMO (c:Code) (l:List Item) (rule:Int):ad :=
 qAl c l rule l 0
theorem qPR (c:Code) (l:List Item) (rule:Int) (r:Bool) (hH:qMO c l rule=some r):qAC prog 252 [.g (ze4 c),.s (List.map ze3 l),rule] (.v (.bool r)):=by
 refine fns T func252 ?_
 refine gs2 ?_
 refine AO.x (bxs T 1) ?_
 iterate 10 refine gs ?_
 refine AW.loopS (fun s:Nat=>(⟨[(1,sv ze3 l),(2,rule),(3,.p 1 0),(11,sv ze3 l),(12,(l.length:Int)),(13,(s:Int))],[(1,.box (ze4 c))],33,[]⟩:St)) (fun s=>s<=l.length/\qAl c l rule (l.drop s) s=some r) (fun s=>l.length-s) 0 ⟨Nat.zero_le _,hH⟩ ?_ ?_
 exact Le.ct 0 0
 rintro k1 ⟨hk,hH⟩
 try dsimp only at hH⊢
 refine AW.boundM (t:=1) (l:=l) rfl (fun hb5=>?_)
 rcases hd4:l.drop k1 with _|⟨y2,ys3⟩
 rw[hd4,qAl]at hH
 have hlt6:=qAF hd4
 iterate 12 refine gs ?_
 exact fin
 rw[hd4,qAl]at hH
 have hlt6:=qAG hd4
 refine gs7 ?_
 obtain⟨o72,hH,hK73⟩:=zB hH
 refine AW.seqJ (fun s:Unit=>(⟨[(1,sv ze3 l),(2,rule),(3,.p 1 0),(11,sv ze3 l),(12,(l.length:Int)),(13,(k1:Int))],[(1,.box (ze4 c))],33,[]⟩:St)) (fun s=>.ok s=o72) ?_ ?_
 refine gs5 ?_
 refine AO.x (als T 7) ?_
 refine AO.se T [sv ze2 y2.names,sv ze0 y2.marks,.v (.bool y2.late)] ?_
 refine gs9 ?_
 refine AW.loopS (fun s:Nat=>(⟨[(1,sv ze3 l),(2,rule),(3,.p 1 0),(8,.p 7 0),(11,sv ze3 l),(12,(l.length:Int)),(13,(k1:Int)),(18,sv ze2 y2.names),(19,(y2.names.length:Int)),(20,(s:Int))],[(1,.box (ze4 c)),(7,.box [sv ze2 y2.names,sv ze0 y2.marks,.v (.bool y2.late)])],33,[]⟩:St)) (fun s=>s<=y2.names.length/\qA5 c l rule y2 (y2.names.drop s) s=some o72) (fun s=>y2.names.length-s) 0 ⟨Nat.zero_le _,hH⟩ ?_ ?_
 exact Le.ct 0 0
 rintro k74 ⟨hk,hH⟩
 try dsimp only at hH⊢
 refine AW.boundM (t:=18) (l:=y2.names) rfl (fun hb78=>?_)
 rcases hd77:y2.names.drop k74 with _|⟨y75,ys76⟩
 rw[hd77,qA5]at hH
 have hlt79:=qAF hd77
 refine gs7 ?_
 refine⟨_,zS hH,?_⟩
 exact Le.ct 0 0
 rw[hd77,qA5]at hH
 have hlt79:=qAG hd77
 iterate 16 refine gs ?_
 obtain⟨x85,hx86,hH⟩:=zB hH
 refine gs6 ?_
 refine AO.w (cVs (qPr _ _ _ _ _ _ (hx86))) ?_
 refine gs2 ?_
 refine AW.cH hH (fun _ hH=>?_) (fun _ hH=>?_)
 refine gs5 ?_
 obtain rfl:=zS hH
 replace hH:=hK73
 exact fin
 refine gs5 ?_
 refine⟨k74+1,⟨hlt79,(zds hd77▸hH)⟩,qBl hlt79,?_⟩
 exact Le.ct 0 0
 rintro _ hs
 subst hs
 replace hH:=hK73
 try dsimp only[qLW,qJg]at hH
 try dsimp only
 refine gs4 ?_
 refine⟨k1+1,⟨hlt6,(zds hd4▸hH)⟩,qBl hlt6,?_⟩
 exact Le.ct 0 0
def qCn (c:Code):ac->Nat->ad
 | [],k7 =>
  some true
 |y8::ys9,k7 =>
  (qAT c.limits (k7:Int)).bind fun x18 =>
  cond (decide (y8>x18))
   (some false)
   (qCn c ys9 (k7+1))
def qJt (c:Code) (l:List Item) (rule:Int):ad :=
 cond (rule==1)
  (some (decide ((l.length:Int)>0)))
  (cond (rule==3)
   ((qMS l).bind fun x1 =>
   some x1)
   (cond (rule==5)
    ((qJ5 l).bind fun x3 =>
    some (decide (x3.1<=3)&&decide (x3.2<=1)))
    (cond (rule==6)
     ((qLe c l).bind fun x5 =>
     qCn c x5 0)
     (cond (rule==8)
      ((qNO l).bind fun x20 =>
      some x20)
      ((qMO c l rule).bind fun x22 =>
      some x22)))))
theorem qPf (c:Code) (l:List Item) (rule:Int) (r:Bool) (hH:qJt c l rule=some r):qAC prog 186 [.g (ze4 c),.s (List.map ze3 l),rule] (.v (.bool r)):=by
 refine fns T func186 ?_
 refine go ?_
 refine AO.x (bxs T 1) (go ?_)
 refine AW.cH hH (fun _ hH=>?_) (fun hc hH=>?_)
 refine go ?_
 exact fin
 refine go ?_
 refine AW.cH hH (fun _ hH=>?_) (fun hc hH=>?_)
 refine AW.q ?_
 obtain⟨x1,hx2,hH⟩:=zB hH
 refine go ?_
 refine AO.w (cVs (qPI _ _ (hx2))) (go ?_)
 exact fin
 refine go ?_
 refine AW.cH hH (fun _ hH=>?_) (fun hc hH=>?_)
 refine AW.q ?_
 obtain⟨x3,hx4,hH⟩:=zB hH
 refine go ?_
 refine AO.w (cVs (qMz _ _ (hx4))) (go ?_)
 refine AO.g0 T ?_
 refine AO.g1 T 31 ?_
 refine go ?_
 exact fin
 refine go ?_
 refine AW.cH hH (fun hc hH=>?_) (fun hc hH=>?_)
 refine go ?_
 obtain⟨x5,hx6,hH⟩:=zB hH
 refine go ?_
 refine AO.x (qAV rfl 2 rfl rfl rfl (qOd _ _ _ (hx6)) rfl rfl rfl) (go ?_)
 refine AW.loopS (fun s:Nat=>(⟨[(3,.p 1 0),(38,.R 2),(39,(x5.length:Int)),(40,(s:Int))],[(1,.box (ze4 c)),(2,ro 1 ze0 x5)],61,[]⟩:St)) (fun s=>s<=x5.length/\qCn c (x5.drop s) s=some r) (fun s=>x5.length-s) 0 ⟨Nat.zero_le _,hH⟩ ?_ ?_
 exact Le.ct 0 0
 rintro k7 ⟨hk,hH⟩
 try dsimp only at hH⊢
 refine AW.boundR (id:=2) (l:=x5) rfl (fun hb11=>?_)
 rcases hd10:x5.drop k7 with _|⟨y8,ys9⟩
 rw[hd10,qCn]at hH
 have hlt12:=qAF hd10
 refine go ?_
 exact fin
 rw[hd10,qCn]at hH
 have hlt12:=qAG hd10
 refine go ?_
 refine AO.w (zLr T rfl rfl rfl rfl (zgG (zgD hd10)) rfl rfl rfl) (go ?_)
 obtain⟨x18,hx19,hH⟩:=zB hH
 refine go ?_
 refine AW.cH hH (fun _ hH=>?_) (fun hc hH=>?_)
 refine go ?_
 exact fin
 refine go ?_
 refine⟨k7+1,⟨hlt12,(zds hd10▸hH)⟩,qBl hlt12,?_⟩
 exact Le.ct 0 0
 refine go ?_
 refine AW.cH hH (fun _ hH=>?_) (fun _ hH=>?_)
 refine AW.q ?_
 obtain⟨x20,hx21,hH⟩:=zB hH
 refine go ?_
 refine AO.w (cVs (qPx _ _ (hx21))) (go ?_)
 exact fin
 refine go ?_
 obtain⟨x22,hx23,hH⟩:=zB hH
 refine go ?_
 refine AO.w (cVs (qPR _ _ _ _ (hx23))) (go ?_)
 exact fin
def qCu (c:Code) (l:List Item):Nat->ac->Int->Option ((ac))
 |0,_,_=>none
 |k1+1,v12,v13 =>
  cond (decide (v13<=8))
   ((qJt c l v13).bind fun x15 =>
   cond (!x15)
    ((qAq (qAi 8 (v12.length+([v13]).length))).bind fun u17 =>
    qCu c l k1 (v12++[v13]) (w64 (v13+1)))
    (qCu c l k1 v12 (w64 (v13+1))))
   (some v12)
def qHN (fl:Nat) (c:Code) (l:List Item):Option ac :=
 qCu c l fl [] 1
theorem qOQ (fl:Nat) (c:Code) (l:List Item) (r:(ac)) (hH:qHN fl c l=some r):qAC prog 130 [.g (ze4 c),.s (List.map ze3 l)] (.w 1 (r.map ze0)):=by
 refine fns T func130 ?_
 refine go ?_
 refine AO.x (bxs T 1) (go ?_)
 refine AW.loopS (fun s:Nat×ac×Int=>(⟨[(1,sv ze3 l),(2,.p 1 0),(5,.R 5),(6,s.2.2)],[(1,.box (ze4 c)),(5,ro 1 ze0 s.2.1)],21,[]⟩:St)) (fun s=>qCu c l s.1 s.2.1 s.2.2=some r) (fun s=>s.1) (fl,[],1) hH ?_ ?_
 refine Le.trans (Le.void 5 5 1 rfl rfl) ?_
 exact Le.ct 0 0
 rintro⟨k1,v12,v13⟩ hH
 try dsimp only at hH⊢
 rcases k1 with _|k1
 cases (show none=some _ from hH)
 rw[qCu]at hH
 refine go ?_
 refine AW.cH hH (fun hc hH=>?_) (fun _ hH=>?_)
 refine go ?_
 obtain⟨x15,hx16,hH⟩:=zB hH
 refine go ?_
 refine AO.w (cVs (qPf _ _ _ _ (hx16))) (go ?_)
 refine AW.cH hH (fun _ hH=>?_) (fun hc hH=>?_)
 obtain⟨u17,hx18,hH⟩:=zB hH
 refine go ?_
 refine AO.x (mks T 6 ze0 ([v13])) ?_
 refine AO.x (rvs T 7 (hfit:=by exact qAP (hx18))) (go ?_)
 refine⟨(k1,(v12++[v13]),w64 (v13+1)),hH,Nat.lt_succ_self _,?_⟩
 exact Le.ct 7 5
 refine go ?_
 refine⟨(k1,v12,w64 (v13+1)),hH,Nat.lt_succ_self _,?_⟩
 exact Le.ct 0 0
 refine go ?_
 exact fin
def qBd (fl:Nat):Nat->Int->Option aa
 |0,_=>none
 |rf+1,n =>
  cond (decide (n<10))
   (some (strOfNums [IntKind.wrap .u8 (w64 (48+n))]))
   ((qAq (10 != 0)).bind fun u1 =>
   (qBd fl rf (w64 (n.tdiv 10))).bind fun x3 =>
   (qAq (Nat.ble (x3.size+(strOfNums [IntKind.wrap .u8 (w64 (48+(n.tmod 10)))]).size) qDx)).bind fun u5 =>
   some (x3++(strOfNums [IntKind.wrap .u8 (w64 (48+(n.tmod 10)))])))
theorem qKh (fl:Nat):∀(rf:Nat) (n:Int) (r:aa) (hH:qBd fl rf n=some r),qAC prog 89 [n] (.v (.string r)):=by
 intro rf
 induction rf with
 |zero=>intro n r hH;rw[qBd]at hH;cases hH
 |succ rf ih =>
 intro n r hH
 rw[qBd]at hH
 refine fns T func89 ?_
 refine go ?_
 refine AW.cH hH (fun _ hH=>?_) (fun _ hH=>?_)
 refine go ?_
 refine AO.w (qNM T rfl rfl rfl rfl) ?_
 refine AO.x (mks T 1 qO7 ([IntKind.wrap .u8 (w64 (48+n))])) ?_
 refine AO.w (qKI T rfl rfl rfl rfl rfl rfl (fun _=>rfl) rfl) (go ?_)
 exact fin
 refine go ?_
 obtain⟨u1,hx2,x3,hx4,u5,hx6,hH⟩:=qBC hH
 refine AW.drawn 9 2 [] mix (by kernel_rfl) rfl ?_
 refine AD.pu T ?_
 refine AD.vv (qHA rfl rfl rfl (neZ (qAP (hx2)))) ?_
 refine AD.vv (cVs (ih _ _ (hx4))) ?_
 refine AD.pu T ?_
 refine AD.vv (qOJ rfl rfl rfl (neZ (qAP (hx2)))) ?_
 refine AD.vv aws ?_
 refine AD.vv (qNM T rfl rfl rfl rfl) ?_
 refine AD.q (FStep.mk T (f:=qO7) (l:=[IntKind.wrap .u8 (w64 (48+(n.tmod 10)))]) rfl rfl rfl rfl rfl rfl rfl rfl rfl (fun _=>rfl) rfl rfl rfl rfl) (by simp[qA1]) (Nat.le_succ _) rfl ?_
 refine AD.vald rfl rfl rfl (qKI T rfl rfl rfl rfl rfl rfl (fun _=>rfl) rfl) ?_
 refine AD.nil (AO.w (qBe rfl rfl rfl (Nat.le_of_ble_eq_true (qAP (hx6)))) (go ?_))
 exact fin
def qDZ (fl:Nat) (n:Int):Option aa :=
 cond (decide (n<0))
  ((qBd fl fl (w64 (-n))).bind fun x1 =>
  (qAq (Nat.ble ((⟨#[45]⟩:aa).size+x1.size) qDx)).bind fun u3 =>
  some ((⟨#[45]⟩:aa)++x1))
  ((qBd fl fl n).bind fun x5 =>
  some x5)
theorem qHV (fl:Nat) (n:Int) (r:aa) (hH:qDZ fl n=some r):qAC prog 131 [n] (.v (.string r)):=by
 refine fns T func131 ?_
 refine go ?_
 refine AW.cH hH (fun _ hH=>?_) (fun _ hH=>?_)
 refine AW.q ?_
 obtain⟨x1,hx2,u3,hx4,hH⟩:=qAH hH
 refine go ?_
 refine AO.w (qPd rfl rfl) ?_
 refine AO.w (cVs (qKh fl fl _ _ (hx2))) ?_
 refine AO.w (qBe rfl rfl rfl (Nat.le_of_ble_eq_true (qAP (hx4)))) (go ?_)
 exact fin
 refine go ?_
 obtain⟨x5,hx6,hH⟩:=zB hH
 refine go ?_
 refine AO.w (cVs (qKh fl fl _ _ (hx6))) (go ?_)
 exact fin
def qB6 (fl:Nat):ac->Nat->aa->Option aa
 | [],k1,v28 =>
  cond (decide (v28=(⟨#[]⟩:aa)))
   (some (⟨#[110,111,110,101]⟩:aa))
   (some v28)
 |y2::ys3,k1,v28 =>
  cond (decide ((k1:Int)>0))
   ((qAq (Nat.ble (v28.size+(⟨#[32]⟩:aa).size) qDx)).bind fun u31 =>
   (qDZ fl y2).bind fun x33 =>
   (qAq (Nat.ble ((v28++(⟨#[32]⟩:aa)).size+x33.size) qDx)).bind fun u35 =>
   qB6 fl ys3 (k1+1) ((v28++(⟨#[32]⟩:aa))++x33))
   ((qDZ fl y2).bind fun x37 =>
   (qAq (Nat.ble (v28.size+x37.size) qDx)).bind fun u39 =>
   qB6 fl ys3 (k1+1) (v28++x37))
def qBE (fl:Nat) (l:ac):Option aa :=
 qB6 fl l 0 (⟨#[]⟩:aa)
theorem qF4 (fl:Nat) (l:ac) (r:aa) (hH:qBE fl l=some r):qAC prog 129 [.s (List.map ze0 l)] (.v (.string r)):=by
 refine fns T func129 ?_
 refine go ?_
 refine AW.loopS (fun s:Nat×aa=>(⟨[(3,.v (.string s.2)),(6,sv ze0 l),(7,(l.length:Int)),(8,(s.1:Int))],[],25,[]⟩:St)) (fun s=>s.1<=l.length/\qB6 fl (l.drop s.1) s.1 s.2=some r) (fun s=>l.length-s.1) (0,(⟨#[]⟩:aa)) ⟨Nat.zero_le _,hH⟩ ?_ ?_
 exact Le.ct 0 0
 rintro⟨k1,v28⟩ ⟨hk,hH⟩
 try dsimp only at hH⊢
 refine AW.boundM (t:=6) (l:=l) rfl (fun hb5=>?_)
 rcases hd4:l.drop k1 with _|⟨y2,ys3⟩
 rw[hd4,qB6]at hH
 have hlt6:=qAF hd4
 refine go ?_
 refine AW.cH hH (fun _ hH=>?_) (fun _ hH=>?_)
 refine go ?_
 exact fin
 refine go ?_
 exact fin
 rw[hd4,qB6]at hH
 have hlt6:=qAG hd4
 refine go ?_
 refine AW.cH hH (fun _ hH=>?_) (fun _ hH=>?_)
 obtain⟨u31,hx32,hH⟩:=zB hH
 refine go ?_
 refine AO.w (qBe rfl rfl rfl (Nat.le_of_ble_eq_true (qAP (hx32)))) (go ?_)
 obtain⟨x33,hx34,u35,hx36,hH⟩:=qAH hH
 refine go ?_
 refine AO.w (cVs (qHV fl _ _ (hx34))) ?_
 refine AO.w (qBe rfl rfl rfl (Nat.le_of_ble_eq_true (qAP (hx36)))) (go ?_)
 refine⟨(k1+1,((v28++(⟨#[32]⟩:aa))++x33)),⟨hlt6,(zds hd4▸hH)⟩,qBl hlt6,?_⟩
 exact Le.ct 0 0
 refine AW.k ?_
 obtain⟨x37,hx38,u39,hx40,hH⟩:=qAH hH
 refine go ?_
 refine AO.w (cVs (qHV fl _ _ (hx38))) ?_
 refine AO.w (qBe rfl rfl rfl (Nat.le_of_ble_eq_true (qAP (hx40)))) (go ?_)
 refine⟨(k1+1,(v28++x37)),⟨hlt6,(zds hd4▸hH)⟩,qBl hlt6,?_⟩
 exact Le.ct 0 0
def qGd (c:Code) (name:aa) (mark:Int):Option Int :=
 (qGT c name).bind fun x1 =>
 cond (decide (x1<0))
  (some (-1))
  ((qAT c.elements x1).bind fun x3 =>
  cond (mark==1)
   ((qAq (100 != 0)).bind fun u5 =>
   some (w64 ((w64 (x3.base*c.keeps)).tdiv 100)))
   (cond (mark==2)
    ((qAq (10 != 0)).bind fun u7 =>
    some (w64 ((w64 (x3.base*9)).tdiv 10)))
    (cond (mark==3)
     (some 0)
     (some x3.base))))
theorem qLX (c:Code) (name:aa) (mark:Int) (r:Int) (hH:qGd c name mark=some r):qAC prog 309 [.g (ze4 c),.v (.string name),mark] (.v (.int .i64 r)):=by
 refine fns T func309 ?_
 refine go ?_
 refine AO.x (bxs T 1) (go ?_)
 obtain⟨x1,hx2,hH⟩:=zB hH
 refine go ?_
 refine AO.w (cVs (qIC _ _ _ (hx2))) (go ?_)
 refine AW.cH hH (fun _ hH=>?_) (fun hc hH=>?_)
 refine go ?_
 exact fin
 refine go ?_
 obtain⟨x3,hx4,hH⟩:=zB hH
 refine go ?_
 refine AW.cH hH (fun _ hH=>?_) (fun hc hH=>?_)
 refine AW.q ?_
 obtain⟨u5,hx6,hH⟩:=zB hH
 refine go ?_
 refine AO.w (qHA rfl rfl rfl (neZ (qAP (hx6)))) ?_
 refine gs2 ?_
 refine AW.le (Le.ct 0 0 (σ':=(⟨[(6,w64 ((w64 (x3.base*c.keeps)).tdiv 100))],[],36,[]⟩:St))) ?_
 refine AW.t ?_
 exact fin
 refine go ?_
 refine AW.cH hH (fun _ hH=>?_) (fun hc hH=>?_)
 refine AW.q ?_
 obtain⟨u7,hx8,hH⟩:=zB hH
 refine go ?_
 refine AO.w (qHA rfl rfl rfl (neZ (qAP (hx8)))) ?_
 refine gs2 ?_
 refine AW.le (Le.ct 0 0 (σ':=(⟨[(6,w64 ((w64 (x3.base*9)).tdiv 10))],[],36,[]⟩:St))) ?_
 refine AW.t ?_
 exact fin
 refine go ?_
 refine AW.cH hH (fun _ hH=>?_) (fun _ hH=>?_)
 refine go ?_
 exact fin
 refine gs6 ?_
 refine AW.le (Le.ct 0 0 (σ':=(⟨[(6,x3.base)],[],36,[]⟩:St))) ?_
 refine AW.t ?_
 exact fin
def qIr (a:Int) (b:Int):Option Int :=
 (qAq (b != 0)).bind fun u1 =>
 cond (decide ((a.tmod b)<0))
  (some (w64 ((w64 (a.tdiv b))-1)))
  (some (w64 (a.tdiv b)))
theorem qPv (a:Int) (b:Int) (r:Int) (hH:qIr a b=some r):qAC prog 306 [a,b] (.v (.int .i64 r)):=by
 refine fns T func306 ?_
 refine go ?_
 obtain⟨u1,hx2,hH⟩:=zB hH
 refine go ?_
 refine AO.w (qHA rfl rfl rfl (neZ (qAP (hx2)))) (go ?_)
 refine AO.w (qOJ rfl rfl rfl (neZ (qAP (hx2)))) (go ?_)
 refine AW.cH hH (fun _ hH=>?_) (fun _ hH=>?_)
 refine go ?_
 exact fin
 refine go ?_
 exact fin
def qEF (a:Int) (b:Int):Option Int :=
 (qIr (w64 ((w64 (2*a))+b)) (w64 (2*b))).bind fun x1 =>
 some x1
theorem qHY (a:Int) (b:Int) (r:Int) (hH:qEF a b=some r):qAC prog 255 [a,b] (.v (.int .i64 r)):=by
 refine fns T func255 ?_
 refine go ?_
 obtain⟨x1,hx2,hH⟩:=zB hH
 refine go ?_
 refine AO.w (cVs (qPv _ _ _ (hx2))) (go ?_)
 exact fin
def qCA (c:Code) (it:Item):List aa->Nat->Int->Option Int
 | [],k1,v16 =>
  cond it.late
   ((qEF (w64 (v16*(w64 (100+c.bonus)))) 100).bind fun x18 =>
   some x18)
   (some v16)
 |y2::ys3,k1,v16 =>
  (qAT it.marks (k1:Int)).bind fun x20 =>
  (qGd c y2 x20).bind fun x22 =>
  qCA c it ys3 (k1+1) (w64 (v16+x22))
def qIq (c:Code) (it:Item):Option Int :=
 qCA c it it.names 0 0
theorem qP7 (c:Code) (it:Item) (r:Int) (hH:qIq c it=some r):qAC prog 303 [.g (ze4 c),.g (ze3 it)] (.v (.int .i64 r)):=by
 refine fns T func303 ?_
 refine go ?_
 refine AO.x (bxs T 1) ?_
 refine AO.x (bxs T 2) (go ?_)
 refine AW.loopS (fun s:Nat×Int=>(⟨[(2,.p 1 0),(3,.p 2 0),(5,s.2),(9,sv ze2 it.names),(10,(it.names.length:Int)),(11,(s.1:Int))],[(1,.box (ze4 c)),(2,.box [sv ze2 it.names,sv ze0 it.marks,.v (.bool it.late)])],36,[]⟩:St)) (fun s=>s.1<=it.names.length/\qCA c it (it.names.drop s.1) s.1 s.2=some r) (fun s=>it.names.length-s.1) (0,0) ⟨Nat.zero_le _,hH⟩ ?_ ?_
 exact Le.ct 0 0
 rintro⟨k1,v16⟩ ⟨hk,hH⟩
 try dsimp only at hH⊢
 refine AW.boundM (t:=9) (l:=it.names) rfl (fun hb5=>?_)
 rcases hd4:it.names.drop k1 with _|⟨y2,ys3⟩
 rw[hd4,qCA]at hH
 have hlt6:=qAF hd4
 refine go ?_
 refine AW.cH hH (fun _ hH=>?_) (fun _ hH=>?_)
 refine AW.q ?_
 obtain⟨x18,hx19,hH⟩:=zB hH
 refine go ?_
 refine AO.w (cVs (qHY _ _ _ (hx19))) (go ?_)
 exact fin
 refine go ?_
 exact fin
 rw[hd4,qCA]at hH
 have hlt6:=qAG hd4
 refine go ?_
 obtain⟨x20,hx21,x22,hx23,hH⟩:=qAH hH
 refine AW.drawn 9 3 [] mix (by kernel_rfl) rfl ?_
 refine go ?_
 refine AD.vv (cVs (qLX _ _ _ _ (hx23))) ?_
 refine go ?_
 refine⟨(k1+1,w64 (v16+x22)),⟨hlt6,(zds hd4▸hH)⟩,qBl hlt6,?_⟩
 exact Le.ct 0 0
def qAt (l:List Item) (k:Int):List Item->Nat->Int->Option Int
 | [],k3,v26 =>
  some v26
 |y4::ys5,k3,v26 =>
  (qAT y4.names 0).bind fun x28 =>
  (qAT l k).bind fun x30 =>
  (qAT x30.names 0).bind fun x32 =>
  (opt (decide (x28=x32)) default (qAT y4.marks 0)).bind fun x34 =>
  cond (decide (x28=x32)&&(x34 != 3))
   (qAt l k ys5 (k3+1) (w64 (v26+1)))
   (qAt l k ys5 (k3+1) v26)
def qIh (l:List Item) (k:Int):Option Int :=
 (qFw l k).bind fun x1 =>
 qAt l k x1 0 0
theorem qNf (l:List Item) (k:Int) (r:Int) (hH:qIh l k=some r):qAC prog 304 [.s (List.map ze3 l),k] (.v (.int .i64 r)):=by
 refine fns T func304 ?_
 refine go ?_
 obtain⟨x1,hx2,hH⟩:=zB hH
 refine go ?_
 refine AO.w (qEL T rfl rfl rfl rfl rfl (hx2) (fun _=>rfl)) (go ?_)
 refine AW.loopS (fun s:Nat×Int=>(⟨[(0,sv ze3 l),(1,k),(5,s.2),(10,sv ze3 x1),(11,(x1.length:Int)),(12,(s.1:Int))],[],39,[]⟩:St)) (fun s=>s.1<=x1.length/\qAt l k (x1.drop s.1) s.1 s.2=some r) (fun s=>x1.length-s.1) (0,0) ⟨Nat.zero_le _,hH⟩ ?_ ?_
 exact Le.ct 0 0
 rintro⟨k3,v26⟩ ⟨hk,hH⟩
 try dsimp only at hH⊢
 refine AW.boundM (t:=10) (l:=x1) rfl (fun hb7=>?_)
 rcases hd6:x1.drop k3 with _|⟨y4,ys5⟩
 rw[hd6,qAt]at hH
 have hlt8:=qAF hd6
 refine go ?_
 exact fin
 rw[hd6,qAt]at hH
 have hlt8:=qAG hd6
 refine go ?_
 refine AO.x (als T 3) ?_
 refine AO.se T [sv ze2 y4.names,sv ze0 y4.marks,.v (.bool y4.late)] ?_
 refine go ?_
 obtain⟨x28,hx29,x30,hx31,x32,hx33,hH⟩:=qBC hH
 obtain⟨x34,hx35,hH⟩:=zB hH
 refine AW.drawn 11 4 [] mix (by kernel_rfl) rfl ?_
 refine go ?_
 refine AO.g0 T ?_
 refine AO.g1 T 29 ?_
 refine AO.d1 30 (fun hg=>ixs T (qE9 hx35 hg)) ?_
 refine AO.g1 T 31 ?_
 refine AO.g1 T 32 ?_
 refine gs2 ?_
 refine AW.le (Le.ct 0 0 (σ':=(⟨[(0,sv ze3 l),(1,k),(5,v26),(10,sv ze3 x1),(11,(x1.length:Int)),(12,(k3:Int)),(34,.v (.bool (decide (x28=x32)&&(x34 != 3))))],[],39,[]⟩:St))) ?_
 refine AW.cH hH (fun _ hH=>?_) (fun _ hH=>?_)
 refine go ?_
 refine⟨(k3+1,w64 (v26+1)),⟨hlt8,(zds hd6▸hH)⟩,qBl hlt8,?_⟩
 exact Le.ct 0 0
 refine go ?_
 refine⟨(k3+1,v26),⟨hlt8,(zds hd6▸hH)⟩,qBl hlt8,?_⟩
 exact Le.ct 0 0
def qEi (c:Code) (l:List Item) (k:Int):Option Int :=
 (qAT l k).bind fun x1 =>
 (qIq c x1).bind fun x3 =>
 (qIh l k).bind fun x5 =>
 cond (decide (x5<c.repeats))
  (some x3)
  (cond (x5==c.repeats)
   ((qAq (10 != 0)).bind fun u7 =>
   some (w64 ((w64 (x3*7)).tdiv 10)))
   (some 0))
theorem qIB (c:Code) (l:List Item) (k:Int) (r:Int) (hH:qEi c l k=some r):qAC prog 253 [.g (ze4 c),.s (List.map ze3 l),k] (.v (.int .i64 r)):=by
 refine fns T func253 ?_
 refine go ?_
 refine AO.x (bxs T 1) (go ?_)
 obtain⟨x1,hx2,x3,hx4,hH⟩:=qAH hH
 refine AW.drawn 5 2 [] mix (by kernel_rfl) rfl ?_
 refine go ?_
 refine AO.w (cVs (qP7 _ _ _ (hx4))) (go ?_)
 obtain⟨x5,hx6,hH⟩:=zB hH
 refine go ?_
 refine AO.w (cVs (qNf _ _ _ (hx6))) (go ?_)
 refine AW.cH hH (fun _ hH=>?_) (fun hc hH=>?_)
 refine go ?_
 exact fin
 refine go ?_
 refine AW.cH hH (fun _ hH=>?_) (fun _ hH=>?_)
 refine AW.q ?_
 obtain⟨u7,hx8,hH⟩:=zB hH
 refine go ?_
 refine AO.w (qHA rfl rfl rfl (neZ (qAP (hx8)))) ?_
 refine gs2 ?_
 refine AW.le (Le.ct 0 0 (σ':=(⟨[(6,w64 ((w64 (x3*7)).tdiv 10))],[],32,[]⟩:St))) ?_
 refine AW.t ?_
 exact fin
 refine gs5 ?_
 refine AW.le (Le.ct 0 0 (σ':=(⟨[(6,(0:Int))],[],32,[]⟩:St))) ?_
 refine AW.t ?_
 exact fin
def qEp (c:Code) (l:List Item):List Item->Nat->ac->Option ((ac))
 | [],k1,v16 =>
  some v16
 |y2::ys3,k1,v16 =>
  (qEi c l (k1:Int)).bind fun x18 =>
  (qAq (qAi 8 (v16.length+([x18]).length))).bind fun u20 =>
  qEp c l ys3 (k1+1) (v16++[x18])
def qLa (c:Code) (l:List Item):Option ac :=
 qEp c l l 0 []
theorem qQt (c:Code) (l:List Item) (r:(ac)) (hH:qLa c l=some r):qAC prog 188 [.g (ze4 c),.s (List.map ze3 l)] (.w 1 (r.map ze0)):=by
 refine fns T func188 ?_
 refine go ?_
 refine AO.x (bxs T 1) (go ?_)
 refine AW.loopS (fun s:Nat×(ac)=>(⟨[(1,sv ze3 l),(2,.p 1 0),(5,.R 5),(8,(l.length:Int)),(9,(s.1:Int))],[(1,.box (ze4 c)),(5,ro 1 ze0 s.2)],21,[]⟩:St)) (fun s=>s.1<=l.length/\qEp c l (l.drop s.1) s.1 s.2=some r) (fun s=>l.length-s.1) (0,[]) ⟨Nat.zero_le _,hH⟩ ?_ ?_
 refine Le.trans (Le.void 5 5 1 rfl rfl) ?_
 exact Le.ct 0 0
 rintro⟨k1,v16⟩ ⟨hk,hH⟩
 try dsimp only at hH⊢
 refine AW.boundM (t:=1) (l:=l) rfl (fun hb5=>?_)
 rcases hd4:l.drop k1 with _|⟨y2,ys3⟩
 rw[hd4,qEp]at hH
 have hlt6:=qAF hd4
 refine go ?_
 exact fin
 rw[hd4,qEp]at hH
 have hlt6:=qAG hd4
 refine go ?_
 obtain⟨x18,hx19,u20,hx21,hH⟩:=qAH hH
 refine go ?_
 refine AO.w (cVs (qIB _ _ _ _ (hx19))) ?_
 refine AO.x (mks T 6 ze0 ([x18])) ?_
 refine AO.x (rvs T 7 (hfit:=by exact qAP (hx21))) (go ?_)
 refine⟨(k1+1,(v16++[x18])),⟨hlt6,(zds hd4▸hH)⟩,qBl hlt6,?_⟩
 exact Le.ct 7 5
def qCf:ac->Nat->Int->Option Int
 | [],k1,v8 =>
  some v8
 |y2::ys3,k1,v8 =>
  qCf ys3 (k1+1) (w64 (v8+y2))
def qC3 (l:ac):Option Int :=
 qCf l 0 0
theorem qGP (l:ac) (r:Int) (hH:qC3 l=some r):qAC prog 187 [.s (List.map ze0 l)] (.v (.int .i64 r)):=by
 refine fns T func187 ?_
 refine go ?_
 refine AW.loopS (fun s:Nat×Int=>(⟨[(3,s.2),(6,sv ze0 l),(7,(l.length:Int)),(8,(s.1:Int))],[],17,[]⟩:St)) (fun s=>s.1<=l.length/\qCf (l.drop s.1) s.1 s.2=some r) (fun s=>l.length-s.1) (0,0) ⟨Nat.zero_le _,hH⟩ ?_ ?_
 exact Le.ct 0 0
 rintro⟨k1,v8⟩ ⟨hk,hH⟩
 try dsimp only at hH⊢
 refine AW.boundM (t:=6) (l:=l) rfl (fun hb5=>?_)
 rcases hd4:l.drop k1 with _|⟨y2,ys3⟩
 rw[hd4,qCf]at hH
 have hlt6:=qAF hd4
 refine go ?_
 exact fin
 rw[hd4,qCf]at hH
 have hlt6:=qAG hd4
 refine go ?_
 refine⟨(k1+1,w64 (v8+y2)),⟨hlt6,(zds hd4▸hH)⟩,qBl hlt6,?_⟩
 exact Le.ct 0 0
def qHn (c:Code) (l:List Item):Option Int :=
 (qLa c l).bind fun x1 =>
 (qC3 x1).bind fun x3 =>
 some x3
theorem qQM (c:Code) (l:List Item) (r:Int) (hH:qHn c l=some r):qAC prog 132 [.g (ze4 c),.s (List.map ze3 l)] (.v (.int .i64 r)):=by
 refine fns T func132 ?_
 refine go ?_
 refine AO.x (bxs T 1) (go ?_)
 obtain⟨x1,hx2,x3,hx4,hH⟩:=qAH hH
 refine go ?_
 refine AO.x (qAV rfl 2 rfl rfl rfl (qQt _ _ _ (hx2)) rfl rfl rfl) ?_
 refine AO.w (zLV rfl rfl rfl (es:=[sv ze0 x1]) ⟨(.rowR rfl (.map fun y=>.vs rfl)),trivial⟩ (qGP _ _ (hx4)) (qAJ _) rfl) (go ?_)
 exact fin
def qDq (y2:Int) (v105:ac):Nat->Int->Option Int
 |0,_=>none
 |k153+1,v159 =>
  (opt (decide (v159>0)) default (qAT v105 (w64 (v159-1)))).bind fun x161 =>
  cond (decide (v159>0)&&decide (x161<y2))
   (qDq y2 v105 k153 (w64 (v159-1)))
   (some v159)
def qC2 (fl:Nat):ac->Nat->ac->Option ((ac))
 | [],k1,v105 =>
  some v105
 |y2::ys3,k1,v105 =>
  ((qDq y2 v105 fl (v105.length:Int)).bind fun v150 =>
  (qFw v105 v150).bind fun x163 =>
  (qAq (qAi 8 x163.length)).bind fun u165 =>
  (qAq (qAi 8 (x163.length+([y2]).length))).bind fun u167 =>
  (qDC v105 v150).bind fun x169 =>
  (qAq (qAi 8 (((x163++[y2])).length+x169.length))).bind fun u171 =>
  some ((x163++[y2])++x169)).bind fun v138 =>
  qC2 fl ys3 (k1+1) v138
def qJN (fl:Nat) (l:ac):Option ac :=
 qC2 fl l 0 []
theorem qOn (fl:Nat) (l:ac) (r:(ac)) (hH:qJN fl l=some r):qAC prog 360 [.s (List.map ze0 l)] (.w 1 (r.map ze0)):=by
 refine fns T func360 ?_
 iterate 16 refine gs ?_
 refine AW.loopS (fun s:Nat×(ac)=>(⟨[(3,.R 12),(7,sv ze0 l),(8,(l.length:Int)),(9,(s.1:Int))],[(12,ro 1 ze0 s.2)],42,[]⟩:St)) (fun s=>s.1<=l.length/\qC2 fl (l.drop s.1) s.1 s.2=some r) (fun s=>l.length-s.1) (0,[]) ⟨Nat.zero_le _,hH⟩ ?_ ?_
 refine Le.trans (Le.void 3 12 1 rfl rfl) ?_
 exact Le.ct 0 0
 rintro⟨k1,v105⟩ ⟨hk,hH⟩
 try dsimp only at hH⊢
 refine AW.boundM (t:=7) (l:=l) rfl (fun hb5=>?_)
 rcases hd4:l.drop k1 with _|⟨y2,ys3⟩
 rw[hd4,qC2]at hH
 have hlt6:=qAF hd4
 iterate 13 refine gs ?_
 exact fin
 rw[hd4,qC2]at hH
 have hlt6:=qAG hd4
 refine gs7 ?_
 obtain⟨o139,hH,hK140⟩:=zB hH
 refine AW.seqJ (fun s:ac=>(⟨[(3,.R 20),(7,sv ze0 l),(8,(l.length:Int)),(9,(k1:Int))],[(20,ro 1 ze0 s)],42,[]⟩:St)) (fun s=>s=o139) ?_ ?_
 iterate 13 refine gs ?_
 obtain⟨o151,hH,hK152⟩:=zB hH
 refine AW.seqJ (fun s:Int=>(⟨[(3,.R 12),(5,y2),(6,s),(7,sv ze0 l),(8,(l.length:Int)),(9,(k1:Int))],[(12,ro 1 ze0 v105)],42,[]⟩:St)) (fun s=>s=o151) ?_ ?_
 refine AW.b (AW.loopS (fun s:Nat×Int=>(⟨[(3,.R 12),(5,y2),(6,s.2),(7,sv ze0 l),(8,(l.length:Int)),(9,(k1:Int))],[(12,ro 1 ze0 v105)],42,[]⟩:St)) (fun s=>qDq y2 v105 s.1 s.2=some o151) (fun s=>s.1) (fl,(v105.length:Int)) hH ?_ ?_)
 exact Le.ct 0 0
 rintro⟨k153,v159⟩ hH
 try dsimp only at hH⊢
 rcases k153 with _|k153
 cases (show none=some _ from hH)
 rw[qDq]at hH
 refine gs2 ?_
 obtain⟨x161,hx162,hH⟩:=zB hH
 refine gs4 ?_
 refine AO.g0 T ?_
 refine AO.g0 T ?_
 refine AO.d1 19 (fun hg=>aws) ?_
 refine AO.d2 18 20 (fun hg=>zXr T rfl rfl rfl rfl rfl rfl (qE9 hx162 hg)) ?_
 refine AO.d1 21 (fun hg=>zLr T rfl rfl rfl rfl (zgG (qE9 hx162 hg)) rfl rfl rfl) ?_
 refine AO.g0 T ?_
 refine AO.g2 T 22 23 ?_
 refine gs2 ?_
 refine AW.cH hH (fun _ hH=>?_) (fun _ hH=>?_)
 refine gs7 ?_
 refine⟨(k153,w64 (v159-1)),hH,Nat.lt_succ_self _,?_⟩
 exact Le.ct 0 0
 refine AW.exit ?_
 refine⟨_,zS hH,?_⟩
 exact Le.ct 0 0
 rintro v150 hs
 subst hs
 replace hH:=hK152
 try dsimp only[qLW,qJg]at hH
 try dsimp only
 obtain⟨x163,hx164,u165,hx166,u167,hx168,hH⟩:=qBC hH
 obtain⟨x169,hx170,u171,hx172,hH⟩:=qAH hH
 refine AW.le (Le.fM 12 (g:=ze0) rfl (fun y=>.vs rfl)) ?_
 refine AW.drawn 11 21 [] mix (by kernel_rfl) rfl ?_
 refine AD.v (FStep.mk0 T rfl rfl rfl rfl rfl) ?_
 refine gs2 ?_
 refine AD.vv (qEL T rfl rfl rfl rfl rfl (hx164) (fun _=>rfl)) ?_
 refine AD.q (FStep.app_ws T rfl rfl rfl rfl rfl rfl rfl (by decide) (by decide) rfl rfl (fun _=>rfl) (qAP (hx166)) rfl) (by simp[qA1]) (Nat.le_succ _) rfl ?_
 refine AD.pu T ?_
 refine AD.q (FStep.mk T (f:=ze0) (l:=[y2]) rfl rfl rfl rfl rfl rfl rfl rfl rfl (fun _=>rfl) rfl rfl rfl rfl) (by simp[qA1]) (Nat.le_succ _) rfl ?_
 refine AD.kk (FStep.app_rv T rfl rfl rfl rfl rfl rfl rfl (by decide) rfl rfl rfl rfl (fun _=>rfl) (qAP (hx168)) rfl) ?_
 refine gs2 ?_
 refine AD.vv (qDf T rfl rfl rfl rfl rfl (hx170) (fun _=>rfl)) ?_
 refine AD.nil (AO.x (qQT T rfl 24 rfl rfl rfl rfl rfl (by decide) (by decide) rfl rfl rfl (fun _=>rfl) (qAP (hx172)) rfl rfl) ?_)
 refine gs2 ?_
 refine⟨_,zS hH,?_⟩
 exact Le.ct 24 20
 rintro v138 hs
 subst hs
 replace hH:=hK140
 try dsimp only[qLW,qJg]at hH
 try dsimp only
 refine gs4 ?_
 refine⟨(k1+1,v138),⟨hlt6,(zds hd4▸hH)⟩,qBl hlt6,?_⟩
 exact Le.ct 20 12
def qHb (fl:Nat) (l:ac):Option (Int×Int) :=
 (qC3 l).bind fun x1 =>
 cond (decide ((l.length:Int)<5))
  (some (x1,(l.length:Int)))
  ((qJN fl l).bind fun x3 =>
  (qAT x3 0).bind fun x5 =>
  (qAT x3 (w64 ((x3.length:Int)-1))).bind fun x7 =>
  some (w64 ((w64 (x1-x5))-x7),w64 ((l.length:Int)-2)))
theorem qMQ (fl:Nat) (l:ac) (r:(Int×Int)) (hH:qHb fl l=some r):qAC prog 356 [.s (List.map ze0 l)] (.t [.v (.int .i64 r.1),.v (.int .i64 r.2)]):=by
 refine fns T func356 ?_
 refine gs6 ?_
 obtain⟨x1,hx2,hH⟩:=zB hH
 refine gs2 ?_
 refine AO.w (cVs (qGP _ _ (hx2))) ?_
 refine gs9 ?_
 refine AW.cH hH (fun _ hH=>?_) (fun _ hH=>?_)
 refine gs9 ?_
 exact fin
 refine gs2 ?_
 obtain⟨x3,hx4,hH⟩:=zB hH
 refine gs2 ?_
 refine AO.x (qAV rfl 1 rfl rfl rfl (qOn fl _ _ (hx4)) rfl rfl rfl) ?_
 refine gs3 ?_
 obtain⟨x5,hx6,x7,hx8,hH⟩:=qAH hH
 refine AW.drawn 16 2 [] mix (by kernel_rfl) rfl ?_
 refine gs2 ?_
 refine AD.vv (ixr T (hx6)) ?_
 refine AD.vv (zLr T rfl rfl rfl rfl (zgG (hx6)) rfl rfl rfl) ?_
 refine AD.vv aws ?_
 refine gs2 ?_
 refine AD.vv (qXH T) ?_
 refine AD.vv aws ?_
 refine AD.vv (ixr T (hx8)) ?_
 refine AD.vv (zLr T rfl rfl rfl rfl (zgG (hx8)) rfl rfl rfl) ?_
 refine AD.vv aws ?_
 refine gs2 ?_
 refine AD.vv aws ?_
 refine gs4 ?_
 refine AW.le (Le.ct 0 0 (σ':=(⟨[(2,w64 ((w64 (x1-x5))-x7)),(3,w64 ((l.length:Int)-2))],[],31,[]⟩:St))) ?_
 refine AW.t ?_
 exact fin
def qFb (a:Int) (b:Int):Option Int :=
 cond (decide (a>b))
  (some a)
  (some b)
theorem qMM (a:Int) (b:Int) (r:Int) (hH:qFb a b=some r):qAC prog 192 [a,b] (.v (.int .i64 r)):=by
 refine fns T func192 ?_
 refine go ?_
 refine AW.cH hH (fun _ hH=>?_) (fun _ hH=>?_)
 refine go ?_
 exact fin
 refine go ?_
 exact fin
def qD8 (c:Code) (it:Item):List aa->Nat->Int->Option Int
 | [],k1,v20 =>
  some v20
 |y2::ys3,k1,v20 =>
  (qAT it.marks (k1:Int)).bind fun x22 =>
  (qGd c y2 x22).bind fun x24 =>
  (qFb v20 x24).bind fun x26 =>
  qD8 c it ys3 (k1+1) x26
def qIx (c:Code) (it:Item):Option Int :=
 qD8 c it it.names 0 0
theorem qMH (c:Code) (it:Item) (r:Int) (hH:qIx c it=some r):qAC prog 259 [.g (ze4 c),.g (ze3 it)] (.v (.int .i64 r)):=by
 refine fns T func259 ?_
 refine go ?_
 refine AO.x (bxs T 1) ?_
 refine AO.x (bxs T 2) (go ?_)
 refine AW.loopS (fun s:Nat×Int=>(⟨[(2,.p 1 0),(3,.p 2 0),(5,s.2),(9,sv ze2 it.names),(10,(it.names.length:Int)),(11,(s.1:Int))],[(1,.box (ze4 c)),(2,.box [sv ze2 it.names,sv ze0 it.marks,.v (.bool it.late)])],28,[]⟩:St)) (fun s=>s.1<=it.names.length/\qD8 c it (it.names.drop s.1) s.1 s.2=some r) (fun s=>it.names.length-s.1) (0,0) ⟨Nat.zero_le _,hH⟩ ?_ ?_
 exact Le.ct 0 0
 rintro⟨k1,v20⟩ ⟨hk,hH⟩
 try dsimp only at hH⊢
 refine AW.boundM (t:=9) (l:=it.names) rfl (fun hb5=>?_)
 rcases hd4:it.names.drop k1 with _|⟨y2,ys3⟩
 rw[hd4,qD8]at hH
 have hlt6:=qAF hd4
 refine go ?_
 exact fin
 rw[hd4,qD8]at hH
 have hlt6:=qAG hd4
 refine go ?_
 obtain⟨x22,hx23,x24,hx25,x26,hx27,hH⟩:=qBC hH
 refine AW.drawn 9 3 [] mix (by kernel_rfl) rfl ?_
 refine go ?_
 refine AD.vv (cVs (qLX _ _ _ _ (hx25))) ?_
 refine AD.nil (AO.w (cVs (qMM _ _ _ (hx27))) (go ?_))
 refine⟨(k1+1,x26),⟨hlt6,(zds hd4▸hH)⟩,qBl hlt6,?_⟩
 exact Le.ct 0 0
def qHl (fl:Nat) (c:Code) (l:List Item) (k:Int) (grades:ac):Option Int :=
 (qEi c l k).bind fun x1 =>
 cond (x1==0)
  (some 0)
  ((qHb fl grades).bind fun x3 =>
  (qAT l k).bind fun x5 =>
  (qIx c x5).bind fun x7 =>
  (qEF (w64 (x3.1*x7)) (w64 (10*x3.2))).bind fun x9 =>
  some x9)
theorem qOZ (fl:Nat) (c:Code) (l:List Item) (k:Int) (grades:ac) (r:Int) (hH:qHl fl c l k grades=some r):qAC prog 355 [.g (ze4 c),.s (List.map ze3 l),k,.s (List.map ze0 grades)] (.v (.int .i64 r)):=by
 refine fns T func355 ?_
 refine go ?_
 refine AO.x (bxs T 1) (go ?_)
 obtain⟨x1,hx2,hH⟩:=zB hH
 refine go ?_
 refine AO.w (cVs (qIB _ _ _ _ (hx2))) (go ?_)
 refine AW.cH hH (fun _ hH=>?_) (fun _ hH=>?_)
 refine go ?_
 exact fin
 refine go ?_
 obtain⟨x3,hx4,hH⟩:=zB hH
 refine go ?_
 refine AO.w (cVs (qMQ fl _ _ (hx4))) (go ?_)
 obtain⟨x5,hx6,x7,hx8,x9,hx10,hH⟩:=qBC hH
 refine AW.drawn 10 2 [] mix (by kernel_rfl) rfl ?_
 refine go ?_
 refine AD.vv (cVs (qMH _ _ _ (hx8))) ?_
 refine AD.vv aws ?_
 refine AD.pu T ?_
 refine AD.vv aws ?_
 refine AD.nil (AO.w (cVs (qHY _ _ _ (hx10))) ?_)
 refine gs2 ?_
 refine AW.le (Le.ct 0 0 (σ':=(⟨[(8,x9)],[],32,[]⟩:St))) ?_
 refine AW.t ?_
 exact fin
def qMY (fl:Nat) (c:Code) (l:List Item) (k:Int) (grades:ac):Option Int :=
 (qEi c l k).bind fun x1 =>
 (qHl fl c l k grades).bind fun x3 =>
 some (w64 (x1+x3))
theorem qRd (fl:Nat) (c:Code) (l:List Item) (k:Int) (grades:ac) (r:Int) (hH:qMY fl c l k grades=some r):qAC prog 339 [.g (ze4 c),.s (List.map ze3 l),k,.s (List.map ze0 grades)] (.v (.int .i64 r)):=by
 refine fns T func339 ?_
 refine go ?_
 refine AO.x (bxs T 1) (go ?_)
 obtain⟨x1,hx2,x3,hx4,hH⟩:=qAH hH
 refine AW.drawn 8 2 [] mix (by kernel_rfl) rfl ?_
 refine go ?_
 refine AD.vv (cVs (qIB _ _ _ _ (hx2))) ?_
 refine go ?_
 refine AO.w (cVs (qOZ fl _ _ _ _ _ (hx4))) (go ?_)
 exact fin
def qJm (fl:Nat) (c:Code) (l:List Item) (m:Marks) (k:Int):Option Int :=
 (qAT m.grades k).bind fun x1 =>
 (qMY fl c l k x1).bind fun x3 =>
 some x3
theorem qPi (fl:Nat) (c:Code) (l:List Item) (m:Marks) (k:Int) (r:Int) (hH:qJm fl c l m k=some r):qAC prog 305 [.g (ze4 c),.s (List.map ze3 l),.g (qAb m),k] (.v (.int .i64 r)):=by
 refine fns T func305 ?_
 refine go ?_
 refine AO.x (bxs T 1) ?_
 refine AO.x (bxs T 2) (go ?_)
 obtain⟨x1,hx2,x3,hx4,hH⟩:=qAH hH
 refine AW.drawn 8 3 [] mix (by kernel_rfl) rfl ?_
 refine go ?_
 refine AO.w (cVs (qRd fl _ _ _ _ _ (hx4))) (go ?_)
 exact fin
def qCw (c:Code) (l:List Item) (m:Marks) (fl:Nat):List Item->Nat->ac->Option ((ac))
 | [],k1,v16 =>
  some v16
 |y2::ys3,k1,v16 =>
  (qJm fl c l m (k1:Int)).bind fun x18 =>
  (qAq (qAi 8 (v16.length+([x18]).length))).bind fun u20 =>
  qCw c l m fl ys3 (k1+1) (v16++[x18])
def qI7 (fl:Nat) (c:Code) (l:List Item) (m:Marks):Option ac :=
 qCw c l m fl l 0 []
theorem qOi (fl:Nat) (c:Code) (l:List Item) (m:Marks) (r:(ac)) (hH:qI7 fl c l m=some r):qAC prog 254 [.g (ze4 c),.s (List.map ze3 l),.g (qAb m)] (.w 1 (r.map ze0)):=by
 refine fns T func254 ?_
 refine go ?_
 refine AO.x (bxs T 1) ?_
 refine AO.x (bxs T 2) (go ?_)
 refine AW.loopS (fun s:Nat×(ac)=>(⟨[(1,sv ze3 l),(3,.p 1 0),(5,.p 2 0),(7,.R 6),(10,(l.length:Int)),(11,(s.1:Int))],[(1,.box (ze4 c)),(2,.box [sv ze5 m.grades,sv ze5 m.components]),(6,ro 1 ze0 s.2)],24,[]⟩:St)) (fun s=>s.1<=l.length/\qCw c l m fl (l.drop s.1) s.1 s.2=some r) (fun s=>l.length-s.1) (0,[]) ⟨Nat.zero_le _,hH⟩ ?_ ?_
 refine Le.trans (Le.void 7 6 1 rfl rfl) ?_
 exact Le.ct 0 0
 rintro⟨k1,v16⟩ ⟨hk,hH⟩
 try dsimp only at hH⊢
 refine AW.boundM (t:=1) (l:=l) rfl (fun hb5=>?_)
 rcases hd4:l.drop k1 with _|⟨y2,ys3⟩
 rw[hd4,qCw]at hH
 have hlt6:=qAF hd4
 refine go ?_
 exact fin
 rw[hd4,qCw]at hH
 have hlt6:=qAG hd4
 refine go ?_
 obtain⟨x18,hx19,u20,hx21,hH⟩:=qAH hH
 refine go ?_
 refine AO.w (cVs (qPi fl _ _ _ _ _ (hx19))) ?_
 refine AO.x (mks T 7 ze0 ([x18])) ?_
 refine AO.x (rvs T 8 (hfit:=by exact qAP (hx21))) (go ?_)
 refine⟨(k1+1,(v16++[x18])),⟨hlt6,(zds hd4▸hH)⟩,qBl hlt6,?_⟩
 exact Le.ct 8 6
def qHk (fl:Nat) (c:Code) (p:Performance):Option Int :=
 (qI7 fl c p.items p.marks).bind fun x1 =>
 (qC3 x1).bind fun x3 =>
 some x3
theorem qMk (fl:Nat) (c:Code) (p:Performance) (r:Int) (hH:qHk fl c p=some r):qAC prog 189 [.g (ze4 c),.g (ze8 p)] (.v (.int .i64 r)):=by
 refine fns T func189 ?_
 refine go ?_
 refine AO.x (bxs T 1) ?_
 refine AO.x (bxs T 2) (go ?_)
 obtain⟨x1,hx2,x3,hx4,hH⟩:=qAH hH
 refine go ?_
 refine AO.x (qAV rfl 3 rfl rfl rfl (qOi fl _ _ _ _ (hx2)) rfl rfl rfl) ?_
 refine AO.w (zLV rfl rfl rfl (es:=[sv ze0 x1]) ⟨(.rowR rfl (.map fun y=>.vs rfl)),trivial⟩ (qGP _ _ (hx4)) (qAJ _) rfl) (go ?_)
 exact fin
def qIL (fl:Nat) (m:Marks) (k:Int):Option Int :=
 (qAT m.components k).bind fun x1 =>
 (qHb fl x1).bind fun x3 =>
 (qEF x3.1 x3.2).bind fun x5 =>
 some x5
theorem qO3 (fl:Nat) (m:Marks) (k:Int) (r:Int) (hH:qIL fl m k=some r):qAC prog 340 [.g (qAb m),k] (.v (.int .i64 r)):=by
 refine fns T func340 ?_
 refine go ?_
 refine AO.x (bxs T 1) (go ?_)
 obtain⟨x1,hx2,x3,hx4,hH⟩:=qAH hH
 refine go ?_
 refine AO.w (cVs (qMQ fl _ _ (hx4))) (go ?_)
 obtain⟨x5,hx6,hH⟩:=zB hH
 refine go ?_
 refine AO.w (cVs (qHY _ _ _ (hx6))) (go ?_)
 exact fin
def qGq (a:Int) (b:Int):Option Int :=
 cond (decide (a<b))
  (some a)
  (some b)
theorem qLB (a:Int) (b:Int) (r:Int) (hH:qGq a b=some r):qAC prog 308 [a,b] (.v (.int .i64 r)):=by
 refine fns T func308 ?_
 refine go ?_
 refine AW.cH hH (fun _ hH=>?_) (fun _ hH=>?_)
 refine go ?_
 exact fin
 refine go ?_
 exact fin
def qC1 (m:Marks) (most:Int) (fl:Nat):List ac->Nat->ac->Option ((ac))
 | [],k1,v20 =>
  some v20
 |y2::ys3,k1,v20 =>
  (qIL fl m (k1:Int)).bind fun x22 =>
  (qGq x22 most).bind fun x24 =>
  (qAq (qAi 8 (v20.length+([x24]).length))).bind fun u26 =>
  qC1 m most fl ys3 (k1+1) (v20++[x24])
def qF3 (fl:Nat) (m:Marks) (most:Int):Option ac :=
 qC1 m most fl m.components 0 []
theorem qIc (fl:Nat) (m:Marks) (most:Int) (r:(ac)) (hH:qF3 fl m most=some r):qAC prog 307 [.g (qAb m),most] (.w 1 (r.map ze0)):=by
 refine fns T func307 ?_
 refine go ?_
 refine AO.x (bxs T 1) (go ?_)
 refine AW.loopS (fun s:Nat×(ac)=>(⟨[(1,most),(2,.p 1 0),(5,.R 5),(9,(m.components.length:Int)),(10,(s.1:Int))],[(1,.box [sv ze5 m.grades,sv ze5 m.components]),(5,ro 1 ze0 s.2)],23,[]⟩:St)) (fun s=>s.1<=m.components.length/\qC1 m most fl (m.components.drop s.1) s.1 s.2=some r) (fun s=>m.components.length-s.1) (0,[]) ⟨Nat.zero_le _,hH⟩ ?_ ?_
 refine Le.trans (Le.void 5 5 1 rfl rfl) ?_
 exact Le.ct 0 0
 rintro⟨k1,v20⟩ ⟨hk,hH⟩
 try dsimp only at hH⊢
 refine AW.boundBox (id:=1) (j:=1) (l:=m.components) rfl rfl (fun hb5=>?_)
 rcases hd4:m.components.drop k1 with _|⟨y2,ys3⟩
 rw[hd4,qC1]at hH
 have hlt6:=qAF hd4
 refine go ?_
 exact fin
 rw[hd4,qC1]at hH
 have hlt6:=qAG hd4
 refine go ?_
 obtain⟨x22,hx23,x24,hx25,u26,hx27,hH⟩:=qBC hH
 refine go ?_
 refine AO.w (cVs (qO3 fl _ _ _ (hx23))) ?_
 refine AO.pu T ?_
 refine AO.w (cVs (qLB _ _ _ (hx25))) ?_
 refine AO.x (mks T 6 ze0 ([x24])) ?_
 refine AO.x (rvs T 7 (hfit:=by exact qAP (hx27))) (go ?_)
 refine⟨(k1+1,(v20++[x24])),⟨hlt6,(zds hd4▸hH)⟩,qBl hlt6,?_⟩
 exact Le.ct 7 5
def qJd (fl:Nat) (m:Marks) (falls:Int):Option Int :=
 cond (falls==0)
  ((qF3 fl m 1000).bind fun x1 =>
  (qC3 x1).bind fun x3 =>
  some x3)
  (cond (falls==1)
   ((qF3 fl m 950).bind fun x5 =>
   (qC3 x5).bind fun x7 =>
   some x7)
   ((qF3 fl m 900).bind fun x9 =>
   (qC3 x9).bind fun x11 =>
   some x11))
theorem qQ7 (fl:Nat) (m:Marks) (falls:Int) (r:Int) (hH:qJd fl m falls=some r):qAC prog 256 [.g (qAb m),falls] (.v (.int .i64 r)):=by
 refine fns T func256 ?_
 refine go ?_
 refine AO.x (bxs T 1) (go ?_)
 refine AW.cH hH (fun _ hH=>?_) (fun hc hH=>?_)
 refine go ?_
 obtain⟨x1,hx2,x3,hx4,hH⟩:=qAH hH
 refine go ?_
 refine AO.x (qAV rfl 2 rfl rfl rfl (qIc fl _ _ _ (hx2)) rfl rfl rfl) ?_
 refine AO.w (zLV rfl rfl rfl (es:=[sv ze0 x1]) ⟨(.rowR rfl (.map fun y=>.vs rfl)),trivial⟩ (qGP _ _ (hx4)) (qAJ _) rfl) (go ?_)
 exact fin
 refine go ?_
 refine AW.cH hH (fun _ hH=>?_) (fun _ hH=>?_)
 refine go ?_
 obtain⟨x5,hx6,x7,hx8,hH⟩:=qAH hH
 refine go ?_
 refine AO.x (qAV rfl 3 rfl rfl rfl (qIc fl _ _ _ (hx6)) rfl rfl rfl) ?_
 refine AO.w (zLV rfl rfl rfl (es:=[sv ze0 x5]) ⟨(.rowR rfl (.map fun y=>.vs rfl)),trivial⟩ (qGP _ _ (hx8)) (qAJ _) rfl) (go ?_)
 exact fin
 refine go ?_
 obtain⟨x9,hx10,x11,hx12,hH⟩:=qAH hH
 refine go ?_
 refine AO.x (qAV rfl 4 rfl rfl rfl (qIc fl _ _ _ (hx10)) rfl rfl rfl) ?_
 refine AO.w (zLV rfl rfl rfl (es:=[sv ze0 x9]) ⟨(.rowR rfl (.map fun y=>.vs rfl)),trivial⟩ (qGP _ _ (hx12)) (qAJ _) rfl) (go ?_)
 exact fin
def qGO (fl:Nat) (m:Marks) (factor:Int) (falls:Int):Option Int :=
 (qJd fl m falls).bind fun x1 =>
 (qEF (w64 (x1*factor)) 100).bind fun x3 =>
 some x3
theorem qNN (fl:Nat) (m:Marks) (factor:Int) (falls:Int) (r:Int) (hH:qGO fl m factor falls=some r):qAC prog 190 [.g (qAb m),factor,falls] (.v (.int .i64 r)):=by
 refine fns T func190 ?_
 refine go ?_
 refine AO.x (bxs T 1) (go ?_)
 obtain⟨x1,hx2,x3,hx4,hH⟩:=qAH hH
 refine go ?_
 refine AO.w (cVs (qQ7 fl _ _ _ (hx2))) (go ?_)
 refine AO.w (cVs (qHY _ _ _ (hx4))) (go ?_)
 exact fin
def qEI (fall:Int) (falls:Int):Nat->Int->Int->Option Int
 |0,_,_=>none
 |k1+1,v12,v13 =>
  cond (decide (v13<falls))
   ((qAq (2 != 0)).bind fun u15 =>
   (qGq 3 (w64 ((w64 (v13.tdiv 2))+1))).bind fun x17 =>
   qEI fall falls k1 (w64 (v12+(w64 (fall*x17)))) (w64 (v13+1)))
   (some v12)
def qJq (fl:Nat) (fall:Int) (falls:Int):Option Int :=
 qEI fall falls fl 0 0
theorem qPA (fl:Nat) (fall:Int) (falls:Int) (r:Int) (hH:qJq fl fall falls=some r):qAC prog 257 [fall,falls] (.v (.int .i64 r)):=by
 refine fns T func257 ?_
 refine go ?_
 refine AW.loopS (fun s:Nat×Int×Int=>(⟨[(0,fall),(1,falls),(5,s.2.1),(6,s.2.2)],[],21,[]⟩:St)) (fun s=>qEI fall falls s.1 s.2.1 s.2.2=some r) (fun s=>s.1) (fl,0,0) hH ?_ ?_
 exact Le.ct 0 0
 rintro⟨k1,v12,v13⟩ hH
 try dsimp only at hH⊢
 rcases k1 with _|k1
 cases (show none=some _ from hH)
 rw[qEI]at hH
 refine go ?_
 refine AW.cH hH (fun _ hH=>?_) (fun _ hH=>?_)
 refine go ?_
 obtain⟨u15,hx16,x17,hx18,hH⟩:=qAH hH
 refine go ?_
 refine AO.w (qHA rfl rfl rfl (neZ (qAP (hx16)))) ?_
 refine AO.w aws ?_
 refine AO.w (cVs (qLB _ _ _ (hx18))) (go ?_)
 refine⟨(k1,w64 (v12+(w64 (fall*x17))),w64 (v13+1)),hH,Nat.lt_succ_self _,?_⟩
 exact Le.ct 0 0
 refine go ?_
 exact fin
def qKJ (seconds:Int):Option Int :=
 (qAq (5 != 0)).bind fun u1 =>
 some (w64 ((w64 ((w64 (seconds+4)).tdiv 5))*100))
theorem qQK (seconds:Int) (r:Int) (hH:qKJ seconds=some r):qAC prog 258 [seconds] (.v (.int .i64 r)):=by
 refine fns T func258 ?_
 refine go ?_
 obtain⟨u1,hx2,hH⟩:=zB hH
 refine go ?_
 refine AO.w (qHA rfl rfl rfl (neZ (qAP (hx2)))) (go ?_)
 exact fin
def qJY (fl:Nat) (c:Code) (sA:Slips):Option Int :=
 (qJq fl c.fall sA.falls).bind fun x1 =>
 (qKJ sA.seconds).bind fun x3 =>
 some (w64 ((w64 (x1+x3))+sA.other))
theorem qQ4 (fl:Nat) (c:Code) (sA:Slips) (r:Int) (hH:qJY fl c sA=some r):qAC prog 191 [.g (ze4 c),.g (qLn sA)] (.v (.int .i64 r)):=by
 refine fns T func191 ?_
 refine go ?_
 refine AO.x (bxs T 1) ?_
 refine AO.x (bxs T 2) (go ?_)
 obtain⟨x1,hx2,x3,hx4,hH⟩:=qAH hH
 refine AW.drawn 11 3 [] mix (by kernel_rfl) rfl ?_
 refine go ?_
 refine AD.vv (cVs (qPA fl _ _ _ (hx2))) ?_
 refine go ?_
 refine AD.vv (cVs (qQK _ _ (hx4))) ?_
 refine AD.vv aws ?_
 refine go ?_
 exact fin
def qFr (fl:Nat) (c:Code) (p:Performance) (factor:Int):Option ac :=
 (qHk fl c p).bind fun x1 =>
 (qGO fl p.marks factor p.slips.falls).bind fun x3 =>
 (qJY fl c p.slips).bind fun x5 =>
 (qFb 0 (w64 ((w64 (x1+x3))-x5))).bind fun x7 =>
 some [x1,x3,x5,x7]
theorem qLF (fl:Nat) (c:Code) (p:Performance) (factor:Int) (r:(ac)) (hH:qFr fl c p factor=some r):qAC prog 133 [.g (ze4 c),.g (ze8 p),factor] (.w 1 (r.map ze0)):=by
 refine fns T func133 ?_
 refine go ?_
 refine AO.x (bxs T 1) ?_
 refine AO.x (bxs T 2) (go ?_)
 obtain⟨x1,hx2,x3,hx4,x5,hx6,hH⟩:=qBC hH
 refine AW.drawn 13 3 [] mix (by kernel_rfl) rfl ?_
 refine go ?_
 refine AD.vv (cVs (qMk fl _ _ _ (hx2))) ?_
 refine go ?_
 refine AD.vv (cVs (qNN fl _ _ _ _ (hx4))) ?_
 refine go ?_
 refine AO.w (cVs (qQ4 fl _ _ _ (hx6))) (go ?_)
 obtain⟨x7,hx8,hH⟩:=zB hH
 refine go ?_
 refine AO.w (cVs (qMM _ _ _ (hx8))) ?_
 refine AO.x (mks T 3 ze0 ([x1,x3,x5,x7])) ?_
 refine gs2 ?_
 refine AW.le (Le.ct 0 0 (σ':=(⟨[(6,.R 3)],[(3,ro 1 ze0 [x1,x3,x5,x7])],34,[]⟩:St))) ?_
 refine AW.t ?_
 exact fin
def qE6 (sA:aa):Nat->Int->ad
 |0,_=>none
 |k1+1,v7 =>
  cond (decide (v7<(sA.size:Int)))
   ((qOD sA v7).bind fun b9 =>
   cond ((decide ((b9.toNat:Int)<65)||decide ((b9.toNat:Int)>90))&&(decide ((b9.toNat:Int)<48)||decide ((b9.toNat:Int)>57)))
    (some false)
    (qE6 sA k1 (w64 (v7+1))))
   ((qAa (sA.size:Int) 1 5).bind fun x11 =>
   some x11)
def qKk (fl:Nat) (sA:aa):ad :=
 qE6 sA fl 0
theorem qPw (fl:Nat) (sA:aa) (r:Bool) (hH:qKk fl sA=some r):qAC prog 315 [.v (.string sA)] (.v (.bool r)):=by
 refine fns T func315 ?_
 refine go ?_
 refine AW.loopS (fun s:Nat×Int=>(⟨[(0,.v (.string sA)),(3,s.2)],[],35,[]⟩:St)) (fun s=>qE6 sA s.1 s.2=some r) (fun s=>s.1) (fl,0) hH ?_ ?_
 exact Le.ct 0 0
 rintro⟨k1,v7⟩ hH
 try dsimp only at hH⊢
 rcases k1 with _|k1
 cases (show none=some _ from hH)
 rw[qE6]at hH
 refine go ?_
 refine AW.cH hH (fun hc hH=>?_) (fun _ hH=>?_)
 refine go ?_
 obtain⟨b9,hx10,hH⟩:=zB hH
 refine go ?_
 refine AO.w (qBM T rfl rfl rfl rfl (hx10)) (go ?_)
 refine AO.g0 T ?_
 refine AO.g0 T ?_
 refine AO.d2 15 16 (fun hg=>qBM T rfl rfl rfl rfl (hx10)) ?_
 refine AO.g1 T 17 ?_
 refine go ?_
 refine AO.g0 T ?_
 refine AO.g0 T ?_
 refine AO.d2 21 22 (fun hg=>qBM T rfl rfl rfl rfl (hx10)) ?_
 refine AO.g1 T 23 ?_
 refine AO.g1 T 24 ?_
 refine AO.g0 T ?_
 refine AO.g0 T ?_
 refine AO.d2 26 27 (fun hg=>qBM T rfl rfl rfl rfl (hx10)) ?_
 refine AO.g1 T 28 ?_
 refine AO.d [25] rfl ⟨fun h=>h,trivial⟩ (fun hg=>zO rfl rfl rfl (by rw[hg];exact Bool.true_and _)) rfl ?_
 refine gs2 ?_
 refine AW.le (Le.ct 0 0 (σ':=(⟨[(0,.v (.string sA)),(3,v7),(31,.v (.bool ((decide ((b9.toNat:Int)<65)||decide ((b9.toNat:Int)>90))&&(decide ((b9.toNat:Int)<48)||decide ((b9.toNat:Int)>57)))))],[],35,[]⟩:St))) ?_
 refine AW.cH hH (fun _ hH=>?_) (fun hc hH=>?_)
 refine go ?_
 exact fin
 refine go ?_
 refine⟨(k1,w64 (v7+1)),hH,Nat.lt_succ_self _,?_⟩
 exact Le.ct 0 0
 refine go ?_
 obtain⟨x11,hx12,hH⟩:=zB hH
 refine go ?_
 refine AO.w (cVs (qAc _ _ _ _ (hx12))) (go ?_)
 exact fin
def qIZ (fl:Nat) (x:Element):ad :=
 (qKk fl x.name).bind fun x1 =>
 (opt x1 default (qAa x.family 0 4)).bind fun x3 =>
 (opt (x1&&x3) default (qAa x.level 0 4)).bind fun x5 =>
 (opt ((x1&&x3)&&x5) default (qAa x.base 1 2000)).bind fun x7 =>
 some (((x1&&x3)&&x5)&&x7)
theorem qNc (fl:Nat) (x:Element) (r:Bool) (hH:qIZ fl x=some r):qAC prog 265 [.g (ze7 x)] (.v (.bool r)):=by
 refine fns T func265 ?_
 refine go ?_
 refine AO.x (bxs T 1) (go ?_)
 obtain⟨x1,hx2,x3,hx4,x5,hx6,hH⟩:=qBC hH
 obtain⟨x7,hx8,hH⟩:=zB hH
 refine go ?_
 refine AO.w (cVs (qPw fl _ _ (hx2))) ?_
 refine AO.pu T ?_
 refine AO.g0 T ?_
 refine AO.g1 T 7 ?_
 refine AO.d1 8 (fun hg=>cVs (qAc _ _ _ _ (qE9 hx4 hg))) ?_
 refine go ?_
 refine AO.g0 T ?_
 refine AO.g1 T 12 ?_
 refine AO.d1 13 (fun hg=>cVs (qAc _ _ _ _ (qE9 hx6 hg))) ?_
 refine go ?_
 refine AO.g0 T ?_
 refine AO.g1 T 17 ?_
 refine AO.d1 18 (fun hg=>cVs (qAc _ _ _ _ (qE9 hx8 hg))) ?_
 refine go ?_
 exact fin
def qB8 (c:Code) (fl:Nat):List Element->Nat->ad
 | [],k1 =>
  (qAa (c.elements.length:Int) 1 24).bind fun x16 =>
  (opt (x16&&((c.limits.length:Int)==5)) default (qCz c.limits 0 9)).bind fun x18 =>
  (opt ((x16&&((c.limits.length:Int)==5))&&x18) default (qAa c.repeats 1 3)).bind fun x20 =>
  (opt (((x16&&((c.limits.length:Int)==5))&&x18)&&x20) default (qAa c.bonus 0 20)).bind fun x22 =>
  (opt ((((x16&&((c.limits.length:Int)==5))&&x18)&&x20)&&x22) default (qAa c.keeps 50 100)).bind fun x24 =>
  (opt (((((x16&&((c.limits.length:Int)==5))&&x18)&&x20)&&x22)&&x24) default (qAa c.fall 0 500)).bind fun x26 =>
  some ((((((x16&&((c.limits.length:Int)==5))&&x18)&&x20)&&x22)&&x24)&&x26)
 |y2::ys3,k1 =>
  (qIZ fl y2).bind fun x28 =>
  (opt ((!(!x28))&&decide ((k1:Int)>0)) default (qAT c.elements (w64 ((k1:Int)-1)))).bind fun x30 =>
  cond ((!x28)||(decide ((k1:Int)>0)&&(!qND x30.name y2.name)))
   (some false)
   (qB8 c fl ys3 (k1+1))
def qDO (fl:Nat) (c:Code):ad :=
 qB8 c fl c.elements 0
theorem qJj (fl:Nat) (c:Code) (r:Bool) (hH:qDO fl c=some r):qAC prog 207 [.g (ze4 c)] (.v (.bool r)):=by
 refine fns T func207 ?_
 refine go ?_
 refine AO.x (bxs T 1) (go ?_)
 refine AW.loopS (fun s:Nat=>(⟨[(1,.p 1 0),(6,sv ze7 c.elements),(7,(c.elements.length:Int)),(8,(s:Int))],[(1,.box (ze4 c))],68,[]⟩:St)) (fun s=>s<=c.elements.length/\qB8 c fl (c.elements.drop s) s=some r) (fun s=>c.elements.length-s) 0 ⟨Nat.zero_le _,hH⟩ ?_ ?_
 exact Le.ct 0 0
 rintro k1 ⟨hk,hH⟩
 try dsimp only at hH⊢
 refine AW.boundM (t:=6) (l:=c.elements) rfl (fun hb5=>?_)
 rcases hd4:c.elements.drop k1 with _|⟨y2,ys3⟩
 rw[hd4,qB8]at hH
 have hlt6:=qAF hd4
 refine go ?_
 obtain⟨x16,hx17,x18,hx19,x20,hx21,hH⟩:=qBC hH
 obtain⟨x22,hx23,x24,hx25,x26,hx27,hH⟩:=qBC hH
 refine go ?_
 refine AO.w (cVs (qAc _ _ _ _ (hx17))) ?_
 refine AO.pu T ?_
 refine AO.g0 T ?_
 refine AO.g1 T 38 ?_
 refine AO.d1 39 (fun hg=>qMi T) ?_
 refine AO.g1 T 40 ?_
 refine go ?_
 refine AO.g0 T ?_
 refine AO.g1 T 44 ?_
 refine AO.d1 45 (fun hg=>cVs (qHr _ _ _ _ (qE9 hx19 hg))) ?_
 refine go ?_
 refine AO.g0 T ?_
 refine AO.g1 T 49 ?_
 refine AO.d1 50 (fun hg=>cVs (qAc _ _ _ _ (qE9 hx21 hg))) ?_
 refine go ?_
 refine AO.g0 T ?_
 refine AO.g1 T 54 ?_
 refine AO.d1 55 (fun hg=>cVs (qAc _ _ _ _ (qE9 hx23 hg))) ?_
 refine go ?_
 refine AO.g0 T ?_
 refine AO.g1 T 59 ?_
 refine AO.d1 60 (fun hg=>cVs (qAc _ _ _ _ (qE9 hx25 hg))) ?_
 refine go ?_
 refine AO.g0 T ?_
 refine AO.g1 T 64 ?_
 refine AO.d1 65 (fun hg=>cVs (qAc _ _ _ _ (qE9 hx27 hg))) ?_
 refine gs3 ?_
 refine AW.le (Le.ct 0 0 (σ':=(⟨[(2,.v (.bool ((((((x16&&((c.limits.length:Int)==5))&&x18)&&x20)&&x22)&&x24)&&x26)))],[],68,[]⟩:St))) ?_
 refine AW.t ?_
 exact fin
 rw[hd4,qB8]at hH
 have hlt6:=qAG hd4
 refine go ?_
 refine AO.x (als T 4) ?_
 refine AO.pu T ?_
 refine AO.se T [.v (.string y2.name),y2.family,y2.level,y2.base] ?_
 refine go ?_
 obtain⟨x28,hx29,x30,hx31,hH⟩:=qAH hH
 refine AW.drawn 16 5 [] mix (by kernel_rfl) rfl ?_
 refine go ?_
 refine AD.vv (cVs (qNc fl _ _ (hx29))) ?_
 refine go ?_
 refine AD.pureG T [] rfl trivial rfl rfl ?_
 refine AD.pureG T [17] rfl ⟨fun h=>h,trivial⟩ rfl rfl ?_
 refine AD.pureG T [18] rfl ⟨fun h=>h,trivial⟩ rfl rfl ?_
 refine AD.pureG T [] rfl trivial rfl rfl ?_
 refine AD.pureG T [20] rfl ⟨fun h=>h,trivial⟩ rfl rfl ?_
 refine AD.pureG T [] rfl trivial rfl rfl ?_
 refine AD.guard [22] rfl ⟨fun h=>h,trivial⟩ (fun hg=>aws) rfl ?_
 refine AD.guard [21,23] rfl ⟨fun h=>h,fun h=>h,trivial⟩ (fun hg=>ixs T (qE9 hx31 hg)) rfl ?_
 refine AD.pureG T [24] rfl ⟨fun h=>h,trivial⟩ rfl rfl ?_
 refine AD.pureG T [25] rfl ⟨fun h=>h,trivial⟩ rfl rfl ?_
 refine AD.pureG T [] rfl trivial rfl rfl ?_
 refine AD.pureG T [27] rfl ⟨fun h=>h,trivial⟩ rfl rfl ?_
 refine AD.nil (AO.g2 T 26 28 ?_)
 refine AO.d [19] rfl ⟨fun h=>h,trivial⟩ (fun hg=>zN rfl rfl rfl (by rw[hg];exact Bool.true_and _)) rfl ?_
 refine gs2 ?_
 refine AW.le (Le.ct 0 0 (σ':=(⟨[(1,.p 1 0),(6,sv ze7 c.elements),(7,(c.elements.length:Int)),(8,(k1:Int)),(31,.v (.bool ((!x28)||(decide ((k1:Int)>0)&&(!qND x30.name y2.name)))))],[(1,.box (ze4 c))],68,[]⟩:St))) ?_
 refine AW.cH hH (fun _ hH=>?_) (fun _ hH=>?_)
 refine go ?_
 exact fin
 refine go ?_
 refine⟨k1+1,⟨hlt6,(zds hd4▸hH)⟩,qBl hlt6,?_⟩
 exact Le.ct 0 0
def qKR (b:Int):ad :=
 some ((decide (b>=65)&&decide (b<=90))||(decide (b>=48)&&decide (b<=57)))
theorem qP9 (b:Int) (r:Bool) (hH:qKR b=some r):qAC prog 312 [.v (.int .u8 b)] (.v (.bool r)):=by
 refine fns T func312 ?_
 refine go ?_
 refine AO.g0 T ?_
 refine AO.g1 T 6 ?_
 refine go ?_
 refine AO.g0 T ?_
 refine AO.g1 T 10 ?_
 refine AO.g1 T 11 ?_
 refine AO.g0 T ?_
 refine AO.g1 T 13 ?_
 refine AO.d [12] rfl ⟨fun h=>h,trivial⟩ (fun hg=>zN rfl rfl rfl (by rw[hg];exact Bool.true_and _)) rfl ?_
 refine go ?_
 exact fin
def qE4 (sA:aa):Nat->Int->ad
 |0,_=>none
 |k1+1,v11 =>
  cond (decide (v11<(sA.size:Int)))
   ((qOD sA v11).bind fun b13 =>
   (qKR (b13.toNat:Int)).bind fun x15 =>
   cond (!x15)
    (some false)
    (qE4 sA k1 (w64 (v11+1))))
   ((qAa (sA.size:Int) 1 5).bind fun x17 =>
   some x17)
def qGN (fl:Nat) (sA:aa):ad :=
 qE4 sA fl 0
theorem qP0 (fl:Nat) (sA:aa) (r:Bool) (hH:qGN fl sA=some r):qAC prog 261 [.v (.string sA)] (.v (.bool r)):=by
 refine fns T func261 ?_
 refine go ?_
 refine AW.loopS (fun s:Nat×Int=>(⟨[(0,.v (.string sA)),(3,s.2)],[],18,[]⟩:St)) (fun s=>qE4 sA s.1 s.2=some r) (fun s=>s.1) (fl,0) hH ?_ ?_
 exact Le.ct 0 0
 rintro⟨k1,v11⟩ hH
 try dsimp only at hH⊢
 rcases k1 with _|k1
 cases (show none=some _ from hH)
 rw[qE4]at hH
 refine go ?_
 refine AW.cH hH (fun hc hH=>?_) (fun _ hH=>?_)
 refine go ?_
 obtain⟨b13,hx14,x15,hx16,hH⟩:=qAH hH
 refine go ?_
 refine AO.w (qBM T rfl rfl rfl rfl (hx14)) ?_
 refine AO.w (cVs (qP9 _ _ (hx16))) (go ?_)
 refine AW.cH hH (fun _ hH=>?_) (fun hc hH=>?_)
 refine go ?_
 exact fin
 refine go ?_
 refine⟨(k1,w64 (v11+1)),hH,Nat.lt_succ_self _,?_⟩
 exact Le.ct 0 0
 refine go ?_
 obtain⟨x17,hx18,hH⟩:=zB hH
 refine go ?_
 refine AO.w (cVs (qAc _ _ _ _ (hx18))) (go ?_)
 exact fin
def qB9 (it:Item) (fl:Nat):List aa->Nat->ad
 | [],k1 =>
  (qAa (it.names.length:Int) 1 3).bind fun x12 =>
  (opt (x12&&((it.marks.length:Int)==(it.names.length:Int))) default (qCz it.marks 0 3)).bind fun x14 =>
  some ((x12&&((it.marks.length:Int)==(it.names.length:Int)))&&x14)
 |y2::ys3,k1 =>
  (qGN fl y2).bind fun x16 =>
  cond (!x16)
   (some false)
   (qB9 it fl ys3 (k1+1))
def qD0 (fl:Nat) (it:Item):ad :=
 qB9 it fl it.names 0
theorem qJk (fl:Nat) (it:Item) (r:Bool) (hH:qD0 fl it=some r):qAC prog 202 [.g (ze3 it)] (.v (.bool r)):=by
 refine fns T func202 ?_
 refine go ?_
 refine AO.x (bxs T 1) (go ?_)
 refine AW.loopS (fun s:Nat=>(⟨[(1,.p 1 0),(6,sv ze2 it.names),(7,(it.names.length:Int)),(8,(s:Int))],[(1,.box [sv ze2 it.names,sv ze0 it.marks,.v (.bool it.late)])],34,[]⟩:St)) (fun s=>s<=it.names.length/\qB9 it fl (it.names.drop s) s=some r) (fun s=>it.names.length-s) 0 ⟨Nat.zero_le _,hH⟩ ?_ ?_
 exact Le.ct 0 0
 rintro k1 ⟨hk,hH⟩
 try dsimp only at hH⊢
 refine AW.boundM (t:=6) (l:=it.names) rfl (fun hb5=>?_)
 rcases hd4:it.names.drop k1 with _|⟨y2,ys3⟩
 rw[hd4,qB9]at hH
 have hlt6:=qAF hd4
 refine go ?_
 obtain⟨x12,hx13,x14,hx15,hH⟩:=qAH hH
 refine go ?_
 refine AO.w (cVs (qAc _ _ _ _ (hx13))) ?_
 refine AO.pu T ?_
 refine AO.g0 T ?_
 refine AO.g1 T 21 ?_
 refine AO.d1 22 (fun hg=>qMi T) ?_
 refine AO.g0 T ?_
 refine AO.g1 T 24 ?_
 refine AO.d1 25 (fun hg=>qMi T) ?_
 refine AO.g2 T 23 26 ?_
 refine go ?_
 refine AO.g0 T ?_
 refine AO.g1 T 30 ?_
 refine AO.d1 31 (fun hg=>cVs (qHr _ _ _ _ (qE9 hx15 hg))) ?_
 refine go ?_
 exact fin
 rw[hd4,qB9]at hH
 have hlt6:=qAG hd4
 refine go ?_
 obtain⟨x16,hx17,hH⟩:=zB hH
 refine go ?_
 refine AO.w (cVs (qP0 fl _ _ (hx17))) (go ?_)
 refine AW.cH hH (fun _ hH=>?_) (fun _ hH=>?_)
 refine go ?_
 exact fin
 refine go ?_
 refine⟨k1+1,⟨hlt6,(zds hd4▸hH)⟩,qBl hlt6,?_⟩
 exact Le.ct 0 0
def qB2 (l:List Item) (fl:Nat):List Item->Nat->ad
 | [],k1 =>
  some (decide ((l.length:Int)<=14))
 |y2::ys3,k1 =>
  (qD0 fl y2).bind fun x12 =>
  cond (!x12)
   (some false)
   (qB2 l fl ys3 (k1+1))
def qFc (fl:Nat) (l:List Item):ad :=
 qB2 l fl l 0
theorem qP6 (fl:Nat) (l:List Item) (r:Bool) (hH:qFc fl l=some r):qAC prog 341 [.s (List.map ze3 l)] (.v (.bool r)):=by
 refine fns T func341 ?_
 refine go ?_
 refine AW.loopS (fun s:Nat=>(⟨[(0,sv ze3 l),(5,sv ze3 l),(6,(l.length:Int)),(7,(s:Int))],[],18,[]⟩:St)) (fun s=>s<=l.length/\qB2 l fl (l.drop s) s=some r) (fun s=>l.length-s) 0 ⟨Nat.zero_le _,hH⟩ ?_ ?_
 exact Le.ct 0 0
 rintro k1 ⟨hk,hH⟩
 try dsimp only at hH⊢
 refine AW.boundM (t:=0) (l:=l) rfl (fun hb5=>?_)
 rcases hd4:l.drop k1 with _|⟨y2,ys3⟩
 rw[hd4,qB2]at hH
 have hlt6:=qAF hd4
 refine go ?_
 exact fin
 rw[hd4,qB2]at hH
 have hlt6:=qAG hd4
 refine go ?_
 refine AO.x (als T 3) ?_
 refine AO.se T [sv ze2 y2.names,sv ze0 y2.marks,.v (.bool y2.late)] ?_
 refine go ?_
 obtain⟨x12,hx13,hH⟩:=zB hH
 refine go ?_
 refine AO.w (cVs (qJk fl _ _ (hx13))) (go ?_)
 refine AW.cH hH (fun _ hH=>?_) (fun _ hH=>?_)
 refine go ?_
 exact fin
 refine go ?_
 refine⟨k1+1,⟨hlt6,(zds hd4▸hH)⟩,qBl hlt6,?_⟩
 exact Le.ct 0 0
def qDk (c:Code):List aa->Nat->Option (Except Bool Unit)
 | [],k74 =>
  some (.ok ())
 |y75::ys76,k74 =>
  (qGT c y75).bind fun x85 =>
  cond (decide (x85<0))
   (some (.error false))
   (qDk c ys76 (k74+1))
def qDW (c:Code):List Item->Nat->ad
 | [],k1 =>
  some true
 |y2::ys3,k1 =>
  (qDk c y2.names 0).bind fun o72=>qLW o72 fun _ =>
  qDW c ys3 (k1+1)
def qFt (c:Code) (l:List Item):ad :=
 qDW c l 0
theorem qPp (c:Code) (l:List Item) (r:Bool) (hH:qFt c l=some r):qAC prog 342 [.g (ze4 c),.s (List.map ze3 l)] (.v (.bool r)):=by
 refine fns T func342 ?_
 refine gs2 ?_
 refine AO.x (bxs T 1) ?_
 iterate 10 refine gs ?_
 refine AW.loopS (fun s:Nat=>(⟨[(2,.p 1 0),(9,sv ze3 l),(10,(l.length:Int)),(11,(s:Int))],[(1,.box (ze4 c))],28,[]⟩:St)) (fun s=>s<=l.length/\qDW c (l.drop s) s=some r) (fun s=>l.length-s) 0 ⟨Nat.zero_le _,hH⟩ ?_ ?_
 exact Le.ct 0 0
 rintro k1 ⟨hk,hH⟩
 try dsimp only at hH⊢
 refine AW.boundM (t:=9) (l:=l) rfl (fun hb5=>?_)
 rcases hd4:l.drop k1 with _|⟨y2,ys3⟩
 rw[hd4,qDW]at hH
 have hlt6:=qAF hd4
 iterate 12 refine gs ?_
 exact fin
 rw[hd4,qDW]at hH
 have hlt6:=qAG hd4
 refine gs7 ?_
 obtain⟨o72,hH,hK73⟩:=zB hH
 refine AW.seqJ (fun s:Unit=>(⟨[(2,.p 1 0),(9,sv ze3 l),(10,(l.length:Int)),(11,(k1:Int))],[(1,.box (ze4 c))],28,[]⟩:St)) (fun s=>.ok s=o72) ?_ ?_
 refine gs5 ?_
 refine AO.x (als T 7) ?_
 refine AO.se T [sv ze2 y2.names,sv ze0 y2.marks,.v (.bool y2.late)] ?_
 refine gs9 ?_
 refine AW.loopS (fun s:Nat=>(⟨[(2,.p 1 0),(9,sv ze3 l),(10,(l.length:Int)),(11,(k1:Int)),(16,sv ze2 y2.names),(17,(y2.names.length:Int)),(18,(s:Int))],[(1,.box (ze4 c))],28,[]⟩:St)) (fun s=>s<=y2.names.length/\qDk c (y2.names.drop s) s=some o72) (fun s=>y2.names.length-s) 0 ⟨Nat.zero_le _,hH⟩ ?_ ?_
 exact Le.ct 0 0
 rintro k74 ⟨hk,hH⟩
 try dsimp only at hH⊢
 refine AW.boundM (t:=16) (l:=y2.names) rfl (fun hb78=>?_)
 rcases hd77:y2.names.drop k74 with _|⟨y75,ys76⟩
 rw[hd77,qDk]at hH
 have hlt79:=qAF hd77
 refine gs7 ?_
 refine⟨_,zS hH,?_⟩
 exact Le.ct 0 0
 rw[hd77,qDk]at hH
 have hlt79:=qAG hd77
 iterate 16 refine gs ?_
 obtain⟨x85,hx86,hH⟩:=zB hH
 refine gs3 ?_
 refine AO.w (cVs (qIC _ _ _ (hx86))) ?_
 refine gs2 ?_
 refine AW.cH hH (fun _ hH=>?_) (fun _ hH=>?_)
 refine gs5 ?_
 obtain rfl:=zS hH
 replace hH:=hK73
 exact fin
 refine gs5 ?_
 refine⟨k74+1,⟨hlt79,(zds hd77▸hH)⟩,qBl hlt79,?_⟩
 exact Le.ct 0 0
 rintro _ hs
 subst hs
 replace hH:=hK73
 try dsimp only[qLW,qJg]at hH
 try dsimp only
 refine gs4 ?_
 refine⟨k1+1,⟨hlt6,(zds hd4▸hH)⟩,qBl hlt6,?_⟩
 exact Le.ct 0 0
def qKM (fl:Nat) (c:Code) (l:List Item):ad :=
 (qDO fl c).bind fun x1 =>
 (opt x1 default (qFc fl l)).bind fun x3 =>
 (opt (x1&&x3) default (qFt c l)).bind fun x5 =>
 some ((x1&&x3)&&x5)
theorem qQB (fl:Nat) (c:Code) (l:List Item) (r:Bool) (hH:qKM fl c l=some r):qAC prog 313 [.g (ze4 c),.s (List.map ze3 l)] (.v (.bool r)):=by
 refine fns T func313 ?_
 refine go ?_
 refine AO.x (bxs T 1) (go ?_)
 obtain⟨x1,hx2,x3,hx4,x5,hx6,hH⟩:=qBC hH
 refine go ?_
 refine AO.w (cVs (qJj fl _ _ (hx2))) ?_
 refine AO.pu T ?_
 refine AO.g0 T ?_
 refine AO.d1 8 (fun hg=>cVs (qP6 fl _ _ (qE9 hx4 hg))) ?_
 refine go ?_
 refine AO.g T (d:=.g (ze4 c)) [] rfl trivial rfl rfl ?_
 refine AO.g0 T ?_
 refine AO.d2 12 13 (fun hg=>cVs (qPp _ _ _ (qE9 hx6 hg))) ?_
 refine go ?_
 exact fin
def qB0 (l:ac) (judges:Int) (component:Bool):ac->Nat->ad
 | [],k1 =>
  cond component
   ((opt ((l.length:Int)==judges) default (qCz l 0 1000)).bind fun x12 =>
   some (((l.length:Int)==judges)&&x12))
   ((opt ((l.length:Int)==judges) default (qCz l (-5) 5)).bind fun x14 =>
   some (((l.length:Int)==judges)&&x14))
 |y2::ys3,k1 =>
  (opt component default (qAq (25 != 0))).bind fun u16 =>
  cond (component&&((y2.tmod 25) != 0))
   (some false)
   (qB0 l judges component ys3 (k1+1))
def qHi (l:ac) (judges:Int) (component:Bool):ad :=
 qB0 l judges component l 0
theorem qMR (l:ac) (judges:Int) (component:Bool) (r:Bool) (hH:qHi l judges component=some r):qAC prog 267 [.s (List.map ze0 l),judges,.v (.bool component)] (.v (.bool r)):=by
 refine fns T func267 ?_
 refine go ?_
 refine AW.loopS (fun s:Nat=>(⟨[(0,sv ze0 l),(1,judges),(2,.v (.bool component)),(9,sv ze0 l),(10,(l.length:Int)),(11,(s:Int))],[],39,[]⟩:St)) (fun s=>s<=l.length/\qB0 l judges component (l.drop s) s=some r) (fun s=>l.length-s) 0 ⟨Nat.zero_le _,hH⟩ ?_ ?_
 exact Le.ct 0 0
 rintro k1 ⟨hk,hH⟩
 try dsimp only at hH⊢
 refine AW.boundM (t:=0) (l:=l) rfl (fun hb5=>?_)
 rcases hd4:l.drop k1 with _|⟨y2,ys3⟩
 rw[hd4,qB0]at hH
 have hlt6:=qAF hd4
 refine go ?_
 refine AW.cH hH (fun _ hH=>?_) (fun hc hH=>?_)
 refine AW.q ?_
 obtain⟨x12,hx13,hH⟩:=zB hH
 refine go ?_
 refine AO.g0 T ?_
 refine AO.d1 28 (fun hg=>cVs (qHr _ _ _ _ (qE9 hx13 hg))) ?_
 refine go ?_
 exact fin
 refine go ?_
 obtain⟨x14,hx15,hH⟩:=zB hH
 refine go ?_
 refine AO.g0 T ?_
 refine AO.d1 36 (fun hg=>cVs (qHr _ _ _ _ (qE9 hx15 hg))) ?_
 refine go ?_
 exact fin
 rw[hd4,qB0]at hH
 have hlt6:=qAG hd4
 refine go ?_
 obtain⟨u16,hx17,hH⟩:=zB hH
 refine go ?_
 refine AO.g0 T ?_
 refine AO.d1 17 (fun hg=>qOJ rfl rfl rfl (neZ (qAP (qE9 hx17 hg)))) ?_
 refine AO.g1 T 18 ?_
 refine go ?_
 refine AW.cH hH (fun _ hH=>?_) (fun _ hH=>?_)
 refine go ?_
 exact fin
 refine go ?_
 refine⟨k1+1,⟨hlt6,(zds hd4▸hH)⟩,qBl hlt6,?_⟩
 exact Le.ct 0 0
def qEl (x1:ac):List ac->Nat->ad
 | [],k14 =>
  (qAa (x1.length:Int) 3 9).bind fun x25 =>
  some x25
 |y15::ys16,k14 =>
  (qHi y15 (x1.length:Int) true).bind fun x27 =>
  cond (!x27)
   (some false)
   (qEl x1 ys16 (k14+1))
def qEo (m:Marks) (x1:ac):List ac->Nat->ad
 | [],k3 =>
  qEl x1 m.components 0
 |y4::ys5,k3 =>
  (qHi y4 (x1.length:Int) false).bind fun x29 =>
  cond (!x29)
   (some false)
   (qEo m x1 ys5 (k3+1))
def qFP (m:Marks):ad :=
 cond (((m.components.length:Int) != 3)||decide ((m.grades.length:Int)>14))
  (some false)
  ((qAT m.components 0).bind fun x1 =>
  qEo m x1 m.grades 0)
theorem qKi (m:Marks) (r:Bool) (hH:qFP m=some r):qAC prog 212 [.g (qAb m)] (.v (.bool r)):=by
 refine fns T func212 ?_
 refine go ?_
 refine AO.x (bxs T 1) (go ?_)
 refine AO.g0 T ?_
 refine AO.g1 T 13 ?_
 refine AO.d1 14 (fun hg=>qMi T) ?_
 refine AO.g1 T 15 ?_
 refine go ?_
 refine AW.cH hH (fun _ hH=>?_) (fun hc hH=>?_)
 refine go ?_
 exact fin
 refine go ?_
 obtain⟨x1,hx2,hH⟩:=zB hH
 refine go ?_
 refine AW.loopS (fun s:Nat=>(⟨[(1,.p 1 0),(3,(x1.length:Int)),(24,sv ze5 m.grades),(25,(m.grades.length:Int)),(26,(s:Int))],[(1,.box [sv ze5 m.grades,sv ze5 m.components])],49,[]⟩:St)) (fun s=>s<=m.grades.length/\qEo m x1 (m.grades.drop s) s=some r) (fun s=>m.grades.length-s) 0 ⟨Nat.zero_le _,hH⟩ ?_ ?_
 exact Le.ct 0 0
 rintro k3 ⟨hk,hH⟩
 try dsimp only at hH⊢
 refine AW.boundM (t:=24) (l:=m.grades) rfl (fun hb7=>?_)
 rcases hd6:m.grades.drop k3 with _|⟨y4,ys5⟩
 rw[hd6,qEo]at hH
 have hlt8:=qAF hd6
 refine go ?_
 refine AW.loopS (fun s:Nat=>(⟨[(3,(x1.length:Int)),(36,sv ze5 m.components),(37,(m.components.length:Int)),(38,(s:Int))],[],49,[]⟩:St)) (fun s=>s<=m.components.length/\qEl x1 (m.components.drop s) s=some r) (fun s=>m.components.length-s) 0 ⟨Nat.zero_le _,hH⟩ ?_ ?_
 exact Le.ct 0 0
 rintro k14 ⟨hk,hH⟩
 try dsimp only at hH⊢
 refine AW.boundM (t:=36) (l:=m.components) rfl (fun hb18=>?_)
 rcases hd17:m.components.drop k14 with _|⟨y15,ys16⟩
 rw[hd17,qEl]at hH
 have hlt19:=qAF hd17
 refine go ?_
 obtain⟨x25,hx26,hH⟩:=zB hH
 refine go ?_
 refine AO.w (cVs (qAc _ _ _ _ (hx26))) (go ?_)
 exact fin
 rw[hd17,qEl]at hH
 have hlt19:=qAG hd17
 refine go ?_
 obtain⟨x27,hx28,hH⟩:=zB hH
 refine go ?_
 refine AO.w (cVs (qMR _ _ _ _ (hx28))) (go ?_)
 refine AW.cH hH (fun _ hH=>?_) (fun hc hH=>?_)
 refine go ?_
 exact fin
 refine go ?_
 refine⟨k14+1,⟨hlt19,(zds hd17▸hH)⟩,qBl hlt19,?_⟩
 exact Le.ct 0 0
 rw[hd6,qEo]at hH
 have hlt8:=qAG hd6
 refine go ?_
 obtain⟨x29,hx30,hH⟩:=zB hH
 refine go ?_
 refine AO.w (cVs (qMR _ _ _ _ (hx30))) (go ?_)
 refine AW.cH hH (fun _ hH=>?_) (fun _ hH=>?_)
 refine go ?_
 exact fin
 refine go ?_
 refine⟨k3+1,⟨hlt8,(zds hd6▸hH)⟩,qBl hlt8,?_⟩
 exact Le.ct 0 0
def qKb (m:Marks) (items:Int):ad :=
 (qFP m).bind fun x1 =>
 some (x1&&((m.grades.length:Int)==items))
theorem qP2 (m:Marks) (items:Int) (r:Bool) (hH:qKb m items=some r):qAC prog 314 [.g (qAb m),items] (.v (.bool r)):=by
 refine fns T func314 ?_
 refine go ?_
 refine AO.x (bxs T 1) (go ?_)
 obtain⟨x1,hx2,hH⟩:=zB hH
 refine go ?_
 refine AO.w (cVs (qKi _ _ (hx2))) ?_
 refine AO.pu T ?_
 refine AO.g0 T ?_
 refine AO.g1 T 8 ?_
 refine AO.d1 9 (fun hg=>qMi T) ?_
 refine AO.g0 T ?_
 refine AO.g2 T 10 11 ?_
 refine go ?_
 exact fin
def qKY (fl:Nat) (c:Code) (l:List Item) (m:Marks):ad :=
 (qKM fl c l).bind fun x1 =>
 (opt x1 default (qKb m (l.length:Int))).bind fun x3 =>
 some (x1&&x3)
theorem qPy (fl:Nat) (c:Code) (l:List Item) (m:Marks) (r:Bool) (hH:qKY fl c l m=some r):qAC prog 263 [.g (ze4 c),.s (List.map ze3 l),.g (qAb m)] (.v (.bool r)):=by
 refine fns T func263 ?_
 refine go ?_
 refine AO.x (bxs T 1) ?_
 refine AO.x (bxs T 2) (go ?_)
 obtain⟨x1,hx2,x3,hx4,hH⟩:=qAH hH
 refine go ?_
 refine AO.w (cVs (qQB fl _ _ _ (hx2))) ?_
 refine AO.pu T ?_
 refine AO.g T (d:=.g [sv ze5 m.grades,sv ze5 m.components]) [] rfl trivial rfl rfl ?_
 refine AO.g0 T ?_
 refine AO.d1 12 (fun hg=>qMi T) ?_
 refine AO.d2 11 13 (fun hg=>cVs (qP2 _ _ _ (qE9 hx4 hg))) ?_
 refine go ?_
 exact fin
def qHP (sA:Slips):ad :=
 (qAa sA.falls 0 9).bind fun x1 =>
 (opt x1 default (qAa sA.seconds 0 60)).bind fun x3 =>
 (opt (x1&&x3) default (qAa sA.other 0 500)).bind fun x5 =>
 some ((x1&&x3)&&x5)
theorem qP8 (sA:Slips) (r:Bool) (hH:qHP sA=some r):qAC prog 264 [.g (qLn sA)] (.v (.bool r)):=by
 refine fns T func264 ?_
 refine go ?_
 refine AO.x (bxs T 1) (go ?_)
 obtain⟨x1,hx2,x3,hx4,x5,hx6,hH⟩:=qBC hH
 refine go ?_
 refine AO.w (cVs (qAc _ _ _ _ (hx2))) ?_
 refine AO.pu T ?_
 refine AO.g0 T ?_
 refine AO.g1 T 7 ?_
 refine AO.d1 8 (fun hg=>cVs (qAc _ _ _ _ (qE9 hx4 hg))) ?_
 refine go ?_
 refine AO.g0 T ?_
 refine AO.g1 T 12 ?_
 refine AO.d1 13 (fun hg=>cVs (qAc _ _ _ _ (qE9 hx6 hg))) ?_
 refine go ?_
 exact fin
def qBa (fl:Nat) (c:Code) (p:Performance):ad :=
 (qKY fl c p.items p.marks).bind fun x1 =>
 (opt x1 default (qHP p.slips)).bind fun x3 =>
 some (x1&&x3)
theorem qMK (fl:Nat) (c:Code) (p:Performance) (r:Bool) (hH:qBa fl c p=some r):qAC prog 204 [.g (ze4 c),.g (ze8 p)] (.v (.bool r)):=by
 refine fns T func204 ?_
 refine go ?_
 refine AO.x (bxs T 1) ?_
 refine AO.x (bxs T 2) (go ?_)
 obtain⟨x1,hx2,x3,hx4,hH⟩:=qAH hH
 refine go ?_
 refine AO.w (cVs (qPy fl _ _ _ _ (hx2))) ?_
 refine AO.pu T ?_
 refine AO.g0 T ?_
 refine AO.g T (d:=.g [p.slips.falls,p.slips.seconds,p.slips.other]) [12] rfl ⟨fun h=>h,trivial⟩ rfl rfl ?_
 refine AO.d1 13 (fun hg=>cVs (qP8 _ _ (qE9 hx4 hg))) ?_
 refine go ?_
 exact fin
def qFE (factor:Int):ad :=
 (qAa factor 10 400).bind fun x1 =>
 some x1
theorem qKp (factor:Int) (r:Bool) (hH:qFE factor=some r):qAC prog 147 [factor] (.v (.bool r)):=by
 refine fns T func147 ?_
 refine go ?_
 obtain⟨x1,hx2,hH⟩:=zB hH
 refine go ?_
 refine AO.w (cVs (qAc _ _ _ _ (hx2))) (go ?_)
 exact fin
def qGj (fl:Nat) (c:Code) (p:Performance) (factor:Int):ad :=
 (qBa fl c p).bind fun x1 =>
 (opt x1 default (qFE factor)).bind fun x3 =>
 some (x1&&x3)
theorem qLS (fl:Nat) (c:Code) (p:Performance) (factor:Int) (r:Bool) (hH:qGj fl c p factor=some r):qAC prog 193 [.g (ze4 c),.g (ze8 p),factor] (.v (.bool r)):=by
 refine fns T func193 ?_
 refine go ?_
 refine AO.x (bxs T 1) ?_
 refine AO.x (bxs T 2) (go ?_)
 obtain⟨x1,hx2,x3,hx4,hH⟩:=qAH hH
 refine go ?_
 refine AO.w (cVs (qMK fl _ _ _ (hx2))) ?_
 refine AO.pu T ?_
 refine AO.g0 T ?_
 refine AO.d1 11 (fun hg=>cVs (qKp _ _ (qE9 hx4 hg))) ?_
 refine go ?_
 exact fin
def qEX (m:Marks):Option Int :=
 (qAT m.components 0).bind fun x1 =>
 some (x1.length:Int)
theorem qIV (m:Marks) (r:Int) (hH:qEX m=some r):qAC prog 139 [.g (qAb m)] (.v (.int .i64 r)):=by
 refine fns T func139 ?_
 refine go ?_
 refine AO.x (bxs T 1) (go ?_)
 obtain⟨x1,hx2,hH⟩:=zB hH
 refine go ?_
 exact fin
def qGu (p:Performance):Option Int :=
 (qEX p.marks).bind fun x1 =>
 cond (decide (x1>=5))
  (some (w64 (x1-2)))
  (some x1)
theorem qLM (p:Performance) (r:Int) (hH:qGu p=some r):qAC prog 195 [.g (ze8 p)] (.v (.int .i64 r)):=by
 refine fns T func195 ?_
 refine go ?_
 refine AO.x (bxs T 1) (go ?_)
 obtain⟨x1,hx2,hH⟩:=zB hH
 refine go ?_
 refine AO.w (cVs (qIV _ _ (hx2))) (go ?_)
 refine AW.cH hH (fun _ hH=>?_) (fun _ hH=>?_)
 refine go ?_
 exact fin
 refine go ?_
 exact fin
def qH4 (a:Int) (b:Int):Option Int :=
 (qAq (b != 0)).bind fun u1 =>
 some (w64 ((w64 ((w64 (a+b))-1)).tdiv b))
theorem qLY (a:Int) (b:Int) (r:Int) (hH:qH4 a b=some r):qAC prog 194 [a,b] (.v (.int .i64 r)):=by
 refine fns T func194 ?_
 refine go ?_
 obtain⟨u1,hx2,hH⟩:=zB hH
 refine go ?_
 refine AO.w (qHA rfl rfl rfl (neZ (qAP (hx2)))) (go ?_)
 exact fin
def qKd (c:Code) (p:Performance) (k:Int):Option Int :=
 (qEi c p.items k).bind fun x1 =>
 cond (x1==0)
  (some 0)
  ((qAT p.items k).bind fun x3 =>
  (qIx c x3).bind fun x5 =>
  (qGu p).bind fun x7 =>
  (qH4 x5 x7).bind fun x9 =>
  some x9)
theorem qRS (c:Code) (p:Performance) (k:Int) (r:Int) (hH:qKd c p k=some r):qAC prog 196 [.g (ze4 c),.g (ze8 p),k] (.v (.int .i64 r)):=by
 refine fns T func196 ?_
 refine go ?_
 refine AO.x (bxs T 1) ?_
 refine AO.x (bxs T 2) (go ?_)
 obtain⟨x1,hx2,hH⟩:=zB hH
 refine go ?_
 refine AO.w (cVs (qIB _ _ _ _ (hx2))) (go ?_)
 refine AW.cH hH (fun _ hH=>?_) (fun _ hH=>?_)
 refine go ?_
 exact fin
 refine go ?_
 obtain⟨x3,hx4,x5,hx6,x7,hx8,hH⟩:=qBC hH
 obtain⟨x9,hx10,hH⟩:=zB hH
 refine AW.drawn 8 3 [] mix (by kernel_rfl) rfl ?_
 refine go ?_
 refine AD.vv (cVs (qMH _ _ _ (hx6))) ?_
 refine go ?_
 refine AO.w (cVs (qLM _ _ (hx8))) ?_
 refine AO.w (cVs (qLY _ _ _ (hx10))) (go ?_)
 exact fin
def qBW (c:Code) (p:Performance):List Item->Nat->Int->Option ((Int×Bool))
 | [],k9,v20 =>
  some (v20,true)
 |y10::ys11,k9,v20 =>
  (qKd c p (k9:Int)).bind fun x22 =>
  qBW c p ys11 (k9+1) (w64 (v20+x22))
def qES (fl:Nat) (c:Code) (p:Performance) (factor:Int):Option (Int×Bool) :=
 (qGj fl c p factor).bind fun x1 =>
 cond (!x1)
  (some (0,false))
  ((qGu p).bind fun x3 =>
  (qH4 1000 x3).bind fun x5 =>
  (qH4 (w64 ((w64 (factor*3))*x5)) 100).bind fun x7 =>
  qBW c p p.items 0 x7)
theorem qL3 (fl:Nat) (c:Code) (p:Performance) (factor:Int) (r:(Int×Bool)) (hH:qES fl c p factor=some r):qAC prog 134 [.g (ze4 c),.g (ze8 p),factor] (.t [.v (.int .i64 r.1),.v (.bool r.2)]):=by
 refine fns T func134 ?_
 refine go ?_
 refine AO.x (bxs T 1) ?_
 refine AO.x (bxs T 2) (go ?_)
 obtain⟨x1,hx2,hH⟩:=zB hH
 refine go ?_
 refine AO.w (cVs (qLS fl _ _ _ _ (hx2))) (go ?_)
 refine AW.cH hH (fun _ hH=>?_) (fun _ hH=>?_)
 refine go ?_
 exact fin
 refine go ?_
 obtain⟨x3,hx4,x5,hx6,x7,hx8,hH⟩:=qBC hH
 refine go ?_
 refine AO.w (cVs (qLM _ _ (hx4))) ?_
 refine AO.w (cVs (qLY _ _ _ (hx6))) ?_
 refine AO.w aws ?_
 refine AO.w (cVs (qLY _ _ _ (hx8))) (go ?_)
 refine AW.loopS (fun s:Nat×Int=>(⟨[(3,.p 1 0),(4,.p 2 0),(8,s.2),(24,(p.items.length:Int)),(25,(s.1:Int))],[(1,.box (ze4 c)),(2,.box (ze8 p))],36,[]⟩:St)) (fun s=>s.1<=p.items.length/\qBW c p (p.items.drop s.1) s.1 s.2=some r) (fun s=>p.items.length-s.1) (0,x7) ⟨Nat.zero_le _,hH⟩ ?_ ?_
 exact Le.ct 0 0
 rintro⟨k9,v20⟩ ⟨hk,hH⟩
 try dsimp only at hH⊢
 refine AW.boundBox (id:=2) (j:=0) (l:=p.items) rfl rfl (fun hb13=>?_)
 rcases hd12:p.items.drop k9 with _|⟨y10,ys11⟩
 rw[hd12,qBW]at hH
 have hlt14:=qAF hd12
 refine go ?_
 exact fin
 rw[hd12,qBW]at hH
 have hlt14:=qAG hd12
 refine go ?_
 obtain⟨x22,hx23,hH⟩:=zB hH
 refine go ?_
 refine AO.w (cVs (qRS _ _ _ _ (hx23))) (go ?_)
 refine⟨(k9+1,w64 (v20+x22)),⟨hlt14,(zds hd12▸hH)⟩,qBl hlt14,?_⟩
 exact Le.ct 0 0
def qDP (fl:Nat) (c:Code) (p:Performance) (factor:Int):Option Int :=
 (qFr fl c p factor).bind fun x1 =>
 (qAT x1 3).bind fun x3 =>
 some x3
theorem qHX (fl:Nat) (c:Code) (p:Performance) (factor:Int) (r:Int) (hH:qDP fl c p factor=some r):qAC prog 197 [.g (ze4 c),.g (ze8 p),factor] (.v (.int .i64 r)):=by
 refine fns T func197 ?_
 refine go ?_
 refine AO.x (bxs T 1) ?_
 refine AO.x (bxs T 2) (go ?_)
 obtain⟨x1,hx2,x3,hx4,hH⟩:=qAH hH
 refine go ?_
 refine AO.x (qAV rfl 3 rfl rfl rfl (qLF fl _ _ _ _ (hx2)) rfl rfl rfl) (go ?_)
 refine AO.w (zLr T rfl rfl rfl rfl (zgG (hx4)) rfl rfl rfl) (go ?_)
 exact fin
def qEs (k1:Nat) (k434:Nat) (y435:Int):Nat->List ac->Int->Option (List ac)
 |0,_,_=>none
 |k507+1,v514,v515 =>
  cond (decide (v515<=3))
   (cond (v515 != y435)
    ((qAq (qAi 24 (v514.length+([[(k1:Int),(k434:Int),v515]]).length))).bind fun u517 =>
    qEs k1 k434 y435 k507 (v514++[[(k1:Int),(k434:Int),v515]]) (w64 (v515+1)))
    (qEs k1 k434 y435 k507 v514 (w64 (v515+1))))
   (some v514)
def qEw (fl:Nat) (k1:Nat):ac->Nat->List ac->Option (List ac)
 | [],k434,v491 =>
  some v491
 |y435::ys436,k434,v491 =>
  (qEs k1 k434 y435 fl v491 0).bind fun v504 =>
  qEw fl k1 ys436 (k434+1) v504
def qE0 (fl:Nat):List Item->Nat->List ac->Option ((List ac))
 | [],k1,v346 =>
  some v346
 |y2::ys3,k1,v346 =>
  (qEw fl k1 y2.marks 0 v346).bind fun v431 =>
  qE0 fl ys3 (k1+1) v431
def qK8 (fl:Nat) (l:List Item):Option (List ac) :=
 qE0 fl l 0 []
theorem qRB (fl:Nat) (l:List Item) (r:(List ac)) (hH:qK8 fl l=some r):qAC prog 198 [.s (List.map ze3 l)] (.w 1 (r.map ze5)):=by
 refine fns T func198 ?_
 iterate 16 refine gs ?_
 refine AW.loopS (fun s:Nat×(List ac)=>(⟨[(3,.R 7),(9,sv ze3 l),(10,(l.length:Int)),(11,(s.1:Int))],[(7,ro 1 ze5 s.2)],41,[]⟩:St)) (fun s=>s.1<=l.length/\qE0 fl (l.drop s.1) s.1 s.2=some r) (fun s=>l.length-s.1) (0,[]) ⟨Nat.zero_le _,hH⟩ ?_ ?_
 refine Le.trans (Le.void 3 7 1 rfl rfl) ?_
 exact Le.ct 0 0
 rintro⟨k1,v346⟩ ⟨hk,hH⟩
 try dsimp only at hH⊢
 refine AW.boundM (t:=9) (l:=l) rfl (fun hb5=>?_)
 rcases hd4:l.drop k1 with _|⟨y2,ys3⟩
 rw[hd4,qE0]at hH
 have hlt6:=qAF hd4
 iterate 13 refine gs ?_
 exact fin
 rw[hd4,qE0]at hH
 have hlt6:=qAG hd4
 refine gs7 ?_
 obtain⟨o432,hH,hK433⟩:=zB hH
 refine AW.seqJ (fun s:List ac=>(⟨[(3,.R 7),(9,sv ze3 l),(10,(l.length:Int)),(11,(k1:Int))],[(7,ro 1 ze5 s)],41,[]⟩:St)) (fun s=>s=o432) ?_ ?_
 refine gs6 ?_
 refine AO.x (als T 276) ?_
 refine AO.pu T ?_
 refine AO.se T [sv ze2 y2.names,sv ze0 y2.marks,.v (.bool y2.late)] ?_
 refine gs9 ?_
 refine AW.loopS (fun s:Nat×(List ac)=>(⟨[(3,.R 7),(4,(k1:Int)),(9,sv ze3 l),(10,(l.length:Int)),(11,(k1:Int)),(17,sv ze0 y2.marks),(18,(y2.marks.length:Int)),(19,(s.1:Int))],[(7,ro 1 ze5 s.2)],41,[]⟩:St)) (fun s=>s.1<=y2.marks.length/\qEw fl k1 (y2.marks.drop s.1) s.1 s.2=some o432) (fun s=>y2.marks.length-s.1) (0,v346) ⟨Nat.zero_le _,hH⟩ ?_ ?_
 exact Le.ct 0 0
 rintro⟨k434,v491⟩ ⟨hk,hH⟩
 try dsimp only at hH⊢
 refine AW.boundM (t:=17) (l:=y2.marks) rfl (fun hb438=>?_)
 rcases hd437:y2.marks.drop k434 with _|⟨y435,ys436⟩
 rw[hd437,qEw]at hH
 have hlt439:=qAF hd437
 refine gs7 ?_
 refine⟨_,zS hH,?_⟩
 exact Le.ct 0 0
 rw[hd437,qEw]at hH
 have hlt439:=qAG hd437
 refine gs7 ?_
 obtain⟨o505,hH,hK506⟩:=zB hH
 refine AW.seqJ (fun s:List ac=>(⟨[(3,.R 7),(4,(k1:Int)),(9,sv ze3 l),(10,(l.length:Int)),(11,(k1:Int)),(17,sv ze0 y2.marks),(18,(y2.marks.length:Int)),(19,(k434:Int))],[(7,ro 1 ze5 s)],41,[]⟩:St)) (fun s=>s=o505) ?_ ?_
 iterate 14 refine gs ?_
 refine AW.loopS (fun s:Nat×(List ac)×Int=>(⟨[(3,.R 7),(4,(k1:Int)),(6,(k434:Int)),(7,y435),(8,s.2.2),(9,sv ze3 l),(10,(l.length:Int)),(11,(k1:Int)),(17,sv ze0 y2.marks),(18,(y2.marks.length:Int)),(19,(k434:Int))],[(7,ro 1 ze5 s.2.1)],41,[]⟩:St)) (fun s=>qEs k1 k434 y435 s.1 s.2.1 s.2.2=some o505) (fun s=>s.1) (fl,v491,0) hH ?_ ?_
 exact Le.ct 0 0
 rintro⟨k507,v514,v515⟩ hH
 try dsimp only at hH⊢
 rcases k507 with _|k507
 cases (show none=some _ from hH)
 rw[qEs]at hH
 refine gs6 ?_
 refine AW.cH hH (fun hc hH=>?_) (fun _ hH=>?_)
 refine gs9 ?_
 refine AW.cH hH (fun _ hH=>?_) (fun hc hH=>?_)
 obtain⟨u517,hx518,hH⟩:=zB hH
 refine gs5 ?_
 refine AO.x (mks T 328 ze0 ([(k1:Int),(k434:Int),v515])) ?_
 refine AO.le (Le.fM 328 (g:=ze0) rfl (fun y=>.vs rfl)) ?_
 refine AO.x (mks T 329 ze5 ([[(k1:Int),(k434:Int),v515]])) ?_
 refine AO.x (rvs T 330 (hfit:=by exact qAP (hx518))) ?_
 refine gs7 ?_
 refine⟨(k507,(v514++[[(k1:Int),(k434:Int),v515]]),w64 (v515+1)),hH,Nat.lt_succ_self _,?_⟩
 exact Le.ct 330 7
 refine gs6 ?_
 refine⟨(k507,v514,w64 (v515+1)),hH,Nat.lt_succ_self _,?_⟩
 exact Le.ct 0 0
 refine AW.exit ?_
 refine⟨_,zS hH,?_⟩
 exact Le.ct 0 0
 rintro v504 hs
 subst hs
 replace hH:=hK506
 try dsimp only[qLW,qJg]at hH
 try dsimp only
 refine gs4 ?_
 refine⟨(k434+1,v504),⟨hlt439,(zds hd437▸hH)⟩,qBl hlt439,?_⟩
 exact Le.ct 0 0
 rintro v431 hs
 subst hs
 replace hH:=hK433
 try dsimp only[qLW,qJg]at hH
 try dsimp only
 refine gs4 ?_
 refine⟨(k1+1,v431),⟨hlt6,(zds hd4▸hH)⟩,qBl hlt6,?_⟩
 exact Le.ct 0 0
def qDz (v16:List ac):List ac->Nat->List ac->Option Marks
 | [],k18,v33 =>
  some (Marks.mk v16 v33)
 |y19::ys20,k18,v33 =>
  (qFO y19).bind fun x35 =>
  (qAq (qAi 24 (v33.length+([x35]).length))).bind fun u37 =>
  qDz v16 ys20 (k18+1) (v33++[x35])
def qEn (m:Marks):List ac->Nat->List ac->Option Marks
 | [],k1,v16 =>
  qDz v16 m.components 0 []
 |y2::ys3,k1,v16 =>
  (qFO y2).bind fun x39 =>
  (qAq (qAi 24 (v16.length+([x39]).length))).bind fun u41 =>
  qEn m ys3 (k1+1) (v16++[x39])
def qFR (m:Marks):Option Marks :=
 qEn m m.grades 0 []
theorem qI1 (m:Marks) (r:Marks) (hH:qFR m=some r):qAC prog 81 [.g (qAb m)] (.g (qEy r)):=by
 refine fns T func81 ?_
 refine go ?_
 refine AO.x (bxs T 1) ?_
 refine AO.x (als T 2) (go ?_)
 refine AO.x (als T 3) ?_
 refine AO.se T [.w 0 [],.w 0 []] ?_
 refine go ?_
 refine AW.loopS (fun s:Nat×(List ac)=>(⟨[(1,.p 1 0),(2,.p 2 0),(3,.p 3 0),(10,sv ze5 m.grades),(11,(m.grades.length:Int)),(12,(s.1:Int))],[(1,.box [sv ze5 m.grades,sv ze5 m.components]),(2,.box [.w 0 [],.w 0 []]),(3,.box [.R 9,.w 0 []]),(9,ro 1 ze1 s.2)],40,[]⟩:St)) (fun s=>s.1<=m.grades.length/\qEn m (m.grades.drop s.1) s.1 s.2=some r) (fun s=>m.grades.length-s.1) (0,[]) ⟨Nat.zero_le _,hH⟩ ?_ ?_
 refine Le.trans (Le.voidBox 3 0 9 1 rfl rfl rfl rfl) ?_
 exact Le.ct 0 0
 rintro⟨k1,v16⟩ ⟨hk,hH⟩
 try dsimp only at hH⊢
 refine AW.boundM (t:=10) (l:=m.grades) rfl (fun hb5=>?_)
 rcases hd4:m.grades.drop k1 with _|⟨y2,ys3⟩
 rw[hd4,qEn]at hH
 have hlt6:=qAF hd4
 refine go ?_
 refine AW.loopS (fun s:Nat×(List ac)=>(⟨[(2,.p 2 0),(3,.p 3 0),(25,sv ze5 m.components),(26,(m.components.length:Int)),(27,(s.1:Int))],[(2,.box [.w 0 [],.w 0 []]),(3,.box [.R 9,.R 15]),(9,ro 1 ze1 v16),(15,ro 1 ze1 s.2)],40,[]⟩:St)) (fun s=>s.1<=m.components.length/\qDz v16 (m.components.drop s.1) s.1 s.2=some r) (fun s=>m.components.length-s.1) (0,[]) ⟨Nat.zero_le _,hH⟩ ?_ ?_
 refine Le.trans (Le.voidBox 3 1 15 1 rfl rfl rfl rfl) ?_
 exact Le.ct 0 0
 rintro⟨k18,v33⟩ ⟨hk,hH⟩
 try dsimp only at hH⊢
 refine AW.boundM (t:=25) (l:=m.components) rfl (fun hb22=>?_)
 rcases hd21:m.components.drop k18 with _|⟨y19,ys20⟩
 rw[hd21,qDz]at hH
 have hlt23:=qAF hd21
 refine go ?_
 refine AO.se T [.R 9,.R 15] ?_
 refine go ?_
 exact fin
 rw[hd21,qDz]at hH
 have hlt23:=qAG hd21
 refine go ?_
 obtain⟨x35,hx36,u37,hx38,hH⟩:=qAH hH
 refine AW.drawn 5 16 [] mix (by kernel_rfl) rfl ?_
 refine go ?_
 refine AD.q (FStep.call rfl rfl rfl rfl rfl (qI0 _ _ (hx36)) rfl rfl) (qAu _ _) (qC5 _ _) rfl ?_
 refine AD.kk (FStep.mk_o T rfl rfl rfl rfl rfl rfl rfl rfl (f:=ze1) (l:=[x35]) (ids:=[16]) rfl rfl (fun _=>rfl) (by exact zC (.rowR rfl) (zCn)) (by decide) rfl rfl rfl rfl) ?_
 refine AD.nil (AO.x (qEe T rfl 18 rfl rfl rfl rfl rfl (by decide) rfl rfl rfl rfl rfl (qAP (hx38)) rfl rfl) ?_)
 refine AO.pu T ?_
 refine AO.se T [.R 9,.R 18] ?_
 refine go ?_
 refine⟨(k18+1,(v33++[x35])),⟨hlt23,(zds hd21▸hH)⟩,qBl hlt23,?_⟩
 exact Le.ct 18 15
 rw[hd4,qEn]at hH
 have hlt6:=qAG hd4
 refine go ?_
 obtain⟨x39,hx40,u41,hx42,hH⟩:=qAH hH
 refine AW.drawn 5 19 [] mix (by kernel_rfl) rfl ?_
 refine go ?_
 refine AD.q (FStep.call rfl rfl rfl rfl rfl (qI0 _ _ (hx40)) rfl rfl) (qAu _ _) (qC5 _ _) rfl ?_
 refine AD.kk (FStep.mk_o T rfl rfl rfl rfl rfl rfl rfl rfl (f:=ze1) (l:=[x39]) (ids:=[19]) rfl rfl (fun _=>rfl) (by exact zC (.rowR rfl) (zCn)) (by decide) rfl rfl rfl rfl) ?_
 refine AD.nil (AO.x (qEe T rfl 21 rfl rfl rfl rfl rfl (by decide) rfl rfl rfl rfl rfl (qAP (hx42)) rfl rfl) ?_)
 refine AO.pu T ?_
 refine AO.se T [.R 21,.w 0 []] ?_
 refine go ?_
 refine⟨(k1+1,(v16++[x39])),⟨hlt6,(zds hd4▸hH)⟩,qBl hlt6,?_⟩
 exact Le.ct 21 9
def qAY (p:Performance) (l:List Item):Option Performance :=
 (qHJ l).bind fun x1 =>
 (qFR p.marks).bind fun x3 =>
 some (Performance.mk x1 x3 p.slips)
theorem qFq (p:Performance) (l:List Item) (r:Performance) (hH:qAY p l=some r):qAC prog 55 [.g (ze8 p),.s (List.map ze3 l)] (.g (qGA r)):=by
 refine fns T func55 ?_
 refine go ?_
 refine AO.x (bxs T 1) ?_
 refine AO.x (als T 2) (go ?_)
 obtain⟨x1,hx2,x3,hx4,hH⟩:=qAH hH
 refine AW.drawn 7 3 [] mix (by kernel_rfl) rfl ?_
 refine AD.pu T ?_
 refine AD.q (FStep.call rfl rfl rfl rfl rfl (qKf _ _ (hx2)) rfl rfl) (qAu _ _) (qC5 _ _) rfl ?_
 refine go ?_
 refine AD.q (FStep.call rfl rfl rfl rfl rfl (qI1 _ _ (hx4)) rfl rfl) (qAu _ _) (qC5 _ _) rfl ?_
 refine go ?_
 refine AO.se T [.R 3,.R 4,.R 5,p.slips.falls,p.slips.seconds,p.slips.other] ?_
 refine go ?_
 exact fin
def qIz (fl:Nat) (c:Code) (p:Performance) (factor:Int) (item:Int) (name:Int) (mark:Int):Option Int :=
 (qAY p p.items).bind fun x1 =>
 (qAT x1.items item).bind fun x3 =>
 (qAT x3.marks name).bind fun x5 =>
 (qDP fl c (Performance.mk (x1.items.set item.toNat (Item.mk x3.names (x3.marks.set name.toNat mark) x3.late)) x1.marks x1.slips) factor).bind fun x7 =>
 some x7
theorem qQL (fl:Nat) (c:Code) (p:Performance) (factor:Int) (item:Int) (name:Int) (mark:Int) (r:Int) (hH:qIz fl c p factor item name mark=some r):qAC prog 199 [.g (ze4 c),.g (ze8 p),factor,item,name,mark] (.v (.int .i64 r)):=by
 refine fns T func199 ?_
 refine gs2 ?_
 refine AO.x (bxs T 1) ?_
 refine AO.x (bxs T 2) ?_
 refine gs3 ?_
 obtain⟨x1,hx2,hH⟩:=zB hH
 refine gs4 ?_
 refine AO.x (qAV rfl 3 rfl rfl rfl (qFq _ _ _ (hx2)) rfl rfl rfl) ?_
 refine AO.x (als T 6) ?_
 refine AO.se T [.R 3,.R 4,.R 5,x1.slips.falls,x1.slips.seconds,x1.slips.other] ?_
 refine gs2 ?_
 obtain⟨x3,hx4,x5,hx6,hH⟩:=qAH hH
 refine AW.le (Le.openM 3 item.toNat 1 7 rfl (zgG (hx4)) rfl rfl) ?_
 refine gs4 ?_
 refine AO.w (qCq T rfl rfl rfl rfl rfl rfl (hx4)) ?_
 refine AO.pu T ?_
 refine AO.w (qBV T rfl rfl rfl rfl rfl) ?_
 refine gs3 ?_
 refine AO.x (zSr T rfl rfl rfl rfl rfl (zgG (hx6)) rfl rfl rfl rfl (u':=mark) rfl rfl) ?_
 refine AO.le (Le.closeM 3 item.toNat 1 7 rfl rfl (zgG (hx4)) rfl (u':=(Item.mk x3.names (x3.marks.set name.toNat mark) x3.late)) rfl) ?_
 refine gs2 ?_
 obtain⟨x7,hx8,hH⟩:=zB hH
 refine gs4 ?_
 refine AO.w (zLV rfl rfl rfl (es:=[.g (ze4 c),.g (ze8 (Performance.mk (x1.items.set item.toNat (Item.mk x3.names (x3.marks.set name.toNat mark) x3.late)) x1.marks x1.slips)),factor]) ⟨.free rfl,qEN (LendL.cons ((.rowR rfl (.map fun y=>qCJ y))) (LendL.cons ((.rowR rfl (.map fun y=>qAR y))) (LendL.cons ((.rowR rfl (.map fun y=>qAR y))) (LendL.cons (.free rfl) (LendL.cons (.free rfl) (LendL.cons (.free rfl) LendL.nil)))))),.free rfl,trivial⟩ (qHX fl _ _ _ _ (hx8)) (qAJ _) rfl) ?_
 refine gs2 ?_
 refine AW.le (Le.ct 0 0 (σ':=(⟨[(12,x7)],[],31,[]⟩:St))) ?_
 refine AW.t ?_
 exact fin
def qBR (c:Code) (p:Performance) (factor:Int) (fl:Nat):List ac->Nat->ac->Int->Bool->Option ((Int×Int×Int×Bool))
 | [],k7,v32,v33,v34 =>
  (qAT v32 0).bind fun x36 =>
  (qAT v32 1).bind fun x38 =>
  (qAT v32 2).bind fun x40 =>
  some (x36,x38,x40,v34)
 |y8::ys9,k7,v32,v33,v34 =>
  (qAT y8 0).bind fun x42 =>
  (qAT y8 1).bind fun x44 =>
  (qAT y8 2).bind fun x46 =>
  (qIz fl c p factor x42 x44 x46).bind fun x48 =>
  cond (decide (x48>v33))
   (qBR c p factor fl ys9 (k7+1) y8 x48 true)
   (qBR c p factor fl ys9 (k7+1) v32 v33 v34)
def qEz (fl:Nat) (c:Code) (p:Performance) (factor:Int):Option (Int×Int×Int×Bool) :=
 (qGj fl c p factor).bind fun x1 =>
 cond (!x1)
  (some (0,0,0,false))
  ((qDP fl c p factor).bind fun x3 =>
  (qK8 fl p.items).bind fun x5 =>
  qBR c p factor fl x5 0 ([0,0,0]:ac) x3 false)
theorem qMZ (fl:Nat) (c:Code) (p:Performance) (factor:Int) (r:(Int×Int×Int×Bool)) (hH:qEz fl c p factor=some r):qAC prog 135 [.g (ze4 c),.g (ze8 p),factor] (.t [.v (.int .i64 r.1),.v (.int .i64 r.2.1),.v (.int .i64 r.2.2.1),.v (.bool r.2.2.2)]):=by
 refine fns T func135 ?_
 refine go ?_
 refine AO.x (bxs T 1) ?_
 refine AO.x (bxs T 2) (go ?_)
 obtain⟨x1,hx2,hH⟩:=zB hH
 refine go ?_
 refine AO.w (cVs (qLS fl _ _ _ _ (hx2))) (go ?_)
 refine AW.cH hH (fun _ hH=>?_) (fun hc hH=>?_)
 refine go ?_
 exact fin
 refine go ?_
 refine AO.x (mks T 3 ze0 (([0,0,0]:ac))) (go ?_)
 obtain⟨x3,hx4,hH⟩:=zB hH
 refine go ?_
 refine AO.w (cVs (qHX fl _ _ _ _ (hx4))) (go ?_)
 obtain⟨x5,hx6,hH⟩:=zB hH
 refine go ?_
 refine AO.x (qAV rfl 4 rfl rfl rfl (qRB fl _ _ (hx6)) rfl rfl rfl) ?_
 refine gs3 ?_
 refine AW.le (Le.ct 0 0 (σ':=(⟨[(2,factor),(3,.p 1 0),(4,.p 2 0),(10,.R 3),(11,x3),(12,.v (.bool false)),(28,.R 4),(29,(x5.length:Int)),(30,(0:Int))],[(1,.box (ze4 c)),(2,.box (ze8 p)),(3,ro 1 ze0 ([0,0,0]:ac)),(4,ro 1 ze5 x5)],63,[]⟩:St))) ?_
 refine AW.b (AW.loopS (fun s:Nat×ac×Int×Bool=>(⟨[(2,factor),(3,.p 1 0),(4,.p 2 0),(10,sv ze0 s.2.1),(11,s.2.2.1),(12,.v (.bool s.2.2.2)),(28,.R 4),(29,(x5.length:Int)),(30,(s.1:Int))],[(1,.box (ze4 c)),(2,.box (ze8 p)),(4,ro 1 ze5 x5)],63,[]⟩:St)) (fun s=>s.1<=x5.length/\qBR c p factor fl (x5.drop s.1) s.1 s.2.1 s.2.2.1 s.2.2.2=some r) (fun s=>x5.length-s.1) (0,([0,0,0]:ac),x3,false) ⟨Nat.zero_le _,hH⟩ ?_ ?_)
 refine Le.trans (Le.fM 3 (g:=ze0) rfl (fun y=>.vs rfl)) ?_
 exact Le.ct 0 0
 rintro⟨k7,v32,v33,v34⟩ ⟨hk,hH⟩
 try dsimp only at hH⊢
 refine AW.boundR (id:=4) (l:=x5) rfl (fun hb11=>?_)
 rcases hd10:x5.drop k7 with _|⟨y8,ys9⟩
 rw[hd10,qBR]at hH
 have hlt12:=qAF hd10
 refine go ?_
 obtain⟨x36,hx37,x38,hx39,x40,hx41,hH⟩:=qBC hH
 refine AW.drawn 13 5 [] mix (by kernel_rfl) rfl ?_
 refine go ?_
 exact fin
 rw[hd10,qBR]at hH
 have hlt12:=qAG hd10
 refine go ?_
 refine AO.w (zLr T rfl rfl rfl rfl (zgG (zgD hd10)) rfl rfl rfl) (go ?_)
 obtain⟨x42,hx43,x44,hx45,x46,hx47,hH⟩:=qBC hH
 obtain⟨x48,hx49,hH⟩:=zB hH
 refine AW.drawn 12 5 [] mix (by kernel_rfl) rfl ?_
 refine go ?_
 refine AO.w (cVs (qQL fl _ _ _ _ _ _ _ (hx49))) (go ?_)
 refine AW.cH hH (fun _ hH=>?_) (fun _ hH=>?_)
 iterate 10 refine gs ?_
 refine AW.le (Le.ct 0 0 (σ':=(⟨[(2,factor),(3,.p 1 0),(4,.p 2 0),(10,sv ze0 y8),(11,x48),(28,.R 4),(29,(x5.length:Int)),(30,(k7:Int))],[(1,.box (ze4 c)),(2,.box (ze8 p)),(4,ro 1 ze5 x5)],63,[]⟩:St))) ?_
 refine go ?_
 refine⟨(k7+1,y8,x48,true),⟨hlt12,(zds hd10▸hH)⟩,qBl hlt12,?_⟩
 exact Le.ct 0 0
 refine go ?_
 refine⟨(k7+1,v32,v33,v34),⟨hlt12,(zds hd10▸hH)⟩,qBl hlt12,?_⟩
 exact Le.ct 0 0
def qJh  : Option (List aa) :=
 some [(⟨#[110,111,110,101]⟩:aa),(⟨#[100,111,119,110]⟩:aa),(⟨#[101,100,103,101]⟩:aa),(⟨#[118,111,105,100]⟩:aa)]
theorem qLU  (r:(List aa)) (hH:qJh=some r):qAC prog 136 [] (.w 1 (r.map ze2)):=by
 refine fns T func136 ?_
 refine go ?_
 refine AO.x (mks T 1 ze2 ([(⟨#[110,111,110,101]⟩:aa),(⟨#[100,111,119,110]⟩:aa),(⟨#[101,100,103,101]⟩:aa),(⟨#[118,111,105,100]⟩:aa)])) (go ?_)
 exact fin
def qCl:ac->Nat->Int->Int->Option ((Int×Int))
 | [],k1,v9,v10 =>
  some (v9,v10)
 |y2::ys3,k1,v9,v10 =>
  cond (decide (y2>=0))
   (qCl ys3 (k1+1) (w64 (v9+y2)) (w64 (v10+1)))
   (qCl ys3 (k1+1) v9 v10)
def qIG (rA:Result):Option (Int×Int) :=
 qCl rA.scores 0 0 0
theorem qK7 (rA:Result) (r:(Int×Int)) (hH:qIG rA=some r):qAC prog 310 [.g (ze9 rA)] (.t [.v (.int .i64 r.1),.v (.int .i64 r.2)]):=by
 refine fns T func310 ?_
 refine go ?_
 refine AO.x (bxs T 1) (go ?_)
 refine AW.loopS (fun s:Nat×Int×Int=>(⟨[(4,s.2.1),(5,s.2.2),(9,sv ze0 rA.scores),(10,(rA.scores.length:Int)),(11,(s.1:Int))],[],25,[]⟩:St)) (fun s=>s.1<=rA.scores.length/\qCl (rA.scores.drop s.1) s.1 s.2.1 s.2.2=some r) (fun s=>rA.scores.length-s.1) (0,0,0) ⟨Nat.zero_le _,hH⟩ ?_ ?_
 exact Le.ct 0 0
 rintro⟨k1,v9,v10⟩ ⟨hk,hH⟩
 try dsimp only at hH⊢
 refine AW.boundM (t:=9) (l:=rA.scores) rfl (fun hb5=>?_)
 rcases hd4:rA.scores.drop k1 with _|⟨y2,ys3⟩
 rw[hd4,qCl]at hH
 have hlt6:=qAF hd4
 refine go ?_
 exact fin
 rw[hd4,qCl]at hH
 have hlt6:=qAG hd4
 refine go ?_
 refine AW.cH hH (fun _ hH=>?_) (fun _ hH=>?_)
 refine go ?_
 refine⟨(k1+1,w64 (v9+y2),w64 (v10+1)),⟨hlt6,(zds hd4▸hH)⟩,qBl hlt6,?_⟩
 exact Le.ct 0 0
 refine go ?_
 refine⟨(k1+1,v9,v10),⟨hlt6,(zds hd4▸hH)⟩,qBl hlt6,?_⟩
 exact Le.ct 0 0
def qEq (n:Int):Option Int :=
 cond (decide (n>0))
  (some 1)
  (cond (decide (n<0))
   (some (-1))
   (some 0))
theorem qJr (n:Int) (r:Int) (hH:qEq n=some r):qAC prog 311 [n] (.v (.int .i64 r)):=by
 refine fns T func311 ?_
 refine go ?_
 refine AW.cH hH (fun _ hH=>?_) (fun hc hH=>?_)
 refine go ?_
 exact fin
 refine go ?_
 refine AW.cH hH (fun _ hH=>?_) (fun _ hH=>?_)
 refine go ?_
 exact fin
 refine go ?_
 exact fin
def qEG (a:Result) (b:Result):Nat->Int->Option Int
 |0,_=>none
 |k9+1,v23 =>
  cond (decide (v23>=0))
   ((qAT a.scores v23).bind fun x25 =>
   (qAT b.scores v23).bind fun x27 =>
   cond (x25 != x27)
    ((qEq (w64 (x25-x27))).bind fun x29 =>
    some x29)
    (qEG a b k9 (w64 (v23-1))))
   (some 0)
def qG4 (fl:Nat) (a:Result) (b:Result):Option Int :=
 (qIG a).bind fun x1 =>
 (qIG b).bind fun x3 =>
 cond (x1.2 != x3.2)
  ((qEq (w64 (x1.2-x3.2))).bind fun x5 =>
  some x5)
  (cond (x1.1 != x3.1)
   ((qEq (w64 (x1.1-x3.1))).bind fun x7 =>
   some x7)
   (qEG a b fl (w64 ((a.scores.length:Int)-1))))
theorem qNb (fl:Nat) (a:Result) (b:Result) (r:Int) (hH:qG4 fl a b=some r):qAC prog 260 [.g (ze9 a),.g (ze9 b)] (.v (.int .i64 r)):=by
 refine fns T func260 ?_
 refine go ?_
 refine AO.x (bxs T 1) ?_
 refine AO.x (bxs T 2) (go ?_)
 obtain⟨x1,hx2,hH⟩:=zB hH
 refine go ?_
 refine AO.w (cVs (qK7 _ _ (hx2))) (go ?_)
 obtain⟨x3,hx4,hH⟩:=zB hH
 refine go ?_
 refine AO.w (cVs (qK7 _ _ (hx4))) (go ?_)
 refine AW.cH hH (fun _ hH=>?_) (fun hc hH=>?_)
 refine AW.q ?_
 obtain⟨x5,hx6,hH⟩:=zB hH
 refine go ?_
 refine AO.w (cVs (qJr _ _ (hx6))) ?_
 refine gs2 ?_
 refine AW.le (Le.ct 0 0 (σ':=(⟨[(4,x5)],[],65,[]⟩:St))) ?_
 refine AW.t ?_
 exact fin
 refine go ?_
 refine AW.cH hH (fun _ hH=>?_) (fun hc hH=>?_)
 refine AW.q ?_
 obtain⟨x7,hx8,hH⟩:=zB hH
 refine go ?_
 refine AO.w (cVs (qJr _ _ (hx8))) ?_
 refine gs2 ?_
 refine AW.le (Le.ct 0 0 (σ':=(⟨[(4,x7)],[],65,[]⟩:St))) ?_
 refine AW.t ?_
 exact fin
 iterate 10 refine gs ?_
 refine AW.le (Le.ct 0 0 (σ':=(⟨[(2,.p 1 0),(3,.p 2 0),(9,w64 ((a.scores.length:Int)-1))],[(1,.box [a.skater,sv ze0 a.scores]),(2,.box [b.skater,sv ze0 b.scores])],65,[]⟩:St))) ?_
 refine AW.b (AW.loopS (fun s:Nat×Int=>(⟨[(2,.p 1 0),(3,.p 2 0),(9,s.2)],[(1,.box [a.skater,sv ze0 a.scores]),(2,.box [b.skater,sv ze0 b.scores])],65,[]⟩:St)) (fun s=>qEG a b s.1 s.2=some r) (fun s=>s.1) (fl,w64 ((a.scores.length:Int)-1)) hH ?_ ?_)
 exact Le.ct 0 0
 rintro⟨k9,v23⟩ hH
 try dsimp only at hH⊢
 rcases k9 with _|k9
 cases (show none=some _ from hH)
 rw[qEG]at hH
 refine go ?_
 refine AW.cH hH (fun hc hH=>?_) (fun _ hH=>?_)
 refine go ?_
 obtain⟨x25,hx26,x27,hx28,hH⟩:=qAH hH
 refine AW.drawn 10 3 [] mix (by kernel_rfl) rfl ?_
 refine go ?_
 refine AW.cH hH (fun _ hH=>?_) (fun hc hH=>?_)
 refine AW.q ?_
 obtain⟨x29,hx30,hH⟩:=zB hH
 refine AW.drawn 10 3 [] mix (by kernel_rfl) rfl ?_
 refine go ?_
 refine AO.w (cVs (qJr _ _ (hx30))) ?_
 refine gs2 ?_
 refine AW.le (Le.ct 0 0 (σ':=(⟨[(4,x29)],[],65,[]⟩:St))) ?_
 refine AW.t ?_
 exact fin
 refine go ?_
 refine⟨(k9,w64 (v23-1)),hH,Nat.lt_succ_self _,?_⟩
 exact Le.ct 0 0
 refine go ?_
 exact fin
def qBT (l:List Result) (i:Int) (fl:Nat):List Result->Nat->Int->Option Int
 | [],k1,v16 =>
  some v16
 |y2::ys3,k1,v16 =>
  (qAT l i).bind fun x18 =>
  (qG4 fl y2 x18).bind fun x20 =>
  cond (decide (x20>0))
   (qBT l i fl ys3 (k1+1) (w64 (v16+1)))
   (qBT l i fl ys3 (k1+1) v16)
def qCb (fl:Nat) (l:List Result) (i:Int):Option Int :=
 qBT l i fl l 0 1
theorem qLg (fl:Nat) (l:List Result) (i:Int) (r:Int) (hH:qCb fl l i=some r):qAC prog 200 [.s (List.map ze9 l),i] (.v (.int .i64 r)):=by
 refine fns T func200 ?_
 refine go ?_
 refine AW.loopS (fun s:Nat×Int=>(⟨[(0,sv ze9 l),(1,i),(5,s.2),(8,sv ze9 l),(9,(l.length:Int)),(10,(s.1:Int))],[],25,[]⟩:St)) (fun s=>s.1<=l.length/\qBT l i fl (l.drop s.1) s.1 s.2=some r) (fun s=>l.length-s.1) (0,1) ⟨Nat.zero_le _,hH⟩ ?_ ?_
 exact Le.ct 0 0
 rintro⟨k1,v16⟩ ⟨hk,hH⟩
 try dsimp only at hH⊢
 refine AW.boundM (t:=0) (l:=l) rfl (fun hb5=>?_)
 rcases hd4:l.drop k1 with _|⟨y2,ys3⟩
 rw[hd4,qBT]at hH
 have hlt6:=qAF hd4
 refine go ?_
 exact fin
 rw[hd4,qBT]at hH
 have hlt6:=qAG hd4
 refine go ?_
 refine AO.x (als T 3) ?_
 refine AO.se T [y2.skater,sv ze0 y2.scores] ?_
 refine go ?_
 obtain⟨x18,hx19,x20,hx21,hH⟩:=qAH hH
 refine AW.drawn 5 4 [] mix (by kernel_rfl) rfl ?_
 refine go ?_
 refine AO.w (cVs (qNb fl _ _ _ (hx21))) (go ?_)
 refine AW.cH hH (fun _ hH=>?_) (fun _ hH=>?_)
 refine go ?_
 refine⟨(k1+1,w64 (v16+1)),⟨hlt6,(zds hd4▸hH)⟩,qBl hlt6,?_⟩
 exact Le.ct 0 0
 refine go ?_
 refine⟨(k1+1,v16),⟨hlt6,(zds hd4▸hH)⟩,qBl hlt6,?_⟩
 exact Le.ct 0 0
def qC0 (l:List Result) (fl:Nat):List Result->Nat->ac->Option ((ac))
 | [],k1,v16 =>
  some v16
 |y2::ys3,k1,v16 =>
  (qCb fl l (k1:Int)).bind fun x18 =>
  (qAq (qAi 8 (v16.length+([x18]).length))).bind fun u20 =>
  qC0 l fl ys3 (k1+1) (v16++[x18])
def qHm (fl:Nat) (l:List Result):Option ac :=
 qC0 l fl l 0 []
theorem qOm (fl:Nat) (l:List Result) (r:(ac)) (hH:qHm fl l=some r):qAC prog 137 [.s (List.map ze9 l)] (.w 1 (r.map ze0)):=by
 refine fns T func137 ?_
 refine go ?_
 refine AW.loopS (fun s:Nat×(ac)=>(⟨[(0,sv ze9 l),(3,.R 4),(6,(l.length:Int)),(7,(s.1:Int))],[(4,ro 1 ze0 s.2)],18,[]⟩:St)) (fun s=>s.1<=l.length/\qC0 l fl (l.drop s.1) s.1 s.2=some r) (fun s=>l.length-s.1) (0,[]) ⟨Nat.zero_le _,hH⟩ ?_ ?_
 refine Le.trans (Le.void 3 4 1 rfl rfl) ?_
 exact Le.ct 0 0
 rintro⟨k1,v16⟩ ⟨hk,hH⟩
 try dsimp only at hH⊢
 refine AW.boundM (t:=0) (l:=l) rfl (fun hb5=>?_)
 rcases hd4:l.drop k1 with _|⟨y2,ys3⟩
 rw[hd4,qC0]at hH
 have hlt6:=qAF hd4
 refine go ?_
 exact fin
 rw[hd4,qC0]at hH
 have hlt6:=qAG hd4
 refine go ?_
 obtain⟨x18,hx19,u20,hx21,hH⟩:=qAH hH
 refine go ?_
 refine AO.w (cVs (qLg fl _ _ _ (hx19))) ?_
 refine AO.x (mks T 5 ze0 ([x18])) ?_
 refine AO.x (rvs T 6 (hfit:=by exact qAP (hx21))) (go ?_)
 refine⟨(k1+1,(v16++[x18])),⟨hlt6,(zds hd4▸hH)⟩,qBl hlt6,?_⟩
 exact Le.ct 6 4
def qAX (fl:Nat) (x:CsState) (w:aa):Option (CsState×aa) :=
 cond (decide (w=(⟨#[108,97,116,101]⟩:aa)))
  ((qHt fl x.p.items).bind fun x2 =>
  some ((CsState.mk x.code (Performance.mk x2 x.p.marks x.p.slips) x.factor x.results x.no x.what x.lines),(⟨#[111,107]⟩:aa)))
  (cond (decide (w=(⟨#[99,104,101,99,107]⟩:aa)))
   ((qHN fl x.code x.p.items).bind fun x5 =>
   (qBE fl x5).bind fun x7 =>
   some (x,x7))
   (cond (decide (w=(⟨#[98,97,115,101]⟩:aa)))
    ((qHn x.code x.p.items).bind fun x10 =>
    (qDZ fl x10).bind fun x12 =>
    some (x,x12))
    (cond (decide (w=(⟨#[115,99,111,114,101]⟩:aa)))
     ((qFr fl x.code x.p x.factor).bind fun x15 =>
     (qBE fl x15).bind fun x17 =>
     some (x,x17))
     (cond (decide (w=(⟨#[98,111,117,110,100]⟩:aa)))
      ((qES fl x.code x.p x.factor).bind fun x20 =>
      (qDZ fl x20.1).bind fun x22 =>
      some (x,x22))
      (cond (decide (w=(⟨#[98,101,115,116]⟩:aa)))
       ((qEz fl x.code x.p x.factor).bind fun x25 =>
       cond (!x25.2.2.2)
        (some (x,(⟨#[110,111,110,101]⟩:aa)))
        ((qBE fl [x25.1,x25.2.1]).bind fun x27 =>
        (qAq (Nat.ble (x27.size+(⟨#[32]⟩:aa).size) qDx)).bind fun u29 =>
        (qJh ).bind fun x31 =>
        (qAT x31 x25.2.2.1).bind fun x33 =>
        (qAq (Nat.ble ((x27++(⟨#[32]⟩:aa)).size+x33.size) qDx)).bind fun u35 =>
        some (x,((x27++(⟨#[32]⟩:aa))++x33))))
       (cond (decide (w=(⟨#[112,108,97,99,101,115]⟩:aa)))
        ((qHm fl x.results).bind fun x38 =>
        (qBE fl x38).bind fun x40 =>
        some (x,x40))
        (some (x,(⟨#[119,104,97,116]⟩:aa)))))))))
theorem qLI (fl:Nat) (x:CsState) (w:aa) (r:(CsState×aa)) (hH:qAX fl x w=some r):qFe prog 103 [.pn (qGH x),.v (.string w)] [.pn (qGH r.1),.u] (.v (.string r.2)):=by
 refine qFh T func103 rfl (by decide) rfl rfl [.p 1 0,.v (.string w)] [(1,.box (qF2 x 2 3)),(3,ro 1 ze0 x.what),(2,ro 1 ze0 x.no)] 4 (by kernel_rfl) [1] rfl rfl ?_
 intro L
 show AW _ _ _ (⟨[(0,.p 1 0),(1,.v (.string w))],[(1,.box (qF2 x 2 3)),(3,ro 1 ze0 x.what),(2,ro 1 ze0 x.no)],126,[(1,L 1)]⟩:St)
 refine go ?_
 refine AW.cH hH (fun _ hH=>?_) (fun _ hH=>?_)
 refine AW.q ?_
 obtain⟨x2,hx3,hH⟩:=zB hH
 refine go ?_
 refine AO.x (qAV rfl 4 rfl rfl rfl (qPu fl _ _ (hx3)) rfl rfl rfl) (go ?_)
 refine AO.se T [sv ze7 x.code.elements,sv ze0 x.code.limits,x.code.repeats,x.code.bonus,x.code.keeps,x.code.fall,.R 4,sv ze5 x.p.marks.grades,sv ze5 x.p.marks.components,x.p.slips.falls,x.p.slips.seconds,x.p.slips.other,x.factor,sv ze9 x.results,.R 2,.R 3,x.lines] ?_
 refine gs5 ?_
 refine AW.le (Le.fM 4 (g:=ze3) rfl (fun y=>qCJ y)) ?_
 refine AW.t ?_
 exact qEa
 refine go ?_
 refine AW.cH hH (fun _ hH=>?_) (fun _ hH=>?_)
 refine AW.q ?_
 obtain⟨x5,hx6,x7,hx8,hH⟩:=qAH hH
 refine AW.drawn 9 5 [] mix (by kernel_rfl) rfl ?_
 refine go ?_
 refine AO.x (qAV rfl 5 rfl rfl rfl (qOQ fl _ _ _ (hx6)) rfl rfl rfl) ?_
 refine AO.w (zLV rfl rfl rfl (es:=[sv ze0 x5]) ⟨(.rowR rfl (.map fun y=>.vs rfl)),trivial⟩ (qF4 fl _ _ (hx8)) (qAJ _) rfl) (go ?_)
 exact qEa
 refine go ?_
 refine AW.cH hH (fun _ hH=>?_) (fun _ hH=>?_)
 refine AW.q ?_
 obtain⟨x10,hx11,x12,hx13,hH⟩:=qAH hH
 refine AW.drawn 9 6 [] mix (by kernel_rfl) rfl ?_
 refine go ?_
 refine AO.w (cVs (qQM _ _ _ (hx11))) ?_
 refine AO.w (cVs (qHV fl _ _ (hx13))) (go ?_)
 exact qEa
 refine go ?_
 refine AW.cH hH (fun _ hH=>?_) (fun _ hH=>?_)
 refine AW.q ?_
 obtain⟨x15,hx16,x17,hx18,hH⟩:=qAH hH
 refine AW.drawn 12 6 [] mix (by kernel_rfl) rfl ?_
 refine go ?_
 refine AO.x (qAV rfl 6 rfl rfl rfl (qLF fl _ _ _ _ (hx16)) rfl rfl rfl) ?_
 refine AO.w (zLV rfl rfl rfl (es:=[sv ze0 x15]) ⟨(.rowR rfl (.map fun y=>.vs rfl)),trivial⟩ (qF4 fl _ _ (hx18)) (qAJ _) rfl) ?_
 refine gs2 ?_
 refine AW.le (Le.ct 0 0 (σ':=(⟨[(4,.v (.string x17))],[(1,.box (qF2 x 2 3)),(2,ro 1 ze0 x.no),(3,ro 1 ze0 x.what)],126,[(1,L 1)]⟩:St)) (hpin:=⟨⟨rfl,rfl⟩,trivial⟩)) ?_
 refine AW.t ?_
 exact qEa
 refine go ?_
 refine AW.cH hH (fun _ hH=>?_) (fun _ hH=>?_)
 refine AW.q ?_
 obtain⟨x20,hx21,hH⟩:=zB hH
 refine AW.drawn 17 7 [] mix (by kernel_rfl) rfl ?_
 refine go ?_
 refine AD.vv (cVs (qL3 fl _ _ _ _ (hx21))) ?_
 refine gs7 ?_
 refine AW.le (Le.ct 0 0 (σ':=(⟨[(5,x20.1)],[(1,.box (qF2 x 2 3)),(2,ro 1 ze0 x.no),(3,ro 1 ze0 x.what)],126,[(1,L 1)]⟩:St)) (hpin:=⟨⟨rfl,rfl⟩,trivial⟩)) ?_
 refine AW.q ?_
 obtain⟨x22,hx23,hH⟩:=zB hH
 refine go ?_
 refine AO.w (cVs (qHV fl _ _ (hx23))) (go ?_)
 exact qEa
 refine go ?_
 refine AW.cH hH (fun _ hH=>?_) (fun _ hH=>?_)
 refine AW.q ?_
 obtain⟨x25,hx26,hH⟩:=zB hH
 refine AW.drawn 21 7 [] mix (by kernel_rfl) rfl ?_
 refine go ?_
 refine AD.vv (cVs (qMZ fl _ _ _ _ (hx26))) ?_
 iterate 11 refine gs ?_
 refine AW.le (Le.ct 0 0 (σ':=(⟨[(7,x25.1),(8,x25.2.1),(9,x25.2.2.1),(10,.v (.bool x25.2.2.2))],[(1,.box (qF2 x 2 3)),(2,ro 1 ze0 x.no),(3,ro 1 ze0 x.what)],126,[(1,L 1)]⟩:St)) (hpin:=⟨⟨rfl,rfl⟩,trivial⟩)) ?_
 refine go ?_
 refine AW.cH hH (fun _ hH=>?_) (fun _ hH=>?_)
 refine go ?_
 exact qEa
 refine go ?_
 obtain⟨x27,hx28,u29,hx30,x31,hx32,hH⟩:=qBC hH
 obtain⟨x33,hx34,u35,hx36,hH⟩:=qAH hH
 refine go ?_
 refine AO.x (mks T 7 ze0 ([x25.1,x25.2.1])) ?_
 refine AO.w (zLV rfl rfl rfl (es:=[sv ze0 [x25.1,x25.2.1]]) ⟨(.rowR rfl (.map fun y=>.vs rfl)),trivial⟩ (qF4 fl _ _ (hx28)) (qAJ _) rfl) ?_
 refine AO.w (qBe rfl rfl rfl (Nat.le_of_ble_eq_true (qAP (hx30)))) ?_
 refine AO.x (qAV rfl 8 rfl rfl rfl (qLU _ (hx32)) rfl rfl rfl) (go ?_)
 refine AO.w (zLr T rfl rfl rfl rfl (zgG (hx34)) rfl rfl rfl) ?_
 refine AO.w (qBe rfl rfl rfl (Nat.le_of_ble_eq_true (qAP (hx36)))) (go ?_)
 exact qEa
 refine go ?_
 refine AW.cH hH (fun _ hH=>?_) (fun _ hH=>?_)
 refine AW.q ?_
 obtain⟨x38,hx39,x40,hx41,hH⟩:=qAH hH
 refine go ?_
 refine AO.x (qAV rfl 9 rfl rfl rfl (qOm fl _ _ (hx39)) rfl rfl rfl) ?_
 refine AO.w (zLV rfl rfl rfl (es:=[sv ze0 x38]) ⟨(.rowR rfl (.map fun y=>.vs rfl)),trivial⟩ (qF4 fl _ _ (hx41)) (qAJ _) rfl) (go ?_)
 exact qEa
 refine go ?_
 exact qEa
def qD3  : Option (List aa) :=
 some [(⟨#[]⟩:aa),(⟨#[60]⟩:aa),(⟨#[101]⟩:aa),(⟨#[42]⟩:aa)]
theorem qHq  (r:(List aa)) (hH:qD3=some r):qAC prog 201 [] (.w 1 (r.map ze2)):=by
 refine fns T func201 ?_
 refine go ?_
 refine AO.x (mks T 1 ze2 ([(⟨#[]⟩:aa),(⟨#[60]⟩:aa),(⟨#[101]⟩:aa),(⟨#[42]⟩:aa)])) (go ?_)
 exact fin
def qDK (it:Item):List aa->Nat->aa->Option aa
 | [],k1,v52 =>
  cond it.late
   ((qAq (Nat.ble (v52.size+(⟨#[32,120]⟩:aa).size) qDx)).bind fun u54 =>
   some (v52++(⟨#[32,120]⟩:aa)))
   (some v52)
 |y2::ys3,k1,v52 =>
  cond (decide ((k1:Int)>0))
   ((qAq (Nat.ble (v52.size+(⟨#[43]⟩:aa).size) qDx)).bind fun u56 =>
   (qD3 ).bind fun x58 =>
   (qAT it.marks (k1:Int)).bind fun x60 =>
   (qAT x58 x60).bind fun x62 =>
   (qAq (Nat.ble (y2.size+x62.size) qDx)).bind fun u64 =>
   (qAq (Nat.ble ((v52++(⟨#[43]⟩:aa)).size+(y2++x62).size) qDx)).bind fun u66 =>
   qDK it ys3 (k1+1) ((v52++(⟨#[43]⟩:aa))++(y2++x62)))
   ((qD3 ).bind fun x68 =>
   (qAT it.marks (k1:Int)).bind fun x70 =>
   (qAT x68 x70).bind fun x72 =>
   (qAq (Nat.ble (y2.size+x72.size) qDx)).bind fun u74 =>
   (qAq (Nat.ble (v52.size+(y2++x72).size) qDx)).bind fun u76 =>
   qDK it ys3 (k1+1) (v52++(y2++x72)))
def qHj (it:Item):Option aa :=
 qDK it it.names 0 (⟨#[]⟩:aa)
theorem qMG (it:Item) (r:aa) (hH:qHj it=some r):qAC prog 203 [.g (ze3 it)] (.v (.string r)):=by
 refine fns T func203 ?_
 refine go ?_
 refine AO.x (bxs T 1) (go ?_)
 refine AW.loopS (fun s:Nat×aa=>(⟨[(1,.p 1 0),(3,.v (.string s.2)),(7,sv ze2 it.names),(8,(it.names.length:Int)),(9,(s.1:Int))],[(1,.box [sv ze2 it.names,sv ze0 it.marks,.v (.bool it.late)])],36,[]⟩:St)) (fun s=>s.1<=it.names.length/\qDK it (it.names.drop s.1) s.1 s.2=some r) (fun s=>it.names.length-s.1) (0,(⟨#[]⟩:aa)) ⟨Nat.zero_le _,hH⟩ ?_ ?_
 exact Le.ct 0 0
 rintro⟨k1,v52⟩ ⟨hk,hH⟩
 try dsimp only at hH⊢
 refine AW.boundM (t:=7) (l:=it.names) rfl (fun hb5=>?_)
 rcases hd4:it.names.drop k1 with _|⟨y2,ys3⟩
 rw[hd4,qDK]at hH
 have hlt6:=qAF hd4
 refine go ?_
 refine AW.cH hH (fun _ hH=>?_) (fun hc hH=>?_)
 obtain⟨u54,hx55,hH⟩:=zB hH
 refine go ?_
 refine AO.w (qBe rfl rfl rfl (Nat.le_of_ble_eq_true (qAP (hx55)))) (go ?_)
 exact fin
 refine go ?_
 exact fin
 rw[hd4,qDK]at hH
 have hlt6:=qAG hd4
 refine go ?_
 refine AW.cH hH (fun _ hH=>?_) (fun _ hH=>?_)
 obtain⟨u56,hx57,hH⟩:=zB hH
 refine go ?_
 refine AO.w (qBe rfl rfl rfl (Nat.le_of_ble_eq_true (qAP (hx57)))) (go ?_)
 obtain⟨x58,hx59,x60,hx61,x62,hx63,hH⟩:=qBC hH
 obtain⟨u64,hx65,u66,hx67,hH⟩:=qAH hH
 refine AW.drawn 11 6 [] mix (by kernel_rfl) rfl ?_
 refine go ?_
 refine AD.q (FStep.call rfl rfl rfl rfl rfl (qHq _ (hx59)) rfl rfl) (qAu _ _) (qC5 _ _) rfl ?_
 refine go ?_
 refine AD.vald rfl rfl rfl (zXr T rfl rfl rfl rfl rfl rfl (hx63)) ?_
 refine AD.vald rfl rfl rfl (zLr T rfl rfl rfl rfl (zgG (hx63)) rfl rfl rfl) ?_
 refine AD.vv (qBe rfl rfl rfl (Nat.le_of_ble_eq_true (qAP (hx65)))) ?_
 refine AD.nil (AO.w (qBe rfl rfl rfl (Nat.le_of_ble_eq_true (qAP (hx67)))) ?_)
 refine gs2 ?_
 refine AW.le (Le.ct 0 0 (σ':=(⟨[(1,.p 1 0),(3,.v (.string ((v52++(⟨#[43]⟩:aa))++(y2++x62)))),(7,sv ze2 it.names),(8,(it.names.length:Int)),(9,(k1:Int))],[(1,.box [sv ze2 it.names,sv ze0 it.marks,.v (.bool it.late)])],36,[]⟩:St))) ?_
 refine go ?_
 refine⟨(k1+1,((v52++(⟨#[43]⟩:aa))++(y2++x62))),⟨hlt6,(zds hd4▸hH)⟩,qBl hlt6,?_⟩
 exact Le.ct 0 0
 refine AW.k ?_
 obtain⟨x68,hx69,x70,hx71,x72,hx73,hH⟩:=qBC hH
 obtain⟨u74,hx75,u76,hx77,hH⟩:=qAH hH
 refine AW.drawn 11 7 [] mix (by kernel_rfl) rfl ?_
 refine go ?_
 refine AD.q (FStep.call rfl rfl rfl rfl rfl (qHq _ (hx69)) rfl rfl) (qAu _ _) (qC5 _ _) rfl ?_
 refine go ?_
 refine AD.vald rfl rfl rfl (zXr T rfl rfl rfl rfl rfl rfl (hx73)) ?_
 refine AD.vald rfl rfl rfl (zLr T rfl rfl rfl rfl (zgG (hx73)) rfl rfl rfl) ?_
 refine AD.vv (qBe rfl rfl rfl (Nat.le_of_ble_eq_true (qAP (hx75)))) ?_
 refine AD.nil (AO.w (qBe rfl rfl rfl (Nat.le_of_ble_eq_true (qAP (hx77)))) (go ?_))
 refine⟨(k1+1,(v52++(y2++x72))),⟨hlt6,(zds hd4▸hH)⟩,qBl hlt6,?_⟩
 exact Le.ct 0 0
def qCD (y9:aa) (v128:List aa) (v129:ac):List aa->Nat->Int->Option ((List aa)×(ac))
 | [],k167,v178 =>
  cond (decide (v178>0))
   ((qAq (inB 0 (w64 ((y9.size:Int)-1)) y9.size)).bind fun u180 =>
   (qAq (qAi 16 (v128.length+([(ByteArray.extract y9 0 (w64 ((y9.size:Int)-1)).toNat)]).length))).bind fun u182 =>
   (qAq (qAi 8 (v129.length+([v178]).length))).bind fun u184 =>
   some ((v128++[(ByteArray.extract y9 0 (w64 ((y9.size:Int)-1)).toNat)]),(v129++[v178])))
   ((qAq (qAi 16 (v128.length+([y9]).length))).bind fun u186 =>
   (qAq (qAi 8 (v129.length+([v178]).length))).bind fun u188 =>
   some ((v128++[y9]),(v129++[v178])))
 |y168::ys169,k167,v178 =>
  (opt (decide ((k167:Int)>0)&&decide ((y9.size:Int)>0)) default (qAq (inB (w64 ((y9.size:Int)-1)) y9.size y9.size))).bind fun u190 =>
  cond ((decide ((k167:Int)>0)&&decide ((y9.size:Int)>0))&&decide ((ByteArray.extract y9 (w64 ((y9.size:Int)-1)).toNat y9.size)=y168))
   (qCD y9 v128 v129 ys169 (k167+1) (k167:Int))
   (qCD y9 v128 v129 ys169 (k167+1) v178)
def qCB (sA:aa) (fl:Nat):List aa->Nat->List aa->ac->Option ((Item×Bool))
 | [],k8,v128,v129 =>
  (qD0 fl (Item.mk v128 v129 true)).bind fun x131 =>
  (opt (!(!x131)) default (qHj (Item.mk v128 v129 true))).bind fun x133 =>
  cond ((!x131)||(!decide (x133=sA)))
   (some ((Item.mk [] [] false),false))
   (some ((Item.mk v128 v129 true),true))
 |y9::ys10,k8,v128,v129 =>
  ((qD3 ).bind fun x165 =>
  qCD y9 v128 v129 x165 0 0).bind fun (v161,v162) =>
  qCB sA fl ys10 (k8+1) v161 v162
def qB1 (y195:aa) (v314:List aa) (v315:ac):List aa->Nat->Int->Option ((List aa)×(ac))
 | [],k353,v364 =>
  cond (decide (v364>0))
   ((qAq (inB 0 (w64 ((y195.size:Int)-1)) y195.size)).bind fun u366 =>
   (qAq (qAi 16 (v314.length+([(ByteArray.extract y195 0 (w64 ((y195.size:Int)-1)).toNat)]).length))).bind fun u368 =>
   (qAq (qAi 8 (v315.length+([v364]).length))).bind fun u370 =>
   some ((v314++[(ByteArray.extract y195 0 (w64 ((y195.size:Int)-1)).toNat)]),(v315++[v364])))
   ((qAq (qAi 16 (v314.length+([y195]).length))).bind fun u372 =>
   (qAq (qAi 8 (v315.length+([v364]).length))).bind fun u374 =>
   some ((v314++[y195]),(v315++[v364])))
 |y354::ys355,k353,v364 =>
  (opt (decide ((k353:Int)>0)&&decide ((y195.size:Int)>0)) default (qAq (inB (w64 ((y195.size:Int)-1)) y195.size y195.size))).bind fun u376 =>
  cond ((decide ((k353:Int)>0)&&decide ((y195.size:Int)>0))&&decide ((ByteArray.extract y195 (w64 ((y195.size:Int)-1)).toNat y195.size)=y354))
   (qB1 y195 v314 v315 ys355 (k353+1) (k353:Int))
   (qB1 y195 v314 v315 ys355 (k353+1) v364)
def qB3 (sA:aa) (fl:Nat):List aa->Nat->List aa->ac->Option ((Item×Bool))
 | [],k194,v314,v315 =>
  (qD0 fl (Item.mk v314 v315 false)).bind fun x317 =>
  (opt (!(!x317)) default (qHj (Item.mk v314 v315 false))).bind fun x319 =>
  cond ((!x317)||(!decide (x319=sA)))
   (some ((Item.mk [] [] false),false))
   (some ((Item.mk v314 v315 false),true))
 |y195::ys196,k194,v314,v315 =>
  ((qD3 ).bind fun x351 =>
  qB1 y195 v314 v315 x351 0 0).bind fun (v347,v348) =>
  qB3 sA fl ys196 (k194+1) v347 v348
def qGb (fl:Nat) (sA:aa):Option (Item×Bool) :=
 (opt (decide ((sA.size:Int)>=2)) default (qAq (inB (w64 ((sA.size:Int)-2)) sA.size sA.size))).bind fun u1 =>
 cond (decide ((sA.size:Int)>=2)&&decide ((ByteArray.extract sA (w64 ((sA.size:Int)-2)).toNat sA.size)=(⟨#[32,120]⟩:aa)))
  ((qAq (inB 0 (w64 ((sA.size:Int)-2)) sA.size)).bind fun u4 =>
  (qA2 fl (ByteArray.extract sA 0 (w64 ((sA.size:Int)-2)).toNat) 43).bind fun x6 =>
  qCB sA fl x6 0 [] [])
  ((qA2 fl sA 43).bind fun x192 =>
  qB3 sA fl x192 0 [] [])
theorem qPL (fl:Nat) (sA:aa) (r:(Item×Bool)) (hH:qGb fl sA=some r):qAC prog 138 [.v (.string sA)] (.t [.g (ze6 r.1),.v (.bool r.2)]):=by
 refine fns T func138 ?_
 refine gs2 ?_
 refine AO.x (als T 1) ?_
 refine gs5 ?_
 refine AO.x (als T 2) ?_
 refine AO.se T [.w 0 [],.w 0 [],.v (.bool false)] ?_
 refine gs8 ?_
 obtain⟨u1,hx2,hH⟩:=zB hH
 refine gs5 ?_
 refine AO.g0 T ?_
 refine AO.g0 T ?_
 refine AO.g1 T 18 ?_
 refine AO.d1 19 (fun hg=>aws) ?_
 refine AO.d2 17 20 (fun hg=>qFS T rfl rfl rfl rfl (qAP (qE9 hx2 hg))) ?_
 refine AO.g1 T 21 ?_
 refine gs2 ?_
 refine AW.cH hH (fun _ hH=>?_) (fun _ hH=>?_)
 refine gs3 ?_
 refine AO.se T [.w 0 [],.w 0 [],.v (.bool true)] ?_
 refine AO.n ?_
 obtain⟨u4,hx5,hH⟩:=zB hH
 refine gs5 ?_
 refine AO.w (qHG T rfl rfl rfl rfl (qAP (hx5))) ?_
 refine gs2 ?_
 refine AW.le (Le.ct 0 0 (σ':=(⟨[(0,.v (.string sA)),(2,.p 1 0),(4,.p 2 0),(5,.v (.string (ByteArray.extract sA 0 (w64 ((sA.size:Int)-2)).toNat)))],[(1,.box [.w 0 [],.w 0 [],.v (.bool false)]),(2,.box [.w 0 [],.w 0 [],.v (.bool true)])],93,[]⟩:St))) ?_
 refine gs2 ?_
 obtain⟨x6,hx7,hH⟩:=zB hH
 refine gs2 ?_
 refine AO.x (qAV rfl 3 rfl rfl rfl (qHZ fl _ _ _ (hx7)) rfl rfl rfl) ?_
 refine gs4 ?_
 refine AW.loopS (fun s:Nat×(List aa)×(ac)=>(⟨[(0,.v (.string sA)),(2,.p 1 0),(4,.p 2 0),(31,.R 3),(32,(x6.length:Int)),(33,(s.1:Int))],[(1,.box [.w 0 [],.w 0 [],.v (.bool false)]),(2,.box [.R 24,.R 26,.v (.bool true)]),(3,ro 1 ze2 x6),(24,ro 1 ze2 s.2.1),(26,ro 1 ze0 s.2.2)],93,[]⟩:St)) (fun s=>s.1<=x6.length/\qCB sA fl (x6.drop s.1) s.1 s.2.1 s.2.2=some r) (fun s=>x6.length-s.1) (0,[],[]) ⟨Nat.zero_le _,hH⟩ ?_ ?_
 refine Le.trans (Le.voidBox 2 0 24 1 rfl rfl rfl rfl) ?_
 refine Le.trans (Le.voidBox 2 1 26 1 rfl rfl rfl rfl) ?_
 exact Le.ct 0 0
 rintro⟨k8,v128,v129⟩ ⟨hk,hH⟩
 try dsimp only at hH⊢
 refine AW.boundR (id:=3) (l:=x6) rfl (fun hb12=>?_)
 rcases hd11:x6.drop k8 with _|⟨y9,ys10⟩
 rw[hd11,qCB]at hH
 have hlt13:=qAF hd11
 refine gs9 ?_
 obtain⟨x131,hx132,x133,hx134,hH⟩:=qAH hH
 refine gs2 ?_
 refine AO.w (zLV rfl rfl rfl (es:=[.g (ze3 (Item.mk v128 v129 true))]) ⟨qEN (LendL.cons ((.rowR rfl (.map fun y=>.vs rfl))) (LendL.cons ((.rowR rfl (.map fun y=>.vs rfl))) (LendL.cons (.free rfl) LendL.nil))),trivial⟩ (qJk fl _ _ (hx132)) (qAJ _) rfl) ?_
 refine gs2 ?_
 refine AO.g T (d:=.g [.R 24,.R 26,.v (.bool true)]) [] rfl trivial rfl rfl ?_
 refine AO.d1 86 (fun hg=>zLV rfl rfl rfl (es:=[.g (ze3 (Item.mk v128 v129 true))]) ⟨qEN (LendL.cons ((.rowR rfl (.map fun y=>.vs rfl))) (LendL.cons ((.rowR rfl (.map fun y=>.vs rfl))) (LendL.cons (.free rfl) LendL.nil))),trivial⟩ (qMG _ _ (qE9 hx134 hg)) (qAJ _) rfl) ?_
 refine AO.g0 T ?_
 refine AO.g2 T 87 88 ?_
 refine gs2 ?_
 refine AW.cH hH (fun _ hH=>?_) (fun hc hH=>?_)
 refine gs3 ?_
 refine AO.se T [.w 0 [],.w 0 [],.v (.bool false)] ?_
 refine gs3 ?_
 exact fin
 refine gs4 ?_
 refine AO.se T [.R 24,.R 26,.v (.bool true)] ?_
 refine gs3 ?_
 exact fin
 rw[hd11,qCB]at hH
 have hlt13:=qAG hd11
 refine gs7 ?_
 obtain⟨o163,hH,hK164⟩:=zB hH
 refine AW.seqJ (fun s:(List aa)×(ac)=>(⟨[(0,.v (.string sA)),(2,.p 1 0),(4,.p 2 0),(31,.R 3),(32,(x6.length:Int)),(33,(k8:Int))],[(1,.box [.w 0 [],.w 0 [],.v (.bool false)]),(2,.box [.R 42,.R 44,.v (.bool true)]),(3,ro 1 ze2 x6),(42,ro 1 ze2 s.1),(44,ro 1 ze0 s.2)],93,[]⟩:St)) (fun s=>s=o163) ?_ ?_
 refine gs4 ?_
 refine AO.w (zLr T rfl rfl rfl rfl (zgG (zgD hd11)) rfl rfl rfl) ?_
 refine gs8 ?_
 obtain⟨x165,hx166,hH⟩:=zB hH
 refine AW.r (AO.x (qAV rfl 49 rfl rfl rfl (qHq _ (hx166)) rfl rfl rfl) ?_)
 refine gs4 ?_
 refine AW.loopS (fun s:Nat×Int=>(⟨[(0,.v (.string sA)),(2,.p 1 0),(4,.p 2 0),(7,.v (.string y9)),(8,s.2),(31,.R 3),(32,(x6.length:Int)),(33,(k8:Int)),(37,.R 49),(38,(x165.length:Int)),(39,(s.1:Int))],[(1,.box [.w 0 [],.w 0 [],.v (.bool false)]),(2,.box [.R 24,.R 26,.v (.bool true)]),(3,ro 1 ze2 x6),(24,ro 1 ze2 v128),(26,ro 1 ze0 v129),(49,ro 1 ze2 x165)],93,[]⟩:St)) (fun s=>s.1<=x165.length/\qCD y9 v128 v129 (x165.drop s.1) s.1 s.2=some o163) (fun s=>x165.length-s.1) (0,0) ⟨Nat.zero_le _,hH⟩ ?_ ?_
 exact Le.ct 0 0
 rintro⟨k167,v178⟩ ⟨hk,hH⟩
 try dsimp only at hH⊢
 refine AW.boundR (id:=49) (l:=x165) rfl (fun hb171=>?_)
 rcases hd170:x165.drop k167 with _|⟨y168,ys169⟩
 rw[hd170,qCD]at hH
 have hlt172:=qAF hd170
 iterate 13 refine gs ?_
 refine AW.cH hH (fun _ hH=>?_) (fun hc hH=>?_)
 obtain⟨u180,hx181,hH⟩:=zB hH
 refine gs5 ?_
 refine AO.w (qHG T rfl rfl rfl rfl (qAP (hx181))) ?_
 refine gs3 ?_
 obtain⟨u182,hx183,hH⟩:=zB hH
 refine gs4 ?_
 refine AO.x (mks T 50 ze2 ([(ByteArray.extract y9 0 (w64 ((y9.size:Int)-1)).toNat)])) ?_
 refine AO.x (rvs T 51 (hfit:=by exact qAP (hx183))) ?_
 refine AO.pu T ?_
 refine AO.se T [.R 51,.R 26,.v (.bool true)] ?_
 refine AO.n ?_
 obtain⟨u184,hx185,hH⟩:=zB hH
 refine gs4 ?_
 refine AO.x (mks T 52 ze0 ([v178])) ?_
 refine AO.x (rvs T 53 (hfit:=by exact qAP (hx185))) ?_
 refine AO.pu T ?_
 refine AO.se T [.R 51,.R 53,.v (.bool true)] ?_
 refine AO.n ?_
 refine⟨_,zS hH,?_⟩
 refine Le.trans (Le.ct 51 42 (σ':=(⟨[(0,.v (.string sA)),(2,.p 1 0),(4,.p 2 0),(31,.R 3),(32,(x6.length:Int)),(33,(k8:Int))],[(1,.box [.w 0 [],.w 0 [],.v (.bool false)]),(2,.box [.R 42,.R 53,.v (.bool true)]),(3,ro 1 ze2 x6),(42,ro 1 ze2 (v128++[(ByteArray.extract y9 0 (w64 ((y9.size:Int)-1)).toNat)])),(53,ro 1 ze0 (v129++[v178]))],93,[]⟩:St))) ?_
 exact Le.ct 53 44
 refine gs2 ?_
 obtain⟨u186,hx187,hH⟩:=zB hH
 refine gs4 ?_
 refine AO.x (mks T 54 ze2 ([y9])) ?_
 refine AO.x (rvs T 55 (hfit:=by exact qAP (hx187))) ?_
 refine AO.pu T ?_
 refine AO.se T [.R 55,.R 26,.v (.bool true)] ?_
 refine AO.n ?_
 obtain⟨u188,hx189,hH⟩:=zB hH
 refine gs4 ?_
 refine AO.x (mks T 56 ze0 ([v178])) ?_
 refine AO.x (rvs T 57 (hfit:=by exact qAP (hx189))) ?_
 refine AO.pu T ?_
 refine AO.se T [.R 55,.R 57,.v (.bool true)] ?_
 refine AO.n ?_
 refine⟨_,zS hH,?_⟩
 refine Le.trans (Le.ct 55 42 (σ':=(⟨[(0,.v (.string sA)),(2,.p 1 0),(4,.p 2 0),(31,.R 3),(32,(x6.length:Int)),(33,(k8:Int))],[(1,.box [.w 0 [],.w 0 [],.v (.bool false)]),(2,.box [.R 42,.R 57,.v (.bool true)]),(3,ro 1 ze2 x6),(42,ro 1 ze2 (v128++[y9])),(57,ro 1 ze0 (v129++[v178]))],93,[]⟩:St))) ?_
 exact Le.ct 57 44
 rw[hd170,qCD]at hH
 have hlt172:=qAG hd170
 iterate 13 refine gs ?_
 refine AO.w (zLr T rfl rfl rfl rfl (zgG (zgD hd170)) rfl rfl rfl) ?_
 refine gs4 ?_
 obtain⟨u190,hx191,hH⟩:=zB hH
 refine gs4 ?_
 refine AO.g0 T ?_
 refine AO.g1 T 47 ?_
 refine AO.g1 T 48 ?_
 refine gs2 ?_
 refine AO.g0 T ?_
 refine AO.g0 T ?_
 refine AO.g1 T 53 ?_
 refine AO.d1 54 (fun hg=>aws) ?_
 refine AO.d2 52 55 (fun hg=>qFS T rfl rfl rfl rfl (qAP (qE9 hx191 hg))) ?_
 refine AO.g0 T ?_
 refine AO.g2 T 56 57 ?_
 refine gs2 ?_
 refine AW.cH hH (fun _ hH=>?_) (fun hc hH=>?_)
 refine gs4 ?_
 refine AW.le (Le.ct 0 0 (σ':=(⟨[(0,.v (.string sA)),(2,.p 1 0),(4,.p 2 0),(7,.v (.string y9)),(8,(k167:Int)),(31,.R 3),(32,(x6.length:Int)),(33,(k8:Int)),(37,.R 49),(38,(x165.length:Int)),(39,(k167:Int))],[(1,.box [.w 0 [],.w 0 [],.v (.bool false)]),(2,.box [.R 24,.R 26,.v (.bool true)]),(3,ro 1 ze2 x6),(24,ro 1 ze2 v128),(26,ro 1 ze0 v129),(49,ro 1 ze2 x165)],93,[]⟩:St))) ?_
 refine gs4 ?_
 refine⟨(k167+1,(k167:Int)),⟨hlt172,(zds hd170▸hH)⟩,qBl hlt172,?_⟩
 exact Le.ct 0 0
 refine gs5 ?_
 refine⟨(k167+1,v178),⟨hlt172,(zds hd170▸hH)⟩,qBl hlt172,?_⟩
 exact Le.ct 0 0
 rintro⟨v161,v162⟩ hs
 subst hs
 replace hH:=hK164
 try dsimp only[qLW,qJg]at hH
 try dsimp only
 refine gs4 ?_
 refine⟨(k8+1,v161,v162),⟨hlt13,(zds hd11▸hH)⟩,qBl hlt13,?_⟩
 refine Le.trans (Le.ct 42 24 (σ':=(⟨[(0,.v (.string sA)),(2,.p 1 0),(4,.p 2 0),(31,.R 3),(32,(x6.length:Int)),(33,((k8+1:Nat):Int))],[(1,.box [.w 0 [],.w 0 [],.v (.bool false)]),(2,.box [.R 24,.R 44,.v (.bool true)]),(3,ro 1 ze2 x6),(24,ro 1 ze2 v161),(44,ro 1 ze0 v162)],93,[]⟩:St))) ?_
 exact Le.ct 44 26
 refine gs3 ?_
 obtain⟨x192,hx193,hH⟩:=zB hH
 refine gs2 ?_
 refine AO.x (qAV rfl 58 rfl rfl rfl (qHZ fl _ _ _ (hx193)) rfl rfl rfl) ?_
 refine gs4 ?_
 refine AW.loopS (fun s:Nat×(List aa)×(ac)=>(⟨[(0,.v (.string sA)),(2,.p 1 0),(4,.p 2 0),(31,.R 58),(32,(x192.length:Int)),(33,(s.1:Int))],[(1,.box [.w 0 [],.w 0 [],.v (.bool false)]),(2,.box [.R 79,.R 81,.v (.bool false)]),(58,ro 1 ze2 x192),(79,ro 1 ze2 s.2.1),(81,ro 1 ze0 s.2.2)],93,[]⟩:St)) (fun s=>s.1<=x192.length/\qB3 sA fl (x192.drop s.1) s.1 s.2.1 s.2.2=some r) (fun s=>x192.length-s.1) (0,[],[]) ⟨Nat.zero_le _,hH⟩ ?_ ?_
 refine Le.trans (Le.voidBox 2 0 79 1 rfl rfl rfl rfl) ?_
 refine Le.trans (Le.voidBox 2 1 81 1 rfl rfl rfl rfl) ?_
 exact Le.ct 0 0
 rintro⟨k194,v314,v315⟩ ⟨hk,hH⟩
 try dsimp only at hH⊢
 refine AW.boundR (id:=58) (l:=x192) rfl (fun hb198=>?_)
 rcases hd197:x192.drop k194 with _|⟨y195,ys196⟩
 rw[hd197,qB3]at hH
 have hlt199:=qAF hd197
 refine gs9 ?_
 obtain⟨x317,hx318,x319,hx320,hH⟩:=qAH hH
 refine gs2 ?_
 refine AO.w (zLV rfl rfl rfl (es:=[.g (ze3 (Item.mk v314 v315 false))]) ⟨qEN (LendL.cons ((.rowR rfl (.map fun y=>.vs rfl))) (LendL.cons ((.rowR rfl (.map fun y=>.vs rfl))) (LendL.cons (.free rfl) LendL.nil))),trivial⟩ (qJk fl _ _ (hx318)) (qAJ _) rfl) ?_
 refine gs2 ?_
 refine AO.g T (d:=.g [.R 79,.R 81,.v (.bool false)]) [] rfl trivial rfl rfl ?_
 refine AO.d1 86 (fun hg=>zLV rfl rfl rfl (es:=[.g (ze3 (Item.mk v314 v315 false))]) ⟨qEN (LendL.cons ((.rowR rfl (.map fun y=>.vs rfl))) (LendL.cons ((.rowR rfl (.map fun y=>.vs rfl))) (LendL.cons (.free rfl) LendL.nil))),trivial⟩ (qMG _ _ (qE9 hx320 hg)) (qAJ _) rfl) ?_
 refine AO.g0 T ?_
 refine AO.g2 T 87 88 ?_
 refine gs2 ?_
 refine AW.cH hH (fun _ hH=>?_) (fun hc hH=>?_)
 refine gs3 ?_
 refine AO.se T [.w 0 [],.w 0 [],.v (.bool false)] ?_
 refine gs3 ?_
 exact fin
 refine gs4 ?_
 refine AO.se T [.R 79,.R 81,.v (.bool false)] ?_
 refine gs3 ?_
 exact fin
 rw[hd197,qB3]at hH
 have hlt199:=qAG hd197
 refine gs7 ?_
 obtain⟨o349,hH,hK350⟩:=zB hH
 refine AW.seqJ (fun s:(List aa)×(ac)=>(⟨[(0,.v (.string sA)),(2,.p 1 0),(4,.p 2 0),(31,.R 58),(32,(x192.length:Int)),(33,(k194:Int))],[(1,.box [.w 0 [],.w 0 [],.v (.bool false)]),(2,.box [.R 97,.R 99,.v (.bool false)]),(58,ro 1 ze2 x192),(97,ro 1 ze2 s.1),(99,ro 1 ze0 s.2)],93,[]⟩:St)) (fun s=>s=o349) ?_ ?_
 refine gs4 ?_
 refine AO.w (zLr T rfl rfl rfl rfl (zgG (zgD hd197)) rfl rfl rfl) ?_
 refine gs8 ?_
 obtain⟨x351,hx352,hH⟩:=zB hH
 refine AW.r (AO.x (qAV rfl 104 rfl rfl rfl (qHq _ (hx352)) rfl rfl rfl) ?_)
 refine gs4 ?_
 refine AW.loopS (fun s:Nat×Int=>(⟨[(0,.v (.string sA)),(2,.p 1 0),(4,.p 2 0),(7,.v (.string y195)),(8,s.2),(31,.R 58),(32,(x192.length:Int)),(33,(k194:Int)),(37,.R 104),(38,(x351.length:Int)),(39,(s.1:Int))],[(1,.box [.w 0 [],.w 0 [],.v (.bool false)]),(2,.box [.R 79,.R 81,.v (.bool false)]),(58,ro 1 ze2 x192),(79,ro 1 ze2 v314),(81,ro 1 ze0 v315),(104,ro 1 ze2 x351)],93,[]⟩:St)) (fun s=>s.1<=x351.length/\qB1 y195 v314 v315 (x351.drop s.1) s.1 s.2=some o349) (fun s=>x351.length-s.1) (0,0) ⟨Nat.zero_le _,hH⟩ ?_ ?_
 exact Le.ct 0 0
 rintro⟨k353,v364⟩ ⟨hk,hH⟩
 try dsimp only at hH⊢
 refine AW.boundR (id:=104) (l:=x351) rfl (fun hb357=>?_)
 rcases hd356:x351.drop k353 with _|⟨y354,ys355⟩
 rw[hd356,qB1]at hH
 have hlt358:=qAF hd356
 iterate 13 refine gs ?_
 refine AW.cH hH (fun _ hH=>?_) (fun hc hH=>?_)
 obtain⟨u366,hx367,hH⟩:=zB hH
 refine gs5 ?_
 refine AO.w (qHG T rfl rfl rfl rfl (qAP (hx367))) ?_
 refine gs3 ?_
 obtain⟨u368,hx369,hH⟩:=zB hH
 refine gs4 ?_
 refine AO.x (mks T 105 ze2 ([(ByteArray.extract y195 0 (w64 ((y195.size:Int)-1)).toNat)])) ?_
 refine AO.x (rvs T 106 (hfit:=by exact qAP (hx369))) ?_
 refine AO.pu T ?_
 refine AO.se T [.R 106,.R 81,.v (.bool false)] ?_
 refine AO.n ?_
 obtain⟨u370,hx371,hH⟩:=zB hH
 refine gs4 ?_
 refine AO.x (mks T 107 ze0 ([v364])) ?_
 refine AO.x (rvs T 108 (hfit:=by exact qAP (hx371))) ?_
 refine AO.pu T ?_
 refine AO.se T [.R 106,.R 108,.v (.bool false)] ?_
 refine AO.n ?_
 refine⟨_,zS hH,?_⟩
 refine Le.trans (Le.ct 106 97 (σ':=(⟨[(0,.v (.string sA)),(2,.p 1 0),(4,.p 2 0),(31,.R 58),(32,(x192.length:Int)),(33,(k194:Int))],[(1,.box [.w 0 [],.w 0 [],.v (.bool false)]),(2,.box [.R 97,.R 108,.v (.bool false)]),(58,ro 1 ze2 x192),(97,ro 1 ze2 (v314++[(ByteArray.extract y195 0 (w64 ((y195.size:Int)-1)).toNat)])),(108,ro 1 ze0 (v315++[v364]))],93,[]⟩:St))) ?_
 exact Le.ct 108 99
 refine gs2 ?_
 obtain⟨u372,hx373,hH⟩:=zB hH
 refine gs4 ?_
 refine AO.x (mks T 109 ze2 ([y195])) ?_
 refine AO.x (rvs T 110 (hfit:=by exact qAP (hx373))) ?_
 refine AO.pu T ?_
 refine AO.se T [.R 110,.R 81,.v (.bool false)] ?_
 refine AO.n ?_
 obtain⟨u374,hx375,hH⟩:=zB hH
 refine gs4 ?_
 refine AO.x (mks T 111 ze0 ([v364])) ?_
 refine AO.x (rvs T 112 (hfit:=by exact qAP (hx375))) ?_
 refine AO.pu T ?_
 refine AO.se T [.R 110,.R 112,.v (.bool false)] ?_
 refine AO.n ?_
 refine⟨_,zS hH,?_⟩
 refine Le.trans (Le.ct 110 97 (σ':=(⟨[(0,.v (.string sA)),(2,.p 1 0),(4,.p 2 0),(31,.R 58),(32,(x192.length:Int)),(33,(k194:Int))],[(1,.box [.w 0 [],.w 0 [],.v (.bool false)]),(2,.box [.R 97,.R 112,.v (.bool false)]),(58,ro 1 ze2 x192),(97,ro 1 ze2 (v314++[y195])),(112,ro 1 ze0 (v315++[v364]))],93,[]⟩:St))) ?_
 exact Le.ct 112 99
 rw[hd356,qB1]at hH
 have hlt358:=qAG hd356
 iterate 13 refine gs ?_
 refine AO.w (zLr T rfl rfl rfl rfl (zgG (zgD hd356)) rfl rfl rfl) ?_
 refine gs4 ?_
 obtain⟨u376,hx377,hH⟩:=zB hH
 refine gs4 ?_
 refine AO.g0 T ?_
 refine AO.g1 T 47 ?_
 refine AO.g1 T 48 ?_
 refine gs2 ?_
 refine AO.g0 T ?_
 refine AO.g0 T ?_
 refine AO.g1 T 53 ?_
 refine AO.d1 54 (fun hg=>aws) ?_
 refine AO.d2 52 55 (fun hg=>qFS T rfl rfl rfl rfl (qAP (qE9 hx377 hg))) ?_
 refine AO.g0 T ?_
 refine AO.g2 T 56 57 ?_
 refine gs2 ?_
 refine AW.cH hH (fun _ hH=>?_) (fun _ hH=>?_)
 refine gs4 ?_
 refine AW.le (Le.ct 0 0 (σ':=(⟨[(0,.v (.string sA)),(2,.p 1 0),(4,.p 2 0),(7,.v (.string y195)),(8,(k353:Int)),(31,.R 58),(32,(x192.length:Int)),(33,(k194:Int)),(37,.R 104),(38,(x351.length:Int)),(39,(k353:Int))],[(1,.box [.w 0 [],.w 0 [],.v (.bool false)]),(2,.box [.R 79,.R 81,.v (.bool false)]),(58,ro 1 ze2 x192),(79,ro 1 ze2 v314),(81,ro 1 ze0 v315),(104,ro 1 ze2 x351)],93,[]⟩:St))) ?_
 refine gs4 ?_
 refine⟨(k353+1,(k353:Int)),⟨hlt358,(zds hd356▸hH)⟩,qBl hlt358,?_⟩
 exact Le.ct 0 0
 refine gs5 ?_
 refine⟨(k353+1,v364),⟨hlt358,(zds hd356▸hH)⟩,qBl hlt358,?_⟩
 exact Le.ct 0 0
 rintro⟨v347,v348⟩ hs
 subst hs
 replace hH:=hK350
 try dsimp only[qLW,qJg]at hH
 try dsimp only
 refine gs4 ?_
 refine⟨(k194+1,v347,v348),⟨hlt199,(zds hd197▸hH)⟩,qBl hlt199,?_⟩
 refine Le.trans (Le.ct 97 79 (σ':=(⟨[(0,.v (.string sA)),(2,.p 1 0),(4,.p 2 0),(31,.R 58),(32,(x192.length:Int)),(33,((k194+1:Nat):Int))],[(1,.box [.w 0 [],.w 0 [],.v (.bool false)]),(2,.box [.R 79,.R 99,.v (.bool false)]),(58,ro 1 ze2 x192),(79,ro 1 ze2 v347),(99,ro 1 ze0 v348)],93,[]⟩:St))) ?_
 exact Le.ct 99 81
def qAN (fl:Nat) (x:CsState) (c:Code) (p:Performance):Option (CsState×aa) :=
 (qBa fl c p).bind fun x1 =>
 cond (!x1)
  (some (x,(⟨#[110,111]⟩:aa)))
  (some ((CsState.mk c p x.factor x.results x.no x.what x.lines),(⟨#[111,107]⟩:aa)))
theorem qBG (fl:Nat) (x:CsState) (c:Code) (p:Performance) (r:(CsState×aa)) (hH:qAN fl x c p=some r):qFe prog 140 [.pn (qGH x),.g (ze4 c),.g (ze8 p)] [.pn (qGH r.1),.u,.u] (.v (.string r.2)):=by
 refine qFh T func140 rfl (by decide) rfl rfl [.p 1 0,.g (ze4 c),.g (ze8 p)] [(1,.box (qF2 x 2 3)),(3,ro 1 ze0 x.what),(2,ro 1 ze0 x.no)] 4 (by kernel_rfl) [1] rfl rfl ?_
 intro L
 show AW _ _ _ (⟨[(0,.p 1 0),(1,.g (ze4 c)),(2,.g (ze8 p))],[(1,.box (qF2 x 2 3)),(3,ro 1 ze0 x.what),(2,ro 1 ze0 x.no)],19,[(1,L 1)]⟩:St)
 refine go ?_
 refine AO.x (bxs T 4) ?_
 refine AO.x (bxs T 5) (go ?_)
 obtain⟨x1,hx2,hH⟩:=zB hH
 refine go ?_
 refine AO.w (cVs (qMK fl _ _ _ (hx2))) (go ?_)
 refine AW.cH hH (fun _ hH=>?_) (fun _ hH=>?_)
 refine go ?_
 exact qEa
 refine go ?_
 refine AO.se T [sv ze7 c.elements,sv ze0 c.limits,c.repeats,c.bonus,c.keeps,c.fall,sv ze3 x.p.items,sv ze5 x.p.marks.grades,sv ze5 x.p.marks.components,x.p.slips.falls,x.p.slips.seconds,x.p.slips.other,x.factor,sv ze9 x.results,.R 2,.R 3,x.lines] ?_
 refine go ?_
 refine AO.se T [sv ze7 c.elements,sv ze0 c.limits,c.repeats,c.bonus,c.keeps,c.fall,sv ze3 p.items,sv ze5 p.marks.grades,sv ze5 p.marks.components,p.slips.falls,p.slips.seconds,p.slips.other,x.factor,sv ze9 x.results,.R 2,.R 3,x.lines] ?_
 refine go ?_
 exact qEa
def qCM (fl:Nat) (x:CsState) (sA:aa):Option (CsState×aa) :=
 (qGb fl sA).bind fun x1 =>
 cond ((!x1.2)||((x.p.items.length:Int)==14))
  (some (x,(⟨#[110,111]⟩:aa)))
  ((qHJ x.p.items).bind fun x3 =>
  (qAq (qAi 56 (x3.length+([x1.1]).length))).bind fun u5 =>
  (qAY x.p (x3++[x1.1])).bind fun x7 =>
  (qEX x7.marks).bind fun x9 =>
  (qAq (decide (0<=x9)&&qAi 8 x9.toNat)).bind fun u11 =>
  (qAq (qAi 24 (x7.marks.grades.length+([(List.replicate x9.toNat (0:Int))]).length))).bind fun u13 =>
  (qAN fl x x.code (Performance.mk x7.items (Marks.mk (x7.marks.grades++[(List.replicate x9.toNat (0:Int))]) x7.marks.components) x7.slips)).bind fun x15 =>
  some (x15.1,x15.2))
theorem qMA (fl:Nat) (x:CsState) (sA:aa) (r:(CsState×aa)) (hH:qCM fl x sA=some r):qFe prog 104 [.pn (qGH x),.v (.string sA)] [.pn (qGH r.1),.u] (.v (.string r.2)):=by
 refine qFh T func104 rfl (by decide) rfl rfl [.p 1 0,.v (.string sA)] [(1,.box (qF2 x 2 3)),(3,ro 1 ze0 x.what),(2,ro 1 ze0 x.no)] 4 (by kernel_rfl) [1] rfl rfl ?_
 intro L
 show AW _ _ _ (⟨[(0,.p 1 0),(1,.v (.string sA))],[(1,.box (qF2 x 2 3)),(3,ro 1 ze0 x.what),(2,ro 1 ze0 x.no)],56,[(1,L 1)]⟩:St)
 refine go ?_
 obtain⟨x1,hx2,hH⟩:=zB hH
 refine go ?_
 refine AO.x (qAV rfl 4 rfl rfl rfl (qPL fl _ _ (hx2)) rfl rfl rfl) (go ?_)
 refine AO.x (als T 6) ?_
 refine AO.se T [.R 4,.R 5,.v (.bool x1.1.late)] ?_
 refine go ?_
 refine AO.g0 T ?_
 refine AO.g1 T 16 ?_
 refine AO.g1 T 17 ?_
 refine AO.g1 T 18 ?_
 refine AO.g1 T 19 ?_
 refine AO.d1 20 (fun hg=>qMi T) ?_
 refine AO.g1 T 21 ?_
 refine go ?_
 refine AW.cH hH (fun _ hH=>?_) (fun _ hH=>?_)
 refine go ?_
 exact qEa
 refine go ?_
 obtain⟨x3,hx4,u5,hx6,x7,hx8,hH⟩:=qBC hH
 refine AW.le (Le.fM 4 (g:=ze2) rfl (fun y=>.vs rfl)) ?_
 refine AW.le (Le.fM 5 (g:=ze0) rfl (fun y=>.vs rfl)) ?_
 refine AW.drawn 15 7 [] mix (by kernel_rfl) rfl ?_
 refine go ?_
 refine AD.q (FStep.frzInE (k0:=7) (sz:=3) (l:=x3) (p:=ze6) (q:=ze3) (fun y=>qCJ y) (FStep.call rfl rfl rfl rfl rfl (qKf _ _ (hx4)) rfl rfl) rfl) (by simp[qA1];exact Nat.lt_succ_self _) (Nat.le_succ _) rfl ?_
 refine go ?_
 refine AD.q (FStep.mk T (f:=ze3) (l:=[x1.1]) rfl rfl rfl rfl rfl rfl rfl rfl rfl (fun _=>rfl) rfl rfl rfl rfl) (by simp[qA1]) (Nat.le_succ _) rfl ?_
 refine AD.kk (FStep.app_rv T rfl rfl rfl rfl rfl rfl rfl (by decide) rfl rfl rfl rfl (fun _=>rfl) (qAP (hx6)) rfl) ?_
 refine AD.qd rfl (FStep.callL rfl rfl rfl rfl (es:=[.g (ze8 x.p),sv ze3 (x3++[x1.1])]) ⟨.free rfl,(.rowR rfl (.map fun y=>.vs rfl)),trivial⟩ (qFq _ _ _ (hx8)) (qQ0 (zfl (.cons (qAz (fun y=>(.cons (qAz (fun y=>(.cons (qAJ _) .nil))) (.cons (qAz (fun y=>(.cons (qAJ _) .nil))) (.cons (qAJ _) .nil))))) (.cons (qAz (fun y=>(.cons (qAz (fun y=>(.cons (qAJ _) .nil))) .nil))) (.cons (qAz (fun y=>(.cons (qAz (fun y=>(.cons (qAJ _) .nil))) .nil))) (.cons (qAJ _) (.cons (qAJ _) (.cons (qAJ _) .nil)))))))) rfl rfl) (qAu _ _) (qC5 _ _) rfl ?_
 refine AD.q (FStep.alloc T rfl rfl rfl rfl rfl rfl) (by simp[qA1]) (Nat.le_succ _) rfl ?_
 refine AD.nil (AO.se T [.R 10,.R 11,.R 12,x7.slips.falls,x7.slips.seconds,x7.slips.other] ?_)
 refine AO.n (AW.le (Le.ct 0 0 (σ':=(⟨[(0,.p 1 0),(7,.p 13 0)],[(1,.box (qF2 x 2 3)),(2,ro 1 ze0 x.no),(3,ro 1 ze0 x.what),(10,ro 3 ze6 x7.items),(11,ro 1 ze1 x7.marks.grades),(12,ro 1 ze1 x7.marks.components),(13,.box [.R 10,.R 11,.R 12,x7.slips.falls,x7.slips.seconds,x7.slips.other])],56,[(1,L 1)]⟩:St)) (hpin:=⟨⟨rfl,rfl⟩,trivial⟩)) ?_)
 refine AW.q ?_
 obtain⟨x9,hx10,u11,hx12,u13,hx14,hH⟩:=qBC hH
 refine AW.drawn 8 14 [] mix (by kernel_rfl) rfl ?_
 refine go ?_
 refine AD.vv (zLV rfl rfl rfl (es:=[.g (qAb x7.marks)]) ⟨qEN (LendL.cons ((.rowR rfl (.map fun y=>qAR y))) (LendL.cons ((.rowR rfl (.map fun y=>qAR y))) LendL.nil)),trivial⟩ (qIV _ _ (hx10)) (qAJ _) rfl) ?_
 refine AD.q (FStep.make T rfl rfl rfl rfl rfl rfl rfl (f:=ze0) (zo:=0) (by repeat constructor) (by decide) rfl rfl (Bool.and_eq_true_iff.1 (qAP (hx12))).1 (Bool.and_eq_true_iff.1 (qAP (hx12))).2 rfl) (by simp[qA1]) (Nat.le_succ _) rfl ?_
 refine AD.kk (FStep.mk_o T rfl rfl rfl rfl rfl rfl rfl rfl (f:=ze1) (l:=[(List.replicate x9.toNat (0:Int))]) (ids:=[14]) rfl rfl (fun _=>rfl) (by exact zC (.rowR rfl) (zCn)) (by decide) rfl rfl rfl rfl) ?_
 refine AD.nil (AO.x (qEe T rfl 16 rfl rfl rfl rfl rfl (by decide) rfl rfl rfl rfl rfl (qAP (hx14)) rfl rfl) (go ?_))
 refine AO.se T [.R 10,.R 16,.R 12,x7.slips.falls,x7.slips.seconds,x7.slips.other] ?_
 refine go ?_
 obtain⟨x15,hx16,hH⟩:=zB hH
 refine AW.le (Le.fM 10 (g:=ze3) rfl (fun y=>qCJ y)) ?_
 refine AW.le (Le.fM 16 (g:=ze5) rfl (fun y=>qAR y)) ?_
 refine AW.le (Le.fM 12 (g:=ze5) rfl (fun y=>qAR y)) ?_
 refine AW.drawn 6 17 [] mix (by kernel_rfl) rfl ?_
 refine go ?_
 refine AO.x (qAd (qF2 x15.1 17 18) [(18,ro 1 ze0 x15.1.what),(17,ro 1 ze0 x15.1.no)] 19 (by kernel_rfl) rfl 17 rfl rfl rfl rfl (es:=[.pn (qGH x),.g (ze4 x.code),.g (ze8 (Performance.mk x7.items (Marks.mk (x7.marks.grades++[(List.replicate x9.toNat (0:Int))]) x7.marks.components) x7.slips))]) (us:=[.u,.u]) (cs:=qGH x15.1) (ids:=[1,2,3]) (by exact zG (.pb rfl (qA4 rfl rfl)) (zG (.g (zC .s (zC .s (zC .v (zC .v (zC .v (zC .v (zCn)))))))) (zG (.g (zC .s (zC .s (zC .s (zC .v (zC .v (zC .v (zCn)))))))) (zGn)))) (by decide) (by decide) (qBG fl _ _ _ _ (hx16)) rfl rfl (by rfl) rfl) (go ?_)
 exact qEa
def qD6 (sA:aa):Nat->Int->Int->Option Int
 |0,_,_=>none
 |k5+1,v12,v13 =>
  cond (decide (v13<(sA.size:Int)))
   ((qOD sA v13).bind fun b15 =>
   cond (decide ((b15.toNat:Int)<48)||decide ((b15.toNat:Int)>57))
    (some (-1))
    (qD6 sA k5 (w64 ((w64 (10*v12))+(IntKind.wrap .i64 (IntKind.wrap .u8 ((b15.toNat:Int)-48))))) (w64 (v13+1))))
   (some v12)
def qDN (fl:Nat) (sA:aa):Option Int :=
 (qAa (sA.size:Int) 1 6).bind fun x1 =>
 (opt (!(!x1)) default (qOD sA 0)).bind fun b3 =>
 cond ((!x1)||(((b3.toNat:Int)==48)&&decide ((sA.size:Int)>1)))
  (some (-1))
  (qD6 sA fl 0 0)
theorem qIH (fl:Nat) (sA:aa) (r:Int) (hH:qDN fl sA=some r):qAC prog 143 [.v (.string sA)] (.v (.int .i64 r)):=by
 refine fns T func143 ?_
 refine go ?_
 obtain⟨x1,hx2,b3,hx4,hH⟩:=qAH hH
 refine go ?_
 refine AO.w (cVs (qAc _ _ _ _ (hx2))) (go ?_)
 refine AO.g0 T ?_
 refine AO.d1 10 (fun hg=>qBM T rfl rfl rfl rfl (qE9 hx4 hg)) ?_
 refine AO.g1 T 11 ?_
 refine AO.g1 T 12 ?_
 refine AO.g0 T ?_
 refine AO.g1 T 14 ?_
 refine AO.g1 T 15 ?_
 refine AO.d [13] rfl ⟨fun h=>h,trivial⟩ (fun hg=>zN rfl rfl rfl (by rw[hg];exact Bool.true_and _)) rfl ?_
 refine go ?_
 refine AW.cH hH (fun _ hH=>?_) (fun hc hH=>?_)
 refine go ?_
 exact fin
 refine go ?_
 refine AW.loopS (fun s:Nat×Int×Int=>(⟨[(0,.v (.string sA)),(3,s.2.1),(4,s.2.2)],[],44,[]⟩:St)) (fun s=>qD6 sA s.1 s.2.1 s.2.2=some r) (fun s=>s.1) (fl,0,0) hH ?_ ?_
 exact Le.ct 0 0
 rintro⟨k5,v12,v13⟩ hH
 try dsimp only at hH⊢
 rcases k5 with _|k5
 cases (show none=some _ from hH)
 rw[qD6]at hH
 refine go ?_
 refine AW.cH hH (fun hc hH=>?_) (fun _ hH=>?_)
 refine go ?_
 obtain⟨b15,hx16,hH⟩:=zB hH
 refine go ?_
 refine AO.w (qBM T rfl rfl rfl rfl (hx16)) (go ?_)
 refine AO.g0 T ?_
 refine AO.g0 T ?_
 refine AO.d2 30 31 (fun hg=>qBM T rfl rfl rfl rfl (hx16)) ?_
 refine AO.g1 T 32 ?_
 refine go ?_
 refine AW.cH hH (fun _ hH=>?_) (fun hc hH=>?_)
 refine go ?_
 exact fin
 refine go ?_
 refine AO.w (qBM T rfl rfl rfl rfl (hx16)) ?_
 refine AO.w aws ?_
 refine AO.w (qNM T rfl rfl rfl rfl) (go ?_)
 refine⟨(k5,w64 ((w64 (10*v12))+(IntKind.wrap .i64 (IntKind.wrap .u8 ((b15.toNat:Int)-48)))),w64 (v13+1)),hH,Nat.lt_succ_self _,?_⟩
 exact Le.ct 0 0
 refine go ?_
 exact fin
def qHO (fl:Nat) (sA:aa):Option Int :=
 (opt (decide ((sA.size:Int)>1)) default (qOD sA 0)).bind fun b1 =>
 cond (decide ((sA.size:Int)>1)&&((b1.toNat:Int)==45))
  ((qAq (inB 1 sA.size sA.size)).bind fun u3 =>
  (qDN fl (ByteArray.extract sA (1:Int).toNat sA.size)).bind fun x5 =>
  cond (decide (x5>=0))
   (some (w64 ((-1)*x5)))
   (some 9999))
  ((qDN fl sA).bind fun x7 =>
  cond (decide (x7>=0))
   (some (w64 (1*x7)))
   (some 9999))
theorem qOc (fl:Nat) (sA:aa) (r:Int) (hH:qHO fl sA=some r):qAC prog 142 [.v (.string sA)] (.v (.int .i64 r)):=by
 refine fns T func142 ?_
 refine go ?_
 obtain⟨b1,hx2,hH⟩:=zB hH
 refine go ?_
 refine AO.g0 T ?_
 refine AO.d1 9 (fun hg=>qBM T rfl rfl rfl rfl (qE9 hx2 hg)) ?_
 refine AO.g1 T 10 ?_
 refine go ?_
 refine AW.cH hH (fun hc hH=>?_) (fun hc hH=>?_)
 refine go ?_
 obtain⟨u3,hx4,hH⟩:=zB hH
 refine go ?_
 refine AO.w (qFS T rfl rfl rfl rfl (qAP (hx4))) (go ?_)
 obtain⟨x5,hx6,hH⟩:=zB hH
 refine go ?_
 refine AO.w (cVs (qIH fl _ _ (hx6))) (go ?_)
 refine AW.cH hH (fun _ hH=>?_) (fun hc hH=>?_)
 refine go ?_
 exact fin
 refine go ?_
 exact fin
 refine go ?_
 obtain⟨x7,hx8,hH⟩:=zB hH
 refine go ?_
 refine AO.w (cVs (qIH fl _ _ (hx8))) (go ?_)
 refine AW.cH hH (fun _ hH=>?_) (fun _ hH=>?_)
 refine go ?_
 exact fin
 refine go ?_
 exact fin
end Go.Proofs.YtkidpkmpnbibmaaGreatDoor

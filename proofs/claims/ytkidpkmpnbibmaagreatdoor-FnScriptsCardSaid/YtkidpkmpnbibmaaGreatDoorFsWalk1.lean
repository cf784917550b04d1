/- The walk, part 1: what each function reached by the law FnScripts computes. No condition. -/
import Derived.Test.YtkidpkmpnbibmaaGreatDoorFsAm3
import Derived.Test.YtkidpkmpnbibmaaGreatDoorFsShelf
import Derived.Test.YtkidpkmpnbibmaaGreatDoorProg
set_option maxRecDepth 4000
set_option maxHeartbeats 1000000
set_option linter.unusedVariables false
set_option linter.unusedSimpArgs false
set_option linter.unusedSectionVars false
namespace Go.Proofs.YtkidpkmpnbibmaaGreatDoor
open Go.AM Tryz
abbrev bD:=ByteArray
abbrev bE:=List Int
abbrev bF:=Option Bool
abbrev bz (l:List UInt8):ByteArray:=⟨⟨l⟩⟩
abbrev ba:Option TI:=some ⟨.struct [(0,38),(6,50),(12,3),(13,31),(14,26),(15,26),(16,3)],17,264,some (.agg #[.slice none 0 0,.slice none 0 0,.int .i64 0,.int .i64 0,.int .i64 0,.int .i64 0,.slice none 0 0,.slice none 0 0,.slice none 0 0,.int .i64 0,.int .i64 0,.int .i64 0,.int .i64 0,.slice none 0 0,.slice none 0 0,.slice none 0 0,.int .i64 0])⟩
abbrev bc:Option TI:=some ⟨.struct [(0,38),(6,50),(12,3),(13,31)],14,208,some (.agg #[.slice none 0 0,.slice none 0 0,.int .i64 0,.int .i64 0,.int .i64 0,.int .i64 0,.slice none 0 0,.slice none 0 0,.slice none 0 0,.int .i64 0,.int .i64 0,.int .i64 0,.int .i64 0,.slice none 0 0])⟩
abbrev be:Option TI:=some ⟨.struct [(0,12),(1,12),(2,250),(3,268),(4,5),(5,5),(6,269),(7,270),(8,113),(9,271),(10,272)],11,48,some (.agg #[.int .u64 0,.int .u64 0,.int .u32 0,.int .u8 0,.int .u8 0,.int .u8 0,.int .u8 0,.nilFunc,.pointer none,.int .i32 0,.int .i32 0])⟩
abbrev bf:Option TI:=some ⟨.struct [(0,36),(1,26),(2,3),(3,3),(4,3),(5,3)],6,80,some (.agg #[.slice none 0 0,.slice none 0 0,.int .i64 0,.int .i64 0,.int .i64 0,.int .i64 0])⟩
abbrev bg:Option TI:=some ⟨.struct [(0,43),(1,46),(3,48)],6,96,some (.agg #[.slice none 0 0,.slice none 0 0,.slice none 0 0,.int .i64 0,.int .i64 0,.int .i64 0])⟩
abbrev bh:Option TI:=some ⟨.struct [(0,17),(1,17),(2,17),(3,9)],4,40,some (.agg #[.pointer none,.pointer none,.pointer none,.string ⟨#[]⟩])⟩
abbrev bi:Option TI:=some ⟨.struct [(0,9),(1,3),(2,3),(3,3)],4,40,some (.agg #[.string ⟨#[]⟩,.int .i64 0,.int .i64 0,.int .i64 0])⟩
abbrev bj:Option TI:=some ⟨.struct [(0,2),(1,3),(2,4),(3,6)],4,24,some (.agg #[.int .i64 0,.int .i64 0,.bool false,.int .u8 0])⟩
abbrev bl:Option TI:=some ⟨.struct [(0,70),(1,26),(2,4)],3,56,some (.agg #[.slice none 0 0,.slice none 0 0,.bool false])⟩
abbrev bm:Option TI:=some ⟨.struct [(0,55),(1,3),(2,99)],3,40,some (.agg #[.slice none 0 0,.int .i64 0,.int .u64 0])⟩
abbrev bn:Option TI:=some ⟨.struct [(0,3),(1,3),(2,3)],3,24,some (.agg #[.int .i64 0,.int .i64 0,.int .i64 0])⟩
abbrev bo:Option TI:=some ⟨.struct [(0,44),(1,44)],2,48,some (.agg #[.slice none 0 0,.slice none 0 0])⟩
abbrev bp:Option TI:=some ⟨.struct [(0,73),(1,55)],2,32,some (.agg #[.pointer none,.slice none 0 0])⟩
abbrev bq:Option TI:=some ⟨.struct [(0,3),(1,26)],2,32,some (.agg #[.int .i64 0,.slice none 0 0])⟩
abbrev br:Option TI:=some ⟨.struct [(0,9),(1,12)],2,24,some (.agg #[.string ⟨#[]⟩,.int .u64 0])⟩
abbrev bt:Option TI:=some ⟨.int .u8,1,1,some (.int .u8 0)⟩
abbrev bu:Option TI:=some ⟨.struct [(0,5),(1,5)],2,2,some (.agg #[.int .u8 0,.int .u8 0])⟩
abbrev bv:Option TI:=some ⟨.int .u64,1,8,some (.int .u64 0)⟩
abbrev bw:Option TI:=some ⟨.int .i32,1,4,some (.int .i32 0)⟩
abbrev bx:Option TI:=some ⟨.struct [(0,17)],1,8,some (.agg #[.pointer none])⟩
abbrev bA:Option TI:=some ⟨.str,1,16,some (.string ⟨#[]⟩)⟩
abbrev bB:Option TI:=some ⟨.struct [(0,265)],0,0,some (.agg #[])⟩
abbrev bC:Option TI:=some ⟨.int .i64,1,8,some (.int .i64 0)⟩
def teL:List (Option TI):=[none,none,bC,bC,some ⟨.bool,1,1,some (.bool false)⟩,bt,bt,bj,bj,bA,bA,bA,bv,br,br,some ⟨.ptr 264,1,8,some (.pointer none)⟩,some ⟨.ptr 267,1,8,some (.pointer none)⟩,some ⟨.ptr 274,1,8,some (.pointer none)⟩,bx,bx,none,bw,none,none,none,none,some ⟨.slice 3,1,24,some (.slice none 0 0)⟩,none,none,none,none,some ⟨.slice 89,1,24,some (.slice none 0 0)⟩,none,none,none,none,some ⟨.slice 107,1,24,some (.slice none 0 0)⟩,bf,bf,none,none,none,none,some ⟨.slice 120,1,24,some (.slice none 0 0)⟩,some ⟨.slice 26,1,24,some (.slice none 0 0)⟩,bo,bo,bn,bn,bg,bg,none,none,none,none,some ⟨.slice 5,1,24,some (.slice none 0 0)⟩,none,none,none,none,none,none,none,none,none,none,some ⟨.ptr 82,1,8,some (.pointer none)⟩,none,none,some ⟨.ptr 86,1,8,some (.pointer none)⟩,some ⟨.slice 9,1,24,some (.slice none 0 0)⟩,none,none,some ⟨.ptr 75,1,8,some (.pointer none)⟩,bp,bp,none,none,none,none,none,ba,ba,none,none,bc,bc,none,bq,bq,none,none,none,none,none,none,none,none,some ⟨.ptr 101,1,8,some (.pointer none)⟩,bv,bm,bm,none,none,none,none,bi,bi,none,none,none,none,none,some ⟨.ptr 5,1,8,some (.pointer none)⟩,none,none,none,none,none,bl,bl,none,none,none,none,none,none,none,none,none,none,none,none,none,none,none,none,none,none,none,none,none,none,none,none,bv,none,none,none,none,none,none,none,none,none,none,none,none,none,none,none,none,none,none,none,none,some ⟨.array 4 9,4,64,some (.agg #[.string ⟨#[]⟩,.string ⟨#[]⟩,.string ⟨#[]⟩,.string ⟨#[]⟩])⟩,none,none,none,none,none,none,none,none,none,none,none,none,none,none,none,none,none,none,none,none,none,none,none,none,none,none,none,none,none,none,none,none,none,none,none,none,none,none,none,none,none,none,none,none,none,none,none,none,none,none,none,none,none,none,none,none,none,none,none,none,none,none,none,none,none,none,none,none,some ⟨.array 24 5,24,24,some (.agg #[.int .u8 0,.int .u8 0,.int .u8 0,.int .u8 0,.int .u8 0,.int .u8 0,.int .u8 0,.int .u8 0,.int .u8 0,.int .u8 0,.int .u8 0,.int .u8 0,.int .u8 0,.int .u8 0,.int .u8 0,.int .u8 0,.int .u8 0,.int .u8 0,.int .u8 0,.int .u8 0,.int .u8 0,.int .u8 0,.int .u8 0,.int .u8 0])⟩,none,none,none,none,none,none,none,none,none,none,none,bu,bu,some ⟨.array 16 248,32,32,some (.agg #[.int .u8 0,.int .u8 0,.int .u8 0,.int .u8 0,.int .u8 0,.int .u8 0,.int .u8 0,.int .u8 0,.int .u8 0,.int .u8 0,.int .u8 0,.int .u8 0,.int .u8 0,.int .u8 0,.int .u8 0,.int .u8 0,.int .u8 0,.int .u8 0,.int .u8 0,.int .u8 0,.int .u8 0,.int .u8 0,.int .u8 0,.int .u8 0,.int .u8 0,.int .u8 0,.int .u8 0,.int .u8 0,.int .u8 0,.int .u8 0,.int .u8 0,.int .u8 0])⟩,some ⟨.int .u32,1,4,some (.int .u32 0)⟩,none,none,none,some ⟨.array 20 99,20,160,some (.agg #[.int .u64 0,.int .u64 0,.int .u64 0,.int .u64 0,.int .u64 0,.int .u64 0,.int .u64 0,.int .u64 0,.int .u64 0,.int .u64 0,.int .u64 0,.int .u64 0,.int .u64 0,.int .u64 0,.int .u64 0,.int .u64 0,.int .u64 0,.int .u64 0,.int .u64 0,.int .u64 0])⟩,none,none,none,none,none,none,some ⟨.array 32 5,32,32,some (.agg #[.int .u8 0,.int .u8 0,.int .u8 0,.int .u8 0,.int .u8 0,.int .u8 0,.int .u8 0,.int .u8 0,.int .u8 0,.int .u8 0,.int .u8 0,.int .u8 0,.int .u8 0,.int .u8 0,.int .u8 0,.int .u8 0,.int .u8 0,.int .u8 0,.int .u8 0,.int .u8 0,.int .u8 0,.int .u8 0,.int .u8 0,.int .u8 0,.int .u8 0,.int .u8 0,.int .u8 0,.int .u8 0,.int .u8 0,.int .u8 0,.int .u8 0,.int .u8 0])⟩,none,bh,bh,some ⟨.array 0 16,0,0,some (.agg #[])⟩,bB,bB,bt,bt,none,bw,bw,be,be]
def te:TE:=qap teL
theorem T:qGz prog te:=qY0 (by kernel_rfl)
theorem mix:prog.follows .mixedOrders=true:=by kernel_rfl
def ze0 (x:Int):List D:=[.v (.int .i64 x)]
def qan (x:Bool):List D:=[.v (.bool x)]
def ze1 (x:bD):List D:=[.v (.string x)]
def qNr (x:Int):List D:=[.v (.int .u8 x)]
def qZK (x:Int):List D:=[.v (.int .u64 x)]
def qZM (x:Int):List D:=[.v (.int .i32 x)]
def qZD (x:List bD):List D:=[.s (x.map ze1)]
def qWw (x:List bD):List D:=[.w 1 (x.map ze1)]
theorem qak (x:List bD):FrzL (qWw x) (qZD x):=.cons (.map fun y=>.vs rfl) .nil
def ze3 (x:bE):List D:=[.s (x.map ze0)]
def ze7 (x:bE):List D:=[.w 1 (x.map ze0)]
theorem qAh (x:bE):FrzL (ze7 x) (ze3 x):=.cons (.map fun y=>.vs rfl) .nil
structure Element where
 aC:bD
 aE:Int
 aI:Int
 aG:Int
 deriving Inhabited,DecidableEq
def ze5 (x:Element):List D:=[.v (.string x.aC),.v (.int .i64 x.aE),.v (.int .i64 x.aI),.v (.int .i64 x.aG)]
def qS9 (x:List Element):List D:=[.s (x.map ze5)]
def qR8 (x:List Element):List D:=[.w 4 (x.map ze5)]
theorem qYW (x:List Element):FrzL (qR8 x) (qS9 x):=.cons (.map fun y=>.vs rfl) .nil
structure L1Cur where
 ag:bE
 at':Int
 aH:Int
 deriving Inhabited,DecidableEq
def qID (x:L1Cur):List D:=[.s (x.ag.map qNr),.v (.int .i64 x.at'),.v (.int .u64 x.aH)]
def qUy (x:L1Cur):List D:=[.w 1 (x.ag.map qNr),.v (.int .i64 x.at'),.v (.int .u64 x.aH)]
theorem qab (x:L1Cur):FrzL (qUy x) (qID x):=.cons (.map fun y=>.vs rfl) (.cons (.vs rfl) (.cons (.vs rfl) (.nil)))
structure Code where
 ad:List Element
 ar:bE
 aq:Int
 av:Int
 au:Int
 ay:Int
 deriving Inhabited,DecidableEq
def ze4 (x:Code):List D:=[.s (x.ad.map ze5),.s (x.ar.map ze0),.v (.int .i64 x.aq),.v (.int .i64 x.av),.v (.int .i64 x.au),.v (.int .i64 x.ay)]
def qPP (x:Code):List D:=[.w 4 (x.ad.map ze5),.w 1 (x.ar.map ze0),.v (.int .i64 x.aq),.v (.int .i64 x.av),.v (.int .i64 x.au),.v (.int .i64 x.ay)]
theorem qaq (x:Code):FrzL (qPP x) (ze4 x):=.cons (.map fun y=>.vs rfl) (.cons (.map fun y=>.vs rfl) (.cons (.vs rfl) (.cons (.vs rfl) (.cons (.vs rfl) (.cons (.vs rfl) (.nil))))))
structure Item where
 aj:List bD
 ae:bE
 aB:Bool
 deriving Inhabited,DecidableEq
def ze2 (x:Item):List D:=[.s (x.aj.map ze1),.s (x.ae.map ze0),.v (.bool x.aB)]
def qBn (x:Item):List D:=[.w 1 (x.aj.map ze1),.w 1 (x.ae.map ze0),.v (.bool x.aB)]
theorem qGO (x:Item):FrzL (qBn x) (ze2 x):=.cons (.map fun y=>.vs rfl) (.cons (.map fun y=>.vs rfl) (.cons (.vs rfl) (.nil)))
structure Marks where
 ah:List bE
 ac:List bE
 deriving Inhabited,DecidableEq
def qJb (x:Marks):List D:=[.s (x.ah.map ze3),.s (x.ac.map ze3)]
def qJj (x:Marks):List D:=[.w 1 (x.ah.map ze7),.w 1 (x.ac.map ze7)]
theorem qaX (x:Marks):FrzL (qJj x) (qJb x):=.cons (.map fun y=>qAh y) (.cons (.map fun y=>qAh y) (.nil))
structure Slips where
 falls:Int
 an:Int
 aw:Int
 deriving Inhabited,DecidableEq
def qK9 (x:Slips):List D:=[.v (.int .i64 x.falls),.v (.int .i64 x.an),.v (.int .i64 x.aw)]
structure Performance where
 ai:List Item
 ae:Marks
 af:Slips
 deriving Inhabited,DecidableEq
def ze9 (x:Performance):List D:=[.s (x.ai.map ze2),.s (x.ae.ah.map ze3),.s (x.ae.ac.map ze3),.v (.int .i64 x.af.falls),.v (.int .i64 x.af.an),.v (.int .i64 x.af.aw)]
def qJT (x:Performance):List D:=[.w 3 (x.ai.map qBn),.w 1 (x.ae.ah.map ze7),.w 1 (x.ae.ac.map ze7),.v (.int .i64 x.af.falls),.v (.int .i64 x.af.an),.v (.int .i64 x.af.aw)]
theorem qWo (x:Performance):FrzL (qJT x) (ze9 x):=.cons (.map fun y=>qGO y) (.cons (.map fun y=>qAh y) (.cons (.map fun y=>qAh y) (.cons (.vs rfl) (.cons (.vs rfl) (.cons (.vs rfl) (.nil))))))
structure Result where
 ax:Int
 ap:bE
 deriving Inhabited,DecidableEq
def ze6 (x:Result):List D:=[.v (.int .i64 x.ax),.s (x.ap.map ze0)]
def qQ3 (x:Result):List D:=[.v (.int .i64 x.ax),.w 1 (x.ap.map ze0)]
theorem qVn (x:Result):FrzL (qQ3 x) (ze6 x):=.cons (.vs rfl) (.cons (.map fun y=>.vs rfl) (.nil))
structure ScriptState where
 ag:Code
 aa:Performance
 am:Int
 ak:List Result
 deriving Inhabited,DecidableEq
def qKE (x:ScriptState):List D:=[.s (x.ag.ad.map ze5),.s (x.ag.ar.map ze0),.v (.int .i64 x.ag.aq),.v (.int .i64 x.ag.av),.v (.int .i64 x.ag.au),.v (.int .i64 x.ag.ay),.s (x.aa.ai.map ze2),.s (x.aa.ae.ah.map ze3),.s (x.aa.ae.ac.map ze3),.v (.int .i64 x.aa.af.falls),.v (.int .i64 x.aa.af.an),.v (.int .i64 x.aa.af.aw),.v (.int .i64 x.am),.s (x.ak.map ze6)]
def qPu (x:ScriptState):List D:=[.w 4 (x.ag.ad.map ze5),.w 1 (x.ag.ar.map ze0),.v (.int .i64 x.ag.aq),.v (.int .i64 x.ag.av),.v (.int .i64 x.ag.au),.v (.int .i64 x.ag.ay),.w 3 (x.aa.ai.map qBn),.w 1 (x.aa.ae.ah.map ze7),.w 1 (x.aa.ae.ac.map ze7),.v (.int .i64 x.aa.af.falls),.v (.int .i64 x.aa.af.an),.v (.int .i64 x.aa.af.aw),.v (.int .i64 x.am),.w 2 (x.ak.map qQ3)]
theorem qWn (x:ScriptState):FrzL (qPu x) (qKE x):=.cons (.map fun y=>.vs rfl) (.cons (.map fun y=>.vs rfl) (.cons (.vs rfl) (.cons (.vs rfl) (.cons (.vs rfl) (.cons (.vs rfl) (.cons (.map fun y=>qGO y) (.cons (.map fun y=>qAh y) (.cons (.map fun y=>qAh y) (.cons (.vs rfl) (.cons (.vs rfl) (.cons (.vs rfl) (.cons (.vs rfl) (.cons (.map fun y=>qVn y) (.nil))))))))))))))
structure CsState where
 ag:Code
 p:Performance
 am:Int
 ak:List Result
 no:bE
 aA:bE
 aF:Int
 deriving Inhabited,DecidableEq
def qUR (x:CsState):List D:=[.s (x.ag.ad.map ze5),.s (x.ag.ar.map ze0),.v (.int .i64 x.ag.aq),.v (.int .i64 x.ag.av),.v (.int .i64 x.ag.au),.v (.int .i64 x.ag.ay),.s (x.p.ai.map ze2),.s (x.p.ae.ah.map ze3),.s (x.p.ae.ac.map ze3),.v (.int .i64 x.p.af.falls),.v (.int .i64 x.p.af.an),.v (.int .i64 x.p.af.aw),.v (.int .i64 x.am),.s (x.ak.map ze6),.s (x.no.map ze0),.s (x.aA.map ze0),.v (.int .i64 x.aF)]
def qGi (x:CsState):List D:=[.s (x.ag.ad.map ze5),.s (x.ag.ar.map ze0),.v (.int .i64 x.ag.aq),.v (.int .i64 x.ag.av),.v (.int .i64 x.ag.au),.v (.int .i64 x.ag.ay),.s (x.p.ai.map ze2),.s (x.p.ae.ah.map ze3),.s (x.p.ae.ac.map ze3),.v (.int .i64 x.p.af.falls),.v (.int .i64 x.p.af.an),.v (.int .i64 x.p.af.aw),.v (.int .i64 x.am),.s (x.ak.map ze6),.w 1 (x.no.map ze0),.w 1 (x.aA.map ze0),.v (.int .i64 x.aF)]
def ze8 (x:CsState) (i0 i1:Nat):List D:=[.s (x.ag.ad.map ze5),.s (x.ag.ar.map ze0),.v (.int .i64 x.ag.aq),.v (.int .i64 x.ag.av),.v (.int .i64 x.ag.au),.v (.int .i64 x.ag.ay),.s (x.p.ai.map ze2),.s (x.p.ae.ah.map ze3),.s (x.p.ae.ac.map ze3),.v (.int .i64 x.p.af.falls),.v (.int .i64 x.p.af.an),.v (.int .i64 x.p.af.aw),.v (.int .i64 x.am),.s (x.ak.map ze6),.R i0,.R i1,.v (.int .i64 x.aF)]
theorem qBB {σ:St} {x:CsState} {i0 i1:Nat} (h0:get σ.h i0=some (.row 1 (x.no.map ze0))) (h1:get σ.h i1=some (.row 1 (x.aA.map ze0))):qN5 σ (ze8 x i0 i1) (qGi x) [i0,i1]:=zC .s (zC .s (zC .v (zC .v (zC .v (zC .v (zC .s (zC .s (zC .s (zC .v (zC .v (zC .v (zC .v (zC .s (zC (.rowR h0) (zC (.rowR h1) (zC .v (zCn)))))))))))))))))
theorem qZH (x:CsState):FrzL (qGi x) (qUR x):=.cons (.vs rfl) (.cons (.vs rfl) (.cons (.vs rfl) (.cons (.vs rfl) (.cons (.vs rfl) (.cons (.vs rfl) (.cons (.vs rfl) (.cons (.vs rfl) (.cons (.vs rfl) (.cons (.vs rfl) (.cons (.vs rfl) (.cons (.vs rfl) (.cons (.vs rfl) (.cons (.vs rfl) (.cons (.map fun y=>.vs rfl) (.cons (.map fun y=>.vs rfl) (.cons (.vs rfl) (.nil)))))))))))))))))
theorem qUF:ekT prog 107=some [.s,.i .i64,.i .i64,.i .i64]:=by kernel_rfl
theorem qUO (x y:Element):eqV (ze5 x) (ze5 y)=decide (x=y):=by
 cases x;cases y
 rw[Bool.eq_iff_iff]
 simp[ze5,eqV,eqE]
theorem qXY:ekT prog 48=some [.i .i64,.i .i64,.i .i64]:=by kernel_rfl
theorem qXE (x y:Slips):eqV (qK9 x) (qK9 y)=decide (x=y):=by
 cases x;cases y
 rw[Bool.eq_iff_iff]
 simp[qK9,eqV,eqE]
def qFa (c:L1Cur):Option (L1Cur×Int) :=
 cond (decide (c.at'<(c.ag.length:Int)))
  ((qAV c.ag c.at').bind fun a =>
  cond (decide ((w64 (c.at'+1))<=(c.ag.length:Int)))
   (some ((L1Cur.mk c.ag (w64 (c.at'+1)) (IntKind.wrap .u64 ((IntKind.wrap .u64 ((IntKind.wrap .u64 (c.aH*6364136223846793005))+(IntKind.wrap .u64 (IntKind.wrap .i64 a))))+1442695040888963407))),IntKind.wrap .i64 a))
   (some ((L1Cur.mk c.ag (w64 (c.at'+1)) (IntKind.wrap .u64 ((IntKind.wrap .u64 ((IntKind.wrap .u64 (c.aH*6364136223846793005))+(IntKind.wrap .u64 (IntKind.wrap .i64 a))))+1442695040888963407))),IntKind.wrap .i64 (IntKind.wrap .u64 ((BitVec.ofInt 64 ((IntKind.wrap .u64 ((IntKind.wrap .u64 ((IntKind.wrap .u64 (c.aH*6364136223846793005))+(IntKind.wrap .u64 (IntKind.wrap .i64 a))))+1442695040888963407)).fdiv (2 ^ 40)) &&& BitVec.ofInt 64 255).toNat:Int)))))
  (cond (decide ((w64 (c.at'+1))<=(c.ag.length:Int)))
   (some ((L1Cur.mk c.ag (w64 (c.at'+1)) (IntKind.wrap .u64 ((IntKind.wrap .u64 ((IntKind.wrap .u64 (c.aH*6364136223846793005))+(IntKind.wrap .u64 0)))+1442695040888963407))),0))
   (some ((L1Cur.mk c.ag (w64 (c.at'+1)) (IntKind.wrap .u64 ((IntKind.wrap .u64 ((IntKind.wrap .u64 (c.aH*6364136223846793005))+(IntKind.wrap .u64 0)))+1442695040888963407))),IntKind.wrap .i64 (IntKind.wrap .u64 ((BitVec.ofInt 64 ((IntKind.wrap .u64 ((IntKind.wrap .u64 ((IntKind.wrap .u64 (c.aH*6364136223846793005))+(IntKind.wrap .u64 0)))+1442695040888963407)).fdiv (2 ^ 40)) &&& BitVec.ofInt 64 255).toNat:Int)))))
theorem qJq (c:L1Cur) (r:(L1Cur×Int)) (J:qFa c=some r):qGM prog 88 [.pw (qID c)] [.pw (qID r.1)] (.v (.int .i64 r.2)):=by
 refine qJs T func88 rfl (by decide) rfl rfl ?_
 intro L
 show AW _ _ _ (⟨[(0,.p 1 0)],[(1,.box [sv qNr c.ag,c.at',.v (.int .u64 c.aH)])],62,[(1,L 1)]⟩:St)
 refine go ?_
 refine AW.drawn 9 2 [] mix (by kernel_rfl) rfl ?_
 refine go ?_
 refine AW.cH J (fun hc J=>?_) (fun hc J=>?_)
 obtain⟨a,b,J⟩:=zB J
 refine AW.drawn 8 2 [] mix (by kernel_rfl) rfl ?_
 refine go ?_
 refine AO.w (qJL T rfl rfl rfl rfl) ?_
 refine gs2 ?_
 refine AW.le (Le.ct 0 0 (σ':=(⟨[(0,.p 1 0),(3,(IntKind.wrap .i64 a:Int))],[(1,.box [sv qNr c.ag,c.at',.v (.int .u64 c.aH)])],62,[(1,L 1)]⟩:St)) (hpin:=⟨⟨rfl,rfl⟩,trivial⟩)) ?_
 refine go ?_
 refine AO.se T [sv qNr c.ag,w64 (c.at'+1),.v (.int .u64 c.aH)] ?_
 refine go ?_
 refine AO.w (qJL T rfl rfl rfl rfl) (go ?_)
 refine AO.se T [sv qNr c.ag,w64 (c.at'+1),.v (.int .u64 (IntKind.wrap .u64 ((IntKind.wrap .u64 ((IntKind.wrap .u64 (c.aH*6364136223846793005))+(IntKind.wrap .u64 (IntKind.wrap .i64 a))))+1442695040888963407)))] ?_
 refine go ?_
 refine AW.drawn 9 2 [] mix (by kernel_rfl) rfl ?_
 iterate 12 refine gs ?_
 refine AW.le (Le.ct 0 0 (σ':=(⟨[(0,.p 1 0),(3,(IntKind.wrap .i64 a:Int)),(53,.v (.bool (decide ((w64 (c.at'+1))<=(c.ag.length:Int)))))],[(1,.box [sv qNr c.ag,w64 (c.at'+1),.v (.int .u64 (IntKind.wrap .u64 ((IntKind.wrap .u64 ((IntKind.wrap .u64 (c.aH*6364136223846793005))+(IntKind.wrap .u64 (IntKind.wrap .i64 a))))+1442695040888963407)))])],62,[(1,L 1)]⟩:St)) (hpin:=⟨⟨rfl,rfl⟩,trivial⟩)) ?_
 refine AW.cH J (fun _ J=>?_) (fun hc J=>?_)
 refine go ?_
 exact qDO
 refine go ?_
 refine AO.w (qYI rfl rfl rfl rfl rfl) ?_
 refine AO.w (qX5 rfl rfl rfl) ?_
 refine AO.w (qJL T rfl rfl rfl rfl) (go ?_)
 exact qDO
 refine go ?_
 refine AO.se T [sv qNr c.ag,w64 (c.at'+1),.v (.int .u64 c.aH)] ?_
 refine go ?_
 refine AO.w (qJL T rfl rfl rfl rfl) (go ?_)
 refine AO.se T [sv qNr c.ag,w64 (c.at'+1),.v (.int .u64 (IntKind.wrap .u64 ((IntKind.wrap .u64 ((IntKind.wrap .u64 (c.aH*6364136223846793005))+(IntKind.wrap .u64 0)))+1442695040888963407)))] ?_
 refine AO.n (AW.le (Le.ct 0 0 (σ':=(⟨[(0,.p 1 0),(3,(0:Int))],[(1,.box [sv qNr c.ag,w64 (c.at'+1),.v (.int .u64 (IntKind.wrap .u64 ((IntKind.wrap .u64 ((IntKind.wrap .u64 (c.aH*6364136223846793005))+(IntKind.wrap .u64 0)))+1442695040888963407)))])],62,[(1,L 1)]⟩:St)) (hpin:=⟨⟨rfl,rfl⟩,trivial⟩)) ?_)
 refine go ?_
 refine AW.drawn 9 2 [] mix (by kernel_rfl) rfl ?_
 refine go ?_
 refine AW.cH J (fun _ J=>?_) (fun _ J=>?_)
 refine go ?_
 exact qDO
 refine go ?_
 refine AO.w (qYI rfl rfl rfl rfl rfl) ?_
 refine AO.w (qX5 rfl rfl rfl) ?_
 refine AO.w (qJL T rfl rfl rfl rfl) (go ?_)
 exact qDO
def qA2 (c:L1Cur) (n:Int):Option (L1Cur×Int) :=
 cond (decide (n<=1))
  (some (c,0))
  ((qFa c).bind fun a =>
  cond (decide (n>200))
   ((qFa a.1).bind fun b =>
   (qAl (n != 0)).bind fun d =>
   some (b.1,((w64 ((w64 (a.2*256))+b.2)).tmod n)))
   ((qAl (n != 0)).bind fun e =>
   some (a.1,(a.2.tmod n))))
theorem qBJ (c:L1Cur) (n:Int) (r:(L1Cur×Int)) (J:qA2 c n=some r):qGM prog 64 [.pw (qID c),n] [.pw (qID r.1),.u] (.v (.int .i64 r.2)):=by
 refine qJs T func64 rfl (by decide) rfl rfl ?_
 intro L
 show AW _ _ _ (⟨[(0,.p 1 0),(1,n)],[(1,.box [sv qNr c.ag,c.at',.v (.int .u64 c.aH)])],20,[(1,L 1)]⟩:St)
 refine go ?_
 refine AW.cH J (fun _ J=>?_) (fun hc J=>?_)
 refine go ?_
 exact qDO
 refine go ?_
 obtain⟨f,a,J⟩:=zB J
 refine go ?_
 refine AO.x (cMs 2 [1] (S:=qJq _ _ (a)) (hp:=by exact zG (.c (.box rfl rfl)) (zGn))) (go ?_)
 refine AW.cH J (fun _ J=>?_) (fun _ J=>?_)
 obtain⟨g,b,J⟩:=zB J
 refine go ?_
 refine AO.x (cMs 2 [1] (S:=qJq _ _ (b)) (hp:=by exact zG (.c (.box rfl rfl)) (zGn))) (go ?_)
 obtain⟨h,d,J⟩:=zB J
 refine go ?_
 refine AO.w (qP7 rfl rfl rfl (neZ (qAJ (d)))) (go ?_)
 exact qDO
 refine go ?_
 obtain⟨i,e,J⟩:=zB J
 refine go ?_
 refine AO.w (qP7 rfl rfl rfl (neZ (qAJ (e)))) (go ?_)
 exact qDO
def qF7 (c:L1Cur) (n:Int):Option (L1Cur×Bool) :=
 (qA2 c n).bind fun a =>
 some (a.1,(a.2==0))
theorem qKM (c:L1Cur) (n:Int) (r:(L1Cur×Bool)) (J:qF7 c n=some r):qGM prog 63 [.pw (qID c),n] [.pw (qID r.1),.u] (.v (.bool r.2)):=by
 refine qJs T func63 rfl (by decide) rfl rfl ?_
 intro L
 show AW _ _ _ (⟨[(0,.p 1 0),(1,n)],[(1,.box [sv qNr c.ag,c.at',.v (.int .u64 c.aH)])],9,[(1,L 1)]⟩:St)
 refine go ?_
 obtain⟨b,a,J⟩:=zB J
 refine go ?_
 refine AO.x (cMs 2 [1] (S:=qBJ _ _ _ (a)) (hp:=by exact zG (.c (.box rfl rfl)) (zG (.c .v) (zGn)))) (go ?_)
 exact qDO
def qBQ (a8:Nat):Nat->Int->Option bD
 |0,_=>none
 |rf+1,n =>
  cond (decide (n<10))
   (some (strOfNums [IntKind.wrap .u8 (w64 (48+n))]))
   ((qAl (10 != 0)).bind fun b =>
   (qBQ a8 rf (w64 (n.tdiv 10))).bind fun a =>
   (qAl (Nat.ble (a.size+(strOfNums [IntKind.wrap .u8 (w64 (48+(n.tmod 10)))]).size) qDF)).bind fun c =>
   some (a++(strOfNums [IntKind.wrap .u8 (w64 (48+(n.tmod 10)))])))
theorem qF0 (a8:Nat):∀(rf:Nat) (n:Int) (r:bD) (J:qBQ a8 rf n=some r),qAC prog 89 [n] (.v (.string r)):=by
 intro rf
 induction rf with
 |zero=>intro n r J;rw[qBQ]at J;cases J
 |succ rf ih =>
 intro n r J
 rw[qBQ]at J
 refine fns T func89 ?_
 refine go ?_
 refine AW.cH J (fun _ J=>?_) (fun _ J=>?_)
 refine go ?_
 refine AO.w (qJL T rfl rfl rfl rfl) ?_
 refine AO.x (mks T 1 qNr ([IntKind.wrap .u8 (w64 (48+n))])) ?_
 refine AO.w (qNR T rfl rfl rfl rfl rfl rfl (fun _=>rfl) rfl) (go ?_)
 exact fin
 refine go ?_
 obtain⟨d,a,e,b,g,c,J⟩:=qAq J
 refine AW.drawn 9 2 [] mix (by kernel_rfl) rfl ?_
 refine AD.pu T ?_
 refine AD.vv (qHt rfl rfl rfl (neZ (qAJ (a)))) ?_
 refine AD.vv (cVs (ih _ _ (b))) ?_
 refine AD.pu T ?_
 refine AD.vv (qP7 rfl rfl rfl (neZ (qAJ (a)))) ?_
 refine AD.vv aws ?_
 refine AD.vv (qJL T rfl rfl rfl rfl) ?_
 refine AD.q (FStep.mk T (f:=qNr) (l:=[IntKind.wrap .u8 (w64 (48+(n.tmod 10)))]) rfl rfl rfl rfl rfl rfl rfl rfl rfl (fun _=>rfl) rfl rfl rfl rfl) (by simp[qA1]) (Nat.le_succ _) rfl ?_
 refine AD.vald rfl rfl rfl (qNR T rfl rfl rfl rfl rfl rfl (fun _=>rfl) rfl) ?_
 refine AD.nil (AO.w (qAP rfl rfl rfl (Nat.le_of_ble_eq_true (qAJ (c)))) (go ?_))
 exact fin
def qEb (c:L1Cur) (list:List bD):Option (L1Cur×bD) :=
 (qA2 c (list.length:Int)).bind fun a =>
 (qAV list a.2).bind fun b =>
 some (a.1,b)
theorem qBS (c:L1Cur) (list:List bD) (r:(L1Cur×bD)) (J:qEb c list=some r):qGM prog 90 [.pw (qID c),.s (List.map ze1 list)] [.pw (qID r.1),.u] (.v (.string r.2)):=by
 refine qJs T func90 rfl (by decide) rfl rfl ?_
 intro L
 show AW _ _ _ (⟨[(0,.p 1 0),(1,sv ze1 list)],[(1,.box [sv qNr c.ag,c.at',.v (.int .u64 c.aH)])],12,[(1,L 1)]⟩:St)
 refine go ?_
 obtain⟨d,a,e,b,J⟩:=qAE J
 refine go ?_
 refine AO.x (cMs 2 [1] (S:=qBJ _ _ _ (a)) (hp:=by exact zG (.c (.box rfl rfl)) (zG (.c .v) (zGn)))) (go ?_)
 exact qDO
def slC (c:L1Cur) (l:List bD):Option (L1Cur×bD):=(qEb c l).bind fun x=>some (x.1,x.2)
def slA (c:L1Cur) (p:bD) (l:List bD):Option (L1Cur×bD):=(qEb c l).bind fun x=>(qAl (Nat.ble (p.size+x.2.size) qDF)).bind fun _=>some (x.1,p++x.2)
def slB (a8:Nat) (c:L1Cur) (p d:bD) (n:Int) (l:List bD):Option (L1Cur×bD):=(qAl (Nat.ble (p.size+d.size) qDF)).bind fun _=>(qAl (Nat.ble ((p++d).size+(bz [32]).size) qDF)).bind fun _=>(qA2 c n).bind fun x=>(qBQ a8 a8 x.2).bind fun y=>(qAl (Nat.ble (((p++d)++(bz [32])).size+y.size) qDF)).bind fun _=>(qAl (Nat.ble ((((p++d)++(bz [32]))++y).size+(bz [32]).size) qDF)).bind fun _=>(qEb x.1 l).bind fun z=>(qAl (Nat.ble (((((p++d)++(bz [32]))++y)++(bz [32])).size+z.2.size) qDF)).bind fun _=>some (z.1,(((((p++d)++(bz [32]))++y)++(bz [32]))++z.2))
abbrev lO {c:L1Cur} {l:List bD} {x:L1Cur×bD} (_:qEb c l=some x):List bD:=l
def qCn (a8:Nat) (c:L1Cur):Option (L1Cur×bD):=(qA2 c 4).bind fun d=>(qBQ a8 a8 d.2).bind fun b=>(qA2 d.1 20).bind fun a =>
 (cond (a.2==0) (some (a.2==0)) (some (a.2==1))).bind fun h =>
 cond h (slA a.1 (bz [105,116,101,109,32]) [(bz [51,65]),(bz [50,84]),(bz [51,65,60,43,50,84,32,120]),(bz [50,84,42]),(bz [83,84,83,81]),(bz [51,65,43,50,84,43,50,84]),(bz [51,65,32,101]),(bz [57,90])]) ((cond (a.2==2) (some (a.2==2)) (some (a.2==3))).bind fun e =>
 cond e (slB a8 a.1 (bz [103,114,97,100,101,32]) b 4 [(bz [48]),(bz [51]),(bz [45,50]),(bz [53]),(bz [45,53]),(bz [54]),(bz [45,48])]) ((cond (a.2==4) (some (a.2==4)) (some (a.2==5))).bind fun f =>
 cond f (slB a8 a.1 (bz [99,111,109,112,111,110,101,110,116,32]) b 4 [(bz [48]),(bz [53,48,48]),(bz [55,50,53]),(bz [49,48,48,48]),(bz [55,49,48])])
 (cond (a.2==6) (slB a8 a.1 (bz [99,97,108,108,32]) b 2 [(bz [110,111,110,101]),(bz [100,111,119,110]),(bz [101,100,103,101]),(bz [118,111,105,100]),(bz [98,97,100])])
 (cond (a.2==7) (slA a.1 (bz [115,108,105,112,115,32]) [(bz [48,32,48,32,48]),(bz [49,32,54,32,53,48]),(bz [57,32,54,48,32,53,48,48]),(bz [49,48,32,48,32,48])])
 (cond (a.2==8) (slA a.1 (bz [102,97,99,116,111,114,32]) [(bz [56,48]),(bz [49,54,48]),(bz [57]),(bz [52,48,49])])
 (cond (a.2==9) (slA a.1 (bz [106,117,100,103,101,115,32]) [(bz [51]),(bz [53]),(bz [57]),(bz [50]),(bz [49,48])])
 (cond (a.2==10) (slA a.1 (bz [115,107,97,116,101,114,32]) [(bz [49]),(bz [55]),(bz [49,50]),(bz [55]),(bz [48])])
 (cond (a.2==11) (slC a.1 [(bz [108,105,109,105,116,32,48,32,49]),(bz [108,105,109,105,116,32,53,32,49]),(bz [108,105,109,105,116,32,50,32,49,48]),(bz [114,117,108,101,115,32,49,32,48,32,55,48,32,49,48,48]),(bz [114,117,108,101,115,32,52,32,48,32,55,48,32,49,48,48]),(bz [114,117,108,101,115,32,50,32,50,48,32,53,48,32,53,48,48])])
 (cond (a.2==12) (slC a.1 [(bz [101,108,101,109,101,110,116,32,50,84,32,48,32,48,32,49,51,48]),(bz [101,108,101,109,101,110,116,32,83,84,83,81,32,50,32,51,32,51,51,48]),(bz [101,108,101,109,101,110,116,32,50,84,32,48,32,48,32,53]),(bz [101,108,101,109,101,110,116,32,50,116,32,48,32,48,32,53])]) ((cond (a.2==13) (some (a.2==13))
 (cond (a.2==14) (some (a.2==14))
 (cond (a.2==15) (some (a.2==15)) (some (a.2==16))))).bind fun g =>
 cond g (slC a.1 [(bz [115,99,111,114,101]),(bz [98,97,115,101]),(bz [99,104,101,99,107]),(bz [98,111,117,110,100]),(bz [98,101,115,116]),(bz [112,108,97,99,101,115]),(bz [108,97,116,101]),(bz [114,97,110,103,101,32,48]),(bz [114,97,110,103,101,32,53])]) (slC a.1 [(bz [102,108,121]),(⟨#[]⟩:bD),(bz [103,114,97,100,101,32,48,32,48]),(bz [105,116,101,109]),(bz [99,97,108,108,32,48,32,48]),(bz [101,108,101,109,101,110,116]),(bz [115,107,97,116,101,114,32,48,49]),(bz [112,108,97,99,101,115,32,49]),(bz [108,105,109,105,116,32,45,49,32,50])])))))))))))
theorem qHc (a8:Nat) (c:L1Cur) (r:(L1Cur×bD)) (J:qCn a8 c=some r):qGM prog 65 [.pw (qID c)] [.pw (qID r.1)] (.v (.string r.2)):=by
 refine qJs T func65 rfl (by decide) rfl rfl ?_
 intro L
 show AW _ _ _ (⟨[(0,.p 1 0)],[(1,.box [sv qNr c.ag,c.at',.v (.int .u64 c.aH)])],105,[(1,L 1)]⟩:St)
 refine go ?_
 obtain⟨x1,ai,u,aj,J⟩:=qAE J
 refine go ?_
 refine AO.x (cMs 2 [1] (S:=qBJ _ _ _ (ai)) (hp:=by exact zG (.c (.box rfl rfl)) (zG (.c .v) (zGn)))) ?_
 refine AO.w (cVs (qF0 a8 a8 _ _ (aj))) (go ?_)
 obtain⟨a,ak,J⟩:=zB J
 refine go ?_
 refine AO.x (cMs 2 [1] (S:=qBJ _ _ _ (ak)) (hp:=by exact zG (.c (.box rfl rfl)) (zG (.c .v) (zGn)))) ?_
 refine gs2 ?_
 obtain⟨o8,J,al⟩:=zB J
 refine AW.seqJ (fun s:Bool=>(⟨[(0,.p 1 0),(3,.v (.string u)),(8,a.2),(9,.v (.bool s))],[(1,.box [sv qNr a.1.ag,a.1.at',.v (.int .u64 a.1.aH)])],105,[(1,L 1)]⟩:St)) (fun s=>s=o8) ?_ ?_
 refine go ?_
 refine AW.cH J (fun _ J=>?_) (fun hc J=>?_)
 refine AW.k ?_
 refine⟨_,zS J,?_⟩
 exact Le.ct 0 0 (hpin:=⟨⟨rfl,rfl⟩,trivial⟩)
 refine go ?_
 refine⟨_,zS J,?_⟩
 exact Le.ct 0 0 (hpin:=⟨⟨rfl,rfl⟩,trivial⟩)
 rintro v7 hs
 subst hs
 replace J:=al
 try dsimp only[qKL,qIN]at J
 try dsimp only
 refine AW.cH J (fun _ J=>?_) (fun hc J=>?_)
 refine AW.q ?_
 obtain⟨aq,b,ar,z,J⟩:=qAE J
 refine go ?_
 refine AO.x (mks T 2 ze1 (lO b)) ?_
 refine AO.le (Le.fM 2 (g:=ze1) rfl (fun y=>.vs rfl)) ?_
 refine AO.x (cMs 3 [1] (S:=qBS _ _ _ (b)) (hp:=by exact zG (.c (.box rfl rfl)) (zG (.c .s) (zGn)))) ?_
 refine AO.w (qAP rfl rfl rfl (Nat.le_of_ble_eq_true (qAJ (z)))) (go ?_)
 exact qDO
 obtain⟨am,J,A⟩:=zB J
 refine AW.seqJ (fun s:Bool=>(⟨[(0,.p 1 0),(3,.v (.string u)),(8,a.2),(16,.v (.bool s))],[(1,.box [sv qNr a.1.ag,a.1.at',.v (.int .u64 a.1.aH)])],105,[(1,L 1)]⟩:St)) (fun s=>s=am) ?_ ?_
 refine go ?_
 refine AW.cH J (fun _ J=>?_) (fun hc J=>?_)
 refine AW.k ?_
 refine⟨_,zS J,?_⟩
 exact Le.ct 0 0 (hpin:=⟨⟨rfl,rfl⟩,trivial⟩)
 refine go ?_
 refine⟨_,zS J,?_⟩
 exact Le.ct 0 0 (hpin:=⟨⟨rfl,rfl⟩,trivial⟩)
 rintro au hs
 subst hs
 replace J:=A
 try dsimp only[qKL,qIN]at J
 try dsimp only
 refine AW.cH J (fun _ J=>?_) (fun hc J=>?_)
 refine AW.q ?_
 obtain⟨av,B,aw,C,ax,E,J⟩:=qAq J
 obtain⟨ay,F,az,G,aA,H,J⟩:=qAq J
 obtain⟨aB,d,aC,I,J⟩:=qAE J
 refine go ?_
 refine AO.w (qAP rfl rfl rfl (Nat.le_of_ble_eq_true (qAJ (B)))) ?_
 refine AO.w (qAP rfl rfl rfl (Nat.le_of_ble_eq_true (qAJ (C)))) ?_
 refine AO.pu T ?_
 refine AO.x (cMs 3 [1] (S:=qBJ _ _ _ (E)) (hp:=by exact zG (.c (.box rfl rfl)) (zG (.c .v) (zGn)))) ?_
 refine AO.w (cVs (qF0 a8 a8 _ _ (F))) ?_
 refine AO.w (qAP rfl rfl rfl (Nat.le_of_ble_eq_true (qAJ (G)))) ?_
 refine AO.w (qAP rfl rfl rfl (Nat.le_of_ble_eq_true (qAJ (H)))) ?_
 refine AO.pu T ?_
 refine AO.x (mks T 3 ze1 (lO d)) ?_
 refine AO.le (Le.fM 3 (g:=ze1) rfl (fun y=>.vs rfl)) ?_
 refine AO.x (cMs 4 [1] (S:=qBS _ _ _ (d)) (hp:=by exact zG (.c (.box rfl rfl)) (zG (.c .s) (zGn)))) ?_
 refine AO.w (qAP rfl rfl rfl (Nat.le_of_ble_eq_true (qAJ (I)))) (go ?_)
 exact qDO
 obtain⟨an,J,K⟩:=zB J
 refine AW.seqJ (fun s:Bool=>(⟨[(0,.p 1 0),(3,.v (.string u)),(8,a.2),(31,.v (.bool s))],[(1,.box [sv qNr a.1.ag,a.1.at',.v (.int .u64 a.1.aH)])],105,[(1,L 1)]⟩:St)) (fun s=>s=an) ?_ ?_
 refine go ?_
 refine AW.cH J (fun _ J=>?_) (fun hc J=>?_)
 refine AW.k ?_
 refine⟨_,zS J,?_⟩
 exact Le.ct 0 0 (hpin:=⟨⟨rfl,rfl⟩,trivial⟩)
 refine go ?_
 refine⟨_,zS J,?_⟩
 exact Le.ct 0 0 (hpin:=⟨⟨rfl,rfl⟩,trivial⟩)
 rintro aD hs
 subst hs
 replace J:=K
 try dsimp only[qKL,qIN]at J
 try dsimp only
 refine AW.cH J (fun _ J=>?_) (fun hc J=>?_)
 refine AW.q ?_
 obtain⟨aE,M,aF,N,aG,O,J⟩:=qAq J
 obtain⟨aI,P,aJ,Q,aK,R,J⟩:=qAq J
 obtain⟨aL,e,aM,U,J⟩:=qAE J
 refine go ?_
 refine AO.w (qAP rfl rfl rfl (Nat.le_of_ble_eq_true (qAJ (M)))) ?_
 refine AO.w (qAP rfl rfl rfl (Nat.le_of_ble_eq_true (qAJ (N)))) ?_
 refine AO.pu T ?_
 refine AO.x (cMs 4 [1] (S:=qBJ _ _ _ (O)) (hp:=by exact zG (.c (.box rfl rfl)) (zG (.c .v) (zGn)))) ?_
 refine AO.w (cVs (qF0 a8 a8 _ _ (P))) ?_
 refine AO.w (qAP rfl rfl rfl (Nat.le_of_ble_eq_true (qAJ (Q)))) ?_
 refine AO.w (qAP rfl rfl rfl (Nat.le_of_ble_eq_true (qAJ (R)))) ?_
 refine AO.pu T ?_
 refine AO.x (mks T 4 ze1 (lO e)) ?_
 refine AO.le (Le.fM 4 (g:=ze1) rfl (fun y=>.vs rfl)) ?_
 refine AO.x (cMs 5 [1] (S:=qBS _ _ _ (e)) (hp:=by exact zG (.c (.box rfl rfl)) (zG (.c .s) (zGn)))) ?_
 refine AO.w (qAP rfl rfl rfl (Nat.le_of_ble_eq_true (qAJ (U)))) (go ?_)
 exact qDO
 refine go ?_
 refine AW.cH J (fun _ J=>?_) (fun hc J=>?_)
 refine AW.q ?_
 obtain⟨aN,V,aO,W,aP,X,J⟩:=qAq J
 obtain⟨aQ,Y,aR,Z,aS,aa,J⟩:=qAq J
 obtain⟨aT,f,aU,ab,J⟩:=qAE J
 refine go ?_
 refine AO.w (qAP rfl rfl rfl (Nat.le_of_ble_eq_true (qAJ (V)))) ?_
 refine AO.w (qAP rfl rfl rfl (Nat.le_of_ble_eq_true (qAJ (W)))) ?_
 refine AO.pu T ?_
 refine AO.x (cMs 5 [1] (S:=qBJ _ _ _ (X)) (hp:=by exact zG (.c (.box rfl rfl)) (zG (.c .v) (zGn)))) ?_
 refine AO.w (cVs (qF0 a8 a8 _ _ (Y))) ?_
 refine AO.w (qAP rfl rfl rfl (Nat.le_of_ble_eq_true (qAJ (Z)))) ?_
 refine AO.w (qAP rfl rfl rfl (Nat.le_of_ble_eq_true (qAJ (aa)))) ?_
 refine AO.pu T ?_
 refine AO.x (mks T 5 ze1 (lO f)) ?_
 refine AO.le (Le.fM 5 (g:=ze1) rfl (fun y=>.vs rfl)) ?_
 refine AO.x (cMs 6 [1] (S:=qBS _ _ _ (f)) (hp:=by exact zG (.c (.box rfl rfl)) (zG (.c .s) (zGn)))) ?_
 refine AO.w (qAP rfl rfl rfl (Nat.le_of_ble_eq_true (qAJ (ab)))) (go ?_)
 exact qDO
 refine go ?_
 refine AW.cH J (fun _ J=>?_) (fun hc J=>?_)
 refine AW.q ?_
 obtain⟨aV,h,aW,ac,J⟩:=qAE J
 refine go ?_
 refine AO.x (mks T 6 ze1 (lO h)) ?_
 refine AO.le (Le.fM 6 (g:=ze1) rfl (fun y=>.vs rfl)) ?_
 refine AO.x (cMs 7 [1] (S:=qBS _ _ _ (h)) (hp:=by exact zG (.c (.box rfl rfl)) (zG (.c .s) (zGn)))) ?_
 refine AO.w (qAP rfl rfl rfl (Nat.le_of_ble_eq_true (qAJ (ac)))) (go ?_)
 exact qDO
 refine go ?_
 refine AW.cH J (fun _ J=>?_) (fun hc J=>?_)
 refine AW.q ?_
 obtain⟨aX,i,aY,ad,J⟩:=qAE J
 refine go ?_
 refine AO.x (mks T 7 ze1 (lO i)) ?_
 refine AO.le (Le.fM 7 (g:=ze1) rfl (fun y=>.vs rfl)) ?_
 refine AO.x (cMs 8 [1] (S:=qBS _ _ _ (i)) (hp:=by exact zG (.c (.box rfl rfl)) (zG (.c .s) (zGn)))) ?_
 refine AO.w (qAP rfl rfl rfl (Nat.le_of_ble_eq_true (qAJ (ad)))) (go ?_)
 exact qDO
 refine go ?_
 refine AW.cH J (fun _ J=>?_) (fun hc J=>?_)
 refine AW.q ?_
 obtain⟨aZ,j,a0,ae,J⟩:=qAE J
 refine go ?_
 refine AO.x (mks T 8 ze1 (lO j)) ?_
 refine AO.le (Le.fM 8 (g:=ze1) rfl (fun y=>.vs rfl)) ?_
 refine AO.x (cMs 9 [1] (S:=qBS _ _ _ (j)) (hp:=by exact zG (.c (.box rfl rfl)) (zG (.c .s) (zGn)))) ?_
 refine AO.w (qAP rfl rfl rfl (Nat.le_of_ble_eq_true (qAJ (ae)))) (go ?_)
 exact qDO
 refine go ?_
 refine AW.cH J (fun _ J=>?_) (fun hc J=>?_)
 refine AW.q ?_
 obtain⟨a1,l,a2,af,J⟩:=qAE J
 refine go ?_
 refine AO.x (mks T 9 ze1 (lO l)) ?_
 refine AO.le (Le.fM 9 (g:=ze1) rfl (fun y=>.vs rfl)) ?_
 refine AO.x (cMs 10 [1] (S:=qBS _ _ _ (l)) (hp:=by exact zG (.c (.box rfl rfl)) (zG (.c .s) (zGn)))) ?_
 refine AO.w (qAP rfl rfl rfl (Nat.le_of_ble_eq_true (qAJ (af)))) (go ?_)
 exact qDO
 refine go ?_
 refine AW.cH J (fun _ J=>?_) (fun hc J=>?_)
 refine AW.q ?_
 obtain⟨a3,m,J⟩:=zB J
 refine go ?_
 refine AO.x (mks T 10 ze1 (lO m)) ?_
 refine AO.le (Le.fM 10 (g:=ze1) rfl (fun y=>.vs rfl)) ?_
 refine AO.x (cMs 11 [1] (S:=qBS _ _ _ (m)) (hp:=by exact zG (.c (.box rfl rfl)) (zG (.c .s) (zGn)))) (go ?_)
 exact qDO
 refine go ?_
 refine AW.cH J (fun _ J=>?_) (fun hc J=>?_)
 refine AW.q ?_
 obtain⟨a4,n,J⟩:=zB J
 refine go ?_
 refine AO.x (mks T 11 ze1 (lO n)) ?_
 refine AO.le (Le.fM 11 (g:=ze1) rfl (fun y=>.vs rfl)) ?_
 refine AO.x (cMs 12 [1] (S:=qBS _ _ _ (n)) (hp:=by exact zG (.c (.box rfl rfl)) (zG (.c .s) (zGn)))) (go ?_)
 exact qDO
 obtain⟨ao,J,ah⟩:=zB J
 refine AW.seqJ (fun s:Bool=>(⟨[(0,.p 1 0),(94,.v (.bool s))],[(1,.box [sv qNr a.1.ag,a.1.at',.v (.int .u64 a.1.aH)])],105,[(1,L 1)]⟩:St)) (fun s=>s=ao) ?_ ?_
 refine go ?_
 refine AW.cH J (fun _ J=>?_) (fun hc J=>?_)
 refine AW.k ?_
 refine⟨_,zS J,?_⟩
 exact Le.ct 0 0 (hpin:=⟨⟨rfl,rfl⟩,trivial⟩)
 refine go ?_
 refine AW.cH J (fun _ J=>?_) (fun hc J=>?_)
 refine AW.k ?_
 refine⟨_,zS J,?_⟩
 exact Le.ct 0 0 (hpin:=⟨⟨rfl,rfl⟩,trivial⟩)
 refine go ?_
 refine AW.cH J (fun _ J=>?_) (fun hc J=>?_)
 refine AW.k ?_
 refine⟨_,zS J,?_⟩
 exact Le.ct 0 0 (hpin:=⟨⟨rfl,rfl⟩,trivial⟩)
 refine go ?_
 refine⟨_,zS J,?_⟩
 exact Le.ct 0 0 (hpin:=⟨⟨rfl,rfl⟩,trivial⟩)
 rintro a5 hs
 subst hs
 replace J:=ah
 try dsimp only[qKL,qIN]at J
 try dsimp only
 refine AW.cH J (fun _ J=>?_) (fun _ J=>?_)
 refine AW.q ?_
 obtain⟨a6,o,J⟩:=zB J
 refine go ?_
 refine AO.x (mks T 12 ze1 (lO o)) ?_
 refine AO.le (Le.fM 12 (g:=ze1) rfl (fun y=>.vs rfl)) ?_
 refine AO.x (cMs 13 [1] (S:=qBS _ _ _ (o)) (hp:=by exact zG (.c (.box rfl rfl)) (zG (.c .s) (zGn)))) (go ?_)
 exact qDO
 refine go ?_
 obtain⟨a7,t,J⟩:=zB J
 refine go ?_
 refine AO.x (mks T 13 ze1 (lO t)) ?_
 refine AO.le (Le.fM 13 (g:=ze1) rfl (fun y=>.vs rfl)) ?_
 refine AO.x (cMs 14 [1] (S:=qBS _ _ _ (t)) (hp:=by exact zG (.c (.box rfl rfl)) (zG (.c .s) (zGn)))) (go ?_)
 exact qDO
def qBw:Nat->bD->Int->Option bD
 |0,_,_=>none
 |c+1,a,b =>
  cond (decide (b>0))
   ((qAl (Nat.ble (a.size+(bz [98,97,115,101,10]).size) qDF)).bind fun d =>
   qBw c (a++(bz [98,97,115,101,10])) (w64 (b-1)))
   (some a)
def qCw (b:(L1Cur×Int)):Nat->bD->Option bD
 |0,_=>none
 |c+1,a =>
  cond (decide ((a.size:Int)<(w64 (1999+b.2))))
   ((qAl (Nat.ble (a.size+(bz [120]).size) qDF)).bind fun d =>
   qCw b c (a++(bz [120])))
   ((qAl (Nat.ble (a.size+(bz [10]).size) qDF)).bind fun e =>
   some (a++(bz [10])))
def qBg (a8:Nat):Nat->bE->Int->Int->bD->Int->Option bD
 |0,_,_,_,_,_=>none
 |h+1,d,e,f,a,g =>
  cond (decide (g>=0))
   ((qCn a8 (L1Cur.mk d e f)).bind fun b =>
   (qAl (Nat.ble (b.2.size+(bz [10]).size) qDF)).bind fun k =>
   (qAl (Nat.ble (a.size+(b.2++(bz [10])).size) qDF)).bind fun l =>
   qBg a8 h b.1.ag b.1.at' b.1.aH (a++(b.2++(bz [10]))) (w64 (g-1)))
   ((qA2 (L1Cur.mk d e f) 30).bind fun c =>
   cond (c.2==0)
    ((qAl (inB 0 (w64 ((a.size:Int)-1)) a.size)).bind fun m =>
    some (ByteArray.extract a 0 (w64 ((a.size:Int)-1)).toNat))
    (cond (c.2==1)
     ((qA2 c.1 2).bind fun i =>
     qBw a8 (⟨#[]⟩:bD) (w64 (40+i.2)))
     (cond (c.2==2)
      (some (⟨#[]⟩:bD))
      (cond (c.2==3)
       ((qA2 c.1 2).bind fun j =>
       qCw j a8 (bz [98,97,115,101,10]))
       (some a)))))
def qEZ (a8:Nat) (code:bE):Option bD :=
 ((qF7 (L1Cur.mk code 0 0) 5).bind fun a =>
 cond (!a.2)
  (some (a.1.ag,a.1.at',a.1.aH,(bz [101,108,101,109,101,110,116,32,50,84,32,48,32,48,32,49,51,48,10,101,108,101,109,101,110,116,32,83,84,83,81,32,50,32,51,32,51,51,48,10,106,117,100,103,101,115,32,53,10,105,116,101,109,32,51,65,10,105,116,101,109,32,50,84,10,105,116,101,109,32,83,84,83,81,10])))
  (some (a.1.ag,a.1.at',a.1.aH,(⟨#[]⟩:bD)))).bind fun (c,d,e,f) =>
 (qA2 (L1Cur.mk c d e) 18).bind fun b =>
 qBg a8 a8 b.1.ag b.1.at' b.1.aH f b.2
theorem qI6 (a8:Nat) (code:bE) (r:bD) (J:qEZ a8 code=some r):qAC prog 34 [.s (List.map qNr code)] (.v (.string r)):=by
 refine fns T func34 ?_
 refine go ?_
 refine AO.x (bxs T 1) ?_
 refine gs6 ?_
 obtain⟨K,J,B⟩:=zB J
 refine AW.seqJ (fun s:bE×Int×Int×bD=>(⟨[(3,.p 1 0),(4,.v (.string s.2.2.2))],[(1,.box [sv qNr s.1,s.2.1,.v (.int .u64 s.2.2.1)])],61,[]⟩:St)) (fun s=>s=K) ?_ ?_
 refine AW.q ?_
 obtain⟨Y,h,J⟩:=zB J
 refine go ?_
 refine AO.x (cMs 2 [1] (S:=qKM _ _ _ (h)) (hp:=by exact zG (.c (.box rfl rfl)) (zG (.c .v) (zGn)))) (go ?_)
 refine AW.cH J (fun _ J=>?_) (fun hc J=>?_)
 refine go ?_
 refine⟨_,zS J,?_⟩
 exact Le.ct 0 0
 refine AW.k ?_
 refine⟨_,zS J,?_⟩
 exact Le.ct 0 0
 rintro⟨Z,v4,v5,L⟩ hs
 subst hs
 replace J:=B
 try dsimp only[qKL,qIN]at J
 try dsimp only
 refine go ?_
 obtain⟨a,i,J⟩:=zB J
 refine go ?_
 refine AO.x (cMs 2 [1] (S:=qBJ _ _ _ (i)) (hp:=by exact zG (.c (.box rfl rfl)) (zG (.c .v) (zGn)))) (go ?_)
 refine AW.loopS (fun s:Nat×bE×Int×Int×bD×Int=>(⟨[(3,.p 1 0),(4,.v (.string s.2.2.2.2.1)),(5,s.2.2.2.2.2)],[(1,.box [sv qNr s.2.1,s.2.2.1,.v (.int .u64 s.2.2.2.1)])],61,[]⟩:St)) (fun s=>qBg a8 s.1 s.2.1 s.2.2.1 s.2.2.2.1 s.2.2.2.2.1 s.2.2.2.2.2=some r) (fun s=>s.1) (a8,a.1.ag,a.1.at',a.1.aH,L,a.2) J ?_ ?_
 exact Le.ct 0 0
 rintro⟨d,M,N,O,C,E⟩ J
 try dsimp only at J⊢
 rcases d with _|d
 cases (show none=some _ from J)
 rw[qBg]at J
 refine go ?_
 refine AW.cH J (fun _ J=>?_) (fun hc J=>?_)
 refine go ?_
 obtain⟨b,j,P,l,Q,m,J⟩:=qAq J
 refine go ?_
 refine AO.x (cMs 2 [1] (S:=qHc a8 _ _ (j)) (hp:=by exact zG (.c (.box rfl rfl)) (zGn))) ?_
 refine AO.w (qAP rfl rfl rfl (Nat.le_of_ble_eq_true (qAJ (l)))) ?_
 refine AO.w (qAP rfl rfl rfl (Nat.le_of_ble_eq_true (qAJ (m)))) (go ?_)
 refine⟨(d,b.1.ag,b.1.at',b.1.aH,(C++(b.2++(bz [10]))),w64 (E-1)),J,Nat.lt_succ_self _,?_⟩
 exact Le.ct 0 0
 refine go ?_
 obtain⟨R,n,J⟩:=zB J
 refine go ?_
 refine AO.x (cMs 2 [1] (S:=qBJ _ _ _ (n)) (hp:=by exact zG (.c (.box rfl rfl)) (zG (.c .v) (zGn)))) (go ?_)
 refine AW.cH J (fun _ J=>?_) (fun hc J=>?_)
 refine AW.q ?_
 obtain⟨U,o,J⟩:=zB J
 refine go ?_
 refine AO.w (qFo T rfl rfl rfl rfl (qAJ (o))) (go ?_)
 exact fin
 refine go ?_
 refine AW.cH J (fun hc J=>?_) (fun hc J=>?_)
 refine go ?_
 obtain⟨F,t,J⟩:=zB J
 refine go ?_
 refine AO.x (cMs 2 [1] (S:=qBJ _ _ _ (t)) (hp:=by exact zG (.c (.box rfl rfl)) (zG (.c .v) (zGn)))) (go ?_)
 refine AW.loopS (fun s:Nat×bD×Int=>(⟨[(4,.v (.string s.2.1)),(6,s.2.2)],[],61,[]⟩:St)) (fun s=>qBw s.1 s.2.1 s.2.2=some r) (fun s=>s.1) (a8,(⟨#[]⟩:bD),w64 (40+F.2)) J ?_ ?_
 exact Le.ct 0 0
 rintro⟨e,G,H⟩ J
 try dsimp only at J⊢
 rcases e with _|e
 cases (show none=some _ from J)
 rw[qBw]at J
 refine go ?_
 refine AW.cH J (fun _ J=>?_) (fun hc J=>?_)
 refine go ?_
 obtain⟨V,u,J⟩:=zB J
 refine go ?_
 refine AO.w (qAP rfl rfl rfl (Nat.le_of_ble_eq_true (qAJ (u)))) (go ?_)
 refine⟨(e,(G++(bz [98,97,115,101,10])),w64 (H-1)),J,Nat.lt_succ_self _,?_⟩
 exact Le.ct 0 0
 refine go ?_
 exact fin
 refine go ?_
 refine Cf J fun hc J=>?_
 refine go ?_
 refine AW.cH J (fun hc J=>?_) (fun _ J=>?_)
 refine go ?_
 obtain⟨g,y,J⟩:=zB J
 refine go ?_
 refine AO.x (cMs 2 [1] (S:=qBJ _ _ _ (y)) (hp:=by exact zG (.c (.box rfl rfl)) (zG (.c .v) (zGn)))) (go ?_)
 refine AW.loopS (fun s:Nat×bD=>(⟨[(4,.v (.string s.2)),(7,w64 (1999+g.2))],[],61,[]⟩:St)) (fun s=>qCw g s.1 s.2=some r) (fun s=>s.1) (a8,(bz [98,97,115,101,10])) J ?_ ?_
 exact Le.ct 0 0
 rintro⟨f,I⟩ J
 try dsimp only at J⊢
 rcases f with _|f
 cases (show none=some _ from J)
 rw[qCw]at J
 refine go ?_
 refine AW.cH J (fun _ J=>?_) (fun hc J=>?_)
 refine go ?_
 obtain⟨W,z,J⟩:=zB J
 refine go ?_
 refine AO.w (qAP rfl rfl rfl (Nat.le_of_ble_eq_true (qAJ (z)))) (go ?_)
 refine⟨(f,(I++(bz [120]))),J,Nat.lt_succ_self _,?_⟩
 exact Le.ct 0 0
 refine AW.exit ?_
 obtain⟨X,A,J⟩:=zB J
 refine go ?_
 refine AO.w (qAP rfl rfl rfl (Nat.le_of_ble_eq_true (qAJ (A)))) (go ?_)
 exact fin
 refine go ?_
 exact fin
def qCA (s:bD) (sep:bD):Option (List bD):=(qAl (Nat.blt s.size 4294967281&&Nat.blt 0 sep.size)).bind fun _=>some (qIi s sep)
theorem qIo (s:bD) (sep:bD) (r:List bD) (J:qCA s sep=some r):qAC prog 113 [.v (.string s),.v (.string sep)] (.w 1 (r.map ze1)):=by
 obtain⟨u,hu,hr⟩:=zB J
 cases zS hr
 exact qUS ⟨_,func113,rfl,by decide⟩ (fun s sep w hG h1 h2=>let ⟨m,hm⟩:=qZC hG;Tryz.strings_Split s sep m w h1 hm h2) (fun _=>rfl) s sep (qAJ hu)
def qHG (sA:bD):Option ((List bD)×Bool) :=
 cond (decide (sA=(⟨#[]⟩:bD)))
  (some ([],true))
  ((qNC sA (w64 ((sA.size:Int)-1))).bind fun a =>
  cond ((a.toNat:Int) != 10)
   (some ([],false))
   ((qAl (inB 0 (w64 ((sA.size:Int)-1)) sA.size)).bind fun c =>
   (qCA (ByteArray.extract sA 0 (w64 ((sA.size:Int)-1)).toNat) (bz [10])).bind fun b =>
   some (b,true)))
theorem qQD (sA:bD) (r:((List bD)×Bool)) (J:qHG sA=some r):qAC prog 91 [.v (.string sA)] (.t [.w 1 (r.1.map ze1),.v (.bool r.2)]):=by
 refine fns T func91 ?_
 refine go ?_
 refine AW.cH J (fun _ J=>?_) (fun _ J=>?_)
 refine go ?_
 refine AO.x (qF6 T rfl rfl rfl rfl) (go ?_)
 exact fin
 refine go ?_
 obtain⟨d,a,J⟩:=zB J
 refine go ?_
 refine AO.w (qBO T rfl rfl rfl rfl (a)) (go ?_)
 refine Cf J fun _ J=>?_
 refine go ?_
 obtain⟨e,b,f,c,J⟩:=qAE J
 refine go ?_
 refine AO.w (qFo T rfl rfl rfl rfl (qAJ (b))) ?_
 refine AO.x (qAO rfl 1 rfl rfl rfl (qIo _ _ _ (c)) rfl rfl rfl) (go ?_)
 exact fin
def qAL (script:bD):Option ((List bD)×Bool) :=
 (qHG script).bind fun a =>
 cond (((!a.2)||decide ((script.size:Int)>2000))||decide ((a.1.length:Int)>40))
  (some ([],false))
  (some (a.1,true))
theorem qF4 (script:bD) (r:((List bD)×Bool)) (J:qAL script=some r):qAC prog 66 [.v (.string script)] (.t [.w 1 (r.1.map ze1),.v (.bool r.2)]):=by
 refine fns T func66 ?_
 refine go ?_
 obtain⟨b,a,J⟩:=zB J
 refine go ?_
 refine AO.x (qAO rfl 1 rfl rfl rfl (qQD _ _ (a)) rfl rfl rfl) (go ?_)
 refine AO.g0 T ?_
 refine AO.g1 T 14 ?_
 refine AO.g1 T 15 ?_
 refine go ?_
 refine AO.g0 T ?_
 refine AO.d1 19 (fun hg=>qJP T rfl rfl rfl rfl) ?_
 refine AO.g1 T 20 ?_
 refine go ?_
 refine Cf J fun _ J=>?_
 refine gs7 ?_
 refine AW.le (Le.ct 0 0 (σ':=(⟨[(2,.R 1),(3,.v (.bool true))],[(1,ro 1 ze1 b.1)],24,[]⟩:St))) ?_
 refine AW.t ?_
 exact fin
def qBz (judges:Int) (b:List bE):Nat->List bE->Int->Option Marks
 |0,_,_=>none
 |d+1,a,c =>
  cond (decide (c<3))
   ((qAl (decide (0<=judges)&&qAg 8 judges.toNat)).bind fun e =>
   (qAl (qAg 24 (a.length+([(List.replicate judges.toNat (0:Int))]).length))).bind fun f =>
   qBz judges b d (a++[(List.replicate judges.toNat (0:Int))]) (w64 (c+1)))
   (some (Marks.mk b a))
def qCv (items:Int) (judges:Int) (a8:Nat):Nat->List bE->Int->Option Marks
 |0,_,_=>none
 |c+1,a,b =>
  cond (decide (b<items))
   ((qAl (decide (0<=judges)&&qAg 8 judges.toNat)).bind fun d =>
   (qAl (qAg 24 (a.length+([(List.replicate judges.toNat (0:Int))]).length))).bind fun e =>
   qCv items judges a8 c (a++[(List.replicate judges.toNat (0:Int))]) (w64 (b+1)))
   (qBz judges a a8 [] 0)
def qDM (a8:Nat) (items:Int) (judges:Int):Option Marks :=
 qCv items judges a8 a8 [] 0
theorem qJ1 (a8:Nat) (items:Int) (judges:Int) (r:Marks) (J:qDM a8 items judges=some r):qAC prog 110 [items,judges] (.g (qJj r)):=by
 refine fns T func110 ?_
 refine go ?_
 refine AO.x (als T 1) (go ?_)
 refine AO.x (qF6 T rfl rfl rfl rfl) ?_
 refine AO.x (qF6 T rfl rfl rfl rfl) (go ?_)
 refine AO.x (als T 2) ?_
 refine AO.se T [.w 1 [],.w 1 []] ?_
 refine go ?_
 refine AW.loopS (fun s:Nat×(List bE)×Int=>(⟨[(1,judges),(4,.p 1 0),(5,.p 2 0),(9,items),(10,s.2.2)],[(1,.box [.w 0 [],.w 0 []]),(2,.box [.R 8,.w 1 []]),(8,ro 1 ze7 s.2.1)],31,[]⟩:St)) (fun s=>qCv items judges a8 s.1 s.2.1 s.2.2=some r) (fun s=>s.1) (a8,[],0) J ?_ ?_
 refine Le.trans (Le.voidBox 2 0 8 1 rfl rfl rfl rfl) ?_
 exact Le.ct 0 0
 rintro⟨e,a,j⟩ J
 try dsimp only at J⊢
 rcases e with _|e
 cases (show none=some _ from J)
 rw[qCv]at J
 refine go ?_
 refine AW.cH J (fun _ J=>?_) (fun hc J=>?_)
 refine go ?_
 obtain⟨n,b,o,h,J⟩:=qAE J
 refine AW.drawn 5 9 [] mix (by kernel_rfl) rfl ?_
 refine go ?_
 refine AD.q (FStep.make T rfl rfl rfl rfl rfl rfl rfl (f:=ze0) (zo:=0) (by repeat constructor) (by decide) rfl rfl (Bool.and_eq_true_iff.1 (qAJ (b))).1 (Bool.and_eq_true_iff.1 (qAJ (b))).2 rfl) (by simp[qA1]) (Nat.le_succ _) rfl ?_
 refine AD.kk (FStep.mk_o T rfl rfl rfl rfl rfl rfl rfl rfl (f:=ze7) (l:=[(List.replicate judges.toNat (0:Int))]) (ids:=[9]) rfl rfl (fun _=>rfl) (by exact zC (.rowR rfl) (zCn)) (by decide) rfl rfl rfl rfl) ?_
 refine AD.nil (AO.x (qFc T rfl 11 rfl rfl rfl rfl rfl (by decide) rfl rfl rfl rfl rfl (qAJ (h)) rfl rfl) ?_)
 refine AO.pu T ?_
 refine AO.se T [.R 11,.w 1 []] ?_
 refine go ?_
 refine⟨(e,(a++[(List.replicate judges.toNat (0:Int))]),w64 (j+1)),J,Nat.lt_succ_self _,?_⟩
 exact Le.ct 11 8
 refine go ?_
 refine AW.loopS (fun s:Nat×(List bE)×Int=>(⟨[(1,judges),(4,.p 1 0),(5,.p 2 0),(20,s.2.2)],[(1,.box [.w 0 [],.w 0 []]),(2,.box [.R 8,.R 17]),(8,ro 1 ze7 a),(17,ro 1 ze7 s.2.1)],31,[]⟩:St)) (fun s=>qBz judges a s.1 s.2.1 s.2.2=some r) (fun s=>s.1) (a8,[],0) J ?_ ?_
 refine Le.trans (Le.voidBox 2 1 17 1 rfl rfl rfl rfl) ?_
 exact Le.ct 0 0
 rintro⟨c,k,m⟩ J
 try dsimp only at J⊢
 rcases c with _|c
 cases (show none=some _ from J)
 rw[qBz]at J
 refine go ?_
 refine AW.cH J (fun _ J=>?_) (fun _ J=>?_)
 refine go ?_
 obtain⟨t,d,u,i,J⟩:=qAE J
 refine AW.drawn 5 18 [] mix (by kernel_rfl) rfl ?_
 refine go ?_
 refine AD.q (FStep.make T rfl rfl rfl rfl rfl rfl rfl (f:=ze0) (zo:=0) (by repeat constructor) (by decide) rfl rfl (Bool.and_eq_true_iff.1 (qAJ (d))).1 (Bool.and_eq_true_iff.1 (qAJ (d))).2 rfl) (by simp[qA1]) (Nat.le_succ _) rfl ?_
 refine AD.kk (FStep.mk_o T rfl rfl rfl rfl rfl rfl rfl rfl (f:=ze7) (l:=[(List.replicate judges.toNat (0:Int))]) (ids:=[18]) rfl rfl (fun _=>rfl) (by exact zC (.rowR rfl) (zCn)) (by decide) rfl rfl rfl rfl) ?_
 refine AD.nil (AO.x (qFc T rfl 20 rfl rfl rfl rfl rfl (by decide) rfl rfl rfl rfl rfl (qAJ (i)) rfl rfl) ?_)
 refine AO.pu T ?_
 refine AO.se T [.R 8,.R 20] ?_
 refine go ?_
 refine⟨(c,(k++[(List.replicate judges.toNat (0:Int))]),w64 (m+1)),J,Nat.lt_succ_self _,?_⟩
 exact Le.ct 20 17
 refine go ?_
 refine AO.se T [.R 8,.R 17] ?_
 refine go ?_
 exact fin
def qH9 (a8:Nat):Option ScriptState :=
 (qDM a8 0 3).bind fun a =>
 some (ScriptState.mk (Code.mk [(Element.mk (bz [51,65]) 0 0 800)] ([7,7,7,7,7]:bE) 2 10 80 100) (Performance.mk [] a (Slips.mk 0 0 0)) 100 [])
theorem qOw (a8:Nat) (r:ScriptState) (J:qH9 a8=some r):qAC prog 75 [] (.pn (qKE r)):=by
 refine fns T func75 ?_
 refine go ?_
 refine AO.x (mks T 1 ze5 ([(Element.mk (bz [51,65]) 0 0 800)])) ?_
 refine AO.x (mks T 2 ze0 (([7,7,7,7,7]:bE))) (go ?_)
 refine AO.x (als T 3) ?_
 refine AO.se T [.R 1,.R 2,(2:Int),(10:Int),(80:Int),(100:Int)] ?_
 refine go ?_
 obtain⟨b,a,J⟩:=zB J
 refine AW.drawn 5 4 [] mix (by kernel_rfl) rfl ?_
 refine go ?_
 refine AD.v (FStep.mk0 T rfl rfl rfl rfl rfl) ?_
 refine AD.q (FStep.call rfl rfl rfl rfl rfl (qJ1 a8 _ _ _ (a)) rfl rfl) (qBD _ _) (qDi _ _) rfl ?_
 refine AD.pured T (d:=.g [.w 3 [],.R 4,.R 5,(0:Int),(0:Int),(0:Int)]) rfl rfl rfl rfl ?_
 refine AD.v (FStep.mk0 T rfl rfl rfl rfl rfl) ?_
 refine go ?_
 refine AO.x (bxs T 6) ?_
 refine gs2 ?_
 refine AW.le (Le.nilSBox 6 6 rfl rfl) ?_
 refine AW.le (Le.nilSBox 6 13 rfl rfl) ?_
 refine AW.le (Le.fM 5 (g:=ze3) rfl (fun y=>qAh y)) ?_
 refine AW.le (Le.fM 4 (g:=ze3) rfl (fun y=>qAh y)) ?_
 refine AW.le (Le.fM 2 (g:=ze0) rfl (fun y=>.vs rfl)) ?_
 refine AW.le (Le.fM 1 (g:=ze5) rfl (fun y=>.vs rfl)) ?_
 refine AW.t ?_
 have hR:=zS J;subst hR
 exact retQ.i [6] rfl (.c (.pb rfl (zC .s (zC .s (zC .v (zC .v (zC .v (zC .v (zC .s (zC .s (zC .s (zC .v (zC .v (zC .v (zC .v (zC .s (zCn)))))))))))))))))
def qFx (sA:bD) (prefixA:bD):bF :=
 (opt (decide ((sA.size:Int)>=(prefixA.size:Int))) default (qAl (inB 0 (prefixA.size:Int) sA.size))).bind fun a =>
 some (decide ((sA.size:Int)>=(prefixA.size:Int))&&decide ((ByteArray.extract sA 0 (prefixA.size:Int).toNat)=prefixA))
theorem qKR (sA:bD) (prefixA:bD) (r:Bool) (J:qFx sA prefixA=some r):qAC prog 216 [.v (.string sA),.v (.string prefixA)] (.v (.bool r)):=by
 refine fns T func216 ?_
 refine go ?_
 obtain⟨b,a,J⟩:=zB J
 refine go ?_
 refine AO.g0 T ?_
 refine AO.g0 T ?_
 refine AO.g1 T 12 ?_
 refine AO.d2 11 13 (fun hg=>qFo T rfl rfl rfl rfl (qAJ (qD7 a hg))) ?_
 refine AO.g0 T ?_
 refine AO.g2 T 14 15 ?_
 refine go ?_
 exact fin
def qF2 (sA:bD) (prefixA:bD):Option (bD×Bool) :=
 (qFx sA prefixA).bind fun a =>
 cond (!a)
  (some (sA,false))
  ((qAl (inB (prefixA.size:Int) sA.size sA.size)).bind fun b =>
  some ((ByteArray.extract sA (prefixA.size:Int).toNat sA.size),true))
theorem qKg (sA:bD) (prefixA:bD) (r:(bD×Bool)) (J:qF2 sA prefixA=some r):qAC prog 151 [.v (.string sA),.v (.string prefixA)] (.t [.v (.string r.1),.v (.bool r.2)]):=by
 refine fns T func151 ?_
 refine go ?_
 obtain⟨c,a,J⟩:=zB J
 refine go ?_
 refine AO.w (cVs (qKR _ _ _ (a))) (go ?_)
 refine Cf J fun _ J=>?_
 refine go ?_
 obtain⟨d,b,J⟩:=zB J
 refine go ?_
 refine AO.w (qFk T rfl rfl rfl rfl (qAJ (b))) (go ?_)
 exact fin
def qBo (sA:bD) (prefixA:bD):Option (bD×Bool) :=
 (qF2 sA prefixA).bind fun a =>
 some (a.1,a.2)
theorem qI2 (sA:bD) (prefixA:bD) (r:(bD×Bool)) (J:qBo sA prefixA=some r):qAC prog 111 [.v (.string sA),.v (.string prefixA)] (.t [.v (.string r.1),.v (.bool r.2)]):=by
 refine fns T func111 ?_
 refine go ?_
 obtain⟨b,a,J⟩:=zB J
 refine go ?_
 refine AO.w (cVs (qKg _ _ _ (a))) (go ?_)
 exact fin
def qFy (sA:bD) (suffix:bD):bF :=
 (opt (decide ((sA.size:Int)>=(suffix.size:Int))) default (qAl (inB (w64 ((sA.size:Int)-(suffix.size:Int))) sA.size sA.size))).bind fun a =>
 some (decide ((sA.size:Int)>=(suffix.size:Int))&&decide ((ByteArray.extract sA (w64 ((sA.size:Int)-(suffix.size:Int))).toNat sA.size)=suffix))
theorem qKc (sA:bD) (suffix:bD) (r:Bool) (J:qFy sA suffix=some r):qAC prog 316 [.v (.string sA),.v (.string suffix)] (.v (.bool r)):=by
 refine fns T func316 ?_
 refine go ?_
 obtain⟨b,a,J⟩:=zB J
 refine go ?_
 refine AO.g0 T ?_
 refine AO.g0 T ?_
 refine AO.g1 T 12 ?_
 refine AO.g0 T ?_
 refine AO.g1 T 14 ?_
 refine AO.d2 13 15 (fun hg=>aws) ?_
 refine AO.d2 11 16 (fun hg=>qFk T rfl rfl rfl rfl (qAJ (qD7 a hg))) ?_
 refine AO.g0 T ?_
 refine AO.g2 T 17 18 ?_
 refine go ?_
 exact fin
def qFv (sA:bD) (suffix:bD):Option (bD×Bool) :=
 (qFy sA suffix).bind fun a =>
 cond (!a)
  (some (sA,false))
  ((qAl (inB 0 (w64 ((sA.size:Int)-(suffix.size:Int))) sA.size)).bind fun b =>
  some ((ByteArray.extract sA 0 (w64 ((sA.size:Int)-(suffix.size:Int))).toNat),true))
theorem qKN (sA:bD) (suffix:bD) (r:(bD×Bool)) (J:qFv sA suffix=some r):qAC prog 270 [.v (.string sA),.v (.string suffix)] (.t [.v (.string r.1),.v (.bool r.2)]):=by
 refine fns T func270 ?_
 refine go ?_
 obtain⟨c,a,J⟩:=zB J
 refine go ?_
 refine AO.w (cVs (qKc _ _ _ (a))) (go ?_)
 refine Cf J fun _ J=>?_
 refine go ?_
 obtain⟨d,b,J⟩:=zB J
 refine go ?_
 refine AO.w (qFo T rfl rfl rfl rfl (qAJ (b))) (go ?_)
 exact fin
def qDN (sA:bD) (suffix:bD):Option (bD×Bool) :=
 (qFv sA suffix).bind fun a =>
 some (a.1,a.2)
theorem qI5 (sA:bD) (suffix:bD) (r:(bD×Bool)) (J:qDN sA suffix=some r):qAC prog 217 [.v (.string sA),.v (.string suffix)] (.t [.v (.string r.1),.v (.bool r.2)]):=by
 refine fns T func217 ?_
 refine go ?_
 obtain⟨b,a,J⟩:=zB J
 refine go ?_
 refine AO.w (cVs (qKN _ _ _ (a))) (go ?_)
 exact fin
def qAQ (n:Int) (low:Int) (high:Int):bF :=
 some (decide (n>=low)&&decide (n<=high))
theorem qAS (n:Int) (low:Int) (high:Int) (r:Bool) (J:qAQ n low high=some r):qAC prog 95 [n,low,high] (.v (.bool r)):=by
 refine fns T func95 ?_
 refine go ?_
 refine AO.g0 T ?_
 refine AO.g0 T ?_
 refine AO.g2 T 11 12 ?_
 refine go ?_
 exact fin
def qAx (sA:bD):Nat->Int->bF
 |0,_=>none
 |d+1,b =>
  cond (decide (b<(sA.size:Int)))
   ((qNC sA b).bind fun a =>
   cond ((decide ((a.toNat:Int)<65)||decide ((a.toNat:Int)>90))&&(decide ((a.toNat:Int)<48)||decide ((a.toNat:Int)>57)))
    (some false)
    (qAx sA d (w64 (b+1))))
   ((qAQ (sA.size:Int) 1 5).bind fun c =>
   some c)
def qD5 (a8:Nat) (sA:bD):bF :=
 qAx sA a8 0
theorem qIh (a8:Nat) (sA:bD) (r:Bool) (J:qD5 a8 sA=some r):qAC prog 97 [.v (.string sA)] (.v (.bool r)):=by
 refine fns T func97 ?_
 refine go ?_
 refine AW.loopS (fun s:Nat×Int=>(⟨[(0,.v (.string sA)),(3,s.2)],[],35,[]⟩:St)) (fun s=>qAx sA s.1 s.2=some r) (fun s=>s.1) (a8,0) J ?_ ?_
 exact Le.ct 0 0
 rintro⟨c,f⟩ J
 try dsimp only at J⊢
 rcases c with _|c
 cases (show none=some _ from J)
 rw[qAx]at J
 refine go ?_
 refine AW.cH J (fun hc J=>?_) (fun _ J=>?_)
 refine go ?_
 obtain⟨b,a,J⟩:=zB J
 refine go ?_
 refine AO.w (qBO T rfl rfl rfl rfl (a)) (go ?_)
 refine AO.g0 T ?_
 refine AO.g0 T ?_
 refine AO.d2 15 16 (fun hg=>qBO T rfl rfl rfl rfl (a)) ?_
 refine AO.g1 T 17 ?_
 refine go ?_
 refine AO.g0 T ?_
 refine AO.g0 T ?_
 refine AO.d2 21 22 (fun hg=>qBO T rfl rfl rfl rfl (a)) ?_
 refine AO.g1 T 23 ?_
 refine AO.g1 T 24 ?_
 refine AO.g0 T ?_
 refine AO.g0 T ?_
 refine AO.d2 26 27 (fun hg=>qBO T rfl rfl rfl rfl (a)) ?_
 refine AO.g1 T 28 ?_
 refine AO.d [25] rfl ⟨fun h=>h,trivial⟩ (fun hg=>zO rfl rfl rfl (by rw[hg];exact Bool.true_and _)) rfl ?_
 refine gs2 ?_
 refine AW.le (Le.ct 0 0 (σ':=(⟨[(0,.v (.string sA)),(3,f),(31,.v (.bool ((decide ((b.toNat:Int)<65)||decide ((b.toNat:Int)>90))&&(decide ((b.toNat:Int)<48)||decide ((b.toNat:Int)>57)))))],[],35,[]⟩:St))) ?_
 refine Cf J fun hc J=>?_
 refine go ?_
 refine⟨(c,w64 (f+1)),J,Nat.lt_succ_self _,?_⟩
 exact Le.ct 0 0
 refine go ?_
 obtain⟨g,e,J⟩:=zB J
 refine go ?_
 refine AO.w (cVs (qAS _ _ _ _ (e))) (go ?_)
 exact fin
def qJE (a8:Nat) (sA:bD):bF :=
 (qD5 a8 sA).bind fun a =>
 some a
theorem qQV (a8:Nat) (sA:bD) (r:Bool) (J:qJE a8 sA=some r):qAC prog 245 [.v (.string sA)] (.v (.bool r)):=by
 refine fns T func245 ?_
 refine go ?_
 obtain⟨b,a,J⟩:=zB J
 refine go ?_
 refine AO.w (cVs (qIh a8 _ _ (a))) (go ?_)
 exact fin
def qCW (low:Int) (high:Int):bE->Nat->bF
 | [],a =>
  some true
 |d::b,a =>
  (qAQ d low high).bind fun c =>
  cond (!c)
   (some false)
   (qCW low high b (a+1))
def qCR (l:bE) (low:Int) (high:Int):bF :=
 qCW low high l 0
theorem qGl (l:bE) (low:Int) (high:Int) (r:Bool) (J:qCR l low high=some r):qAC prog 96 [.s (List.map ze0 l),low,high] (.v (.bool r)):=by
 refine fns T func96 ?_
 refine go ?_
 refine AW.loopS (fun s:Nat=>(⟨[(1,low),(2,high),(9,sv ze0 l),(10,(l.length:Int)),(11,(s:Int))],[],21,[]⟩:St)) (fun s=>s<=l.length/\qCW low high (l.drop s) s=some r) (fun s=>l.length-s) 0 ⟨Nat.zero_le _,J⟩ ?_ ?_
 exact Le.ct 0 0
 rintro d ⟨h,J⟩
 try dsimp only at J⊢
 refine AW.boundM (t:=9) (l:=l) rfl (fun e=>?_)
 rcases a:l.drop d with _|⟨i,f⟩
 rw[a,qCW]at J
 have b:=qAG a
 refine go ?_
 exact fin
 rw[a,qCW]at J
 have b:=qAF a
 refine go ?_
 obtain⟨g,c,J⟩:=zB J
 refine go ?_
 refine AO.w (cVs (qAS _ _ _ _ (c))) (go ?_)
 refine Cf J fun _ J=>?_
 refine go ?_
 refine⟨d+1,⟨b,(zds a▸J)⟩,qBm b,?_⟩
 exact Le.ct 0 0
def qEE (it:Item) (a8:Nat):List bD->Nat->bF
 | [],b =>
  (qAQ (it.aj.length:Int) 1 3).bind fun a =>
  (opt (a&&((it.ae.length:Int)==(it.aj.length:Int))) default (qCR it.ae 0 3)).bind fun c =>
  some ((a&&((it.ae.length:Int)==(it.aj.length:Int)))&&c)
 |f::d,b =>
  (qJE a8 f).bind fun e =>
  cond (!e)
   (some false)
   (qEE it a8 d (b+1))
def qGs (a8:Nat) (it:Item):bF :=
 qEE it a8 it.aj 0
theorem qMu (a8:Nat) (it:Item) (r:Bool) (J:qGs a8 it=some r):qAC prog 183 [.g (ze2 it)] (.v (.bool r)):=by
 refine fns T func183 ?_
 refine go ?_
 refine AO.x (bxs T 1) (go ?_)
 refine AW.loopS (fun s:Nat=>(⟨[(1,.p 1 0),(6,sv ze1 it.aj),(7,(it.aj.length:Int)),(8,(s:Int))],[(1,.box [sv ze1 it.aj,sv ze0 it.ae,.v (.bool it.aB)])],34,[]⟩:St)) (fun s=>s<=it.aj.length/\qEE it a8 (it.aj.drop s) s=some r) (fun s=>it.aj.length-s) 0 ⟨Nat.zero_le _,J⟩ ?_ ?_
 exact Le.ct 0 0
 rintro f ⟨n,J⟩
 try dsimp only at J⊢
 refine AW.boundM (t:=6) (l:=it.aj) rfl (fun h=>?_)
 rcases a:it.aj.drop f with _|⟨o,i⟩
 rw[a,qEE]at J
 have b:=qAG a
 refine go ?_
 obtain⟨j,c,k,d,J⟩:=qAE J
 refine go ?_
 refine AO.w (cVs (qAS _ _ _ _ (c))) ?_
 refine AO.pu T ?_
 refine AO.g0 T ?_
 refine AO.g1 T 21 ?_
 refine AO.d1 22 (fun hg=>qMc T) ?_
 refine AO.g0 T ?_
 refine AO.g1 T 24 ?_
 refine AO.d1 25 (fun hg=>qMc T) ?_
 refine AO.g2 T 23 26 ?_
 refine go ?_
 refine AO.g0 T ?_
 refine AO.g1 T 30 ?_
 refine AO.d1 31 (fun hg=>cVs (qGl _ _ _ _ (qD7 d hg))) ?_
 refine go ?_
 exact fin
 rw[a,qEE]at J
 have b:=qAF a
 refine go ?_
 obtain⟨m,e,J⟩:=zB J
 refine go ?_
 refine AO.w (cVs (qQV a8 _ _ (e))) (go ?_)
 refine Cf J fun _ J=>?_
 refine go ?_
 refine⟨f+1,⟨b,(zds a▸J)⟩,qBm b,?_⟩
 exact Le.ct 0 0
def qBt (e:bD) (a:List bD) (b:bE):Nat->Int->Option ((List bD)×(bE))
 |0,_=>none
 |f+1,c =>
  cond (decide (c<=3))
   ((qAV [(⟨#[]⟩:bD),(bz [60]),(bz [101]),(bz [42])] c).bind fun g =>
   (qDN e g).bind fun d =>
   cond d.2
    ((qAl (qAg 16 (a.length+([d.1]).length))).bind fun h =>
    (qAl (qAg 8 (b.length+([c]).length))).bind fun i =>
    some ((a++[d.1]),(b++[c])))
    (qBt e a b f (w64 (c+1))))
   ((qAl (qAg 16 (a.length+([e]).length))).bind fun j =>
   (qAl (qAg 8 (b.length+(([0]:bE)).length))).bind fun k =>
   some ((a++[e]),(b++([0]:bE))))
def qAr (a8:Nat) (c:(bD×Bool)):List bD->Nat->List bD->bE->Option ((Item×Bool))
 | [],g,a,b =>
  (qGs a8 (Item.mk a b c.2)).bind fun d =>
  cond (!d)
   (some ((Item.mk [] [] false),false))
   (some ((Item.mk a b c.2),true))
 |i::h,g,a,b =>
  (qBt i a b a8 1).bind fun (e,f) =>
  qAr a8 c h (g+1) e f
def qHH (a8:Nat) (sA:bD):Option (Item×Bool) :=
 (qDN sA (bz [32,120])).bind fun a =>
 (qCA a.1 (bz [43])).bind fun b =>
 qAr a8 a b 0 [] []
theorem qOF (a8:Nat) (sA:bD) (r:(Item×Bool)) (J:qHH a8 sA=some r):qAC prog 152 [.v (.string sA)] (.t [.g (qBn r.1),.v (.bool r.2)]):=by
 refine fns T func152 ?_
 refine gs2 ?_
 refine AO.x (als T 1) ?_
 refine gs4 ?_
 refine AO.x (qF6 T rfl rfl rfl rfl) ?_
 refine AO.x (qF6 T rfl rfl rfl rfl) ?_
 refine gs ?_
 refine AO.x (als T 2) ?_
 refine AO.se T [.w 1 [],.w 1 [],.v (.bool false)] ?_
 refine gs2 ?_
 obtain⟨b,K,J⟩:=zB J
 refine gs2 ?_
 refine AO.w (cVs (qI5 _ _ _ (K))) ?_
 refine gs5 ?_
 refine AO.se T [.w 1 [],.w 1 [],.v (.bool b.2)] ?_
 refine gs3 ?_
 obtain⟨a,L,J⟩:=zB J
 refine gs2 ?_
 refine AO.x (qAO rfl 3 rfl rfl rfl (qIo _ _ _ (L)) rfl rfl rfl) ?_
 refine gs4 ?_
 refine AW.loopS (fun s:Nat×(List bD)×(bE)=>(⟨[(2,.p 1 0),(4,.p 2 0),(21,.R 3),(22,(a.length:Int)),(23,(s.1:Int))],[(1,.box [.w 0 [],.w 0 [],.v (.bool false)]),(2,.box [.R 21,.R 23,.v (.bool b.2)]),(3,ro 1 ze1 a),(21,ro 1 ze1 s.2.1),(23,ro 1 ze0 s.2.2)],60,[]⟩:St)) (fun s=>s.1<=a.length/\qAr a8 b (a.drop s.1) s.1 s.2.1 s.2.2=some r) (fun s=>a.length-s.1) (0,[],[]) ⟨Nat.zero_le _,J⟩ ?_ ?_
 refine Le.trans (Le.voidBox 2 0 21 1 rfl rfl rfl rfl) ?_
 refine Le.trans (Le.voidBox 2 1 23 1 rfl rfl rfl rfl) ?_
 exact Le.ct 0 0
 rintro⟨j,c,d⟩ ⟨W,J⟩
 try dsimp only at J⊢
 refine AW.boundR (id:=3) (l:=a) rfl (fun U=>?_)
 rcases e:a.drop j with _|⟨z,V⟩
 rw[e,qAr]at J
 have h:=qAG e
 refine gs9 ?_
 obtain⟨M,A,J⟩:=zB J
 refine gs2 ?_
 refine AO.w (zLV rfl rfl rfl (es:=[.g (ze2 (Item.mk c d b.2))]) ⟨qIK (LendL.cons ((.rowR rfl (.map fun y=>.vs rfl))) (LendL.cons ((.rowR rfl (.map fun y=>.vs rfl))) (LendL.cons (.free rfl) LendL.nil))),trivial⟩ (qMu a8 _ _ (A)) (qAj _) rfl) ?_
 refine gs2 ?_
 refine AW.cH J (fun _ J=>?_) (fun hc J=>?_)
 refine gs3 ?_
 refine AO.se T [.w 0 [],.w 0 [],.v (.bool false)] ?_
 refine gs3 ?_
 exact fin
 refine gs4 ?_
 refine AO.se T [.R 21,.R 23,.v (.bool b.2)] ?_
 refine gs3 ?_
 exact fin
 rw[e,qAr]at J
 have h:=qAF e
 refine gs7 ?_
 obtain⟨o,J,B⟩:=zB J
 refine AW.seqJ (fun s:(List bD)×(bE)=>(⟨[(2,.p 1 0),(4,.p 2 0),(21,.R 3),(22,(a.length:Int)),(23,(j:Int))],[(1,.box [.w 0 [],.w 0 [],.v (.bool false)]),(2,.box [.R 37,.R 39,.v (.bool b.2)]),(3,ro 1 ze1 a),(37,ro 1 ze1 s.1),(39,ro 1 ze0 s.2)],60,[]⟩:St)) (fun s=>s=o) ?_ ?_
 refine gs4 ?_
 refine AO.w (zLr T rfl rfl rfl rfl (zgG (zgD e)) rfl rfl rfl) ?_
 iterate 12 refine gs ?_
 refine AW.loopS (fun s:Nat×Int=>(⟨[(2,.p 1 0),(4,.p 2 0),(6,.v (.string z)),(7,(0:Int)),(8,s.2),(21,.R 3),(22,(a.length:Int)),(23,(j:Int))],[(1,.box [.w 0 [],.w 0 [],.v (.bool false)]),(2,.box [.R 21,.R 23,.v (.bool b.2)]),(3,ro 1 ze1 a),(21,ro 1 ze1 c),(23,ro 1 ze0 d)],60,[]⟩:St)) (fun s=>qBt z c d s.1 s.2=some o) (fun s=>s.1) (a8,1) J ?_ ?_
 exact Le.ct 0 0
 rintro⟨k,i⟩ J
 try dsimp only at J⊢
 rcases k with _|k
 cases (show none=some _ from J)
 rw[qBt]at J
 refine gs6 ?_
 refine AW.cH J (fun hc J=>?_) (fun _ J=>?_)
 refine gs4 ?_
 obtain⟨N,C,m,E,J⟩:=qAE J
 refine gs3 ?_
 refine AO.w (qXn T (l:=[(⟨#[]⟩:bD),(bz [60]),(bz [101]),(bz [42])]) (f:=ze1) rfl rfl rfl rfl rfl rfl rfl (fun _=>rfl) (C)) ?_
 refine AO.pu T ?_
 refine AO.w (cVs (qI5 _ _ _ (E))) ?_
 iterate 10 refine gs ?_
 refine AW.cH J (fun _ J=>?_) (fun hc J=>?_)
 refine gs9 ?_
 obtain⟨O,F,J⟩:=zB J
 refine gs4 ?_
 refine AO.x (mks T 44 ze1 ([m.1])) ?_
 refine AO.x (rvs T 45 (hfit:=by exact qAJ (F))) ?_
 refine AO.pu T ?_
 refine AO.se T [.R 45,.R 23,.v (.bool b.2)] ?_
 refine AO.n (AW.le (Le.ct 0 0 (σ':=(⟨[(2,.p 1 0),(4,.p 2 0),(7,i),(21,.R 3),(22,(a.length:Int)),(23,(j:Int))],[(1,.box [.w 0 [],.w 0 [],.v (.bool false)]),(2,.box [.R 45,.R 23,.v (.bool b.2)]),(3,ro 1 ze1 a),(23,ro 1 ze0 d),(45,ro 1 ze1 (c++[m.1]))],60,[]⟩:St))) ?_)
 obtain⟨P,G,J⟩:=zB J
 refine gs4 ?_
 refine AO.x (mks T 46 ze0 ([i])) ?_
 refine AO.x (rvs T 47 (hfit:=by exact qAJ (G))) ?_
 refine AO.pu T ?_
 refine AO.se T [.R 45,.R 47,.v (.bool b.2)] ?_
 refine AO.n ?_
 refine⟨_,zS J,?_⟩
 refine Le.trans (Le.ct 45 37 (σ':=(⟨[(2,.p 1 0),(4,.p 2 0),(21,.R 3),(22,(a.length:Int)),(23,(j:Int))],[(1,.box [.w 0 [],.w 0 [],.v (.bool false)]),(2,.box [.R 37,.R 47,.v (.bool b.2)]),(3,ro 1 ze1 a),(37,ro 1 ze1 (c++[m.1])),(47,ro 1 ze0 (d++[i]))],60,[]⟩:St))) ?_
 exact Le.ct 47 39
 refine gs6 ?_
 refine⟨(k,w64 (i+1)),J,Nat.lt_succ_self _,?_⟩
 exact Le.ct 0 0
 refine gs2 ?_
 obtain⟨Q,H,J⟩:=zB J
 refine gs4 ?_
 refine AO.x (mks T 48 ze1 ([z])) ?_
 refine AO.x (rvs T 49 (hfit:=by exact qAJ (H))) ?_
 refine AO.pu T ?_
 refine AO.se T [.R 49,.R 23,.v (.bool b.2)] ?_
 refine AO.n ?_
 obtain⟨S,I,J⟩:=zB J
 refine gs4 ?_
 refine AO.x (mks T 50 ze0 (([0]:bE))) ?_
 refine AO.x (rvs T 51 (hfit:=by exact qAJ (I))) ?_
 refine AO.pu T ?_
 refine AO.se T [.R 49,.R 51,.v (.bool b.2)] ?_
 refine AO.n ?_
 refine⟨_,zS J,?_⟩
 refine Le.trans (Le.ct 49 37 (σ':=(⟨[(2,.p 1 0),(4,.p 2 0),(21,.R 3),(22,(a.length:Int)),(23,(j:Int))],[(1,.box [.w 0 [],.w 0 [],.v (.bool false)]),(2,.box [.R 37,.R 51,.v (.bool b.2)]),(3,ro 1 ze1 a),(37,ro 1 ze1 (c++[z])),(51,ro 1 ze0 (d++([0]:bE)))],60,[]⟩:St))) ?_
 exact Le.ct 51 39
 rintro⟨q,u⟩ hs
 subst hs
 replace J:=B
 try dsimp only[qKL,qIN]at J
 try dsimp only
 refine gs4 ?_
 refine⟨(j+1,q,u),⟨h,(zds e▸J)⟩,qBm h,?_⟩
 refine Le.trans (Le.ct 37 21 (σ':=(⟨[(2,.p 1 0),(4,.p 2 0),(21,.R 3),(22,(a.length:Int)),(23,((j+1:Nat):Int))],[(1,.box [.w 0 [],.w 0 [],.v (.bool false)]),(2,.box [.R 21,.R 39,.v (.bool b.2)]),(3,ro 1 ze1 a),(21,ro 1 ze1 q),(39,ro 1 ze0 u)],60,[]⟩:St))) ?_
 exact Le.ct 39 23
def qDd (l:bE):Option bE :=
 (qAl (qAg 8 l.length)).bind fun a =>
 some l
theorem qIs (l:bE) (r:(bE)) (J:qDd l=some r):qAC prog 223 [.s (List.map ze0 l)] (.w 1 (r.map ze0)):=by
 refine fns T func223 ?_
 refine gs5 ?_
 obtain⟨b,a,J⟩:=zB J
 refine AW.r (AO.x (qF6 T rfl rfl rfl rfl) ?_)
 refine AO.pu T ?_
 refine AO.x (qKd T rfl 1 rfl rfl rfl rfl rfl (by decide) (by decide) rfl rfl (fun _=>rfl) (qAJ (a)) rfl rfl) ?_
 refine gs3 ?_
 exact fin
def qJS (it:Item):Option Item :=
 (qAl (qAg 16 it.aj.length)).bind fun b =>
 (qDd it.ae).bind fun a =>
 some (Item.mk it.aj a it.aB)
theorem qPG (it:Item) (r:Item) (J:qJS it=some r):qAC prog 218 [.g (ze2 it)] (.g (qBn r)):=by
 refine fns T func218 ?_
 refine go ?_
 refine AO.x (bxs T 1) ?_
 refine AO.x (als T 2) (go ?_)
 obtain⟨c,a,d,b,J⟩:=qAE J
 refine AW.drawn 9 3 [] mix (by kernel_rfl) rfl ?_
 refine AD.v (FStep.mk0 T rfl rfl rfl rfl rfl) ?_
 refine go ?_
 refine AD.q (FStep.app_ws T rfl rfl rfl rfl rfl rfl rfl (by decide) (by decide) rfl rfl (fun _=>rfl) (qAJ (a)) rfl) (by simp[qA1]) (Nat.le_succ _) rfl ?_
 refine go ?_
 refine AD.q (FStep.call rfl rfl rfl rfl rfl (qIs _ _ (b)) rfl rfl) (qBD _ _) (qDi _ _) rfl ?_
 refine go ?_
 refine AO.se T [.R 3,.R 4,.v (.bool it.aB)] ?_
 refine go ?_
 exact fin
def qCZ:List Item->Nat->List Item->Option ((List Item))
 | [],c,a =>
  some a
 |e::d,c,a =>
  (qJS e).bind fun b =>
  (qAl (qAg 56 (a.length+([b]).length))).bind fun f =>
  qCZ d (c+1) (a++[b])
def qF8 (l:List Item):Option (List Item) :=
 qCZ l 0 []
theorem qIL (l:List Item) (r:(List Item)) (J:qF8 l=some r):qAC prog 153 [.s (List.map ze2 l)] (.w 3 (r.map qBn)):=by
 refine fns T func153 ?_
 refine go ?_
 refine AO.x (qF6 T rfl rfl rfl rfl) (go ?_)
 refine AW.loopS (fun s:Nat×(List Item)=>(⟨[(3,.R 10),(7,sv ze2 l),(8,(l.length:Int)),(9,(s.1:Int))],[(10,ro 3 qBn s.2)],20,[]⟩:St)) (fun s=>s.1<=l.length/\qCZ (l.drop s.1) s.1 s.2=some r) (fun s=>l.length-s.1) (0,[]) ⟨Nat.zero_le _,J⟩ ?_ ?_
 refine Le.trans (Le.void 3 10 3 rfl rfl) ?_
 exact Le.ct 0 0
 rintro⟨h,i⟩ ⟨o,J⟩
 try dsimp only at J⊢
 refine AW.boundM (t:=7) (l:=l) rfl (fun j=>?_)
 rcases a:l.drop h with _|⟨d,k⟩
 rw[a,qCZ]at J
 have b:=qAG a
 refine go ?_
 exact fin
 rw[a,qCZ]at J
 have b:=qAF a
 refine go ?_
 refine AO.x (als T 11) ?_
 refine AO.se T [sv ze1 d.aj,sv ze0 d.ae,.v (.bool d.aB)] ?_
 refine AO.n ?_
 obtain⟨c,e,m,g,J⟩:=qAE J
 refine go ?_
 refine AO.x (qAO rfl 12 rfl rfl rfl (qPG _ _ (e)) rfl rfl rfl) ?_
 refine AO.x (qTB T rfl 14 rfl rfl rfl rfl rfl rfl (f:=qBn) (l:=[c]) (ids:=[12,13]) rfl rfl (fun _=>rfl) (by exact zC (.rowR rfl) (zC (.rowR rfl) (zC .v (zCn)))) (by decide) rfl rfl rfl rfl rfl) ?_
 refine AO.x (qFc T rfl 15 rfl rfl rfl rfl rfl (by decide) rfl rfl rfl rfl rfl (qAJ (g)) rfl rfl) (go ?_)
 refine⟨(h+1,(i++[c])),⟨b,(zds a▸J)⟩,qBm b,?_⟩
 exact Le.ct 15 10
def qCc:List bE->Nat->List bE->Option ((List bE))
 | [],c,a =>
  some a
 |e::d,c,a =>
  (qDd e).bind fun b =>
  (qAl (qAg 24 (a.length+([b]).length))).bind fun f =>
  qCc d (c+1) (a++[b])
def qHK (l:List bE):Option (List bE) :=
 qCc l 0 []
theorem qKe (l:List bE) (r:(List bE)) (J:qHK l=some r):qAC prog 219 [.s (List.map ze3 l)] (.w 1 (r.map ze7)):=by
 refine fns T func219 ?_
 refine go ?_
 refine AO.x (qF6 T rfl rfl rfl rfl) (go ?_)
 refine AW.loopS (fun s:Nat×(List bE)=>(⟨[(3,.R 6),(7,sv ze3 l),(8,(l.length:Int)),(9,(s.1:Int))],[(6,ro 1 ze7 s.2)],20,[]⟩:St)) (fun s=>s.1<=l.length/\qCc (l.drop s.1) s.1 s.2=some r) (fun s=>l.length-s.1) (0,[]) ⟨Nat.zero_le _,J⟩ ?_ ?_
 refine Le.trans (Le.void 3 6 1 rfl rfl) ?_
 exact Le.ct 0 0
 rintro⟨g,h⟩ ⟨m,J⟩
 try dsimp only at J⊢
 refine AW.boundM (t:=7) (l:=l) rfl (fun i=>?_)
 rcases a:l.drop g with _|⟨n,j⟩
 rw[a,qCc]at J
 have b:=qAG a
 refine go ?_
 exact fin
 rw[a,qCc]at J
 have b:=qAF a
 refine go ?_
 obtain⟨c,d,k,e,J⟩:=qAE J
 refine go ?_
 refine AO.x (qAO rfl 7 rfl rfl rfl (qIs _ _ (d)) rfl rfl rfl) ?_
 refine AO.x (qTB T rfl 8 rfl rfl rfl rfl rfl rfl (f:=ze7) (l:=[c]) (ids:=[7]) rfl rfl (fun _=>rfl) (by exact zC (.rowR rfl) (zCn)) (by decide) rfl rfl rfl rfl rfl) ?_
 refine AO.x (qFc T rfl 9 rfl rfl rfl rfl rfl (by decide) rfl rfl rfl rfl rfl (qAJ (e)) rfl rfl) (go ?_)
 refine⟨(g+1,(h++[c])),⟨b,(zds a▸J)⟩,qBm b,?_⟩
 exact Le.ct 9 6
def qC0 (m:Marks):Option Marks :=
 (qHK m.ah).bind fun a =>
 (qHK m.ac).bind fun b =>
 some (Marks.mk a b)
theorem qGj (m:Marks) (r:Marks) (J:qC0 m=some r):qAC prog 154 [.g (qJb m)] (.g (qJj r)):=by
 refine fns T func154 ?_
 refine go ?_
 refine AO.x (bxs T 1) ?_
 refine AO.x (als T 2) (go ?_)
 obtain⟨c,a,d,b,J⟩:=qAE J
 refine AW.drawn 5 3 [] mix (by kernel_rfl) rfl ?_
 refine go ?_
 refine AD.q (FStep.call rfl rfl rfl rfl rfl (qKe _ _ (a)) rfl rfl) (qBD _ _) (qDi _ _) rfl ?_
 refine go ?_
 refine AO.x (qAO rfl 4 rfl rfl rfl (qKe _ _ (b)) rfl rfl rfl) (go ?_)
 refine AO.se T [.R 3,.R 4] ?_
 refine go ?_
 exact fin
def qA6 (m:Marks):Option Int :=
 (qAV m.ac 0).bind fun a =>
 some (a.length:Int)
theorem qEs (m:Marks) (r:Int) (J:qA6 m=some r):qAC prog 155 [.g (qJb m)] (.v (.int .i64 r)):=by
 refine fns T func155 ?_
 refine go ?_
 refine AO.x (bxs T 1) (go ?_)
 obtain⟨b,a,J⟩:=zB J
 refine go ?_
 exact fin
def qFi (family:Int):bF :=
 (qAQ family 0 4).bind fun a =>
 some a
theorem qLP (family:Int) (r:Bool) (J:qFi family=some r):qAC prog 98 [family] (.v (.bool r)):=by
 refine fns T func98 ?_
 refine go ?_
 obtain⟨b,a,J⟩:=zB J
 refine go ?_
 refine AO.w (cVs (qAS _ _ _ _ (a))) (go ?_)
 exact fin
def qEJ (c:Code) (a8:Nat):List Element->Nat->bF
 | [],a =>
  some true
 |b::g,a =>
  (qD5 a8 b.aC).bind fun d =>
  (opt (!(!d)) default (qFi b.aE)).bind fun e =>
  (opt (!((!d)||(!e))) default (qAQ b.aI 0 4)).bind fun f =>
  (opt (!(((!d)||(!e))||(!f))) default (qAQ b.aG 1 2000)).bind fun h =>
  cond ((((!d)||(!e))||(!f))||(!h))
   (some false)
   ((opt (decide ((a:Int)>0)) default (qAV c.ad (w64 ((a:Int)-1)))).bind fun i =>
   cond (decide ((a:Int)>0)&&(!qNe i.aC b.aC))
    (some false)
    (qEJ c a8 g (a+1)))
def qBE (a8:Nat) (c:Code):bF :=
 (qAQ (c.ad.length:Int) 1 24).bind fun d =>
 (opt (!((!d)||((c.ar.length:Int) != 5))) default (qCR c.ar 0 9)).bind fun g =>
 cond (((!d)||((c.ar.length:Int) != 5))||(!g))
  (some false)
  ((qAQ c.aq 1 3).bind fun a =>
  (opt (!(!a)) default (qAQ c.av 0 20)).bind fun b =>
  (opt (!((!a)||(!b))) default (qAQ c.au 50 100)).bind fun e =>
  (opt (!(((!a)||(!b))||(!e))) default (qAQ c.ay 0 500)).bind fun f =>
  cond ((((!a)||(!b))||(!e))||(!f))
   (some false)
   (qEJ c a8 c.ad 0))
theorem qFP (a8:Nat) (c:Code) (r:Bool) (J:qBE a8 c=some r):qAC prog 70 [.g (ze4 c)] (.v (.bool r)):=by
 refine fns T func70 ?_
 refine go ?_
 refine AO.x (bxs T 1) (go ?_)
 obtain⟨N,q,O,u,J⟩:=qAE J
 refine go ?_
 refine AO.w (cVs (qAS _ _ _ _ (q))) (go ?_)
 refine AO.g0 T ?_
 refine AO.g1 T 11 ?_
 refine AO.d1 12 (fun hg=>qMc T) ?_
 refine AO.g1 T 13 ?_
 refine go ?_
 refine AO.g0 T ?_
 refine AO.g1 T 17 ?_
 refine AO.d1 18 (fun hg=>cVs (qGl _ _ _ _ (qD7 u hg))) ?_
 refine AO.g1 T 19 ?_
 refine go ?_
 refine Cf J fun hc J=>?_
 refine go ?_
 obtain⟨G,y,H,z,I,f,J⟩:=qAq J
 obtain⟨A,i,J⟩:=zB J
 refine go ?_
 refine AO.w (cVs (qAS _ _ _ _ (y))) (go ?_)
 refine AO.g0 T ?_
 refine AO.g1 T 27 ?_
 refine AO.d1 28 (fun hg=>cVs (qAS _ _ _ _ (qD7 z hg))) ?_
 refine AO.g1 T 29 ?_
 refine go ?_
 refine AO.g0 T ?_
 refine AO.g1 T 33 ?_
 refine AO.d1 34 (fun hg=>cVs (qAS _ _ _ _ (qD7 f hg))) ?_
 refine AO.g1 T 35 ?_
 refine go ?_
 refine AO.g0 T ?_
 refine AO.g1 T 39 ?_
 refine AO.d1 40 (fun hg=>cVs (qAS _ _ _ _ (qD7 i hg))) ?_
 refine AO.g1 T 41 ?_
 refine gs2 ?_
 refine AW.le (Le.ct 0 0 (σ':=(⟨[(1,.p 1 0),(43,.v (.bool ((((!G)||(!H))||(!I))||(!A))))],[(1,.box (ze4 c))],89,[]⟩:St))) ?_
 refine Cf J fun hc J=>?_
 refine go ?_
 refine AW.loopS (fun s:Nat=>(⟨[(1,.p 1 0),(45,sv ze5 c.ad),(46,(c.ad.length:Int)),(47,(s:Int))],[(1,.box (ze4 c))],89,[]⟩:St)) (fun s=>s<=c.ad.length/\qEJ c a8 (c.ad.drop s) s=some r) (fun s=>c.ad.length-s) 0 ⟨Nat.zero_le _,J⟩ ?_ ?_
 exact Le.ct 0 0
 rintro e ⟨P,J⟩
 try dsimp only at J⊢
 refine AW.boundM (t:=45) (l:=c.ad) rfl (fun K=>?_)
 rcases a:c.ad.drop e with _|⟨d,L⟩
 rw[a,qEJ]at J
 have b:=qAG a
 refine go ?_
 exact fin
 rw[a,qEJ]at J
 have b:=qAF a
 refine go ?_
 refine AO.x (als T 4) ?_
 refine AO.pu T ?_
 refine AO.se T [.v (.string d.aC),d.aE,d.aI,d.aG] ?_
 refine go ?_
 obtain⟨B,j,C,k,E,m,J⟩:=qAq J
 obtain⟨F,n,J⟩:=zB J
 refine go ?_
 refine AO.w (cVs (qIh a8 _ _ (j))) (go ?_)
 refine AO.g0 T ?_
 refine AO.g1 T 57 ?_
 refine AO.d1 58 (fun hg=>cVs (qLP _ _ (qD7 k hg))) ?_
 refine AO.g1 T 59 ?_
 refine go ?_
 refine AO.g0 T ?_
 refine AO.g1 T 63 ?_
 refine AO.d1 64 (fun hg=>cVs (qAS _ _ _ _ (qD7 m hg))) ?_
 refine AO.g1 T 65 ?_
 refine go ?_
 refine AO.g0 T ?_
 refine AO.g1 T 69 ?_
 refine AO.d1 70 (fun hg=>cVs (qAS _ _ _ _ (qD7 n hg))) ?_
 refine AO.g1 T 71 ?_
 refine gs2 ?_
 refine AW.le (Le.ct 0 0 (σ':=(⟨[(1,.p 1 0),(3,(e:Int)),(4,.p 4 0),(45,sv ze5 c.ad),(46,(c.ad.length:Int)),(47,(e:Int)),(73,.v (.bool ((((!B)||(!C))||(!E))||(!F))))],[(1,.box (ze4 c)),(4,.box (ze5 d))],89,[]⟩:St))) ?_
 refine Cf J fun hc J=>?_
 refine go ?_
 obtain⟨M,o,J⟩:=zB J
 refine AW.drawn 12 5 [] mix (by kernel_rfl) rfl ?_
 refine go ?_
 refine AD.pureG T [] rfl trivial rfl rfl ?_
 refine AD.pureG T [77] rfl ⟨fun h=>h,trivial⟩ rfl rfl ?_
 refine AD.pureG T [] rfl trivial rfl rfl ?_
 refine AD.guard [79] rfl ⟨fun h=>h,trivial⟩ (fun hg=>aws) rfl ?_
 refine AD.guard [78,80] rfl ⟨fun h=>h,fun h=>h,trivial⟩ (fun hg=>ixs T (qD7 o hg)) rfl ?_
 refine AD.pureG T [81] rfl ⟨fun h=>h,trivial⟩ rfl rfl ?_
 refine AD.pureG T [82] rfl ⟨fun h=>h,trivial⟩ rfl rfl ?_
 refine AD.pureG T [] rfl trivial rfl rfl ?_
 refine AD.pureG T [84] rfl ⟨fun h=>h,trivial⟩ rfl rfl ?_
 refine AD.nil (AO.g2 T 83 85 ?_)
 refine go ?_
 refine Cf J fun _ J=>?_
 refine go ?_
 refine⟨e+1,⟨b,(zds a▸J)⟩,qBm b,?_⟩
 exact Le.ct 0 0
def qC5 (l:List Item) (a8:Nat):List Item->Nat->bF
 | [],a =>
  some (decide ((l.length:Int)<=14))
 |d::b,a =>
  (qGs a8 d).bind fun c =>
  cond (!c)
   (some false)
   (qC5 l a8 b (a+1))
def qFb (a8:Nat) (l:List Item):bF :=
 qC5 l a8 l 0
theorem qLM (a8:Nat) (l:List Item) (r:Bool) (J:qFb a8 l=some r):qAC prog 126 [.s (List.map ze2 l)] (.v (.bool r)):=by
 refine fns T func126 ?_
 refine go ?_
 refine AW.loopS (fun s:Nat=>(⟨[(0,sv ze2 l),(5,sv ze2 l),(6,(l.length:Int)),(7,(s:Int))],[],18,[]⟩:St)) (fun s=>s<=l.length/\qC5 l a8 (l.drop s) s=some r) (fun s=>l.length-s) 0 ⟨Nat.zero_le _,J⟩ ?_ ?_
 exact Le.ct 0 0
 rintro e ⟨i,J⟩
 try dsimp only at J⊢
 refine AW.boundM (t:=0) (l:=l) rfl (fun f=>?_)
 rcases a:l.drop e with _|⟨c,g⟩
 rw[a,qC5]at J
 have b:=qAG a
 refine go ?_
 exact fin
 rw[a,qC5]at J
 have b:=qAF a
 refine go ?_
 refine AO.x (als T 3) ?_
 refine AO.se T [sv ze1 c.aj,sv ze0 c.ae,.v (.bool c.aB)] ?_
 refine go ?_
 obtain⟨h,d,J⟩:=zB J
 refine go ?_
 refine AO.w (cVs (qMu a8 _ _ (d))) (go ?_)
 refine Cf J fun _ J=>?_
 refine go ?_
 refine⟨e+1,⟨b,(zds a▸J)⟩,qBm b,?_⟩
 exact Le.ct 0 0
def qAo (f:Element->bF):List Element->Nat->Option Int
 | [],a =>
  some (-1)
 |d::b,a =>
  (f d).bind fun c =>
  cond c
   (some (a:Int))
   (qAo f b (a+1))
def qEr (sA:List Element) (f:Element->bF):Option Int :=
 qAo f sA 0
theorem qJk (sA:List Element) (f_f:Nat) (f_c:List D) (f_k:f_c.all D.capOk=true) (f:Element->bF) (f_h:∀(a0:Element) (q:Bool),f a0=some q->qAC prog f_f ([.g (ze5 a0)]++f_c) (.v (.bool q))) (r:Int) (J:qEr sA f=some r):qAC prog 296 [.s (List.map ze5 sA),.f f_f f_c] (.v (.int .i64 r)):=by
 have f_r:=qL7 f_k
 refine fns T func296 ?_
 refine go ?_
 refine AW.loopS (fun s:Nat=>(⟨[(0,sv ze5 sA),(1,.f f_f f_c),(7,(sA.length:Int)),(8,(s:Int))],[],19,[]⟩:St)) (fun s=>s<=sA.length/\qAo f (sA.drop s) s=some r) (fun s=>sA.length-s) 0 ⟨Nat.zero_le _,J⟩ ?_ ?_
 exact Le.cut 0 0 rfl ⟨⟨_,rfl,rfl⟩,⟨_,rfl,qQ8 f_r⟩,⟨_,rfl,rfl⟩,⟨_,rfl,rfl⟩,trivial⟩ (by repeat' (first|exact trivial|refine⟨⟨_,rfl,rfl⟩,?_⟩)) (qJ9 (qNw rfl (qNw (qMG f_r) (qNw rfl (qNw rfl qYE)))) rfl)
 rintro d ⟨j,J⟩
 try dsimp only at J⊢
 refine AW.boundM (t:=0) (l:=sA) rfl (fun e=>?_)
 rcases a:sA.drop d with _|⟨k,h⟩
 rw[a,qAo]at J
 have b:=qAG a
 refine go ?_
 exact fin
 rw[a,qAo]at J
 have b:=qAF a
 refine go ?_
 obtain⟨i,c,J⟩:=zB J
 refine go ?_
 refine AO.w (zV rfl rfl rfl (qJ9 rfl (qOA f_r)) (f_h _ _ (c)) rfl) ?_
 refine AO.n ?_
 refine Cf J fun _ J=>?_
 refine go ?_
 refine⟨d+1,⟨b,(zds a▸J)⟩,qBm b,?_⟩
 exact Le.cut 0 0 rfl ⟨⟨_,rfl,rfl⟩,⟨_,rfl,qQ8 f_r⟩,⟨_,rfl,rfl⟩,⟨_,rfl,rfl⟩,trivial⟩ (by repeat' (first|exact trivial|refine⟨⟨_,rfl,rfl⟩,?_⟩)) (qJ9 (qNw rfl (qNw (qMG f_r) (qNw rfl (qNw rfl qYE)))) rfl)
def qDf (x:Element) (a:bD):bF :=
 some (decide (x.aC=a))
theorem qLS (x:Element) (a:bD) (r:Bool) (J:qDf x a=some r):qAC prog 297 [.g (ze5 x),.q [.v (.string a)]] (.v (.bool r)):=by
 refine fns T func297 ?_
 refine go ?_
 refine AO.x (bxs T 1) (go ?_)
 exact fin
def qCu (c:Code) (name:bD):Option Int :=
 (qEr c.ad (fun a0=>qDf a0 name)).bind fun a =>
 some a
theorem qFr (c:Code) (name:bD) (r:Int) (J:qCu c name=some r):qAC prog 246 [.g (ze4 c),.v (.string name)] (.v (.int .i64 r)):=by
 refine fns T func246 ?_
 refine go ?_
 refine AO.x (bxs T 1) ?_
 refine AO.x (bxs T 2) (go ?_)
 obtain⟨b,a,J⟩:=zB J
 refine go ?_
 refine AO.w (zLV rfl rfl rfl (es:=[sv ze5 c.ad,.f 297 [.q [.v (.string name)]]]) ⟨.free rfl,qaW (LendL.cons (Lend.boxF rfl rfl) LendL.nil),trivial⟩ (qJk _ 297 [.q [.v (.string name)]] rfl (fun a0=>qDf a0 name) (fun a0 q h=>qLS a0 name q h) _ (a)) (qAj _) rfl) (go ?_)
 exact fin
def qDp (c:Code):List bD->Nat->Option (Except Bool Unit)
 | [],a =>
  some (.ok ())
 |d::b,a =>
  (qCu c d).bind fun e =>
  cond (decide (e<0))
   (some (.error false))
   (qDp c b (a+1))
def qDl (c:Code):List Item->Nat->bF
 | [],a =>
  some true
 |e::b,a =>
  (qDp c e.aj 0).bind fun d=>qKL d fun _ =>
  qDl c b (a+1)
def qED (c:Code) (l:List Item):bF :=
 qDl c l 0
theorem qLv (c:Code) (l:List Item) (r:Bool) (J:qED c l=some r):qAC prog 184 [.g (ze4 c),.s (List.map ze2 l)] (.v (.bool r)):=by
 refine fns T func184 ?_
 refine gs2 ?_
 refine AO.x (bxs T 1) ?_
 iterate 10 refine gs ?_
 refine AW.loopS (fun s:Nat=>(⟨[(2,.p 1 0),(9,sv ze2 l),(10,(l.length:Int)),(11,(s:Int))],[(1,.box (ze4 c))],28,[]⟩:St)) (fun s=>s<=l.length/\qDl c (l.drop s) s=some r) (fun s=>l.length-s) 0 ⟨Nat.zero_le _,J⟩ ?_ ?_
 exact Le.ct 0 0
 rintro i ⟨n,J⟩
 try dsimp only at J⊢
 refine AW.boundM (t:=9) (l:=l) rfl (fun u=>?_)
 rcases e:l.drop i with _|⟨b,y⟩
 rw[e,qDl]at J
 have f:=qAG e
 iterate 12 refine gs ?_
 exact fin
 rw[e,qDl]at J
 have f:=qAF e
 refine gs7 ?_
 obtain⟨j,J,h⟩:=zB J
 refine AW.seqJ (fun s:Unit=>(⟨[(2,.p 1 0),(9,sv ze2 l),(10,(l.length:Int)),(11,(i:Int))],[(1,.box (ze4 c))],28,[]⟩:St)) (fun s=>.ok s=j) ?_ ?_
 refine gs5 ?_
 refine AO.x (als T 7) ?_
 refine AO.se T [sv ze1 b.aj,sv ze0 b.ae,.v (.bool b.aB)] ?_
 refine gs9 ?_
 refine AW.loopS (fun s:Nat=>(⟨[(2,.p 1 0),(9,sv ze2 l),(10,(l.length:Int)),(11,(i:Int)),(16,sv ze1 b.aj),(17,(b.aj.length:Int)),(18,(s:Int))],[(1,.box (ze4 c))],28,[]⟩:St)) (fun s=>s<=b.aj.length/\qDp c (b.aj.drop s) s=some j) (fun s=>b.aj.length-s) 0 ⟨Nat.zero_le _,J⟩ ?_ ?_
 exact Le.ct 0 0
 rintro k ⟨n,J⟩
 try dsimp only at J⊢
 refine AW.boundM (t:=16) (l:=b.aj) rfl (fun o=>?_)
 rcases a:b.aj.drop k with _|⟨z,q⟩
 rw[a,qDp]at J
 have d:=qAG a
 refine gs7 ?_
 refine⟨_,zS J,?_⟩
 exact Le.ct 0 0
 rw[a,qDp]at J
 have d:=qAF a
 iterate 16 refine gs ?_
 obtain⟨A,m,J⟩:=zB J
 refine gs3 ?_
 refine AO.w (cVs (qFr _ _ _ (m))) ?_
 refine gs2 ?_
 refine AW.cH J (fun _ J=>?_) (fun _ J=>?_)
 refine gs5 ?_
 obtain rfl:=zS J
 replace J:=h
 exact fin
 refine gs5 ?_
 refine⟨k+1,⟨d,(zds a▸J)⟩,qBm d,?_⟩
 exact Le.ct 0 0
 rintro _ hs
 subst hs
 replace J:=h
 try dsimp only[qKL,qIN]at J
 try dsimp only
 refine gs4 ?_
 refine⟨i+1,⟨f,(zds e▸J)⟩,qBm f,?_⟩
 exact Le.ct 0 0
def qBL (f:Int->bF):bE->Nat->Option Int
 | [],a =>
  some (-1)
 |d::b,a =>
  (f d).bind fun c =>
  cond c
   (some (a:Int))
   (qBL f b (a+1))
def qGL (sA:bE) (f:Int->bF):Option Int :=
 qBL f sA 0
theorem qKk (sA:bE) (f_f:Nat) (f_c:List D) (f_k:f_c.all D.capOk=true) (f:Int->bF) (f_h:∀(a0:Int) (q:Bool),f a0=some q->qAC prog f_f ([.v (.int .i64 a0)]++f_c) (.v (.bool q))) (r:Int) (J:qGL sA f=some r):qAC prog 336 [.s (List.map ze0 sA),.f f_f f_c] (.v (.int .i64 r)):=by
 have f_r:=qL7 f_k
 refine fns T func336 ?_
 refine go ?_
 refine AW.loopS (fun s:Nat=>(⟨[(0,sv ze0 sA),(1,.f f_f f_c),(7,(sA.length:Int)),(8,(s:Int))],[],19,[]⟩:St)) (fun s=>s<=sA.length/\qBL f (sA.drop s) s=some r) (fun s=>sA.length-s) 0 ⟨Nat.zero_le _,J⟩ ?_ ?_
 exact Le.cut 0 0 rfl ⟨⟨_,rfl,rfl⟩,⟨_,rfl,qQ8 f_r⟩,⟨_,rfl,rfl⟩,⟨_,rfl,rfl⟩,trivial⟩ (by repeat' (first|exact trivial|refine⟨⟨_,rfl,rfl⟩,?_⟩)) (qJ9 (qNw rfl (qNw (qMG f_r) (qNw rfl (qNw rfl qYE)))) rfl)
 rintro d ⟨i,J⟩
 try dsimp only at J⊢
 refine AW.boundM (t:=0) (l:=sA) rfl (fun e=>?_)
 rcases a:sA.drop d with _|⟨j,g⟩
 rw[a,qBL]at J
 have b:=qAG a
 refine go ?_
 exact fin
 rw[a,qBL]at J
 have b:=qAF a
 refine go ?_
 obtain⟨h,c,J⟩:=zB J
 refine go ?_
 refine AO.w (zV rfl rfl rfl (qJ9 rfl (qOA f_r)) (f_h _ _ (c)) rfl) ?_
 refine AO.n ?_
 refine Cf J fun _ J=>?_
 refine go ?_
 refine⟨d+1,⟨b,(zds a▸J)⟩,qBm b,?_⟩
 exact Le.cut 0 0 rfl ⟨⟨_,rfl,rfl⟩,⟨_,rfl,qQ8 f_r⟩,⟨_,rfl,rfl⟩,⟨_,rfl,rfl⟩,trivial⟩ (by repeat' (first|exact trivial|refine⟨⟨_,rfl,rfl⟩,?_⟩)) (qJ9 (qNw rfl (qNw (qMG f_r) (qNw rfl (qNw rfl qYE)))) rfl)
def qDT (sA:bE) (f:Int->bF):bF :=
 (qGL sA f).bind fun a =>
 some (decide (a>=0))
theorem qJo (sA:bE) (f_f:Nat) (f_c:List D) (f_k:f_c.all D.capOk=true) (f:Int->bF) (f_h:∀(a0:Int) (q:Bool),f a0=some q->qAC prog f_f ([.v (.int .i64 a0)]++f_c) (.v (.bool q))) (r:Bool) (J:qDT sA f=some r):qAC prog 298 [.s (List.map ze0 sA),.f f_f f_c] (.v (.bool r)):=by
 have f_r:=qL7 f_k
 refine fns T func298 ?_
 refine go ?_
 obtain⟨b,a,J⟩:=zB J
 refine go ?_
 refine AO.w (zV rfl rfl rfl (qJ9 (qNw rfl (qNw f_r qYE)) rfl) (qKk _ f_f f_c f_k f f_h _ (a)) rfl) (go ?_)
 exact fin
def qGK (mark:Int):bF :=
 (qAQ mark 0 1000).bind fun a =>
 (opt a default (qAl (25 != 0))).bind fun b =>
 some (a&&((mark.tmod 25)==0))
theorem qKp (mark:Int) (r:Bool) (J:qGK mark=some r):qAC prog 300 [mark] (.v (.bool r)):=by
 refine fns T func300 ?_
 refine go ?_
 obtain⟨c,a,d,b,J⟩:=qAE J
 refine go ?_
 refine AO.w (cVs (qAS _ _ _ _ (a))) ?_
 refine AO.pu T ?_
 refine AO.g0 T ?_
 refine AO.d1 6 (fun hg=>qP7 rfl rfl rfl (neZ (qAJ (qD7 b hg)))) ?_
 refine AO.g1 T 7 ?_
 refine go ?_
 exact fin
def qDI (mark:Int):bF :=
 (qGK mark).bind fun a =>
 some (!a)
theorem qNM (mark:Int) (r:Bool) (J:qDI mark=some r):qAC prog 299 [mark] (.v (.bool r)):=by
 refine fns T func299 ?_
 refine go ?_
 obtain⟨b,a,J⟩:=zB J
 refine go ?_
 refine AO.w (cVs (qKp _ _ (a))) (go ?_)
 exact fin
def qDe (m:Marks):List bE->Nat->bF
 | [],b =>
  some true
 |a::d,b =>
  (qA6 m).bind fun c =>
  (opt (!((a.length:Int) != c)) default (qDT a (fun a0=>qDI a0 ))).bind fun e =>
  cond (((a.length:Int) != c)||e)
   (some false)
   (qDe m d (b+1))
def qDt (m:Marks):List bE->Nat->bF
 | [],c =>
  qDe m m.ac 0
 |b::d,c =>
  (qA6 m).bind fun a =>
  (opt (!((b.length:Int) != a)) default (qCR b (-5) 5)).bind fun e =>
  cond (((b.length:Int) != a)||(!e))
   (some false)
   (qDt m d (c+1))
def qEH (m:Marks):bF :=
 (opt (!(decide ((m.ah.length:Int)>14)||((m.ac.length:Int) != 3))) default (qAV m.ac 0)).bind fun a =>
 (opt (!(decide ((m.ah.length:Int)>14)||((m.ac.length:Int) != 3))) default (qAQ (a.length:Int) 3 9)).bind fun b =>
 cond ((decide ((m.ah.length:Int)>14)||((m.ac.length:Int) != 3))||(!b))
  (some false)
  (qDt m m.ah 0)
theorem qJR (m:Marks) (r:Bool) (J:qEH m=some r):qAC prog 247 [.g (qJb m)] (.v (.bool r)):=by
 refine fns T func247 ?_
 refine go ?_
 refine AO.x (bxs T 1) (go ?_)
 obtain⟨L,o,M,u,J⟩:=qAE J
 refine go ?_
 refine AO.g0 T ?_
 refine AO.g1 T 12 ?_
 refine AO.d1 13 (fun hg=>qMc T) ?_
 refine AO.g1 T 14 ?_
 refine go ?_
 refine AO.g0 T ?_
 refine AO.g1 T 18 ?_
 refine AO.d1 19 (fun hg=>ixs T (qD7 o hg)) ?_
 refine AO.g1 T 20 ?_
 refine AO.d1 21 (fun hg=>qMc T) ?_
 refine AO.d1 22 (fun hg=>cVs (qAS _ _ _ _ (qD7 u hg))) ?_
 refine AO.g1 T 23 ?_
 refine go ?_
 refine Cf J fun hc J=>?_
 refine gs9 ?_
 refine AW.le (Le.ct 0 0 (σ':=(⟨[(1,.p 1 0),(27,sv ze3 m.ah),(28,(m.ah.length:Int)),(29,(0:Int))],[(1,.box [sv ze3 m.ah,sv ze3 m.ac])],61,[]⟩:St))) ?_
 refine AW.b (AW.loopS (fun s:Nat=>(⟨[(1,.p 1 0),(27,sv ze3 m.ah),(28,(m.ah.length:Int)),(29,(s:Int))],[(1,.box [sv ze3 m.ah,sv ze3 m.ac])],61,[]⟩:St)) (fun s=>s<=m.ah.length/\qDt m (m.ah.drop s) s=some r) (fun s=>m.ah.length-s) 0 ⟨Nat.zero_le _,J⟩ ?_ ?_)
 exact Le.ct 0 0
 rintro y ⟨z,J⟩
 try dsimp only at J⊢
 refine AW.boundM (t:=27) (l:=m.ah) rfl (fun C=>?_)
 rcases e:m.ah.drop y with _|⟨N,E⟩
 rw[e,qDt]at J
 have c:=qAG e
 refine go ?_
 refine AW.loopS (fun s:Nat=>(⟨[(1,.p 1 0),(45,sv ze3 m.ac),(46,(m.ac.length:Int)),(47,(s:Int))],[(1,.box [sv ze3 m.ah,sv ze3 m.ac])],61,[]⟩:St)) (fun s=>s<=m.ac.length/\qDe m (m.ac.drop s) s=some r) (fun s=>m.ac.length-s) 0 ⟨Nat.zero_le _,J⟩ ?_ ?_
 exact Le.ct 0 0
 rintro f ⟨z,J⟩
 try dsimp only at J⊢
 refine AW.boundM (t:=45) (l:=m.ac) rfl (fun A=>?_)
 rcases a:m.ac.drop f with _|⟨F,B⟩
 rw[a,qDe]at J
 have d:=qAG a
 refine go ?_
 exact fin
 rw[a,qDe]at J
 have d:=qAF a
 refine go ?_
 obtain⟨G,i,H,j,J⟩:=qAE J
 refine go ?_
 refine AO.w (cVs (qEs _ _ (i))) (go ?_)
 refine AO.g0 T ?_
 refine AO.d1 57 (fun hg=>cVs (qJo _ 299 [] rfl (fun a0=>qDI a0 ) (fun a0 q h=>qNM a0  q h) _ (qD7 j hg))) ?_
 refine go ?_
 refine Cf J fun hc J=>?_
 refine go ?_
 refine⟨f+1,⟨d,(zds a▸J)⟩,qBm d,?_⟩
 exact Le.ct 0 0
 rw[e,qDt]at J
 have c:=qAF e
 refine go ?_
 obtain⟨I,k,K,n,J⟩:=qAE J
 refine go ?_
 refine AO.w (cVs (qEs _ _ (k))) (go ?_)
 refine AO.g0 T ?_
 refine AO.d1 39 (fun hg=>cVs (qGl _ _ _ _ (qD7 n hg))) ?_
 refine AO.g1 T 40 ?_
 refine go ?_
 refine Cf J fun _ J=>?_
 refine go ?_
 refine⟨y+1,⟨c,(zds e▸J)⟩,qBm c,?_⟩
 exact Le.ct 0 0
def qJZ (m:Marks) (items:Int):bF :=
 (qEH m).bind fun a =>
 some (a&&((m.ah.length:Int)==items))
theorem qPB (m:Marks) (items:Int) (r:Bool) (J:qJZ m items=some r):qAC prog 185 [.g (qJb m),items] (.v (.bool r)):=by
 refine fns T func185 ?_
 refine go ?_
 refine AO.x (bxs T 1) (go ?_)
 obtain⟨b,a,J⟩:=zB J
 refine go ?_
 refine AO.w (cVs (qJR _ _ (a))) ?_
 refine AO.pu T ?_
 refine AO.g0 T ?_
 refine AO.g1 T 8 ?_
 refine AO.d1 9 (fun hg=>qMc T) ?_
 refine AO.g0 T ?_
 refine AO.g2 T 10 11 ?_
 refine go ?_
 exact fin
def qK2 (c:Code) (l:List Item) (m:Marks):bF :=
 (qED c l).bind fun a =>
 (opt a default (qJZ m (l.length:Int))).bind fun b =>
 some (a&&b)
theorem qQj (c:Code) (l:List Item) (m:Marks) (r:Bool) (J:qK2 c l m=some r):qAC prog 127 [.g (ze4 c),.s (List.map ze2 l),.g (qJb m)] (.v (.bool r)):=by
 refine fns T func127 ?_
 refine go ?_
 refine AO.x (bxs T 1) ?_
 refine AO.x (bxs T 2) (go ?_)
 obtain⟨e,a,f,b,J⟩:=qAE J
 refine go ?_
 refine AO.w (cVs (qLv _ _ _ (a))) ?_
 refine AO.pu T ?_
 refine AO.g T (d:=.g [sv ze3 m.ah,sv ze3 m.ac]) [] rfl trivial rfl rfl ?_
 refine AO.g0 T ?_
 refine AO.d1 12 (fun hg=>qMc T) ?_
 refine AO.d2 11 13 (fun hg=>cVs (qPB _ _ _ (qD7 b hg))) ?_
 refine go ?_
 exact fin
def qIq (a8:Nat) (c:Code) (l:List Item) (m:Marks):bF :=
 (qBE a8 c).bind fun a =>
 (opt a default (qFb a8 l)).bind fun b =>
 (opt (a&&b) default (qK2 c l m)).bind fun d =>
 some ((a&&b)&&d)
theorem qON (a8:Nat) (c:Code) (l:List Item) (m:Marks) (r:Bool) (J:qIq a8 c l m=some r):qAC prog 99 [.g (ze4 c),.s (List.map ze2 l),.g (qJb m)] (.v (.bool r)):=by
 refine fns T func99 ?_
 refine go ?_
 refine AO.x (bxs T 1) ?_
 refine AO.x (bxs T 2) (go ?_)
 obtain⟨f,a,i,b,j,e,J⟩:=qAq J
 refine go ?_
 refine AO.w (cVs (qFP a8 _ _ (a))) ?_
 refine AO.pu T ?_
 refine AO.g0 T ?_
 refine AO.d1 10 (fun hg=>cVs (qLM a8 _ _ (qD7 b hg))) ?_
 refine go ?_
 refine AO.g T (d:=.g (ze4 c)) [] rfl trivial rfl rfl ?_
 refine AO.g0 T ?_
 refine AO.g T (d:=.g [sv ze3 m.ah,sv ze3 m.ac]) [] rfl trivial rfl rfl ?_
 refine AO.d [14,15,16] rfl ⟨fun h=>h,fun h=>h,fun h=>h,trivial⟩ (fun hg=>cVs (qQj _ _ _ _ (qD7 e hg))) rfl ?_
 refine go ?_
 exact fin
def qEn (sA:Slips):bF :=
 (qAQ sA.falls 0 9).bind fun a =>
 (opt a default (qAQ sA.an 0 60)).bind fun b =>
 (opt (a&&b) default (qAQ sA.aw 0 500)).bind fun c =>
 some ((a&&b)&&c)
theorem qLH (sA:Slips) (r:Bool) (J:qEn sA=some r):qAC prog 100 [.g (qK9 sA)] (.v (.bool r)):=by
 refine fns T func100 ?_
 refine go ?_
 refine AO.x (bxs T 1) (go ?_)
 obtain⟨d,a,e,b,f,c,J⟩:=qAq J
 refine go ?_
 refine AO.w (cVs (qAS _ _ _ _ (a))) ?_
 refine AO.pu T ?_
 refine AO.g0 T ?_
 refine AO.g1 T 7 ?_
 refine AO.d1 8 (fun hg=>cVs (qAS _ _ _ _ (qD7 b hg))) ?_
 refine go ?_
 refine AO.g0 T ?_
 refine AO.g1 T 12 ?_
 refine AO.d1 13 (fun hg=>cVs (qAS _ _ _ _ (qD7 c hg))) ?_
 refine go ?_
 exact fin
def qBh (a8:Nat) (c:Code) (p:Performance):bF :=
 (qIq a8 c p.ai p.ae).bind fun a =>
 (opt a default (qEn p.af)).bind fun b =>
 some (a&&b)
theorem qGg (a8:Nat) (c:Code) (p:Performance) (r:Bool) (J:qBh a8 c p=some r):qAC prog 71 [.g (ze4 c),.g (ze9 p)] (.v (.bool r)):=by
 refine fns T func71 ?_
 refine go ?_
 refine AO.x (bxs T 1) ?_
 refine AO.x (bxs T 2) (go ?_)
 obtain⟨e,a,f,b,J⟩:=qAE J
 refine go ?_
 refine AO.w (cVs (qON a8 _ _ _ _ (a))) ?_
 refine AO.pu T ?_
 refine AO.g0 T ?_
 refine AO.g T (d:=.g [p.af.falls,p.af.an,p.af.aw]) [12] rfl ⟨fun h=>h,trivial⟩ rfl rfl ?_
 refine AO.d1 13 (fun hg=>cVs (qLH _ _ (qD7 b hg))) ?_
 refine go ?_
 exact fin
def qAv (a8:Nat) (sA:ScriptState) (text:bD):Option (ScriptState×bD) :=
 (qHH a8 text).bind fun c =>
 cond (!c.2)
  (some (sA,(bz [110,111])))
  ((qF8 sA.aa.ai).bind fun d =>
  (qAl (qAg 56 (d.length+([c.1]).length))).bind fun h =>
  (qC0 sA.aa.ae).bind fun a =>
  (qA6 a).bind fun b =>
  (qAl (decide (0<=b)&&qAg 8 b.toNat)).bind fun f =>
  (qAl (qAg 24 (a.ah.length+([(List.replicate b.toNat (0:Int))]).length))).bind fun g =>
  (qBh a8 sA.ag (Performance.mk (d++[c.1]) (Marks.mk (a.ah++[(List.replicate b.toNat (0:Int))]) a.ac) sA.aa.af)).bind fun e =>
  cond (!e)
   (some (sA,(bz [110,111])))
   (some ((ScriptState.mk sA.ag (Performance.mk (d++[c.1]) (Marks.mk (a.ah++[(List.replicate b.toNat (0:Int))]) a.ac) sA.aa.af) sA.am sA.ak),(bz [111,107]))))
theorem qJm (a8:Nat) (sA:ScriptState) (text:bD) (r:(ScriptState×bD)) (J:qAv a8 sA text=some r):qGM prog 112 [.pw (qKE sA),.v (.string text)] [.pw (qKE r.1),.u] (.v (.string r.2)):=by
 refine qJs T func112 rfl (by decide) rfl rfl ?_
 intro L
 show AW _ _ _ (⟨[(0,.p 1 0),(1,.v (.string text))],[(1,.box (qKE sA))],58,[(1,L 1)]⟩:St)
 refine AW.q (AW.r (AO.pu T ?_))
 refine AO.n (AW.q ?_)
 obtain⟨a,A,J⟩:=zB J
 refine AW.r (AO.pu T ?_)
 refine AO.x (qAO rfl 2 rfl rfl rfl (qOF a8 _ _ (A)) rfl rfl rfl) ?_
 refine AO.pu T ?_
 refine AO.pu T (d:=.g [.R 2,.R 3,.v (.bool a.1.aB)]) ?_
 refine AO.pu T ?_
 refine AO.x (als T 4) ?_
 refine AO.se T [.R 2,.R 3,.v (.bool a.1.aB)] ?_
 refine AO.pu T ?_
 refine AO.n (AW.q (AW.q ?_))
 refine AW.r (AO.p2 T ?_)
 refine AO.n (AW.c (b:=(!a.2)) rfl (fun hc=>?_) (fun hc=>?_))
 replace J:=condT hc J
 refine AW.q (AW.r (AO.pu T ?_))
 refine AO.n (AW.t ?_)
 have hR:=zS J;subst hR
 exact⟨trivial,rfl,_,[],[1],rfl,zG (.c (.box rfl rfl)) (zG (.c .u) (zGn)),.c (.c .v),by decide⟩
 replace J:=condF hc J
 refine AW.k (AW.q ?_)
 obtain⟨i,B,J⟩:=zB J
 obtain⟨I,C,J⟩:=zB J
 obtain⟨e,E,J⟩:=zB J
 refine AW.le (Le.fM 2 (g:=ze1) rfl (fun y=>.vs rfl)) ?_
 refine AW.le (Le.fM 3 (g:=ze0) rfl (fun y=>.vs rfl)) ?_
 refine AW.drawn 22 5 [] mix (by kernel_rfl) rfl ?_
 iterate 5 refine AD.pu T ?_
 refine AD.q (FStep.frzInE (k0:=5) (sz:=3) (l:=i) (p:=qBn) (q:=ze2) (fun y=>qGO y) (FStep.call rfl rfl rfl rfl rfl (qIL _ _ (B)) rfl rfl) rfl) (by simp[qA1];exact Nat.lt_succ_self _) (Nat.le_succ _) rfl ?_
 refine AD.p T (d:=.g [.s (List.map ze1 a.1.aj),.s (List.map ze0 a.1.ae),.v (.bool a.1.aB)]) rfl rfl rfl ?_
 refine AD.q (FStep.mk T (f:=ze2) (l:=[a.1]) rfl rfl rfl rfl rfl rfl rfl rfl rfl (fun _=>rfl) rfl rfl rfl rfl) (by simp[qA1]) (Nat.le_succ _) rfl ?_
 refine AD.kk (FStep.app_rv T rfl rfl rfl rfl rfl rfl rfl (by decide) rfl rfl rfl rfl (fun _=>rfl) (qAJ (C)) rfl) ?_
 iterate 4 refine AD.pu T ?_
 refine AD.p T (d:=.g [.s (List.map ze3 sA.aa.ae.ah),.s (List.map ze3 sA.aa.ae.ac)]) rfl rfl rfl ?_
 refine AD.q (FStep.call rfl rfl rfl rfl rfl (qGj _ _ (E)) rfl rfl) (qBD _ _) (qDi _ _) rfl ?_
 iterate 4 refine AD.pu T ?_
 refine AD.p T (d:=.g [sA.aa.af.falls,sA.aa.af.an,sA.aa.af.aw]) rfl rfl rfl ?_
 refine AD.pured T (d:=.g [.R 7,.R 8,.R 9,sA.aa.af.falls,sA.aa.af.an,sA.aa.af.aw]) rfl rfl rfl rfl ?_
 refine AD.q (FStep.alloc T rfl rfl rfl rfl rfl rfl) (by simp[qA1]) (Nat.le_succ _) rfl ?_
 refine AD.nil (AO.se T [.R 7,.R 8,.R 9,sA.aa.af.falls,sA.aa.af.an,sA.aa.af.aw] ?_)
 refine AO.n (AW.le (Le.ct 0 0 (σ':=(⟨[(0,.p 1 0),(7,.p 10 0)],[(1,.box (qKE sA)),(7,.row 3 (List.map ze2 (i++[a.1]))),(8,.row 1 (List.map ze7 e.ah)),(9,.row 1 (List.map ze7 e.ac)),(10,.box [.R 7,.R 8,.R 9,sA.aa.af.falls,sA.aa.af.an,sA.aa.af.aw])],58,[(1,L 1)]⟩:St)) (hpin:=⟨⟨rfl,rfl⟩,trivial⟩)) ?_)
 refine AW.q ?_
 obtain⟨j,m,J⟩:=zB J
 obtain⟨G,h,J⟩:=zB J
 obtain⟨H,o,J⟩:=zB J
 refine AW.drawn 8 11 [] mix (by kernel_rfl) rfl ?_
 iterate 4 refine AD.pu T ?_
 refine AD.p T (d:=.g [.R 8,.R 9]) rfl rfl rfl ?_
 refine AD.vv (zLV rfl rfl rfl (es:=[.g (qJb e)]) ⟨qIK (LendL.cons ((.rowR rfl (.map fun y=>qAh y))) (LendL.cons ((.rowR rfl (.map fun y=>qAh y))) LendL.nil)),trivial⟩ (qEs _ _ (m)) (qAj _) rfl) ?_
 refine AD.q (FStep.make T rfl rfl rfl rfl rfl rfl rfl (f:=ze0) (zo:=0) (by repeat constructor) (by decide) rfl rfl (Bool.and_eq_true_iff.1 (qAJ (h))).1 (Bool.and_eq_true_iff.1 (qAJ (h))).2 rfl) (by simp[qA1]) (Nat.le_succ _) rfl ?_
 refine AD.kk (FStep.mk_o T rfl rfl rfl rfl rfl rfl rfl rfl (f:=ze7) (l:=[(List.replicate j.toNat (0:Int))]) (ids:=[11]) rfl rfl (fun _=>rfl) (by exact zC (.rowR rfl) (zCn)) (by decide) rfl rfl rfl rfl) ?_
 refine AD.nil (AO.x (qFc T rfl 13 rfl rfl rfl rfl rfl (by decide) rfl rfl rfl rfl rfl (qAJ (o)) rfl rfl) ?_)
 refine AO.p2 T ?_
 refine AO.se T [.R 7,.R 13,.R 9,sA.aa.af.falls,sA.aa.af.an,sA.aa.af.aw] ?_
 refine AO.n (AW.q (AW.q ?_))
 obtain⟨F,z,J⟩:=zB J
 refine AW.drawn 5 14 [] mix (by kernel_rfl) rfl ?_
 iterate 3 refine AD.pu T ?_
 refine AD.p T (d:=.g (ze4 sA.ag)) rfl rfl rfl ?_
 refine AD.p T (d:=.g [.R 7,.R 13,.R 9,sA.aa.af.falls,sA.aa.af.an,sA.aa.af.aw]) rfl rfl rfl ?_
 refine AD.nil (AO.w (zLV rfl rfl rfl (es:=[.g (ze4 sA.ag),.g (ze9 (Performance.mk (i++[a.1]) (Marks.mk (e.ah++[(List.replicate j.toNat (0:Int))]) e.ac) sA.aa.af))]) ⟨.free rfl,qIK (LendL.cons ((.rowR rfl (.map fun y=>.vs rfl))) (LendL.cons ((.rowR rfl (.map fun y=>qAh y))) (LendL.cons ((.rowR rfl (.map fun y=>qAh y))) (LendL.cons (.free rfl) (LendL.cons (.free rfl) (LendL.cons (.free rfl) LendL.nil)))))),trivial⟩ (qGg a8 _ _ _ (z)) (qAj _) rfl) ?_)
 refine AO.pu T ?_
 refine AO.n (AW.c (b:=(!F)) rfl (fun hc=>?_) (fun hc=>?_))
 replace J:=condT hc J
 refine AW.q (AW.r (AO.pu T ?_))
 refine AO.n (AW.t ?_)
 have hR:=zS J;subst hR
 exact⟨trivial,rfl,_,[],[1],rfl,zG (.c (.box rfl rfl)) (zG (.c .u) (zGn)),.c (.c .v),by decide⟩
 replace J:=condF hc J
 refine AW.k (AW.q (AW.r ?_))
 refine AO.pu T ?_
 refine AO.pu T (d:=.g [.R 7,.R 13,.R 9,sA.aa.af.falls,sA.aa.af.an,sA.aa.af.aw]) ?_
 refine AO.p2 T ?_
 refine AO.se T [.s (List.map ze5 sA.ag.ad),.s (List.map ze0 sA.ag.ar),sA.ag.aq,sA.ag.av,sA.ag.au,sA.ag.ay,.R 7,.R 13,.R 9,sA.aa.af.falls,sA.aa.af.an,sA.aa.af.aw,sA.am,.s (List.map ze6 sA.ak)] ?_
 refine AO.n (AW.le (Le.ct 0 0 (σ':=(⟨[],[(1,.box [.s (List.map ze5 sA.ag.ad),.s (List.map ze0 sA.ag.ar),sA.ag.aq,sA.ag.av,sA.ag.au,sA.ag.ay,.R 7,.R 13,.R 9,sA.aa.af.falls,sA.aa.af.an,sA.aa.af.aw,sA.am,.s (List.map ze6 sA.ak)]),(7,.row 3 (List.map ze2 (i++[a.1]))),(9,.row 1 (List.map ze7 e.ac)),(13,.row 1 (List.map ze7 (e.ah++[(List.replicate j.toNat (0:Int))])))],58,[(1,L 1)]⟩:St)) (hpin:=⟨⟨rfl,rfl⟩,trivial⟩)) ?_)
 refine AW.q (AW.r (AO.pu T ?_))
 refine AO.n (AW.le (Le.fM 9 (g:=ze3) rfl (fun y=>qAh y)) ?_)
 refine AW.le (Le.fM 13 (g:=ze3) rfl (fun y=>qAh y)) ?_
 refine AW.le (Le.fM 7 (g:=ze2) rfl (fun y=>.vs rfl)) ?_
 refine AW.t ?_
 have hR:=zS J;subst hR
 exact⟨trivial,rfl,_,[],[1],rfl,zG (.c (.box rfl rfl)) (zG (.c .u) (zGn)),.c (.c .v),by decide⟩
def qF3 (command:bD):Option (bD×Bool) :=
 cond (decide (command=(bz [101,108,101,109,101,110,116])))
  (some ((bz [119,110,110,110]),true))
  (cond (decide (command=(bz [108,105,109,105,116])))
   (some ((bz [110,110]),true))
   (cond (decide (command=(bz [114,117,108,101,115])))
    (some ((bz [110,110,110,110]),true))
    (cond (decide (command=(bz [106,117,100,103,101,115])))
     (some ((bz [110]),true))
     (cond (decide (command=(bz [102,97,99,116,111,114])))
      (some ((bz [110]),true))
      (cond (decide (command=(bz [114,97,110,103,101])))
       (some ((bz [110]),true))
       (cond (decide (command=(bz [115,107,97,116,101,114])))
        (some ((bz [110]),true))
        (cond (decide (command=(bz [103,114,97,100,101])))
         (some ((bz [110,110,103]),true))
         (cond (decide (command=(bz [99,111,109,112,111,110,101,110,116])))
          (some ((bz [110,110,110]),true))
          (cond (decide (command=(bz [115,108,105,112,115])))
           (some ((bz [110,110,110]),true))
           (cond (decide (command=(bz [99,97,108,108])))
            (some ((bz [110,110,109]),true))
            (cond (decide (command=(bz [108,97,116,101])))
             (some ((⟨#[]⟩:bD),true))
             (cond (decide (command=(bz [99,104,101,99,107])))
              (some ((⟨#[]⟩:bD),true))
              (cond (decide (command=(bz [98,97,115,101])))
               (some ((⟨#[]⟩:bD),true))
               (cond (decide (command=(bz [115,99,111,114,101])))
                (some ((⟨#[]⟩:bD),true))
                (cond (decide (command=(bz [98,111,117,110,100])))
                 (some ((⟨#[]⟩:bD),true))
                 (cond (decide (command=(bz [98,101,115,116])))
                  (some ((⟨#[]⟩:bD),true))
                  (cond (decide (command=(bz [112,108,97,99,101,115])))
                   (some ((⟨#[]⟩:bD),true))
                   (some ((⟨#[]⟩:bD),false)))))))))))))))))))
theorem qQR (command:bD) (r:(bD×Bool)) (J:qF3 command=some r):qAC prog 114 [.v (.string command)] (.t [.v (.string r.1),.v (.bool r.2)]):=by
 refine fns T func114 ?_
 refine go ?_
 refine Cf J fun _ J=>?_
 refine go ?_
 refine Cf J fun _ J=>?_
 refine go ?_
 refine Cf J fun _ J=>?_
 refine go ?_
 refine AW.cH J (fun g J=>?_) (fun _ J=>?_)
 refine AW.k (AW.condT' rfl g ?_)
 refine go ?_
 exact fin
 refine go ?_
 refine AW.cH J (fun h J=>?_) (fun _ J=>?_)
 refine AW.k (AW.condT' rfl h ?_)
 refine go ?_
 exact fin
 refine go ?_
 refine AW.cH J (fun i J=>?_) (fun _ J=>?_)
 refine AW.k (AW.condT' rfl i ?_)
 refine go ?_
 exact fin
 refine go ?_
 refine Cf J fun _ J=>?_
 refine go ?_
 refine Cf J fun _ J=>?_
 refine go ?_
 refine AW.cH J (fun j J=>?_) (fun _ J=>?_)
 refine AW.k (AW.condT' rfl j ?_)
 refine go ?_
 exact fin
 refine go ?_
 refine AW.cH J (fun _ J=>?_) (fun _ J=>?_)
 refine gs5 ?_
 refine AW.le (Le.ct 0 0 (σ':=(⟨[(2,.v (.string (bz [110,110,110]))),(3,.v (.bool true))],[],31,[]⟩:St))) ?_
 refine AW.t ?_
 exact fin
 refine gs5 ?_
 refine AW.le (Le.ct 0 0 (σ':=(⟨[(4,.v (.string command)),(21,.v (.bool (decide (command=(bz [99,97,108,108])))))],[],31,[]⟩:St))) ?_
 refine Cf J fun _ J=>?_
 refine go ?_
 refine AW.cH J (fun a J=>?_) (fun _ J=>?_)
 refine AW.k (AW.condT' rfl a ?_)
 refine go ?_
 exact fin
 refine go ?_
 refine AW.cH J (fun b J=>?_) (fun _ J=>?_)
 refine AW.k (AW.condT' rfl b ?_)
 refine go ?_
 exact fin
 refine go ?_
 refine AW.cH J (fun c J=>?_) (fun _ J=>?_)
 refine AW.k (AW.condT' rfl c ?_)
 refine go ?_
 exact fin
 refine go ?_
 refine AW.cH J (fun d J=>?_) (fun _ J=>?_)
 refine AW.k (AW.condT' rfl d ?_)
 refine go ?_
 exact fin
 refine go ?_
 refine AW.cH J (fun e J=>?_) (fun _ J=>?_)
 refine AW.k (AW.condT' rfl e ?_)
 refine go ?_
 exact fin
 refine go ?_
 refine AW.cH J (fun f J=>?_) (fun _ J=>?_)
 refine AW.k (AW.condT' rfl f ?_)
 refine go ?_
 exact fin
 refine go ?_
 refine Cf J fun _ J=>?_
 refine go ?_
 exact fin
def qDs (sA:bD):Nat->Int->Int->Option ((Int×Bool))
 |0,_,_=>none
 |d+1,c,a =>
  cond (decide (a<(sA.size:Int)))
   ((qNC sA a).bind fun b =>
   cond (decide ((b.toNat:Int)<48)||decide ((b.toNat:Int)>57))
    (some (0,false))
    (qDs sA d (w64 ((w64 (10*c))+(IntKind.wrap .i64 (IntKind.wrap .u8 ((b.toNat:Int)-48))))) (w64 (a+1))))
   (some (c,true))
def qHA (a8:Nat) (sA:bD):Option (Int×Bool) :=
 (opt ((!(decide (sA=(⟨#[]⟩:bD))||decide ((sA.size:Int)>12)))&&decide ((sA.size:Int)>1)) default (qNC sA 0)).bind fun a =>
 cond ((decide (sA=(⟨#[]⟩:bD))||decide ((sA.size:Int)>12))||(decide ((sA.size:Int)>1)&&((a.toNat:Int)==48)))
  (some (0,false))
  (qDs sA a8 0 0)
theorem qLX (a8:Nat) (sA:bD) (r:(Int×Bool)) (J:qHA a8 sA=some r):qAC prog 157 [.v (.string sA)] (.t [.v (.int .i64 r.1),.v (.bool r.2)]):=by
 refine fns T func157 ?_
 refine go ?_
 obtain⟨i,c,J⟩:=zB J
 refine go ?_
 refine AO.g0 T ?_
 refine AO.g1 T 9 ?_
 refine AO.g1 T 10 ?_
 refine go ?_
 refine AO.g0 T ?_
 refine AO.g1 T 14 ?_
 refine AO.g1 T 15 ?_
 refine AO.g1 T 16 ?_
 refine AO.g0 T ?_
 refine AO.d1 18 (fun hg=>qBO T rfl rfl rfl rfl (qD7 c hg)) ?_
 refine AO.g1 T 19 ?_
 refine AO.d [17] rfl ⟨fun h=>h,trivial⟩ (fun hg=>zN rfl rfl rfl (by rw[hg];exact Bool.true_and _)) rfl ?_
 refine go ?_
 refine Cf J fun _ J=>?_
 refine go ?_
 refine AW.loopS (fun s:Nat×Int×Int=>(⟨[(0,.v (.string sA)),(4,s.2.1),(5,s.2.2)],[],48,[]⟩:St)) (fun s=>qDs sA s.1 s.2.1 s.2.2=some r) (fun s=>s.1) (a8,0,0) J ?_ ?_
 exact Le.ct 0 0
 rintro⟨b,e,f⟩ J
 try dsimp only at J⊢
 rcases b with _|b
 cases (show none=some _ from J)
 rw[qDs]at J
 refine go ?_
 refine AW.cH J (fun hc J=>?_) (fun _ J=>?_)
 refine go ?_
 obtain⟨g,a,J⟩:=zB J
 refine go ?_
 refine AO.w (qBO T rfl rfl rfl rfl (a)) (go ?_)
 refine AO.g0 T ?_
 refine AO.g0 T ?_
 refine AO.d2 34 35 (fun hg=>qBO T rfl rfl rfl rfl (a)) ?_
 refine AO.g1 T 36 ?_
 refine go ?_
 refine Cf J fun hc J=>?_
 refine go ?_
 refine AO.w (qBO T rfl rfl rfl rfl (a)) ?_
 refine AO.w aws ?_
 refine AO.w (qJL T rfl rfl rfl rfl) (go ?_)
 refine⟨(b,w64 ((w64 (10*e))+(IntKind.wrap .i64 (IntKind.wrap .u8 ((g.toNat:Int)-48)))),w64 (f+1)),J,Nat.lt_succ_self _,?_⟩
 exact Le.ct 0 0
 refine go ?_
 exact fin
def qKF (a8:Nat) (sA:bD):Option (Int×Bool) :=
 (qBo sA (bz [45])).bind fun b =>
 (qHA a8 b.1).bind fun a =>
 cond ((!a.2)||(b.2&&(a.1==0)))
  (some (0,false))
  (cond b.2
   (some (w64 (-a.1),true))
   (some (a.1,true)))
theorem qPp (a8:Nat) (sA:bD) (r:(Int×Bool)) (J:qKF a8 sA=some r):qAC prog 158 [.v (.string sA)] (.t [.v (.int .i64 r.1),.v (.bool r.2)]):=by
 refine fns T func158 ?_
 refine go ?_
 obtain⟨b,c,J⟩:=zB J
 refine go ?_
 refine AO.w (cVs (qI2 _ _ _ (c))) (go ?_)
 obtain⟨a,e,J⟩:=zB J
 refine go ?_
 refine AO.w (cVs (qLX a8 _ _ (e))) (go ?_)
 refine AO.g0 T ?_
 refine AO.g1 T 21 ?_
 refine AO.g0 T ?_
 refine AO.g1 T 23 ?_
 refine AO.d [22] rfl ⟨fun h=>h,trivial⟩ (fun hg=>zN rfl rfl rfl (by rw[hg];exact Bool.true_and _)) rfl ?_
 refine gs2 ?_
 refine AW.le (Le.ct 0 0 (σ':=(⟨[(5,.v (.bool b.2)),(6,a.1),(26,.v (.bool ((!a.2)||(b.2&&(a.1==0)))))],[],31,[]⟩:St))) ?_
 refine Cf J fun hc J=>?_
 refine go ?_
 refine AW.cH J (fun _ J=>?_) (fun _ J=>?_)
 refine go ?_
 refine AO.w (qPr rfl rfl) (go ?_)
 exact fin
 refine go ?_
 exact fin
def qMB (n:Int):Option Int :=
 some (max n (w64 (-n)))
theorem qRf (n:Int) (r:Int) (J:qMB n=some r):qAC prog 159 [n] (.v (.int .i64 r)):=by
 refine fns T func159 ?_
 refine go ?_
 refine AO.w (qPr rfl rfl) ?_
 refine AO.w (qR0 rfl rfl rfl) (go ?_)
 exact fin
def qAW (v:bD):List bD->Nat->Option Int
 | [],a =>
  some (-1)
 |c::b,a =>
  cond (decide (v=c))
   (some (a:Int))
   (qAW v b (a+1))
def qIg (sA:List bD) (v:bD):Option Int :=
 qAW v sA 0
theorem qLV (sA:List bD) (v:bD) (r:Int) (J:qIg sA v=some r):qAC prog 160 [.s (List.map ze1 sA),.v (.string v)] (.v (.int .i64 r)):=by
 refine fns T func160 ?_
 refine go ?_
 refine AW.loopS (fun s:Nat=>(⟨[(0,sv ze1 sA),(1,.v (.string v)),(7,(sA.length:Int)),(8,(s:Int))],[],19,[]⟩:St)) (fun s=>s<=sA.length/\qAW v (sA.drop s) s=some r) (fun s=>sA.length-s) 0 ⟨Nat.zero_le _,J⟩ ?_ ?_
 exact Le.ct 0 0
 rintro c ⟨f,J⟩
 try dsimp only at J⊢
 refine AW.boundM (t:=0) (l:=sA) rfl (fun d=>?_)
 rcases a:sA.drop c with _|⟨g,e⟩
 rw[a,qAW]at J
 have b:=qAG a
 refine go ?_
 exact fin
 rw[a,qAW]at J
 have b:=qAF a
 refine go ?_
 refine Cf J fun _ J=>?_
 refine go ?_
 refine⟨c+1,⟨b,(zds a▸J)⟩,qBm b,?_⟩
 exact Le.ct 0 0
def qCt (a8:Nat) (form:Int) (word:bD):Option (Int×Bool) :=
 cond (form==110)
  ((qHA a8 word).bind fun b =>
  some (b.1,(b.2&&decide (b.1<=9999))))
  (cond (form==103)
   ((qKF a8 word).bind fun a =>
   (opt a.2 default (qMB a.1)).bind fun d =>
   some (a.1,(a.2&&decide (d<=9999))))
   (cond (form==109)
    ((qIg [(bz [110,111,110,101]),(bz [100,111,119,110]),(bz [101,100,103,101]),(bz [118,111,105,100])] word).bind fun c =>
    some (c,decide (c>=0)))
    (some (0,true))))
theorem qO8 (a8:Nat) (form:Int) (word:bD) (r:(Int×Bool)) (J:qCt a8 form word=some r):qAC prog 115 [.v (.int .u8 form),.v (.string word)] (.t [.v (.int .i64 r.1),.v (.bool r.2)]):=by
 refine fns T func115 ?_
 refine go ?_
 refine AW.cH J (fun _ J=>?_) (fun hc J=>?_)
 refine AW.q ?_
 obtain⟨e,a,J⟩:=zB J
 refine go ?_
 refine AO.w (cVs (qLX a8 _ _ (a))) (go ?_)
 refine AO.g0 T ?_
 refine AO.g1 T 22 ?_
 refine go ?_
 exact fin
 refine go ?_
 refine AW.cH J (fun _ J=>?_) (fun hc J=>?_)
 refine AW.q ?_
 obtain⟨g,b,J⟩:=zB J
 refine go ?_
 refine AO.w (cVs (qPp a8 _ _ (b))) (go ?_)
 obtain⟨h,c,J⟩:=zB J
 refine go ?_
 refine AO.g0 T ?_
 refine AO.d1 35 (fun hg=>cVs (qRf _ _ (qD7 c hg))) ?_
 refine AO.g1 T 36 ?_
 refine go ?_
 exact fin
 refine go ?_
 refine AW.cH J (fun _ J=>?_) (fun _ J=>?_)
 refine AW.q ?_
 obtain⟨i,d,J⟩:=zB J
 refine AW.r (AO.w (qZh T (l:=[(bz [110,111,110,101]),(bz [100,111,119,110]),(bz [101,100,103,101]),(bz [118,111,105,100])]) (f:=ze1) rfl rfl rfl rfl rfl rfl (by decide) (by decide) (fun _=>rfl)) ?_)
 refine AO.pu T ?_
 refine AO.w (cVs (qLV _ _ _ (d))) (go ?_)
 exact fin
 refine go ?_
 exact fin
section
open Go.Shelf Go.RowKit
theorem qat:∃s b z,te 36=some ⟨.slice 107,s,b,z⟩:=⟨_,_,_,rfl⟩
theorem qYT:∃ti,te 107=some ti/\ti.size=4/\ti.bytes=40/\∃z,ti.zero=some z/\z.cells.size=4:=⟨_,rfl,rfl,rfl,_,rfl,rfl⟩
set_option maxHeartbeats 2000000 in
set_option maxRecDepth 1000000 in
theorem qUj {a:Option Addr} {n c vb voff vc:Nat} {w w1:World} {r:Value} (hn:n<=9000000000000000000)
  (hrun:∀ty,(Builtin.append_ #[36,36] ty #[.slice a n c,.slice (some ⟨vb,voff,none⟩) 1 vc]).run prog w=.ok r w1) :
  Calls prog 163 #[.slice a n c,.int .i64 n,.slice (some ⟨vb,voff,none⟩) 1 vc] w fun e w'=>e=.returned r/\w'=w1:=by
 have tS:prog.underlying 36=some (.slice 107):=by kernel_rfl
 have mixed:prog.follows .mixedOrders=true:=by kernel_rfl
 go_enter func163,ntmps163
 cases a with
 |none =>
  go_wp2_with (at_builtin;refine Lib.wpList_append_run _ rfl _ _ _ _ rfl _ _ rfl rfl _ _ (hrun _) ?_)
  all_goals (go_ret;exact⟨rfl,rfl⟩)
 |some a =>
  obtain⟨ab,ao,asp⟩:=a
  go_wp2_with (at_builtin;refine Lib.wpList_append_run _ rfl _ _ _ _ rfl _ _ rfl rfl _ _ (hrun _) ?_)
  all_goals (go_ret;exact⟨rfl,rfl⟩)
set_option maxHeartbeats 4000000 in
set_option maxRecDepth 1000000 in
theorem qV8 {b off n c i vb voff vc:Nat} {w:World} {arr arv:Array Value} {el elv:TypeId} (hi:i<n) (hr:n+1<=c) (hc:c<=9223372036854775807) (hb:w.heap[b]?=some (.cells arr el (0,0))) (hs:off+c*4<=arr.size)
  (hv:w.heap[vb]?=some (.cells arv elv (0,0))) (hvs:voff+4<=arv.size) (hne:vb≠b) (h1:∀v∈(arr.toList.drop off).take (n*4),v.oneCell'=true) (h2:∀v∈(arv.toList.drop voff).take 4,v.oneCell'=true) :
  Calls prog 163 #[.slice (some ⟨b,off,none⟩) n c,.int .i64 i,.slice (some ⟨vb,voff,none⟩) 1 vc] w fun e w'=>e=.returned (.slice (some ⟨b,off,none⟩) (n+1) c)/\
   w'=(w.drew.setRow b (qAU arr.toList (off+(i+1)*4) ((arr.toList.drop (off+i*4)).take ((n-i)*4))).toArray).setRow b (qAU (qAU arr.toList (off+(i+1)*4) ((arr.toList.drop (off+i*4)).take ((n-i)*4))) (off+i*4) ((arv.toList.drop voff).take 4)).toArray:=by
 have tS:prog.underlying 36=some (.slice 107):=by kernel_rfl
 have mixed:prog.follows .mixedOrders=true:=by kernel_rfl
 have hz1:¬((i:Int)=(n:Int)):=by omega
 have hz3:¬((c:Int)<(n:Int)+1):=by omega
 have hw1:IntKind.i64.wrap ((n:Int)+1)=(n:Int)+1:=by rw[IntKind.wrap_i64];omega
 have hw2:IntKind.i64.wrap ((i:Int)+1)=(i:Int)+1:=by rw[IntKind.wrap_i64];omega
 have hov:∀x lb cb,(callFunc 224 #[.slice (some ⟨vb,voff,none⟩) 1 vc,.slice (some ⟨b,x,none⟩) lb cb]).run prog w=.ok (.value (.bool false)) w:=fun x lb cb=>by
  rw[run_callFunc_extern func224 (by kernel_rfl) (by kernel_rfl) (by kernel_rfl) (e:=Extern.SlicesOverlaps.overlaps #[36,36] #[4]) (by kernel_rfl),
   Lib.run_overlaps_apart w 36 4 107 tS 4 (fun w=>rfl) ⟨vb,voff,none⟩ ⟨b,x,none⟩ 1 vc lb cb hne elv el arv.size arr.size (by simp[World.shape?,hv]) (by simp[World.shape?,hb]) (by omega) (by simp[World.frozen?,hv]) (by simp[World.frozen?,hv])]
  rfl
 obtain⟨s36,d,z36,h36⟩:=qat
 obtain⟨ti,hti,hsz,hby,_⟩:=qYT
 have hb':w.drew.heap[b]?=some (.cells arr el (0,0)):=hb
 have hl1:((arr.toList.drop (off+i*4)).take ((n-i)*4)).length=(n-i)*4:=by simp;omega
 have hcp1:∀ty dc sc,(Builtin.copy_ #[36,36] ty #[.slice (some ⟨b,off+(i+1)*4,none⟩) (n-i) dc,.slice (some ⟨b,off+i*4,none⟩) (n+1-i) sc]).run prog w.drew =
   .ok (goInt (n-i:Nat)) (w.drew.setRow b (qAU arr.toList (off+(i+1)*4) ((arr.toList.drop (off+i*4)).take ((n-i)*4))).toArray):=fun ty dc sc =>
  qI7 T h36 hti hb' (by simp only[Nat.min_def];split<;>omega) (by rw[hsz];omega)
   (by rw[hsz];exact qKt (sz:=4) hb' (by omega)) (by rw[hsz];exact hl1) (fun v hv=>h1 v (by
    refine List.mem_of_mem_drop (i:=i*4) ?_
    rw[List.drop_take,List.drop_drop,show n*4-i*4=(n-i)*4 by omega]
    exact hv))
 obtain⟨X1,hX1⟩:∃X,X=qAU arr.toList (off+(i+1)*4) ((arr.toList.drop (off+i*4)).take ((n-i)*4)):=⟨_,rfl⟩
 rw[<-hX1]at hcp1⊢
 have hXl:X1.length=arr.size:=by rw[hX1,qDy _ _ _ (by rw[hl1];simp;omega)];simp
 have a:(w.drew.setRow b X1.toArray).heap[b]?=some (.cells X1.toArray el (0,0)):=setRow_heap _ b arr _ el (0,0) hb'
 have hv1:(w.drew.setRow b X1.toArray).heap[vb]?=some (.cells arv elv (0,0)):=(qCV _ b _ vb hne).trans hv
 have hcp2:∀ty dc,(Builtin.copy_ #[36,36] ty #[.slice (some ⟨b,off+i*4,none⟩) (n+1-i) dc,.slice (some ⟨vb,voff,none⟩) 1 vc]).run prog (w.drew.setRow b X1.toArray) =
   .ok (goInt (1:Nat)) ((w.drew.setRow b X1.toArray).setRow b (qAU X1 (off+i*4) ((arv.toList.drop voff).take 4)).toArray):=fun ty dc=>by
  have:=qI7 T h36 hti (ty:=ty) (o:=off+i*4) (k:=1) (dLen:=n+1-i) (dCap:=dc) (m:=1) (c2:=vc) (A2:=some ⟨vb,voff,none⟩) (new:=(arv.toList.drop voff).take 4) a (by simp only[Nat.min_def];split<;>omega) (by rw[hsz];simp[hXl];omega)
   (by rw[hsz];exact qKt (sz:=4) (k:=1) hv1 (by omega)) (by rw[hsz];simp;omega) h2
  simpa using this
 clear hX1
 have hi0:(0:Int)<=(i:Int)+1:=by omega
 have hin:i<=n:=by omega
 have hin1:(i:Int)<=(n:Int)+1:=by omega
 have hci:¬(c=i+1):=by omega
 have hci0:¬(c=i):=by omega
 go_enter func163,ntmps163
 go_wp2_with (simp only[hov])
 go_region_law_o (refine step_copy_runI rfl _ _ 36 36 rfl _ _ (by simp[Act.eval,Act.put]) (by simp[Act.eval,Act.put]) (hcp1 _ _ _) ?_)
 go_wp2_with (at_builtin;refine wpList_copy_runI _ rfl _ _ 36 36 rfl _ _ rfl rfl (hcp2 _ _) ?_)
 go_ret
 exact⟨rfl,rfl⟩
set_option maxHeartbeats 4000000 in
set_option maxRecDepth 1000000 in
theorem qXS {b off n c i vb voff vc:Nat} {w:World} {arr arv:Array Value} {el elv:TypeId} (hi:i<n) (hnc:n<=c) (hr:c<n+1) (hbig:2*(n+1)*40<=281474976710656) (hb:w.heap[b]?=some (.cells arr el (0,0))) (hs:off+c*4<=arr.size)
  (hv:w.heap[vb]?=some (.cells arv elv (0,0))) (hvs:voff+4<=arv.size) (h1:∀v∈(arr.toList.drop off).take (n*4),v.oneCell'=true) (h2:∀v∈(arv.toList.drop voff).take 4,v.oneCell'=true) :
  Calls prog 163 #[.slice (some ⟨b,off,none⟩) n c,.int .i64 i,.slice (some ⟨vb,voff,none⟩) 1 vc] w fun e w'=>∃(ROW:Array Value) (G:Nat),n+1<=G/\G<=9223372036854775807/\ROW.size=G*4/\ROW.toList.take (i*4)=(arr.toList.drop off).take (i*4)/\
   e=.returned (.slice (some ⟨w.heap.size,0,none⟩) (n+1) G)/\
   w'=((w.drew.alloc (.cells ROW 107)).setRow w.heap.size (qAU ROW.toList (i*4) ((arv.toList.drop voff).take 4)).toArray).drew.setRow w.heap.size (qAU (qAU ROW.toList (i*4) ((arv.toList.drop voff).take 4)) ((i+1)*4) ((arr.toList.drop (off+i*4)).take ((n-i)*4))).toArray:=by
 have tS:prog.underlying 36=some (.slice 107):=by kernel_rfl
 have tI:prog.underlying 3=some (.int .i64):=by kernel_rfl
 have mixed:prog.follows .mixedOrders=true:=by kernel_rfl
 have hz1:¬((i:Int)=(n:Int)):=by omega
 have hz3:(c:Int)<(n:Int)+1:=by omega
 have hw1:IntKind.i64.wrap ((n:Int)+1)=(n:Int)+1:=by rw[IntKind.wrap_i64];omega
 have hw2:IntKind.i64.wrap ((i:Int)+1)=(i:Int)+1:=by rw[IntKind.wrap_i64];omega
 have hw3:IntKind.i64.wrap ((n:Int)+1-(i:Int))=(n:Int)+1-(i:Int):=by rw[IntKind.wrap_i64];omega
 obtain⟨s36,f,z36,h36⟩:=qat
 obtain⟨ti,hti,hsz,hby,_⟩:=qYT
 obtain⟨inf,z,hinf,hiz,his,hib,hzc⟩:∃inf z,prog.info? 107=some inf/\inf.zero=some z/\inf.size=4/\inf.bytes=40/\z.cells.size=4:=⟨_,_,rfl,rfl,rfl,rfl,rfl⟩
 have hb':w.drew.heap[b]?=some (.cells arr el (0,0)):=hb
 have hblt:b<w.heap.size:=(Array.getElem?_eq_some_iff.1 hb).1
 have hvlt:vb<w.heap.size:=(Array.getElem?_eq_some_iff.1 hv).1
 obtain⟨G,hG⟩:∃G,G=grownCap w (n+1) c 107:=⟨_,rfl⟩
 obtain⟨ROW,hROW⟩:∃ROW:Array Value,ROW=((arr.toList.drop off).take (i*4)).toArray++Builtin.zeroCells z.cells (n+1-i)++Builtin.zeroCells z.cells (G-(n+1)):=⟨_,rfl⟩
 have hGn:n+1<=G:=by rw[hG];exact grownCap_ge w _ _ _
 have hG63:G<=9223372036854775807:=by
  have:=grownCap_le_maxLen w (n+1) c 107 (by unfold maxLen;omega)
  rw[<-hG]at this
  unfold maxLen at this
  omega
 have hRs:ROW.size=G*4:=by
  rw[hROW]
  simp[Builtin.zeroCells,hzc]
  omega
 have hRt:ROW.toList.take (i*4)=(arr.toList.drop off).take (i*4):=by
  rw[hROW,Array.toList_append,Array.toList_append,List.append_assoc,List.take_left']
  simp;omega
 have hrz:∀ty,(Builtin.append_ #[36,3] ty #[.slice (some ⟨b,off,none⟩) i c,.int .i64 ((n:Int)+1-(i:Int))]).run prog w=.ok (.slice (some ⟨w.heap.size,0,none⟩) (n+1) G) (w.drew.alloc (.cells ROW 107)):=fun ty=>by
  have h:=Lib.run_append_grow_zeros w 36 3 ty 107 inf z .i64 .i64 tS tI hinf hiz (some ⟨b,off,none⟩) i c ((arr.toList.drop off).take (i*4)) (by rw[his];exact qKt (sz:=4) (k:=i) (m:=i) (c:=c) (P:=prog) hb' (by omega) w.drew rfl) (n+1-i) (by omega) (by omega) (by omega) (by omega) (by rw[hib];omega)
   (by rw[hib,show i+(n+1-i)=n+1 by omega];have:=qQz hr;omega)
  rw[show i+(n+1-i)=n+1 by omega,<-hG,<-hROW,show ((n+1-i:Nat):Int)=(n:Int)+1-(i:Int) by omega]at h
  exact h
 clear hROW hG
 have hg1:(w.drew.alloc (.cells ROW 107)).heap[w.heap.size]?=some (.cells ROW 107 (0,0)):=heap_alloc_new w.drew _
 have hv1:(w.drew.alloc (.cells ROW 107)).heap[vb]?=some (.cells arv elv (0,0)):=(Lib.alloc_old w.drew _ vb hvlt).trans hv
 have a:(w.drew.alloc (.cells ROW 107)).heap[b]?=some (.cells arr el (0,0)):=(Lib.alloc_old w.drew _ b hblt).trans hb
 have hcpA:∀ty dc,(Builtin.copy_ #[36,36] ty #[.slice (some ⟨w.heap.size,i*4,none⟩) (n+1-i) dc,.slice (some ⟨vb,voff,none⟩) 1 vc]).run prog (w.drew.alloc (.cells ROW 107)) =
   .ok (goInt (1:Nat)) ((w.drew.alloc (.cells ROW 107)).setRow w.heap.size (qAU ROW.toList (i*4) ((arv.toList.drop voff).take 4)).toArray):=fun ty dc =>
  qI7 T h36 hti (ty:=ty) (o:=i*4) (k:=1) (dLen:=n+1-i) (dCap:=dc) (m:=1) (c2:=vc) (A2:=some ⟨vb,voff,none⟩) (new:=(arv.toList.drop voff).take 4) hg1 (by simp only[Nat.min_def];split<;>omega) (by rw[hsz];omega)
   (by rw[hsz];exact qKt (sz:=4) (k:=1) hv1 (by omega)) (by rw[hsz];simp;omega) h2
 obtain⟨X1,hX1⟩:∃X,X=qAU ROW.toList (i*4) ((arv.toList.drop voff).take 4):=⟨_,rfl⟩
 have hXl:X1.length=ROW.size:=by rw[hX1,qDy _ _ _ (by simp;omega)];simp
 have hfin:∀(e:Ending) (w':World),(e=.returned (.slice (some ⟨w.heap.size,0,none⟩) (n+1) G)/\
   w'=((w.drew.alloc (.cells ROW 107)).setRow w.heap.size X1.toArray).drew.setRow w.heap.size (qAU X1 ((i+1)*4) ((arr.toList.drop (off+i*4)).take ((n-i)*4))).toArray)->∃(ROW:Array Value) (G:Nat),n+1<=G/\G<=9223372036854775807/\ROW.size=G*4/\ROW.toList.take (i*4)=(arr.toList.drop off).take (i*4)/\
   e=.returned (.slice (some ⟨w.heap.size,0,none⟩) (n+1) G)/\
   w'=((w.drew.alloc (.cells ROW 107)).setRow w.heap.size (qAU ROW.toList (i*4) ((arv.toList.drop voff).take 4)).toArray).drew.setRow w.heap.size (qAU (qAU ROW.toList (i*4) ((arv.toList.drop voff).take 4)) ((i+1)*4) ((arr.toList.drop (off+i*4)).take ((n-i)*4))).toArray :=
  fun e w' h=>⟨ROW,G,hGn,hG63,hRs,hRt,h.1,by rw[<-hX1];exact h.2⟩
 rw[<-hX1]at hcpA
 clear hX1
 have d:((w.drew.alloc (.cells ROW 107)).setRow w.heap.size X1.toArray).drew.heap[b]?=some (.cells arr el (0,0)):=(qCV _ _ _ b (by omega)).trans a
 have hg2:((w.drew.alloc (.cells ROW 107)).setRow w.heap.size X1.toArray).drew.heap[w.heap.size]?=some (.cells X1.toArray 107 (0,0)):=setRow_heap _ _ ROW _ 107 (0,0) hg1
 have hcpB:∀ty dc sc,(Builtin.copy_ #[36,36] ty #[.slice (some ⟨w.heap.size,(i+1)*4,none⟩) (n-i) dc,.slice (some ⟨b,off+i*4,none⟩) (n-i) sc]).run prog ((w.drew.alloc (.cells ROW 107)).setRow w.heap.size X1.toArray).drew =
   .ok (goInt (n-i:Nat)) (((w.drew.alloc (.cells ROW 107)).setRow w.heap.size X1.toArray).drew.setRow w.heap.size (qAU X1 ((i+1)*4) ((arr.toList.drop (off+i*4)).take ((n-i)*4))).toArray):=fun ty dc sc =>
  qI7 T h36 hti (ty:=ty) (o:=(i+1)*4) (k:=n-i) (dLen:=n-i) (dCap:=dc) (m:=n-i) (c2:=sc) (A2:=some ⟨b,off+i*4,none⟩) (new:=(arr.toList.drop (off+i*4)).take ((n-i)*4)) hg2 (Nat.min_self _) (by rw[hsz];simp[hXl,hRs];omega)
   (by rw[hsz];exact qKt (sz:=4) d (by omega)) (by rw[hsz];simp;omega) (fun v hv=>h1 v (by
    refine List.mem_of_mem_drop (i:=i*4) ?_
    rw[List.drop_take,List.drop_drop,show n*4-i*4=(n-i)*4 by omega]
    exact hv))
 have hcpB':∀ty dc sc,(Builtin.copy_ #[36,36] ty #[.slice (some ⟨w.heap.size,(i+1)*4,none⟩) (n-i) dc,.slice (some ⟨b,off+i*4,none⟩) (n-i) sc]).run prog ((w.alloc (.cells ROW 107)).drew.setRow w.heap.size X1.toArray).drew =
   .ok (goInt (n-i:Nat)) (((w.alloc (.cells ROW 107)).drew.setRow w.heap.size X1.toArray).drew.setRow w.heap.size (qAU X1 ((i+1)*4) ((arr.toList.drop (off+i*4)).take ((n-i)*4))).toArray):=hcpB
 clear hcpB
 have hi0:(0:Int)<=(i:Int)+1:=by omega
 have hin:i<=n:=by omega
 have hin1:(i:Int)<=(n:Int)+1:=by omega
 have hci:¬(c=i+1)\/True:=.inr trivial
 have hci0:¬(c=i):=by omega
 have hGi:¬(G=i):=by omega
 have hGi1:¬(G=i+1):=by omega
 have hic:i<=c:=by omega
 refine Calls.mono ?_ hfin
 go_enter func163,ntmps163
 go_wp2_with (first
  | (at_builtin;refine Lib.wpList_append_run _ rfl _ _ _ _ rfl _ _ rfl rfl _ _ (hrz _) ?_)
  | (refine wpList_copy_runI _ rfl _ _ 36 36 rfl _ _ rfl rfl (hcpA _ _) ?_))
 go_region_law_o (refine step_copy_runI rfl _ _ 36 36 rfl _ _ (by simp[Act.eval,Act.put]) (by simp[Act.eval,Act.put]) (hcpB' _ _ _) ?_)
 go_wp2
 all_goals (go_ret;exact⟨rfl,rfl⟩)
set_option maxHeartbeats 1000000 in
theorem qbB:qXz prog 163 4 40:=by
 intro w a n c i vb voff vc arv elv old fp hs hv hvo hv1 hvm hi hbig ho hn1
 have hvs:voff+4<=arv.size:=by omega
 have hnl:((arv.toList.drop voff).take 4).length=4:=by simp;omega
 obtain⟨s36,g,z36,h36⟩:=qat
 obtain⟨ti,hti,hsz,hby,z,hz,hzc⟩:=qYT
 have tS:prog.underlying 36=some (.slice 107):=by kernel_rfl
 have hdx:∀k,TypeDesc.slice 107≠.int k:=fun k h=>by cases h
 have hnew:=qKt (P:=prog) (k:=1) (m:=1) (sz:=4) (c:=vc) hv (by omega)
 rw[Nat.one_mul]at hnew
 have grow:∀(A:Option Addr) (n c:Nat) (old:List Value),c<n+1->2*(n+1)*40<=281474976710656->qLb prog w.heap 4 n (.slice A n c) old->old.length=n*4->
   Calls prog 163 #[.slice A n c,.int .i64 n,.slice (some ⟨vb,voff,none⟩) 1 vc] w fun e w'=>∃b' o' c' arr' el',e=.returned (.slice (some ⟨b',o',none⟩) (n+1) c')/\Chg fp w w'/\(b'∈fp\/w.heap.size<=b')/\b'<w'.heap.size/\
    w'.heap[b']?=some (.cells arr' el' (0,0))/\n+1<=c'/\c'<=qDF/\o'+c'*4<=arr'.size/\(arr'.toList.drop o').take ((n+1)*4)=old.take (n*4)++(arv.toList.drop voff).take 4++old.drop (n*4):=by
  intro A n c old hr hbig hold hol
  obtain⟨G,q1,q2,q3⟩:=AM.run_append_grow T (ty:=36) h36 hti tS hdx (w:=w) (A:=A) (A2:=some ⟨vb,voff,none⟩) (n:=n) (m:=1) (cap:=c) (c2:=vc) (zv:=z) (old:=old) (new:=(arv.toList.drop voff).take 4) hz hr (by unfold qDF;omega) (by rw[hby];omega) (by rw[hsz];exact hold) (by rw[hsz];exact hnew)
  have hq:∀ty,(Builtin.append_ #[36,36] ty #[.slice A n c,.slice (some ⟨vb,voff,none⟩) 1 vc]).run prog w=.ok (.slice (some ⟨w.heap.size,0,none⟩) (n+1) G) (w.drew.alloc (.cells (old.toArray++((arv.toList.drop voff).take 4).toArray++Builtin.zeroCells z.cells (G-(n+1))) 107)):=fun ty=>q3
  refine(qUj (by omega) hq).mono ?_
  rintro e w' ⟨rfl,rfl⟩
  have hs2:(old.toArray++((arv.toList.drop voff).take 4).toArray++Builtin.zeroCells z.cells (G-(n+1))).size=G*4:=by
   simp[Builtin.zeroCells,hzc,hol]
   omega
  refine⟨w.heap.size,0,G,_,_,rfl,qNt _ _ _,.inr (Nat.le_refl _),?_,heap_alloc_new w.drew _,q1,q2,by rw[hs2];omega,?_⟩
  ·show w.heap.size<(w.heap.push _).size
   simp
  ·rw[List.drop_zero,Array.toList_append,Array.toList_append,List.take_of_length_le (Nat.le_of_eq hol),List.drop_of_length_le (Nat.le_of_eq hol),List.append_nil]
   exact List.take_left' (by simp[hol];omega)
 by_cases hin:i=n
 ·subst hin
  rcases hs with⟨rfl,rfl,rfl,rfl⟩|⟨b,off,arr,el,rfl,hb,hnc,hcm,hoff,hne,rfl,rfl⟩
  ·exact grow a 0 0 [] (by omega) hbig qHV rfl
  ·have hol:((arr.toList.drop off).take (i*4)).length=i*4:=by simp;omega
   by_cases hr:i+1<=c
   ·have hq:∀ty,(Builtin.append_ #[36,36] ty #[.slice (some ⟨b,off,none⟩) i c,.slice (some ⟨vb,voff,none⟩) 1 vc]).run prog w=.ok (.slice (some ⟨b,off,none⟩) (i+1) c) (w.setRow b (qAU arr.toList (off+i*4) ((arv.toList.drop voff).take 4)).toArray):=fun ty=>by
     have:=AM.run_append_fit T (ty:=ty) h36 hti tS hdx (w:=w) (bk:=b) (off:=off) (n:=i) (m:=1) (cap:=c) (c2:=vc) (A2:=some ⟨vb,voff,none⟩) (new:=(arv.toList.drop voff).take 4) hb hr (by rw[hsz];omega) (by rw[hsz];exact hnew) (by rw[hsz];omega) hn1
     rw[hsz]at this
     exact this
    refine(qUj (by unfold qDF at hcm;omega) hq).mono ?_
    rintro e w' ⟨rfl,rfl⟩
    have hsl:(qAU arr.toList (off+i*4) ((arv.toList.drop voff).take 4)).toArray.size=arr.size:=by
     rw[List.size_toArray,qDy _ _ _ (by rw[hnl];simp;omega)];simp
    refine⟨b,off,c,_,el,rfl,qJQ w b arr _ el (0,0) hb hsl,.inl (by simp),?_,setRow_heap _ _ arr _ el (0,0) hb,hr,hcm,by rw[hsl];exact hoff,?_⟩
    ·rw[qFM];exact(Array.getElem?_eq_some_iff.1 hb).1
    ·have:=qM0 arr.toList ((arv.toList.drop voff).take 4) off (i*4) (by simp;omega)
     rw[hnl,show i*4+4=(i+1)*4 by omega]at this
     rw[this,List.take_of_length_le (Nat.le_of_eq hol),List.drop_of_length_le (Nat.le_of_eq hol),List.append_nil]
   ·exact grow (some ⟨b,off,none⟩) i c _ (by omega) hbig (qKt (sz:=4) hb (by omega)) hol
 ·rcases hs with⟨rfl,_⟩|⟨b,off,arr,el,rfl,hb,hnc,hcm,hoff,hne,rfl,rfl⟩
  ·omega
  ·have hlt:i<n:=by omega
   have htl:((arr.toList.drop (off+i*4)).take ((n-i)*4))=((arr.toList.drop off).take (n*4)).drop (i*4):=by
    rw[List.drop_take,List.drop_drop,show n*4-i*4=(n-i)*4 by omega]
   have htn:((arr.toList.drop (off+i*4)).take ((n-i)*4)).length=(n-i)*4:=by simp;omega
   have htk:((arr.toList.drop off).take (n*4)).take (i*4)=(arr.toList.drop off).take (i*4):=by rw[List.take_take,Nat.min_eq_left (by omega)]
   have hblt:=(Array.getElem?_eq_some_iff.1 hb).1
   by_cases hr:n+1<=c
   ·refine(qV8 hlt hr (by unfold qDF at hcm;exact hcm) hb hoff hv hvs (fun e=>hne e.symm) ho hn1).mono ?_
    rintro e w' ⟨rfl,rfl⟩
    have d:w.drew.heap[b]?=some (.cells arr el (0,0)):=hb
    have hX1:(qAU arr.toList (off+(i+1)*4) ((arr.toList.drop (off+i*4)).take ((n-i)*4))).toArray.size=arr.size:=by
     rw[List.size_toArray,qDy _ _ _ (by rw[htn];simp;omega)];simp
    have f:=setRow_heap w.drew b arr (qAU arr.toList (off+(i+1)*4) ((arr.toList.drop (off+i*4)).take ((n-i)*4))).toArray el (0,0) d
    have hX2:(qAU (qAU arr.toList (off+(i+1)*4) ((arr.toList.drop (off+i*4)).take ((n-i)*4))) (off+i*4) ((arv.toList.drop voff).take 4)).toArray.size=arr.size:=by
     rw[List.size_toArray,qDy _ _ _ (by rw[hnl,<-List.size_toArray,hX1];omega),<-List.size_toArray,hX1]
    refine⟨b,off,c,_,el,rfl,(qJ3 [b] w).trans ((qJQ w.drew b arr _ el (0,0) d hX1).trans (qJQ _ b _ _ el (0,0) f (hX2.trans hX1.symm)) fun x hx=>.inl hx) fun x hx=>.inl hx,.inl (by simp),?_,setRow_heap _ _ _ _ el (0,0) f,hr,hcm,by rw[hX2];exact hoff,?_⟩
    ·rw[qFM,qFM];exact hblt
    ·have:=qUD arr.toList ((arv.toList.drop voff).take 4) ((arr.toList.drop (off+i*4)).take ((n-i)*4)) off (i*4) (by rw[hnl,htn];simp;omega)
     rw[hnl,htn,show off+i*4+4=off+(i+1)*4 by omega,show i*4+4+(n-i)*4=(n+1)*4 by omega]at this
     rw[this,htk,htl]
   ·refine(qXS hlt hnc (by omega) hbig hb hoff hv hvs ho hn1).mono ?_
    rintro e w' ⟨ROW,G,q1,q2,q3,q4,rfl,rfl⟩
    have hg1:(w.drew.alloc (.cells ROW 107)).heap[w.heap.size]?=some (.cells ROW 107 (0,0)):=heap_alloc_new w.drew _
    have hX1:(qAU ROW.toList (i*4) ((arv.toList.drop voff).take 4)).toArray.size=ROW.size:=by
     rw[List.size_toArray,qDy _ _ _ (by rw[hnl];simp;omega)];simp
    have hg2:((w.drew.alloc (.cells ROW 107)).setRow w.heap.size (qAU ROW.toList (i*4) ((arv.toList.drop voff).take 4)).toArray).drew.heap[w.heap.size]?=some (.cells (qAU ROW.toList (i*4) ((arv.toList.drop voff).take 4)).toArray 107 (0,0)):=setRow_heap _ _ ROW _ 107 (0,0) hg1
    have hX2:(qAU (qAU ROW.toList (i*4) ((arv.toList.drop voff).take 4)) ((i+1)*4) ((arr.toList.drop (off+i*4)).take ((n-i)*4))).toArray.size=ROW.size:=by
     rw[List.size_toArray,qDy _ _ _ (by rw[htn,<-List.size_toArray,hX1];omega),<-List.size_toArray,hX1]
    have hsz0:(w.drew.alloc (.cells ROW 107)).heap.size=w.heap.size+1:=by
     show (w.heap.push _).size=_
     simp
    refine⟨w.heap.size,0,G,_,107,rfl,((qNt [b] w _).trans ((qJQ _ _ ROW _ 107 (0,0) hg1 hX1).trans ((qJ3 [w.heap.size] _).trans (qJQ _ _ _ _ 107 (0,0) hg2 (hX2.trans hX1.symm)) fun x hx=>.inl hx) fun x hx=>.inl hx) fun x hx=>.inr (by simp at hx;omega)),.inr (Nat.le_refl _),?_,setRow_heap _ _ _ _ 107 (0,0) hg2,q1,by unfold qDF;exact q2,by rw[hX2];omega,?_⟩
    ·rw[qFM]
     show w.heap.size<((w.drew.alloc (.cells ROW 107)).setRow _ _).heap.size
     rw[qFM,hsz0]
     omega
    ·have h1:=qM0 (qAU ROW.toList (i*4) ((arv.toList.drop voff).take 4)) ((arr.toList.drop (off+i*4)).take ((n-i)*4)) 0 ((i+1)*4) (by rw[<-List.size_toArray,hX1];omega)
     have h2:=qM0 ROW.toList ((arv.toList.drop voff).take 4) 0 (i*4) (by simp;omega)
     rw[htn,Nat.zero_add,List.drop_zero,List.drop_zero,show (i+1)*4+(n-i)*4=(n+1)*4 by omega]at h1
     rw[hnl,Nat.zero_add,List.drop_zero,List.drop_zero,show i*4+4=(i+1)*4 by omega,q4]at h2
     rw[List.drop_zero]
     rw[h2]at h1
     rw[h1,htk,htl]
end
def qEC (x:List Element) (i:Int) (v:List Element):Option (List Element):=(qAl (decide (0<=i)&&decide (i<=(x.length:Int))&&decide (v.length=1)&&qAg 40 (x.length+1))).bind fun _=>some (x.take i.toNat++v++x.drop i.toNat)
theorem qKV (x:List Element) (i:Int) (v:List Element) (r:List Element) (J:qEC x i v=some r):qGM prog 163 [.w 4 (x.map ze5),.v (.int .i64 i),.w 4 (v.map ze5)] [.u,.u,.u] (.w 4 (r.map ze5)):=by
 obtain⟨u,hu,hr⟩:=zB J
 cases zS hr
 exact qWu ⟨_,func163,rfl,by decide⟩ qbB (fun _=>rfl) (fun _=>rfl) x i v (qAJ hu)
def qGo (a8:Nat) (c:Code) (elements:List Element):Option (Code×Bool) :=
 (qDd c.ar).bind fun a =>
 (qBE a8 (Code.mk elements a c.aq c.av c.au c.ay)).bind fun b =>
 cond (!b)
  (some ((Code.mk [] [] 0 0 0 0),false))
  (some ((Code.mk elements a c.aq c.av c.au c.ay),true))
theorem qMq (a8:Nat) (c:Code) (elements:List Element) (r:(Code×Bool)) (J:qGo a8 c elements=some r):qGM prog 162 [.g (ze4 c),.w 4 (elements.map ze5)] [.u,.u] (.t [.g (qPP r.1),.v (.bool r.2)]):=by
 refine qJs T func162 rfl (by decide) rfl rfl ?_
 intro L
 show AW _ _ _ (⟨[(0,.g (ze4 c)),(1,.R 1)],[(1,ro 4 ze5 elements)],17,[(1,L 1)]⟩:St)
 refine go ?_
 refine AO.x (bxs T 2) ?_
 refine AO.x (als T 3) (go ?_)
 refine AO.se T [.R 1,sv ze0 c.ar,c.aq,c.av,c.au,c.ay] ?_
 refine go ?_
 obtain⟨d,a,J⟩:=zB J
 refine go ?_
 refine AO.x (qAO rfl 4 rfl rfl rfl (qIs _ _ (a)) rfl rfl rfl) ?_
 refine AO.pu T ?_
 refine AO.se T [.R 1,.R 4,c.aq,c.av,c.au,c.ay] ?_
 refine go ?_
 obtain⟨e,b,J⟩:=zB J
 refine go ?_
 refine AO.w (zLV rfl rfl rfl (es:=[.g (ze4 (Code.mk elements d c.aq c.av c.au c.ay))]) ⟨qIK (LendL.cons ((.rowR rfl (.map fun y=>.vs rfl))) (LendL.cons ((.rowR rfl (.map fun y=>.vs rfl))) (LendL.cons (.free rfl) (LendL.cons (.free rfl) (LendL.cons (.free rfl) (LendL.cons (.free rfl) LendL.nil)))))),trivial⟩ (qFP a8 _ _ (b)) (qAj _) rfl) (go ?_)
 refine AW.cH J (fun _ J=>?_) (fun _ J=>?_)
 refine go ?_
 refine AO.se T [.w 0 [],.w 0 [],(0:Int),(0:Int),(0:Int),(0:Int)] ?_
 refine go ?_
 have hR:=zS J;subst hR
 exact⟨trivial,rfl,_,[],[],rfl,zG (.c .u) (zG (.c .u) (zGn)),.t (zG (.g (zC .nil (zC .nil (zC .v (zC .v (zC .v (zC .v (zCn)))))))) (zG (.c .v) (zGn))),by decide⟩
 refine go ?_
 refine AO.se T [.R 1,.R 4,c.aq,c.av,c.au,c.ay] ?_
 refine go ?_
 have hR:=zS J;subst hR
 exact⟨trivial,rfl,_,[1,4],[],rfl,zG (.c .u) (zG (.c .u) (zGn)),.t (zG (.g (zC (.rowR rfl) (zC (.rowR rfl) (zC .v (zC .v (zC .v (zC .v (zCn)))))))) (zG (.c .v) (zGn))),by decide⟩
def qB7 (c:Code) (x:Element):Nat->Int->Option Int
 |0,_=>none
 |b+1,a =>
  (opt (decide (a<(c.ad.length:Int))) default (qAV c.ad a)).bind fun d =>
  cond (decide (a<(c.ad.length:Int))&&(qNe d.aC x.aC))
   (qB7 c x b (w64 (a+1)))
   (some a)
def qFY (a8:Nat) (c:Code) (x:Element):Option (Code×Bool) :=
 (qBE a8 c).bind fun e =>
 cond (!e)
  (some ((Code.mk [] [] 0 0 0 0),false))
  ((qB7 c x a8 0).bind fun b =>
  (qAl (qAg 40 c.ad.length)).bind fun f =>
  (qEC c.ad b [x]).bind fun d =>
  (qGo a8 c d).bind fun a =>
  some (a.1,a.2))
theorem qNg (a8:Nat) (c:Code) (x:Element) (r:(Code×Bool)) (J:qFY a8 c x=some r):qAC prog 117 [.g (ze4 c),.g (ze5 x)] (.t [.g (qPP r.1),.v (.bool r.2)]):=by
 refine fns T func117 ?_
 refine AW.q (AW.r (AO.x (bxs T 1) ?_))
 refine AO.x (bxs T 2) ?_
 refine AO.x (als T 3) ?_
 refine AO.pu T ?_
 refine AO.n (AW.q (AW.q ?_))
 obtain⟨H,C,J⟩:=zB J
 refine AW.r (AO.pu T (d:=.g (ze4 c)) ?_)
 refine AO.w (cVs (qFP a8 _ _ (C))) ?_
 refine AO.pu T ?_
 refine AO.n (AW.c (b:=(!H)) rfl (fun hc=>?_) (fun hc=>?_))
 replace J:=condT hc J
 refine AW.q (AW.r (AO.pu T (d:=.g [.w 0 [],.w 0 [],(0:Int),(0:Int),(0:Int),(0:Int)]) ?_))
 refine AO.se T [.w 0 [],.w 0 [],(0:Int),(0:Int),(0:Int),(0:Int)] ?_
 refine AO.pu T ?_
 refine AO.n (AW.t ?_)
 have hR:=zS J;subst hR
 exact retQ.i [] rfl (.t (zG (.g (zC .nil (zC .nil (zC .v (zC .v (zC .v (zC .v (zCn)))))))) (zG (.c .v) (zGn))))
 replace J:=condF hc J
 refine AW.k (AW.q (AW.r ?_))
 refine AO.pu T ?_
 refine AO.n ?_
 obtain⟨j,J,o⟩:=zB J
 refine AW.seqJ (fun s:Int=>(⟨[(2,.p 1 0),(3,.p 2 0),(4,.p 3 0),(6,s)],[(1,.box (ze4 c)),(2,.box (ze5 x)),(3,.box [.w 0 [],.w 0 [],(0:Int),(0:Int),(0:Int),(0:Int)])],41,[]⟩:St)) (fun s=>s=j) ?_ ?_
 refine AW.b (AW.loopS (fun s:Nat×Int=>(⟨[(2,.p 1 0),(3,.p 2 0),(4,.p 3 0),(6,s.2)],[(1,.box (ze4 c)),(2,.box (ze5 x)),(3,.box [.w 0 [],.w 0 [],(0:Int),(0:Int),(0:Int),(0:Int)])],41,[]⟩:St)) (fun s=>qB7 c x s.1 s.2=some j) (fun s=>s.1) (a8,0) J ?_ ?_)
 exact Le.ct 0 0
 rintro⟨e,m⟩ J
 replace J:qB7 c x e m=some j:=J
 try dsimp only
 rcases e with _|e
 cases (show none=some _ from J)
 rw[qB7]at J
 refine AW.q (AW.q ?_)
 obtain⟨E,y,J⟩:=zB J
 refine AW.drawn 14 4 [] mix (by kernel_rfl) rfl ?_
 iterate 3 refine AD.pu T ?_
 refine AD.vv (qMc T) ?_
 iterate 2 refine AD.pu T ?_
 refine AD.pureG T [] rfl trivial rfl rfl ?_
 refine AD.pureG T [17] rfl ⟨fun h=>h,trivial⟩ rfl rfl ?_
 refine AD.pureG T [] rfl trivial rfl rfl ?_
 refine AD.guard [18,19] rfl ⟨fun h=>h,fun h=>h,trivial⟩ (fun hg=>zX T rfl rfl rfl rfl rfl (qD7 y hg) rfl) rfl ?_
 refine AD.pureG T [20] rfl ⟨fun h=>h,trivial⟩ rfl rfl ?_
 refine AD.pureG T [21] rfl ⟨fun h=>h,trivial⟩ rfl rfl ?_
 refine AD.pureG T [] rfl trivial rfl rfl ?_
 refine AD.pureG T [23] rfl ⟨fun h=>h,trivial⟩ rfl rfl ?_
 refine AD.nil (AO.g T [22,24] rfl ⟨fun h=>h,fun h=>h,trivial⟩ rfl rfl ?_)
 refine AO.w qaa ?_
 refine AO.n (AW.c (b:=(decide (m<(c.ad.length:Int))&&(qNe E.aC x.aC))) rfl (fun hc=>?_) (fun hc=>?_))
 replace J:=condT hc J
 refine AW.k (AW.b ?_)
 refine AW.r (AO.pu T ?_)
 refine AO.w aws ?_
 refine AO.pu T ?_
 refine AO.n ?_
 refine⟨(e,w64 (m+1)),J,Nat.lt_succ_self _,?_⟩
 exact Le.ct 0 0
 replace J:=condF hc J
 refine AW.exit ?_
 refine⟨_,zS J,?_⟩
 exact Le.ct 0 0
 rintro F hs
 subst hs
 replace J:=o
 try dsimp only[qKL,qIN]at J
 try dsimp only
 refine AW.q ?_
 obtain⟨I,z,J⟩:=zB J
 obtain⟨G,A,J⟩:=zB J
 obtain⟨a,B,J⟩:=zB J
 refine AW.drawn 12 4 [] mix (by kernel_rfl) rfl ?_
 refine AD.p T (d:=.g (ze4 c)) rfl rfl rfl ?_
 refine AD.v (FStep.mk0 T rfl rfl rfl rfl rfl) ?_
 iterate 2 refine AD.pu T ?_
 refine AD.q (FStep.app_ws T rfl rfl rfl rfl rfl rfl rfl (by decide) (by decide) rfl rfl (fun _=>rfl) (qAJ (z)) rfl) (by simp[qA1]) (Nat.le_succ _) rfl ?_
 refine AD.pu T ?_
 refine AD.p T (d:=.g (ze5 x)) rfl rfl rfl ?_
 refine AD.q (FStep.mk T (f:=ze5) (l:=[x]) rfl rfl rfl rfl rfl rfl rfl rfl rfl (fun _=>rfl) rfl rfl rfl rfl) (by simp[qA1]) (Nat.le_succ _) rfl ?_
 refine AD.kk (FStep.callM rfl rfl rfl rfl (es:=[.w 4 (c.ad.map ze5),.v (.int .i64 F),.w 4 ([x].map ze5)]) (outs:=[.u,.u,.u]) (ids:=[4,5]) (by exact zG (.c (.rowR rfl)) (zG (.c .v) (zG (.c (.rowR rfl)) (zGn)))) (by decide) (.inr (by exact(show ([]:List Nat).Nodup/\∀i∈([]:List Nat),i∈([4,5]:List Nat) from by decide))) (by rfl) (qKV _ _ _ _ (A)) rfl (by rfl) rfl) ?_
 refine AD.kk (FStep.callM rfl rfl rfl rfl (es:=[.g (ze4 c),.w 4 (G.map ze5)]) (outs:=[.u,.u]) (ids:=[6]) (by exact zG (.g (zC .s (zC .s (zC .v (zC .v (zC .v (zC .v (zCn)))))))) (zG (.c (.rowR rfl)) (zGn))) (by decide) (.inr (by exact(show ([]:List Nat).Nodup/\∀i∈([]:List Nat),i∈([6]:List Nat) from by decide))) (by rfl) (qMq a8 _ _ _ (B)) rfl (by rfl) rfl) ?_
 refine AD.p T (d:=.g [.R 7,.R 8,a.1.aq,a.1.av,a.1.au,a.1.ay]) rfl rfl rfl ?_
 refine AD.pu T ?_
 refine AD.nil (AO.se T [.R 7,.R 8,a.1.aq,a.1.av,a.1.au,a.1.ay] ?_)
 refine AO.pu T ?_
 refine AO.n (AW.t ?_)
 have hR:=zS J;subst hR
 exact retQ.i [7,8] rfl (.t (zG (.g (zC (.rowR rfl) (zC (.rowR rfl) (zC .v (zC .v (zC .v (zC .v (zCn)))))))) (zG (.c .v) (zGn))))
def qAw (ok:Bool):Option bD :=
 cond ok
  (some (bz [111,107]))
  (some (bz [110,111]))
theorem qCL (ok:Bool) (r:bD) (J:qAw ok=some r):qAC prog 161 [.v (.bool ok)] (.v (.string r)):=by
 refine fns T func161 ?_
 refine go ?_
 refine Cf J fun _ J=>?_
 refine go ?_
 exact fin
def qAc (sA:ScriptState) (c:Code) (ok:Bool):Option (ScriptState×bD) :=
 cond ok
  ((qAw ok).bind fun a =>
  some ((ScriptState.mk c sA.aa sA.am sA.ak),a))
  ((qAw ok).bind fun b =>
  some (sA,b))
theorem qEW (sA:ScriptState) (c:Code) (ok:Bool) (r:(ScriptState×bD)) (J:qAc sA c ok=some r):qGM prog 116 [.pw (qKE sA),.g (ze4 c),.v (.bool ok)] [.pw (qKE r.1),.u,.u] (.v (.string r.2)):=by
 refine qJs T func116 rfl (by decide) rfl rfl ?_
 intro L
 show AW _ _ _ (⟨[(0,.p 1 0),(1,.g (ze4 c)),(2,.v (.bool ok))],[(1,.box (qKE sA))],14,[(1,L 1)]⟩:St)
 refine go ?_
 refine AO.x (bxs T 2) (go ?_)
 refine AW.cH J (fun _ J=>?_) (fun _ J=>?_)
 refine go ?_
 refine AO.se T [sv ze5 c.ad,sv ze0 c.ar,c.aq,c.av,c.au,c.ay,sv ze2 sA.aa.ai,sv ze3 sA.aa.ae.ah,sv ze3 sA.aa.ae.ac,sA.aa.af.falls,sA.aa.af.an,sA.aa.af.aw,sA.am,sv ze6 sA.ak] ?_
 refine go ?_
 obtain⟨d,a,J⟩:=zB J
 refine go ?_
 refine AO.w (cVs (qCL _ _ (a))) (go ?_)
 exact qDO
 refine go ?_
 obtain⟨e,b,J⟩:=zB J
 refine go ?_
 refine AO.w (cVs (qCL _ _ (b))) (go ?_)
 exact qDO
def qAb (a8:Nat) (sA:ScriptState) (command:bD) (l:bE):Option (ScriptState×bD) :=
 (qAl (qAg 40 sA.ag.ad.length)).bind fun o =>
 (qGo a8 sA.ag sA.ag.ad).bind fun a =>
 cond (decide (command=(bz [114,117,108,101,115])))
  ((qAV l 0).bind fun h =>
  (qAV l 1).bind fun i =>
  (qAV l 2).bind fun c =>
  (qAV l 3).bind fun d =>
  (qBE a8 (Code.mk a.1.ad a.1.ar h i c d)).bind fun j =>
  (qAc sA (Code.mk a.1.ad a.1.ar h i c d) j).bind fun e =>
  some (e.1,e.2))
  ((qAV l 0).bind fun b =>
  (qFi b).bind fun k =>
  cond (!k)
   (some (sA,(bz [110,111])))
   ((qAV l 1).bind fun f =>
   (qAV a.1.ar b).bind fun n =>
   (qBE a8 (Code.mk a.1.ad (a.1.ar.set b.toNat f) a.1.aq a.1.av a.1.au a.1.ay)).bind fun m =>
   (qAc sA (Code.mk a.1.ad (a.1.ar.set b.toNat f) a.1.aq a.1.av a.1.au a.1.ay) m).bind fun g =>
   some (g.1,g.2)))
theorem qHY (a8:Nat) (sA:ScriptState) (command:bD) (l:bE) (r:(ScriptState×bD)) (J:qAb a8 sA command l=some r):qGM prog 118 [.pw (qKE sA),.v (.string command),.s (List.map ze0 l)] [.pw (qKE r.1),.u,.u] (.v (.string r.2)):=by
 refine qJs T func118 rfl (by decide) rfl rfl ?_
 intro L
 show AW _ _ _ (⟨[(0,.p 1 0),(1,.v (.string command)),(2,sv ze0 l)],[(1,.box (qKE sA))],66,[(1,L 1)]⟩:St)
 refine go ?_
 obtain⟨V,o,a,t,J⟩:=qAE J
 refine AW.drawn 17 2 [] mix (by kernel_rfl) rfl ?_
 refine go ?_
 refine AD.v (FStep.mk0 T rfl rfl rfl rfl rfl) ?_
 refine go ?_
 refine AD.q (FStep.app_ws T rfl rfl rfl rfl rfl rfl rfl (by decide) (by decide) rfl rfl (fun _=>rfl) (qAJ (o)) rfl) (by simp[qA1]) (Nat.le_succ _) rfl ?_
 refine AD.kk (FStep.callM rfl rfl rfl rfl (es:=[.g (ze4 sA.ag),.w 4 (sA.ag.ad.map ze5)]) (outs:=[.u,.u]) (ids:=[2]) (by exact zG (.g (zC .s (zC .s (zC .v (zC .v (zC .v (zC .v (zCn)))))))) (zG (.c (.rowR rfl)) (zGn))) (by decide) (.inr (by exact(show ([]:List Nat).Nodup/\∀i∈([]:List Nat),i∈([2]:List Nat) from by decide))) (by rfl) (qMq a8 _ _ _ (t)) rfl (by rfl) rfl) ?_
 refine go ?_
 refine AD.q (FStep.alloc T rfl rfl rfl rfl rfl rfl) (by simp[qA1]) (Nat.le_succ _) rfl ?_
 refine AD.kk (FStep.store_p T rfl rfl rfl rfl rfl rfl rfl rfl rfl rfl rfl) ?_
 refine go ?_
 refine AW.cH J (fun _ J=>?_) (fun _ J=>?_)
 refine AW.q ?_
 obtain⟨z,I,A,K,b,E,J⟩:=qAq J
 obtain⟨d,F,J⟩:=zB J
 refine AW.drawn 18 6 [5] mix (by kernel_rfl) rfl ?_
 refine go ?_
 refine AD.kk (FStep.store_p T rfl rfl rfl rfl rfl rfl rfl rfl rfl rfl rfl) ?_
 refine AD.pu T ?_
 refine AD.kk (FStep.store_p T rfl rfl rfl rfl rfl rfl rfl rfl rfl rfl rfl) ?_
 refine AD.pu T ?_
 refine AD.kk (FStep.store_p T rfl rfl rfl rfl rfl rfl rfl rfl rfl rfl rfl) ?_
 refine go ?_
 refine AO.se T [.R 3,.R 4,z,A,b,d] ?_
 refine AO.n (AW.le (Le.ct 0 0 (σ':=(⟨[(0,.p 1 0),(7,.p 5 0)],[(1,.box (qKE sA)),(3,ro 4 ze5 a.1.ad),(4,ro 1 ze0 a.1.ar),(5,.box [.R 3,.R 4,z,A,b,d])],66,[(1,L 1)]⟩:St)) (hpin:=⟨⟨rfl,rfl⟩,trivial⟩)) ?_)
 refine AW.q ?_
 obtain⟨M,e,N,f,J⟩:=qAE J
 refine AW.le (Le.fM 3 (g:=ze5) rfl (fun y=>.vs rfl)) ?_
 refine AW.le (Le.fM 4 (g:=ze0) rfl (fun y=>.vs rfl)) ?_
 refine AW.drawn 4 6 [] mix (by kernel_rfl) rfl ?_
 refine go ?_
 refine AD.vv (cVs (qFP a8 _ _ (e))) ?_
 refine AD.nil (AO.x (cMs 6 [1] (S:=qEW _ _ _ _ (f)) (hp:=by exact zG (.c (.box rfl rfl)) (zG (.g (zC .s (zC .s (zC .v (zC .v (zC .v (zC .v (zCn)))))))) (zG (.c .v) (zGn))))) (go ?_))
 exact qDO
 refine go ?_
 obtain⟨O,G,B,h,J⟩:=qAE J
 refine go ?_
 refine AO.w (cVs (qLP _ _ (h))) ?_
 refine gs2 ?_
 refine AW.le (Le.ct 0 0 (σ':=(⟨[(0,.p 1 0),(2,sv ze0 l),(7,.p 5 0),(51,.v (.bool (!B)))],[(1,.box (qKE sA)),(3,ro 4 ze5 a.1.ad),(4,ro 1 ze0 a.1.ar),(5,.box [.R 3,.R 4,a.1.aq,a.1.av,a.1.au,a.1.ay])],66,[(1,L 1)]⟩:St)) (hpin:=⟨⟨rfl,rfl⟩,trivial⟩)) ?_
 refine AW.cH J (fun _ J=>?_) (fun _ J=>?_)
 refine go ?_
 exact qDO
 refine go ?_
 obtain⟨C,H,P,j,J⟩:=qAE J
 refine AW.drawn 8 6 [] mix (by kernel_rfl) rfl ?_
 refine go ?_
 refine AO.x (zSr T rfl rfl rfl rfl rfl (zgG (j)) rfl rfl rfl rfl (u':=C) rfl rfl) (go ?_)
 obtain⟨Q,k,U,m,J⟩:=qAE J
 refine AW.le (Le.fM 3 (g:=ze5) rfl (fun y=>.vs rfl)) ?_
 refine AW.le (Le.fM 4 (g:=ze0) rfl (fun y=>.vs rfl)) ?_
 refine AW.drawn 4 6 [] mix (by kernel_rfl) rfl ?_
 refine go ?_
 refine AD.vv (cVs (qFP a8 _ _ (k))) ?_
 refine AD.nil (AO.x (cMs 6 [1] (S:=qEW _ _ _ _ (m)) (hp:=by exact zG (.c (.box rfl rfl)) (zG (.g (zC .s (zC .s (zC .v (zC .v (zC .v (zC .v (zCn)))))))) (zG (.c .v) (zGn))))) (go ?_))
 exact qDO
def qHE (m:Marks) (judge:Int):bF :=
 (qEH m).bind fun a =>
 (opt a default (qA6 m)).bind fun b =>
 (opt a default (qAQ judge 0 (w64 (b-1)))).bind fun c =>
 some (a&&c)
theorem qLr (m:Marks) (judge:Int) (r:Bool) (J:qHE m judge=some r):qAC prog 226 [.g (qJb m),judge] (.v (.bool r)):=by
 refine fns T func226 ?_
 refine go ?_
 refine AO.x (bxs T 1) (go ?_)
 obtain⟨e,a,f,b,h,c,J⟩:=qAq J
 refine go ?_
 refine AO.w (cVs (qJR _ _ (a))) ?_
 refine AO.pu T ?_
 refine AO.g0 T ?_
 refine AO.g T (d:=.g [sv ze3 m.ah,sv ze3 m.ac]) [] rfl trivial rfl rfl ?_
 refine AO.d1 9 (fun hg=>cVs (qEs _ _ (qD7 b hg))) ?_
 refine AO.d1 10 (fun hg=>aws) ?_
 refine AO.d2 8 11 (fun hg=>cVs (qAS _ _ _ _ (qD7 c hg))) ?_
 refine go ?_
 exact fin
def qG2 (m:Marks):Option (Marks×Bool) :=
 (qEH m).bind fun a =>
 cond (!a)
  (some ((Marks.mk [] []),false))
  (some (m,true))
theorem qL4 (m:Marks) (r:(Marks×Bool)) (J:qG2 m=some r):qAC prog 227 [.g (qJb m)] (.t [.g (qJb r.1),.v (.bool r.2)]):=by
 refine fns T func227 ?_
 refine go ?_
 refine AO.x (bxs T 1) ?_
 refine AO.x (als T 2) (go ?_)
 obtain⟨b,a,J⟩:=zB J
 refine go ?_
 refine AO.w (cVs (qJR _ _ (a))) (go ?_)
 refine AW.cH J (fun _ J=>?_) (fun _ J=>?_)
 refine go ?_
 refine AO.se T [.w 0 [],.w 0 []] ?_
 refine go ?_
 exact fin
 refine go ?_
 refine AO.se T [sv ze3 m.ah,sv ze3 m.ac] ?_
 refine go ?_
 exact fin
def qGZ (m:Marks) (item:Int) (judge:Int) (grade:Int):Option (Marks×Bool) :=
 (qHE m judge).bind fun c =>
 (opt (!(!c)) default (qAQ item 0 (w64 ((m.ah.length:Int)-1)))).bind fun e =>
 cond ((!c)||(!e))
  (some ((Marks.mk [] []),false))
  ((qC0 m).bind fun b =>
  (qAV b.ah item).bind fun d =>
  (qAV d judge).bind fun f =>
  (qG2 (Marks.mk (b.ah.set item.toNat (d.set judge.toNat grade)) b.ac)).bind fun a =>
  some (a.1,a.2))
theorem qOv (m:Marks) (item:Int) (judge:Int) (grade:Int) (r:(Marks×Bool)) (J:qGZ m item judge grade=some r):qAC prog 164 [.g (qJb m),item,judge,grade] (.t [.g (qJb r.1),.v (.bool r.2)]):=by
 refine fns T func164 ?_
 refine gs2 ?_
 refine AO.x (bxs T 1) ?_
 refine AO.x (als T 2) ?_
 refine gs4 ?_
 obtain⟨k,e,l,f,J⟩:=qAE J
 refine gs3 ?_
 refine AO.w (cVs (qLr _ _ _ (e))) ?_
 refine gs2 ?_
 refine AO.g0 T ?_
 refine AO.g0 T ?_
 refine AO.g1 T 17 ?_
 refine AO.d1 18 (fun hg=>qMc T) ?_
 refine AO.d1 19 (fun hg=>aws) ?_
 refine AO.d2 16 20 (fun hg=>cVs (qAS _ _ _ _ (qD7 f hg))) ?_
 refine AO.g1 T 21 ?_
 refine gs2 ?_
 refine AW.cH J (fun _ J=>?_) (fun _ J=>?_)
 refine gs3 ?_
 refine AO.se T [.w 0 [],.w 0 []] ?_
 refine gs3 ?_
 exact fin
 refine gs2 ?_
 obtain⟨h,i,J⟩:=zB J
 refine gs2 ?_
 refine AO.x (qAO rfl 3 rfl rfl rfl (qGj _ _ (i)) rfl rfl rfl) ?_
 refine AO.x (als T 5) ?_
 refine AO.se T [.R 3,.R 4] ?_
 refine gs2 ?_
 obtain⟨j,a,o,c,J⟩:=qAE J
 refine AW.le (Le.openM 3 item.toNat 0 6 rfl (zgG (a)) rfl rfl) ?_
 refine gs4 ?_
 refine AO.w (qET T rfl rfl rfl rfl rfl rfl (a)) ?_
 refine AO.w (qCb T rfl rfl rfl rfl rfl) ?_
 refine gs3 ?_
 refine AO.x (zSr T rfl rfl rfl rfl rfl (zgG (c)) rfl rfl rfl rfl (u':=grade) rfl rfl) ?_
 refine AO.le (Le.closeM 3 item.toNat 0 6 rfl rfl (zgG (a)) rfl (u':=(j.set judge.toNat grade)) rfl) ?_
 refine AO.n (AW.le (Le.ct 0 0 (σ':=(⟨[(8,.p 2 0),(10,.p 5 0)],[(2,.box [.w 0 [],.w 0 []]),(3,ro 1 ze7 (h.ah.set item.toNat (j.set judge.toNat grade))),(4,ro 1 ze7 h.ac),(5,.box [.R 3,.R 4])],39,[]⟩:St))) ?_)
 refine AW.q ?_
 obtain⟨b,d,J⟩:=zB J
 refine AW.le (Le.fM 3 (g:=ze3) rfl (fun y=>qAh y)) ?_
 refine AW.le (Le.fM 4 (g:=ze3) rfl (fun y=>qAh y)) ?_
 refine gs2 ?_
 refine AO.w (cVs (qL4 _ _ (d))) ?_
 refine gs2 ?_
 refine AO.se T [sv ze3 b.1.ah,sv ze3 b.1.ac] ?_
 refine gs3 ?_
 exact fin
def qEa (m:Marks) (component:Int) (judge:Int) (mark:Int):Option (Marks×Bool) :=
 (qHE m judge).bind fun c =>
 (opt (!(!c)) default (qAQ component 0 2)).bind fun e =>
 cond ((!c)||(!e))
  (some ((Marks.mk [] []),false))
  ((qC0 m).bind fun b =>
  (qAV b.ac component).bind fun d =>
  (qAV d judge).bind fun f =>
  (qG2 (Marks.mk b.ah (b.ac.set component.toNat (d.set judge.toNat mark)))).bind fun a =>
  some (a.1,a.2))
theorem qMb (m:Marks) (component:Int) (judge:Int) (mark:Int) (r:(Marks×Bool)) (J:qEa m component judge mark=some r):qAC prog 165 [.g (qJb m),component,judge,mark] (.t [.g (qJb r.1),.v (.bool r.2)]):=by
 refine fns T func165 ?_
 refine gs2 ?_
 refine AO.x (bxs T 1) ?_
 refine AO.x (als T 2) ?_
 refine gs4 ?_
 obtain⟨k,e,l,f,J⟩:=qAE J
 refine gs3 ?_
 refine AO.w (cVs (qLr _ _ _ (e))) ?_
 refine gs2 ?_
 refine AO.g0 T ?_
 refine AO.d1 16 (fun hg=>cVs (qAS _ _ _ _ (qD7 f hg))) ?_
 refine AO.g1 T 17 ?_
 refine gs2 ?_
 refine AW.cH J (fun _ J=>?_) (fun _ J=>?_)
 refine gs3 ?_
 refine AO.se T [.w 0 [],.w 0 []] ?_
 refine gs3 ?_
 exact fin
 refine gs2 ?_
 obtain⟨h,i,J⟩:=zB J
 refine gs2 ?_
 refine AO.x (qAO rfl 3 rfl rfl rfl (qGj _ _ (i)) rfl rfl rfl) ?_
 refine AO.x (als T 5) ?_
 refine AO.se T [.R 3,.R 4] ?_
 refine gs2 ?_
 obtain⟨j,a,o,c,J⟩:=qAE J
 refine AW.le (Le.openM 4 component.toNat 0 6 rfl (zgG (a)) rfl rfl) ?_
 refine gs4 ?_
 refine AO.w (qET T rfl rfl rfl rfl rfl rfl (a)) ?_
 refine AO.w (qCb T rfl rfl rfl rfl rfl) ?_
 refine gs3 ?_
 refine AO.x (zSr T rfl rfl rfl rfl rfl (zgG (c)) rfl rfl rfl rfl (u':=mark) rfl rfl) ?_
 refine AO.le (Le.closeM 4 component.toNat 0 6 rfl rfl (zgG (a)) rfl (u':=(j.set judge.toNat mark)) rfl) ?_
 refine AO.n (AW.le (Le.ct 0 0 (σ':=(⟨[(8,.p 2 0),(10,.p 5 0)],[(2,.box [.w 0 [],.w 0 []]),(3,ro 1 ze7 h.ah),(4,ro 1 ze7 (h.ac.set component.toNat (j.set judge.toNat mark))),(5,.box [.R 3,.R 4])],35,[]⟩:St))) ?_)
 refine AW.q ?_
 obtain⟨b,d,J⟩:=zB J
 refine AW.le (Le.fM 3 (g:=ze3) rfl (fun y=>qAh y)) ?_
 refine AW.le (Le.fM 4 (g:=ze3) rfl (fun y=>qAh y)) ?_
 refine gs2 ?_
 refine AO.w (cVs (qL4 _ _ (d))) ?_
 refine gs2 ?_
 refine AO.se T [sv ze3 b.1.ah,sv ze3 b.1.ac] ?_
 refine gs3 ?_
 exact fin
def qAN (a8:Nat) (sA:ScriptState) (command:bD) (l:bE):Option (ScriptState×bD) :=
 cond (decide (command=(bz [106,117,100,103,101,115])))
  ((qAV l 0).bind fun d =>
  (qAQ d 3 9).bind fun a =>
  cond a
   ((qDM a8 (sA.aa.ai.length:Int) d).bind fun s =>
   cond a
    ((qAw a).bind fun t =>
    some ((ScriptState.mk sA.ag (Performance.mk sA.aa.ai s sA.aa.af) sA.am sA.ak),t))
    ((qAw a).bind fun e =>
    some (sA,e)))
   (cond a
    ((qAw a).bind fun f =>
    some ((ScriptState.mk sA.ag (Performance.mk sA.aa.ai (Marks.mk [] []) sA.aa.af) sA.am sA.ak),f))
    ((qAw a).bind fun g =>
    some (sA,g))))
  (cond (decide (command=(bz [103,114,97,100,101])))
   ((qAV l 0).bind fun h =>
   (qAV l 1).bind fun i =>
   (qAV l 2).bind fun j =>
   (qGZ sA.aa.ae h i j).bind fun b =>
   cond b.2
    ((qAw b.2).bind fun k =>
    some ((ScriptState.mk sA.ag (Performance.mk sA.aa.ai b.1 sA.aa.af) sA.am sA.ak),k))
    ((qAw b.2).bind fun m =>
    some (sA,m)))
   ((qAV l 0).bind fun n =>
   (qAV l 1).bind fun o =>
   (qAV l 2).bind fun p =>
   (qEa sA.aa.ae n o p).bind fun c =>
   cond c.2
    ((qAw c.2).bind fun q =>
    some ((ScriptState.mk sA.ag (Performance.mk sA.aa.ai c.1 sA.aa.af) sA.am sA.ak),q))
    ((qAw c.2).bind fun r =>
    some (sA,r))))
theorem qFI (a8:Nat) (sA:ScriptState) (command:bD) (l:bE) (r:(ScriptState×bD)) (J:qAN a8 sA command l=some r):qGM prog 119 [.pw (qKE sA),.v (.string command),.s (List.map ze0 l)] [.pw (qKE r.1),.u,.u] (.v (.string r.2)):=by
 refine qJs T func119 rfl (by decide) rfl rfl ?_
 intro L
 show AW _ _ _ (⟨[(0,.p 1 0),(1,.v (.string command)),(2,.s (List.map ze0 l))],[(1,.box (qKE sA))],74,[(1,L 1)]⟩:St)
 refine AW.q (AW.r (AO.pu T ?_))
 refine AO.n (AW.q (AW.r ?_))
 refine AO.pu T (d:=.g [.w 0 [],.w 0 []]) ?_
 refine AO.x (als T 2) ?_
 refine AO.se T [.w 0 [],.w 0 []] ?_
 refine AO.pu T ?_
 refine AO.n (AW.q (AW.q ?_))
 refine AW.r (AO.pu T ?_)
 refine AO.n (AW.b ?_)
 refine AW.q (AW.r (AO.p2 T ?_))
 refine AO.n (AW.c (b:=decide (command=(bz [106,117,100,103,101,115]))) rfl (fun h=>?_) (fun h=>?_))
 replace J:=condT h J
 refine AW.q ?_
 obtain⟨x2,j,J⟩:=zB J
 obtain⟨i,P,J⟩:=zB J
 refine AW.r (AO.pu T ?_)
 refine AO.w (ixs T (j)) ?_
 refine AO.pu T ?_
 refine AO.w (cVs (qAS _ _ _ _ (P))) ?_
 refine AO.pu T ?_
 refine AO.n (AW.q (AW.r ?_))
 refine AO.pu T ?_
 refine AO.n (AW.c (b:=i) rfl (fun hc=>?_) (fun hc=>?_))
 replace J:=condT hc J
 obtain⟨Q,S,J⟩:=zB J
 refine AW.drawn 9 3 [] mix (by kernel_rfl) rfl ?_
 iterate 5 refine AD.pu T ?_
 refine AD.vv (qMc T) ?_
 refine AD.pu T ?_
 refine AD.vv (ixs T (j)) ?_
 refine AD.pu T ?_
 refine AD.nil (AO.x (qAO rfl 3 rfl rfl rfl (qJ1 a8 _ _ _ (S)) rfl rfl rfl) ?_)
 refine AO.se T [.R 3,.R 4] ?_
 refine AO.n (AW.le (Le.ct 0 0 (σ':=(⟨[(0,.p 1 0),(7,.p 2 0),(8,.v (.bool i))],[(1,.box (qKE sA)),(2,.box [.R 3,.R 4]),(3,.row 1 (List.map ze7 Q.ah)),(4,.row 1 (List.map ze7 Q.ac))],74,[(1,L 1)]⟩:St)) (hpin:=⟨⟨rfl,rfl⟩,trivial⟩)) ?_)
 refine AW.q (AW.q (AW.r ?_))
 refine AO.pu T ?_
 refine AO.n (AW.c (b:=i) rfl (fun hc=>?_) (fun hc=>?_))
 replace J:=condT hc J
 refine AW.r (AO.pu T ?_)
 refine AO.pu T (d:=.g [.R 3,.R 4]) ?_
 iterate 3 refine AO.pu T ?_
 refine AO.se T [.s (List.map ze5 sA.ag.ad),.s (List.map ze0 sA.ag.ar),sA.ag.aq,sA.ag.av,sA.ag.au,sA.ag.ay,.s (List.map ze2 sA.aa.ai),.R 3,.R 4,sA.aa.af.falls,sA.aa.af.an,sA.aa.af.aw,sA.am,.s (List.map ze6 sA.ak)] ?_
 refine AO.n (AW.q ?_)
 obtain⟨x8,U,J⟩:=zB J
 refine AW.r (AO.pu T ?_)
 refine AO.w (cVs (qCL _ _ (U))) ?_
 refine AO.pu T ?_
 refine AO.n (AW.le (Le.fM 4 (g:=ze3) rfl (fun y=>qAh y)) ?_)
 refine AW.le (Le.fM 3 (g:=ze3) rfl (fun y=>qAh y)) ?_
 refine AW.t ?_
 have hR:=zS J;subst hR
 exact⟨trivial,rfl,_,[],[1],rfl,zG (.c (.box rfl rfl)) (zG (.c .u) (zG (.c .u) (zGn))),.c (.c .v),by decide⟩
 replace J:=condF hc J
 refine AW.k (AW.q ?_)
 obtain⟨W,m,J⟩:=zB J
 refine AW.r (AO.pu T ?_)
 refine AO.w (cVs (qCL _ _ (m))) ?_
 refine AO.pu T ?_
 refine AO.n (AW.t ?_)
 have hR:=zS J;subst hR
 exact⟨trivial,rfl,_,[],[1],rfl,zG (.c (.box rfl rfl)) (zG (.c .u) (zG (.c .u) (zGn))),.c (.c .v),by decide⟩
 replace J:=condF hc J
 refine AW.k (AW.q (AW.q ?_))
 refine AW.r (AO.pu T ?_)
 refine AO.n (AW.c (b:=i) rfl (fun hc=>?_) (fun hc=>?_))
 replace J:=condT hc J
 refine AW.r (AO.pu T ?_)
 refine AO.pu T (d:=.g [.w 0 [],.w 0 []]) ?_
 iterate 3 refine AO.pu T ?_
 refine AO.se T [.s (List.map ze5 sA.ag.ad),.s (List.map ze0 sA.ag.ar),sA.ag.aq,sA.ag.av,sA.ag.au,sA.ag.ay,.s (List.map ze2 sA.aa.ai),.w 0 [],.w 0 [],sA.aa.af.falls,sA.aa.af.an,sA.aa.af.aw,sA.am,.s (List.map ze6 sA.ak)] ?_
 refine AO.n (AW.q ?_)
 obtain⟨V,o,J⟩:=zB J
 refine AW.r (AO.pu T ?_)
 refine AO.w (cVs (qCL _ _ (o))) ?_
 refine AO.pu T ?_
 refine AO.n (AW.le (Le.ct 0 0 (σ':=(⟨[(6,.v (.string V))],[(1,.box [.s (List.map ze5 sA.ag.ad),.s (List.map ze0 sA.ag.ar),sA.ag.aq,sA.ag.av,sA.ag.au,sA.ag.ay,.s (List.map ze2 sA.aa.ai),.w 0 [],.w 0 [],sA.aa.af.falls,sA.aa.af.an,sA.aa.af.aw,sA.am,.s (List.map ze6 sA.ak)])],74,[(1,L 1)]⟩:St)) (hpin:=⟨⟨rfl,rfl⟩,trivial⟩)) ?_)
 refine AW.le (Le.nilSBox 1 7 rfl rfl) ?_
 refine AW.le (Le.nilSBox 1 8 rfl rfl) ?_
 refine AW.t ?_
 have hR:=zS J;subst hR
 exact⟨trivial,rfl,_,[],[1],rfl,zG (.c (.box rfl rfl)) (zG (.c .u) (zG (.c .u) (zGn))),.c (.c .v),by decide⟩
 replace J:=condF hc J
 refine AW.k (AW.q ?_)
 obtain⟨X,z,J⟩:=zB J
 refine AW.r (AO.pu T ?_)
 refine AO.w (cVs (qCL _ _ (z))) ?_
 refine AO.pu T ?_
 refine AO.n (AW.t ?_)
 have hR:=zS J;subst hR
 exact⟨trivial,rfl,_,[],[1],rfl,zG (.c (.box rfl rfl)) (zG (.c .u) (zG (.c .u) (zGn))),.c (.c .v),by decide⟩
 replace J:=condF h J
 refine AW.q (AW.r (AO.p2 T ?_))
 refine AO.n (AW.c (b:=decide (command=(bz [103,114,97,100,101]))) rfl (fun f=>?_) (fun f=>?_))
 replace J:=condT f J
 obtain⟨Y,A,J⟩:=zB J
 obtain⟨Z,B,J⟩:=zB J
 obtain⟨ab,C,J⟩:=zB J
 obtain⟨a,E,J⟩:=zB J
 refine AW.drawn 19 5 [2] mix (by kernel_rfl) rfl ?_
 iterate 4 refine AD.pu T ?_
 refine AD.p T (d:=.g [.s (List.map ze3 sA.aa.ae.ah),.s (List.map ze3 sA.aa.ae.ac)]) rfl rfl rfl ?_
 refine AD.pu T ?_
 refine AD.vv (ixs T (A)) ?_
 iterate 2 refine AD.pu T ?_
 refine AD.vv (ixs T (B)) ?_
 iterate 2 refine AD.pu T ?_
 refine AD.vv (ixs T (C)) ?_
 refine AD.pu T ?_
 refine AD.vv (cVs (qOv _ _ _ _ _ (E))) ?_
 refine AD.pu T ?_
 refine AD.p T (d:=.g [.s (List.map ze3 a.1.ah),.s (List.map ze3 a.1.ac)]) rfl rfl rfl ?_
 refine AD.pu T ?_
 refine AD.kk (FStep.store_p T rfl rfl rfl rfl rfl rfl rfl rfl rfl rfl rfl) ?_
 refine AD.nil (AO.pu T ?_)
 refine AO.n (AW.le (Le.ct 0 0 (σ':=(⟨[(0,.p 1 0),(7,.p 2 0),(8,.v (.bool a.2))],[(1,.box (qKE sA)),(2,.box [.s (List.map ze3 a.1.ah),.s (List.map ze3 a.1.ac)])],74,[(1,L 1)]⟩:St)) (hpin:=⟨⟨rfl,rfl⟩,trivial⟩)) ?_)
 refine AW.q (AW.q (AW.r ?_))
 refine AO.pu T ?_
 refine AO.n (AW.c (b:=a.2) rfl (fun hc=>?_) (fun hc=>?_))
 replace J:=condT hc J
 refine AW.r (AO.pu T ?_)
 refine AO.pu T (d:=.g [.s (List.map ze3 a.1.ah),.s (List.map ze3 a.1.ac)]) ?_
 iterate 3 refine AO.pu T ?_
 refine AO.se T [.s (List.map ze5 sA.ag.ad),.s (List.map ze0 sA.ag.ar),sA.ag.aq,sA.ag.av,sA.ag.au,sA.ag.ay,.s (List.map ze2 sA.aa.ai),.s (List.map ze3 a.1.ah),.s (List.map ze3 a.1.ac),sA.aa.af.falls,sA.aa.af.an,sA.aa.af.aw,sA.am,.s (List.map ze6 sA.ak)] ?_
 refine AO.n (AW.q ?_)
 obtain⟨aj,F,J⟩:=zB J
 refine AW.r (AO.pu T ?_)
 refine AO.w (cVs (qCL _ _ (F))) ?_
 refine AO.pu T ?_
 refine AO.n (AW.t ?_)
 have hR:=zS J;subst hR
 exact⟨trivial,rfl,_,[],[1],rfl,zG (.c (.box rfl rfl)) (zG (.c .u) (zG (.c .u) (zGn))),.c (.c .v),by decide⟩
 replace J:=condF hc J
 refine AW.k (AW.q ?_)
 obtain⟨al,G,J⟩:=zB J
 refine AW.r (AO.pu T ?_)
 refine AO.w (cVs (qCL _ _ (G))) ?_
 refine AO.pu T ?_
 refine AO.n (AW.t ?_)
 have hR:=zS J;subst hR
 exact⟨trivial,rfl,_,[],[1],rfl,zG (.c (.box rfl rfl)) (zG (.c .u) (zG (.c .u) (zGn))),.c (.c .v),by decide⟩
 replace J:=condF f J
 obtain⟨ao,H,J⟩:=zB J
 obtain⟨ap,I,J⟩:=zB J
 obtain⟨ax,K,J⟩:=zB J
 obtain⟨e,M,J⟩:=zB J
 refine AW.drawn 19 5 [2] mix (by kernel_rfl) rfl ?_
 iterate 4 refine AD.pu T ?_
 refine AD.p T (d:=.g [.s (List.map ze3 sA.aa.ae.ah),.s (List.map ze3 sA.aa.ae.ac)]) rfl rfl rfl ?_
 refine AD.pu T ?_
 refine AD.vv (ixs T (H)) ?_
 iterate 2 refine AD.pu T ?_
 refine AD.vv (ixs T (I)) ?_
 iterate 2 refine AD.pu T ?_
 refine AD.vv (ixs T (K)) ?_
 refine AD.pu T ?_
 refine AD.vv (cVs (qMb _ _ _ _ _ (M))) ?_
 refine AD.pu T ?_
 refine AD.p T (d:=.g [.s (List.map ze3 e.1.ah),.s (List.map ze3 e.1.ac)]) rfl rfl rfl ?_
 refine AD.pu T ?_
 refine AD.kk (FStep.store_p T rfl rfl rfl rfl rfl rfl rfl rfl rfl rfl rfl) ?_
 refine AD.nil (AO.pu T ?_)
 refine AO.n (AW.le (Le.ct 0 0 (σ':=(⟨[(0,.p 1 0),(7,.p 2 0),(8,.v (.bool e.2))],[(1,.box (qKE sA)),(2,.box [.s (List.map ze3 e.1.ah),.s (List.map ze3 e.1.ac)])],74,[(1,L 1)]⟩:St)) (hpin:=⟨⟨rfl,rfl⟩,trivial⟩)) ?_)
 refine AW.q (AW.q (AW.r ?_))
 refine AO.pu T ?_
 refine AO.n (AW.c (b:=e.2) rfl (fun hc=>?_) (fun hc=>?_))
 replace J:=condT hc J
 refine AW.r (AO.pu T ?_)
 refine AO.pu T (d:=.g [.s (List.map ze3 e.1.ah),.s (List.map ze3 e.1.ac)]) ?_
 iterate 3 refine AO.pu T ?_
 refine AO.se T [.s (List.map ze5 sA.ag.ad),.s (List.map ze0 sA.ag.ar),sA.ag.aq,sA.ag.av,sA.ag.au,sA.ag.ay,.s (List.map ze2 sA.aa.ai),.s (List.map ze3 e.1.ah),.s (List.map ze3 e.1.ac),sA.aa.af.falls,sA.aa.af.an,sA.aa.af.aw,sA.am,.s (List.map ze6 sA.ak)] ?_
 refine AO.n (AW.q ?_)
 obtain⟨az,N,J⟩:=zB J
 refine AW.r (AO.pu T ?_)
 refine AO.w (cVs (qCL _ _ (N))) ?_
 refine AO.pu T ?_
 refine AO.n (AW.t ?_)
 have hR:=zS J;subst hR
 exact⟨trivial,rfl,_,[],[1],rfl,zG (.c (.box rfl rfl)) (zG (.c .u) (zG (.c .u) (zGn))),.c (.c .v),by decide⟩
 replace J:=condF hc J
 refine AW.k (AW.q ?_)
 obtain⟨aA,O,J⟩:=zB J
 refine AW.r (AO.pu T ?_)
 refine AO.w (cVs (qCL _ _ (O))) ?_
 refine AO.pu T ?_
 refine AO.n (AW.t ?_)
 have hR:=zS J;subst hR
 exact⟨trivial,rfl,_,[],[1],rfl,zG (.c (.box rfl rfl)) (zG (.c .u) (zG (.c .u) (zGn))),.c (.c .v),by decide⟩
def qF9 (l:List Item) (item:Int) (name:Int):bF :=
 (qAQ item 0 (w64 ((l.length:Int)-1))).bind fun a =>
 (opt a default (qAV l item)).bind fun b =>
 (opt a default (qAQ name 0 (w64 ((b.aj.length:Int)-1)))).bind fun c =>
 some (a&&c)
theorem qOV (l:List Item) (item:Int) (name:Int) (r:Bool) (J:qF9 l item name=some r):qAC prog 166 [.s (List.map ze2 l),item,name] (.v (.bool r)):=by
 refine fns T func166 ?_
 refine go ?_
 obtain⟨d,a,e,b,f,c,J⟩:=qAq J
 refine go ?_
 refine AO.w (cVs (qAS _ _ _ _ (a))) ?_
 refine AO.pu T ?_
 refine AO.g0 T ?_
 refine AO.g0 T ?_
 refine AO.g0 T ?_
 refine AO.d2 14 15 (fun hg=>ixs T (qD7 b hg)) ?_
 refine AO.g1 T 16 ?_
 refine AO.g1 T 17 ?_
 refine AO.d1 18 (fun hg=>qMc T) ?_
 refine AO.d1 19 (fun hg=>aws) ?_
 refine AO.d2 13 20 (fun hg=>cVs (qAS _ _ _ _ (qD7 c hg))) ?_
 refine go ?_
 exact fin
def qEl (l:List Item) (item:Int) (name:Int) (mark:Int):Option (List Item) :=
 (qF8 l).bind fun b =>
 (qAV b item).bind fun a =>
 (qAV a.ae name).bind fun c =>
 some (b.set item.toNat (Item.mk a.aj (a.ae.set name.toNat mark) a.aB))
theorem qLI (l:List Item) (item:Int) (name:Int) (mark:Int) (r:(List Item)) (J:qEl l item name mark=some r):qAC prog 167 [.s (List.map ze2 l),item,name,mark] (.w 3 (r.map qBn)):=by
 refine fns T func167 ?_
 refine gs5 ?_
 obtain⟨e,c,J⟩:=zB J
 refine gs2 ?_
 refine AO.x (qAO rfl 1 rfl rfl rfl (qIL _ _ (c)) rfl rfl rfl) ?_
 refine gs3 ?_
 obtain⟨b,a,f,d,J⟩:=qAE J
 refine AW.le (Le.openM 1 item.toNat 1 2 rfl (zgG (a)) rfl rfl) ?_
 refine gs3 ?_
 refine AO.w (qET T rfl rfl rfl rfl rfl rfl (a)) ?_
 refine AO.pu T ?_
 refine AO.w (qCb T rfl rfl rfl rfl rfl) ?_
 refine gs3 ?_
 refine AO.x (zSr T rfl rfl rfl rfl rfl (zgG (d)) rfl rfl rfl rfl (u':=mark) rfl rfl) ?_
 refine AO.le (Le.closeM 1 item.toNat 1 2 rfl rfl (zgG (a)) rfl (u':=(Item.mk b.aj (b.ae.set name.toNat mark) b.aB)) rfl) ?_
 refine gs7 ?_
 exact fin
def qFg (factor:Int):bF :=
 (qAQ factor 10 400).bind fun a =>
 some a
theorem qLG (factor:Int) (r:Bool) (J:qFg factor=some r):qAC prog 168 [factor] (.v (.bool r)):=by
 refine fns T func168 ?_
 refine go ?_
 obtain⟨b,a,J⟩:=zB J
 refine go ?_
 refine AO.w (cVs (qAS _ _ _ _ (a))) (go ?_)
 exact fin
def qGW (i:Int) (n:Int):bF :=
 some (decide ((w64 (2*i))>=n))
theorem qLN (i:Int) (n:Int) (r:Bool) (J:qGW i n=some r):qAC prog 228 [i,n] (.v (.bool r)):=by
 refine fns T func228 ?_
 refine go ?_
 exact fin
def qD4 (d:(List Item)):Nat->List Item->Int->Option ((List Item))
 |0,_,_=>none
 |f+1,b,a =>
  cond (decide (a<(d.length:Int)))
   ((qGW a (b.length:Int)).bind fun e =>
   (qAV b a).bind fun c =>
   qD4 d f (b.set a.toNat (Item.mk c.aj c.ae e)) (w64 (a+1)))
   (some b)
def qGc (a8:Nat) (l:List Item):Option (List Item) :=
 (qF8 l).bind fun a =>
 qD4 a a8 a 0
theorem qO3 (a8:Nat) (l:List Item) (r:(List Item)) (J:qGc a8 l=some r):qAC prog 169 [.s (List.map ze2 l)] (.w 3 (r.map qBn)):=by
 refine fns T func169 ?_
 refine go ?_
 obtain⟨d,h,J⟩:=zB J
 refine go ?_
 refine AO.x (qAO rfl 1 rfl rfl rfl (qIL _ _ (h)) rfl rfl rfl) (go ?_)
 refine AW.loopS (fun s:Nat×(List Item)×Int=>(⟨[(3,.R 1),(8,(d.length:Int)),(9,s.2.2)],[(1,ro 3 qBn s.2.1)],22,[]⟩:St)) (fun s=>qD4 d s.1 s.2.1 s.2.2=some r) (fun s=>s.1) (a8,d,0) J ?_ ?_
 exact Le.ct 0 0
 rintro⟨e,i,b⟩ J
 try dsimp only at J⊢
 rcases e with _|e
 cases (show none=some _ from J)
 rw[qD4]at J
 refine go ?_
 refine AW.cH J (fun _ J=>?_) (fun _ J=>?_)
 refine go ?_
 obtain⟨c,f,a,g,J⟩:=qAE J
 refine go ?_
 refine AO.w (cVs (qLN _ _ _ (f))) (go ?_)
 refine AO.x (zSr T rfl rfl rfl rfl rfl (zgG (g)) rfl rfl rfl rfl (u':=(Item.mk a.aj a.ae c)) rfl rfl) (go ?_)
 refine⟨(e,(i.set b.toNat (Item.mk a.aj a.ae c)),w64 (b+1)),J,Nat.lt_succ_self _,?_⟩
 exact Le.ct 0 0
 refine go ?_
 exact fin
def qAH (a8:Nat) (sA:ScriptState) (command:bD) (l:bE):Option (ScriptState×bD) :=
 cond (decide (command=(bz [99,97,108,108])))
  ((qAV l 0).bind fun e =>
  (qAV l 1).bind fun f =>
  (qF9 sA.aa.ai e f).bind fun k =>
  cond (!k)
   (some (sA,(bz [110,111])))
   ((qAV l 2).bind fun m =>
   (qEl sA.aa.ai e f m).bind fun g =>
   some ((ScriptState.mk sA.ag (Performance.mk g sA.aa.ae sA.aa.af) sA.am sA.ak),(bz [111,107]))))
  (cond (decide (command=(bz [115,108,105,112,115])))
   ((qAV l 0).bind fun a =>
   (qAV l 1).bind fun b =>
   (qAV l 2).bind fun c =>
   (qEn (Slips.mk a b c)).bind fun h =>
   cond (!h)
    (some (sA,(bz [110,111])))
    (some ((ScriptState.mk sA.ag (Performance.mk sA.aa.ai sA.aa.ae (Slips.mk a b c)) sA.am sA.ak),(bz [111,107]))))
   (cond (decide (command=(bz [102,97,99,116,111,114])))
    ((qAV l 0).bind fun d =>
    (qFg d).bind fun i =>
    cond (!i)
     (some (sA,(bz [110,111])))
     (some ((ScriptState.mk sA.ag sA.aa d sA.ak),(bz [111,107]))))
    ((qGc a8 sA.aa.ai).bind fun j =>
    some ((ScriptState.mk sA.ag (Performance.mk j sA.aa.ae sA.aa.af) sA.am sA.ak),(bz [111,107])))))
theorem qDD (a8:Nat) (sA:ScriptState) (command:bD) (l:bE) (r:(ScriptState×bD)) (J:qAH a8 sA command l=some r):qGM prog 120 [.pw (qKE sA),.v (.string command),.s (List.map ze0 l)] [.pw (qKE r.1),.u,.u] (.v (.string r.2)):=by
 refine qJs T func120 rfl (by decide) rfl rfl ?_
 intro L
 show AW _ _ _ (⟨[(0,.p 1 0),(1,.v (.string command)),(2,sv ze0 l)],[(1,.box (qKE sA))],86,[(1,L 1)]⟩:St)
 refine go ?_
 refine AW.cH J (fun _ J=>?_) (fun _ J=>?_)
 refine go ?_
 obtain⟨K,C,M,E,N,i,J⟩:=qAq J
 refine AW.drawn 11 2 [] mix (by kernel_rfl) rfl ?_
 refine go ?_
 refine AO.w (cVs (qOV _ _ _ _ (i))) (go ?_)
 refine AW.cH J (fun _ J=>?_) (fun hc J=>?_)
 refine go ?_
 exact qDO
 refine AW.k ?_
 obtain⟨O,F,j,d,J⟩:=qAE J
 refine AW.drawn 16 2 [] mix (by kernel_rfl) rfl ?_
 refine go ?_
 refine AD.q (FStep.call rfl rfl rfl rfl rfl (qLI _ _ _ _ _ (d)) rfl rfl) (qBD _ _) (qDi _ _) rfl ?_
 refine go ?_
 refine AO.se T [sv ze5 sA.ag.ad,sv ze0 sA.ag.ar,sA.ag.aq,sA.ag.av,sA.ag.au,sA.ag.ay,.R 2,sv ze3 sA.aa.ae.ah,sv ze3 sA.aa.ae.ac,sA.aa.af.falls,sA.aa.af.an,sA.aa.af.aw,sA.am,sv ze6 sA.ak] ?_
 refine AO.n (AW.le (Le.ct 0 0 (σ':=(⟨[],[(1,.box [sv ze5 sA.ag.ad,sv ze0 sA.ag.ar,sA.ag.aq,sA.ag.av,sA.ag.au,sA.ag.ay,.R 2,sv ze3 sA.aa.ae.ah,sv ze3 sA.aa.ae.ac,sA.aa.af.falls,sA.aa.af.an,sA.aa.af.aw,sA.am,sv ze6 sA.ak]),(2,ro 3 qBn j)],86,[(1,L 1)]⟩:St)) (hpin:=⟨⟨rfl,rfl⟩,trivial⟩)) ?_)
 refine gs4 ?_
 refine AW.le (Le.fM 2 (g:=ze2) rfl (fun y=>qGO y)) ?_
 refine AW.t ?_
 exact qDO
 refine go ?_
 refine AW.cH J (fun _ J=>?_) (fun _ J=>?_)
 refine AW.q ?_
 obtain⟨a,o,b,z,c,A,J⟩:=qAq J
 refine AW.drawn 11 3 [] mix (by kernel_rfl) rfl ?_
 refine go ?_
 refine AD.q (FStep.alloc T rfl rfl rfl rfl rfl rfl) (by simp[qA1]) (Nat.le_succ _) rfl ?_
 refine AD.nil (AO.se T [a,b,c] ?_)
 refine go ?_
 obtain⟨G,e,J⟩:=zB J
 refine go ?_
 refine AO.w (cVs (qLH _ _ (e))) (go ?_)
 refine AW.cH J (fun _ J=>?_) (fun hc J=>?_)
 refine go ?_
 exact qDO
 refine go ?_
 refine AO.se T [sv ze5 sA.ag.ad,sv ze0 sA.ag.ar,sA.ag.aq,sA.ag.av,sA.ag.au,sA.ag.ay,sv ze2 sA.aa.ai,sv ze3 sA.aa.ae.ah,sv ze3 sA.aa.ae.ac,a,b,c,sA.am,sv ze6 sA.ak] ?_
 refine AO.n (AW.le (Le.ct 0 0 (σ':=(⟨[],[(1,.box [sv ze5 sA.ag.ad,sv ze0 sA.ag.ar,sA.ag.aq,sA.ag.av,sA.ag.au,sA.ag.ay,sv ze2 sA.aa.ai,sv ze3 sA.aa.ae.ah,sv ze3 sA.aa.ae.ac,a,b,c,sA.am,sv ze6 sA.ak])],86,[(1,L 1)]⟩:St)) (hpin:=⟨⟨rfl,rfl⟩,trivial⟩)) ?_)
 refine go ?_
 exact qDO
 refine go ?_
 refine AW.cH J (fun _ J=>?_) (fun _ J=>?_)
 refine go ?_
 obtain⟨m,B,H,f,J⟩:=qAE J
 refine go ?_
 refine AO.w (cVs (qLG _ _ (f))) (go ?_)
 refine AW.cH J (fun _ J=>?_) (fun _ J=>?_)
 refine go ?_
 exact qDO
 refine go ?_
 refine AO.se T [sv ze5 sA.ag.ad,sv ze0 sA.ag.ar,sA.ag.aq,sA.ag.av,sA.ag.au,sA.ag.ay,sv ze2 sA.aa.ai,sv ze3 sA.aa.ae.ah,sv ze3 sA.aa.ae.ac,sA.aa.af.falls,sA.aa.af.an,sA.aa.af.aw,m,sv ze6 sA.ak] ?_
 refine go ?_
 exact qDO
 obtain⟨I,h,J⟩:=zB J
 refine go ?_
 refine AO.x (qAO rfl 4 rfl rfl rfl (qO3 a8 _ _ (h)) rfl rfl rfl) (go ?_)
 refine AO.se T [sv ze5 sA.ag.ad,sv ze0 sA.ag.ar,sA.ag.aq,sA.ag.av,sA.ag.au,sA.ag.ay,.R 4,sv ze3 sA.aa.ae.ah,sv ze3 sA.aa.ae.ac,sA.aa.af.falls,sA.aa.af.an,sA.aa.af.aw,sA.am,sv ze6 sA.ak] ?_
 refine gs5 ?_
 refine AW.le (Le.fM 4 (g:=ze2) rfl (fun y=>qGO y)) ?_
 refine AW.t ?_
 exact qDO
def qJa (skater:Int):bF :=
 (qAQ skater 1 999).bind fun a =>
 some a
theorem qOu (skater:Int) (r:Bool) (J:qJa skater=some r):qAC prog 101 [skater] (.v (.bool r)):=by
 refine fns T func101 ?_
 refine go ?_
 obtain⟨b,a,J⟩:=zB J
 refine go ?_
 refine AO.w (cVs (qAS _ _ _ _ (a))) (go ?_)
 exact fin
end Go.Proofs.YtkidpkmpnbibmaaGreatDoor

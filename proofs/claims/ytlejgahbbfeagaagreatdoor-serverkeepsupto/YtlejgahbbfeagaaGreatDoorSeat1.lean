/- A seat's types. The rows' measure. The library's functions at this seat. -/
import Derived.Test.YtlejgahbbfeagaaGreatDoorChecked
import Derived.Test.YtlejgahbbfeagaaGreatDoorBase5
import Derived.Test.YtlejgahbbfeagaaGreatDoorBase6
import Derived.KernelRfl
import Derived.Test.YtlejgahbbfeagaaGreatDoorRows
import Derived.WalkKit
import Derived.ProofKit
import Derived.OpenShut
import Derived.JoinedCond
import Derived.Shelf.Strings.Repeat
import Derived.Shelf.Strings.OnBuilder
import Derived.RangeFuncNested
import Derived.RangeFuncBound
import Derived.RangeFuncCalls
import Derived.Shelf.Abstract
import Derived.Shelf.RegionOpen
import Derived.OwnWalkIn
import Derived.TacticsInMore
import Derived.LoopNIn
import Derived.LoopIn
import Derived.Maps.AppendAt
set_option linter.unusedVariables false
set_option maxRecDepth 100000
namespace Go.Proofs.YtlejgahbbfeagaaGreatDoor.V
open Go Go.Proofs.YtlejgahbbfeagaaGreatDoor.D
noncomputable section
def N3:List TK:=[.other,.func,.data (.int .i64),.data (.int .i64),.data .bool,.data (.int .u8),.other,.other,.other,.data .str,.other,.other,.data (.int .u64),.other,.other,.other,.other,.other,.other,.other,.iface,.data (.int .i32),.data (.slice (.arr 4 (.int .u8))),.func,.data (.slice .str),.data (.slice (.named 0)),.data (.named 1),.data (.named 1),.data (.slice (.named 2)),.data (.slice (.named 3)),.data (.named 4),.data (.named 4),.data (.named 5),.data (.named 5),.data (.slice (.named 6)),.data (.slice (.named 7)),.data (.named 8),.data (.named 8),.data (.slice (.int .i64)),.data (.slice (.named 9)),.data (.named 10),.data (.named 10),.func,.data (.slice (.slice (.int .u8))),.data (.slice (.int .u8)),.func,.data (.arr 4 (.int .u8)),.other,.func,.data (.int .i64),.data (.named 9),.data (.named 9),.func,.func,.data (.slice (.named 11)),.data (.named 12),.data (.named 12),.other,.func,.func,.other,.func,.func,.data (.named 3),.data (.named 3),.data (.named 2),.data (.named 2),.func,.other,.func,.func,.data (.named 6),.data (.named 6),.func,.func,.func,.func,.data (.named 11),.data (.named 11),.data (.slice (.named 12)),.func,.other,.func,.func,.func,.data (.named 7),.data (.named 7),.func,.func,.ptr,.func,.func,.ptr,.func,.data (.named 13),.data (.named 13),.func,.func,.ptr,.data (.named 14),.data (.named 14),.func,.func,.func,.other,.func,.func,.func,.func,.func,.data (.named 0),.data (.named 0),.func,.func,.func,.func,.func,.data (.slice (.arr 2 (.int .i64))),.other,.func,.func,.data (.arr 2 (.int .i64)),.func,.func,.func,.func,.other,.func,.func,.func,.func,.func,.other,.func,.func,.data (.named 15),.data (.named 15),.func,.func,.func,.func,.func,.func,.func,.func,.func,.func,.func,.func,.ptr,.func,.other,.func,.other,.func,.func,.func,.func,.func,.data (.named 16),.data (.named 16),.other,.func,.other,.func,.func,.func,.func,.func,.ptr,.func,.func,.other,.func,.func,.func,.func,.func,.func,.func,.other,.func,.func,.func,.func,.func,.func,.func,.func,.func,.func,.func,.data (.int .u16),.func,.func,.func,.func,.func,.func,.func,.func,.func,.func,.ptr,.data (.named 17),.data (.named 17),.func,.data (.named 16),.other,.data (.named 18),.data (.named 18),.func,.func,.data (.named 16),.other,.func,.func,.other,.func,.func,.func,.func,.func,.ptr,.data (.named 19),.data (.named 19),.func,.ptr,.ptr,.func,.other,.func,.func,.data (.named 16),.other,.ptr,.func,.data (.named 20),.data (.named 20),.func,.func,.func,.data (.named 16),.other,.func,.func,.func,.func,.func,.func,.func,.other,.func,.ptr,.ptr,.data (.slice (.slice (.named 0))),.func,.func,.func,.func,.func,.data (.int .u64),.other,.func,.func,.ptr,.other,.other,.func,.iface,.iface,.other,.func,.func,.func,.func,.func,.func,.func,.func,.func,.ptr,.data (.named 21),.data (.named 21),.func,.other,.func,.func,.func,.func,.func,.func,.data (.named 16),.other,.func,.func,.func,.func,.func,.func,.func,.func,.func,.func,.data (.int .u32),.other,.func,.data (.int .u64),.other,.func,.ptr,.func,.func,.func,.func,.other,.func,.func,.func,.func,.data (.arr 256 .bool),.data (.arr 256 .bool),.other,.func,.func,.ptr,.func,.func,.func,.other,.other,.func,.data (.named 16),.other,.func,.ptr,.data (.named 16),.func,.other,.func,.func,.other,.func,.func,.data (.arr 256 (.int .u8)),.data (.named 22),.data (.named 22),.data (.arr 16 (.named 22)),.func,.func,.func,.other,.other,.other,.other,.other,.other,.other,.other,.other,.other,.other,.other]
def T:Nat→Type
 |0=>N.bB
 |1=>N.aN
 |2=>N.bL
 |3=>N.bA
 |4=>N.aG
 |5=>N.bV
 |6=>N.aT
 |7=>N.bG
 |8=>N.b9
 |9=>N.ck
 |10=>N.aI
 |11=>N.aY
 |12=>N.bp
 |13=>N.ax
 |14=>N.gO
 |15=>N.bt
 |16=>N.fa
 |17=>N.dt
 |18=>N.cn
 |19=>N.bc
 |20=>N.bH
 |21=>N.cJ
 |22=>N.j0
 |_+23=>Unit
def fields:Nat→List Ty
 |0=>[(.int .i64),.str]
 |1=>[(.slice .str),(.slice (.named 0)),(.int .i64),.bool]
 |2=>[.str,(.int .i64),.str]
 |3=>[(.int .i64),(.int .i64),(.int .i64),(.int .i64)]
 |4=>[(.slice (.named 2)),(.slice (.named 3)),(.int .i64)]
 |5=>[(.named 1),(.named 4)]
 |6=>[(.int .i64),(.int .i64),(.int .i64),(.int .i64)]
 |7=>[(.int .i64),(.int .i64),(.int .i64),(.int .i64)]
 |8=>[(.slice (.named 6)),(.slice (.named 7))]
 |9=>[(.int .i64),(.int .i64),(.int .i64),(.int .i64),(.int .i64),(.int .i64),(.int .i64),(.int .i64),.str]
 |10=>[(.named 5),(.named 8),(.slice (.int .i64)),(.slice (.named 9)),(.int .i64),(.int .i64),(.int .i64),.bool,(.int .i64)]
 |11=>[(.int .i64),.str]
 |12=>[(.int .i64),(.int .i64),(.int .i64),(.int .i64),.str,(.int .i64),(.int .i64),(.slice (.named 11))]
 |13=>[(.named 10),(.slice (.named 9))]
 |14=>[(.slice (.int .u8)),.bool]
 |15=>[(.slice (.int .u8)),(.int .i64)]
 |16=>[]
 |17=>[(.named 1)]
 |18=>[(.slice (.int .u8))]
 |19=>[(.named 1)]
 |20=>[(.slice (.int .u8))]
 |21=>[(.int .i64)]
 |22=>[(.int .u8),(.int .u8)]
 |_+23=>[]
def out:(i:Nat)→T i→HL T (fields i)
 |0,x=>(x.At,x.B,())
 |1,x=>(x.aU,x.bC,x.gR,x.Down,())
 |2,x=>(x.Name,x.pY,x.Body,())
 |3,x=>(x.Seq,x.Gw,x.aX,x.pY,())
 |4,x=>(x.aP,x.Marks,x.aS,())
 |5,x=>(x.D,x.S,())
 |6,x=>(x.Client,x.aX,x.Mode,x.ig,())
 |7,x=>(x.Client,x.Seq,x.aX,x.Mode,())
 |8,x=>(x.bF,x.cZ,())
 |9,x=>(x.Kind,x.To,x.aS,x.Seq,x.Gw,x.aX,x.Mode,x.pY,x.Body,())
 |10,x=>(x.aA,x.bd,x.Seen,x.Told,x.gQ,x.l6,x.DZ,x.Live,x.gP,())
 |11,x=>(x.nS,x.B,())
 |12,x=>(x.Kind,x.bn,x.aS,x.Seq,x.Name,x.aX,x.Mode,x.aQ,())
 |13,x=>(x.Server,x.told,())
 |14,x=>(x.B,x.DZ,())
 |15,x=>(x.l,x.n,())
 |16,_=>()
 |17,x=>(x.d,())
 |18,x=>(x.b,())
 |19,x=>(x.d,())
 |20,x=>(x.b,())
 |21,x=>(x.e,())
 |22,x=>(x.lo,x.hi,())
 |_+23,_=>()
def CL:(i:Nat)→HL T (fields i)→T i
 |0,x=>⟨x.1,x.2.1⟩
 |1,x=>⟨x.1,x.2.1,x.2.2.1,x.2.2.2.1⟩
 |2,x=>⟨x.1,x.2.1,x.2.2.1⟩
 |3,x=>⟨x.1,x.2.1,x.2.2.1,x.2.2.2.1⟩
 |4,x=>⟨x.1,x.2.1,x.2.2.1⟩
 |5,x=>⟨x.1,x.2.1⟩
 |6,x=>⟨x.1,x.2.1,x.2.2.1,x.2.2.2.1⟩
 |7,x=>⟨x.1,x.2.1,x.2.2.1,x.2.2.2.1⟩
 |8,x=>⟨x.1,x.2.1⟩
 |9,x=>⟨x.1,x.2.1,x.2.2.1,x.2.2.2.1,x.2.2.2.2.1,x.2.2.2.2.2.1,x.2.2.2.2.2.2.1,x.2.2.2.2.2.2.2.1,x.2.2.2.2.2.2.2.2.1⟩
 |10,x=>⟨x.1,x.2.1,x.2.2.1,x.2.2.2.1,x.2.2.2.2.1,x.2.2.2.2.2.1,x.2.2.2.2.2.2.1,x.2.2.2.2.2.2.2.1,x.2.2.2.2.2.2.2.2.1⟩
 |11,x=>⟨x.1,x.2.1⟩
 |12,x=>⟨x.1,x.2.1,x.2.2.1,x.2.2.2.1,x.2.2.2.2.1,x.2.2.2.2.2.1,x.2.2.2.2.2.2.1,x.2.2.2.2.2.2.2.1⟩
 |13,x=>⟨x.1,x.2.1⟩
 |14,x=>⟨x.1,x.2.1⟩
 |15,x=>⟨x.1,x.2.1⟩
 |16,_=>⟨⟩
 |17,x=>⟨x.1⟩
 |18,x=>⟨x.1⟩
 |19,x=>⟨x.1⟩
 |20,x=>⟨x.1⟩
 |21,x=>⟨x.1⟩
 |22,x=>⟨x.1,x.2.1⟩
 |_+23,_=>()
def er:(i:Nat)→T i→T i→Bool
 |0,x,y=>N.bB.er x y
 |1,x,y=>N.aN.er x y
 |2,x,y=>N.bL.er x y
 |3,x,y=>N.bA.er x y
 |4,x,y=>N.aG.er x y
 |5,x,y=>N.bV.er x y
 |6,x,y=>N.aT.er x y
 |7,x,y=>N.bG.er x y
 |8,x,y=>N.b9.er x y
 |9,x,y=>N.ck.er x y
 |10,x,y=>N.aI.er x y
 |11,x,y=>N.aY.er x y
 |12,x,y=>N.bp.er x y
 |13,x,y=>N.ax.er x y
 |14,x,y=>N.gO.er x y
 |15,x,y=>N.bt.er x y
 |16,x,y=>N.fa.er x y
 |17,x,y=>N.dt.er x y
 |18,x,y=>N.cn.er x y
 |19,x,y=>N.bc.er x y
 |20,x,y=>N.bH.er x y
 |21,x,y=>N.cJ.er x y
 |22,x,y=>N.j0.er x y
 |_+23,_,_=>true
def zg:Nat→Nat
 |0=>2
 |1=>4
 |2=>3
 |3=>4
 |4=>3
 |5=>7
 |6=>4
 |7=>4
 |8=>2
 |9=>9
 |10=>16
 |11=>2
 |12=>8
 |13=>17
 |14=>2
 |15=>2
 |16=>0
 |17=>4
 |18=>1
 |19=>4
 |20=>1
 |21=>1
 |22=>2
 |_+23=>0
def Zd:List Nat:=[2,3,4,5,9,12,21,46,49,50,51,63,64,65,66,71,72,77,78,85,86,110,111,121,159,160,192,207,213,233,242,261,282,283,292,304,307,320,321,332,336,344,345,346,347]
def E:Env where
 T:=T
 fields:=fields
 out:=out
 CL:=CL
 er:=er
 zg:=zg
 tk:=fun t=>nth N3 t .other
 cmp:=fun t=>cX Zd t
theorem Kn: ∀i x,E.CL i (E.out i x)=x
 |0,_=>rfl
 |1,_=>rfl
 |2,_=>rfl
 |3,_=>rfl
 |4,_=>rfl
 |5,_=>rfl
 |6,_=>rfl
 |7,_=>rfl
 |8,_=>rfl
 |9,_=>rfl
 |10,_=>rfl
 |11,_=>rfl
 |12,_=>rfl
 |13,_=>rfl
 |14,_=>rfl
 |15,_=>rfl
 |16,_=>rfl
 |17,_=>rfl
 |18,_=>rfl
 |19,_=>rfl
 |20,_=>rfl
 |21,_=>rfl
 |22,_=>rfl
 |_+23,_=>rfl
theorem pe: ∀i r,E.out i (E.CL i r)=r
 |0,_=>rfl
 |1,_=>rfl
 |2,_=>rfl
 |3,_=>rfl
 |4,_=>rfl
 |5,_=>rfl
 |6,_=>rfl
 |7,_=>rfl
 |8,_=>rfl
 |9,_=>rfl
 |10,_=>rfl
 |11,_=>rfl
 |12,_=>rfl
 |13,_=>rfl
 |14,_=>rfl
 |15,_=>rfl
 |16,_=>rfl
 |17,_=>rfl
 |18,_=>rfl
 |19,_=>rfl
 |20,_=>rfl
 |21,_=>rfl
 |22,_=>rfl
 |_+23,()=>rfl
theorem Qk: ∀i,E.zg i=((E.fields i).map E.size).sum
 |0=>rfl
 |1=>rfl
 |2=>rfl
 |3=>rfl
 |4=>rfl
 |5=>rfl
 |6=>rfl
 |7=>rfl
 |8=>rfl
 |9=>rfl
 |10=>rfl
 |11=>rfl
 |12=>rfl
 |13=>rfl
 |14=>rfl
 |15=>rfl
 |16=>rfl
 |17=>rfl
 |18=>rfl
 |19=>rfl
 |20=>rfl
 |21=>rfl
 |22=>rfl
 |_+23=>rfl
theorem UM: ∀i x y,E.er i x y=Mx E (E.fields i) (E.out i x) (E.out i y)
 |0,_,_=>rfl
 |1,_,_=>rfl
 |2,_,_=>rfl
 |3,_,_=>rfl
 |4,_,_=>rfl
 |5,_,_=>rfl
 |6,_,_=>rfl
 |7,_,_=>rfl
 |8,_,_=>rfl
 |9,_,_=>rfl
 |10,_,_=>rfl
 |11,_,_=>rfl
 |12,_,_=>rfl
 |13,_,_=>rfl
 |14,_,_=>rfl
 |15,_,_=>rfl
 |16,_,_=>rfl
 |17,_,_=>rfl
 |18,_,_=>rfl
 |19,_,_=>rfl
 |20,_,_=>rfl
 |21,_,_=>rfl
 |22,_,_=>rfl
 |_+23,_,_=>rfl
theorem ok:dk E:=⟨Kn,pe,Qk⟩
theorem UT: ∀t,E.cmp t=true→Tryz.prog.eqGuardType Tryz.prog.depth t=false∧Tryz.prog.stoodInHeld t=false∧(∀fs,Tryz.prog.underlying t=some (.struct fs)→ ∀f∈fs.toList,E.cmp f.type=true)∧ ∀n e,Tryz.prog.underlying t=some (.array n e)→E.cmp e=true:=
 UU Tryz.prog Zd (by kernel_rfl)
theorem sound:Sound Tryz.prog E:=PQ ok UM UT N3 (fun _=>rfl) (tF N3 0 (by kernel_rfl) (by kernel_rfl))
theorem mix:Tryz.prog.follows .mixedOrders=true:=by kernel_rfl
abbrev SP:=Nat×D.Spec E
abbrev OK (p:SP):Prop:=nQ Tryz.prog E p.1 p.2
theorem go {x:cg E} {f:FuncId} {fn:Func} {c:Code} (hf:Tryz.prog.funcs[f]? =some fn) (hb:fn.body=some c) (hS:Gx Tryz.prog E x.S) (hD:Lt Tryz.prog E x.D) (hL:x.HV fn) (h:HW (x.B fn) x.i):aM Tryz.prog f x.ins:=cg.ok sound mix hf hb hS hD hL h
theorem mD {x:cg E} {f:FuncId} {fn:Func} {c:Code} (hf:Tryz.prog.funcs[f]? =some fn) (hb:fn.body=some c) (hS:Gx Tryz.prog E x.S) (hD:Lt Tryz.prog E x.D) (hL:x.HV fn) (h:HW (EL (x.B fn)) x.i):aM Tryz.prog f x.ins:=cg.okF sound mix hf hb hS hD hL h
end
open Go Go.Proofs.YtlejgahbbfeagaaGreatDoor.D Go.ChangeShapes Go.RowKit
open Go.Proofs.YtlejgahbbfeagaaGreatDoor
theorem one_le {H:Type} (d:DataW H):1≤Rows.uptoBulk d:=by
 cases d with
 |lit l=>cases l<;>simp[Rows.uptoBulk]
 |nil=>simp[Rows.uptoBulk]
 |ptr d=>simp[Rows.uptoBulk]
 |slice elems spare=>simp[Rows.uptoBulk]
 |agg parts=>simp[Rows.uptoBulk]
 |iface t d=>simp[Rows.uptoBulk]
 |map entries=>simp[Rows.uptoBulk]
 |held h=>simp[Rows.uptoBulk]
theorem Ir {H:Type} {d:DataW H} {l:List (DataW H)} (h:d∈l):Rows.uptoBulk d≤Rows.uptoBulkAll l:=by
 induction l with
 |nil=>cases h
 |cons x r ih=>
  simp only[Rows.uptoBulkAll]
  cases List.mem_cons.1 h with
  |inl e=>subst e;omega
  |inr e=>have:=ih e;omega
theorem length_le {H:Type} (l:List (DataW H)):l.length≤Rows.uptoBulkAll l:=by
 induction l with
 |nil=>simp[Rows.uptoBulkAll]
 |cons x r ih=>have:=one_le x;simp only[Rows.uptoBulkAll,List.length_cons];omega
theorem aey {H:Type}:Td (Rows.uptoBulk (H:=H)) where
 str:=fun b=>by simp[Rows.uptoBulk]
 len:=fun l r=>by have:=length_le l;simp only[Rows.uptoBulk];omega
 el:=fun l r d h=>by have:=Ir h;simp only[Rows.uptoBulk];omega
 part:=fun l d h=>by have:=Ir h;simp only[Rows.uptoBulk];omega
theorem own:ownKnob Tryz.prog.godebug=none:=by kernel_rfl
theorem laid:laidOutB Tryz.prog=true:=by kernel_rfl
theorem full: ∀t e,t<Tryz.prog.types.size→Tryz.prog.underlying t=some (.slice e)→0<Tryz.prog.cellsOf e:=fun t e=>slices_full_of Tryz.prog (by kernel_rfl) t e
theorem tl: ∀t,E.tk t≠ .other→t<Tryz.prog.types.size:=Ui (N3:=N3) (fun _=>rfl) (of_decide_eq_true (by kernel_rfl))
theorem bl:1048576≤dK:=of_decide_eq_true (by kernel_rfl)
theorem small {H:Type} {ds:List (DataW H)} (hk:Rows.uptoSmall H (ds++[])=true): ∀d∈ds,Rows.uptoBulk d≤1048576:=by
 rw[List.append_nil]at hk
 have h:Rows.uptoBulkAll ds≤1048576:=of_decide_eq_true hk
 exact fun d hd=>Nat.le_trans (Ir hd) h
def TV (g:Nat) (cs:List Value) (W:World):World:={W with heap:=W.heap.modify g fun
 | .cells _ t fz=> .cells cs.toArray t fz
 |o=>o}
open Go Go.RowKit Go.Shelf Go.Proofs Go.Proofs.YtlejgahbbfeagaaGreatDoor.D
open Go.Proofs.YtlejgahbbfeagaaGreatDoor.N (hZ ia)
attribute [local go_sem] Oper.semAt_some
noncomputable section
def xF:Go.Shelf.Ren:=⟨fun|105=>159|212=>223|99=>224|165=>225|166=>226|170=>227|169=>228|263=>277|264=>278|206=>279|240=>280|241=>281|276=>308|277=>309|n=>n,fun|9=>9|3=>3|4=>4|20=>20|0=>0|46=>261|109=>262|5=>5|72=>267|76=>271|51=>304|146=>305|53=>307|148=>308|70=>265|37=>44|75=>270|127=>310|164=>329|80=>102|n=>n,fun|n=>n⟩
theorem BB:Go.Proofs.Lays.n105 Tryz.prog xF:={
 mixed:=by kernel_rfl
 f99:=Tryz.func224.trans (congrArg some (by kernel_rfl))
 f105:=Tryz.func159.trans (congrArg some (by kernel_rfl))
 f165:=Tryz.func225.trans (congrArg some (by kernel_rfl))
 f166:=Tryz.func226.trans (congrArg some (by kernel_rfl))
 f169:=Tryz.func228.trans (congrArg some (by kernel_rfl))
 f170:=Tryz.func227.trans (congrArg some (by kernel_rfl))
 f206:=Tryz.func279.trans (congrArg some (by kernel_rfl))
 f212:=Tryz.func223.trans (congrArg some (by kernel_rfl))
 f240:=Tryz.func280.trans (congrArg some (by kernel_rfl))
 f241:=Tryz.func281.trans (congrArg some (by kernel_rfl))
 f263:=Tryz.func277.trans (congrArg some (by kernel_rfl))
 f264:=Tryz.func278.trans (congrArg some (by kernel_rfl))
 f276:=Tryz.func308.trans (congrArg some (by kernel_rfl))
 f277:=Tryz.func309.trans (congrArg some (by kernel_rfl))
 t0:=Tryz.underlying0
 a0:=Tryz.isAgg0
 z0:=Tryz.sizeOf0
 v0:=Tryz.zeroValue0
 t3:=Tryz.underlying3
 a3:=Tryz.isAgg3
 z3:=Tryz.sizeOf3
 v3:=Tryz.zeroValue3
 t4:=Tryz.underlying4
 a4:=Tryz.isAgg4
 z4:=Tryz.sizeOf4
 v4:=Tryz.zeroValue4
 t5:=Tryz.underlying5
 a5:=Tryz.isAgg5
 z5:=Tryz.sizeOf5
 v5:=Tryz.zeroValue5
 t9:=Tryz.underlying9
 a9:=Tryz.isAgg9
 z9:=Tryz.sizeOf9
 v9:=Tryz.zeroValue9
 t20:=Tryz.underlying20
 a20:=Tryz.isAgg20
 z20:=Tryz.sizeOf20
 v20:=Tryz.zeroValue20
 t37:=Tryz.underlying44
 a37:=Tryz.isAgg44
 z37:=Tryz.sizeOf44
 v37:=Tryz.zeroValue44
 t46:=Tryz.underlying261
 a46:=Tryz.isAgg261
 z46:=Tryz.sizeOf261
 v46:=Tryz.zeroValue261
 t51:=Tryz.underlying304
 a51:=Tryz.isAgg304
 z51:=Tryz.sizeOf304
 v51:=Tryz.zeroValue304
 t53:=Tryz.underlying307
 a53:=Tryz.isAgg307
 z53:=Tryz.sizeOf307
 v53:=Tryz.zeroValue307
 t70:=Tryz.underlying265
 a70:=Tryz.isAgg265
 z70:=Tryz.sizeOf265
 v70:=Tryz.zeroValue265
 t72:=Tryz.underlying267
 a72:=Tryz.isAgg267
 z72:=Tryz.sizeOf267
 v72:=Tryz.zeroValue267
 t75:=Tryz.underlying270
 a75:=Tryz.isAgg270
 z75:=Tryz.sizeOf270
 v75:=Tryz.zeroValue270
 t76:=Tryz.underlying271
 a76:=Tryz.isAgg271
 z76:=Tryz.sizeOf271
 v76:=Tryz.zeroValue271
 t109:=Tryz.underlying262
 a109:=Tryz.isAgg262
 z109:=Tryz.sizeOf262
 v109:=Tryz.zeroValue262
 t127:=Tryz.underlying310
 a127:=Tryz.isAgg310
 z127:=Tryz.sizeOf310
 v127:=Tryz.zeroValue310
 t146:=Tryz.underlying305
 a146:=Tryz.isAgg305
 z146:=Tryz.sizeOf305
 v146:=Tryz.zeroValue305
 t148:=Tryz.underlying308
 a148:=Tryz.isAgg308
 z148:=Tryz.sizeOf308
 v148:=Tryz.zeroValue308
 t164:=Tryz.underlying329
 a164:=Tryz.isAgg329
 z164:=Tryz.sizeOf329
 v164:=Tryz.zeroValue329}
theorem QP:Builder.Extra Tryz.prog xF:={
 sizeBuilder:=by kernel_rfl
 liesBuilder:=by kernel_rfl
 t5:=BB.t5
 a5:=BB.a5
 z5:=BB.z5
 v5:=BB.v5
 infoByte:=by kernel_rfl
 cellsByte:=by kernel_rfl
 sizeByte:=by kernel_rfl
 neB5:=by decide}
def po:Go.Shelf.Ren:=⟨fun|156=>191|165=>225|166=>226|169=>228|240=>280|241=>281|276=>308|277=>309|n=>n,fun|31=>24|9=>9|3=>3|4=>4|0=>0|20=>20|72=>267|76=>271|70=>265|37=>44|75=>270|127=>310|164=>329|5=>5|80=>102|n=>n,fun|n=>n⟩
theorem IK:Go.Proofs.Lays.n156 Tryz.prog po:={
 mixed:=by kernel_rfl
 f156:=Tryz.func191.trans (congrArg some (by kernel_rfl))
 f165:=Tryz.func225.trans (congrArg some (by kernel_rfl))
 f166:=Tryz.func226.trans (congrArg some (by kernel_rfl))
 f169:=Tryz.func228.trans (congrArg some (by kernel_rfl))
 f240:=Tryz.func280.trans (congrArg some (by kernel_rfl))
 f241:=Tryz.func281.trans (congrArg some (by kernel_rfl))
 f276:=Tryz.func308.trans (congrArg some (by kernel_rfl))
 f277:=Tryz.func309.trans (congrArg some (by kernel_rfl))
 t0:=Tryz.underlying0
 a0:=Tryz.isAgg0
 z0:=Tryz.sizeOf0
 v0:=Tryz.zeroValue0
 t3:=Tryz.underlying3
 a3:=Tryz.isAgg3
 z3:=Tryz.sizeOf3
 v3:=Tryz.zeroValue3
 t4:=Tryz.underlying4
 a4:=Tryz.isAgg4
 z4:=Tryz.sizeOf4
 v4:=Tryz.zeroValue4
 t9:=Tryz.underlying9
 a9:=Tryz.isAgg9
 z9:=Tryz.sizeOf9
 v9:=Tryz.zeroValue9
 t20:=Tryz.underlying20
 a20:=Tryz.isAgg20
 z20:=Tryz.sizeOf20
 v20:=Tryz.zeroValue20
 t31:=Tryz.underlying24
 a31:=Tryz.isAgg24
 z31:=Tryz.sizeOf24
 v31:=Tryz.zeroValue24
 t37:=Tryz.underlying44
 a37:=Tryz.isAgg44
 z37:=Tryz.sizeOf44
 v37:=Tryz.zeroValue44
 t70:=Tryz.underlying265
 a70:=Tryz.isAgg265
 z70:=Tryz.sizeOf265
 v70:=Tryz.zeroValue265
 t72:=Tryz.underlying267
 a72:=Tryz.isAgg267
 z72:=Tryz.sizeOf267
 v72:=Tryz.zeroValue267
 t75:=Tryz.underlying270
 a75:=Tryz.isAgg270
 z75:=Tryz.sizeOf270
 v75:=Tryz.zeroValue270
 t76:=Tryz.underlying271
 a76:=Tryz.isAgg271
 z76:=Tryz.sizeOf271
 v76:=Tryz.zeroValue271
 t127:=Tryz.underlying310
 a127:=Tryz.isAgg310
 z127:=Tryz.sizeOf310
 v127:=Tryz.zeroValue310
 t164:=Tryz.underlying329
 a164:=Tryz.isAgg329
 z164:=Tryz.sizeOf329
 v164:=Tryz.zeroValue329}
theorem FF:Builder.Extra Tryz.prog po:={
 sizeBuilder:=by kernel_rfl
 liesBuilder:=by kernel_rfl
 t5:=Tryz.underlying5
 a5:=Tryz.isAgg5
 z5:=Tryz.sizeOf5
 v5:=Tryz.zeroValue5
 infoByte:=by kernel_rfl
 cellsByte:=by kernel_rfl
 sizeByte:=by kernel_rfl
 neB5:=by decide}
noncomputable def S6:Nat×D.Spec E:=(159,.pure [.str,.int .i64] (Uo E))
theorem YW:nQ Tryz.prog E S6.1 S6.2:=Un Tryz.call159 (fun s c w hc hl=>by
 have h:=Any.strings_Repeat BB QP s c w hc hl
 have e:xF.f 105=159:=by kernel_rfl
 rw[e]at h
 exact h)
noncomputable def Vj:Nat×D.Spec E:=(191,.pure [.slice .str,.str] (QD E))
theorem adR:nQ Tryz.prog E Vj.1 Vj.2:=Si Tryz.call191 (fun a c sep w=>by
 have h:=Any.strings_Join_none IK FF a c sep w
 have e:po.f 156=191:=by kernel_rfl
 rw[e]at h
 exact h) (fun bk o c x sep w hc=>by
 have h:=Any.strings_Join_one IK FF bk o c x sep w hc
 have e:po.f 156=191:=by kernel_rfl
 rw[e]at h
 exact h) (fun bk o c xs sep w ha hb hc hd he hf=>by
 have h:=Any.strings_Join_many IK FF bk o c xs sep w ha hb hc hd he hf
 have e:po.f 156=191:=by kernel_rfl
 rw[e]at h
 exact h)
def y3 (n k:Nat):List Nat:=(List.range n).reverse.take k
theorem Da {n k:Nat} (h:k<n):y3 n (k+1)=y3 n k++[n-1-k]:=by
 unfold y3
 have:((List.range n).reverse)[k]? =some (n-1-k):=by
  rw[List.getElem?_reverse (by simpa using h),List.length_range,List.getElem?_range (by omega)]
 rw[List.take_add_one,this];rfl
def Om (ps:List (Int×ByteArray)) (j:Nat):Value:= .agg #[.int .i64 (ps[j]?.getD (0,⟨#[]⟩)).1,.string (ps[j]?.getD (0,⟨#[]⟩)).2]
set_option maxRecDepth 100000 in
set_option maxHeartbeats 2000000 in
theorem Rm (F:Fence) (n:Nat) (h302:F.fn 302) (hro:F.round=none) (hn:1≤n) (l Bs:Nat) (a:Option Addr) (b off len cap:Nat) (ps:List (Int×ByteArray)) (ks:List Nat) (hk1:Bs∈ks) (hk2:b∈ks) (hreach:len≤2147483648) (hcap:len≤cap) (ha:0<len→a=some ⟨b,off,none⟩) (J Jx:List Nat→World→Prop)
  (hY: ∀(pre:List Nat) (x:Nat) W,J pre W→pre.length<len→YieldAt F (n-1) Tryz.prog l #[.int .i64 (x:Int),Om ps x] W fun e W'=>
   (e= .returned (.bool true)∧J (pre++[x]) W'∧AP ks W W')∨(e= .returned (.bool false)∧Jx (pre++[x]) W'))
  (W:World) (hBs:W.cell? ⟨Bs,0,none⟩=some (.slice a len cap)) (hc0: ∀j,j<len→W.cell? ⟨b,off+j*2,none⟩=some (.int .i64 (ps[j]?.getD (0,⟨#[]⟩)).1)) (hc1: ∀j,j<len→W.cell? ⟨b,off+j*2+1,none⟩=some (.string (ps[j]?.getD (0,⟨#[]⟩)).2)) (h0:J [] W):
  CallsIn F n Tryz.prog 302 #[.func (.yield l) #[] #[],.pointer (some ⟨Bs,0,none⟩)] W fun e W'=>(∃v,e= .returned v)∧
   ((∃ys,ys=y3 len len∧J ys W')∨(∃pre,(∃k,k≤len∧pre=y3 len k)∧Jx pre W')):=by
 refine callsIn_of_wp Tryz.func302 rfl h302 ?_ hro
 simp only[Tryz.ntmps302,List.size_toArray,List.length_cons,List.length_nil,Nat.reduceAdd,Nat.reduceSub,Array.replicate_succ,Array.replicate_zero,List.push_toArray,List.append_toArray,List.nil_append,List.cons_append]
 gi_wp2
 gi_loopw [3] (fun i wr=> ∃k:Nat,k≤len∧i= .int .i64 ((len:Int)-1-(k:Int))∧J (y3 len k) wr∧AP ks W wr)
  (fun i _=>(intOf i+1).toNat)
 case atStart=>exact⟨0,Nat.zero_le _,by simp,h0,AP.refl _ _⟩
 case round=>
  obtain⟨k,hk,rfl,hJs,hnx⟩:=hrel
  have hBs':wr.cell? ⟨Bs,0,none⟩=some (.slice a len cap):=(hnx.cell (p:=⟨Bs,0,none⟩) hk1).trans hBs
  by_cases hlt:k<len
  ·obtain rfl:=ha (by omega)
   have hcl:(y3 len k).length=k:=by unfold y3;rw[List.length_take,List.length_reverse,List.length_range];omega
   obtain⟨fn,tmps,assign,body,hy,hR⟩:=hY (y3 len k) (len-1-k) wr hJs (by rw[hcl];exact hlt)
   obtain⟨m,hm⟩: ∃m:Nat,m=len-1-k:=⟨_,rfl⟩
   have he:(len:Int)-1-(k:Int)=(m:Int):=by omega
   have hml:m<len:=by omega
   have hcx0:wr.cell? ⟨b,off+m*2,none⟩=some (.int .i64 (ps[m]?.getD (0,⟨#[]⟩)).1):=(hnx.cell (p:=⟨b,off+m*2,none⟩) hk2).trans (hc0 m hml)
   have hcx1:wr.cell? ⟨b,off+m*2+1,none⟩=some (.string (ps[m]?.getD (0,⟨#[]⟩)).2):=(hnx.cell (p:=⟨b,off+m*2+1,none⟩) hk2).trans (hc1 m hml)
   rw[←hm]at hy hR
   rw[he]
   have hmk:m+(k+1)=len:=by omega
   have hcs:y3 len (k+1)=y3 len k++[m]:=by rw[Da hlt,←hm]
   clear hm
   unfold Om at hy
   generalize (ps[m]?.getD (0,⟨#[]⟩)).1=pa at*
   generalize (ps[m]?.getD (0,⟨#[]⟩)).2=pb at*
   gi_wp2
   refine hR.mono ?_
   rintro e W3 (⟨rfl,hJ3,hk3⟩|⟨rfl,hJx3⟩)
   ·have hk4:AP ks W W3:=hnx.trans hk3
    gi_wp2
    go_roundw
    case rel=>exact⟨k+1,by omega,by simp;omega,by rw[hcs];exact hJ3,hk4⟩
    case measure=>simp[intOf]<;>omega
   ·gi_wp2
    refine bodyPost_ret (results_none rfl _ _ _) rfl ?_
    exact⟨⟨_,rfl⟩,.inr ⟨_,⟨k+1,by omega,hcs.symm⟩,hJx3⟩⟩
  ·obtain rfl:k=len:=by omega
   gi_wp2
   go_end0
   exact⟨⟨_,rfl⟩,.inl ⟨_,rfl,hJs⟩⟩
set_option maxHeartbeats 1000000 in
theorem SQ (F:Fence) (n:Nat) (h266:F.fn 266) (hro:F.round=none) (a:Option Addr) (len cap:Nat) (w:World):
  CallsIn F n Tryz.prog 266 #[.slice a len cap] w fun e w'=>e= .returned (.func (.func 302) #[] #[.pointer (some ⟨w.heap.size,0,none⟩)])∧w'=w.alloc (.cells #[.slice a len cap] 25):=by
 refine callsIn_of_wp Tryz.func266 rfl h266 ?_ hro
 simp only[Tryz.ntmps266,List.size_toArray,List.length_cons,List.length_nil,Nat.reduceAdd,Nat.reduceSub,Array.replicate_succ,Array.replicate_zero,List.push_toArray,List.append_toArray,List.nil_append,List.cons_append]
 gi_wp2
 go_ret
 exact⟨rfl,rfl⟩
structure Jl (w:World) (b off len:Nat) (ps:List (Int×ByteArray)):Prop where
 at_: ∀j,j<len→w.cell? ⟨b,off+j*2,none⟩=some (.int .i64 (ps[j]?.getD (0,⟨#[]⟩)).1)
 b_: ∀j,j<len→w.cell? ⟨b,off+j*2+1,none⟩=some (.string (ps[j]?.getD (0,⟨#[]⟩)).2)
theorem MU (F:Fence) (n:Nat) (h302:F.fn 302) (hro:F.round=none) (hn:1≤n) (Bs:Nat) (a:Option Addr) (b off len cap:Nat) (ps:List (Int×ByteArray)) (w:World) (hBs:Bs<w.heap.size) (hb:0<len→b<w.heap.size) (hreach:len≤2147483648) (hcap:len≤cap) (ha:0<len→a=some ⟨b,off,none⟩)
  (hs:w.cell? ⟨Bs,0,none⟩=some (.slice a len cap)) (hp:Jl w b off len ps):
  SeqStopsK F n Tryz.prog 302 #[.pointer (some ⟨Bs,0,none⟩)] (fun x:Nat=> #[Value.int .i64 (x:Int),Om ps x]) (AP [Bs,b]) (fun ys=>ys=y3 len len) (fun pre=> ∃k,k≤len∧pre=y3 len k) len w:=
 fun l J Jx W hW _ _ hY h0=>Rm F n h302 hro hn l Bs a b off len cap ps [Bs,b] (by simp) (by simp) hreach hcap ha J Jx hY W ((hW.cell (p:=⟨Bs,0,none⟩) hBs).trans hs)
  (fun j hj=>(hW.cell (p:=⟨b,_,none⟩) (hb (by omega))).trans (hp.at_ j hj)) (fun j hj=>(hW.cell (p:=⟨b,_,none⟩) (hb (by omega))).trans (hp.b_ j hj)) h0
set_option maxRecDepth 100000 in
set_option maxHeartbeats 4000000 in
theorem PL (F:Fence) (n:Nat) (h165:F.fn 165) (hro:F.round=none) (la:Option Addr) (ln lc:Nat) (wa:Option Addr) (wn wc:Nat) (arm:Int) (down:Bool) (i:Int) (w:World) (hl1:ln≤2147483648):
  CallsIn F n Tryz.prog 165 #[.agg #[.slice la ln lc,.slice wa wn wc,.int .i64 arm,.bool down],.int .i64 i] w fun e w'=>e= .returned (.bool (!down&&(decide (0≤i)&&decide (i<(ln:Int)))))∧Below w.heap.size w w':=by
 refine callsIn_of_wp Tryz.func165 rfl h165 ?_ hro
 simp only[Tryz.ntmps165,List.size_toArray,List.length_cons,List.length_nil,Nat.reduceAdd,Nat.reduceSub,Array.replicate_succ,Array.replicate_zero,List.push_toArray,List.append_toArray,List.nil_append,List.cons_append]
 cases down
 all_goals gi_wp2
 all_goals refine bodyPost_ret (results_tmp rfl _ _ _) rfl ?_
 ·have h0:0≤i:=by assumption
  exact⟨by simp[h0],(Below.refl _ w).alloc (Nat.le_refl _) _⟩
 ·have h0: ¬0≤i:=by omega
  exact⟨by simp[h0],(Below.refl _ w).alloc (Nat.le_refl _) _⟩
 ·exact⟨by simp,(Below.refl _ w).alloc (Nat.le_refl _) _⟩
theorem JC (F:Fence) (n:Nat) (h165:F.fn 165) (hro:F.round=none) (la:Option Addr) (ln lc:Nat) (wa:Option Addr) (wn wc:Nat) (arm:Int) (down:Bool) (i:Int) (w:World) (hl1:ln≤2147483648) (x:Bool) (hx:(!down&&(decide (0≤i)&&decide (i<(ln:Int))))=x):
  CallsIn F n Tryz.prog 165 #[.agg #[.slice la ln lc,.slice wa wn wc,.int .i64 arm,.bool down],.int .i64 i] w fun e w'=>e= .returned (.bool x)∧Below w.heap.size w w':=by
 rw[←hx]
 exact PL F n h165 hro la ln lc wa wn wc arm down i w hl1
theorem Py {w w1:World} {la wa:Option Addr} {ln lc wn wc:Nat} {arm i:Int} {down:Bool}
  (hB1:Below ((((w.alloc (.cells #[.slice la ln lc,.slice wa wn wc,.int .i64 arm,.bool down] 27)).alloc (.cells #[.int .i64 i] 3)).alloc (.cells #[.string ⟨#[]⟩] 9)).alloc (.cells #[.bool false] 4)).heap.size ((((w.alloc (.cells #[.slice la ln lc,.slice wa wn wc,.int .i64 arm,.bool down] 27)).alloc (.cells #[.int .i64 i] 3)).alloc (.cells #[.string ⟨#[]⟩] 9)).alloc (.cells #[.bool false] 4)) w1):
  w1.heap[w.heap.size]? =some (.cells #[.slice la ln lc,.slice wa wn wc,.int .i64 arm,.bool down] 27 (0,0))∧Boxed w1 (w.heap.size+1) 3 (.int .i64 i)∧Boxed w1 (w.heap.size+1+1) 9 (.string ⟨#[]⟩)∧Boxed w1 (w.heap.size+1+1+1) 4 (.bool false)∧Below w.heap.size w w1∧w.heap.size+4≤w1.heap.size:=by
 have hD:=World.alloc_heap_new w (.cells #[.slice la ln lc,.slice wa wn wc,.int .i64 arm,.bool down] 27)
 have hI:=((Boxed.new (w.alloc (.cells #[.slice la ln lc,.slice wa wn wc,.int .i64 arm,.bool down] 27)) 3 (.int .i64 i)).alloc (.cells #[.string ⟨#[]⟩] 9)).alloc (.cells #[.bool false] 4)
 have hS:=(Boxed.new ((w.alloc (.cells #[.slice la ln lc,.slice wa wn wc,.int .i64 arm,.bool down] 27)).alloc (.cells #[.int .i64 i] 3)) 9 (.string ⟨#[]⟩)).alloc (.cells #[.bool false] 4)
 have hO:=Boxed.new (((w.alloc (.cells #[.slice la ln lc,.slice wa wn wc,.int .i64 arm,.bool down] 27)).alloc (.cells #[.int .i64 i] 3)).alloc (.cells #[.string ⟨#[]⟩] 9)) 4 (.bool false)
 have hBw:Below w.heap.size w ((((w.alloc (.cells #[.slice la ln lc,.slice wa wn wc,.int .i64 arm,.bool down] 27)).alloc (.cells #[.int .i64 i] 3)).alloc (.cells #[.string ⟨#[]⟩] 9)).alloc (.cells #[.bool false] 4)):=((((Below.refl _ w).alloc (Nat.le_refl _) _).alloc (by simp<;>omega) _).alloc (by simp<;>omega) _).alloc (by simp<;>omega) _
 have hB2:=hBw.trans (hB1.mono hBw.size)
 have hz:=hB1.size
 simp only[World.size_alloc]at hS hO hI hB1 hz
 exact⟨(hB1.block _ (by omega)).trans ((Below.heap_alloc _ _ _ (by simp<;>omega)).trans ((Below.heap_alloc _ _ _ (by simp<;>omega)).trans ((Below.heap_alloc _ _ _ (by simp<;>omega)).trans hD))),(hB1.block _ (by omega)).trans hI,(hB1.block _ (by omega)).trans hS,(hB1.block _ (by omega)).trans hO,hB2,by omega⟩
theorem AP.Qi {ks:List Nat} {W W':World} {m:Nat} (h:Below m W W') (hks: ∀k∈ks,k<m):AP ks W W':=⟨h.size,fun b hb=>h.block b (hks b hb)⟩
def TR (ls:List ByteArray) (ps:List (Int×ByteArray)) (down:Bool) (i:Int) (s:ByteArray) (b:Bool):Prop:=
 (b=false∧s=⟨#[]⟩∧(!down&&(decide (0≤i)&&decide (i<(ls.length:Int))))=false)∨
 (b=true∧(!down&&(decide (0≤i)&&decide (i<(ls.length:Int))))=true∧
  ((∃m,m<ps.length∧(ps[m]?.getD (0,⟨#[]⟩)).1=i∧s=(ps[m]?.getD (0,⟨#[]⟩)).2∧ ∀j,m<j→j<ps.length→(ps[j]?.getD (0,⟨#[]⟩)).1≠i)∨((∀j,j<ps.length→(ps[j]?.getD (0,⟨#[]⟩)).1≠i)∧ls[i.toNat]? =some s)))
theorem La {n k x:Nat} (hk:k≤n):x∈y3 n k↔n-k≤x∧x<n:=by
 induction k with
 |zero=>simp[y3]<;>omega
 |succ k ih=>rw[Da (by omega),List.mem_append,ih (by omega),List.mem_singleton];omega
set_option maxRecDepth 100000 in
set_option maxHeartbeats 4000000 in
theorem RX (F:Fence) (n:Nat) (h193:F.fn 193) (h165:F.fn 165) (h266:F.fn 266) (h302:F.fn 302) (hro:F.round=none) (hn:3≤n) (la:Option Addr) (lb lo ln lc:Nat) (wa:Option Addr) (wb wo wn wc:Nat) (arm:Int) (down:Bool) (i:Int) (ls:List ByteArray) (ps:List (Int×ByteArray)) (w:World)
  (hln:ls.length=ln) (hl1:ln≤2147483648) (hl2:ln≤lc) (hla:0<ln→la=some ⟨lb,lo,none⟩) (hlb:0<ln→lb<w.heap.size) (hlc: ∀(j:Nat) x,ls[j]? =some x→w.cell? ⟨lb,lo+j,none⟩=some (.string x))
  (hwn:ps.length=wn) (hw1:wn≤2147483648) (hw2:wn≤wc) (hwa:0<wn→wa=some ⟨wb,wo,none⟩) (hwb:0<wn→wb<w.heap.size) (hwb2:wb≤w.heap.size) (hwc:Jl w wb wo wn ps):
  CallsIn F n Tryz.prog 193 #[.agg #[.slice la ln lc,.slice wa wn wc,.int .i64 arm,.bool down],.int .i64 i] w fun e w'=>(∃s b,e= .returned (.tuple #[.string s,.bool b])∧TR ls ps down i s b)∧Below w.heap.size w w':=by
 have h1:1≤n:=by omega
 refine callsIn_of_wp_marks Tryz.func193 rfl h193 ?_ hro
 simp only[Tryz.ntmps193,List.size_toArray,List.length_cons,List.length_nil,Nat.reduceAdd,Nat.reduceSub,Array.replicate_succ,Array.replicate_zero,List.push_toArray,List.append_toArray,List.nil_append,List.cons_append]
 cases hth:(!down&&(decide (0≤i)&&decide (i<(ln:Int))))with
 |false=>
  gi_wp2_with (gi_at_call 165;refine(JC F (n-1) h165 hro _ _ _ _ _ _ _ _ _ _ hl1 _ hth).mono ?_;rintro e w1 ⟨rfl,hB1⟩;obtain⟨hD1,hI1,hS1,hO1,hBw,hz⟩:=Py hB1;have hSc:=hS1.cell;have hSf:=hS1.frozen;have hOc:=hO1.cell;have hOf:=hO1.frozen)
  refine⟨.tuple #[.string ⟨#[]⟩,.bool false],?_,⟨⟨#[]⟩,false,rfl,.inl ⟨rfl,rfl,by rw[hln];exact hth⟩⟩,(hBw.setCell (p:=⟨w.heap.size+1+1,0,none⟩) (by simp<;>omega) _).setCell (p:=⟨w.heap.size+1+1+1,0,none⟩) (by simp<;>omega) _⟩
  have hc4:=((hS1.set (.string ⟨#[]⟩)).other (show w.heap.size+1+1≠w.heap.size+1+1+1 by omega) (.bool false)).cell
  have hc5:=((hO1.other (show w.heap.size+1+1+1≠w.heap.size+1+1 by omega) (.string ⟨#[]⟩)).set (.bool false)).cell
  simp[results,Tryz.f193,go_sem,hc4,hc5]
 |true=>
  gi_wp2_with (first
   |(gi_at_call 165;refine(JC F (n-1) h165 hro _ _ _ _ _ _ _ _ _ _ hl1 _ hth).mono ?_;rintro e w1 ⟨rfl,hB1⟩;obtain⟨hD1,hI1,hS1,hO1,hBw,hz⟩:=Py hB1;have hDw:w1.cell? ⟨w.heap.size,1,none⟩=some (.slice wa wn wc):=(by simp[World.cell?,hD1]))
   |(gi_at_call 266;refine(SQ F (n-1) h266 hro _ _ _ _).mono ?_;rintro e w' ⟨rfl,rfl⟩))
  have bN:=Boxed.new w1 25 (.slice wa wn wc)
  obtain⟨Wb,hWb⟩: ∃Wb,w1.alloc (.cells #[.slice wa wn wc] 25)=Wb:=⟨_,rfl⟩
  have hsz:Wb.heap.size=w1.heap.size+1:=by rw[←hWb];simp
  have hI2:=hI1.alloc (.cells #[.slice wa wn wc] 25)
  have hS2:=hS1.alloc (.cells #[.slice wa wn wc] 25)
  have hO2:=hO1.alloc (.cells #[.slice wa wn wc] 25)
  have hD2:=(Below.heap_alloc w1 (.cells #[.slice wa wn wc] 25) w.heap.size (by omega)).trans hD1
  have hBb:Below w.heap.size w (w1.alloc (.cells #[.slice wa wn wc] 25)):=hBw.alloc hBw.size _
  rw[hWb]at bN hI2 hS2 hO2 hD2 hBb⊢
  have hpW:Jl Wb wb wo wn ps:=⟨fun j hj=>(hBb.cell (p:=⟨wb,_,none⟩) (hwb (by omega))).trans (hwc.at_ j hj),fun j hj=>(hBb.cell (p:=⟨wb,_,none⟩) (hwb (by omega))).trans (hwc.b_ j hj)⟩
  refine wpIn_rangeFunc_ownH hro h1 (gf:=302) (lb:= #[.pointer (some ⟨w1.heap.size,0,none⟩)]) rfl h302 (enters_of Tryz.func302 (by kernel_rfl) rfl)
   (MU F (n-1) h302 hro (by omega) w1.heap.size wa wb wo wn wc ps Wb (by omega) (fun _=>by omega) hw1 hw2 hwa bN.cell hpW) (fun h k=>AP.trans h k) (fun W l o o' hl hh _ _=>AP.putObj hl hh (fun k hk=>by
    rcases List.mem_cons.1 hk with rfl|hk
    ·omega
    ·rw[List.mem_singleton.1 hk];omega)) (Below.refl _ _) (fun _=>rfl)
   (fun pre W=>(∀x∈pre,(ps[x]?.getD (0,⟨#[]⟩)).1≠i)∧Below Wb.heap.size Wb W)
   (fun c pre W=>(c= .ret∧ ∃ini last,pre=ini++[last]∧(∀x∈ini,(ps[x]?.getD (0,⟨#[]⟩)).1≠i)∧(ps[last]?.getD (0,⟨#[]⟩)).1=i∧Boxed W (w.heap.size+1+1) 9 (.string (ps[last]?.getD (0,⟨#[]⟩)).2)∧Boxed W (w.heap.size+1+1+1) 4 (.bool true))∧Below w.heap.size w W)
   (OwnFrom.and (fun s A B row hs hg hr=>hs) (ownFrom_below (Nat.le_refl _) (Nat.le_refl _)))
   (fun c=>OwnFrom.and (Own.from (fun s A B row hs hg hr=>by
    obtain⟨hc,ini,last,e1,e2,e3,e4,e5⟩:=hs
    exact⟨hc,ini,last,e1,e2,e3,boxed_own (β:=Unit) _ _ (fun _=>Value.string (ps[last]?.getD (0,⟨#[]⟩)).2) () A B row e4 hg hr,boxed_own (β:=Unit) _ _ (fun _=>Value.bool true) () A B row e5 hg hr⟩) _) (ownFrom_below (Nat.le_refl _) hBb.size))
   ⟨(fun x hx=>by cases hx),Below.refl _ _⟩
   (fun x a' W=> ∃Bx,Wb.heap.size≤Bx∧W.heap[Bx]? =some (.cells #[.int .i64 (ps[x]?.getD (0,⟨#[]⟩)).1,.string (ps[x]?.getD (0,⟨#[]⟩)).2] 111 (0,0))∧a'={tmps:= #[.agg #[.slice la ln lc,.slice wa wn wc,.int .i64 arm,.bool down],.int .i64 i,.pointer (some ⟨w.heap.size,0,none⟩),.pointer (some ⟨w.heap.size+1,0,none⟩),.pointer (some ⟨w.heap.size+1+1,0,none⟩),.pointer (some ⟨w.heap.size+1+1+1,0,none⟩),undef,.pointer (some ⟨Bx,0,none⟩),.agg #[.slice la ln lc,.slice wa wn wc,.int .i64 arm,.bool down],.int .i64 i,.bool true,.bool false,.pointer (some ⟨w.heap.size,1,none⟩),.slice wa wn wc,.func (.func 302) #[] #[.pointer (some ⟨w1.heap.size,0,none⟩)],.int .i64 (x:Int),Om ps x,undef,undef,undef,undef,undef,undef,undef,undef,undef,undef,undef],defers:=[]})
   (fun x a' _ X Y row hs hg hr=>by obtain⟨Bx,e1,e2,e3⟩:=hs;exact⟨Bx,e1,(grownBy_keeps_cells hg (fun r e=>(hr r e).2) e2 rfl).trans e2,e3⟩)
   ?assign ?body ?done ?stop
  case assign=>
   rintro l pre x W K ⟨hne,hB⟩ hK
   unfold Om at hK⊢
   gi_wp2
   have hks: ∀k∈[w1.heap.size,wb],k<W.heap.size:=by
    have:=hB.size
    have:=hBb.size
    intro k hk
    rcases List.mem_cons.1 hk with rfl|hk
    ·omega
    ·rw[List.mem_singleton.1 hk];omega
   exact hK _ _ ((KeepsOthers.alloc _ _).from _) (AP.Qi ((Below.refl W.heap.size W).alloc (Nat.le_refl _) _) hks) ⟨hne,hB.alloc hB.size _⟩ ⟨W.heap.size,hB.size,World.alloc_heap_new W _,rfl⟩
  case body=>
   rintro l pre x a' W hl ⟨r,hr⟩ ⟨hne,hB⟩ ⟨Bx,hBx,bX,rfl⟩ hlt
   unfold Om
   have hx0:W.cell? ⟨Bx,0,none⟩=some (.int .i64 (ps[x]?.getD (0,⟨#[]⟩)).1):=by simp[World.cell?,bX]
   have hx1:W.cell? ⟨Bx,1,none⟩=some (.string (ps[x]?.getD (0,⟨#[]⟩)).2):=by simp[World.cell?,bX]
   have hIW:Boxed W (w.heap.size+1) 3 (.int .i64 i):=(hB.block _ (by omega)).trans hI2
   have hSW:Boxed W (w.heap.size+1+1) 9 (.string ⟨#[]⟩):=(hB.block _ (by omega)).trans hS2
   have hOW:Boxed W (w.heap.size+1+1+1) 4 (.bool false):=(hB.block _ (by omega)).trans hO2
   have hIc:=hIW.cell
   have hSc:=hSW.cell
   have hSf:=hSW.frozen
   have hOc:=hOW.cell
   have hOf:=hOW.frozen
   have hBW:=hBb.trans (hB.mono hBb.size)
   generalize hpa:(ps[x]?.getD (0,⟨#[]⟩)).1=pa at hx0
   generalize hpb:(ps[x]?.getD (0,⟨#[]⟩)).2=pb at hx1
   gi_wp2
   ·have he:pa=i:=eq_of_beq (by assumption)
    exact⟨((KeepsOthers.setCell _ _ _).trans (KeepsOthers.setCell _ _ _)).from _,⟨rfl,pre,x,rfl,hne,hpa.trans he,by rw[hpb];exact(hSW.set (.string pb)).other (by omega) _,(hOW.other (by omega) _).set (.bool true)⟩,(hBW.setCell (p:=⟨w.heap.size+1+1,0,none⟩) (by simp<;>omega) _).setCell (p:=⟨w.heap.size+1+1+1,0,none⟩) (by simp<;>omega) _⟩
   ·have he: ¬pa=i:=by
     have:(pa==i)=false:=by assumption
     exact ne_of_beq_false this
    exact⟨KeepsFrom.refl _ _,AP.refl _ _,⟨fun y hy=>(List.mem_append.1 hy).elim (hne y) (fun e=>by rw[List.mem_singleton.1 e,hpa];exact he),hB⟩⟩
  case done=>
   rintro D ys W hD rfl ⟨hne,hB⟩ hK
   simp only[Bool.and_eq_true,decide_eq_true_eq]at hth
   obtain⟨hdn,hi0,hi1⟩:=hth
   obtain⟨m,rfl⟩: ∃m:Nat,i=(m:Int):=⟨i.toNat,(Int.toNat_of_nonneg hi0).symm⟩
   have hm:m<ln:=by omega
   obtain rfl:=hla (by omega)
   obtain⟨s,hs⟩: ∃s,ls[m]? =some s:=⟨_,List.getElem?_eq_getElem (by omega)⟩
   have hIW:Boxed W (w.heap.size+1) 3 (.int .i64 (m:Int)):=(hB.block _ (by omega)).trans hI2
   have hSW:Boxed W (w.heap.size+1+1) 9 (.string ⟨#[]⟩):=(hB.block _ (by omega)).trans hS2
   have hOW:Boxed W (w.heap.size+1+1+1) 4 (.bool false):=(hB.block _ (by omega)).trans hO2
   have hDW:=(hB.block _ (by omega)).trans hD2
   have hD0:W.cell? ⟨w.heap.size,0,none⟩=some (.slice (some ⟨lb,lo,none⟩) ln lc):=by simp[World.cell?,hDW]
   have hBW:=hBb.trans (hB.mono hBb.size)
   have hlW:W.cell? ⟨lb,lo+m,none⟩=some (.string s):=(hBW.cell (p:=⟨lb,lo+m,none⟩) (hlb (by omega))).trans (hlc m s hs)
   have hIc:=hIW.cell
   have hSc:=hSW.cell
   have hSf:=hSW.frozen
   have hOc:=hOW.cell
   have hOf:=hOW.frozen
   gi_wp2
   have hK':=((KeepsOthers.setCell W ⟨w.heap.size+1+1,0,none⟩ (.string s)).trans (KeepsOthers.setCell _ ⟨w.heap.size+1+1+1,0,none⟩ (.bool true))).same D _ hK rfl
   refine⟨by simp,.inl ⟨_,_,rfl,run_takeDeferred hK',?_⟩⟩
   have hc4:=cell_kept ((hSW.set (.string s)).other (show w.heap.size+1+1≠w.heap.size+1+1+1 by omega) (.bool true)).cell (grownBy_putObj' _ D (.deferred none)) (fun r e=>by cases e;exact⟨_,hK',rfl⟩)
   have hc5:=cell_kept ((hOW.other (show w.heap.size+1+1+1≠w.heap.size+1+1 by omega) (.string s)).set (.bool true)).cell (grownBy_putObj' _ D (.deferred none)) (fun r e=>by cases e;exact⟨_,hK',rfl⟩)
   have hrv:TR ls ps down (m:Int) s true:= .inr ⟨rfl,by rw[hln];simp[hdn,hm],.inr ⟨fun j hj=>hne j ((La (Nat.le_refl _)).2 ⟨by omega,by omega⟩),by simpa using hs⟩⟩
   refine⟨.tuple #[.string s,.bool true],?_,(by first|exact⟨s,true,rfl,hrv⟩|exact⟨s,.inr ⟨rfl,hrv⟩⟩),?_⟩
   ·simp[results,Tryz.f193,go_sem,hc4,hc5]
   ·exact(((hBW.setCell (p:=⟨w.heap.size+1+1,0,none⟩) (by simp<;>omega) _).setCell (p:=⟨w.heap.size+1+1+1,0,none⟩) (by simp<;>omega) _)).trans (belowK_b (w:=w) (Nat.le_refl _) _ D _ (.deferred none) (by have:=hBb.size;omega) hK' rfl rfl)
  case stop=>
   rintro D c pre W hD ⟨k,hk,rfl⟩ ⟨⟨rfl,ini,last,e1,e2,e3,e4,e5⟩,hB⟩ hK
   gi_wp2
   refine⟨by simp,.inl ⟨_,_,rfl,run_takeDeferred hK,?_⟩⟩
   have hc4:=cell_kept e4.cell (grownBy_putObj' _ D (.deferred none)) (fun r e=>by cases e;exact⟨_,hK,rfl⟩)
   have hc5:=cell_kept e5.cell (grownBy_putObj' _ D (.deferred none)) (fun r e=>by cases e;exact⟨_,hK,rfl⟩)
   obtain⟨k',rfl⟩: ∃k',k=k'+1:=by
    cases k with
    |zero=>simp[y3]at e1
    |succ k'=>exact⟨k',rfl⟩
   rw[Da (by omega)]at e1
   obtain⟨rfl,e6⟩:=List.append_inj' e1 rfl
   obtain rfl:wn-1-k'=last:=by simpa using e6
   refine⟨.tuple #[.string (ps[wn-1-k']?.getD (0,⟨#[]⟩)).2,.bool true],?_,⟨_,true,rfl,.inr ⟨rfl,by rw[hln];exact hth,.inl ⟨wn-1-k',by omega,e3,rfl,fun j h1 h2=>e2 j ((La (by omega)).2 ⟨by omega,by omega⟩)⟩⟩⟩,?_⟩
   ·simp[results,Tryz.f193,go_sem,hc4,hc5]
   ·exact hB.trans (belowK_b (w:=w) (Nat.le_refl _) W D _ (.deferred none) (by have:=hBb.size;omega) hK rfl rfl)
theorem G0 {w:World} {M:Nat→Prop} {e:Ty} {xs:List (I E.T e)} {cs:List Value} (h:cx E w M (.slice e) xs cs): ∃a cap cs',cs=[.slice a xs.length cap]∧bD E w M e xs cs'∧(xs=[]∨Mem w M a cs')∧xs.length≤dK∧xs.length≤cap:=by
 cases h with
 |slice e xs a cap cs hl hm hn hc=>exact⟨a,cap,cs,rfl,hl,hm,hn,hc⟩
theorem Ok {w:World} {M:Nat→Prop} (y:N.bB) {c:List Value} (h:l7 E w M [.int .i64,.str] (y.At,y.B,()) c): ∃s:ByteArray,s.data.toList=y.B∧c=[.int .i64 y.At,.string s]∧s.size≤dK:=by
 obtain⟨ya,yb⟩:=y
 cases h with
 |cons t ts x r' d1 d2 h1 h2=>
  cases h1
  cases h2 with
  |cons t ts x r' d3 d4 h3 h4=>
   cases h4
   cases h3 with
   |str s hs=>exact⟨s,rfl,rfl,hs⟩
theorem LW {w:World} {M:Nat→Prop} {l:List (I E.T (.named 0))} {cs:List Value} (h:bD E w M (.named 0) l cs): ∃ps:List (Int×ByteArray),ps.map (fun p=>(N.bB.mk p.1 p.2.data.toList:I E.T (.named 0)))=l∧
  ∀j,j<ps.length→cs[j*2]? =some (.int .i64 (ps[j]?.getD (0,⟨#[]⟩)).1)∧cs[j*2+1]? =some (.string (ps[j]?.getD (0,⟨#[]⟩)).2)∧(ps[j]?.getD (0,⟨#[]⟩)).2.size≤dK:=by
 induction l generalizing cs with
 |nil=>cases h;exact⟨[],rfl,fun j hj=>absurd hj (Nat.not_lt_zero j)⟩
 |cons y r ih=>
  cases h with
  |cons e x r c1 c2 h h'=>
   cases h with
   |named i x cs h=>
    obtain⟨s,hs,rfl,hsz⟩:=Ok (w:=w) (M:=M) y h
    obtain⟨ps,h1,h2⟩:=ih h'
    refine⟨((show N.bB from y).At,s) ::ps,?_,fun j hj=> ?_⟩
    ·rw[List.map_cons,h1]
     refine congrArg (· ::r) ?_
     show N.bB.mk (N.bB.At y) s.data.toList=y
     rw[hs];rfl
    ·cases j with
     |zero=>exact⟨rfl,rfl,hsz⟩
     |succ j=>
      have:=h2 j (by simpa using hj)
      rw[show(j+1)*2=j*2+2 by omega,show j*2+2+1=(j*2+1)+2 by omega]
      exact this
def P2:List (az E.T)→Tree (iR E.T)
 |[.val (.named 1) d,.val (.int .i64) i]=> .ret (.ret [.val .str (N.fC d i).1,.val .bool (N.fC d i).2])
 |_=> .fail
theorem Il:nQ Tryz.prog E 193 (.pure [.named 1,.int .i64] P2):=by
 refine⟨Tryz.call193,fun{σ w ds us r} hst hds hr=> ?_⟩
 unfold P2 at hr
 split at hr
 ·rename_i d i
  cases hr
  cases hds with
  |cons v r u us hd h2=>
  cases h2 with
  |cons v r u2 us hi h3=>
  cases h3
  have:=jd hi;subst this
  cases hd with
  |data t dd cs hvt=>
  cases hvt with
  |val t x cs hc=>
  cases hc with
  |named k x cs hf=>
  have hf:l7 E w (MB σ ([]:St E.T)) [.slice .str,.slice (.named 0),.int .i64,.bool] (d.aU,d.bC,d.gR,d.Down,()) cs:=hf
  cases hf with
  |cons t ts x r c1 c2 g1 g2=>
  cases g2 with
  |cons t ts x r c3 c4 g3 g4=>
  cases g4 with
  |cons t ts x r c5 c6 g5 g6=>
  cases g6 with
  |cons t ts x r c7 c8 g7 g8=>
  cases g8
  cases g5
  cases g7
  obtain⟨la,lc,lcs,rfl,hl,hm,hn,hcap⟩:=G0 (e:= .str) (xs:=d.aU) g1
  obtain⟨wa,wc,wcs,rfl,hwl,hwm,hwn,hwcap⟩:=G0 (e:= .named 0) (xs:=d.bC) g3
  obtain⟨ls,hls,hlcs,hlsz⟩:=zD hl
  obtain⟨ps,hps',hpcs⟩:=LW hwl
  have hps:ps.map (fun p=>N.bB.mk p.1 p.2.data.toList)=d.bC:=hps'
  have hlen:ls.length=d.aU.length:=by rw[←hls,List.length_map]
  have hwlen:ps.length=d.bC.length:=by rw[←hps,List.length_map]
  obtain⟨lb,lo,hla,hlb,hlc⟩: ∃lb lo,(0<d.aU.length→la=some ⟨lb,lo,none⟩)∧(0<d.aU.length→lb<w.heap.size)∧ ∀(j:Nat) x,ls[j]? =some x→w.cell? ⟨lb,lo+j,none⟩=some (.string x):=by
   rcases hm with h|⟨lb,lo,rfl,_,hlt,hcell⟩
   ·have h0:ls=[]:=List.eq_nil_of_length_eq_zero (by rw[hlen,h];rfl)
    exact⟨0,0,fun h'=>by rw[h]at h';exact absurd h' (Nat.lt_irrefl 0),fun h'=>by rw[h]at h';exact absurd h' (Nat.lt_irrefl 0),fun j x hx=>by rw[h0]at hx;cases hx⟩
   ·exact⟨lb,lo,fun _=>rfl,fun _=>hlt,fun j x hx=>hcell j _ (by rw[hlcs,List.getElem?_map,hx];rfl)⟩
  obtain⟨wb,wo,hwa,hwb,hwb2,hwc⟩: ∃wb wo,(0<d.bC.length→wa=some ⟨wb,wo,none⟩)∧(0<d.bC.length→wb<w.heap.size)∧wb≤w.heap.size∧Jl w wb wo d.bC.length ps:=by
   rcases hwm with h|⟨wb,wo,rfl,_,hlt,hcell⟩
   ·exact⟨0,0,fun h'=>by rw[h]at h';exact absurd h' (Nat.lt_irrefl 0),fun h'=>by rw[h]at h';exact absurd h' (Nat.lt_irrefl 0),Nat.zero_le _,⟨fun j hj=>by rw[h]at hj;exact absurd hj (Nat.not_lt_zero j),fun j hj=>by rw[h]at hj;exact absurd hj (Nat.not_lt_zero j)⟩⟩
   ·exact⟨wb,wo,fun _=>rfl,fun _=>hlt,Nat.le_of_lt hlt,⟨fun j hj=>hcell _ _ (hpcs j (by omega)).1,fun j hj=>by rw[Nat.add_assoc];exact hcell _ _ (hpcs j (by omega)).2.1⟩⟩
  have hcall:=callsIn_wide.1 (RX .wide 3 trivial trivial trivial trivial rfl (Nat.le_refl _) la lb lo d.aU.length lc wa wb wo d.bC.length wc d.gR d.Down i ls ps w hlen hn hcap hla hlb hlc hwlen hwn hwcap hwa hwb hwb2 hwc)
  refine Calls.mono hcall (fun en w' ⟨⟨s,b,he,hv⟩,hbel⟩=>⟨σ,ym hst hbel,?_⟩)
  rw[he]
  have hres:N.fC d i=(s.data.toList,b):=by
   unfold N.fC
   rcases hv with⟨rfl,rfl,hc⟩|⟨rfl,hc,hor⟩
   ·rw[hlen]at hc;rw[hc];rfl
   ·rw[hlen]at hc;rw[hc]
    simp only[cond_true]
    rcases hor with⟨m,h1,h2,rfl,h4⟩|⟨h1,h2⟩
    ·have hpm:ps[m]? =some ps[m]:=List.getElem?_eq_getElem h1
     rw[hpm]at h2
     have hw:d.bC[m]? =some (N.bB.mk ps[m].1 ps[m].2.data.toList):=by rw[←hps,List.getElem?_map,hpm];rfl
     rw[N.Mu hw h2 (fun j q hj hq=>by
      rw[←hps,List.getElem?_map]at hq
      obtain⟨pj,hpj,rfl⟩:=Option.map_eq_some_iff.1 hq
      have:=h4 j hj (List.getElem?_eq_some_iff.1 hpj).1
      rw[hpj]at this
      exact this),hpm]
     rfl
    ·rw[N.FC (fun q hq=>by
      rw[←hps]at hq
      obtain⟨pj,hpj,rfl⟩:=List.mem_map.1 hq
      obtain⟨j,hj,rfl⟩:=List.getElem_of_mem hpj
      have:=h1 j hj
      rw[List.getElem?_eq_getElem hj]at this
      exact this)]
     have:d.aU[i.toNat]? =some s.data.toList:=by rw[←hls,List.getElem?_map,h2];rfl
     rw[List.getD_eq_getElem?_getD,this];rfl
  have hsl:s.data.toList.length≤dK:=by
   rcases hv with⟨rfl,rfl,hc⟩|⟨rfl,hc,hor⟩
   ·exact Nat.zero_le _
   ·rcases hor with⟨m,h1,h2,rfl,h4⟩|⟨h1,h2⟩
    ·exact(hpcs m h1).2.2
    ·exact hlsz s (List.mem_of_getElem? h2)
  show aZ E σ [] w' _ (.jk [.val .str (N.fC d i).1,.val .bool (N.fC d i).2]) _
  rw[hres]
  exact .jk _ [.string s,.bool b] (.cons _ _ _ _ (by have:=Ib (E:=E) (w:=w') (σ:=σ) (st:=[]) (M:=MB σ ([]:St E.T)) hsl;simpa using this) (.cons _ _ _ _ (.data .bool _ _ (.val .bool b _ (.bool b))) .nil))
 ·cases hr
noncomputable def Rt:Nat×D.Spec E:=(193,.pure [.named 1,.int .i64] P2)
theorem Uy:nQ Tryz.prog E Rt.1 Rt.2:=Il
theorem UK:(Tryz.prog.info? 9).map (fun i=>(i.zero,i.size,i.bytes))=some (some (.string ⟨#[]⟩),1,16):=by kernel_rfl
set_option maxRecDepth 100000 in
set_option maxHeartbeats 2000000 in
theorem Ph (F:Fence) (n:Nat) (h237:F.fn 237) (hro:F.round=none) (hn:1≤n) (l Bs Bn:Nat) (a:Option Addr) (b len cap:Nat) (ks:List Nat) (hk1:Bs∈ks) (hk2:Bn∈ks) (hreach:len≤2147483648) (hcap:len≤cap) (ha:0<len→a=some ⟨b,0,none⟩) (J Jx:List Nat→World→Prop) (hD: ∀pre W,J pre W→J pre W.drew)
  (hY: ∀pre x W,J pre W→pre.length<(len+31)/32→YieldAt F (n-1) Tryz.prog l #[C9 b len x] W fun e W'=>
   (e= .returned (.bool true)∧J (pre++[x]) W'∧AP ks W W')∨(e= .returned (.bool false)∧Jx (pre++[x]) W'))
  (W:World) (hBs:W.cell? ⟨Bs,0,none⟩=some (.slice a len cap)) (hBn:W.cell? ⟨Bn,0,none⟩=some (.int .i64 32)) (h0:J [] W):
  CallsIn F n Tryz.prog 237 #[.func (.yield l) #[] #[],.pointer (some ⟨Bs,0,none⟩),.pointer (some ⟨Bn,0,none⟩)] W fun e W'=>(∃v,e= .returned v)∧
   ((∃ys,ys=List.range ((len+31)/32)∧J ys W')∨(∃pre,(∃k,k≤(len+31)/32∧pre=List.range k)∧Jx pre W')):=by
 have mixed:Tryz.prog.follows .mixedOrders=true:=by kernel_rfl
 refine callsIn_of_wp Tryz.func237 rfl h237 ?_ hro
 simp only[Tryz.ntmps237,List.size_toArray,List.length_cons,List.length_nil,Nat.reduceAdd,Nat.reduceSub,Array.replicate_succ,Array.replicate_zero,List.push_toArray,List.append_toArray,List.nil_append,List.cons_append]
 gi_wp2
 gi_loopw [4] (fun i wr=> ∃k:Nat,k≤(len+31)/32∧i= .int .i64 ((32*k:Nat):Int)∧J (List.range k) wr∧AP ks W wr)
  (fun i _=>len-(intOf i).toNat)
 case atStart=>exact⟨0,Nat.zero_le _,rfl,h0,AP.refl _ _⟩
 case round=>
  obtain⟨k,hk,rfl,hJs,hnx⟩:=hrel
  have hBs':wr.cell? ⟨Bs,0,none⟩=some (.slice a len cap):=(hnx.cell (p:=⟨Bs,0,none⟩) hk1).trans hBs
  have hBn':wr.cell? ⟨Bn,0,none⟩=some (.int .i64 32):=(hnx.cell (p:=⟨Bn,0,none⟩) hk2).trans hBn
  by_cases hlt:32*k<len
  ·obtain rfl:=ha (by omega)
   have hY':=hY (List.range k) k wr.drew (hD _ _ hJs) (by rw[List.length_range];omega)
   obtain⟨fn,tmps,assign,body,hy,hR⟩:=hY'
   have e1:(if((len-32*k:Nat):Int)<32 then((len-32*k:Nat):Int)else 32)=((min 32 (len-32*k):Nat):Int):=by split<;>omega
   have e2:min (32:Int) ((len-32*k:Nat):Int)=((min 32 (len-32*k):Nat):Int):=by omega
   have hm1:min 32 (len-32*k)≤32:=Nat.min_le_left _ _
   have hm2:min 32 (len-32*k)≤len-32*k:=Nat.min_le_right _ _
   have hm3:0<min 32 (len-32*k):=by omega
   have hBd:wr.drew.cell? ⟨Bs,0,none⟩=some (.slice (some ⟨b,0,none⟩) len cap):=hBs'
   unfold C9 at hy
   generalize hm:min 32 (len-32*k)=m at*
   gi_wp2
   refine LV {tmps:= #[.func (.yield l) #[] #[],.pointer (some ⟨Bs,0,none⟩),.pointer (some ⟨Bn,0,none⟩),undef,.int .i64 (32*k),.int .i64 m,.int .i64 (32*k),.slice (some ⟨b,0,none⟩) len cap,.int .i64 len,.bool true,u10,u11,u12,.int .i64 32,.slice (some ⟨b,0,none⟩) len cap,.int .i64 (32*k),
    .slice (some ⟨b,32*k,none⟩) (len-32*k) (cap-32*k),.int .i64 ((len-32*k:Nat):Int),.int .i64 m,u19,u20,u21,u22,u23,u24,u25,u26,u27,u28,u29,u30],defers:=[]} wr.drew ?_ (fun Q' hQ'=> ?_)
   rotate_left
   ·gi_region
    all_goals first|exact hQ'|(rw[e2];exact hQ')|(simp only[e1,e2];exact hQ')
   gi_wp2
   refine hR.mono ?_
   rintro e W3 (⟨rfl,hJ3,hk3⟩|⟨rfl,hJx3⟩)
   ·have hk4:AP ks W W3:=hnx.trans hk3
    have hBn3:W3.cell? ⟨Bn,0,none⟩=some (.int .i64 32):=(hk4.cell (p:=⟨Bn,0,none⟩) hk2).trans hBn
    gi_wp2
    go_roundw
    case rel=>exact⟨k+1,by omega,by simp;omega,by rw[List.range_succ];exact hJ3,hk4⟩
    case measure=>simp[intOf];omega
   ·gi_wp2
    refine bodyPost_ret (results_none rfl _ _ _) rfl ?_
    exact⟨⟨_,rfl⟩,.inr ⟨_,⟨k+1,by omega,List.range_succ.symm⟩,hJx3⟩⟩
  ·gi_wp2
   go_end0
   exact⟨⟨_,rfl⟩,.inl ⟨_,rfl,by rw[show(len+31)/32=k by omega];exact hJs⟩⟩
set_option maxHeartbeats 1000000 in
theorem Rf (F:Fence) (n:Nat) (h163:F.fn 163) (hro:F.round=none) (a:Option Addr) (len cap:Nat) (w:World):
  CallsIn F n Tryz.prog 163 #[.slice a len cap,.int .i64 32] w fun e w'=>e= .returned (.func (.func 237) #[] #[.pointer (some ⟨w.heap.size,0,none⟩),.pointer (some ⟨w.heap.size+1,0,none⟩)])∧w'=(w.alloc (.cells #[.slice a len cap] 44)).alloc (.cells #[.int .i64 32] 3):=by
 refine callsIn_of_wp Tryz.func163 rfl h163 ?_ hro
 simp only[Tryz.ntmps163,List.size_toArray,List.length_cons,List.length_nil,Nat.reduceAdd,Nat.reduceSub,Array.replicate_succ,Array.replicate_zero,List.push_toArray,List.append_toArray,List.nil_append,List.cons_append]
 gi_wp2
 go_ret
 exact⟨rfl,rfl⟩
theorem K9 (F:Fence) (n:Nat) (h237:F.fn 237) (hro:F.round=none) (hn:1≤n) (Bs Bn:Nat) (a:Option Addr) (b len cap:Nat) (w:World) (hBs:Bs<w.heap.size) (hBn:Bn<w.heap.size) (hreach:len≤2147483648) (hcap:len≤cap) (ha:0<len→a=some ⟨b,0,none⟩)
  (hs:w.cell? ⟨Bs,0,none⟩=some (.slice a len cap)) (hm:w.cell? ⟨Bn,0,none⟩=some (.int .i64 32)):
  SeqStopsK F n Tryz.prog 237 #[.pointer (some ⟨Bs,0,none⟩),.pointer (some ⟨Bn,0,none⟩)] (fun k:Nat=> #[C9 b len k]) (AP [Bs,Bn]) (fun ys=>ys=List.range ((len+31)/32)) (fun pre=> ∃k,k≤(len+31)/32∧pre=List.range k) ((len+31)/32) w:=
 fun l J Jx W hW hJ _ hY h0=>Ph F n h237 hro hn l Bs Bn a b len cap [Bs,Bn] (by simp) (by simp) hreach hcap ha J Jx (fun pre W h=>hJ pre W _ none h ⟨rfl,rfl,rfl,Nat.le_refl _,fun _ _ _=>rfl⟩ (fun r e=>by cases e)) hY W ((hW.cell (p:=⟨Bs,0,none⟩) hBs).trans hs) ((hW.cell (p:=⟨Bn,0,none⟩) hBn).trans hm) h0
set_option maxRecDepth 100000 in
set_option maxHeartbeats 4000000 in
theorem RK (F:Fence) (n:Nat) (h163:F.fn 163) (h237:F.fn 237) (hro:F.round=none) (hn:3≤n) (a:Option Addr) (b len cap:Nat) (bs:List UInt8) (w:World) (hlen:bs.length=len) (hreach:len≤2147483648) (hcap:len≤cap) (ha:0<len→a=some ⟨b,0,none⟩) (hb:0<len→b<w.heap.size)
  (hc: ∀(j:Nat) x,bs[j]? =some x→w.cell? ⟨b,j,none⟩=some (.int .u8 (x.toNat:Int))) (u0 u1 u2 u4 u5 u6 u7 u8 u9 u10 u11 u12 u13 u14 u15 u16 u17 u18 u19 u20 u21 u22 u23 u24 u25 u26 u27 u28 u29 u30 u31 u32 u33 u34 u35 u36 u37 u38 u39 u40 u41 u42 u43 u44 u45 u46 u47 u48 u49 u50 u51 u52 u53 u54 u55 u56 u57 u58 u59 u60 u61 u62 u63 u64 u65 u66 u67 u68 u69 u70 u71 u72 u73:Value) (R:Ending→World→Prop) (hR: ∀v W',W'.ownsRow w.heap.size 9 1 v ((len+31)/32) ((List.range ((len+31)/32)).map fun k=>Value.string ⟨(hZ bs k).toArray⟩)→Below w.heap.size w W'→R (.returned v) W'):
  (kP 6 (tr Tryz.f74)).wpIn F n Tryz.prog (bodyPostM F n Tryz.prog Tryz.f74 R)
   {tmps:= #[u0,u1,u2,.slice a len cap,u4,u5,u6,u7,u8,u9,u10,u11,u12,u13,u14,u15,u16,u17,u18,u19,u20,u21,u22,u23,u24,u25,u26,u27,u28,u29,u30,u31,u32,u33,u34,u35,u36,u37,u38,u39,u40,u41,u42,u43,u44,u45,u46,u47,u48,u49,u50,u51,u52,u53,u54,u55,u56,u57,u58,u59,u60,u61,u62,u63,u64,u65,u66,u67,u68,u69,u70,u71,u72,u73],defers:=[]} w:=by
 have h1:1≤n:=by omega
 obtain⟨i0,hi,hz0,hz1,hz2⟩:=info_parts UK
 dsimp only[tr,Tryz.f74,kP]
 gi_wp2_with (gi_at_call 163;refine(Rf F (n-1) h163 hro _ _ _ _).mono ?_;rintro e w' ⟨rfl,rfl⟩)
 have bO:=Boxed.new w 24 (.slice none 0 0)
 have bS:=Boxed.new (w.alloc (.cells #[.slice none 0 0] 24)) 44 (.slice a len cap)
 have bN:=Boxed.new ((w.alloc (.cells #[.slice none 0 0] 24)).alloc (.cells #[.slice a len cap] 44)) 3 (.int .i64 32)
 rw[World.size_alloc]at bS
 rw[World.size_alloc,World.size_alloc]at bN
 have bO2:=(bO.alloc (.cells #[.slice a len cap] 44)).alloc (.cells #[.int .i64 32] 3)
 have bS2:=bS.alloc (.cells #[.int .i64 32] 3)
 have hB0:Below w.heap.size w (((w.alloc (.cells #[.slice none 0 0] 24)).alloc (.cells #[.slice a len cap] 44)).alloc (.cells #[.int .i64 32] 3)):=(((Below.refl _ w).alloc (Nat.le_refl _) _).alloc (by simp) _).alloc (by simp;omega) _
 obtain⟨W0,hW0⟩: ∃W0,((w.alloc (.cells #[.slice none 0 0] 24)).alloc (.cells #[.slice a len cap] 44)).alloc (.cells #[.int .i64 32] 3)=W0:=⟨_,rfl⟩
 have hsz:W0.heap.size=w.heap.size+3:=by rw[←hW0];simp
 rw[hW0]at bO2 bS2 bN hB0⊢
 refine wpIn_rangeFunc_ownG hro h1 (gf:=237) (lb:= #[.pointer (some ⟨w.heap.size+1,0,none⟩),.pointer (some ⟨w.heap.size+2,0,none⟩)]) rfl h237 (enters_of Tryz.func237 (by kernel_rfl) rfl)
  (K9 F (n-1) h237 hro (by omega) (w.heap.size+1) (w.heap.size+2) a b len cap W0 (by omega) (by omega) hreach hcap ha bS2.cell bN.cell) (fun h k=>AP.trans h k) (fun W l o o' hl hh _ _=>AP.putObj hl hh (by simp;omega)) (Below.refl _ _) (fun _=>rfl)
  (fun pre W=>(∃v,Boxed W w.heap.size 24 v∧W.ownsRow w.heap.size 9 1 v pre.length (pre.map fun k=>Value.string ⟨(hZ bs k).toArray⟩))∧(Boxed W (w.heap.size+1) 44 (.slice a len cap)∧Boxed W (w.heap.size+2) 3 (.int .i64 32))∧Below w.heap.size w W)
  (fun _ _ _=>False)
  (OwnFrom.and (Own.from (fun s A B row hs hg hr=>by
    obtain⟨v,h1,h2,_⟩:=holdsRow_own w.heap.size w.heap.size 24 9 1 (fun pre:List Nat=>pre.length) (fun pre=>pre.map fun k=>Value.string ⟨(hZ bs k).toArray⟩) (fun _ _=>True) s A B row (by obtain⟨v,h1,h2⟩:=hs;exact⟨v,h1,h2,trivial⟩) hg hr
    exact⟨v,h1,h2⟩) _) (OwnFrom.and (Own.from (fun s A B row hs hg hr=>⟨boxed_own (β:=List Nat) _ _ (fun _=>Value.slice a len cap) s A B row hs.1 hg hr,boxed_own (β:=List Nat) _ _ (fun _=>Value.int .i64 32) s A B row hs.2 hg hr⟩) _) (ownFrom_below (Nat.le_refl _) (by omega))))
  (fun _ _ _ _ _ hs _ _=>hs)
  ⟨⟨_,bO2,World.ownsRow_nil _ _ _ _⟩,⟨bS2,bN⟩,hB0⟩
  (fun x=>{tmps:= #[u0,u1,u2,.slice a len cap,u4,u5,u6,u7,u8,.pointer (some ⟨w.heap.size,0,none⟩),C9 b len x,u11,u12,u13,u14,u15,u16,u17,u18,u19,u20,u21,u22,u23,u24,u25,u26,u27,u28,u29,u30,u31,u32,u33,u34,u35,u36,u37,u38,u39,u40,u41,u42,u43,u44,u45,u46,u47,u48,u49,u50,u51,u52,u53,u54,u55,u56,u57,u58,u59,u60,u61,u62,u63,u64,.slice a len cap,.func (.func 237) #[] #[.pointer (some ⟨w.heap.size+1,0,none⟩),.pointer (some ⟨w.heap.size+2,0,none⟩)],C9 b len x,u68,u69,u70,u71,u72,u73],defers:=[]}) ?assign ?body ?done ?stop
 case assign=>
  intro l x W K hK
  gi_wp2
  exact hK
 case body=>
  rintro l pre x W ⟨⟨v,hv,hrow⟩,⟨hS,hN⟩,hB⟩ hlt
  have hcv:=hv.cell
  have hmx:pre.length+1≤maxLen:=by unfold maxLen;omega
  have hmy:(pre.length+1)*16≤140737488355328:=by omega
  have hmz:w.heap.size≤(W.alloc (.cells #[.string ⟨(hZ bs x).toArray⟩] 9)).heap.size:=by have:=hB.size;simp;omega
  have hlx:(hZ bs x).length=min 32 (len-32*x):=by unfold hZ;rw[List.length_take,List.length_drop,hlen]
  have hconv:(convert 44 9 (C9 b len x)).run Tryz.prog W= .ok (.string ⟨(hZ bs x).toArray⟩) W:=by
   have:=run_convert_bytes_back (P:=Tryz.prog) W 44 9 _ ⟨b,32*x,none⟩ (min 32 (len-32*x)) (hZ bs x) Tryz.underlying44 Tryz.underlying5 Tryz.underlying9 (fun j hj=>by
    have hj2:(hZ bs x)[j]=bs[32*x+j]'(by rw[hlx]at hj;omega):=by simp[hZ]
    rw[hj2]
    have hadd:(⟨b,32*x,none⟩:Addr).add j=⟨b,32*x+j,none⟩:=by unfold Addr.add;split<;>simp_all
    rw[hadd]
    exact(hB.cell (p:=⟨b,32*x+j,none⟩) (hb (by rw[hlx]at hj;omega))).trans (hc (32*x+j) _ (List.getElem?_eq_getElem _)))
   rw[hlx]at this
   exact this
  gi_wp2_with (gi_at_builtin;refine wpListIn_append_own _ rfl _ _ 24 rfl w.heap.size 9 i0 (.string ⟨#[]⟩) 1 16 Tryz.underlying24 hi hz0 hz1 hz2 rfl (by decide) _ _ _ rfl (hrow.alloc _) ⟨W.heap.size,0,none⟩ 1 1 [.string ⟨(hZ bs x).toArray⟩] rfl rfl (cell_one_new _ _ _) (by simp[Value.oneCell']) hmx hmy hmz ?_;intro v' w1 hown' hgrow _;obtain⟨g',cap',rfl⟩:=ownsRow_succ hown';obtain⟨hv1,hv2,hr2,hk2,hb2⟩:=hv.appended (by decide) hrow hB.size (Nat.le_refl _) hown' hgrow;have hc1:=hv1.cell;have hf1:=hv1.frozen;have hS1:=((hS.alloc _).kept hgrow (hS.not_row (by decide) hrow)).other (show w.heap.size+1≠w.heap.size by omega) (.slice (some ⟨g',0,none⟩) (pre.length+1) cap');have hN1:=((hN.alloc _).kept hgrow (hN.not_row (by decide) hrow)).other (show w.heap.size+2≠w.heap.size by omega) (.slice (some ⟨g',0,none⟩) (pre.length+1) cap'))
  exact⟨hk2.from _,AP.two hb2.size (hS1.trans hS.symm) (hN1.trans hN.symm),⟨_,hv2,by simpa using hr2⟩,⟨hS1,hN1⟩,hB.trans hb2⟩
 case done=>
  rintro D ys W hD rfl ⟨⟨v,hv,hrow⟩,_,hB⟩ hK
  have hcv:=hv.cell
  gi_wp2
  refine⟨by simp,.inl ⟨_,_,rfl,run_takeDeferred hK,?_⟩⟩
  have hfin:=hR v _ (by have:=ownsRow_putObj hrow (.deferred none) hK rfl;simpa using this) (hB.trans (belowK_b (w:=w) (Nat.le_refl _) W D _ (.deferred none) (by omega) hK rfl rfl))
  refine⟨_,results_tmp rfl _ _ _,?_⟩
  exact hfin
 case stop=>
  rintro D c pre W _ _ h _
  exact h.elim
set_option maxRecDepth 100000 in
theorem RL:NJ Tryz.prog Tryz.f74 (kP 6 (tr Tryz.f74)) 3 9:=by
 intro a w o b len cap bs hd hs hq hl h1 h2 h3 h4 h5 R hR
 have hs':a.tmps.toList.length=74:=by rw[Array.length_toList];exact hs.trans Tryz.ntmps74
 have ht:=IJ a.tmps.toList hs'
 have h3q:a.tmps.toList.getD 3 undef= .slice o len cap:=by
  rw[List.getD_eq_getElem?_getD,Array.getElem?_toList,hq];rfl
 have:=RK .wide 3 trivial trivial rfl (Nat.le_refl _) o b len cap bs w hl h1 h2 h3 h4 h5 (a.tmps.toList.getD 0 undef) (a.tmps.toList.getD 1 undef) (a.tmps.toList.getD 2 undef) (a.tmps.toList.getD 4 undef) (a.tmps.toList.getD 5 undef) (a.tmps.toList.getD 6 undef) (a.tmps.toList.getD 7 undef) (a.tmps.toList.getD 8 undef) (a.tmps.toList.getD 9 undef) (a.tmps.toList.getD 10 undef) (a.tmps.toList.getD 11 undef) (a.tmps.toList.getD 12 undef) (a.tmps.toList.getD 13 undef) (a.tmps.toList.getD 14 undef) (a.tmps.toList.getD 15 undef) (a.tmps.toList.getD 16 undef) (a.tmps.toList.getD 17 undef) (a.tmps.toList.getD 18 undef) (a.tmps.toList.getD 19 undef) (a.tmps.toList.getD 20 undef) (a.tmps.toList.getD 21 undef) (a.tmps.toList.getD 22 undef) (a.tmps.toList.getD 23 undef) (a.tmps.toList.getD 24 undef) (a.tmps.toList.getD 25 undef) (a.tmps.toList.getD 26 undef) (a.tmps.toList.getD 27 undef) (a.tmps.toList.getD 28 undef) (a.tmps.toList.getD 29 undef) (a.tmps.toList.getD 30 undef) (a.tmps.toList.getD 31 undef) (a.tmps.toList.getD 32 undef) (a.tmps.toList.getD 33 undef) (a.tmps.toList.getD 34 undef) (a.tmps.toList.getD 35 undef) (a.tmps.toList.getD 36 undef) (a.tmps.toList.getD 37 undef) (a.tmps.toList.getD 38 undef) (a.tmps.toList.getD 39 undef) (a.tmps.toList.getD 40 undef) (a.tmps.toList.getD 41 undef) (a.tmps.toList.getD 42 undef) (a.tmps.toList.getD 43 undef) (a.tmps.toList.getD 44 undef) (a.tmps.toList.getD 45 undef) (a.tmps.toList.getD 46 undef) (a.tmps.toList.getD 47 undef) (a.tmps.toList.getD 48 undef) (a.tmps.toList.getD 49 undef) (a.tmps.toList.getD 50 undef) (a.tmps.toList.getD 51 undef) (a.tmps.toList.getD 52 undef) (a.tmps.toList.getD 53 undef) (a.tmps.toList.getD 54 undef) (a.tmps.toList.getD 55 undef) (a.tmps.toList.getD 56 undef) (a.tmps.toList.getD 57 undef) (a.tmps.toList.getD 58 undef) (a.tmps.toList.getD 59 undef) (a.tmps.toList.getD 60 undef) (a.tmps.toList.getD 61 undef) (a.tmps.toList.getD 62 undef) (a.tmps.toList.getD 63 undef) (a.tmps.toList.getD 64 undef) (a.tmps.toList.getD 65 undef) (a.tmps.toList.getD 66 undef) (a.tmps.toList.getD 67 undef) (a.tmps.toList.getD 68 undef) (a.tmps.toList.getD 69 undef) (a.tmps.toList.getD 70 undef) (a.tmps.toList.getD 71 undef) (a.tmps.toList.getD 72 undef) (a.tmps.toList.getD 73 undef) R hR
 have ha:a={tmps:=((List.range 74).map fun i=>a.tmps.toList.getD i undef).toArray,defers:=[]}:=by
  rw[←ht,←hd]
 rw[ha]
 rw[←h3q]at this
 exact this
end
end Go.Proofs.YtlejgahbbfeagaaGreatDoor.V

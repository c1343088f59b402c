/- Deep values: how Go's data read as plain Lean data, and the values, objects and trees of the evaluator D. The evaluator D: operations, regions, code, bodies of functions. The evaluator D: calls, one operation, regions, code, bodies. What the evaluator's values mean in the machine: data read out of memory, values, objects; and that this survives what is written elsewhere. Values and objects survive changes elsewhere; what is killed. Changes of the objects: new ones, what is stored, what is written no more. The program's types and D's; reading and writing of places. -/
import GoSem.Dispatch
import GoSem.Core.Region
import GoSem.Core.Program
import Derived.Orders
import Derived.Calls
import Derived.Laws.Cells
import Derived.Laws.Sem
import Derived.Laws.Entries
set_option linter.unusedVariables false
set_option linter.unusedSimpArgs false
namespace Go.Proofs.YtlejgahbbfeagaaGreatDoor.D
open Go
noncomputable section
inductive Ty where
 |bool
 |int (k:IntKind)
 |str
 |named (i:Nat)
 |slice (e:Ty)
 |arr (n:Nat) (e:Ty)
@[reducible] def J6:IntKind→Type
 | .u8=>UInt8
 | .i8=>Int
 | .i16=>Int
 | .i32=>Int
 | .i64=>Int
 | .u16=>Int
 | .u32=>Int
 | .u64=>Int
@[reducible] def I (T:Nat→Type):Ty→Type
 | .bool=>Bool
 | .int k=>J6 k
 | .str=>List UInt8
 | .named i=>T i
 | .slice e=>List (I T e)
 | .arr _ e=>List (I T e)
@[reducible] def HL (T:Nat→Type):List Ty→Type
 |[]=>Unit
 |t::ts=>I T t×HL T ts
def toI:(k:IntKind)→J6 k→Int
 | .u8,x=>(x.toNat:Int)
 | .i8,x=>x
 | .i16,x=>x
 | .i32,x=>x
 | .i64,x=>x
 | .u16,x=>x
 | .u32,x=>x
 | .u64,x=>x
def As:(k:IntKind)→Int→J6 k
 | .u8,n=>UInt8.ofNat n.toNat
 | .i8,n=>n
 | .i16,n=>n
 | .i32,n=>n
 | .i64,n=>n
 | .u16,n=>n
 | .u32,n=>n
 | .u64,n=>n
def kEq:(a b:IntKind)→Option (PLift (a=b))
 | .i8,.i8=>some ⟨rfl⟩
 | .i16,.i16=>some ⟨rfl⟩
 | .i32,.i32=>some ⟨rfl⟩
 | .i64,.i64=>some ⟨rfl⟩
 | .u8,.u8=>some ⟨rfl⟩
 | .u16,.u16=>some ⟨rfl⟩
 | .u32,.u32=>some ⟨rfl⟩
 | .u64,.u64=>some ⟨rfl⟩
 |_,_=>none
def ZA (a b:Nat):Option (PLift (a=b)):=
 match h:Nat.beq a b with
 |true=>some ⟨Nat.eq_of_beq_eq_true h⟩
 |false=>none
def wS:(a b:Ty)→Option (PLift (a=b))
 | .bool,.bool=>some ⟨rfl⟩
 | .str,.str=>some ⟨rfl⟩
 | .int k,.int l=>match kEq k l with
  |some h=>some ⟨by rw[h.down]⟩
  |none=>none
 | .named i,.named j=>match ZA i j with
  |some h=>some ⟨by rw[h.down]⟩
  |none=>none
 | .slice e,.slice f=>match wS e f with
  |some h=>some ⟨by rw[h.down]⟩
  |none=>none
 | .arr n e,.arr m f=>match ZA n m with
  |some h=>match wS e f with
   |some h'=>some ⟨by rw[h.down,h'.down]⟩
   |none=>none
  |none=>none
 |_,_=>none
def zY {T:Nat→Type} {a b:Ty} (h:a=b) (x:I T a):I T b:=h▸x
noncomputable def nth {α:Type} (l:List α):Nat→α→α:=
 List.rec (motive:=fun _=>Nat→α→α) (fun _ d=>d) (fun x _ ih n d=>Nat.rec (motive:=fun _=>α) x (fun m _=>ih m d) n) l
noncomputable def aR {α:Type} (l:List α):Nat→Option α:=
 List.rec (motive:=fun _=>Nat→Option α) (fun _=>none) (fun x _ ih n=>Nat.rec (motive:=fun _=>Option α) (some x) (fun m _=>ih m) n) l
noncomputable def dk {α:Type} (l:List α):Nat→α→List α:=
 List.rec (motive:=fun _=>Nat→α→List α) (fun _ _=>[]) (fun x r ih n v=>Nat.rec (motive:=fun _=>List α) (v::r) (fun m _=>x::ih m v) n) l
theorem fg {α:Type} (n:Nat) (d:α):nth [] n d=d:=rfl
theorem dZ {α:Type} (x:α) (r:List α) (d:α):nth (x::r) 0 d=x:=rfl
theorem ed {α:Type} (x:α) (r:List α) (n:Nat) (d:α):nth (x::r) (n+1) d=nth r n d:=rfl
theorem dJ {α:Type} (n:Nat):aR ([]:List α) n=none:=rfl
theorem cT {α:Type} (x:α) (r:List α):aR (x::r) 0=some x:=rfl
theorem cU {α:Type} (x:α) (r:List α) (n:Nat):aR (x::r) (n+1)=aR r n:=rfl
theorem jJ {α:Type} (n:Nat) (v:α):dk [] n v=[]:=rfl
theorem gF {α:Type} (x:α) (r:List α) (v:α):dk (x::r) 0 v=v::r:=rfl
theorem gG {α:Type} (x:α) (r:List α) (n:Nat) (v:α):dk (x::r) (n+1) v=x::dk r n v:=rfl
inductive Tree (α:Type):Type 1 where
 |fail
 |ret (a:α)
 |ite (c:Bool) (t e:Tree α)
 |opt {β:Type} (o:Option β) (f:β→Tree α)
namespace Tree
def bind {α β:Type}:Tree α→(α→Tree β)→Tree β
 | .fail,_=> .fail
 | .ret a,f=>f a
 | .ite c t e,f=> .ite c (t.bind f) (e.bind f)
 | .opt o g,f=> .opt o fun b=>(g b).bind f
def get {α:Type}:Tree α→Option α
 | .fail=>none
 | .ret a=>some a
 | .ite c t e=>bif c then t.get else e.get
 | .opt o f=>o.bind fun b=>(f b).get
def e9 {α:Type}:Option α→Tree α
 |none=> .fail
 |some a=> .ret a
def cV {α:Type} (b:Bool) (t:Tree α):Tree α:=
 match b with
 |true=>t
 |false=> .fail
theorem get_bind {α β:Type} (t:Tree α) (f:α→Tree β):(t.bind f).get=t.get.bind fun a=>(f a).get:=by
 induction t with
 |fail=>rfl
 |ret a=>rfl
 |ite c t e iht ihe=>cases c<;>simp[bind,get,iht,ihe]
 |opt o g ih=>
  cases o with
  |none=>rfl
  |some b=>simp[bind,get,ih]
theorem dE {α:Type} (o:Option α):(e9 o).get=o:=by cases o<;>rfl
theorem aO {α:Type} {b:Bool} {t:Tree α} {a:α} (h:(cV b t).get=some a):b=true∧t.get=some a:=by
 cases b with
 |true=>exact⟨rfl,h⟩
 |false=>cases h
theorem aA {α β:Type} {t:Tree α} {f:α→Tree β} {b:β} (h:(t.bind f).get=some b): ∃a,t.get=some a∧(f a).get=some b:=by
 rw[get_bind]at h
 cases ht:t.get with
 |none=>rw[ht]at h;cases h
 |some a=>rw[ht]at h;exact⟨a,rfl,h⟩
end Tree
inductive Step where
 |tQ (i j:Nat)
 |idx (e:Ty) (n:Nat)
inductive az (T:Nat→Type):Type where
 |val (t:Ty) (x:I T t)
 |bm
 |own (k:Nat)
 |ptr (o:Nat) (p:List Step)
 |cQ
 |eg (t:Ty) (x:I T t)
 |agg (i:Nat) (fs:List (az T))
 |jo (vs:List (az T))
 |fn (f:FuncId) (cap:List (az T))
 |ei
 |fD (t:TypeId) (v:az T)
 |ct
 |dD (e:Ty)
 |undef
inductive RM where
 |bc
 |fix
 |live
def RM.may:RM→Bool
 | .bc=>false
 | .fix=>true
 | .live=>true
def RM.Ur:RM→Bool
 | .live=>true
 |_=>false
inductive Obj (T:Nat→Type):Type where
 |box (ro:Bool) (c:az T)
 |arr (l:RM) (e:Ty) (xs:List (I T e))
 |dead
abbrev St (T:Nat→Type):=List (Obj T)
mutual
def refs {T:Nat→Type}:az T→List Nat
 | .own k=>[k]
 | .ptr o _=>[o]
 | .agg _ fs=>bh fs
 | .jo fs=>bh fs
 | .fn _ fs=>bh fs
 | .fD _ v=>refs v
 |_=>[]
termination_by structural x=>x
def bh {T:Nat→Type}:List (az T)→List Nat
 |[]=>[]
 |v::r=>refs v++bh r
termination_by structural x=>x
end
inductive TK where
 |data (t:Ty)
 |ptr
 |func
 |iface
 |other
structure Env where
 T:Nat→Type
 fields:Nat→List Ty
 out:(i:Nat)→T i→HL T (fields i)
 Dg:(i:Nat)→HL T (fields i)→T i
 ee:(i:Nat)→T i→T i→Bool
 zL:Nat→Nat
 tk:TypeId→TK
 cmp:TypeId→Bool
namespace Env
variable (E:Env)
def size:Ty→Nat
 | .named i=>E.zL i
 | .arr n e=>n*size e
 |_=>1
def qM (i j:Nat):Nat:=(((E.fields i).take j).map E.size).sum
def iY:Step→Nat
 | .tQ i j=>E.qM i j
 | .idx e n=>n*E.size e
def cE:List Step→Nat
 |[]=>0
 |s::p=>E.iY s+cE p
end Env
def dX:Ty→Bool
 | .named _=>true
 | .arr _ _=>true
 |_=>false
def jn (a b:Ty):Bool:=
 match wS a b with
 |some _=>true
 |none=>false
section
variable (E:Env)
def Qi:(ts:List Ty)→HL E.T ts→List (az E.T)
 |[],_=>[]
 |t::ts,x=> .val t x.1::Qi ts x.2
def parts (i:Nat) (x:E.T i):List (az E.T):=Qi E (E.fields i) (E.out i x)
def toHLWith (f:(t:Ty)→az E.T→Option (I E.T t)):(ts:List Ty)→List (az E.T)→Option (HL E.T ts)
 |[],[]=>some ()
 |t::ts,v::vs=>
  match f t v with
  |some x=>match toHLWith f ts vs with
   |some r=>some (x,r)
   |none=>none
  |none=>none
 |[],_::_=>none
 |_::_,[]=>none
def toData (st:St E.T):Nat→(t:Ty)→az E.T→Option (I E.T t)
 |0,_,_=>none
 |d+1,t,v=>
  match v with
  | .val t' x=>match wS t' t with
   |some h=>some (zY h.down x)
   |none=>none
  | .bm=>match t with
   | .slice _=>some []
   |_=>none
  | .own k=>match aR st k with
   |some (.arr _ e xs)=>match wS (.slice e) t with
    |some h=>some (zY h.down xs)
    |none=>none
   |_=>none
  | .agg i fs=>match t with
   | .named j=>match ZA i j with
    |some _=>match toHLWith E (toData st d) (E.fields j) fs with
     |some r=>some (E.Dg j r)
     |none=>none
    |none=>none
   |_=>none
  |_=>none
def depth:Nat:=8
def qB (st:St E.T) (t:Ty):az E.T→Bool
 | .val t' _=>jn t' t
 | .bm=>match t with
  | .slice _=>true
  |_=>false
 | .own k=>match aR st k with
  |some (.arr _ e _)=>jn (.slice e) t
  |_=>false
 | .agg i _=>match t with
  | .named j=>Nat.beq i j
  |_=>false
 |_=>false
def Pr (st:St E.T) (t:Ty) (v:az E.T):Bool:=
 match v with
 | .dD e=>jn (.slice e) t
 |v=>qB E st t v
def single:az E.T→Bool
 | .ptr _ _=>true
 | .cQ=>true
 | .eg _ _=>true
 | .fn _ _=>true
 | .ei=>true
 | .fD _ _=>true
 | .ct=>true
 |_=>false
def fits (st:St E.T) (t:TypeId) (v:az E.T):Bool:=
 match E.tk t with
 | .data ty=>qB E st ty v
 | .other=>false
 |_=>single E v
def mh (st:St E.T) (t:TypeId) (v:az E.T):Bool:=
 match E.tk t with
 | .data ty=>Pr E st ty v
 | .other=>false
 |_=>single E v
def fo:Nat→(t:Ty)→Option (I E.T t)
 |0,_=>none
 |d+1,t=>
  match t with
  | .bool=>some false
  | .int k=>some (As k 0)
  | .str=>some []
  | .slice _=>some []
  | .arr n e=>match fo d e with
   |some z=>some (List.replicate n z)
   |none=>none
  | .named i=>match zHL (fo d) (E.fields i)with
   |some r=>some (E.Dg i r)
   |none=>none
where
 zHL (f:(t:Ty)→Option (I E.T t)):(ts:List Ty)→Option (HL E.T ts)
  |[]=>some ()
  |t::ts=>match f t with
   |some x=>match zHL f ts with
    |some r=>some (x,r)
    |none=>none
   |none=>none
def iP:Nat→Ty→az E.T
 |0,_=> .undef
 |d+1,t=>
  match t with
  | .bool=> .val .bool false
  | .int k=> .val (.int k) (As k 0)
  | .str=> .val .str []
  | .slice _=> .bm
  | .arr n e=>match fo E d e with
   |some z=> .val (.arr n e) (List.replicate n z)
   |none=> .undef
  | .named i=> .agg i ((E.fields i).map (iP d))
def zeroV (t:TypeId):az E.T:=
 match E.tk t with
 | .data ty=>iP E depth ty
 | .ptr=> .cQ
 | .func=> .ei
 | .iface=> .ct
 | .other=> .undef
def mL (i j:Nat):az E.T→az E.T
 | .val (.named i') x=>bif Nat.beq i i' then nth (parts E i' x) j .undef else .undef
 | .agg i' fs=>bif Nat.beq i i' then nth fs j .undef else .undef
 |_=> .undef
def sC:List Step→az E.T→Tree (az E.T)
 |[],d=> .ret d
 | .tQ i j::p,d=>sC p (mL E i j d)
 | .idx e n::p,.val (.arr _ e') xs=>Tree.cV (jn e e') (.opt xs[n]? fun x=>sC p (.val e' x))
 | .idx _ _::_,_=> .fail
def Ck:Obj E.T→List Step→Tree (az E.T)
 | .box _ c,p=>sC E p c
 | .arr _ e' xs,.idx e n::p=>Tree.cV (jn e e') (.opt xs[n]? fun x=>sC E p (.val e' x))
 |_,_=> .fail
def nR:az E.T→Option (Nat×List (az E.T))
 | .val (.named i) x=>some (i,parts E i x)
 | .agg i fs=>some (i,fs)
 |_=>none
def ve (ok:az E.T→Bool) (v:az E.T):List Step→az E.T→Tree (az E.T)
 |[],d=>Tree.cV (ok d) (.ret v)
 | .tQ i j::p,d=>
  match nR E d with
  |some (i',fs)=>Tree.cV (Nat.beq i i'&&Nat.blt j fs.length) ((ve ok v p (nth fs j .undef)).bind fun d'=> .ret (.agg i' (dk fs j d')))
  |none=> .fail
 | .idx e n::p,.val (.arr m e') xs=>
  Tree.cV (jn e e') (.opt xs[n]? fun x=>(ve ok v p (.val e' x)).bind fun d'=>(Tree.e9 (toData E [] depth e' d')).bind fun y=> .ret (.val (.arr m e') (xs.set n y)))
 | .idx _ _::_,_=> .fail
def Ak (ok:az E.T→Bool) (v:az E.T):Obj E.T→List Step→Tree (Obj E.T)
 | .box false c,p=>(ve E ok v p c).bind fun c'=> .ret (.box false c')
 | .arr l e' xs,.idx e n::p=>
  Tree.cV (l.may&&jn e e') (.opt xs[n]? fun x=>(ve E ok v p (.val e' x)).bind fun d'=>(Tree.e9 (toData E [] depth e' d')).bind fun y=> .ret (.arr l e' (xs.set n y)))
 |_,_=> .fail
end
end
open Go
noncomputable section
inductive iT (T:Nat→Type):Type where
 |ret (vs:List (az T))
 |panic (v:az T)
inductive Spec (E:Env):Type 1 where
 |pure (ps:List Ty) (F:List (az E.T)→Tree (iT E.T))
 |full (ps:List TK) (flat:Bool) (F:List (az E.T)→St E.T→Tree (iT E.T×St E.T))
abbrev l8 (E:Env):=List (az E.T)→St E.T→Option (az E.T)→Tree (Bool×St E.T)
structure Fr (T:Nat→Type) where
 s:List (az T)
 d:List (FuncId×List (az T))
def dy:Nat:=2147483648
section
variable (E:Env)
def put (fr:Fr E.T) (dst:Option Tmp) (v:az E.T):Fr E.T:=
 match dst with
 |some t=>{fr with s:=dk fr.s t v}
 |none=>fr
def Nz:Value→az E.T
 | .bool b=> .val .bool b
 | .int .u8 n=>bif decide (0≤n)&&decide (n<256)then .val (.int .u8) (As .u8 n)else .undef
 | .int k n=> .val (.int k) (As k n)
 | .string s=>bif Nat.ble s.data.toList.length dy then .val .str s.data.toList else .undef
 | .pointer none=> .cQ
 | .slice none 0 0=> .bm
 | .nilFunc=> .ei
 | .nilIface=> .ct
 |_=> .undef
def cd (fr:Fr E.T):Operand→az E.T
 | .tmp t=>nth fr.s t .undef
 | .const v=>Nz E v
 | .func f=> .fn f []
 | .global _=> .undef
abbrev Out (E:Env):=az E.T×St E.T
def wW (t:TypeId) (ty:Ty):Bool:=
 match E.tk t with
 | .data ty'=>jn ty ty'
 |_=>false
def isIface (t:TypeId):Bool:=
 match E.tk t with
 | .iface=>true
 |_=>false
def It (op:BinOp) (k:IntKind) (x y:Int):Option Int:=
 let a:=BitVec.ofInt k.bits x
 let b:=BitVec.ofInt k.bits y
 match op with
 | .and=>some (k.wrap (a&&& b).toNat)
 | .or=>some (k.wrap (a|||b).toNat)
 | .xor=>some (k.wrap (a^^^b).toNat)
 | .andNot=>some (k.wrap (a&&& ~~~b).toNat)
 |_=>none
def ZJ (op:BinOp) (k:IntKind) (x y:Int):Tree (az E.T):=
 match op with
 | .add=> .ret (.val (.int k) (As k (k.wrap (x+y))))
 | .sub=> .ret (.val (.int k) (As k (k.wrap (x-y))))
 | .mul=> .ret (.val (.int k) (As k (k.wrap (x*y))))
 | .quo=> .ite (y==0) .fail (.ret (.val (.int k) (As k (k.wrap (x.tdiv y)))))
 | .rem=> .ite (y==0) .fail (.ret (.val (.int k) (As k (x.tmod y))))
 | .eql=> .ret (.val .bool (x==y))
 | .neq=> .ret (.val .bool (x != y))
 | .lss=> .ret (.val .bool (decide (x<y)))
 | .leq=> .ret (.val .bool (decide (x≤y)))
 | .gtr=> .ret (.val .bool (decide (x>y)))
 | .geq=> .ret (.val .bool (decide (x≥y)))
 | .and=>(Tree.e9 (It .and k x y)).bind fun r=> .ret (.val (.int k) (As k r))
 | .or=>(Tree.e9 (It .or k x y)).bind fun r=> .ret (.val (.int k) (As k r))
 | .xor=>(Tree.e9 (It .xor k x y)).bind fun r=> .ret (.val (.int k) (As k r))
 | .andNot=>(Tree.e9 (It .andNot k x y)).bind fun r=> .ret (.val (.int k) (As k r))
 |_=> .fail
def Np (op:BinOp) (k:IntKind) (x y:Int):Tree (az E.T):=
 .ite (decide (y<0)) .fail (match op with
  | .shl=> .ret (.val (.int k) (As k (k.wrap (x*2^min y.toNat k.bits))))
  | .shr=> .ret (.val (.int k) (As k (x.fdiv (2^min y.toNat k.bits))))
  |_=> .fail)
def ZI (op:BinOp) (a b:List UInt8):Tree (az E.T):=
 match op with
 | .add=> .ite (decide (a.length+b.length≤dy)) (.ret (.val .str (a++b))) .fail
 | .eql=> .ret (.val .bool (a==b))
 | .neq=> .ret (.val .bool (!(a==b)))
 |_=> .fail
def Lv:(t:Ty)→I E.T t→I E.T t→Bool
 | .bool,x,y=>x==y
 | .int k,x,y=>toI k x==toI k y
 | .str,x,y=>x==y
 | .named i,x,y=>E.ee i x y
 | .slice _,_,_=>false
 | .arr _ e,x,y=>Vf (Lv e) x y
where
 Vf {α:Type} (f:α→α→Bool):List α→List α→Bool
  |[],[]=>true
  |a::x,b::y=>f a b&&Vf f x y
  |_,_=>false
def No:(ts:List Ty)→HL E.T ts→HL E.T ts→Bool
 |[],_,_=>true
 |t::ts,x,y=>Lv E t x.1 y.1&&No ts x.2 y.2
def JH:Nat→Ty→Bool
 |0,_=>false
 |d+1,t=>
  match t with
  | .slice _=>false
  | .arr _ e=>JH d e
  | .named i=>(E.fields i).all (JH d)
  |_=>true
def LJ (st:St E.T) (t:Ty) (x y:az E.T) (f:Bool→Bool):Tree (az E.T):=
 (Tree.e9 (toData E st depth t x)).bind fun a=>(Tree.e9 (toData E st depth t y)).bind fun b=> .ret (.val .bool (f (Lv E t a b)))
def NC (st:St E.T) (op:BinOp) (t:TypeId) (x y:az E.T):Tree (az E.T):=
 match x,y with
 | .val (.int k) a,.val (.int k') b=>
  match op with
  | .shl=>Np E .shl k (toI k a) (toI k' b)
  | .shr=>Np E .shr k (toI k a) (toI k' b)
  |_=>match kEq k k' with
   |some _=>ZJ E op k (toI k a) (toI k' b)
   |none=> .fail
 | .val .str a,.val .str b=>ZI E op a b
 | .val .bool a,.val .bool b=>
  Tree.cV (wW E t .bool) (match op with
  | .eql=> .ret (.val .bool (a==b))
  | .neq=> .ret (.val .bool (!(a==b)))
  |_=> .fail)
 | .fD _ _,.ct=>
  Tree.cV (isIface E t) (match op with
  | .eql=> .ret (.val .bool false)
  | .neq=> .ret (.val .bool true)
  |_=> .fail)
 |x,y=>
  match E.tk t with
  | .data (.named i)=>Tree.cV (E.cmp t&&JH E depth (.named i)) (match op with
   | .eql=>LJ E st (.named i) x y id
   | .neq=>LJ E st (.named i) x y (!·)
   |_=> .fail)
  | .data (.arr n e)=>Tree.cV (E.cmp t&&JH E depth (.arr n e)) (match op with
   | .eql=>LJ E st (.arr n e) x y id
   | .neq=>LJ E st (.arr n e) x y (!·)
   |_=> .fail)
  |_=> .fail
def Te (op:BinOp) (x y:Operand) (a b:az E.T):Option Bool:=
 match a,b with
 | .ct,.ct=>
  match x,y with
  | .const _,_=>(match op with| .eql=>some true| .neq=>some false|_=>none)
  |_,.const _=>(match op with| .eql=>some true| .neq=>some false|_=>none)
  |_,_=>none
 |_,_=>none
def dun (op:UnOp) (x:az E.T):Tree (az E.T):=
 match op,x with
 | .not,.val .bool b=> .ret (.val .bool (!b))
 | .neg,.val (.int k) a=> .ret (.val (.int k) (As k (k.wrap (0-toI k a))))
 |_,_=> .fail
def elems (st:St E.T) (e:Ty) (v:az E.T):Option (List (I E.T e)):=toData E st depth (.slice e) v
def Df (t:TypeId):Bool:=
 match E.tk t with
 | .data _=>true
 |_=>false
def yD (st:St E.T) (src dst:TypeId) (x:az E.T):Tree (az E.T×St E.T):=
 Tree.cV (Df E src)<|match E.tk dst,x with
 | .data (.int k),.val (.int k') a=> .ret (.val (.int k) (As k (k.wrap (toI k' a))),st)
 | .data .str,.val .str s=> .ret (.val .str s,st)
 | .data (.slice (.int .u8)),.val .str s=>Tree.cV (wW E src .str) (.ret (.own st.length,st++[.arr .live (.int .u8) s]))
 | .data (.slice (.int .u8)),.own k=>Tree.cV (Nat.beq src dst) (match aR st k with
  |some (.arr .live (.int .u8) xs)=>Tree.cV (!xs.isEmpty) (.ret (.own k,dk st k (.arr .live (.int .u8) xs)))
  |_=> .fail)
 | .data .str,x=>match E.tk src with
  | .data (.slice (.int .u8))=>(Tree.e9 (elems E st (.int .u8) x)).bind fun s=> .ret (.val .str s,st)
  |_=> .fail
 |_,_=> .fail
def Nt (st:St E.T) (t:TypeId) (x:az E.T):Tree (az E.T):=
 match E.tk t,x with
 | .data .str,.val .str s=> .ret (.val (.int .i64) (s.length:Int))
 | .data (.slice _),.val (.slice _) xs=> .ret (.val (.int .i64) (xs.length:Int))
 | .data (.slice _),.bm=> .ret (.val (.int .i64) (0:Int))
 | .data (.slice _),.own k=>match aR st k with
  |some (.arr _ _ xs)=> .ret (.val (.int .i64) (xs.length:Int))
  |_=> .fail
 |_,_=> .fail
def s4 (i:Int) (n:Nat):Bool:=decide (0≤i)&&decide (i<n)
def mK (st:St E.T) (t:TypeId) (x i:az E.T):Tree (az E.T):=
 match i with
 | .val (.int k) a=>
  match x with
  | .val (.slice e) xs=>Tree.cV (wW E t (.slice e)) (.ite (s4 (toI k a) xs.length) (.opt xs[(toI k a).toNat]? fun y=> .ret (.eg e y)) .fail)
  | .own o=>match aR st o with
   |some (.arr _ e xs)=>Tree.cV (wW E t (.slice e)) (.ite (s4 (toI k a) xs.length) (.ret (.ptr o [.idx e (toI k a).toNat])) .fail)
   |_=> .fail
  | .ptr o p=>match E.tk t with
   | .data (.arr n e)=> .ite (s4 (toI k a) n) (.ret (.ptr o (p++[.idx e (toI k a).toNat]))) .fail
   |_=> .fail
  | .eg (.arr n e) xs=>match E.tk t with
   | .data (.arr n' e')=>Tree.cV (jn (.arr n e) (.arr n' e')) (.ite (s4 (toI k a) n) (.opt xs[(toI k a).toNat]? fun y=> .ret (.eg e y)) .fail)
   |_=> .fail
  |_=> .fail
 |_=> .fail
def JL (t:TypeId) (x i:az E.T):Tree (az E.T):=
 match i with
 | .val (.int k) a=>
  match x with
  | .val .str s=>Tree.cV (wW E t .str) (.ite (s4 (toI k a) s.length) (.opt s[(toI k a).toNat]? fun y=> .ret (.val (.int .u8) y)) .fail)
  | .val (.arr n e) xs=>match E.tk t with
   | .data (.arr n' e')=>Tree.cV (jn (.arr n e) (.arr n' e')) (.ite (s4 (toI k a) n) (.opt xs[(toI k a).toNat]? fun y=> .ret (.val e y)) .fail)
   |_=> .fail
  |_=> .fail
 |_=> .fail
def wy (t:TypeId) (x:az E.T) (j:Nat):Tree (az E.T):=
 match E.tk t with
 | .data (.named i)=>Tree.cV (Nat.blt j (E.fields i).length) (match x with
  | .ptr o p=> .ret (.ptr o (p++[.tQ i j]))
  | .eg (.named i') y=>Tree.cV (Nat.beq i i') (match nth (parts E i' y) j .undef with
   | .val t' z=> .ret (.eg t' z)
   |_=> .fail)
  |_=> .fail)
 |_=> .fail
def yw (st:St E.T) (t:TypeId) (x:az E.T):Tree (az E.T):=
 match x with
 | .ptr o p=>match aR st o with
  |some b=>(Ck E b p).bind fun v=>Tree.cV (fits E st t v) (.ret v)
  |none=> .fail
 | .eg t' y=>match E.tk t with
  | .data ty=>Tree.cV (jn t' ty) (.ret (.val t' y))
  |_=> .fail
 |_=> .fail
def qJ:List Step→Option Ty
 |[]=>none
 |[.tQ i j]=>aR (E.fields i) j
 |[.idx e _]=>some e
 |_::p=>qJ p
def zc (t:TypeId) (p:List Step):Bool:=
 match E.tk t,qJ E p with
 | .data ty,some ty'=>jn ty' ty
 |_,_=>p.isEmpty
def AZ (st:St E.T) (t:TypeId) (x v:az E.T):Tree (St E.T):=
 match x with
 | .ptr o p=>match aR st o with
  |some b=>Tree.cV (fits E st t v&&zc E t p) ((Ak E (mh E st t) v b p).bind fun b'=> .ret (dk st o b'))
  |none=> .fail
 |_=> .fail
def nT (x:Option (az E.T)) (d:Int):Option Int:=
 match x with
 |none=>some d
 |some (.val (.int k) a)=>some (toI k a)
 |_=>none
def EE {α:Type} (xs:List α) (lo hi:Int) (f:List α→Tree (Out E)):Tree (Out E):=
 .ite (decide (0≤lo)&&(decide (lo≤hi)&&decide (hi≤xs.length))) (f ((xs.take hi.toNat).drop lo.toNat)) .fail
def freeze (st:St E.T):List Nat→St E.T
 |[]=>st
 |k::r=>freeze (match aR st k with
  |some (.arr _ e xs)=>dk st k (.arr .bc e xs)
  |_=>st) r
def wi (st:St E.T) (t:TypeId) (x:az E.T) (lo hi mx:Option (az E.T)):Tree (Out E):=
 match mx with
 |some _=> .fail
 |none=>
  match x with
  | .val .str s=>Tree.cV (wW E t .str) ((Tree.e9 (nT E lo 0)).bind fun l=>(Tree.e9 (nT E hi s.length)).bind fun h=>EE E s l h fun r=> .ret (.val .str r,st))
  | .val (.slice e) xs=>Tree.cV (wW E t (.slice e)) ((Tree.e9 (nT E lo 0)).bind fun l=>(Tree.e9 (nT E hi xs.length)).bind fun h=>EE E xs l h fun r=> .ret (.val (.slice e) r,st))
  | .own k=>match aR st k with
   |some (.arr _ e xs)=>Tree.cV (wW E t (.slice e)) ((Tree.e9 (nT E lo 0)).bind fun l=>(Tree.e9 (nT E hi xs.length)).bind fun h=>EE E xs l h fun r=> .ret (.val (.slice e) r,freeze E st [k]))
   |_=> .fail
  | .eg (.arr n e) xs=>Tree.cV (wW E t (.arr n e)&&Nat.ble n dy) ((Tree.e9 (nT E lo 0)).bind fun l=>(Tree.e9 (nT E hi n)).bind fun h=>EE E xs l h fun r=> .ret (.val (.slice e) r,st))
  | .ptr o p=>match aR st o with
   |some (.box _ c)=>(sC E p c).bind fun v=>match v with
    | .val (.arr n e) xs=>Tree.cV (wW E t (.arr n e)&&Nat.ble n dy) ((Tree.e9 (nT E lo 0)).bind fun l=>(Tree.e9 (nT E hi n)).bind fun h=>EE E xs l h fun r=> .ret (.val (.slice e) r,dk st o (.box true c)))
    |_=> .fail
   |_=> .fail
  |_=> .fail
def kJ (st:St E.T) (t:TypeId) (ps:List (Nat×az E.T)):Tree (az E.T):=
 match E.tk t with
 | .data (.named i)=>
  fill (E.fields i) ((E.fields i).map (iP E depth)) ps fun fs=> .ret (.agg i fs)
 | .data (.arr n e)=>(Tree.e9 (fo E depth (.arr n e))).bind fun z=>fillL e z ps fun xs=> .ret (.val (.arr n e) xs)
 |_=> .fail
where
 fill (ts:List Ty) (fs:List (az E.T)) (ps:List (Nat×az E.T)) (f:List (az E.T)→Tree (az E.T)):Tree (az E.T):=
  match ps with
  |[]=>f fs
  |(j,v) ::r=>match aR ts j with
   |some t=>Tree.cV (qB E st t v) (fill ts (dk fs j v) r f)
   |none=> .fail
 fillL (e:Ty) (xs:List (I E.T e)) (ps:List (Nat×az E.T)) (f:List (I E.T e)→Tree (az E.T)):Tree (az E.T):=
  match ps with
  |[]=>f xs
  |(j,v) ::r=>(Tree.e9 (toData E [] depth e v)).bind fun y=>Tree.cV (Nat.blt j xs.length) (fillL e (dk xs j y) r f)
def eZ (st:St E.T) (t:TypeId) (n:Nat) (ps:List (Nat×az E.T)):Tree (az E.T):=
 match E.tk t with
 | .data (.slice e)=>match n,ps with
  |0,[]=> .ret .bm
  |_,ps=>Tree.cV (Nat.beq n ps.length&&(Nat.ble (n*E.size e) 16777216&&Nat.ble n dy)) (all e 0 ps fun xs=> .ret (.val (.slice e) xs))
 |_=> .fail
where
 all (e:Ty) (i:Nat) (ps:List (Nat×az E.T)) (f:List (I E.T e)→Tree (az E.T)):Tree (az E.T):=
  match ps with
  |[]=>f []
  |(j,v) ::r=>Tree.cV (Nat.beq i j) ((Tree.e9 (toData E [] depth e v)).bind fun y=>all e (i+1) r fun ys=>f (y::ys))
def er (dr:Bool) (st:St E.T) (t:TypeId) (l c:az E.T):Tree (Out E):=
 match E.tk t,l,c with
 | .data (.slice e),.val (.int k) a,.val (.int k') b=>
  .ite (decide (0≤toI k a)&&(decide (toI k a=toI k' b)&&decide (toI k a≤dy)))
   ((Tree.e9 (fo E depth e)).bind fun z=>match dr with
    |true=> .ret (.val (.slice e) (List.replicate (toI k a).toNat z),st)
    |false=> .ret (.own st.length,st++[.arr .live e (List.replicate (toI k a).toNat z)])) .fail
 |_,_,_=> .fail
def yl (t:TypeId):Bool:=
 match E.tk t with
 | .data (.slice _)=>true
 |_=>false
def isNum (t:TypeId):Bool:=
 match E.tk t with
 | .data (.int _)=>true
 |_=>false
def appended (st:St E.T) (tx:TypeId) (e:Ty) (x:az E.T) (k:List (I E.T e)→Tree (Out E)):Tree (Out E):=
 match x with
 | .val (.int i) a=>Tree.cV (isNum E tx) (.ite (decide (0≤toI i a)&&decide (toI i a≤dy)) ((Tree.e9 (fo E depth e)).bind fun z=>k (List.replicate (toI i a).toNat z)) .fail)
 | .val .str s=>Tree.cV (wW E tx .str) (match wS (.slice (.int .u8)) (.slice e)with
  |some h=>k (zY (T:=E.T) h.down s)
  |none=> .fail)
 |x=>Tree.cV (yl E tx) ((Tree.e9 (elems E st e x)).bind k)
def nU (st:St E.T) (t tx:TypeId) (s x:az E.T):Tree (Out E):=
 match s with
 | .bm=>match E.tk t with
  | .data (.slice e)=>appended E st tx e x fun ys=> .ite (decide (ys.length≤dy)) (.ret (.own st.length,st++[.arr .live e ys])) .fail
  |_=> .fail
 | .own o=>match aR st o with
  |some (.arr .live e xs)=>Tree.cV (wW E t (.slice e)) (appended E st tx e x fun ys=> .ite (decide (xs.length+ys.length≤dy)) (.ret (.own o,dk st o (.arr .live e (xs++ys)))) .fail)
  |_=> .fail
 |_=> .fail
def RH (mx:Bool) (x y:az E.T):Tree (az E.T):=
 match x,y with
 | .val (.int k) a,.val (.int k') b=>match kEq k k' with
  |some _=> .ret (.val (.int k) (As k (match mx with
   |true=>if toI k' b>toI k a then toI k' b else toI k a
   |false=>if toI k' b<toI k a then toI k' b else toI k a)))
  |none=> .fail
 |_,_=> .fail
def dfold (mx:Bool):az E.T→List (az E.T)→Tree (az E.T)
 |x,[]=> .ret x
 |x,y::r=>(RH E mx x y).bind fun z=>dfold mx z r
end
end
open Go
noncomputable section
section
variable (E:Env)
def c9 (ks:List Nat) (k:Nat):Bool:=ks.any (Nat.beq k)
def zR (st:St E.T) (o:Nat):Bool:=
 match aR st o with
 |some (.arr _ _ _)=>true
 |_=>false
mutual
def kill (st:St E.T) (ks:List Nat):az E.T→az E.T
 | .own k=>bif c9 ks k then(match aR st k with
  |some (.arr _ e _)=> .dD e
  |_=> .undef)else .own k
 | .ptr o p=>bif c9 ks o then .undef else .ptr o p
 | .agg i fs=> .agg i (cY st ks fs)
 | .jo fs=> .jo (cY st ks fs)
 | .fn f fs=> .fn f (cY st ks fs)
 | .fD t v=> .fD t (kill st ks v)
 |v=>v
termination_by structural x=>x
def cY (st:St E.T) (ks:List Nat):List (az E.T)→List (az E.T)
 |[]=>[]
 |v::r=>kill st ks v::cY st ks r
termination_by structural x=>x
end
def iM (st:St E.T) (ks:List Nat) (fr:Fr E.T):Fr E.T:=
 {s:=cY E st ks fr.s,d:=fr.d.map fun x=>(x.1,cY E st ks x.2)}
def bW (st:St E.T) (ks:List Nat):Obj E.T→Obj E.T
 | .box ro c=> .box ro (kill E st ks c)
 |o=>o
def cf:Obj E.T→List Nat
 | .box _ c=>refs c
 |_=>[]
def iZ (st:St E.T):List Nat:=st.flatMap (cf E)
def jh (fr:Fr E.T):List Nat:=bh fr.s++fr.d.flatMap fun x=>bh x.2
def live (st:St E.T) (ks:List Nat):List Nat:=ks.filter fun k=>match aR st k with
 |some (.arr l _ _)=>l.may
 |_=>false
def tD (st:St E.T) (ks:List Nat):List Nat:=ks.filter fun k=>match aR st k with
 |some (.arr l _ _)=>l.Ur
 |_=>false
def zx:List Nat→St E.T→St E.T
 |[],st=>st
 |k::r,st=>zx r (dk st k .dead)
def iV (old:St E.T):List Nat→St E.T→St E.T
 |[],st=>st
 |k::r,st=>iV old r (match aR old k with
  |some o=>dk st k o
  |none=>st)
def Ol:Obj E.T→Obj E.T
 | .box _ c=> .box true c
 | .arr _ e xs=> .arr .bc e xs
 | .dead=> .dead
def lock (st:St E.T):St E.T:=st.map (Ol E)
def tT:Nat→Ty→Bool
 |0,_=>false
 |d+1,t=>
  match t with
  | .bool=>true
  | .int _=>true
  | .str=>true
  | .slice _=>false
  | .arr _ e=>tT d e
  | .named i=>(E.fields i).all (tT d)
def Ox:az E.T→Bool
 | .val t _=>tT E depth t
 |_=>false
def vX:iT E.T→Bool
 | .ret vs=>vs.all (Ox E)
 | .panic (.fD _ v)=>Ox E v
 | .panic _=>false
def CU:List (az E.T)→az E.T
 |[v]=>v
 |vs=> .jo vs
inductive wR (E:Env) where
 |next (fr:Fr E.T) (st:St E.T)
 |panic (v:az E.T) (fr:Fr E.T) (st:St E.T)
def zW (st:St E.T):List Ty→List (az E.T)→Option (List (az E.T))
 |[],[]=>some []
 |t::ts,v::vs=>
  match toData E st depth t v with
  |some x=>match zW st ts vs with
   |some r=>some (.val t x::r)
   |none=>none
  |none=>none
 |_,_=>none
def ZE:az E.T→Bool
 | .own _=>true
 |_=>false
def lN (st:St E.T):List TK→List (az E.T)→Option (List (az E.T))
 |[],[]=>some []
 | .data t::ts,v::vs=>
  match toData E st depth t v with
  |some x=>match lN st ts vs with
   |some r=>some (.val t x::r)
   |none=>none
  |none=>none
 | .other::_,_::_=>none
 |_::ts,v::vs=>
  match single E v||ZE E v with
  |true=>match lN st ts vs with
   |some r=>some (v::r)
   |none=>none
  |false=>none
 |_,_=>none
def cI (st:St E.T):List TK→List (az E.T)→List Nat
 | .data _::ts,v::vs=>refs v++cI st ts vs
 |_::ts,_::vs=>cI st ts vs
 |_,_=>[]
mutual
def rn {T:Nat→Type} (ρ:Nat→Nat):az T→az T
 | .own k=> .own (ρ k)
 | .ptr o p=> .ptr (ρ o) p
 | .agg i fs=> .agg i (J9 ρ fs)
 | .jo fs=> .jo (J9 ρ fs)
 | .fn f fs=> .fn f (J9 ρ fs)
 | .fD t v=> .fD t (rn ρ v)
 |v=>v
termination_by structural x=>x
def J9 {T:Nat→Type} (ρ:Nat→Nat):List (az T)→List (az T)
 |[]=>[]
 |v::r=>rn ρ v::J9 ρ r
termination_by structural x=>x
end
def gN {T:Nat→Type} (ρ:Nat→Nat):Obj T→Obj T
 | .box ro c=> .box ro (rn ρ c)
 |o=>o
def idx:List Nat→Nat→Nat
 |[],_=>0
 |k::r,j=>bif Nat.beq k j then 0 else idx r j+1
def ju (st:St E.T) (k:Nat):List Nat:=
 match aR st k with
 |some ob=>cf E ob
 |none=>[]
def reach (st:St E.T):Nat→List Nat→List Nat→List Nat
 |0,_,seen=>seen
 |_+1,[],seen=>seen
 |n+1,k::t,seen=>bif c9 seen k then reach st n t seen else reach st n (ju E st k++t) (seen++[k])
def FJ:List Nat→Bool
 |[]=>true
 |k::r=> !(c9 r k)&&FJ r
def pq (st:St E.T) (R:List Nat):Bool:=FJ R&&R.all fun k=>Nat.blt k st.length&&(ju E st k).all (c9 R)
def vZ (b:Bool):Obj E.T→Obj E.T
 | .arr .live e xs=>bif b then .arr .fix e xs else .arr .live e xs
 |o=>o
def gT (st:St E.T) (fx R:List Nat):St E.T:=R.map fun k=>match aR st k with
 |some ob=>vZ E (c9 fx k) (gN (idx R) ob)
 |none=> .dead
def back (n r:Nat) (R:List Nat) (i:Nat):Nat:=bif Nat.blt i r then nth R i 0 else i-r+n
def nc:Option (Obj E.T)→Obj E.T→Obj E.T
 |some (.arr .live _ _),.arr .fix e xs=> .arr .live e xs
 |_,o=>o
inductive ud (T:Nat→Type) where
 |val (v:az T)
 |panic (v:az T)
def we:iT E.T→ud E.T
 | .ret vs=> .val (CU E vs)
 | .panic v=> .panic v
def YT (ρ:Nat→Nat):ud E.T→ud E.T
 | .val v=> .val (rn ρ v)
 | .panic v=> .panic (rn ρ v)
structure sB (T:Nat→Type) where
 res:ud T
 iO:List (Nat×Obj T)
 ks:List Nat
 news:List (Obj T)
def cG:St E.T→List (Nat×Obj E.T)→St E.T
 |st,[]=>st
 |st,p::r=>cG (dk st p.1 p.2) r
def Da (st:St E.T) (ks:List Nat):St E.T:=
 match ks with
 |[]=>st
 |ks=>st.map (bW E st ks)
def dB (st:St E.T) (ks:List Nat) (fr:Fr E.T):Fr E.T:=
 match ks with
 |[]=>fr
 |ks=>iM E st ks fr
def Bg (st:St E.T) (news:List (Obj E.T)):St E.T:=
 match news with
 |[]=>st
 |news=>st++news
def dM (st:St E.T) (e:sB E.T):St E.T:=Bg E (cG E (Da E st e.ks) e.iO) e.news
def cM (fr:Fr E.T) (st:St E.T) (dst:Option Tmp) (e:sB E.T):wR E:=
 match e.res with
 | .val v=> .next (put E (dB E st e.ks fr) dst v) (dM E st e)
 | .panic v=> .panic v (dB E st e.ks fr) (dM E st e)
def sD (v:az E.T):sB E.T:={res:= .val v,iO:=[],ks:=[],news:=[]}
def frozen (st:St E.T):List Nat→List (Nat×Obj E.T)
 |[]=>[]
 |k::r=>match aR st k with
  |some (.arr _ e xs)=>(k,.arr .bc e xs) ::frozen st r
  |_=>frozen st r
def tf (st:St E.T):List Nat→List (Obj E.T)→List (Nat×Obj E.T)
 |k::R,ob::l=>(k,nc E (aR st k) ob) ::tf st R l
 |_,_=>[]
def wG (st:St E.T) (fx:List Nat) (ds:List (az E.T)) (F:List (az E.T)→St E.T→Tree (iT E.T×St E.T)):Tree (sB E.T):=
 let R:=reach E st 1000 (bh ds) []
 Tree.cV (pq E st R&&(bh ds).all (c9 R)) ((F (J9 (idx R) ds) (gT E st fx R)).bind fun p=>
  let q:=p.2.map (gN (back st.length R.length R))
  .ret {res:=YT E (back st.length R.length R) (we E p.1),iO:=tf E st R q,ks:=(tD E st R).filter (fun k=> !(c9 fx k)),news:=q.drop R.length})
def DE (st:St E.T) (ds:List (az E.T)) (F:List (az E.T)→St E.T→Tree (iT E.T×St E.T)):Tree (sB E.T):=
 let R:=reach E st 1000 (bh ds) []
 Tree.cV (pq E st R&&(bh ds).all (c9 R)) ((F (J9 (idx R) ds) (lock E (gT E st [] R))).bind fun p=>
  Tree.cV (vX E p.1) (.ret {res:=we E p.1,iO:=[],ks:=[],news:=[]}))
def Bb (S:FuncId→Option (Spec E)) (st:St E.T) (fx:List Nat) (callee:az E.T) (args:List (az E.T)):Tree (sB E.T):=
 match callee with
 | .fn f cap=>
  match S f with
  |some (.pure ps F)=>
   match zW E st ps (args++cap)with
   |some ds=>(F ds).bind fun r=>
     .ret {res:=we E r,iO:=(match live E st (bh (args++cap))with
      |[]=>[]
      |ks=>bif vX E r then[]else frozen E st ks),ks:=[],news:=[]}
   |none=> .fail
  |some (.full ps flat F)=>
   match lN E st ps (args++cap)with
   |some ds=>match flat with
    |true=>DE E st ds F
    |false=>match live E st (cI E st ps (args++cap))with
     |[]=>wG E st fx ds F
     |ks=>(wG E (cG E st (frozen E st ks)) fx ds F).bind fun e=> .ret {e with iO:=frozen E st ks++e.iO}
   |none=> .fail
  |none=> .fail
 |_=> .fail
mutual
def UQ:az E.T→List Nat
 | .ptr o _=>[o]
 | .agg _ fs=>KG fs
 | .jo fs=>KG fs
 | .fn _ fs=>KG fs
 | .fD _ v=>UQ v
 |_=>[]
termination_by structural x=>x
def KG:List (az E.T)→List Nat
 |[]=>[]
 |v::r=>UQ v++KG r
termination_by structural x=>x
end
def ZG (fr:Fr E.T) (st:St E.T):List Nat:=KG E fr.s++st.flatMap fun
 | .box _ c=>UQ E c
 |_=>[]
def valOf (t:Ty):az E.T→Option (I E.T t)
 | .val t' x=>match wS t' t with
  |some h=>some (zY h.down x)
  |none=>none
 |_=>none
mutual
def gV (st:St E.T) (n:Nat):az E.T→az E.T
 | .own k=>match aR st k with
  |some (.arr .bc e xs)=>bif Nat.ble n k then .val (.slice e) xs else .own k
  |_=> .own k
 | .agg i fs=>
  match toHLWith E (valOf E) (E.fields i) (sl st n fs)with
  |some r=> .val (.named i) (E.Dg i r)
  |none=> .agg i (sl st n fs)
 |v=>v
termination_by structural x=>x
def sl (st:St E.T) (n:Nat):List (az E.T)→List (az E.T)
 |[]=>[]
 |v::r=>gV st n v::sl st n r
termination_by structural x=>x
end
def LO (st:St E.T) (n:Nat):Obj E.T→Obj E.T
 | .box ro c=> .box ro (gV E st n c)
 |o=>o
def m7 (st:St E.T) (n:Nat):St E.T:=st.map (LO E st n)
def dU (fr:Fr E.T) (dst:Option Tmp) (st:St E.T) (v:az E.T):Tree (wR E):= .ret (.next (put E fr dst v) st)
def FB (fr:Fr E.T) (ps:Array (Nat×Operand)):List (Nat×az E.T):=ps.toList.map fun x=>(x.1,cd E fr x.2)
def Cq (fr:Fr E.T) (st:St E.T) (dst:Option Tmp) (b:Builtin) (ts:List TypeId) (args:List (az E.T)):Tree (wR E):=
 match b,args,ts with
 | .len,[x],t::_=>(Nt E st t x).bind (dU E fr dst st)
 | .min,x::r,_=>(dfold E false x r).bind (dU E fr dst st)
 | .max,x::r,_=>(dfold E true x r).bind (dU E fr dst st)
 | .append,[s,x],[t,tx]=>
  (nU E st t tx s x).bind fun p=>match s with
   | .own o=> .ret (.next (put E (iM E st [o] fr) dst p.1) ((p.2).map (bW E st [o])))
   |_=> .ret (.next (put E fr dst p.1) p.2)
 |_,_,_=> .fail
def E0 (t:TypeId) (x:az E.T) (j:Nat):Tree (az E.T):=
 match E.tk t with
 | .data (.named i)=>Tree.cV (Nat.blt j (E.fields i).length) (match mL E i j x with
  | .undef=> .fail
  |v=> .ret v)
 |_=> .fail
def F7:List Step→Bool
 |[]=>false
 | .idx _ _::_=>true
 | .tQ _ _::p=>F7 p
def rowsOf (a v:az E.T):List Nat:=
 match a with
 | .ptr _ p=>bif F7 p then refs v else[]
 |_=>[]
def pR (S:FuncId→Option (Spec E)) (dr:Bool) (fr:Fr E.T) (st:St E.T) (o:Oper):Tree (wR E):=
 match o.op with
 | .move x=>dU E fr o.dst st (cd E fr x)
 | .assign x=>dU E fr o.dst st (cd E fr x)
 | .pick c a b=>match cd E fr c with
  | .val .bool v=> .ite v (dU E fr o.dst st (cd E fr a)) (dU E fr o.dst st (cd E fr b))
  |_=> .fail
 | .alloc t=>match E.tk t with
  | .other=> .fail
  |_=> .ret (.next (put E fr o.dst (.ptr st.length [])) (st++[.box false (zeroV E t)]))
 | .box t v=>Tree.cV (fits E st t (cd E fr v)) (.ret (.next (put E fr o.dst (.ptr st.length [])) (st++[.box false (cd E fr v)])))
 | .build t ps=>(kJ E st t (FB E fr ps)).bind (dU E fr o.dst st)
 | .buildSlice t n ps=>match dr,live E st (bh (ps.toList.map fun x=>cd E fr x.2))with
  |true,_=>(eZ E st t n (FB E fr ps)).bind (dU E fr o.dst st)
  |false,[]=>(eZ E st t n (FB E fr ps)).bind (dU E fr o.dst st)
  |false,ks=>(eZ E (freeze E st ks) t n ((FB E fr ps).map fun x=>(x.1,gV E (freeze E st ks) 0 x.2))).bind (dU E fr o.dst (freeze E st ks))
 | .field t x j=>(E0 E t (cd E fr x) j).bind (dU E fr o.dst st)
 | .load t a=>(yw E st t (cd E fr a)).bind (dU E fr o.dst st)
 | .store t a v=>match dr,live E st (rowsOf E (cd E fr a) (cd E fr v))with
  |true,_=>(AZ E st t (cd E fr a) (cd E fr v)).bind fun st'=> .ret (.next (put E fr o.dst .undef) st')
  |false,[]=>(AZ E st t (cd E fr a) (cd E fr v)).bind fun st'=> .ret (.next (put E fr o.dst .undef) st')
  |false,ks=>(AZ E (freeze E st ks) t (cd E fr a) (gV E (freeze E st ks) 0 (cd E fr v))).bind fun st'=> .ret (.next (put E fr o.dst .undef) st')
 | .nilCheck x=>match cd E fr x with
  | .ptr p q=>dU E fr o.dst st (.ptr p q)
  | .eg t y=>dU E fr o.dst st (.eg t y)
  | .fn f c=>dU E fr o.dst st (.fn f c)
  |_=> .fail
 | .binOp op t x y _=>match Te E op x y (cd E fr x) (cd E fr y)with
  |some b=>Tree.cV (isIface E t) (dU E fr o.dst st (.val .bool b))
  |none=>(NC E st op t (cd E fr x) (cd E fr y)).bind (dU E fr o.dst st)
 | .unOp op _ x=>(dun E op (cd E fr x)).bind (dU E fr o.dst st)
 | .convert src dst x=>(yD E st src dst (cd E fr x)).bind fun p=>dU E fr o.dst p.2 p.1
 | .makeInterface t x=>match E.tk t with
  | .data ty=>(Tree.e9 (toData E [] depth ty (cd E fr x))).bind fun y=>Tree.cV (tT E depth ty) (dU E fr o.dst st (.fD t (.val ty y)))
  |_=> .fail
 | .makeFunc (.func f) first captured=>Tree.cV (first.toList.isEmpty) (dU E fr o.dst st (.fn f (captured.toList.map (cd E fr))))
 | .makeSlice t l c=>(er E dr st t (cd E fr l) (cd E fr c)).bind fun p=>dU E fr o.dst p.2 p.1
 | .slice t x lo hi mx=>(wi E st t (cd E fr x) (lo.map (cd E fr)) (hi.map (cd E fr)) (mx.map (cd E fr))).bind fun p=>dU E fr o.dst p.2 p.1
 | .fieldAddr t x j=>(wy E t (cd E fr x) j).bind (dU E fr o.dst st)
 | .indexAddr t x i=>(mK E st t (cd E fr x) (cd E fr i)).bind (dU E fr o.dst st)
 | .index t x i=>(JL E t (cd E fr x) (cd E fr i)).bind (dU E fr o.dst st)
 | .typeAssert x _ t true=>match E.tk t with
  | .data ty=>match cd E fr x with
   | .fD t' v=>bif Nat.beq t' t then dU E fr o.dst st (.jo [v,.val .bool true])else dU E fr o.dst st (.jo [iP E depth ty,.val .bool false])
   | .ct=>dU E fr o.dst st (.jo [iP E depth ty,.val .bool false])
   |_=> .fail
  |_=> .fail
 | .extract t i=>match cd E fr t with
  | .jo vs=>match aR vs i with
   |some v=>dU E fr o.dst st v
   |none=> .fail
  |_=> .fail
 | .panic x=>match cd E fr x with
  | .fD t v=> .ret (.panic (.fD t v) fr st)
  |_=> .fail
 | .defer {callee:= .value f,args,..}=>match cd E fr f,fr.d with
  | .fn g cap,[]=> .ret (.next (put E {fr with d:=[(g,(args.toList.map (cd E fr))++cap)]} o.dst .undef) st)
  |_,_=> .fail
 | .call {callee:= .value f,args,..}=>(Bb E S st (ZG E fr st) (cd E fr f) (args.toList.map (cd E fr))).bind fun e=> .ret (cM E fr st o.dst e)
 | .call {callee:= .builtin b,args,argTypes}=>Cq E fr st o.dst b argTypes.toList (args.toList.map (cd E fr))
 |_=> .fail
def pM (ops:List Oper) (j:Nat):Option Tmp:=
 match aR ops j with
 |some o=>o.dst
 |none=>none
def Ar {α:Type} (fr:Fr E.T) (t:Tmp) (yes no:Fr E.T→Tree α):Tree α:=
 match nth fr.s t .undef with
 | .val .bool b=> .ite b (yes {fr with s:=dk fr.s t (.val .bool true)}) (no {fr with s:=dk fr.s t (.val .bool false)})
 |_=> .fail
def guarded {α:Type} (all:List Oper) (g:Option (Nat×Bool)) (fr:Fr E.T) (go pass:Fr E.T→Tree α):Tree α:=
 match g with
 |none=>go fr
 |some (j,b)=>match pM all j with
  |some t=>match nth fr.s t .undef with
   | .jo []=>pass fr
   |_=>match b with
    |true=>Ar E fr t go pass
    |false=>Ar E fr t pass go
  |none=> .fail
inductive oA (E:Env) where
 |done (fr:Fr E.T) (st:St E.T)
 |panic (v:az E.T) (fr:Fr E.T) (st:St E.T)
def SF (o:Oper):List Oper→Bool
 |o2::_=>match o.op,o.dst,o2.op with
  | .buildSlice t _ _,some d,.convert s t' (.tmp d')=>wW E t (.slice (.int .u8))&&(Nat.beq t s&&(Nat.beq s t'&&Nat.beq d d'))
  |_,_,_=>false
 |[]=>false
def Ns (fr:Fr E.T) (st:St E.T) (o:Oper):Tree (wR E):=
 match o.op with
 | .buildSlice t n ps=>(eZ E st t n (FB E fr ps)).bind fun
  | .val (.slice (.int .u8)) xs=> .ret (.next (put E fr o.dst (.own st.length)) (st++[.arr .live (.int .u8) xs]))
  |_=> .fail
 |_=> .fail
def Nr (S:FuncId→Option (Spec E)) (all:List Oper):List Oper→Fr E.T→St E.T→Tree (oA E)
 |[],fr,st=> .ret (.done fr st)
 |o::r,fr,st=>
  let go (fr:Fr E.T):Tree (oA E):=(bif SF E o r then Ns E fr st o else pR E S false fr st o).bind fun
   | .next fr' st'=>Nr S all r fr' st'
   | .panic v fr' st'=> .ret (.panic v fr' st')
  let pass (fr:Fr E.T):Tree (oA E):=Nr S all r (put E fr o.dst (.jo [])) st
  guarded E all o.guard fr go pass
def gg (ev:Operand→az E.T) (st:St E.T):Op→Tree (az E.T)
 | .move x=> .ret (ev x)
 | .assign x=> .ret (ev x)
 | .pick c a b=>match ev c with
  | .val .bool v=> .ite v (.ret (ev a)) (.ret (ev b))
  |_=> .fail
 | .build t ps=>kJ E st t (ps.toList.map fun x=>(x.1,ev x.2))
 | .buildSlice t n ps=>eZ E st t n (ps.toList.map fun x=>(x.1,ev x.2))
 | .load t a=>yw E st t (ev a)
 | .nilCheck x=>match ev x with
  | .ptr p q=> .ret (.ptr p q)
  | .eg t y=> .ret (.eg t y)
  | .fn f c=> .ret (.fn f c)
  |_=> .fail
 | .binOp op t x y _=>match Te E op x y (ev x) (ev y)with
  |some b=>Tree.cV (isIface E t) (.ret (.val .bool b))
  |none=>NC E st op t (ev x) (ev y)
 | .unOp op _ x=>dun E op (ev x)
 | .convert src dst x=>match E.tk dst with
  | .data (.slice _)=> .fail
  |_=>(yD E st src dst (ev x)).bind fun p=> .ret p.1
 | .makeInterface t x=>match E.tk t with
  | .data ty=>(Tree.e9 (toData E [] depth ty (ev x))).bind fun y=>Tree.cV (tT E depth ty) (.ret (.fD t (.val ty y)))
  |_=> .fail
 | .makeFunc (.func f) first captured=>Tree.cV (first.toList.isEmpty) (.ret (.fn f (captured.toList.map ev)))
 | .makeSlice t l c=>(er E true st t (ev l) (ev c)).bind fun p=> .ret p.1
 | .slice t x lo hi mx=>match ev x with
  | .own _=> .fail
  | .ptr _ _=> .fail
  |x=>(wi E st t x (lo.map ev) (hi.map ev) (mx.map ev)).bind fun p=> .ret p.1
 | .fieldAddr t x j=>wy E t (ev x) j
 | .field t x j=>E0 E t (ev x) j
 | .indexAddr t x i=>mK E st t (ev x) (ev i)
 | .index t x i=>JL E t (ev x) (ev i)
 | .typeAssert x _ t true=>match E.tk t with
  | .data ty=>match ev x with
   | .fD t' v=>bif Nat.beq t' t then .ret (.jo [v,.val .bool true])else .ret (.jo [iP E depth ty,.val .bool false])
   | .ct=> .ret (.jo [iP E depth ty,.val .bool false])
   |_=> .fail
  |_=> .fail
 | .extract t i=>match ev t with
  | .jo vs=>match aR vs i with
   |some v=> .ret v
   |none=> .fail
  |_=> .fail
 | .call {callee:= .builtin b,args,argTypes}=>match b,args.toList.map ev,argTypes.toList with
  | .len,[x],t::_=>Nt E st t x
  | .min,x::r,_=>dfold E false x r
  | .max,x::r,_=>dfold E true x r
  |_,_,_=> .fail
 |_=> .fail
def eU (st:St E.T) (i:Nat):Bool:=
 match aR st i with
 |some .dead=>true
 |_=>false
mutual
def owns {T:Nat→Type}:az T→List Nat
 | .own k=>[k]
 | .agg _ fs=>eQ fs
 | .jo fs=>eQ fs
 | .fn _ fs=>eQ fs
 | .fD _ v=>owns v
 |_=>[]
termination_by structural x=>x
def eQ {T:Nat→Type}:List (az T)→List Nat
 |[]=>[]
 |v::r=>owns v++eQ r
termination_by structural x=>x
end
def fh (ev:Operand→az E.T):Op→Bool
 | .store _ _ _=>false
 | .call {callee:= .builtin .append,..}=>false
 | .call {callee:= .builtin _,..}=>true
 | .call _=>false
 | .buildSlice _ _ ps=>(eQ (ps.toList.map fun x=>ev x.2)).isEmpty
 |_=>true
def eV (S:FuncId→Option (Spec E)) (fx:List Nat) (ev:Operand→az E.T) (st:St E.T) (id:Nat) (o:Op):Tree (sB E.T):=
 match o with
 | .alloc t=>match E.tk t with
  | .other=> .fail
  |_=>Tree.cV (eU E st id) (.ret {res:= .val (.ptr id []),iO:=[(id,.box false (zeroV E t))],ks:=[],news:=[]})
 | .box t v=>Tree.cV (eU E st id&&fits E st t (ev v)) (.ret {res:= .val (.ptr id []),iO:=[(id,.box false (ev v))],ks:=[],news:=[]})
 | .convert src dst x=>match E.tk dst with
  | .data (.slice (.int .u8))=>match ev x with
   | .val .str s=>Tree.cV (wW E src .str&&eU E st id) (.ret {res:= .val (.own id),iO:=[(id,.arr .live (.int .u8) s)],ks:=[],news:=[]})
   |_=> .fail
  |_=>(gg E ev st (.convert src dst x)).bind fun v=> .ret (sD E v)
 | .makeSlice t l c=>(er E true st t (ev l) (ev c)).bind fun p=>match p.1 with
  | .val (.slice e) xs=>Tree.cV (eU E st id) (.ret {res:= .val (.own id),iO:=[(id,.arr .live e xs)],ks:=[],news:=[]})
  |_=> .fail
 | .buildSlice t n ps=>match eQ (ps.toList.map fun x=>ev x.2)with
  |[]=>(gg E ev st (.buildSlice t n ps)).bind fun v=> .ret (sD E v)
  |k::r=>(eZ E (freeze E st (k::r)) t n (ps.toList.map fun x=>(x.1,gV E (freeze E st (k::r)) 0 (ev x.2)))).bind fun v=> .ret {res:= .val v,iO:=frozen E st (k::r),ks:=[],news:=[]}
 | .store t a v=>match live E st (rowsOf E (ev a) (ev v))with
  |[]=>match ev a with
   | .ptr k p=>match aR st k with
    |some b=>Tree.cV (fits E st t (ev v)&&zc E t p) ((Ak E (mh E st t) (ev v) b p).bind fun b'=> .ret {res:= .val .undef,iO:=[(k,b')],ks:=[],news:=[]})
    |none=> .fail
   |_=> .fail
  |k::r=>match ev a with
   | .ptr q p=>match aR (freeze E st (k::r)) q with
    |some (.arr l e xs)=>Tree.cV ((fits E (freeze E st (k::r)) t (gV E (freeze E st (k::r)) 0 (ev v))&&zc E t p)&&(owns (gV E (freeze E st (k::r)) 0 (ev v))).isEmpty) ((Ak E (mh E (freeze E st (k::r)) t) (gV E (freeze E st (k::r)) 0 (ev v)) (.arr l e xs) p).bind fun b'=> .ret {res:= .val .undef,iO:=frozen E st (k::r)++[(q,b')],ks:=[],news:=[]})
    |_=> .fail
   |_=> .fail
 | .call {callee:= .value f,args,..}=>Bb E S st fx (ev f) (args.toList.map ev)
 | .call {callee:= .builtin .append,args,argTypes}=>match args.toList.map ev,argTypes.toList with
  |[s,x],[t,tx]=>match s with
   | .bm=>(nU E st t tx .bm x).bind fun p=> .ret {res:= .val p.1,iO:=[],ks:=[],news:=p.2.drop st.length}
   | .own k=>(nU E st t tx (.own k) x).bind fun p=>match aR p.2 k with
    |some ob=> .ret {res:= .val p.1,iO:=[(k,ob)],ks:=[k],news:=[]}
    |none=> .fail
   |_=> .fail
  |_,_=> .fail
 |o=>(gg E ev st o).bind fun v=> .ret (sD E v)
def kL (ev:Operand→az E.T) (f:Operand) (args:Array Operand):List Nat:=refs (ev f)++bh (args.toList.map ev)
def look (ev:Operand→az E.T) (st:St E.T) (id:Nat) (o:Op) (e:sB E.T):List Nat:=
 match o with
 | .move _=>[]
 | .assign _=>[]
 | .alloc _=>[id]
 | .load _ a=>match ev a,e.res with
  | .ptr k _,.val v=>k::refs v
  |_,_=>[]
 | .store _ a v=>match ev a with
  | .ptr k _=>k::(ju E st k++refs (ev v))
  |_=>[]
 | .call {callee:= .value f,args,..}=>reach E st 1000 (kL E ev f args) []
 | .box _ v=>id::owns (ev v)
 | .convert _ d x=>(bif yl E d then[id]else[])++owns (ev x)
 | .makeSlice _ l c=>id::(owns (ev l)++owns (ev c))
 |o=>eQ (o.operands.toList.map ev)
def ic (ev:Operand→az E.T) (st:St E.T) (o:Op):Bool:=
 match o with
 | .call {callee:= .value f,args,..}=>pq E st (reach E st 1000 (kL E ev f args) [])&&(kL E ev f args).all (c9 (reach E st 1000 (kL E ev f args) []))
 | .move _=>true
 | .assign _=>true
 | .alloc _=>true
 | .load _ _=>true
 | .store _ _ _=>true
 | .box _ v=>(owns (ev v)).all (zR E st)
 | .convert _ _ x=>(owns (ev x)).all (zR E st)
 | .makeSlice _ l c=>(owns (ev l)++owns (ev c)).all (zR E st)
 |o=>(eQ (o.operands.toList.map ev)).all (zR E st)
mutual
def clean {T:Nat→Type}:az T→Bool
 | .agg _ fs=>tX fs
 | .jo fs=>tX fs
 | .fn _ fs=>tX fs
 | .fD _ v=>clean v
 | .dD _=>false
 | .undef=>false
 |_=>true
termination_by structural x=>x
def tX {T:Nat→Type}:List (az T)→Bool
 |[]=>true
 |v::r=>clean v&&tX r
termination_by structural x=>x
end
structure zB where
 mv:Bool
 lk:List Nat
 up:List Nat
 ks:List Nat
 vr:List Nat
 cl:Bool
 sA:Bool
 ld:Option (Nat×List Step×List Nat)
 Sz:Option (Nat×List Step)
def s6:ud E.T→List Nat
 | .val v=>refs v
 | .panic v=>refs v
def GC:ud E.T→Bool
 | .val v=>clean v
 | .panic v=>clean v
def Uq:ud E.T→Bool
 | .val _=>false
 | .panic _=>true
def iS (ev:Operand→az E.T) (st:St E.T) (id:Nat) (o:Op) (e:sB E.T):zB:=
 {mv:=fh E ev o
  lk:=look E ev st id o e
  up:=e.iO.map (·.1)++List.range' st.length e.news.length
  ks:=e.ks
  vr:=bh (o.operands.toList.map ev)++s6 E e.res
  cl:=tX (o.operands.toList.map ev)&&GC E e.res
  sA:=Uq E e.res
  ld:=match o with
   | .load _ a=>match ev a,e.res with
    | .ptr k p,.val v=>some (k,p,refs v)
    |_,_=>none
   |_=>none
  Sz:=match o with
   | .store _ a v=>match ev a with
    | .ptr k p=>bif (refs (ev v)).isEmpty then some (k,p)else none
    |_=>none
   |_=>none}
def Nu (a b:List Nat):Bool:=a.all fun k=> !(c9 b k)
def yS:List Step→List Step→Bool
 | .tQ i j::p,.tQ i' j'::q=>Nat.beq i i'&&(bif Nat.beq j j' then yS p q else true)
 |_,_=>false
def Kq (a b:zB):Bool:=
 Nu a.up b.lk||match a.Sz,b.ld with
  |some (k,p),some (k',q,rs)=>Nat.beq k k'&&(yS p q&&Nu a.up rs)
  |_,_=>false
def indep (a b:zB):Bool:=
 (a.mv||b.mv)&&(Nu a.up b.up&&(Kq a b&&(Kq b a&&(Nu a.ks b.vr&&(Nu b.ks a.vr&&((a.ks.isEmpty||b.cl)&&(b.ks.isEmpty||a.cl))&&((!a.sA||b.up.isEmpty)&&(!b.sA||a.up.isEmpty)))))))
def zz (bef:List Nat) (i j:Nat):Bool:=Nat.testBit (nth bef i 0) j
def Ok (bef:List Nat) (i:Nat) (a:zB):List (Nat×zB)→Bool
 |[]=>true
 |(j,b) ::r=>(zz bef i j||indep b a)&&Ok bef i a r
def AP (o:Oper):Bool:=
 match o.op,o.guard with
 | .move _,none=>true
 |_,_=>false
def bits (acc:List Nat):List Edge→Nat
 |[]=>0
 |e::r=>bif Region.binds .any e then(bits acc r|||(2^e.on|||nth acc e.on 0))else bits acc r
def wL:List Nat→List Oper→List Nat
 |acc,[]=>acc
 |acc,o::r=>wL (acc++[bits acc o.after.toList]) r
def wg:Nat→List Oper→Bool
 |_,[]=>true
 |i,o::r=>o.after.toList.all (fun e=> !(Region.binds .any e)||Nat.blt e.on i)&&wg (i+1) r
structure zA where
 i:Nat
 id:Nat
 o:Oper
def I0 (bef:List Nat) (i:Nat):List zA→Bool
 |[]=>true
 |x::r=>(zz bef x.i i||AP x.o)&&I0 bef i r
def IL (all:Array Oper) (bef:List Nat):List zA→Bool
 |[]=>true
 |x::r=>r.all (fun y=>zz bef y.i x.i||x.o.apart all y.o)&&IL all bef r
def makes:Op→Bool
 | .alloc _=>true
 | .box _ _=>true
 | .convert _ d _=>yl E d
 | .makeSlice _ _ _=>true
 |_=>false
def uU:Nat→Nat→List Oper→List zA
 |_,_,[]=>[]
 |i,id,o::r=>{i:=i,id:=id,o:=o} ::uU (i+1) (bif makes E o.op then id+1 else id) r
def xR:List Oper→Nat
 |[]=>0
 |o::r=>bif makes E o.op then xR r+1 else xR r
def nZ (fr:Fr E.T):List Oper→Fr E.T
 |[]=>fr
 |o::r=>nZ (put E fr o.dst .undef) r
def RE (S:FuncId→Option (Spec E)) (fx bef:List Nat) (all:List Oper):List zA→List (Nat×zB)→Fr E.T→St E.T→Tree (oA E)
 |[],_,fr,st=> .ret (.done fr st)
 |x::r,log,fr,st=>
  let go (fr:Fr E.T):Tree (oA E):=(eV E S fx (cd E fr) st x.id x.o.op).bind fun e=>
   Tree.cV (ic E (cd E fr) st x.o.op&&Ok bef x.i (iS E (cd E fr) st x.id x.o.op e) log) (match cM E fr st x.o.dst e with
    | .next fr' st'=>RE S fx bef all r ((x.i,iS E (cd E fr) st x.id x.o.op e) ::log) fr' st'
    | .panic v fr' st'=>Tree.cV (I0 bef x.i r) (.ret (.panic v (nZ E fr' all) st')))
  let pass (fr:Fr E.T):Tree (oA E):=RE S fx bef all r log (put E fr x.o.dst (.jo [])) st
  guarded E all x.o.guard fr go pass
def JJ (S:FuncId→Option (Spec E)) (ops:Array Oper) (fr:Fr E.T) (st:St E.T):Tree (oA E):=
 Tree.cV (wg 0 ops.toList&&IL ops (wL [] ops.toList) (uU E 0 st.length ops.toList))
  (RE E S (ZG E fr st) (wL [] ops.toList) ops.toList (uU E 0 st.length ops.toList) [] fr (Bg E st (List.replicate (xR E ops.toList) .dead)))
inductive ON (T:Nat→Type) where
 |normal
 |exit (id:Nat)
 |ret
 |panic (v:az T)
abbrev bV (E:Env):=ON E.T×Fr E.T×St E.T
def Zw:oA E→bV E
 | .done fr st=>(.normal,fr,st)
 | .panic v fr st=>(.panic v,fr,st)
inductive Whr where
 |slot (t:Nat)
 |obj (o:Nat)
inductive Qk where
 |xM (w:Whr) (p:List Nat) (e:Ty)
 |yF (w:Whr) (p:List Nat)
 |ZH (o:Nat)
 |rd (t:Nat)
 |und (t:Nat)
structure de (E:Env) where
 aM:List Nat
 iq:List (Nat×Nat):=[]
 xM:List Qk:=[]
 closed:Option (Fr E.T→St E.T→Tree (bV E))
 reg:List Qk:=[]
def dg:Code→Nat
 | .seq a b=>dg a+dg b
 | .cond _ a b=>dg a+dg b
 | .block _ c=>dg c
 | .loop c=>dg c+1
 | .scope c=>dg c
 |_=>0
def fC (ks:List Nat) (i:Nat):List (az E.T)→List (az E.T)
 |[]=>[]
 |v::r=>(bif c9 ks i then v else .undef) ::fC ks (i+1) r
def CZ (k:Nat) (e:Ty):List Nat→Option Ty→az E.T→Option (az E.T)
 |[],t,.bm=>match t with
  |none=>some (.own k)
  |some t=>bif jn t (.slice e)then some (.own k)else none
 |j::p,_,.agg i fs=>match aR (E.fields i) j,aR fs j with
  |some t,some v=>match CZ k e p (some t) v with
   |some v'=>some (.agg i (dk fs j v'))
   |none=>none
  |_,_=>none
 |_,_,_=>none
def UL:List Nat→az E.T→az E.T
 |[],v=>v
 |j::p,.agg i fs=>UL p (nth fs j .undef)
 |_,_=> .undef
def pO (st:St E.T):List Nat→az E.T→az E.T
 |[],v=>gV E st 0 v
 |j::p,.agg i fs=> .agg i (dk fs j (pO st p (nth fs j .undef)))
 |_,v=>v
def IH (w:Whr) (fr:Fr E.T) (st:St E.T):az E.T:=
 match w with
 | .slot t=>nth fr.s t .undef
 | .obj o=>match aR st o with
  |some (.box _ c)=>c
  |_=> .undef
def II (w:Whr) (v:az E.T) (fr:Fr E.T) (st:St E.T):Fr E.T×St E.T:=
 match w with
 | .slot t=>({fr with s:=dk fr.s t v},st)
 | .obj o=>match aR st o with
  |some (.box ro _)=>(fr,dk st o (.box ro v))
  |_=>(fr,st)
def NQ (a:Qk) (fr:Fr E.T) (st:St E.T):Option (Fr E.T×St E.T):=
 match a with
 | .xM w p e=>match CZ E st.length e p none (IH E w fr st)with
  |some v=>some (II E w v fr (st++[.arr .live e []]))
  |none=>some (fr,st)
 | .yF w p=>
  let st1:=freeze E st (refs (UL E p (IH E w fr st)))
  some (II E w (pO E st1 p (IH E w fr st)) fr st1)
 | .ZH o=>some (fr,freeze E st [o])
 | .und t=>some ({fr with s:=dk fr.s t .undef},st)
 | .rd t=>match nth fr.s t .undef with
  | .ptr o []=>match aR st o with
   |some (.box _ (.val ty x))=>some ({fr with s:=dk fr.s t (.eg ty x)},dk st o (.box true (.val ty x)))
   |_=>some (fr,st)
  |_=>some (fr,st)
def Qc:List Qk→Fr E.T→St E.T→Option (Fr E.T×St E.T)
 |[],fr,st=>some (fr,st)
 |a::r,fr,st=>match NQ E a fr st with
  |some p=>Qc r p.1 p.2
  |none=>none
def Ch (n:Nat) (s:List (az E.T)):List (Nat×Nat)→List Nat
 |[]=>List.range n
 |(q,k) ::r=>match nth s q .undef with
  | .own m=>bif Nat.ble n m then dk (Ch n s r) k m else Ch n s r
  |_=>Ch n s r
def H2 (st:St E.T) (i:Nat):List Nat→Bool
 |[]=>true
 |m::r=>(Nat.beq m i||(match aR st i,aR st m with
  |some (.arr _ e _),some (.arr .live e' _)=>jn e e'
  |_,_=>false))&&H2 st (i+1) r
def FK (st:St E.T) (iq:List (Nat×Nat)):Bool:=iq.all fun x=>match aR st x.2 with
 |some (.arr .live _ _)=>true
 |_=>false
def adJ (ρ:Nat→Nat) (fr:Fr E.T):Fr E.T:={s:=J9 ρ fr.s,d:=fr.d.map fun x=>(x.1,J9 ρ x.2)}
def tP (ks:List Nat) (iq:List (Nat×Nat)) (n:Nat) (fr:Fr E.T) (st:St E.T):Option (Fr E.T×St E.T):=
 match iq with
 |[]=>
  let st1:=freeze E st (List.range' n (st.length-n))
  let fr':Fr E.T:={s:=sl E st1 n (fC E ks 0 fr.s),d:=fr.d}
  let st2:=m7 E st1 n
  bif (jh E fr'++iZ E (st2.take n)).all (fun k=>Nat.blt k n)then some (fr',st2.take n)else none
 |iq=>
  let R:=Ch E n (fC E ks 0 fr.s) iq
  let st1:=freeze E st ((List.range' n (st.length-n)).filter fun k=> !(c9 R k))
  let fr':Fr E.T:={s:=sl E st1 n (fC E ks 0 fr.s),d:=fr.d}
  let st2:=m7 E st1 n
  bif Nat.beq R.length n&&(pq E st2 R&&(H2 E st2 0 R&&(jh E fr').all (c9 R)))then some (adJ E (idx R) fr',gT E st2 [] R)else none
def qz (step:Fr E.T→St E.T→Tree (bV E)) (ks:List Nat) (iq:List (Nat×Nat)) (n:Nat):Nat→Fr E.T→St E.T→Tree (bV E)
 |0,_,_=> .fail
 |m+1,fr,st=>
  match tP E ks iq n fr st with
  |some (fr',st')=>(step fr' st').bind fun p=>match p.1 with
   | .normal=>qz step ks iq n m p.2.1 p.2.2
   |e=> .ret (e,p.2.1,p.2.2)
  |none=> .fail
def gh (S:FuncId→Option (Spec E)) (L:Nat→de E) (N:Nat):Nat→Code→Fr E.T→St E.T→Tree (bV E)
 |_,.skip,fr,st=> .ret (.normal,fr,st)
 |i,.seq a b,fr,st=>(gh S L N i a fr st).bind fun p=>match p.1 with
  | .normal=>gh S L N (i+dg a) b p.2.1 p.2.2
  |e=> .ret (e,p.2.1,p.2.2)
 |_,.region id ops draw,fr,st=>
  match Qc E (L id).reg fr st with
  |some p=>match draw with
   |false=>(Nr E S ops.toList ops.toList p.1 p.2).bind fun r=> .ret (Zw E r)
   |true=>(JJ E S ops p.1 p.2).bind fun r=> .ret (Zw E r)
  |none=> .fail
 |i,.cond c a b,fr,st=>
  match c with
  | .tmp t=>Ar E fr t (fun fr=>gh S L N i a fr st) (fun fr=>gh S L N (i+dg a) b fr st)
  |_=> .fail
 |i,.block id c,fr,st=>(gh S L N i c fr st).bind fun p=>match p.1 with
  | .exit id'=>bif Nat.beq id' id then .ret (.normal,p.2.1,p.2.2)else .ret (.exit id',p.2.1,p.2.2)
  |e=> .ret (e,p.2.1,p.2.2)
 |i,.loop c,fr,st=>
  match Qc E (L i).xM fr st with
  |some p=>match tP E (L i).aM [] p.2.length p.1 p.2 with
   |some (fr',st')=>Tree.cV (FK E st' (L i).iq) (match(L i).closed with
    |some f=>f fr' st'
    |none=>qz E (gh S L N (i+1) c) (L i).aM (L i).iq st'.length N fr' st')
   |none=> .fail
  |none=> .fail
 |_,.exit id,fr,st=> .ret (.exit id,fr,st)
 |_,.ret,fr,st=> .ret (.ret,fr,st)
 |_,_,_,_=> .fail
def OA (fr:Fr E.T) (st:St E.T):ResultVar→Tree (az E.T)
 | .tmp s=> .ret (nth fr.s s .undef)
 | .cell a ty=>yw E st ty (nth fr.s a .undef)
def yu (fr:Fr E.T) (st:St E.T):List ResultVar→Tree (List (az E.T))
 |r::rs=>(OA E fr st r).bind fun v=>(yu fr st rs).bind fun vs=> .ret (v::vs)
 |[]=> .ret []
def asData (st:St E.T):List TypeId→List (az E.T)→Option (List (az E.T))
 |t::ts,v::vs=>
  match E.tk t with
  | .data ty=>match toData E st depth ty v with
   |some x=>match asData st ts vs with
    |some r=>some (.val ty x::r)
    |none=>none
   |none=>none
  | .other=>none
  |_=>match single E v with
   |true=>match asData st ts vs with
    |some r=>some (v::r)
    |none=>none
   |false=>none
 |[],[]=>some []
 |_,_=>none
def ending (aM:Bool) (base:Nat) (fn:Func) (fr:Fr E.T) (st:St E.T) (sA:Option (az E.T)):Tree (iT E.T×St E.T):=
 match sA with
 |some v=>match aM with
  |true=> .ret (.panic v,st)
  |false=>Tree.cV ((iZ E (st.take base)++refs v).all fun k=>Nat.blt k base) (.ret (.panic v,st.take base))
 |none=>(yu E fr st fn.results.toList).bind fun vs=>
  match aM with
  |true=> .ret (.ret vs,st)
  |false=>match asData E st fn.resultTypes.toList vs with
   |some ws=>Tree.cV (((iZ E (st.take base))++bh ws).all fun k=>Nat.blt k base)
     (.ret (.ret ws,(freeze E st (live E st (bh vs))).take base))
   |none=> .fail
def leave (SD:FuncId→Option (l8 E)) (aM:Bool) (base:Nat) (fn:Func) (fr:Fr E.T) (st:St E.T) (sA:Option (az E.T)):Tree (iT E.T×St E.T):=
 match fr.d with
 |[]=>ending E aM base fn fr st sA
 |[(g,as)]=>match SD g with
  |some F=>
   let fs:=tD E st (jh E fr)
   let bs:=iZ E st++bh as
   let gm:=fs.filter fun k=> !(c9 bs k)
   (F as (zx E gm st) sA).bind fun p=>
    ending E aM base fn {iM E st (fs.filter (c9 bs)) fr with d:=[]} (iV E st gm p.2) (match p.1 with
     |true=>none
     |false=>sA)
  |none=> .fail
 |_=> .fail
def frame (fn:Func) (args:List (az E.T)):Fr E.T:={s:=args++List.replicate (fn.ntmps-args.length) .undef,d:=[]}
def OB (S:FuncId→Option (Spec E)) (SD:FuncId→Option (l8 E)) (L:Nat→de E) (N:Nat) (aM:Bool) (fn:Func) (args:List (az E.T)) (st:St E.T):Tree (iT E.T×St E.T):=
 match fn.body with
 |some c=>(gh E S L N 0 c (frame E fn args) st).bind fun p=>match p.1 with
  | .normal=>leave E SD aM st.length fn p.2.1 p.2.2 none
  | .ret=>leave E SD aM st.length fn p.2.1 p.2.2 none
  | .panic v=>Tree.cV (refs v).isEmpty (leave E SD aM st.length fn p.2.1 p.2.2 (some v))
  | .exit _=> .fail
 |none=> .fail
def QZ:Option (az E.T)→az E.T
 |some v=>v
 |none=> .ct
def UR:Option (az E.T)→Bool
 |some _=>true
 |none=>false
def S7 (base:Nat) (sA:Option (az E.T)) (fr:Fr E.T) (st':St E.T):Tree (Bool×St E.T):=
 match fr.d with
 |[]=>
  let st1:=freeze E st' (List.range' base (st'.length-base))
  let st2:=m7 E st1 base
  Tree.cV ((iZ E (st2.take base)).all fun k=>Nat.blt k base) (.ret (UR E sA,st2.take base))
 |_=> .fail
end
end
open Go
noncomputable section
theorem kt {α:Type} (l:List α) (n:Nat) (d:α):nth l n d=l.getD n d:=by
 induction l generalizing n with
 |nil=>simp[fg,dZ,ed]
 |cons x r ih=>cases n<;>simp[fg,dZ,ed,ih]
theorem cX {α:Type} (l:List α) (n:Nat):aR l n=l[n]? :=by
 induction l generalizing n with
 |nil=>simp[dJ,cT,cU]
 |cons x r ih=>cases n<;>simp[dJ,cT,cU,ih]
theorem Fb {α:Type} (l:List α) (n:Nat) (v:α):dk l n v=l.set n v:=by
 induction l generalizing n with
 |nil=>simp[jJ,gF,gG]
 |cons x r ih=>cases n<;>simp[jJ,gF,gG,ih]
theorem bT {α:Type} {l:List α} {n:Nat} {x:α} (h:aR l n=some x):n<l.length:=by
 rw[cX]at h
 exact(List.getElem?_eq_some_iff.1 h).1
theorem bF {α:Type} (l:List α) (n m:Nat) (v:α):aR (dk l n v) m=if n=m∧m<l.length then some v else aR l m:=by
 simp only[cX,Fb,List.getElem?_set]
 by_cases h:n=m
 ·subst h
  by_cases h':n<l.length
  ·simp[h']
  ·simp[h']
 ·simp[h]
theorem dL {α:Type} (l:List α) (n:Nat) (v:α):(dk l n v).length=l.length:=by simp[Fb]
theorem ew {α:Type} (l:List α) (v:α) (m:Nat):aR (l++[v]) m=if m=l.length then some v else aR l m:=by
 simp only[cX]
 by_cases h:m<l.length
 ·rw[List.getElem?_append_left h,if_neg (by omega)]
 ·by_cases h':m=l.length
  ·subst h';simp
  ·rw[if_neg h',List.getElem?_eq_none (by simp;omega),List.getElem?_eq_none (by omega)]
structure Sg where
 f:Nat→Value
 m:Nat→Prop
instance:CoeFun Sg fun _=>Nat→Value:=⟨Sg.f⟩
def kU:Value→Bool
 | .agg _=>false
 | .tuple _=>false
 |_=>true
section
variable (E:Env) (w:World) (M:Nat→Prop)
def Mem (a:Option Addr) (cs:List Value):Prop:=
 ∃b off,a=some ⟨b,off,none⟩∧ ¬M b∧b<w.heap.size∧ ∀q v,cs[q]? =some v→w.cell? ⟨b,off+q,none⟩=some v
mutual
inductive cF:(t:Ty)→I E.T t→List Value→Prop where
 |bool (b:Bool):cF .bool b [.bool b]
 |int (k:IntKind) (x:J6 k):cF (.int k) x [.int k (toI k x)]
 |str (s:ByteArray) (h:s.size≤dy):cF .str s.data.toList [.string s]
 |named (i:Nat) (x:E.T i) (cs:List Value) (h:l7 (E.fields i) (E.out i x) cs):cF (.named i) x cs
 |slice (e:Ty) (xs:List (I E.T e)) (a:Option Addr) (cap:Nat) (cs:List Value) (hl:bE e xs cs) (hm:xs=[]∨Mem w M a cs) (hn:xs.length≤dy) (hc:xs.length≤cap):
   cF (.slice e) xs [.slice a xs.length cap]
 |arr (n:Nat) (e:Ty) (xs:List (I E.T e)) (cs:List Value) (hn:xs.length=n) (hl:bE e xs cs):cF (.arr n e) xs cs
inductive l7:(ts:List Ty)→HL E.T ts→List Value→Prop where
 |nil:l7 [] () []
 |cons (t:Ty) (ts:List Ty) (x:I E.T t) (r:HL E.T ts) (c1 c2:List Value) (h:cF t x c1) (h':l7 ts r c2):l7 (t::ts) (x,r) (c1++c2)
inductive bE:(e:Ty)→List (I E.T e)→List Value→Prop where
 |nil (e:Ty):bE e [] []
 |cons (e:Ty) (x:I E.T e) (r:List (I E.T e)) (c1 c2:List Value) (h:cF e x c1) (h':bE e r c2):bE e (x::r) (c1++c2)
end
end
structure wY (M M':Nat→Prop) (w w':World):Prop where
 os:w'.os=w.os
 tape:w'.tape=w.tape
 output:w'.output=w.output
 size:w.heap.size≤w'.heap.size
 block: ∀b,b<w.heap.size→ ¬M b→w'.heap[b]? =w.heap[b]?
 may: ∀b,b<w.heap.size→M' b→M b
theorem wY.refl (M:Nat→Prop) (w:World):wY M M w w:=⟨rfl,rfl,rfl,Nat.le_refl _,fun _ _ _=>rfl,fun _ _ h=>h⟩
theorem wY.trans {M M' M'':Nat→Prop} {w w' w'':World} (h:wY M M' w w') (k:wY M' M'' w' w''):wY M M'' w w'':=
 ⟨k.os.trans h.os,k.tape.trans h.tape,k.output.trans h.output,Nat.le_trans h.size k.size,
  fun b hb hm=>(k.block b (Nat.lt_of_lt_of_le hb h.size) (fun hm'=>hm (h.may b hb hm'))).trans (h.block b hb hm),
  fun b hb hm=>h.may b hb (k.may b (Nat.lt_of_lt_of_le hb h.size) hm)⟩
theorem Tn {w:World} {a:Addr} {v:Value} (h:w.cell? a=some v):a.block<w.heap.size:=by
 unfold World.cell? at h
 split at h
 ·rename_i c _ _ hh
  exact(Array.getElem?_eq_some_iff.1 hh).1
 ·cases h
theorem wE {w w':World} {a:Addr} (h:w'.heap[a.block]? =w.heap[a.block]?):w'.cell? a=w.cell? a:=by
 unfold World.cell?
 rw[h]
section
variable {E:Env} {w w':World} {M M':Nat→Prop}
structure Kept (M M':Nat→Prop) (w w':World):Prop where
 size:w.heap.size≤w'.heap.size
 block: ∀b,b<w.heap.size→ ¬M b→w'.heap[b]? =w.heap[b]?
 may: ∀b,b<w.heap.size→M' b→M b
theorem wY.kept {M M':Nat→Prop} {w w':World} (h:wY M M' w w'):Kept M M' w w':=⟨h.size,h.block,h.may⟩
theorem Kept.weaken {M M':Nat→Prop} {w:World} (h: ∀b,M' b→M b):Kept M M' w w:=⟨Nat.le_refl _,fun _ _ _=>rfl,fun b _ hm=>h b hm⟩
theorem Mem.aM {a:Option Addr} {cs:List Value} (k:Kept M M' w w') (h:Mem w M a cs):Mem w' M' a cs:=by
 obtain⟨b,off,rfl,hb,hlt,hc⟩:=h
 exact⟨b,off,rfl,fun hm=>hb (k.may b hlt hm),Nat.lt_of_lt_of_le hlt k.size,fun q v hv=>(wE (k.block b hlt hb)).trans (hc q v hv)⟩
mutual
theorem cF.aM (k:Kept M M' w w'): ∀{t:Ty} {x:I E.T t} {cs:List Value},cF E w M t x cs→cF E w' M' t x cs
 |_,_,_,.bool b=> .bool b
 |_,_,_,.int i x=> .int i x
 |_,_,_,.str s h=> .str s h
 |_,_,_,.named i x cs h=> .named i x cs (l7.aM k h)
 |_,_,_,.slice e xs a cap cs hl hm hn hc=> .slice e xs a cap cs (bE.aM k hl) (hm.imp id (Mem.aM k)) hn hc
 |_,_,_,.arr n e xs cs hn hl=> .arr n e xs cs hn (bE.aM k hl)
theorem l7.aM (k:Kept M M' w w'): ∀{ts:List Ty} {r:HL E.T ts} {cs:List Value},l7 E w M ts r cs→l7 E w' M' ts r cs
 |_,_,_,.nil=> .nil
 |_,_,_,.cons t ts x r c1 c2 h h'=> .cons t ts x r c1 c2 (cF.aM k h) (l7.aM k h')
theorem bE.aM (k:Kept M M' w w'): ∀{e:Ty} {xs:List (I E.T e)} {cs:List Value},bE E w M e xs cs→bE E w' M' e xs cs
 |_,_,_,.nil e=> .nil e
 |_,_,_,.cons e x r c1 c2 h h'=> .cons e x r c1 c2 (cF.aM k h) (bE.aM k h')
end
structure dq (E:Env):Prop where
 La: ∀i x,E.Dg i (E.out i x)=x
 pC: ∀i r,E.out i (E.Dg i r)=r
 zL: ∀i,E.zL i=((E.fields i).map E.size).sum
mutual
theorem cF.len (ok:dq E): ∀{t:Ty} {x:I E.T t} {cs:List Value},cF E w M t x cs→cs.length=E.size t
 |_,_,_,.bool b=>rfl
 |_,_,_,.int i x=>rfl
 |_,_,_,.str s h=>rfl
 |_,_,_,.named i x cs h=>by rw[l7.len ok h,Env.size,ok.zL]
 |_,_,_,.slice e xs a cap cs hl hm hn hc=>rfl
 |_,_,_,.arr n e xs cs hn hl=>by rw[bE.len ok hl,Env.size,hn]
theorem l7.len (ok:dq E): ∀{ts:List Ty} {r:HL E.T ts} {cs:List Value},l7 E w M ts r cs→cs.length=(ts.map E.size).sum
 |_,_,_,.nil=>rfl
 |_,_,_,.cons t ts x r c1 c2 h h'=>by rw[List.length_append,cF.len ok h,l7.len ok h'];simp
theorem bE.len (ok:dq E): ∀{e:Ty} {xs:List (I E.T e)} {cs:List Value},bE E w M e xs cs→cs.length=xs.length*E.size e
 |_,_,_,.nil e=>by simp
 |_,_,_,.cons e x r c1 c2 h h'=>by rw[List.length_append,cF.len ok h,bE.len ok h',List.length_cons,Nat.add_mul];omega
end
mutual
theorem cF.one: ∀{t:Ty} {x:I E.T t} {cs:List Value},cF E w M t x cs→ ∀v∈cs,kU v=true
 |_,_,_,.bool b=>by simp[kU]
 |_,_,_,.int i x=>by simp[kU]
 |_,_,_,.str s h=>by simp[kU]
 |_,_,_,.named i x cs h=>l7.one h
 |_,_,_,.slice e xs a cap cs hl hm hn hc=>by simp[kU]
 |_,_,_,.arr n e xs cs hn hl=>bE.one hl
theorem l7.one: ∀{ts:List Ty} {r:HL E.T ts} {cs:List Value},l7 E w M ts r cs→ ∀v∈cs,kU v=true
 |_,_,_,.nil=>by simp
 |_,_,_,.cons t ts x r c1 c2 h h'=>by
  intro v hv
  rcases List.mem_append.1 hv with hv|hv
  ·exact cF.one h v hv
  ·exact l7.one h' v hv
theorem bE.one: ∀{e:Ty} {xs:List (I E.T e)} {cs:List Value},bE E w M e xs cs→ ∀v∈cs,kU v=true
 |_,_,_,.nil e=>by simp
 |_,_,_,.cons e x r c1 c2 h h'=>by
  intro v hv
  rcases List.mem_append.1 hv with hv|hv
  ·exact cF.one h v hv
  ·exact bE.one h' v hv
end
theorem bE.at (ok:dq E): ∀{e:Ty} {xs:List (I E.T e)} {cs:List Value},bE E w M e xs cs→ ∀(i:Nat) (x:I E.T e),xs[i]? =some x→
  ∃c,cF E w M e x c∧ ∀q v,c[q]? =some v→cs[i*E.size e+q]? =some v
 |_,_,_,.nil e=>by intro i x h;simp at h
 |_,_,_,.cons e y r c1 c2 h h'=>by
  intro i x hx
  have hl:=cF.len ok h
  cases i with
  |zero=>
   simp at hx;subst hx
   refine⟨c1,h,fun q v hv=> ?_⟩
   rw[Nat.zero_mul,Nat.zero_add,List.getElem?_append_left (List.getElem?_eq_some_iff.1 hv).1];exact hv
  |succ i=>
   simp at hx
   obtain⟨c,hc,hq⟩:=bE.at ok h' i x hx
   refine⟨c,hc,fun q v hv=> ?_⟩
   rw[List.getElem?_append_right (by rw[hl,Nat.add_mul];omega),hl]
   have:(i+1)*E.size e+q-E.size e=i*E.size e+q:=by rw[Nat.add_mul];omega
   rw[this];exact hq q v hv
end
def Ev (E:Env):az E.T→Bool
 | .undef=>true
 |d=>single E d
theorem N3 {E:Env} {d:az E.T} (h:single E d=true):Ev E d=true:=by cases d<;>first|exact h|rfl
theorem O6 {E:Env} {d:az E.T} (h:Ev E d=true) (hn:d≠ .undef):single E d=true:=by cases d<;>first|exact h|exact absurd rfl hn
def toV (t:Ty) (cs:List Value):Value:=
 match dX t with
 |true=> .agg cs.toArray
 |false=>cs.headD (.tuple #[])
def k9:Value→Option Nat
 | .pointer (some a)=>some a.block
 | .slice (some a) _ (_+1)=>some a.block
 |_=>none
theorem E2 (a:Option Addr):k9 (.slice a 0 0)=none:=by cases a<;>rfl
theorem j5 {g n cap b:Nat} (h:k9 (.slice (some ⟨g,0,none⟩) n cap)=some b):b=g:=by
 cases cap with
 |zero=>cases h
 |succ c=>cases h;rfl
section
variable (E:Env) (σ:Sg) (st:St E.T) (w:World) (M:Nat→Prop)
mutual
inductive VT:Ty→az E.T→List Value→Prop where
 |val (t:Ty) (x:I E.T t) (cs:List Value) (h:cF E w M t x cs):VT t (.val t x) cs
 |bm (e:Ty) (a:Option Addr):VT (.slice e) .bm [.slice a 0 0]
 |own (k:Nat) (l:RM) (e:Ty) (xs:List (I E.T e)) (h:aR st k=some (.arr l e xs)):VT (.slice e) (.own k) [σ k]
 |dD (e:Ty) (v:Value) (h:kU v=true):VT (.slice e) (.dD e) [v]
 |agg (i:Nat) (fs:List (az E.T)) (cs:List Value) (h:iB (E.fields i) fs cs):VT (.named i) (.agg i fs) cs
inductive iB:List Ty→List (az E.T)→List Value→Prop where
 |nil:iB [] [] []
 |cons (t:Ty) (ts:List Ty) (v:az E.T) (r:List (az E.T)) (c1 c2:List Value) (h:VT t v c1) (h':iB ts r c2):iB (t::ts) (v::r) (c1++c2)
end
mutual
inductive a8:az E.T→Value→Prop where
 |undef (v:Value):a8 .undef v
 |data (t:Ty) (d:az E.T) (cs:List Value) (h:VT E σ st w M t d cs):a8 d (toV t cs)
 |ptr (o:Nat) (p:List Step) (b:Nat) (h:k9 (σ o)=some b) (hl:o<st.length):a8 (.ptr o p) (.pointer (some ⟨b,E.cE p,none⟩))
 |cQ:a8 .cQ (.pointer none)
 |eg (t:Ty) (x:I E.T t) (a:Addr) (cs:List Value) (h:cF E w M t x cs) (hm:Mem w M (some a) cs):a8 (.eg t x) (.pointer (some a))
 |jo (vs:List (az E.T)) (us:List Value) (h:aW vs us):a8 (.jo vs) (.tuple us.toArray)
 |fn (f:FuncId) (vs:List (az E.T)) (us:List Value) (h:aW vs us):a8 (.fn f vs) (.func (.func f) #[] us.toArray)
 |ei:a8 .ei .nilFunc
 |fD (t:TypeId) (d:az E.T) (v:Value) (h:a8 d v):a8 (.fD t d) (.iface t v)
 |ct:a8 .ct .nilIface
inductive aW:List (az E.T)→List Value→Prop where
 |nil:aW [] []
 |cons (v:az E.T) (r:List (az E.T)) (u:Value) (us:List Value) (h:a8 v u) (h':aW r us):aW (v::r) (u::us)
end
def gz (e:Ty) (xs:List (I E.T e)) (v:Value):Prop:=
 xs.length≤dy∧(((∃a,v= .slice a 0 0)∧xs=[])∨
  ∃(g cap:Nat) (c:Array Value) (el:TypeId) (fr:Nat×Nat) (cs:List Value),v= .slice (some ⟨g,0,none⟩) xs.length (cap+1)∧xs.length≤cap+1∧w.heap[g]? =some (.cells c el fr)∧(cap+1)*E.size e≤c.size∧
   (∀q,(e= .int .u8→q<(cap+1)*E.size e)→w.frozen? ⟨g,q,none⟩=false)∧bE E w M e xs cs∧(∀(q:Nat) (u:Value),cs[q]? =some u→c[q]? =some u)∧(e= .int .u8→fr.1≤fr.2))
theorem gz.mk' {e:Ty} {xs:List (I E.T e)} {g cap:Nat} {c:Array Value} {el:TypeId} {fr:Nat×Nat} {cs:List Value} (hx:xs.length≤dy) (hc:xs.length≤cap) (hh:w.heap[g]? =some (.cells c el fr)) (hz:cap*E.size e≤c.size)
  (hf: ∀q,(e= .int .u8→q<cap*E.size e)→w.frozen? ⟨g,q,none⟩=false) (hl:bE E w M e xs cs) (hq: ∀(q:Nat) (u:Value),cs[q]? =some u→c[q]? =some u) {n:Nat} (hn:n=xs.length)
  (ho:e= .int .u8→fr.1≤fr.2:=by first|assumption|(intro _;exact Nat.le_refl _)|(intro _;exact Nat.le_succ _)|(intro h;exact absurd h (by assumption))|(intro _;assumption)):gz E w M e xs (.slice (some ⟨g,0,none⟩) n cap):=by
 subst hn
 cases cap with
 |zero=>exact⟨hx,.inl ⟨⟨some ⟨g,0,none⟩,by rw[Nat.le_zero.1 hc]⟩,List.eq_nil_of_length_eq_zero (Nat.le_zero.1 hc)⟩⟩
 |succ cap=>exact⟨hx,.inr ⟨g,cap,c,el,fr,cs,rfl,hc,hh,hz,hf,hl,hq,ho⟩⟩
inductive cZ:Value→Obj E.T→Prop where
 |box (ro:Bool) (d:az E.T) (b:Nat) (c:Array Value) (el:TypeId) (fr:Nat×Nat) (hh:w.heap[b]? =some (.cells c el fr))
   (hf: ∀q,w.frozen? ⟨b,q,none⟩=false)
   (hc:(∃t,VT E σ st w M t d c.toList)∨(Ev E d=true∧ ∃v,c.toList=[v]∧kU v=true∧a8 E σ st w M d v)):cZ (.pointer (some ⟨b,0,none⟩)) (.box ro d)
 |arr (l:RM) (e:Ty) (xs:List (I E.T e)) (v:Value) (h:gz E w M e xs v):cZ v (.arr l e xs)
 |dead (v:Value):cZ v .dead
end
def dt {T:Nat→Type}:Obj T→Bool
 | .box ro _=> !ro
 | .arr l _ _=>l.may
 | .dead=>false
def dC {T:Nat→Type}:Obj T→Bool
 | .dead=>true
 |_=>false
def MB {T:Nat→Type} (σ:Sg) (st:St T) (b:Nat):Prop:=σ.m b∨ ∃o ob,aR st o=some ob∧dt ob=true∧k9 (σ o)=some b
structure br (E:Env) (σ:Sg) (st:St E.T) (w:World):Prop where
 obj: ∀o ob,aR st o=some ob→cZ E σ st w (MB σ st) (σ o) ob
 apart: ∀o o' ob ob' b,o≠o'→aR st o=some ob→aR st o'=some ob'→dt ob=true→dC ob'=false→k9 (σ o)=some b→k9 (σ o')=some b→False
 qC: ∀b,σ.m b→b<w.heap.size
 out: ∀o ob b,aR st o=some ob→dC ob=false→k9 (σ o)=some b→ ¬σ.m b
end
open Go
section
variable {E:Env} {σ σ':Sg} {st st':St E.T} {w w':World} {M M':Nat→Prop}
structure ij (σ σ':Sg) (st st':St E.T) (k:Nat):Prop where
 at_:σ' k=σ k
 arr: ∀l e xs,aR st k=some (.arr l e xs)→ ∃l' xs',aR st' k=some (.arr l' e xs')
 lt:k<st.length→k<st'.length
theorem ij.refl (k:Nat):ij σ σ st st k:=⟨rfl,fun l e xs h=>⟨l,xs,h⟩,id⟩
mutual
theorem VT.aM (kp:Kept M M' w w'): ∀{t:Ty} {d:az E.T} {cs:List Value},VT E σ st w M t d cs→(∀k∈refs d,ij σ σ' st st' k)→VT E σ' st' w' M' t d cs
 |_,_,_,.val t x cs h,hs=> .val t x cs (cF.aM kp h)
 |_,_,_,.bm e a,hs=> .bm e a
 |_,_,_,.own k l e xs h,hs=>by
  have hk:=hs k (by simp[refs])
  obtain⟨l',xs',h'⟩:=hk.arr l e xs h
  have:=VT.own (σ:=σ') (w:=w') (M:=M') k l' e xs' h'
  rwa [hk.at_]at this
 |_,_,_,.dD e v h,hs=> .dD e v h
 |_,_,_,.agg i fs cs h,hs=> .agg i fs cs (iB.aM kp h (fun k hk=>hs k (by simpa [refs]using hk)))
theorem iB.aM (kp:Kept M M' w w'): ∀{ts:List Ty} {ds:List (az E.T)} {cs:List Value},iB E σ st w M ts ds cs→(∀k∈bh ds,ij σ σ' st st' k)→iB E σ' st' w' M' ts ds cs
 |_,_,_,.nil,hs=> .nil
 |_,_,_,.cons t ts v r c1 c2 h h',hs=> .cons t ts v r c1 c2 (VT.aM kp h (fun k hk=>hs k (by simp[bh,hk]))) (iB.aM kp h' (fun k hk=>hs k (by simp[bh,hk])))
end
mutual
theorem a8.aM (kp:Kept M M' w w'): ∀{d:az E.T} {v:Value},a8 E σ st w M d v→(∀k∈refs d,ij σ σ' st st' k)→a8 E σ' st' w' M' d v
 |_,_,.undef v,hs=> .undef v
 |_,_,.data t d cs h,hs=> .data t d cs (VT.aM kp h hs)
 |_,_,.ptr o p b h hl,hs=>by
  have hk:=hs o (by simp[refs])
  exact .ptr o p b (by rw[hk.at_];exact h) (hk.lt hl)
 |_,_,.cQ,hs=> .cQ
 |_,_,.eg t x a cs h hm,hs=> .eg t x a cs (cF.aM kp h) (Mem.aM kp hm)
 |_,_,.jo vs us h,hs=> .jo vs us (aW.aM kp h (fun k hk=>hs k (by simpa [refs]using hk)))
 |_,_,.fn f vs us h,hs=> .fn f vs us (aW.aM kp h (fun k hk=>hs k (by simpa [refs]using hk)))
 |_,_,.ei,hs=> .ei
 |_,_,.fD t d v h,hs=> .fD t d v (a8.aM kp h (fun k hk=>hs k (by simpa [refs]using hk)))
 |_,_,.ct,hs=> .ct
theorem aW.aM (kp:Kept M M' w w'): ∀{ds:List (az E.T)} {us:List Value},aW E σ st w M ds us→(∀k∈bh ds,ij σ σ' st st' k)→aW E σ' st' w' M' ds us
 |_,_,.nil,hs=> .nil
 |_,_,.cons v r u us h h',hs=> .cons v r u us (a8.aM kp h (fun k hk=>hs k (by simp[bh,hk]))) (aW.aM kp h' (fun k hk=>hs k (by simp[bh,hk])))
end
theorem gz.aM (kp:Kept M M' w w') {e:Ty} {xs:List (I E.T e)} {v:Value} (hb: ∀g,k9 v=some g→w'.heap[g]? =w.heap[g]?) (h:gz E w M e xs v):gz E w' M' e xs v:=by
 refine⟨h.1,?_⟩
 rcases h.2 with h|⟨g,cap,c,el,fr,cs,rfl,hc,hh,hz,hf,hl,hq,ho⟩
 ·exact .inl h
 ·have hg:=hb g rfl
  refine .inr ⟨g,cap,c,el,fr,cs,rfl,hc,hg.trans hh,hz,fun q hq=> ?_,bE.aM kp hl,hq,ho⟩
  have:=hf q hq
  unfold World.frozen? at this⊢
  simp only[hg]
  exact this
theorem cZ.aM (kp:Kept M M' w w') {v:Value} {ob:Obj E.T} (hb: ∀g,k9 v=some g→w'.heap[g]? =w.heap[g]?) (hs: ∀k∈cf E ob,ij σ σ' st st' k) (h:cZ E σ st w M v ob):
  cZ E σ' st' w' M' v ob:=by
 cases h with
 |box ro d b c el fr hh hf hc=>
  have hg:=hb b rfl
  refine .box ro d b c el fr (hg.trans hh) (fun q=> ?_) ?_
  ·have:=hf q
   unfold World.frozen? at this⊢
   simp only[hg]
   exact this
  ·rcases hc with⟨t,ht⟩|⟨hs1,u,hu,ho,hv⟩
   ·exact .inl ⟨t,VT.aM kp ht hs⟩
   ·exact .inr ⟨hs1,u,hu,ho,a8.aM kp hv hs⟩
 |arr l e xs v h=>exact .arr l e xs v (gz.aM kp hb h)
 |dead v=>exact .dead v
mutual
theorem VT.len (ok:dq E): ∀{t:Ty} {d:az E.T} {cs:List Value},VT E σ st w M t d cs→cs.length=E.size t
 |_,_,_,.val t x cs h=>cF.len ok h
 |_,_,_,.bm e a=>rfl
 |_,_,_,.own k l e xs h=>rfl
 |_,_,_,.dD e v h=>rfl
 |_,_,_,.agg i fs cs h=>by rw[iB.len ok h,Env.size,ok.zL]
theorem iB.len (ok:dq E): ∀{ts:List Ty} {ds:List (az E.T)} {cs:List Value},iB E σ st w M ts ds cs→cs.length=(ts.map E.size).sum
 |_,_,_,.nil=>rfl
 |_,_,_,.cons t ts v r c1 c2 h h'=>by rw[List.length_append,VT.len ok h,iB.len ok h'];simp
end
theorem Oc (hst:br E σ st w) {k:Nat} {l:RM} {e:Ty} {xs:List (I E.T e)} (h:aR st k=some (.arr l e xs)):kU (σ k)=true:=by
 have:=hst.obj k _ h
 generalize σ k=u at this
 cases this with
 |arr l e xs v h=>
  rcases h.2 with⟨⟨a,h⟩,_⟩|⟨g,cap,c,el,fr,cs,h,_⟩<;>rw[h]<;>rfl
mutual
theorem VT.one (hst:br E σ st w): ∀{t:Ty} {d:az E.T} {cs:List Value},VT E σ st w M t d cs→ ∀v∈cs,kU v=true
 |_,_,_,.val t x cs h=>cF.one h
 |_,_,_,.bm e a=>by simp[kU]
 |_,_,_,.own k l e xs h=>by simpa using Oc hst h
 |_,_,_,.dD e v h=>by simpa using h
 |_,_,_,.agg i fs cs h=>iB.one hst h
theorem iB.one (hst:br E σ st w): ∀{ts:List Ty} {ds:List (az E.T)} {cs:List Value},iB E σ st w M ts ds cs→ ∀v∈cs,kU v=true
 |_,_,_,.nil=>by simp
 |_,_,_,.cons t ts v r c1 c2 h h'=>by
  intro u hu
  rcases List.mem_append.1 hu with hu|hu
  ·exact VT.one hst h u hu
  ·exact iB.one hst h' u hu
end
theorem ez (ks:List Nat) (k:Nat):c9 ks k=true↔k∈ks:=by
 unfold c9
 rw[List.any_eq_true]
 constructor
 ·rintro⟨x,hx,h⟩
  rw[Nat.eq_of_beq_eq_true h];exact hx
 ·intro h;exact⟨k,h,Nat.beq_refl k⟩
mutual
theorem qT (ks:List Nat): ∀(d:az E.T) (k:Nat),k∈refs (kill E st ks d)→k∈refs d∧k∉ks
 | .own o,k=>by
  unfold kill
  cases hm:c9 ks o with
  |true=>simp only[cond_true];split<;>simp[refs]
  |false=>
   simp only[cond_false,refs]
   intro h
   have hk:k=o:=by simpa using h
   subst hk
   exact⟨by simp,fun hk=>by rw[(ez ks k).2 hk]at hm;cases hm⟩
 | .ptr o p,k=>by
  unfold kill
  cases hm:c9 ks o with
  |true=>simp[refs]
  |false=>
   simp only[cond_false,refs]
   intro h
   have hk:k=o:=by simpa using h
   subst hk
   exact⟨by simp,fun hk=>by rw[(ez ks k).2 hk]at hm;cases hm⟩
 | .agg i fs,k=>by unfold kill;simpa [refs]using kr ks fs k
 | .jo fs,k=>by unfold kill;simpa [refs]using kr ks fs k
 | .fn f fs,k=>by unfold kill;simpa [refs]using kr ks fs k
 | .fD t v,k=>by unfold kill;simpa [refs]using qT ks v k
 | .val t x,k=>by unfold kill;simp[refs]
 | .bm,k=>by unfold kill;simp[refs]
 | .cQ,k=>by unfold kill;simp[refs]
 | .eg t x,k=>by unfold kill;simp[refs]
 | .ei,k=>by unfold kill;simp[refs]
 | .ct,k=>by unfold kill;simp[refs]
 | .dD e,k=>by unfold kill;simp[refs]
 | .undef,k=>by unfold kill;simp[refs]
theorem kr (ks:List Nat): ∀(ds:List (az E.T)) (k:Nat),k∈bh (cY E st ks ds)→k∈bh ds∧k∉ks
 |[],k=>by simp[cY,bh]
 |d::r,k=>by
  simp only[cY,bh,List.mem_append]
  rintro(h|h)
  ·obtain⟨h1,h2⟩:=qT ks d k h;exact⟨.inl h1,h2⟩
  ·obtain⟨h1,h2⟩:=kr ks r k h;exact⟨.inr h1,h2⟩
end
mutual
theorem VT.kill (hst:br E σ st w) (ks:List Nat): ∀{t:Ty} {d:az E.T} {cs:List Value},VT E σ st w M t d cs→VT E σ st w M t (D.kill E st ks d) cs
 |_,_,_,.val t x cs h=>by unfold D.kill;exact .val t x cs h
 |_,_,_,.bm e a=>by unfold D.kill;exact .bm e a
 |_,_,_,.own k l e xs h=>by
  unfold D.kill
  cases c9 ks k with
  |true=>simp only[cond_true,h];exact .dD e _ (Oc hst h)
  |false=>simp only[cond_false];exact .own k l e xs h
 |_,_,_,.dD e v h=>by unfold D.kill;exact .dD e v h
 |_,_,_,.agg i fs cs h=>by unfold D.kill;exact .agg i _ cs (iB.kill hst ks h)
theorem iB.kill (hst:br E σ st w) (ks:List Nat): ∀{ts:List Ty} {ds:List (az E.T)} {cs:List Value},iB E σ st w M ts ds cs→iB E σ st w M ts (D.cY E st ks ds) cs
 |_,_,_,.nil=>by unfold D.cY;exact .nil
 |_,_,_,.cons t ts v r c1 c2 h h'=>by unfold D.cY;exact .cons t ts _ _ c1 c2 (VT.kill hst ks h) (iB.kill hst ks h')
end
mutual
theorem a8.kill (hst:br E σ st w) (ks:List Nat): ∀{d:az E.T} {v:Value},a8 E σ st w M d v→a8 E σ st w M (D.kill E st ks d) v
 |_,_,.undef v=>by unfold D.kill;exact .undef v
 |_,_,.data t d cs h=> .data t _ cs (VT.kill hst ks h)
 |_,_,.ptr o p b h hl=>by
  unfold D.kill
  cases c9 ks o with
  |true=>exact .undef _
  |false=>exact .ptr o p b h hl
 |_,_,.cQ=>by unfold D.kill;exact .cQ
 |_,_,.eg t x a cs h hm=>by unfold D.kill;exact .eg t x a cs h hm
 |_,_,.jo vs us h=>by unfold D.kill;exact .jo _ us (aW.kill hst ks h)
 |_,_,.fn f vs us h=>by unfold D.kill;exact .fn f _ us (aW.kill hst ks h)
 |_,_,.ei=>by unfold D.kill;exact .ei
 |_,_,.fD t d v h=>by unfold D.kill;exact .fD t _ v (a8.kill hst ks h)
 |_,_,.ct=>by unfold D.kill;exact .ct
theorem aW.kill (hst:br E σ st w) (ks:List Nat): ∀{ds:List (az E.T)} {us:List Value},aW E σ st w M ds us→aW E σ st w M (D.cY E st ks ds) us
 |_,_,.nil=>by unfold D.cY;exact .nil
 |_,_,.cons v r u us h h'=>by unfold D.cY;exact .cons _ _ u us (a8.kill hst ks h) (aW.kill hst ks h')
end
end
open Go
noncomputable section
def qq (c:Array Value) (o:Nat):List Value→Array Value
 |[]=>c
 |v::r=>qq (c.setIfInBounds o v) (o+1) r
theorem gH (vs:List Value): ∀(c:Array Value) (o:Nat),(qq c o vs).size=c.size:=by
 induction vs with
 |nil=>intro c o;rfl
 |cons v r ih=>intro c o;simp[qq,ih]
theorem qF (vs:List Value): ∀(c:Array Value) (o q:Nat),o+vs.length≤c.size→(qq c o vs)[q]? =if o≤q∧q<o+vs.length then vs[q-o]? else c[q]? :=by
 induction vs with
 |nil=>intro c o q h;rw[if_neg (by simp)];rfl
 |cons v r ih=>
  intro c o q h
  simp only[qq]
  rw[ih _ _ _ (by simp at h⊢;omega)]
  simp only[List.length_cons]at h⊢
  by_cases h1:o+1≤q∧q<o+1+r.length
  ·rw[if_pos h1,if_pos (by omega)]
   have:q-o=(q-(o+1))+1:=by omega
   rw[this];rfl
  ·rw[if_neg h1]
   by_cases h2:q=o
   ·subst h2
    rw[if_pos (by omega),Array.getElem?_setIfInBounds]
    simp;omega
   ·rw[if_neg (by omega),Array.getElem?_setIfInBounds,if_neg (by omega)]
def iL (w:World) (b:Nat) (o:Go.Obj):World:={w with heap:=w.heap.setIfInBounds b o}
theorem kT {w:World} {b:Nat} {o:Go.Obj} (h:b<w.heap.size):(iL w b o).heap[b]? =some o:=by
 simp[iL,h]
theorem nF {w:World} {b b':Nat} {o:Go.Obj} (h:b≠b'):(iL w b o).heap[b']? =w.heap[b']? :=by
 simp[iL,h]
theorem iK {w:World} {b:Nat} {o:Go.Obj}:(iL w b o).heap.size=w.heap.size:=by simp[iL]
theorem HQ {w:World} {b:Nat} {o:Go.Obj} (h:w.heap[b]? =some o):iL w b o=w:=by
 have:w.heap.setIfInBounds b o=w.heap:=by
  apply Array.ext_getElem?
  intro i
  rw[Array.getElem?_setIfInBounds]
  split
  ·rename_i hi;subst hi
   obtain⟨hb,h'⟩:=Array.getElem?_eq_some_iff.1 h
   simp[hb,h']
  ·rfl
 unfold iL
 rw[this]
theorem dS (b off i:Nat):(⟨b,off,none⟩:Addr).add i=⟨b,off+i,none⟩:=by
 unfold Addr.add
 split
 ·rename_i h;subst h;rfl
 ·rfl
theorem Po (P:Program) (w:World) (b q:Nat) (v:Value) (c:Array Value) (el:TypeId) (fr:Nat×Nat) (hv:kU v=true) (hh:w.heap[b]? =some (.cells c el fr)) (hq:q<c.size)
  (hf:w.frozen? ⟨b,q,none⟩=false):(store ⟨b,q,none⟩ v).run P w= .ok () (iL w b (.cells (c.setIfInBounds q v) el fr)):=by
 have hc:w.cell? ⟨b,q,none⟩=some c[q]:=by simp[World.cell?,hh,hq]
 have hw:w.setCell ⟨b,q,none⟩ v=iL w b (.cells (c.setIfInBounds q v) el fr):=by
  obtain⟨hb,hh'⟩:=Array.getElem?_eq_some_iff.1 hh
  unfold World.setCell iL
  congr 1
  apply Array.ext_getElem?
  intro i
  rw[Array.getElem?_setIfInBounds,Array.getElem?_modify]
  by_cases hi:b=i
  ·subst hi;simp[hh',hb]
  ·simp[hi]
 cases v<;>first|(simp[kU]at hv;done)|simp[store,Sem.run,hc,hf,hw]
theorem nt (P:Program) (b off:Nat) (el:TypeId) (fr:Nat×Nat): ∀(vs:List Value) (i:Nat) (w:World) (c:Array Value),w.heap[b]? =some (.cells c el fr)→off+i+vs.length≤c.size→
  (∀v∈vs,kU v=true)→(∀q,off+i≤q→q<off+i+vs.length→w.frozen? ⟨b,q,none⟩=false)→
  (storeCells ⟨b,off,none⟩ vs i).run P w= .ok () (iL w b (.cells (qq c (off+i) vs) el fr)):=by
 intro vs
 induction vs with
 |nil=>
  intro i w c hh _ _ _
  simp[storeCells,qq,HQ hh]
 |cons v r ih=>
  intro i w c hh hl h1 hf
  simp only[List.length_cons]at hl hf
  have hst:=Po P w b (off+i) v c el fr (h1 v (by simp)) hh (by omega) (hf _ (Nat.le_refl _) (by omega))
  have hb:=(Array.getElem?_eq_some_iff.1 hh).1
  simp only[storeCells,dS,Sem.run_bind,hst,Result.andThen_ok]
  have hp:=ih (i+1) (iL w b (.cells (c.setIfInBounds (off+i) v) el fr)) (c.setIfInBounds (off+i) v) (kT hb) (by simp;omega) (fun v hv=>h1 v (by simp[hv])) (by
   intro q h2 h3
   have:=hf q (by omega) (by omega)
   unfold World.frozen? at this⊢
   rw[kT hb]
   rw[hh]at this
   exact this)
  rw[hp]
  simp[qq,iL,Nat.add_assoc]
def mc {T:Nat→Type}:Obj T→Bool
 | .arr l _ _=>l.Ur
 |_=>false
inductive qQ {T:Nat→Type}:Obj T→Obj T→Prop where
 |box (ro ro':Bool) (c c':az T):qQ (.box ro c) (.box ro' c')
 |arr (l l':RM) (e:Ty) (xs xs':List (I T e)):qQ (.arr l e xs) (.arr l' e xs')
 |dead:qQ .dead .dead
theorem qQ.refl {T:Nat→Type} (o:Obj T):qQ o o:=by
 cases o with
 |box ro c=>exact .box ro ro c c
 |arr l e xs=>exact .arr l l e xs xs
 |dead=>exact .dead
theorem qQ.trans {T:Nat→Type} {a b c:Obj T} (h:qQ a b) (k:qQ b c):qQ a c:=by
 cases h<;>cases k<;>constructor
structure yU {T:Nat→Type} (σ σ':Sg) (st st':St T):Prop where
 same: ∀o ob,aR st o=some ob→mc ob=false→σ' o=σ o
 kind: ∀o ob,aR st o=some ob→ ∃ob',aR st' o=some ob'∧qQ ob ob'∧(mc ob=false→mc ob'=false)
theorem yU.refl {T:Nat→Type} (σ:Sg) (st:St T):yU σ σ st st:=⟨fun _ _ _ _=>rfl,fun o ob h=>⟨ob,h,qQ.refl ob,id⟩⟩
theorem yU.trans {T:Nat→Type} {σ σ' σ'':Sg} {st st' st'':St T} (h:yU σ σ' st st') (k:yU σ' σ'' st' st''):yU σ σ'' st st'':=by
 refine⟨fun o ob ho hl=> ?_,fun o ob ho=> ?_⟩
 ·obtain⟨ob',h',_,hl'⟩:=h.kind o ob ho
  rw[k.same o ob' h' (hl' hl),h.same o ob ho hl]
 ·obtain⟨ob',h',t',hl'⟩:=h.kind o ob ho
  obtain⟨ob'',h'',t'',hl''⟩:=k.kind o ob' h'
  exact⟨ob'',h'',t'.trans t'',fun hl=>hl'' (hl' hl)⟩
theorem yU.len {T:Nat→Type} {σ σ':Sg} {st st':St T} (h:yU σ σ' st st'):st.length≤st'.length:=by
 rcases Nat.eq_zero_or_pos st.length with h0|h0
 ·omega
 ·have:aR st (st.length-1)=some (st[st.length-1]'(by omega)):=by rw[cX];exact List.getElem?_eq_getElem _
  obtain⟨ob',h',_⟩:=h.kind _ _ this
  have:=bT h'
  omega
structure Qj (σ σ':Sg) (w w':World):Prop where
 m:σ'.m=σ.m
 gm: ∀b,σ.m b→w'.heap[b]? =w.heap[b]?
theorem Qj.refl (σ:Sg) (w:World):Qj σ σ w w:=⟨rfl,fun _ _=>rfl⟩
theorem Qj.trans {σ σ' σ'':Sg} {w w' w'':World} (h:Qj σ σ' w w') (k:Qj σ' σ'' w' w''):Qj σ σ'' w w'':=
 ⟨k.m.trans h.m,fun b hb=>(k.gm b (by rw[h.m];exact hb)).trans (h.gm b hb)⟩
structure Mv {E:Env} (σ σ':Sg) (st st':St E.T) (w w':World):Prop where
 rep:br E σ' st' w'
 aM:wY (MB σ st) (MB σ' st') w w'
 stay:yU σ σ' st st'
 qC:Qj σ σ' w w'
 name: ∀k,k<st.length→σ' k=σ k
section
variable {E:Env} {σ σ' σ'':Sg} {st st' st'':St E.T} {w w' w'':World}
theorem Mv.refl (h:br E σ st w):Mv σ σ st st w w:=⟨h,wY.refl _ _,yU.refl _ _,Qj.refl _ _,fun _ _=>rfl⟩
theorem Mv.trans (h:Mv (E:=E) σ σ' st st' w w') (k:Mv σ' σ'' st' st'' w' w''):Mv σ σ'' st st'' w w'':=
 ⟨k.rep,h.aM.trans k.aM,h.stay.trans k.stay,h.qC.trans k.qC,fun o ho=>(k.name o (Nat.lt_of_lt_of_le ho h.stay.len)).trans (h.name o ho)⟩
theorem Mv.same (h:Mv (E:=E) σ σ' st st' w w') (k:Nat) (hk:k<st.length):ij σ σ' st st' k:=by
 refine⟨h.name k hk,fun l e xs hh=> ?_,fun _=>Nat.lt_of_lt_of_le hk h.stay.len⟩
 obtain⟨ob',h',t',_⟩:=h.stay.kind k _ hh
 cases t' with
 |arr l l' e xs xs'=>exact⟨l',xs',h'⟩
mutual
theorem VT.refs: ∀{t:Ty} {d:az E.T} {cs:List Value} {M:Nat→Prop},VT E σ st w M t d cs→ ∀k∈D.refs d,k<st.length
 |_,_,_,_,.val t x cs h=>by simp[D.refs]
 |_,_,_,_,.bm e a=>by simp[D.refs]
 |_,_,_,_,.own k l e xs h=>by simpa [D.refs]using bT h
 |_,_,_,_,.dD e v h=>by simp[D.refs]
 |_,_,_,_,.agg i fs cs h=>by simpa [D.refs]using iB.refs h
theorem iB.refs: ∀{ts:List Ty} {ds:List (az E.T)} {cs:List Value} {M:Nat→Prop},iB E σ st w M ts ds cs→ ∀k∈bh ds,k<st.length
 |_,_,_,_,.nil=>by simp[bh]
 |_,_,_,_,.cons t ts v r c1 c2 h h'=>by
  intro k hk
  simp only[bh,List.mem_append]at hk
  rcases hk with hk|hk
  ·exact VT.refs h k hk
  ·exact iB.refs h' k hk
end
mutual
theorem a8.refs: ∀{d:az E.T} {v:Value} {M:Nat→Prop},a8 E σ st w M d v→ ∀k∈D.refs d,k<st.length
 |_,_,_,.undef v=>by simp[D.refs]
 |_,_,_,.data t d cs h=>VT.refs h
 |_,_,_,.ptr o p b h hl=>by simpa [D.refs]using hl
 |_,_,_,.cQ=>by simp[D.refs]
 |_,_,_,.eg t x a cs h hm=>by simp[D.refs]
 |_,_,_,.jo vs us h=>by simpa [D.refs]using aW.refs h
 |_,_,_,.fn f vs us h=>by simpa [D.refs]using aW.refs h
 |_,_,_,.ei=>by simp[D.refs]
 |_,_,_,.fD t d v h=>by simpa [D.refs]using a8.refs h
 |_,_,_,.ct=>by simp[D.refs]
theorem aW.refs: ∀{ds:List (az E.T)} {us:List Value} {M:Nat→Prop},aW E σ st w M ds us→ ∀k∈bh ds,k<st.length
 |_,_,_,.nil=>by simp[bh]
 |_,_,_,.cons v r u us h h'=>by
  intro k hk
  simp only[bh,List.mem_append]at hk
  rcases hk with hk|hk
  ·exact a8.refs h k hk
  ·exact aW.refs h' k hk
end
theorem Mv.YO (h:Mv (E:=E) σ σ' st st' w w') {d:az E.T} {v:Value} (hv:a8 E σ st w (MB σ st) d v):a8 E σ' st' w' (MB σ' st') d v:=
 a8.aM h.aM.kept hv fun k hk=>h.same k (a8.refs hv k hk)
theorem Mv.Ke (h:Mv (E:=E) σ σ' st st' w w') {ds:List (az E.T)} {us:List Value} (hv:aW E σ st w (MB σ st) ds us):aW E σ' st' w' (MB σ' st') ds us:=
 aW.aM h.aM.kept hv fun k hk=>h.same k (aW.refs hv k hk)
theorem Au (hst:br E σ st w) {o:Nat} {ob:Obj E.T} (h:aR st o=some ob): ∀k∈cf E ob,k<st.length:=by
 intro k hk
 have:=hst.obj o ob h
 generalize σ o=u at this
 cases this with
 |box ro d b c el fr hh hf hc=>
  simp only[cf]at hk
  rcases hc with⟨t,ht⟩|⟨_,v,_,_,hv⟩
  ·exact VT.refs ht k hk
  ·exact a8.refs hv k hk
 |arr l e xs v h=>simp[cf]at hk
 |dead v=>simp[cf]at hk
theorem Mv.mk' (hst:br E σ st w) (hk:wY (MB σ st) (MB σ' st') w w') (hs:yU σ σ' st st') (hamb:Qj σ σ' w w') (hn: ∀k,k<st.length→σ' k=σ k)
  (hout: ∀o ob b,aR st' o=some ob→dC ob=false→k9 (σ' o)=some b→ ¬σ.m b)
  (hob: ∀o ob',aR st' o=some ob'→(aR st o=some ob'∧ ∀g,k9 (σ o)=some g→dC ob'=false→w'.heap[g]? =w.heap[g]?)∨cZ E σ' st' w' (MB σ' st') (σ' o) ob')
  (hap: ∀o o' ob ob' b,o≠o'→aR st' o=some ob→aR st' o'=some ob'→dt ob=true→dC ob'=false→k9 (σ' o)=some b→k9 (σ' o')=some b→False):
  Mv σ σ' st st' w w':=by
 have hsame: ∀k,k<st.length→ij σ σ' st st' k:=by
  intro k hk
  refine⟨hn k hk,fun l e xs hh=> ?_,fun _=>Nat.lt_of_lt_of_le hk hs.len⟩
  obtain⟨ob',h',t',_⟩:=hs.kind k _ hh
  cases t' with
  |arr l l' e xs xs'=>exact⟨l',xs',h'⟩
 refine⟨⟨fun o ob' ho=> ?_,hap,fun b hb=>Nat.lt_of_lt_of_le (hst.qC b (by rw[←hamb.m];exact hb)) hk.size,fun o ob b ho hd hb=>by rw[hamb.m];exact hout o ob b ho hd hb⟩,hk,hs,hamb,hn⟩
 rcases hob o ob' ho with⟨ho',hb⟩|h
 ·have hlt:=bT ho'
  rw[hn o hlt]
  cases hd:dC ob' with
  |true=>
   cases ob' with
   |dead=>exact .dead _
   |box ro c=>cases hd
   |arr l e xs=>cases hd
  |false=>exact cZ.aM hk.kept (fun g hg=>hb g hg hd) (fun k hk=>hsame k (Au hst ho' k hk)) (hst.obj o ob' ho')
 ·exact h
theorem lO (hst:br E σ st w) {o:Nat} {ob:Obj E.T} (h:aR st o=some ob) (hd:dC ob=false) {b:Nat} (hb:k9 (σ o)=some b):b<w.heap.size:=by
 have:=hst.obj o ob h
 generalize σ o=u at this hb
 cases this with
 |box ro d b' c el fr hh hf hc=>
  simp only[k9,Option.some.injEq]at hb
  subst hb
  exact(Array.getElem?_eq_some_iff.1 hh).1
 |arr l e xs _ hr=>
  rcases hr.2 with⟨⟨a,rfl⟩,_⟩|⟨g,cap,c,el,fr,cs,rfl,hc,hh,_⟩
  ·rw[E2]at hb;cases hb
  ·simp only[k9,Option.some.injEq]at hb
   subst hb
   exact(Array.getElem?_eq_some_iff.1 hh).1
 |dead v=>cases hd
theorem Mv.grow (hst:br E σ st w) (o:Go.Obj):Mv σ σ st st w {w with heap:=w.heap.push o}:=by
 have hb: ∀b,b<w.heap.size→(w.heap.push o)[b]? =w.heap[b]? :=fun b hb=>by simp[Array.getElem?_push,Nat.ne_of_lt hb]
 refine Mv.mk' hst ⟨rfl,rfl,rfl,by simp,fun b hlt _=>hb b hlt,fun _ _ h=>h⟩ (yU.refl _ _) ⟨rfl,fun b h=>hb b (hst.qC b h)⟩ (fun _ _=>rfl) hst.out (fun p ob' ho=> .inl ⟨ho,fun g hg hd=>hb g (lO hst ho hd hg)⟩) hst.apart
theorem Mv.drawn (hst:br E σ st w) (n:Nat):Mv σ σ st st w {w with drawn:=n}:=by
 refine Mv.mk' hst ⟨rfl,rfl,rfl,Nat.le_refl _,fun b hlt _=>rfl,fun _ _ h=>h⟩ (yU.refl _ _) ⟨rfl,fun _ _=>rfl⟩ (fun _ _=>rfl) hst.out (fun p ob' ho=> .inl ⟨ho,fun g hg hd=>rfl⟩) hst.apart
def dN (σ:Sg) (n:Nat) (v:Value):Sg:={σ with f:=fun k=>if k=n then v else σ k}
theorem dG {n k:Nat} {v:Value} (h:k≠n):dN σ n v k=σ k:=if_neg h
theorem dH {n:Nat} {v:Value}:dN σ n v n=v:=if_pos rfl
theorem E5 {ob:Obj E.T} {v:Value} {b:Nat} (h:MB (dN σ st.length v) (st++[ob]) b):MB σ st b∨k9 v=some b:=by
 rcases h with h|⟨o,ob',ho,hm,hb⟩
 ·exact .inl (.inl h)
 rw[ew]at ho
 by_cases h':o=st.length
 ·subst h';rw[dH]at hb;exact .inr hb
 ·rw[dG h']at hb;rw[if_neg h']at ho;exact .inl (.inr ⟨o,ob',ho,hm,hb⟩)
theorem Mv.new (hst:br E σ st w) (v:Value) (ob:Obj E.T) (w':World) (h1:w'.os=w.os) (h2:w'.tape=w.tape) (h3:w'.output=w.output) (h4:w.heap.size≤w'.heap.size) (h5: ∀b,b<w.heap.size→w'.heap[b]? =w.heap[b]?)
  (hv: ∀b,k9 v=some b→w.heap.size≤b) (hob:cZ E (dN σ st.length v) (st++[ob]) w' (MB (dN σ st.length v) (st++[ob])) v ob):
  Mv σ (dN σ st.length v) st (st++[ob]) w w':=by
 refine Mv.mk' hst ⟨h1,h2,h3,h4,fun b hlt _=>h5 b hlt,fun b hlt h=> ?_⟩ ⟨fun p q hp _=> ?_,fun p q hp=>⟨q,?_,qQ.refl q,id⟩⟩ ⟨rfl,fun b h=>h5 b (hst.qC b h)⟩ (fun k hk=>dG (Nat.ne_of_lt hk)) (fun p q b hp hd hb=> ?_) (fun p ob' ho=> ?_) ?_
 ·rcases E5 h with h|h
  ·exact h
  ·have:=hv b h;omega
 ·exact dG (Nat.ne_of_lt (bT hp))
 ·rw[ew,if_neg (Nat.ne_of_lt (bT hp))];exact hp
 ·rw[ew]at hp
  by_cases h':p=st.length
  ·subst h'
   rw[dH]at hb
   intro h
   have e1:=hv b hb
   have e2:=hst.qC b h
   omega
  ·rw[if_neg h']at hp
   rw[dG h']at hb
   exact hst.out p q b hp hd hb
 ·rw[ew]at ho
  by_cases h':p=st.length
  ·subst h'
   rw[if_pos rfl]at ho
   cases ho
   right
   rw[dH];exact hob
  ·rw[if_neg h']at ho
   exact .inl ⟨ho,fun g hg hd=>h5 g (lO hst ho hd hg)⟩
 ·intro p q ob1 ob2 b hne hp hq hm hd hb1 hb2
  rw[ew]at hp hq
  by_cases h1:p=st.length
  ·subst h1
   rw[dH]at hb1
   have h2:q≠st.length:=fun h=>hne h.symm
   rw[dG h2]at hb2
   rw[if_neg h2]at hq
   have e1:=hv b hb1
   have e2:=lO hst hq hd hb2
   omega
  ·rw[dG h1]at hb1
   rw[if_neg h1]at hp
   by_cases h2:q=st.length
   ·subst h2
    rw[dH]at hb2
    have e1:=hv b hb2
    have e2:=lO hst hp (by cases ob1<;>first|rfl|cases hm) hb1
    omega
   ·rw[dG h2]at hb2
    rw[if_neg h2]at hq
    exact hst.apart p q ob1 ob2 b hne hp hq hm hd hb1 hb2
theorem Mv.push (hst:br E σ st w) (o:Go.Obj) (v:Value) (ob:Obj E.T) (hv: ∀b,k9 v=some b→b=w.heap.size)
  (hob:cZ E (dN σ st.length v) (st++[ob]) {w with heap:=w.heap.push o} (MB (dN σ st.length v) (st++[ob])) v ob):
  Mv σ (dN σ st.length v) st (st++[ob]) w {w with heap:=w.heap.push o}:=
 Mv.new hst v ob _ rfl rfl rfl (by simp) (fun b hb=>by simp[Array.getElem?_push,Nat.ne_of_lt hb]) (fun b hb=>Nat.le_of_eq (hv b hb).symm) hob
theorem Mv.KF (hst:br E σ st w) (v:Value) (ob:Obj E.T) (hv:k9 v=none) (hob: ∀σ' st' w' M',cZ E σ' st' w' M' v ob):Mv σ (dN σ st.length v) st (st++[ob]) w w:=
 Mv.new hst v ob _ rfl rfl rfl (Nat.le_refl _) (fun _ _=>rfl) (fun b hb=>by rw[hv]at hb;cases hb) (hob _ _ _ _)
theorem ua {o:Nat} {ob ob':Obj E.T} {b:Nat} (ho:aR st o=some ob) (hm:dt ob'=true→dt ob=true) (h:MB σ (dk st o ob') b):MB σ st b:=by
 rcases h with h|⟨p,q,hp,hq,hb⟩
 ·exact .inl h
 right
 rw[bF]at hp
 by_cases h':o=p∧p<st.length
 ·rw[if_pos h']at hp
  cases hp
  exact⟨o,ob,ho,hm hq,by rw[h'.1];exact hb⟩
 ·rw[if_neg h']at hp;exact⟨p,q,hp,hq,hb⟩
theorem Mv.dk (hst:br E σ st w) {o:Nat} {ob ob':Obj E.T} (ho:aR st o=some ob) (ht:qQ ob ob') (hm:dt ob'=true→dt ob=true) (hl:mc ob=false→mc ob'=false)
  (w':World) (h1:w'.os=w.os) (h2:w'.tape=w.tape) (h3:w'.output=w.output) (h4:w'.heap.size=w.heap.size)
  (h5: ∀b,(dt ob=true→k9 (σ o)≠some b)→w'.heap[b]? =w.heap[b]?)
  (hob:cZ E σ (D.dk st o ob') w' (MB σ (D.dk st o ob')) (σ o) ob'):Mv σ σ st (D.dk st o ob') w w':=by
 have hlt:=bT ho
 have hdd:dC ob'=dC ob:=by cases ht<;>rfl
 refine Mv.mk' hst ⟨h1,h2,h3,by omega,fun b hb hM=>h5 b (fun hmu hbb=>hM (.inr ⟨o,ob,ho,hmu,hbb⟩)),fun b _ h=>ua ho hm h⟩ ⟨fun _ _ _ _=>rfl,fun p q hp=> ?_⟩ ⟨rfl,fun b hb=>h5 b (fun hmu hbb=>hst.out o ob b ho (by cases ob<;>first|rfl|cases hmu) hbb hb)⟩ (fun _ _=>rfl) (fun p q b hp hd hb=> ?_) (fun p q hp=> ?_) ?_
 ·by_cases h:o=p
  ·subst h
   rw[ho]at hp;cases hp
   exact⟨ob',by rw[bF,if_pos ⟨rfl,hlt⟩],ht,hl⟩
  ·exact⟨q,by rw[bF,if_neg (fun h'=>h h'.1)];exact hp,qQ.refl q,id⟩
 ·rw[bF]at hp
  by_cases h:o=p
  ·subst h
   rw[if_pos ⟨rfl,hlt⟩]at hp;cases hp
   exact hst.out o ob b ho (by rw[←hdd];exact hd) hb
  ·rw[if_neg (fun h'=>h h'.1)]at hp
   exact hst.out p q b hp hd hb
 ·rw[bF]at hp
  by_cases h:o=p
  ·subst h
   rw[if_pos ⟨rfl,hlt⟩]at hp;cases hp
   exact .inr hob
  ·rw[if_neg (fun h'=>h h'.1)]at hp
   exact .inl ⟨hp,fun g hg hd=>h5 g (fun hmu hbb=>hst.apart o p ob q g h ho hp hmu hd hbb hg)⟩
 ·intro p q ob1 ob2 b hne hp hq hmu hd hb1 hb2
  rw[bF]at hp hq
  by_cases h:o=p
  ·subst h
   rw[if_pos ⟨rfl,hlt⟩]at hp;cases hp
   rw[if_neg (fun h'=>hne h'.1)]at hq
   exact hst.apart o q ob ob2 b hne ho hq (hm hmu) hd hb1 hb2
  ·rw[if_neg (fun h'=>h h'.1)]at hp
   by_cases h':o=q
   ·subst h'
    rw[if_pos ⟨rfl,hlt⟩]at hq;cases hq
    exact hst.apart p o ob1 ob b hne hp ho hmu (by rw[←hdd];exact hd) hb1 hb2
   ·rw[if_neg (fun h''=>h' h''.1)]at hq
    exact hst.apart p q ob1 ob2 b hne hp hq hmu hd hb1 hb2
end
end
open Go
noncomputable section
def dY (E:Env):Nat→Ty→List Value
 |0,_=>[]
 |d+1,t=>
  match t with
  | .bool=>[.bool false]
  | .int k=>[.int k 0]
  | .str=>[.string ⟨#[]⟩]
  | .slice _=>[.slice none 0 0]
  | .arr n e=>(List.replicate n (dY E d e)).flatten
  | .named i=>(E.fields i).flatMap (dY E d)
def V1 (P:Program) (E:Env) (t:TypeId):Ty→Prop
 | .bool=>P.underlying t=some .bool
 | .int k=>P.underlying t=some (.int k)
 | .str=>P.underlying t=some .string
 | .slice e=> ∃te,P.underlying t=some (.slice te)∧E.tk te= .data e
 | .arr n e=> ∃te,P.underlying t=some (.array n te)∧E.tk te= .data e
 | .named i=> ∃fs,P.underlying t=some (.struct fs)∧fs.size=(E.fields i).length∧
   ∀(j:Nat) (f:Field),fs[j]? =some f→ ∃ty,aR (E.fields i) j=some ty∧E.tk f.type= .data ty∧f.offset=E.qM i j∧E.size ty≠0∧f.name≠ "_"
def Mp (E:Env):Nat→Ty→Bool
 |0,_=>false
 |d+1,t=>
  match t with
  | .arr _ e=>Mp E d e
  | .named i=>(E.fields i).all (Mp E d)
  |_=>true
structure TyM (P:Program) (E:Env) (t:TypeId) (ty:Ty):Prop where
 info: ∃i,P.info? t=some i∧i.size=E.size ty∧i.bytes≤8192∧i.zero=some (toV ty (dY E depth ty))
 desc:V1 P E t ty
 deep:Mp E depth ty=true
structure Sound (P:Program) (E:Env):Prop extends dq E where
 ee: ∀i x y,E.ee i x y=No E (E.fields i) (E.out i x) (E.out i y)
 cmp: ∀t,E.cmp t=true→P.eqGuardType P.depth t=false∧P.stoodInHeld t=false∧(∀fs,P.underlying t=some (.struct fs)→ ∀f∈fs.toList,E.cmp f.type=true)∧ ∀n e,P.underlying t=some (.array n e)→E.cmp e=true
 data: ∀t ty,E.tk t= .data ty→TyM P E t ty
 ptr: ∀t,E.tk t= .ptr→(∃e,P.underlying t=some (.pointer e))∧ ∃i,P.info? t=some i∧i.size=1∧i.zero=some (.pointer none)
 func: ∀t,E.tk t= .func→(∃a b c,P.underlying t=some (.func a b c))∧ ∃i,P.info? t=some i∧i.size=1∧i.zero=some .nilFunc
 iface: ∀t,E.tk t= .iface→(∃m,P.underlying t=some (.interface m))∧ ∃i,P.info? t=some i∧i.size=1∧i.zero=some .nilIface
section
variable {P:Program} {E:Env} {w:World}
theorem xD {t:TypeId} {i:TypeInfo} (h:P.info? t=some i) (w:World):(typeInfo t).run P w= .ok i w:=by simp[typeInfo,h]
theorem rz {t:TypeId} {i:TypeInfo} (h:P.info? t=some i) (w:World):(sizeOf t).run P w= .ok i.size w:=by simp[sizeOf,xD h]
theorem bt {t:TypeId} {d:TypeDesc} (h:P.underlying t=some d) (w:World):(underlying t).run P w= .ok d w:=by simp[underlying,h]
theorem HK (S:Sound P E) {t:TypeId} {ty:Ty} (h:E.tk t= .data ty) (w:World):(isAgg t).run P w= .ok (dX ty) w:=by
 have hd:=(S.data t ty h).desc
 unfold isAgg
 cases ty with
 |bool=>simp[bt hd,dX]
 |int k=>simp[bt hd,dX]
 |str=>simp[bt hd,dX]
 |slice e=>obtain⟨te,hu,_⟩:=hd;simp[bt hu,dX]
 |arr n e=>obtain⟨te,hu,_⟩:=hd;simp[bt hu,dX]
 |named i=>obtain⟨fs,hu,_⟩:=hd;simp[bt hu,dX]
theorem CT (S:Sound P E) {t:TypeId} (h:E.tk t= .ptr∨E.tk t= .func∨E.tk t= .iface) (w:World):(isAgg t).run P w= .ok false w:=by
 unfold isAgg
 rcases h with h|h|h
 ·obtain⟨⟨e,hu⟩,_⟩:=S.ptr t h;simp[bt hu]
 ·obtain⟨⟨a,b,c,hu⟩,_⟩:=S.func t h;simp[bt hu]
 ·obtain⟨⟨e,hu⟩,_⟩:=S.iface t h;simp[bt hu]
theorem ur (S:Sound P E) {t:TypeId} {ty:Ty} (h:E.tk t= .data ty) (b off:Nat) (cs:List Value) (hl:cs.length=E.size ty)
  (hc: ∀q v,cs[q]? =some v→w.cell? ⟨b,off+q,none⟩=some v) (h1:dX ty=false→E.size ty=1):
  (loadVar t ⟨b,off,none⟩).run P w= .ok (toV ty cs) w:=by
 obtain⟨i,hi,hs,_⟩:=(S.data t ty h).info
 unfold loadVar
 simp only[Sem.run_bind,HK S h,Result.andThen_ok]
 cases ha:dX ty with
 |true=>
  have:=run_loadCells_list (P:=P) (w:=w) ⟨b,off,none⟩ cs (fun j v hv=>by rw[dS];exact hc j v hv)
  simp[rz hi,hs,←hl,this,toV,ha]
 |false=>
  have hs1:=h1 ha
  obtain⟨v,rfl⟩: ∃v,cs=[v]:=List.length_eq_one_iff.1 (by omega)
  have:=hc 0 v rfl
  rw[Nat.add_zero]at this
  simp[run_load,this,toV,ha]
theorem nq {ty:Ty} (h:dX ty=false):E.size ty=1:=by
 cases ty<;>first|rfl|cases h
variable {σ:Sg} {st:St E.T} {M:Nat→Prop}
theorem RP {d:az E.T} {v:Value} (hd: ∃t,qB E st t d=true) (h:a8 E σ st w M d v): ∃t cs,VT E σ st w M t d cs∧v=toV t cs:=by
 obtain⟨t,ht⟩:=hd
 cases h with
 |data t d cs h=>exact⟨t,cs,h,rfl⟩
 |undef v=>cases ht
 |ptr o p b h hl=>cases ht
 |cQ=>cases ht
 |eg t x a cs h hm=>cases ht
 |jo vs us h=>cases ht
 |fn f vs us h=>cases ht
 |ei=>cases ht
 |fD t d v h=>cases ht
 |ct=>cases ht
theorem dP {a b:Ty} (h:jn a b=true):a=b:=by
 unfold jn at h
 split at h
 ·rename_i p _;exact p.down
 ·cases h
theorem se {t ty:Ty} {d:az E.T} {cs:List Value} (h:VT E σ st w M t d cs) (hf:qB E st ty d=true):VT E σ st w M ty d cs:=by
 cases h with
 |val t x cs h=>
  have:=dP hf
  subst this;exact .val t x cs h
 |bm e a=>
  cases ty with
  |slice e'=>exact .bm e' a
  |_=>cases hf
 |own k l e xs h=>
  simp only[qB,h]at hf
  have:=dP hf
  subst this;exact .own k l e xs h
 |dD e v h=>cases hf
 |agg i fs cs h=>
  cases ty with
  |named j=>
   have:i=j:=Nat.eq_of_beq_eq_true hf
   subst this;exact .agg i fs cs h
  |_=>cases hf
theorem SO {t ty:Ty} {d:az E.T} {cs:List Value} (h:VT E σ st w M t d cs) (hf:Pr E st ty d=true):VT E σ st w M ty d cs:=by
 cases h with
 |dD e v h=>
  have:=dP hf
  cases ty with
  |slice e'=>cases this;exact .dD e v h
  |_=>cases this
 |val t x cs h=>exact se (.val t x cs h) hf
 |bm e a=>exact se (.bm e a) hf
 |own k l e xs h=>exact se (.own k l e xs h) hf
 |agg i fs cs h=>exact se (.agg i fs cs h) hf
theorem Dn {t:TypeId} {ty:Ty} (ht:E.tk t= .data ty) {d:az E.T} {v:Value} (hf:fits E st t d=true) (h:a8 E σ st w M d v): ∃cs,VT E σ st w M ty d cs∧v=toV ty cs:=by
 have hf':qB E st ty d=true:=by unfold fits at hf;rw[ht]at hf;exact hf
 obtain⟨t',cs,hv,rfl⟩:=RP ⟨ty,hf'⟩ h
 have h2:=se hv hf'
 refine⟨cs,h2,?_⟩
 cases hv with
 |val t x cs h=>
  have:=dP hf'
  subst this;rfl
 |bm e a=>
  cases ty with
  |slice e'=>rfl
  |_=>cases hf'
 |own k l e xs hk=>
  simp only[qB,hk]at hf'
  have:=dP hf'
  subst this;rfl
 |dD e v h=>cases hf'
 |agg i fs cs h=>
  cases ty with
  |named j=>
   have:i=j:=Nat.eq_of_beq_eq_true hf'
   subst this;rfl
  |_=>cases hf'
theorem iB.ofF: ∀{ts:List Ty} {r:HL E.T ts} {cs:List Value},l7 E w M ts r cs→iB E σ st w M ts (Qi E ts r) cs
 |_,_,_,.nil=> .nil
 |_,_,_,.cons t ts x r c1 c2 h h'=> .cons t ts _ _ c1 c2 (.val t x c1 h) (iB.ofF h')
theorem AX {t:Ty} {d:az E.T} {cs:List Value} {i:Nat} {fs:List (az E.T)} (h:VT E σ st w M t d cs) (he:nR E d=some (i,fs)):t= .named i∧iB E σ st w M (E.fields i) fs cs:=by
 cases h with
 |val t x cs h=>
  cases h with
  |named j y cs h=>
   simp only[nR,Option.some.injEq,Prod.mk.injEq]at he
   obtain⟨rfl,rfl⟩:=he
   exact⟨rfl,iB.ofF h⟩
  |bool b=>cases he
  |int k x=>cases he
  |str s h=>cases he
  |slice e xs a cap cs hl hm hn hc=>cases he
  |arr n e xs cs hn hl=>cases he
 |agg j gs cs h=>
  simp only[nR,Option.some.injEq,Prod.mk.injEq]at he
  obtain⟨rfl,rfl⟩:=he
  exact⟨rfl,h⟩
 |bm e a=>cases he
 |own k l e xs h=>cases he
 |dD e v h=>cases he
theorem iB.at (ok:dq E): ∀{ts:List Ty} {fs:List (az E.T)} {cs:List Value},iB E σ st w M ts fs cs→ ∀(j:Nat) (d:az E.T),aR fs j=some d→
  ∃t c l r,aR ts j=some t∧VT E σ st w M t d c∧cs=l++c++r∧l.length=((ts.take j).map E.size).sum∧
   ∀(d':az E.T) (c':List Value),VT E σ st w M t d' c'→iB E σ st w M ts (dk fs j d') (l++c'++r)
 |_,_,_,.nil=>by intro j d h;simp[dJ,cT,cU]at h
 |_,_,_,.cons t ts v r c1 c2 h h'=>by
  intro j d hd
  cases j with
  |zero=>
   simp only[dJ,cT,cU,Option.some.injEq]at hd;subst hd
   exact⟨t,c1,[],c2,rfl,h,by simp,by simp,fun d' c' hv=>by simpa [jJ,gF,gG]using iB.cons t ts d' r c' c2 hv h'⟩
  |succ j=>
   simp only[dJ,cT,cU]at hd
   obtain⟨t',c,l,r',h1,h2,rfl,h4,h5⟩:=iB.at ok h' j d hd
   refine⟨t',c,c1++l,r',h1,h2,by simp,?_,fun d' c' hv=> ?_⟩
   ·simp[h4,VT.len ok h]
   ·have:=iB.cons t ts v _ c1 _ h (h5 d' c' hv)
    simpa [jJ,gF,gG]using this
theorem nH {α:Type} {l:List α} {j:Nat} {d:α} (h:j<l.length):aR l j=some (nth l j d):=by
 rw[cX,kt,List.getD_eq_getElem?_getD,List.getElem?_eq_getElem h];rfl
theorem bE.split (ok:dq E): ∀{e:Ty} {xs:List (I E.T e)} {cs:List Value},bE E w M e xs cs→ ∀(i:Nat) (x:I E.T e),xs[i]? =some x→
  ∃c l r,cF E w M e x c∧cs=l++c++r∧l.length=i*E.size e∧ ∀(y:I E.T e) (c':List Value),cF E w M e y c'→bE E w M e (xs.set i y) (l++c'++r)
 |_,_,_,.nil e=>by intro i x h;simp at h
 |_,_,_,.cons e y r c1 c2 h h'=>by
  intro i x hx
  cases i with
  |zero=>
   simp only[List.getElem?_cons_zero,Option.some.injEq]at hx;subst hx
   exact⟨c1,[],c2,h,by simp,by simp,fun y' c' hv=>by simpa using bE.cons e y' r c' c2 hv h'⟩
  |succ i=>
   simp only[List.getElem?_cons_succ]at hx
   obtain⟨c,l,r',h2,rfl,h4,h5⟩:=bE.split ok h' i x hx
   refine⟨c,c1++l,r',h2,by simp,?_,fun y' c' hv=> ?_⟩
   ·rw[List.length_append,h4,cF.len ok h,Nat.add_mul];omega
   ·have:=bE.cons e y _ c1 _ h (h5 y' c' hv)
    simpa using this
theorem toHLWith_ok {f:(t:Ty)→az E.T→Option (I E.T t)} (hf: ∀t d x cs,f t d=some x→VT E σ st w M t d cs→cF E w M t x cs):
  ∀{ts:List Ty} {fs:List (az E.T)} {cs:List Value},iB E σ st w M ts fs cs→ ∀{r:HL E.T ts},toHLWith E f ts fs=some r→l7 E w M ts r cs
 |_,_,_,.nil=>by
  intro _
  exact .nil
 |_,_,_,.cons t ts v vs c1 c2 hv hvs=>by
  intro h
  simp only[toHLWith]at h
  split at h
  ·rename_i x hx
   split at h
   ·rename_i y hy
    cases h
    exact .cons t ts x y c1 c2 (hf t v x c1 hx hv) (toHLWith_ok hf hvs hy)
   ·cases h
  ·cases h
theorem toData_nil (ok:dq E): ∀(n:Nat) {t:Ty} {d:az E.T} {x:I E.T t} {cs:List Value},toData E [] n t d=some x→VT E σ st w M t d cs→cF E w M t x cs
 |0,_,_,_,_,h,_=>by cases h
 |n+1,t,d,x,cs,h,hv=>by
  cases hv with
  |val t y cs hc=>
   simp only[toData]at h
   split at h
   ·rename_i p _
    cases p with|up p=>
    cases h;exact hc
   ·cases h
  |bm e a=>
   simp only[toData,Option.some.injEq]at h
   subst h
   exact .slice e [] a 0 [] (.nil e) (.inl rfl) (Nat.zero_le _) (Nat.le_refl _)
  |own k l e xs hk=>simp[toData,dJ,cT,cU]at h
  |dD e v hv=>simp[toData]at h
  |agg i fs cs hs=>
   simp only[toData]at h
   split at h
   ·split at h
    ·rename_i r hr
     cases h
     exact .named i _ cs (by rw[ok.pC];exact toHLWith_ok (fun t d x cs=>toData_nil ok n) hs hr)
    ·cases h
   ·cases h
theorem zg (ok:dq E): ∀(p:List Step) {d v:az E.T} {t:Ty} {cs:List Value},(sC E p d).get=some v→VT E σ st w M t d cs→v≠ .undef→
  ∃t' c l r,VT E σ st w M t' v c∧cs=l++c++r∧l.length=E.cE p
 |[],d,v,t,cs,h,hv,_=>by
  cases h
  exact⟨t,cs,[],[],hv,by simp,by simp[Env.cE]⟩
 | .tQ i j::p,d,v,t,cs,h,hv,hn=>by
  simp only[sC]at h
  have hex: ∃fs,nR E d=some (i,fs)∧mL E i j d=nth fs j .undef:=by
   cases hv with
   |val t x cs hc=>
    cases hc with
    |named i' x cs hf=>
     cases hb:Nat.beq i i' with
     |true=>
      have:=Nat.eq_of_beq_eq_true hb;subst this
      exact⟨_,rfl,by simp[mL]⟩
     |false=>rw[show mL E i j (.val (.named i') x)= .undef by simp[mL,hb]]at h;exact absurd (getP_undef p h) hn
    |bool b=>exact absurd (getP_undef p h) hn
    |int k x=>exact absurd (getP_undef p h) hn
    |str s hs=>exact absurd (getP_undef p h) hn
    |slice e xs a cap cs hl hm hn' hc=>exact absurd (getP_undef p h) hn
    |arr n e xs cs hn' hl=>exact absurd (getP_undef p h) hn
   |agg i' fs cs hs=>
    cases hb:Nat.beq i i' with
    |true=>
     have:=Nat.eq_of_beq_eq_true hb;subst this
     exact⟨_,rfl,by simp[mL]⟩
    |false=>rw[show mL E i j (.agg i' fs)= .undef by simp[mL,hb]]at h;exact absurd (getP_undef p h) hn
   |bm e a=>exact absurd (getP_undef p h) hn
   |own k l e xs hk=>exact absurd (getP_undef p h) hn
   |dD e v hs=>exact absurd (getP_undef p h) hn
  obtain⟨fs,he,hd⟩:=hex
  rw[hd]at h
  obtain⟨rfl,hs⟩:=AX hv he
  have hj:aR fs j=some (nth fs j .undef):=by
   rcases Nat.lt_or_ge j fs.length with hlt|hge
   ·exact nH hlt
   ·rw[show nth fs j .undef= .undef by rw[kt,List.getD_eq_getElem?_getD,List.getElem?_eq_none hge];rfl]at h
    exact absurd (getP_undef p h) hn
  obtain⟨t1,c1,l1,r1,h1,h2,rfl,h4,_⟩:=iB.at ok hs j _ hj
  obtain⟨t',c,l,r,h5,rfl,h6⟩:=zg ok p h h2 hn
  exact⟨t',c,l1++l,r++r1,h5,by simp,by simp[Env.cE,Env.iY,Env.qM,h4,h6]⟩
 | .idx e n::p,d,v,t,cs,h,hv,hn=>by
  cases hv with
  |val t x cs hc=>
   cases hc with
   |arr m e' xs cs hm hl=>
    simp only[sC]at h
    obtain⟨he,h⟩:=Tree.aO h
    have:=dP he;subst this
    simp only[Tree.get]at h
    obtain⟨x,hx,h⟩:=Option.bind_eq_some_iff.1 h
    obtain⟨c1,l1,r1,h1,rfl,h3,_⟩:=bE.split ok hl n x hx
    obtain⟨t',c,l,r,h5,rfl,h6⟩:=zg ok p h (.val e x c1 h1) hn
    exact⟨t',c,l1++l,r++r1,h5,by simp,by simp[Env.cE,Env.iY,h3,h6]⟩
   |bool b=>cases h
   |int k x=>cases h
   |str s hs=>cases h
   |slice e xs a cap cs hl hm hn' hc=>cases h
   |named i x cs hf=>cases h
  |bm e a=>cases h
  |own k l e xs hk=>cases h
  |dD e v hs=>cases h
  |agg i fs cs hs=>cases h
where
 getP_undef: ∀(p:List Step) {v:az E.T},(sC E p .undef).get=some v→v= .undef
  |[],v,h=>by cases h;rfl
  | .tQ i j::p,v,h=>by simp only[sC,mL]at h;exact getP_undef p h
  | .idx e n::p,v,h=>by cases h
end
end
end Go.Proofs.YtlejgahbbfeagaaGreatDoor.D

/- Deep values: how Go's data read as plain Lean data, and the values, objects and trees of the evaluator D. The evaluator D: operations, regions, code, bodies of functions. The evaluator D: calls, one operation, regions, code, bodies. What the evaluator's values mean in the machine: data read out of memory, values, objects; and that this survives what is written elsewhere. Values and objects survive changes elsewhere; what is killed. Changes of the objects: new ones, what is stored, what is written no more. The program's types and D's; reading and writing of places. -/
import GoSem.Dispatch
import GoSem.Core.Region
import GoSem.Core.Program
import Derived.Orders
import Derived.Calls
import Derived.Laws.Cells
import Derived.Laws.Sem
import Derived.Laws.Entries
set_option linter.unusedVariables false
set_option linter.unusedSimpArgs false
namespace Go.Proofs.YtlejgahbbfeagaaGreatDoor.D
open Go
noncomputable section
inductive Ty where
 |bool
 |int (k:IntKind)
 |str
 |named (i:Nat)
 |slice (e:Ty)
 |arr (n:Nat) (e:Ty)
@[reducible] def Jq:IntKind→Type
 | .u8=>UInt8
 | .i8=>Int
 | .i16=>Int
 | .i32=>Int
 | .i64=>Int
 | .u16=>Int
 | .u32=>Int
 | .u64=>Int
@[reducible] def I (T:Nat→Type):Ty→Type
 | .bool=>Bool
 | .int k=>Jq k
 | .str=>List UInt8
 | .named i=>T i
 | .slice e=>List (I T e)
 | .arr _ e=>List (I T e)
@[reducible] def HL (T:Nat→Type):List Ty→Type
 |[]=>Unit
 |t::ts=>I T t×HL T ts
def toI:(k:IntKind)→Jq k→Int
 | .u8,x=>(x.toNat:Int)
 | .i8,x=>x
 | .i16,x=>x
 | .i32,x=>x
 | .i64,x=>x
 | .u16,x=>x
 | .u32,x=>x
 | .u64,x=>x
def zU:(k:IntKind)→Int→Jq k
 | .u8,n=>UInt8.ofNat n.toNat
 | .i8,n=>n
 | .i16,n=>n
 | .i32,n=>n
 | .i64,n=>n
 | .u16,n=>n
 | .u32,n=>n
 | .u64,n=>n
def kEq:(a b:IntKind)→Option (PLift (a=b))
 | .i8,.i8=>some ⟨rfl⟩
 | .i16,.i16=>some ⟨rfl⟩
 | .i32,.i32=>some ⟨rfl⟩
 | .i64,.i64=>some ⟨rfl⟩
 | .u8,.u8=>some ⟨rfl⟩
 | .u16,.u16=>some ⟨rfl⟩
 | .u32,.u32=>some ⟨rfl⟩
 | .u64,.u64=>some ⟨rfl⟩
 |_,_=>none
def Y3 (a b:Nat):Option (PLift (a=b)):=
 match h:Nat.beq a b with
 |true=>some ⟨Nat.eq_of_beq_eq_true h⟩
 |false=>none
def wx:(a b:Ty)→Option (PLift (a=b))
 | .bool,.bool=>some ⟨rfl⟩
 | .str,.str=>some ⟨rfl⟩
 | .int k,.int l=>match kEq k l with
  |some h=>some ⟨by rw[h.down]⟩
  |none=>none
 | .named i,.named j=>match Y3 i j with
  |some h=>some ⟨by rw[h.down]⟩
  |none=>none
 | .slice e,.slice f=>match wx e f with
  |some h=>some ⟨by rw[h.down]⟩
  |none=>none
 | .arr n e,.arr m f=>match Y3 n m with
  |some h=>match wx e f with
   |some h'=>some ⟨by rw[h.down,h'.down]⟩
   |none=>none
  |none=>none
 |_,_=>none
def zu {T:Nat→Type} {a b:Ty} (h:a=b) (x:I T a):I T b:=h▸x
noncomputable def nth {α:Type} (l:List α):Nat→α→α:=
 List.rec (motive:=fun _=>Nat→α→α) (fun _ d=>d) (fun x _ ih n d=>Nat.rec (motive:=fun _=>α) x (fun m _=>ih m d) n) l
noncomputable def aR {α:Type} (l:List α):Nat→Option α:=
 List.rec (motive:=fun _=>Nat→Option α) (fun _=>none) (fun x _ ih n=>Nat.rec (motive:=fun _=>Option α) (some x) (fun m _=>ih m) n) l
noncomputable def df {α:Type} (l:List α):Nat→α→List α:=
 List.rec (motive:=fun _=>Nat→α→List α) (fun _ _=>[]) (fun x r ih n v=>Nat.rec (motive:=fun _=>List α) (v::r) (fun m _=>x::ih m v) n) l
theorem ff {α:Type} (n:Nat) (d:α):nth [] n d=d:=rfl
theorem dW {α:Type} (x:α) (r:List α) (d:α):nth (x::r) 0 d=x:=rfl
theorem dX {α:Type} (x:α) (r:List α) (n:Nat) (d:α):nth (x::r) (n+1) d=nth r n d:=rfl
theorem dF {α:Type} (n:Nat):aR ([]:List α) n=none:=rfl
theorem cP {α:Type} (x:α) (r:List α):aR (x::r) 0=some x:=rfl
theorem cQ {α:Type} (x:α) (r:List α) (n:Nat):aR (x::r) (n+1)=aR r n:=rfl
theorem jK {α:Type} (n:Nat) (v:α):df [] n v=[]:=rfl
theorem gB {α:Type} (x:α) (r:List α) (v:α):df (x::r) 0 v=v::r:=rfl
theorem gC {α:Type} (x:α) (r:List α) (n:Nat) (v:α):df (x::r) (n+1) v=x::df r n v:=rfl
inductive Tree (α:Type):Type 1 where
 |fail
 |ret (a:α)
 |ite (c:Bool) (t e:Tree α)
 |opt {β:Type} (o:Option β) (f:β→Tree α)
namespace Tree
def bind {α β:Type}:Tree α→(α→Tree β)→Tree β
 | .fail,_=> .fail
 | .ret a,f=>f a
 | .ite c t e,f=> .ite c (t.bind f) (e.bind f)
 | .opt o g,f=> .opt o fun b=>(g b).bind f
def get {α:Type}:Tree α→Option α
 | .fail=>none
 | .ret a=>some a
 | .ite c t e=>bif c then t.get else e.get
 | .opt o f=>o.bind fun b=>(f b).get
def e8 {α:Type}:Option α→Tree α
 |none=> .fail
 |some a=> .ret a
def cR {α:Type} (b:Bool) (t:Tree α):Tree α:=
 match b with
 |true=>t
 |false=> .fail
theorem get_bind {α β:Type} (t:Tree α) (f:α→Tree β):(t.bind f).get=t.get.bind fun a=>(f a).get:=by
 induction t with
 |fail=>rfl
 |ret a=>rfl
 |ite c t e iht ihe=>cases c<;>simp[bind,get,iht,ihe]
 |opt o g ih=>
  cases o with
  |none=>rfl
  |some b=>simp[bind,get,ih]
theorem dB {α:Type} (o:Option α):(e8 o).get=o:=by cases o<;>rfl
theorem aO {α:Type} {b:Bool} {t:Tree α} {a:α} (h:(cR b t).get=some a):b=true∧t.get=some a:=by
 cases b with
 |true=>exact⟨rfl,h⟩
 |false=>cases h
theorem aB {α β:Type} {t:Tree α} {f:α→Tree β} {b:β} (h:(t.bind f).get=some b): ∃a,t.get=some a∧(f a).get=some b:=by
 rw[get_bind]at h
 cases ht:t.get with
 |none=>rw[ht]at h;cases h
 |some a=>rw[ht]at h;exact⟨a,rfl,h⟩
end Tree
inductive Step where
 |td (i j:Nat)
 |idx (e:Ty) (n:Nat)
inductive az (T:Nat→Type):Type where
 |val (t:Ty) (x:I T t)
 |bj
 |own (k:Nat)
 |ptr (o:Nat) (p:List Step)
 |cM
 |dZ (t:Ty) (x:I T t)
 |agg (i:Nat) (fs:List (az T))
 |jk (vs:List (az T))
 |fn (f:FuncId) (cap:List (az T))
 |ea
 |fG (t:TypeId) (v:az T)
 |cr
 |dA (e:Ty)
 |undef
inductive RM where
 |ba
 |fix
 |live
def RM.may:RM→Bool
 | .ba=>false
 | .fix=>true
 | .live=>true
def RM.TY:RM→Bool
 | .live=>true
 |_=>false
inductive Obj (T:Nat→Type):Type where
 |box (ro:Bool) (c:az T)
 |arr (l:RM) (e:Ty) (xs:List (I T e))
 |dead
abbrev St (T:Nat→Type):=List (Obj T)
mutual
def refs {T:Nat→Type}:az T→List Nat
 | .own k=>[k]
 | .ptr o _=>[o]
 | .agg _ fs=>bg fs
 | .jk fs=>bg fs
 | .fn _ fs=>bg fs
 | .fG _ v=>refs v
 |_=>[]
termination_by structural x=>x
def bg {T:Nat→Type}:List (az T)→List Nat
 |[]=>[]
 |v::r=>refs v++bg r
termination_by structural x=>x
end
inductive TK where
 |data (t:Ty)
 |ptr
 |func
 |iface
 |other
structure Env where
 T:Nat→Type
 fields:Nat→List Ty
 out:(i:Nat)→T i→HL T (fields i)
 CL:(i:Nat)→HL T (fields i)→T i
 er:(i:Nat)→T i→T i→Bool
 zg:Nat→Nat
 tk:TypeId→TK
 cmp:TypeId→Bool
namespace Env
variable (E:Env)
def size:Ty→Nat
 | .named i=>E.zg i
 | .arr n e=>n*size e
 |_=>1
def qu (i j:Nat):Nat:=(((E.fields i).take j).map E.size).sum
def iW:Step→Nat
 | .td i j=>E.qu i j
 | .idx e n=>n*E.size e
def cw:List Step→Nat
 |[]=>0
 |s::p=>E.iW s+cw p
end Env
def dU:Ty→Bool
 | .named _=>true
 | .arr _ _=>true
 |_=>false
def jj (a b:Ty):Bool:=
 match wx a b with
 |some _=>true
 |none=>false
section
variable (E:Env)
def Pt:(ts:List Ty)→HL E.T ts→List (az E.T)
 |[],_=>[]
 |t::ts,x=> .val t x.1::Pt ts x.2
def parts (i:Nat) (x:E.T i):List (az E.T):=Pt E (E.fields i) (E.out i x)
def toHLWith (f:(t:Ty)→az E.T→Option (I E.T t)):(ts:List Ty)→List (az E.T)→Option (HL E.T ts)
 |[],[]=>some ()
 |t::ts,v::vs=>
  match f t v with
  |some x=>match toHLWith f ts vs with
   |some r=>some (x,r)
   |none=>none
  |none=>none
 |[],_::_=>none
 |_::_,[]=>none
def toData (st:St E.T):Nat→(t:Ty)→az E.T→Option (I E.T t)
 |0,_,_=>none
 |d+1,t,v=>
  match v with
  | .val t' x=>match wx t' t with
   |some h=>some (zu h.down x)
   |none=>none
  | .bj=>match t with
   | .slice _=>some []
   |_=>none
  | .own k=>match aR st k with
   |some (.arr _ e xs)=>match wx (.slice e) t with
    |some h=>some (zu h.down xs)
    |none=>none
   |_=>none
  | .agg i fs=>match t with
   | .named j=>match Y3 i j with
    |some _=>match toHLWith E (toData st d) (E.fields j) fs with
     |some r=>some (E.CL j r)
     |none=>none
    |none=>none
   |_=>none
  |_=>none
def depth:Nat:=8
def qg (st:St E.T) (t:Ty):az E.T→Bool
 | .val t' _=>jj t' t
 | .bj=>match t with
  | .slice _=>true
  |_=>false
 | .own k=>match aR st k with
  |some (.arr _ e _)=>jj (.slice e) t
  |_=>false
 | .agg i _=>match t with
  | .named j=>Nat.beq i j
  |_=>false
 |_=>false
def OC (st:St E.T) (t:Ty) (v:az E.T):Bool:=
 match v with
 | .dA e=>jj (.slice e) t
 |v=>qg E st t v
def single:az E.T→Bool
 | .ptr _ _=>true
 | .cM=>true
 | .dZ _ _=>true
 | .fn _ _=>true
 | .ea=>true
 | .fG _ _=>true
 | .cr=>true
 |_=>false
def fits (st:St E.T) (t:TypeId) (v:az E.T):Bool:=
 match E.tk t with
 | .data ty=>qg E st ty v
 | .other=>false
 |_=>single E v
def mg (st:St E.T) (t:TypeId) (v:az E.T):Bool:=
 match E.tk t with
 | .data ty=>OC E st ty v
 | .other=>false
 |_=>single E v
def fp:Nat→(t:Ty)→Option (I E.T t)
 |0,_=>none
 |d+1,t=>
  match t with
  | .bool=>some false
  | .int k=>some (zU k 0)
  | .str=>some []
  | .slice _=>some []
  | .arr n e=>match fp d e with
   |some z=>some (List.replicate n z)
   |none=>none
  | .named i=>match zHL (fp d) (E.fields i)with
   |some r=>some (E.CL i r)
   |none=>none
where
 zHL (f:(t:Ty)→Option (I E.T t)):(ts:List Ty)→Option (HL E.T ts)
  |[]=>some ()
  |t::ts=>match f t with
   |some x=>match zHL f ts with
    |some r=>some (x,r)
    |none=>none
   |none=>none
def iN:Nat→Ty→az E.T
 |0,_=> .undef
 |d+1,t=>
  match t with
  | .bool=> .val .bool false
  | .int k=> .val (.int k) (zU k 0)
  | .str=> .val .str []
  | .slice _=> .bj
  | .arr n e=>match fp E d e with
   |some z=> .val (.arr n e) (List.replicate n z)
   |none=> .undef
  | .named i=> .agg i ((E.fields i).map (iN d))
def zeroV (t:TypeId):az E.T:=
 match E.tk t with
 | .data ty=>iN E depth ty
 | .ptr=> .cM
 | .func=> .ea
 | .iface=> .cr
 | .other=> .undef
def mH (i j:Nat):az E.T→az E.T
 | .val (.named i') x=>bif Nat.beq i i' then nth (parts E i' x) j .undef else .undef
 | .agg i' fs=>bif Nat.beq i i' then nth fs j .undef else .undef
 |_=> .undef
def rU:List Step→az E.T→Tree (az E.T)
 |[],d=> .ret d
 | .td i j::p,d=>rU p (mH E i j d)
 | .idx e n::p,.val (.arr _ e') xs=>Tree.cR (jj e e') (.opt xs[n]? fun x=>rU p (.val e' x))
 | .idx _ _::_,_=> .fail
def BP:Obj E.T→List Step→Tree (az E.T)
 | .box _ c,p=>rU E p c
 | .arr _ e' xs,.idx e n::p=>Tree.cR (jj e e') (.opt xs[n]? fun x=>rU E p (.val e' x))
 |_,_=> .fail
def nI:az E.T→Option (Nat×List (az E.T))
 | .val (.named i) x=>some (i,parts E i x)
 | .agg i fs=>some (i,fs)
 |_=>none
def uA (ok:az E.T→Bool) (v:az E.T):List Step→az E.T→Tree (az E.T)
 |[],d=>Tree.cR (ok d) (.ret v)
 | .td i j::p,d=>
  match nI E d with
  |some (i',fs)=>Tree.cR (Nat.beq i i'&&Nat.blt j fs.length) ((uA ok v p (nth fs j .undef)).bind fun d'=> .ret (.agg i' (df fs j d')))
  |none=> .fail
 | .idx e n::p,.val (.arr m e') xs=>
  Tree.cR (jj e e') (.opt xs[n]? fun x=>(uA ok v p (.val e' x)).bind fun d'=>(Tree.e8 (toData E [] depth e' d')).bind fun y=> .ret (.val (.arr m e') (xs.set n y)))
 | .idx _ _::_,_=> .fail
def zK (ok:az E.T→Bool) (v:az E.T):Obj E.T→List Step→Tree (Obj E.T)
 | .box false c,p=>(uA E ok v p c).bind fun c'=> .ret (.box false c')
 | .arr l e' xs,.idx e n::p=>
  Tree.cR (l.may&&jj e e') (.opt xs[n]? fun x=>(uA E ok v p (.val e' x)).bind fun d'=>(Tree.e8 (toData E [] depth e' d')).bind fun y=> .ret (.arr l e' (xs.set n y)))
 |_,_=> .fail
end
end
open Go
noncomputable section
inductive iR (T:Nat→Type):Type where
 |ret (vs:List (az T))
 |panic (v:az T)
inductive Spec (E:Env):Type 1 where
 |pure (ps:List Ty) (F:List (az E.T)→Tree (iR E.T))
 |full (ps:List TK) (flat:Bool) (F:List (az E.T)→St E.T→Tree (iR E.T×St E.T))
abbrev l8 (E:Env):=List (az E.T)→St E.T→Option (az E.T)→Tree (Bool×St E.T)
structure Fr (T:Nat→Type) where
 s:List (az T)
 d:List (FuncId×List (az T))
def dK:Nat:=2147483648
section
variable (E:Env)
def put (fr:Fr E.T) (dst:Option Tmp) (v:az E.T):Fr E.T:=
 match dst with
 |some t=>{fr with s:=df fr.s t v}
 |none=>fr
def MJ:Value→az E.T
 | .bool b=> .val .bool b
 | .int .u8 n=>bif decide (0≤n)&&decide (n<256)then .val (.int .u8) (zU .u8 n)else .undef
 | .int k n=> .val (.int k) (zU k n)
 | .string s=>bif Nat.ble s.data.toList.length dK then .val .str s.data.toList else .undef
 | .pointer none=> .cM
 | .slice none 0 0=> .bj
 | .nilFunc=> .ea
 | .nilIface=> .cr
 |_=> .undef
def bY (fr:Fr E.T):Operand→az E.T
 | .tmp t=>nth fr.s t .undef
 | .const v=>MJ E v
 | .func f=> .fn f []
 | .global _=> .undef
abbrev Out (E:Env):=az E.T×St E.T
def wA (t:TypeId) (ty:Ty):Bool:=
 match E.tk t with
 | .data ty'=>jj ty ty'
 |_=>false
def isIface (t:TypeId):Bool:=
 match E.tk t with
 | .iface=>true
 |_=>false
def HO (op:BinOp) (k:IntKind) (x y:Int):Option Int:=
 let a:=BitVec.ofInt k.bits x
 let b:=BitVec.ofInt k.bits y
 match op with
 | .and=>some (k.wrap (a&&& b).toNat)
 | .or=>some (k.wrap (a|||b).toNat)
 | .xor=>some (k.wrap (a^^^b).toNat)
 | .andNot=>some (k.wrap (a&&& ~~~b).toNat)
 |_=>none
def Zc (op:BinOp) (k:IntKind) (x y:Int):Tree (az E.T):=
 match op with
 | .add=> .ret (.val (.int k) (zU k (k.wrap (x+y))))
 | .sub=> .ret (.val (.int k) (zU k (k.wrap (x-y))))
 | .mul=> .ret (.val (.int k) (zU k (k.wrap (x*y))))
 | .quo=> .ite (y==0) .fail (.ret (.val (.int k) (zU k (k.wrap (x.tdiv y)))))
 | .rem=> .ite (y==0) .fail (.ret (.val (.int k) (zU k (x.tmod y))))
 | .eql=> .ret (.val .bool (x==y))
 | .neq=> .ret (.val .bool (x != y))
 | .lss=> .ret (.val .bool (decide (x<y)))
 | .leq=> .ret (.val .bool (decide (x≤y)))
 | .gtr=> .ret (.val .bool (decide (x>y)))
 | .geq=> .ret (.val .bool (decide (x≥y)))
 | .and=>(Tree.e8 (HO .and k x y)).bind fun r=> .ret (.val (.int k) (zU k r))
 | .or=>(Tree.e8 (HO .or k x y)).bind fun r=> .ret (.val (.int k) (zU k r))
 | .xor=>(Tree.e8 (HO .xor k x y)).bind fun r=> .ret (.val (.int k) (zU k r))
 | .andNot=>(Tree.e8 (HO .andNot k x y)).bind fun r=> .ret (.val (.int k) (zU k r))
 |_=> .fail
def My (op:BinOp) (k:IntKind) (x y:Int):Tree (az E.T):=
 .ite (decide (y<0)) .fail (match op with
  | .shl=> .ret (.val (.int k) (zU k (k.wrap (x*2^min y.toNat k.bits))))
  | .shr=> .ret (.val (.int k) (zU k (x.fdiv (2^min y.toNat k.bits))))
  |_=> .fail)
def Za (op:BinOp) (a b:List UInt8):Tree (az E.T):=
 match op with
 | .add=> .ite (decide (a.length+b.length≤dK)) (.ret (.val .str (a++b))) .fail
 | .eql=> .ret (.val .bool (a==b))
 | .neq=> .ret (.val .bool (!(a==b)))
 |_=> .fail
def KL:(t:Ty)→I E.T t→I E.T t→Bool
 | .bool,x,y=>x==y
 | .int k,x,y=>toI k x==toI k y
 | .str,x,y=>x==y
 | .named i,x,y=>E.er i x y
 | .slice _,_,_=>false
 | .arr _ e,x,y=>UN (KL e) x y
where
 UN {α:Type} (f:α→α→Bool):List α→List α→Bool
  |[],[]=>true
  |a::x,b::y=>f a b&&UN f x y
  |_,_=>false
def Mx:(ts:List Ty)→HL E.T ts→HL E.T ts→Bool
 |[],_,_=>true
 |t::ts,x,y=>KL E t x.1 y.1&&Mx ts x.2 y.2
def I2:Nat→Ty→Bool
 |0,_=>false
 |d+1,t=>
  match t with
  | .slice _=>false
  | .arr _ e=>I2 d e
  | .named i=>(E.fields i).all (I2 d)
  |_=>true
def KX (st:St E.T) (t:Ty) (x y:az E.T) (f:Bool→Bool):Tree (az E.T):=
 (Tree.e8 (toData E st depth t x)).bind fun a=>(Tree.e8 (toData E st depth t y)).bind fun b=> .ret (.val .bool (f (KL E t a b)))
def MM (st:St E.T) (op:BinOp) (t:TypeId) (x y:az E.T):Tree (az E.T):=
 match x,y with
 | .val (.int k) a,.val (.int k') b=>
  match op with
  | .shl=>My E .shl k (toI k a) (toI k' b)
  | .shr=>My E .shr k (toI k a) (toI k' b)
  |_=>match kEq k k' with
   |some _=>Zc E op k (toI k a) (toI k' b)
   |none=> .fail
 | .val .str a,.val .str b=>Za E op a b
 | .val .bool a,.val .bool b=>
  Tree.cR (wA E t .bool) (match op with
  | .eql=> .ret (.val .bool (a==b))
  | .neq=> .ret (.val .bool (!(a==b)))
  |_=> .fail)
 | .fG _ _,.cr=>
  Tree.cR (isIface E t) (match op with
  | .eql=> .ret (.val .bool false)
  | .neq=> .ret (.val .bool true)
  |_=> .fail)
 |x,y=>
  match E.tk t with
  | .data (.named i)=>Tree.cR (E.cmp t&&I2 E depth (.named i)) (match op with
   | .eql=>KX E st (.named i) x y id
   | .neq=>KX E st (.named i) x y (!·)
   |_=> .fail)
  | .data (.arr n e)=>Tree.cR (E.cmp t&&I2 E depth (.arr n e)) (match op with
   | .eql=>KX E st (.arr n e) x y id
   | .neq=>KX E st (.arr n e) x y (!·)
   |_=> .fail)
  |_=> .fail
def Sz (op:BinOp) (x y:Operand) (a b:az E.T):Option Bool:=
 match a,b with
 | .cr,.cr=>
  match x,y with
  | .const _,_=>(match op with| .eql=>some true| .neq=>some false|_=>none)
  |_,.const _=>(match op with| .eql=>some true| .neq=>some false|_=>none)
  |_,_=>none
 |_,_=>none
def dun (op:UnOp) (x:az E.T):Tree (az E.T):=
 match op,x with
 | .not,.val .bool b=> .ret (.val .bool (!b))
 | .neg,.val (.int k) a=> .ret (.val (.int k) (zU k (k.wrap (0-toI k a))))
 |_,_=> .fail
def elems (st:St E.T) (e:Ty) (v:az E.T):Option (List (I E.T e)):=toData E st depth (.slice e) v
def CK (t:TypeId):Bool:=
 match E.tk t with
 | .data _=>true
 |_=>false
def yc (st:St E.T) (src dst:TypeId) (x:az E.T):Tree (az E.T×St E.T):=
 Tree.cR (CK E src)<|match E.tk dst,x with
 | .data (.int k),.val (.int k') a=> .ret (.val (.int k) (zU k (k.wrap (toI k' a))),st)
 | .data .str,.val .str s=> .ret (.val .str s,st)
 | .data (.slice (.int .u8)),.val .str s=>Tree.cR (wA E src .str) (.ret (.own st.length,st++[.arr .live (.int .u8) s]))
 | .data (.slice (.int .u8)),.own k=>Tree.cR (Nat.beq src dst) (match aR st k with
  |some (.arr .live (.int .u8) xs)=>Tree.cR (!xs.isEmpty) (.ret (.own k,df st k (.arr .live (.int .u8) xs)))
  |_=> .fail)
 | .data .str,x=>match E.tk src with
  | .data (.slice (.int .u8))=>(Tree.e8 (elems E st (.int .u8) x)).bind fun s=> .ret (.val .str s,st)
  |_=> .fail
 |_,_=> .fail
def MD (st:St E.T) (t:TypeId) (x:az E.T):Tree (az E.T):=
 match E.tk t,x with
 | .data .str,.val .str s=> .ret (.val (.int .i64) (s.length:Int))
 | .data (.slice _),.val (.slice _) xs=> .ret (.val (.int .i64) (xs.length:Int))
 | .data (.slice _),.bj=> .ret (.val (.int .i64) (0:Int))
 | .data (.slice _),.own k=>match aR st k with
  |some (.arr _ _ xs)=> .ret (.val (.int .i64) (xs.length:Int))
  |_=> .fail
 |_,_=> .fail
def sy (i:Int) (n:Nat):Bool:=decide (0≤i)&&decide (i<n)
def mG (st:St E.T) (t:TypeId) (x i:az E.T):Tree (az E.T):=
 match i with
 | .val (.int k) a=>
  match x with
  | .val (.slice e) xs=>Tree.cR (wA E t (.slice e)) (.ite (sy (toI k a) xs.length) (.opt xs[(toI k a).toNat]? fun y=> .ret (.dZ e y)) .fail)
  | .own o=>match aR st o with
   |some (.arr _ e xs)=>Tree.cR (wA E t (.slice e)) (.ite (sy (toI k a) xs.length) (.ret (.ptr o [.idx e (toI k a).toNat])) .fail)
   |_=> .fail
  | .ptr o p=>match E.tk t with
   | .data (.arr n e)=> .ite (sy (toI k a) n) (.ret (.ptr o (p++[.idx e (toI k a).toNat]))) .fail
   |_=> .fail
  | .dZ (.arr n e) xs=>match E.tk t with
   | .data (.arr n' e')=>Tree.cR (jj (.arr n e) (.arr n' e')) (.ite (sy (toI k a) n) (.opt xs[(toI k a).toNat]? fun y=> .ret (.dZ e y)) .fail)
   |_=> .fail
  |_=> .fail
 |_=> .fail
def I6 (t:TypeId) (x i:az E.T):Tree (az E.T):=
 match i with
 | .val (.int k) a=>
  match x with
  | .val .str s=>Tree.cR (wA E t .str) (.ite (sy (toI k a) s.length) (.opt s[(toI k a).toNat]? fun y=> .ret (.val (.int .u8) y)) .fail)
  | .val (.arr n e) xs=>match E.tk t with
   | .data (.arr n' e')=>Tree.cR (jj (.arr n e) (.arr n' e')) (.ite (sy (toI k a) n) (.opt xs[(toI k a).toNat]? fun y=> .ret (.val e y)) .fail)
   |_=> .fail
  |_=> .fail
 |_=> .fail
def vP (t:TypeId) (x:az E.T) (j:Nat):Tree (az E.T):=
 match E.tk t with
 | .data (.named i)=>Tree.cR (Nat.blt j (E.fields i).length) (match x with
  | .ptr o p=> .ret (.ptr o (p++[.td i j]))
  | .dZ (.named i') y=>Tree.cR (Nat.beq i i') (match nth (parts E i' y) j .undef with
   | .val t' z=> .ret (.dZ t' z)
   |_=> .fail)
  |_=> .fail)
 |_=> .fail
def xY (st:St E.T) (t:TypeId) (x:az E.T):Tree (az E.T):=
 match x with
 | .ptr o p=>match aR st o with
  |some b=>(BP E b p).bind fun v=>Tree.cR (fits E st t v) (.ret v)
  |none=> .fail
 | .dZ t' y=>match E.tk t with
  | .data ty=>Tree.cR (jj t' ty) (.ret (.val t' y))
  |_=> .fail
 |_=> .fail
def qo:List Step→Option Ty
 |[]=>none
 |[.td i j]=>aR (E.fields i) j
 |[.idx e _]=>some e
 |_::p=>qo p
def yH (t:TypeId) (p:List Step):Bool:=
 match E.tk t,qo E p with
 | .data ty,some ty'=>jj ty' ty
 |_,_=>p.isEmpty
def Ax (st:St E.T) (t:TypeId) (x v:az E.T):Tree (St E.T):=
 match x with
 | .ptr o p=>match aR st o with
  |some b=>Tree.cR (fits E st t v&&yH E t p) ((zK E (mg E st t) v b p).bind fun b'=> .ret (df st o b'))
  |none=> .fail
 |_=> .fail
def nK (x:Option (az E.T)) (d:Int):Option Int:=
 match x with
 |none=>some d
 |some (.val (.int k) a)=>some (toI k a)
 |_=>none
def Ea {α:Type} (xs:List α) (lo hi:Int) (f:List α→Tree (Out E)):Tree (Out E):=
 .ite (decide (0≤lo)&&(decide (lo≤hi)&&decide (hi≤xs.length))) (f ((xs.take hi.toNat).drop lo.toNat)) .fail
def freeze (st:St E.T):List Nat→St E.T
 |[]=>st
 |k::r=>freeze (match aR st k with
  |some (.arr _ e xs)=>df st k (.arr .ba e xs)
  |_=>st) r
def vH (st:St E.T) (t:TypeId) (x:az E.T) (lo hi mx:Option (az E.T)):Tree (Out E):=
 match mx with
 |some _=> .fail
 |none=>
  match x with
  | .val .str s=>Tree.cR (wA E t .str) ((Tree.e8 (nK E lo 0)).bind fun l=>(Tree.e8 (nK E hi s.length)).bind fun h=>Ea E s l h fun r=> .ret (.val .str r,st))
  | .val (.slice e) xs=>Tree.cR (wA E t (.slice e)) ((Tree.e8 (nK E lo 0)).bind fun l=>(Tree.e8 (nK E hi xs.length)).bind fun h=>Ea E xs l h fun r=> .ret (.val (.slice e) r,st))
  | .own k=>match aR st k with
   |some (.arr _ e xs)=>Tree.cR (wA E t (.slice e)) ((Tree.e8 (nK E lo 0)).bind fun l=>(Tree.e8 (nK E hi xs.length)).bind fun h=>Ea E xs l h fun r=> .ret (.val (.slice e) r,freeze E st [k]))
   |_=> .fail
  | .dZ (.arr n e) xs=>Tree.cR (wA E t (.arr n e)&&Nat.ble n dK) ((Tree.e8 (nK E lo 0)).bind fun l=>(Tree.e8 (nK E hi n)).bind fun h=>Ea E xs l h fun r=> .ret (.val (.slice e) r,st))
  | .ptr o p=>match aR st o with
   |some (.box _ c)=>(rU E p c).bind fun v=>match v with
    | .val (.arr n e) xs=>Tree.cR (wA E t (.arr n e)&&Nat.ble n dK) ((Tree.e8 (nK E lo 0)).bind fun l=>(Tree.e8 (nK E hi n)).bind fun h=>Ea E xs l h fun r=> .ret (.val (.slice e) r,df st o (.box true c)))
    |_=> .fail
   |_=> .fail
  |_=> .fail
def kI (st:St E.T) (t:TypeId) (ps:List (Nat×az E.T)):Tree (az E.T):=
 match E.tk t with
 | .data (.named i)=>
  fill (E.fields i) ((E.fields i).map (iN E depth)) ps fun fs=> .ret (.agg i fs)
 | .data (.arr n e)=>(Tree.e8 (fp E depth (.arr n e))).bind fun z=>fillL e z ps fun xs=> .ret (.val (.arr n e) xs)
 |_=> .fail
where
 fill (ts:List Ty) (fs:List (az E.T)) (ps:List (Nat×az E.T)) (f:List (az E.T)→Tree (az E.T)):Tree (az E.T):=
  match ps with
  |[]=>f fs
  |(j,v) ::r=>match aR ts j with
   |some t=>Tree.cR (qg E st t v) (fill ts (df fs j v) r f)
   |none=> .fail
 fillL (e:Ty) (xs:List (I E.T e)) (ps:List (Nat×az E.T)) (f:List (I E.T e)→Tree (az E.T)):Tree (az E.T):=
  match ps with
  |[]=>f xs
  |(j,v) ::r=>(Tree.e8 (toData E [] depth e v)).bind fun y=>Tree.cR (Nat.blt j xs.length) (fillL e (df xs j y) r f)
def eV (st:St E.T) (t:TypeId) (n:Nat) (ps:List (Nat×az E.T)):Tree (az E.T):=
 match E.tk t with
 | .data (.slice e)=>match n,ps with
  |0,[]=> .ret .bj
  |_,ps=>Tree.cR (Nat.beq n ps.length&&(Nat.ble (n*E.size e) 16777216&&Nat.ble n dK)) (all e 0 ps fun xs=> .ret (.val (.slice e) xs))
 |_=> .fail
where
 all (e:Ty) (i:Nat) (ps:List (Nat×az E.T)) (f:List (I E.T e)→Tree (az E.T)):Tree (az E.T):=
  match ps with
  |[]=>f []
  |(j,v) ::r=>Tree.cR (Nat.beq i j) ((Tree.e8 (toData E [] depth e v)).bind fun y=>all e (i+1) r fun ys=>f (y::ys))
def eg (dr:Bool) (st:St E.T) (t:TypeId) (l c:az E.T):Tree (Out E):=
 match E.tk t,l,c with
 | .data (.slice e),.val (.int k) a,.val (.int k') b=>
  .ite (decide (0≤toI k a)&&(decide (toI k a=toI k' b)&&decide (toI k a≤dK)))
   ((Tree.e8 (fp E depth e)).bind fun z=>match dr with
    |true=> .ret (.val (.slice e) (List.replicate (toI k a).toNat z),st)
    |false=> .ret (.own st.length,st++[.arr .live e (List.replicate (toI k a).toNat z)])) .fail
 |_,_,_=> .fail
def xQ (t:TypeId):Bool:=
 match E.tk t with
 | .data (.slice _)=>true
 |_=>false
def isNum (t:TypeId):Bool:=
 match E.tk t with
 | .data (.int _)=>true
 |_=>false
def appended (st:St E.T) (tx:TypeId) (e:Ty) (x:az E.T) (k:List (I E.T e)→Tree (Out E)):Tree (Out E):=
 match x with
 | .val (.int i) a=>Tree.cR (isNum E tx) (.ite (decide (0≤toI i a)&&decide (toI i a≤dK)) ((Tree.e8 (fp E depth e)).bind fun z=>k (List.replicate (toI i a).toNat z)) .fail)
 | .val .str s=>Tree.cR (wA E tx .str) (match wx (.slice (.int .u8)) (.slice e)with
  |some h=>k (zu (T:=E.T) h.down s)
  |none=> .fail)
 |x=>Tree.cR (xQ E tx) ((Tree.e8 (elems E st e x)).bind k)
def nL (st:St E.T) (t tx:TypeId) (s x:az E.T):Tree (Out E):=
 match s with
 | .bj=>match E.tk t with
  | .data (.slice e)=>appended E st tx e x fun ys=> .ite (decide (ys.length≤dK)) (.ret (.own st.length,st++[.arr .live e ys])) .fail
  |_=> .fail
 | .own o=>match aR st o with
  |some (.arr .live e xs)=>Tree.cR (wA E t (.slice e)) (appended E st tx e x fun ys=> .ite (decide (xs.length+ys.length≤dK)) (.ret (.own o,df st o (.arr .live e (xs++ys)))) .fail)
  |_=> .fail
 |_=> .fail
def QX (mx:Bool) (x y:az E.T):Tree (az E.T):=
 match x,y with
 | .val (.int k) a,.val (.int k') b=>match kEq k k' with
  |some _=> .ret (.val (.int k) (zU k (match mx with
   |true=>if toI k' b>toI k a then toI k' b else toI k a
   |false=>if toI k' b<toI k a then toI k' b else toI k a)))
  |none=> .fail
 |_,_=> .fail
def dfold (mx:Bool):az E.T→List (az E.T)→Tree (az E.T)
 |x,[]=> .ret x
 |x,y::r=>(QX E mx x y).bind fun z=>dfold mx z r
end
end
open Go
noncomputable section
section
variable (E:Env)
def cX (ks:List Nat) (k:Nat):Bool:=ks.any (Nat.beq k)
def zm (st:St E.T) (o:Nat):Bool:=
 match aR st o with
 |some (.arr _ _ _)=>true
 |_=>false
mutual
def kill (st:St E.T) (ks:List Nat):az E.T→az E.T
 | .own k=>bif cX ks k then(match aR st k with
  |some (.arr _ e _)=> .dA e
  |_=> .undef)else .own k
 | .ptr o p=>bif cX ks o then .undef else .ptr o p
 | .agg i fs=> .agg i (cU st ks fs)
 | .jk fs=> .jk (cU st ks fs)
 | .fn f fs=> .fn f (cU st ks fs)
 | .fG t v=> .fG t (kill st ks v)
 |v=>v
termination_by structural x=>x
def cU (st:St E.T) (ks:List Nat):List (az E.T)→List (az E.T)
 |[]=>[]
 |v::r=>kill st ks v::cU st ks r
termination_by structural x=>x
end
def iK (st:St E.T) (ks:List Nat) (fr:Fr E.T):Fr E.T:=
 {s:=cU E st ks fr.s,d:=fr.d.map fun x=>(x.1,cU E st ks x.2)}
def bT (st:St E.T) (ks:List Nat):Obj E.T→Obj E.T
 | .box ro c=> .box ro (kill E st ks c)
 |o=>o
def cd:Obj E.T→List Nat
 | .box _ c=>refs c
 |_=>[]
def iX (st:St E.T):List Nat:=st.flatMap (cd E)
def je (fr:Fr E.T):List Nat:=bg fr.s++fr.d.flatMap fun x=>bg x.2
def live (st:St E.T) (ks:List Nat):List Nat:=ks.filter fun k=>match aR st k with
 |some (.arr l _ _)=>l.may
 |_=>false
def sU (st:St E.T) (ks:List Nat):List Nat:=ks.filter fun k=>match aR st k with
 |some (.arr l _ _)=>l.TY
 |_=>false
def y0:List Nat→St E.T→St E.T
 |[],st=>st
 |k::r,st=>y0 r (df st k .dead)
def iT (old:St E.T):List Nat→St E.T→St E.T
 |[],st=>st
 |k::r,st=>iT old r (match aR old k with
  |some o=>df st k o
  |none=>st)
def No:Obj E.T→Obj E.T
 | .box _ c=> .box true c
 | .arr _ e xs=> .arr .ba e xs
 | .dead=> .dead
def lock (st:St E.T):St E.T:=st.map (No E)
def tf:Nat→Ty→Bool
 |0,_=>false
 |d+1,t=>
  match t with
  | .bool=>true
  | .int _=>true
  | .str=>true
  | .slice _=>false
  | .arr _ e=>tf d e
  | .named i=>(E.fields i).all (tf d)
def Ny:az E.T→Bool
 | .val t _=>tf E depth t
 |_=>false
def vA:iR E.T→Bool
 | .ret vs=>vs.all (Ny E)
 | .panic (.fG _ v)=>Ny E v
 | .panic _=>false
def Cr:List (az E.T)→az E.T
 |[v]=>v
 |vs=> .jk vs
inductive wv (E:Env) where
 |next (fr:Fr E.T) (st:St E.T)
 |panic (v:az E.T) (fr:Fr E.T) (st:St E.T)
def zr (st:St E.T):List Ty→List (az E.T)→Option (List (az E.T))
 |[],[]=>some []
 |t::ts,v::vs=>
  match toData E st depth t v with
  |some x=>match zr st ts vs with
   |some r=>some (.val t x::r)
   |none=>none
  |none=>none
 |_,_=>none
def Y6:az E.T→Bool
 | .own _=>true
 |_=>false
def lN (st:St E.T):List TK→List (az E.T)→Option (List (az E.T))
 |[],[]=>some []
 | .data t::ts,v::vs=>
  match toData E st depth t v with
  |some x=>match lN st ts vs with
   |some r=>some (.val t x::r)
   |none=>none
  |none=>none
 | .other::_,_::_=>none
 |_::ts,v::vs=>
  match single E v||Y6 E v with
  |true=>match lN st ts vs with
   |some r=>some (v::r)
   |none=>none
  |false=>none
 |_,_=>none
def cG (st:St E.T):List TK→List (az E.T)→List Nat
 | .data _::ts,v::vs=>refs v++cG st ts vs
 |_::ts,_::vs=>cG st ts vs
 |_,_=>[]
mutual
def rn {T:Nat→Type} (ρ:Nat→Nat):az T→az T
 | .own k=> .own (ρ k)
 | .ptr o p=> .ptr (ρ o) p
 | .agg i fs=> .agg i (Js ρ fs)
 | .jk fs=> .jk (Js ρ fs)
 | .fn f fs=> .fn f (Js ρ fs)
 | .fG t v=> .fG t (rn ρ v)
 |v=>v
termination_by structural x=>x
def Js {T:Nat→Type} (ρ:Nat→Nat):List (az T)→List (az T)
 |[]=>[]
 |v::r=>rn ρ v::Js ρ r
termination_by structural x=>x
end
def gI {T:Nat→Type} (ρ:Nat→Nat):Obj T→Obj T
 | .box ro c=> .box ro (rn ρ c)
 |o=>o
def idx:List Nat→Nat→Nat
 |[],_=>0
 |k::r,j=>bif Nat.beq k j then 0 else idx r j+1
def jq (st:St E.T) (k:Nat):List Nat:=
 match aR st k with
 |some ob=>cd E ob
 |none=>[]
def reach (st:St E.T):Nat→List Nat→List Nat→List Nat
 |0,_,seen=>seen
 |_+1,[],seen=>seen
 |n+1,k::t,seen=>bif cX seen k then reach st n t seen else reach st n (jq E st k++t) (seen++[k])
def E8:List Nat→Bool
 |[]=>true
 |k::r=> !(cX r k)&&E8 r
def oX (st:St E.T) (R:List Nat):Bool:=E8 R&&R.all fun k=>Nat.blt k st.length&&(jq E st k).all (cX R)
def vC (b:Bool):Obj E.T→Obj E.T
 | .arr .live e xs=>bif b then .arr .fix e xs else .arr .live e xs
 |o=>o
def gL (st:St E.T) (fx R:List Nat):St E.T:=R.map fun k=>match aR st k with
 |some ob=>vC E (cX fx k) (gI (idx R) ob)
 |none=> .dead
def back (n r:Nat) (R:List Nat) (i:Nat):Nat:=bif Nat.blt i r then nth R i 0 else i-r+n
def m6:Option (Obj E.T)→Obj E.T→Obj E.T
 |some (.arr .live _ _),.arr .fix e xs=> .arr .live e xs
 |_,o=>o
inductive tv (T:Nat→Type) where
 |val (v:az T)
 |panic (v:az T)
def vF:iR E.T→tv E.T
 | .ret vs=> .val (Cr E vs)
 | .panic v=> .panic v
def Yo (ρ:Nat→Nat):tv E.T→tv E.T
 | .val v=> .val (rn ρ v)
 | .panic v=> .panic (rn ρ v)
structure rT (T:Nat→Type) where
 res:tv T
 iM:List (Nat×Obj T)
 ks:List Nat
 news:List (Obj T)
def cy:St E.T→List (Nat×Obj E.T)→St E.T
 |st,[]=>st
 |st,p::r=>cy (df st p.1 p.2) r
def CG (st:St E.T) (ks:List Nat):St E.T:=
 match ks with
 |[]=>st
 |ks=>st.map (bT E st ks)
def dy (st:St E.T) (ks:List Nat) (fr:Fr E.T):Fr E.T:=
 match ks with
 |[]=>fr
 |ks=>iK E st ks fr
def AL (st:St E.T) (news:List (Obj E.T)):St E.T:=
 match news with
 |[]=>st
 |news=>st++news
def dJ (st:St E.T) (e:rT E.T):St E.T:=AL E (cy E (CG E st e.ks) e.iM) e.news
def cI (fr:Fr E.T) (st:St E.T) (dst:Option Tmp) (e:rT E.T):wv E:=
 match e.res with
 | .val v=> .next (put E (dy E st e.ks fr) dst v) (dJ E st e)
 | .panic v=> .panic v (dy E st e.ks fr) (dJ E st e)
def rV (v:az E.T):rT E.T:={res:= .val v,iM:=[],ks:=[],news:=[]}
def frozen (st:St E.T):List Nat→List (Nat×Obj E.T)
 |[]=>[]
 |k::r=>match aR st k with
  |some (.arr _ e xs)=>(k,.arr .ba e xs) ::frozen st r
  |_=>frozen st r
def sI (st:St E.T):List Nat→List (Obj E.T)→List (Nat×Obj E.T)
 |k::R,ob::l=>(k,m6 E (aR st k) ob) ::sI st R l
 |_,_=>[]
def vZ (st:St E.T) (fx:List Nat) (ds:List (az E.T)) (F:List (az E.T)→St E.T→Tree (iR E.T×St E.T)):Tree (rT E.T):=
 let R:=reach E st 1000 (bg ds) []
 Tree.cR (oX E st R&&(bg ds).all (cX R)) ((F (Js (idx R) ds) (gL E st fx R)).bind fun p=>
  let q:=p.2.map (gI (back st.length R.length R))
  .ret {res:=Yo E (back st.length R.length R) (vF E p.1),iM:=sI E st R q,ks:=(sU E st R).filter (fun k=> !(cX fx k)),news:=q.drop R.length})
def Db (st:St E.T) (ds:List (az E.T)) (F:List (az E.T)→St E.T→Tree (iR E.T×St E.T)):Tree (rT E.T):=
 let R:=reach E st 1000 (bg ds) []
 Tree.cR (oX E st R&&(bg ds).all (cX R)) ((F (Js (idx R) ds) (lock E (gL E st [] R))).bind fun p=>
  Tree.cR (vA E p.1) (.ret {res:=vF E p.1,iM:=[],ks:=[],news:=[]}))
def AH (S:FuncId→Option (Spec E)) (st:St E.T) (fx:List Nat) (callee:az E.T) (args:List (az E.T)):Tree (rT E.T):=
 match callee with
 | .fn f cap=>
  match S f with
  |some (.pure ps F)=>
   match zr E st ps (args++cap)with
   |some ds=>(F ds).bind fun r=>
     .ret {res:=vF E r,iM:=(match live E st (bg (args++cap))with
      |[]=>[]
      |ks=>bif vA E r then[]else frozen E st ks),ks:=[],news:=[]}
   |none=> .fail
  |some (.full ps flat F)=>
   match lN E st ps (args++cap)with
   |some ds=>match flat with
    |true=>Db E st ds F
    |false=>match live E st (cG E st ps (args++cap))with
     |[]=>vZ E st fx ds F
     |ks=>(vZ E (cy E st (frozen E st ks)) fx ds F).bind fun e=> .ret {e with iM:=frozen E st ks++e.iM}
   |none=> .fail
  |none=> .fail
 |_=> .fail
mutual
def Uq:az E.T→List Nat
 | .ptr o _=>[o]
 | .agg _ fs=>JT fs
 | .jk fs=>JT fs
 | .fn _ fs=>JT fs
 | .fG _ v=>Uq v
 |_=>[]
termination_by structural x=>x
def JT:List (az E.T)→List Nat
 |[]=>[]
 |v::r=>Uq v++JT r
termination_by structural x=>x
end
def Y8 (fr:Fr E.T) (st:St E.T):List Nat:=JT E fr.s++st.flatMap fun
 | .box _ c=>Uq E c
 |_=>[]
def valOf (t:Ty):az E.T→Option (I E.T t)
 | .val t' x=>match wx t' t with
  |some h=>some (zu h.down x)
  |none=>none
 |_=>none
mutual
def gN (st:St E.T) (n:Nat):az E.T→az E.T
 | .own k=>match aR st k with
  |some (.arr .ba e xs)=>bif Nat.ble n k then .val (.slice e) xs else .own k
  |_=> .own k
 | .agg i fs=>
  match toHLWith E (valOf E) (E.fields i) (rI st n fs)with
  |some r=> .val (.named i) (E.CL i r)
  |none=> .agg i (rI st n fs)
 |v=>v
termination_by structural x=>x
def rI (st:St E.T) (n:Nat):List (az E.T)→List (az E.T)
 |[]=>[]
 |v::r=>gN st n v::rI st n r
termination_by structural x=>x
end
def K2 (st:St E.T) (n:Nat):Obj E.T→Obj E.T
 | .box ro c=> .box ro (gN E st n c)
 |o=>o
def mV (st:St E.T) (n:Nat):St E.T:=st.map (K2 E st n)
def dQ (fr:Fr E.T) (dst:Option Tmp) (st:St E.T) (v:az E.T):Tree (wv E):= .ret (.next (put E fr dst v) st)
def E2 (fr:Fr E.T) (ps:Array (Nat×Operand)):List (Nat×az E.T):=ps.toList.map fun x=>(x.1,bY E fr x.2)
def BX (fr:Fr E.T) (st:St E.T) (dst:Option Tmp) (b:Builtin) (ts:List TypeId) (args:List (az E.T)):Tree (wv E):=
 match b,args,ts with
 | .len,[x],t::_=>(MD E st t x).bind (dQ E fr dst st)
 | .min,x::r,_=>(dfold E false x r).bind (dQ E fr dst st)
 | .max,x::r,_=>(dfold E true x r).bind (dQ E fr dst st)
 | .append,[s,x],[t,tx]=>
  (nL E st t tx s x).bind fun p=>match s with
   | .own o=> .ret (.next (put E (iK E st [o] fr) dst p.1) ((p.2).map (bT E st [o])))
   |_=> .ret (.next (put E fr dst p.1) p.2)
 |_,_,_=> .fail
def Ew (t:TypeId) (x:az E.T) (j:Nat):Tree (az E.T):=
 match E.tk t with
 | .data (.named i)=>Tree.cR (Nat.blt j (E.fields i).length) (match mH E i j x with
  | .undef=> .fail
  |v=> .ret v)
 |_=> .fail
def Fx:List Step→Bool
 |[]=>false
 | .idx _ _::_=>true
 | .td _ _::p=>Fx p
def rowsOf (a v:az E.T):List Nat:=
 match a with
 | .ptr _ p=>bif Fx p then refs v else[]
 |_=>[]
def pB (S:FuncId→Option (Spec E)) (dr:Bool) (fr:Fr E.T) (st:St E.T) (o:Oper):Tree (wv E):=
 match o.op with
 | .move x=>dQ E fr o.dst st (bY E fr x)
 | .assign x=>dQ E fr o.dst st (bY E fr x)
 | .pick c a b=>match bY E fr c with
  | .val .bool v=> .ite v (dQ E fr o.dst st (bY E fr a)) (dQ E fr o.dst st (bY E fr b))
  |_=> .fail
 | .alloc t=>match E.tk t with
  | .other=> .fail
  |_=> .ret (.next (put E fr o.dst (.ptr st.length [])) (st++[.box false (zeroV E t)]))
 | .box t v=>Tree.cR (fits E st t (bY E fr v)) (.ret (.next (put E fr o.dst (.ptr st.length [])) (st++[.box false (bY E fr v)])))
 | .build t ps=>(kI E st t (E2 E fr ps)).bind (dQ E fr o.dst st)
 | .buildSlice t n ps=>match dr,live E st (bg (ps.toList.map fun x=>bY E fr x.2))with
  |true,_=>(eV E st t n (E2 E fr ps)).bind (dQ E fr o.dst st)
  |false,[]=>(eV E st t n (E2 E fr ps)).bind (dQ E fr o.dst st)
  |false,ks=>(eV E (freeze E st ks) t n ((E2 E fr ps).map fun x=>(x.1,gN E (freeze E st ks) 0 x.2))).bind (dQ E fr o.dst (freeze E st ks))
 | .field t x j=>(Ew E t (bY E fr x) j).bind (dQ E fr o.dst st)
 | .load t a=>(xY E st t (bY E fr a)).bind (dQ E fr o.dst st)
 | .store t a v=>match dr,live E st (rowsOf E (bY E fr a) (bY E fr v))with
  |true,_=>(Ax E st t (bY E fr a) (bY E fr v)).bind fun st'=> .ret (.next (put E fr o.dst .undef) st')
  |false,[]=>(Ax E st t (bY E fr a) (bY E fr v)).bind fun st'=> .ret (.next (put E fr o.dst .undef) st')
  |false,ks=>(Ax E (freeze E st ks) t (bY E fr a) (gN E (freeze E st ks) 0 (bY E fr v))).bind fun st'=> .ret (.next (put E fr o.dst .undef) st')
 | .nilCheck x=>match bY E fr x with
  | .ptr p q=>dQ E fr o.dst st (.ptr p q)
  | .dZ t y=>dQ E fr o.dst st (.dZ t y)
  | .fn f c=>dQ E fr o.dst st (.fn f c)
  |_=> .fail
 | .binOp op t x y _=>match Sz E op x y (bY E fr x) (bY E fr y)with
  |some b=>Tree.cR (isIface E t) (dQ E fr o.dst st (.val .bool b))
  |none=>(MM E st op t (bY E fr x) (bY E fr y)).bind (dQ E fr o.dst st)
 | .unOp op _ x=>(dun E op (bY E fr x)).bind (dQ E fr o.dst st)
 | .convert src dst x=>(yc E st src dst (bY E fr x)).bind fun p=>dQ E fr o.dst p.2 p.1
 | .makeInterface t x=>match E.tk t with
  | .data ty=>(Tree.e8 (toData E [] depth ty (bY E fr x))).bind fun y=>Tree.cR (tf E depth ty) (dQ E fr o.dst st (.fG t (.val ty y)))
  |_=> .fail
 | .makeFunc (.func f) first captured=>Tree.cR (first.toList.isEmpty) (dQ E fr o.dst st (.fn f (captured.toList.map (bY E fr))))
 | .makeSlice t l c=>(eg E dr st t (bY E fr l) (bY E fr c)).bind fun p=>dQ E fr o.dst p.2 p.1
 | .slice t x lo hi mx=>(vH E st t (bY E fr x) (lo.map (bY E fr)) (hi.map (bY E fr)) (mx.map (bY E fr))).bind fun p=>dQ E fr o.dst p.2 p.1
 | .fieldAddr t x j=>(vP E t (bY E fr x) j).bind (dQ E fr o.dst st)
 | .indexAddr t x i=>(mG E st t (bY E fr x) (bY E fr i)).bind (dQ E fr o.dst st)
 | .index t x i=>(I6 E t (bY E fr x) (bY E fr i)).bind (dQ E fr o.dst st)
 | .typeAssert x _ t true=>match E.tk t with
  | .data ty=>match bY E fr x with
   | .fG t' v=>bif Nat.beq t' t then dQ E fr o.dst st (.jk [v,.val .bool true])else dQ E fr o.dst st (.jk [iN E depth ty,.val .bool false])
   | .cr=>dQ E fr o.dst st (.jk [iN E depth ty,.val .bool false])
   |_=> .fail
  |_=> .fail
 | .extract t i=>match bY E fr t with
  | .jk vs=>match aR vs i with
   |some v=>dQ E fr o.dst st v
   |none=> .fail
  |_=> .fail
 | .panic x=>match bY E fr x with
  | .fG t v=> .ret (.panic (.fG t v) fr st)
  |_=> .fail
 | .defer {callee:= .value f,args,..}=>match bY E fr f,fr.d with
  | .fn g cap,[]=> .ret (.next (put E {fr with d:=[(g,(args.toList.map (bY E fr))++cap)]} o.dst .undef) st)
  |_,_=> .fail
 | .call {callee:= .value f,args,..}=>(AH E S st (Y8 E fr st) (bY E fr f) (args.toList.map (bY E fr))).bind fun e=> .ret (cI E fr st o.dst e)
 | .call {callee:= .builtin b,args,argTypes}=>BX E fr st o.dst b argTypes.toList (args.toList.map (bY E fr))
 |_=> .fail
def pv (ops:List Oper) (j:Nat):Option Tmp:=
 match aR ops j with
 |some o=>o.dst
 |none=>none
def zT {α:Type} (fr:Fr E.T) (t:Tmp) (yes no:Fr E.T→Tree α):Tree α:=
 match nth fr.s t .undef with
 | .val .bool b=> .ite b (yes {fr with s:=df fr.s t (.val .bool true)}) (no {fr with s:=df fr.s t (.val .bool false)})
 |_=> .fail
def guarded {α:Type} (all:List Oper) (g:Option (Nat×Bool)) (fr:Fr E.T) (go pass:Fr E.T→Tree α):Tree α:=
 match g with
 |none=>go fr
 |some (j,b)=>match pv all j with
  |some t=>match nth fr.s t .undef with
   | .jk []=>pass fr
   |_=>match b with
    |true=>zT E fr t go pass
    |false=>zT E fr t pass go
  |none=> .fail
inductive oh (E:Env) where
 |done (fr:Fr E.T) (st:St E.T)
 |panic (v:az E.T) (fr:Fr E.T) (st:St E.T)
def RU (o:Oper):List Oper→Bool
 |o2::_=>match o.op,o.dst,o2.op with
  | .buildSlice t _ _,some d,.convert s t' (.tmp d')=>wA E t (.slice (.int .u8))&&(Nat.beq t s&&(Nat.beq s t'&&Nat.beq d d'))
  |_,_,_=>false
 |[]=>false
def MC (fr:Fr E.T) (st:St E.T) (o:Oper):Tree (wv E):=
 match o.op with
 | .buildSlice t n ps=>(eV E st t n (E2 E fr ps)).bind fun
  | .val (.slice (.int .u8)) xs=> .ret (.next (put E fr o.dst (.own st.length)) (st++[.arr .live (.int .u8) xs]))
  |_=> .fail
 |_=> .fail
def MA (S:FuncId→Option (Spec E)) (all:List Oper):List Oper→Fr E.T→St E.T→Tree (oh E)
 |[],fr,st=> .ret (.done fr st)
 |o::r,fr,st=>
  let go (fr:Fr E.T):Tree (oh E):=(bif RU E o r then MC E fr st o else pB E S false fr st o).bind fun
   | .next fr' st'=>MA S all r fr' st'
   | .panic v fr' st'=> .ret (.panic v fr' st')
  let pass (fr:Fr E.T):Tree (oh E):=MA S all r (put E fr o.dst (.jk [])) st
  guarded E all o.guard fr go pass
def gh (ev:Operand→az E.T) (st:St E.T):Op→Tree (az E.T)
 | .move x=> .ret (ev x)
 | .assign x=> .ret (ev x)
 | .pick c a b=>match ev c with
  | .val .bool v=> .ite v (.ret (ev a)) (.ret (ev b))
  |_=> .fail
 | .build t ps=>kI E st t (ps.toList.map fun x=>(x.1,ev x.2))
 | .buildSlice t n ps=>eV E st t n (ps.toList.map fun x=>(x.1,ev x.2))
 | .load t a=>xY E st t (ev a)
 | .nilCheck x=>match ev x with
  | .ptr p q=> .ret (.ptr p q)
  | .dZ t y=> .ret (.dZ t y)
  | .fn f c=> .ret (.fn f c)
  |_=> .fail
 | .binOp op t x y _=>match Sz E op x y (ev x) (ev y)with
  |some b=>Tree.cR (isIface E t) (.ret (.val .bool b))
  |none=>MM E st op t (ev x) (ev y)
 | .unOp op _ x=>dun E op (ev x)
 | .convert src dst x=>match E.tk dst with
  | .data (.slice _)=> .fail
  |_=>(yc E st src dst (ev x)).bind fun p=> .ret p.1
 | .makeInterface t x=>match E.tk t with
  | .data ty=>(Tree.e8 (toData E [] depth ty (ev x))).bind fun y=>Tree.cR (tf E depth ty) (.ret (.fG t (.val ty y)))
  |_=> .fail
 | .makeFunc (.func f) first captured=>Tree.cR (first.toList.isEmpty) (.ret (.fn f (captured.toList.map ev)))
 | .makeSlice t l c=>(eg E true st t (ev l) (ev c)).bind fun p=> .ret p.1
 | .slice t x lo hi mx=>match ev x with
  | .own _=> .fail
  | .ptr _ _=> .fail
  |x=>(vH E st t x (lo.map ev) (hi.map ev) (mx.map ev)).bind fun p=> .ret p.1
 | .fieldAddr t x j=>vP E t (ev x) j
 | .field t x j=>Ew E t (ev x) j
 | .indexAddr t x i=>mG E st t (ev x) (ev i)
 | .index t x i=>I6 E t (ev x) (ev i)
 | .typeAssert x _ t true=>match E.tk t with
  | .data ty=>match ev x with
   | .fG t' v=>bif Nat.beq t' t then .ret (.jk [v,.val .bool true])else .ret (.jk [iN E depth ty,.val .bool false])
   | .cr=> .ret (.jk [iN E depth ty,.val .bool false])
   |_=> .fail
  |_=> .fail
 | .extract t i=>match ev t with
  | .jk vs=>match aR vs i with
   |some v=> .ret v
   |none=> .fail
  |_=> .fail
 | .call {callee:= .builtin b,args,argTypes}=>match b,args.toList.map ev,argTypes.toList with
  | .len,[x],t::_=>MD E st t x
  | .min,x::r,_=>dfold E false x r
  | .max,x::r,_=>dfold E true x r
  |_,_,_=> .fail
 |_=> .fail
def eP (st:St E.T) (i:Nat):Bool:=
 match aR st i with
 |some .dead=>true
 |_=>false
mutual
def owns {T:Nat→Type}:az T→List Nat
 | .own k=>[k]
 | .agg _ fs=>eK fs
 | .jk fs=>eK fs
 | .fn _ fs=>eK fs
 | .fG _ v=>owns v
 |_=>[]
termination_by structural x=>x
def eK {T:Nat→Type}:List (az T)→List Nat
 |[]=>[]
 |v::r=>owns v++eK r
termination_by structural x=>x
end
def fg (ev:Operand→az E.T):Op→Bool
 | .store _ _ _=>false
 | .call {callee:= .builtin .append,..}=>false
 | .call {callee:= .builtin _,..}=>true
 | .call _=>false
 | .buildSlice _ _ ps=>(eK (ps.toList.map fun x=>ev x.2)).isEmpty
 |_=>true
def eQ (S:FuncId→Option (Spec E)) (fx:List Nat) (ev:Operand→az E.T) (st:St E.T) (id:Nat) (o:Op):Tree (rT E.T):=
 match o with
 | .alloc t=>match E.tk t with
  | .other=> .fail
  |_=>Tree.cR (eP E st id) (.ret {res:= .val (.ptr id []),iM:=[(id,.box false (zeroV E t))],ks:=[],news:=[]})
 | .box t v=>Tree.cR (eP E st id&&fits E st t (ev v)) (.ret {res:= .val (.ptr id []),iM:=[(id,.box false (ev v))],ks:=[],news:=[]})
 | .convert src dst x=>match E.tk dst with
  | .data (.slice (.int .u8))=>match ev x with
   | .val .str s=>Tree.cR (wA E src .str&&eP E st id) (.ret {res:= .val (.own id),iM:=[(id,.arr .live (.int .u8) s)],ks:=[],news:=[]})
   |_=> .fail
  |_=>(gh E ev st (.convert src dst x)).bind fun v=> .ret (rV E v)
 | .makeSlice t l c=>(eg E true st t (ev l) (ev c)).bind fun p=>match p.1 with
  | .val (.slice e) xs=>Tree.cR (eP E st id) (.ret {res:= .val (.own id),iM:=[(id,.arr .live e xs)],ks:=[],news:=[]})
  |_=> .fail
 | .buildSlice t n ps=>match eK (ps.toList.map fun x=>ev x.2)with
  |[]=>(gh E ev st (.buildSlice t n ps)).bind fun v=> .ret (rV E v)
  |k::r=>(eV E (freeze E st (k::r)) t n (ps.toList.map fun x=>(x.1,gN E (freeze E st (k::r)) 0 (ev x.2)))).bind fun v=> .ret {res:= .val v,iM:=frozen E st (k::r),ks:=[],news:=[]}
 | .store t a v=>match live E st (rowsOf E (ev a) (ev v))with
  |[]=>match ev a with
   | .ptr k p=>match aR st k with
    |some b=>Tree.cR (fits E st t (ev v)&&yH E t p) ((zK E (mg E st t) (ev v) b p).bind fun b'=> .ret {res:= .val .undef,iM:=[(k,b')],ks:=[],news:=[]})
    |none=> .fail
   |_=> .fail
  |k::r=>match ev a with
   | .ptr q p=>match aR (freeze E st (k::r)) q with
    |some (.arr l e xs)=>Tree.cR ((fits E (freeze E st (k::r)) t (gN E (freeze E st (k::r)) 0 (ev v))&&yH E t p)&&(owns (gN E (freeze E st (k::r)) 0 (ev v))).isEmpty) ((zK E (mg E (freeze E st (k::r)) t) (gN E (freeze E st (k::r)) 0 (ev v)) (.arr l e xs) p).bind fun b'=> .ret {res:= .val .undef,iM:=frozen E st (k::r)++[(q,b')],ks:=[],news:=[]})
    |_=> .fail
   |_=> .fail
 | .call {callee:= .value f,args,..}=>AH E S st fx (ev f) (args.toList.map ev)
 | .call {callee:= .builtin .append,args,argTypes}=>match args.toList.map ev,argTypes.toList with
  |[s,x],[t,tx]=>match s with
   | .bj=>(nL E st t tx .bj x).bind fun p=> .ret {res:= .val p.1,iM:=[],ks:=[],news:=p.2.drop st.length}
   | .own k=>(nL E st t tx (.own k) x).bind fun p=>match aR p.2 k with
    |some ob=> .ret {res:= .val p.1,iM:=[(k,ob)],ks:=[k],news:=[]}
    |none=> .fail
   |_=> .fail
  |_,_=> .fail
 |o=>(gh E ev st o).bind fun v=> .ret (rV E v)
def kK (ev:Operand→az E.T) (f:Operand) (args:Array Operand):List Nat:=refs (ev f)++bg (args.toList.map ev)
def look (ev:Operand→az E.T) (st:St E.T) (id:Nat) (o:Op) (e:rT E.T):List Nat:=
 match o with
 | .move _=>[]
 | .assign _=>[]
 | .alloc _=>[id]
 | .load _ a=>match ev a,e.res with
  | .ptr k _,.val v=>k::refs v
  |_,_=>[]
 | .store _ a v=>match ev a with
  | .ptr k _=>k::(jq E st k++refs (ev v))
  |_=>[]
 | .call {callee:= .value f,args,..}=>reach E st 1000 (kK E ev f args) []
 | .box _ v=>id::owns (ev v)
 | .convert _ d x=>(bif xQ E d then[id]else[])++owns (ev x)
 | .makeSlice _ l c=>id::(owns (ev l)++owns (ev c))
 |o=>eK (o.operands.toList.map ev)
def hU (ev:Operand→az E.T) (st:St E.T) (o:Op):Bool:=
 match o with
 | .call {callee:= .value f,args,..}=>oX E st (reach E st 1000 (kK E ev f args) [])&&(kK E ev f args).all (cX (reach E st 1000 (kK E ev f args) []))
 | .move _=>true
 | .assign _=>true
 | .alloc _=>true
 | .load _ _=>true
 | .store _ _ _=>true
 | .box _ v=>(owns (ev v)).all (zm E st)
 | .convert _ _ x=>(owns (ev x)).all (zm E st)
 | .makeSlice _ l c=>(owns (ev l)++owns (ev c)).all (zm E st)
 |o=>(eK (o.operands.toList.map ev)).all (zm E st)
mutual
def clean {T:Nat→Type}:az T→Bool
 | .agg _ fs=>tp fs
 | .jk fs=>tp fs
 | .fn _ fs=>tp fs
 | .fG _ v=>clean v
 | .dA _=>false
 | .undef=>false
 |_=>true
termination_by structural x=>x
def tp {T:Nat→Type}:List (az T)→Bool
 |[]=>true
 |v::r=>clean v&&tp r
termination_by structural x=>x
end
structure y7 where
 mv:Bool
 lk:List Nat
 up:List Nat
 ks:List Nat
 vr:List Nat
 cl:Bool
 rS:Bool
 ld:Option (Nat×List Step×List Nat)
 RO:Option (Nat×List Step)
def sB:tv E.T→List Nat
 | .val v=>refs v
 | .panic v=>refs v
def F8:tv E.T→Bool
 | .val v=>clean v
 | .panic v=>clean v
def TW:tv E.T→Bool
 | .val _=>false
 | .panic _=>true
def iQ (ev:Operand→az E.T) (st:St E.T) (id:Nat) (o:Op) (e:rT E.T):y7:=
 {mv:=fg E ev o
  lk:=look E ev st id o e
  up:=e.iM.map (·.1)++List.range' st.length e.news.length
  ks:=e.ks
  vr:=bg (o.operands.toList.map ev)++sB E e.res
  cl:=tp (o.operands.toList.map ev)&&F8 E e.res
  rS:=TW E e.res
  ld:=match o with
   | .load _ a=>match ev a,e.res with
    | .ptr k p,.val v=>some (k,p,refs v)
    |_,_=>none
   |_=>none
  RO:=match o with
   | .store _ a v=>match ev a with
    | .ptr k p=>bif (refs (ev v)).isEmpty then some (k,p)else none
    |_=>none
   |_=>none}
def ME (a b:List Nat):Bool:=a.all fun k=> !(cX b k)
def yt:List Step→List Step→Bool
 | .td i j::p,.td i' j'::q=>Nat.beq i i'&&(bif Nat.beq j j' then yt p q else true)
 |_,_=>false
def JH (a b:y7):Bool:=
 ME a.up b.lk||match a.RO,b.ld with
  |some (k,p),some (k',q,rs)=>Nat.beq k k'&&(yt p q&&ME a.up rs)
  |_,_=>false
def indep (a b:y7):Bool:=
 (a.mv||b.mv)&&(ME a.up b.up&&(JH a b&&(JH b a&&(ME a.ks b.vr&&(ME b.ks a.vr&&((a.ks.isEmpty||b.cl)&&(b.ks.isEmpty||a.cl))&&((!a.rS||b.up.isEmpty)&&(!b.rS||a.up.isEmpty)))))))
def y5 (bef:List Nat) (i j:Nat):Bool:=Nat.testBit (nth bef i 0) j
def Nn (bef:List Nat) (i:Nat) (a:y7):List (Nat×y7)→Bool
 |[]=>true
 |(j,b) ::r=>(y5 bef i j||indep b a)&&Nn bef i a r
def Ak (o:Oper):Bool:=
 match o.op,o.guard with
 | .move _,none=>true
 |_,_=>false
def bits (acc:List Nat):List Edge→Nat
 |[]=>0
 |e::r=>bif Region.binds .any e then(bits acc r|||(2^e.on|||nth acc e.on 0))else bits acc r
def wi:List Nat→List Oper→List Nat
 |acc,[]=>acc
 |acc,o::r=>wi (acc++[bits acc o.after.toList]) r
def vG:Nat→List Oper→Bool
 |_,[]=>true
 |i,o::r=>o.after.toList.all (fun e=> !(Region.binds .any e)||Nat.blt e.on i)&&vG (i+1) r
structure y6 where
 i:Nat
 id:Nat
 o:Oper
def Ii (bef:List Nat) (i:Nat):List y6→Bool
 |[]=>true
 |x::r=>(y5 bef x.i i||Ak x.o)&&Ii bef i r
def H9 (all:Array Oper) (bef:List Nat):List y6→Bool
 |[]=>true
 |x::r=>r.all (fun y=>y5 bef y.i x.i||x.o.apart all y.o)&&H9 all bef r
def makes:Op→Bool
 | .alloc _=>true
 | .box _ _=>true
 | .convert _ d _=>xQ E d
 | .makeSlice _ _ _=>true
 |_=>false
def um:Nat→Nat→List Oper→List y6
 |_,_,[]=>[]
 |i,id,o::r=>{i:=i,id:=id,o:=o} ::um (i+1) (bif makes E o.op then id+1 else id) r
def xp:List Oper→Nat
 |[]=>0
 |o::r=>bif makes E o.op then xp r+1 else xp r
def nO (fr:Fr E.T):List Oper→Fr E.T
 |[]=>fr
 |o::r=>nO (put E fr o.dst .undef) r
def QU (S:FuncId→Option (Spec E)) (fx bef:List Nat) (all:List Oper):List y6→List (Nat×y7)→Fr E.T→St E.T→Tree (oh E)
 |[],_,fr,st=> .ret (.done fr st)
 |x::r,log,fr,st=>
  let go (fr:Fr E.T):Tree (oh E):=(eQ E S fx (bY E fr) st x.id x.o.op).bind fun e=>
   Tree.cR (hU E (bY E fr) st x.o.op&&Nn bef x.i (iQ E (bY E fr) st x.id x.o.op e) log) (match cI E fr st x.o.dst e with
    | .next fr' st'=>QU S fx bef all r ((x.i,iQ E (bY E fr) st x.id x.o.op e) ::log) fr' st'
    | .panic v fr' st'=>Tree.cR (Ii bef x.i r) (.ret (.panic v (nO E fr' all) st')))
  let pass (fr:Fr E.T):Tree (oh E):=QU S fx bef all r log (put E fr x.o.dst (.jk [])) st
  guarded E all x.o.guard fr go pass
def I4 (S:FuncId→Option (Spec E)) (ops:Array Oper) (fr:Fr E.T) (st:St E.T):Tree (oh E):=
 Tree.cR (vG 0 ops.toList&&H9 ops (wi [] ops.toList) (um E 0 st.length ops.toList))
  (QU E S (Y8 E fr st) (wi [] ops.toList) ops.toList (um E 0 st.length ops.toList) [] fr (AL E st (List.replicate (xp E ops.toList) .dead)))
inductive NP (T:Nat→Type) where
 |normal
 |exit (id:Nat)
 |ret
 |panic (v:az T)
abbrev bR (E:Env):=NP E.T×Fr E.T×St E.T
def Y0:oh E→bR E
 | .done fr st=>(.normal,fr,st)
 | .panic v fr st=>(.panic v,fr,st)
inductive Whr where
 |slot (t:Nat)
 |obj (o:Nat)
inductive Pw where
 |zR (w:Whr) (p:List Nat) (e:Ty)
 |ye (w:Whr) (p:List Nat)
 |Y9 (o:Nat)
 |rd (t:Nat)
 |und (t:Nat)
structure cY (E:Env) where
 aH:List Nat
 ik:List (Nat×Nat):=[]
 zR:List Pw:=[]
 closed:Option (Fr E.T→St E.T→Tree (bR E))
 reg:List Pw:=[]
def da:Code→Nat
 | .seq a b=>da a+da b
 | .cond _ a b=>da a+da b
 | .block _ c=>da c
 | .loop c=>da c+1
 | .scope c=>da c
 |_=>0
def fF (ks:List Nat) (i:Nat):List (az E.T)→List (az E.T)
 |[]=>[]
 |v::r=>(bif cX ks i then v else .undef) ::fF ks (i+1) r
def Cu (k:Nat) (e:Ty):List Nat→Option Ty→az E.T→Option (az E.T)
 |[],t,.bj=>match t with
  |none=>some (.own k)
  |some t=>bif jj t (.slice e)then some (.own k)else none
 |j::p,_,.agg i fs=>match aR (E.fields i) j,aR fs j with
  |some t,some v=>match Cu k e p (some t) v with
   |some v'=>some (.agg i (df fs j v'))
   |none=>none
  |_,_=>none
 |_,_,_=>none
def Uj:List Nat→az E.T→az E.T
 |[],v=>v
 |j::p,.agg i fs=>Uj p (nth fs j .undef)
 |_,_=> .undef
def py (st:St E.T):List Nat→az E.T→az E.T
 |[],v=>gN E st 0 v
 |j::p,.agg i fs=> .agg i (df fs j (py st p (nth fs j .undef)))
 |_,v=>v
def H4 (w:Whr) (fr:Fr E.T) (st:St E.T):az E.T:=
 match w with
 | .slot t=>nth fr.s t .undef
 | .obj o=>match aR st o with
  |some (.box _ c)=>c
  |_=> .undef
def H5 (w:Whr) (v:az E.T) (fr:Fr E.T) (st:St E.T):Fr E.T×St E.T:=
 match w with
 | .slot t=>({fr with s:=df fr.s t v},st)
 | .obj o=>match aR st o with
  |some (.box ro _)=>(fr,df st o (.box ro v))
  |_=>(fr,st)
def MY (a:Pw) (fr:Fr E.T) (st:St E.T):Option (Fr E.T×St E.T):=
 match a with
 | .zR w p e=>match Cu E st.length e p none (H4 E w fr st)with
  |some v=>some (H5 E w v fr (st++[.arr .live e []]))
  |none=>some (fr,st)
 | .ye w p=>
  let st1:=freeze E st (refs (Uj E p (H4 E w fr st)))
  some (H5 E w (py E st1 p (H4 E w fr st)) fr st1)
 | .Y9 o=>some (fr,freeze E st [o])
 | .und t=>some ({fr with s:=df fr.s t .undef},st)
 | .rd t=>match nth fr.s t .undef with
  | .ptr o []=>match aR st o with
   |some (.box _ (.val ty x))=>some ({fr with s:=df fr.s t (.dZ ty x)},df st o (.box true (.val ty x)))
   |_=>some (fr,st)
  |_=>some (fr,st)
def Pm:List Pw→Fr E.T→St E.T→Option (Fr E.T×St E.T)
 |[],fr,st=>some (fr,st)
 |a::r,fr,st=>match MY E a fr st with
  |some p=>Pm r p.1 p.2
  |none=>none
def BM (n:Nat) (s:List (az E.T)):List (Nat×Nat)→List Nat
 |[]=>List.range n
 |(q,k) ::r=>match nth s q .undef with
  | .own m=>bif Nat.ble n m then df (BM n s r) k m else BM n s r
  |_=>BM n s r
def Hi (st:St E.T) (i:Nat):List Nat→Bool
 |[]=>true
 |m::r=>(Nat.beq m i||(match aR st i,aR st m with
  |some (.arr _ e _),some (.arr .live e' _)=>jj e e'
  |_,_=>false))&&Hi st (i+1) r
def E9 (st:St E.T) (ik:List (Nat×Nat)):Bool:=ik.all fun x=>match aR st x.2 with
 |some (.arr .live _ _)=>true
 |_=>false
def acX (ρ:Nat→Nat) (fr:Fr E.T):Fr E.T:={s:=Js ρ fr.s,d:=fr.d.map fun x=>(x.1,Js ρ x.2)}
def tc (ks:List Nat) (ik:List (Nat×Nat)) (n:Nat) (fr:Fr E.T) (st:St E.T):Option (Fr E.T×St E.T):=
 match ik with
 |[]=>
  let st1:=freeze E st (List.range' n (st.length-n))
  let fr':Fr E.T:={s:=rI E st1 n (fF E ks 0 fr.s),d:=fr.d}
  let st2:=mV E st1 n
  bif (je E fr'++iX E (st2.take n)).all (fun k=>Nat.blt k n)then some (fr',st2.take n)else none
 |ik=>
  let R:=BM E n (fF E ks 0 fr.s) ik
  let st1:=freeze E st ((List.range' n (st.length-n)).filter fun k=> !(cX R k))
  let fr':Fr E.T:={s:=rI E st1 n (fF E ks 0 fr.s),d:=fr.d}
  let st2:=mV E st1 n
  bif Nat.beq R.length n&&(oX E st2 R&&(Hi E st2 0 R&&(je E fr').all (cX R)))then some (acX E (idx R) fr',gL E st2 [] R)else none
def qf (step:Fr E.T→St E.T→Tree (bR E)) (ks:List Nat) (ik:List (Nat×Nat)) (n:Nat):Nat→Fr E.T→St E.T→Tree (bR E)
 |0,_,_=> .fail
 |m+1,fr,st=>
  match tc E ks ik n fr st with
  |some (fr',st')=>(step fr' st').bind fun p=>match p.1 with
   | .normal=>qf step ks ik n m p.2.1 p.2.2
   |e=> .ret (e,p.2.1,p.2.2)
  |none=> .fail
def gi (S:FuncId→Option (Spec E)) (L:Nat→cY E) (N:Nat):Nat→Code→Fr E.T→St E.T→Tree (bR E)
 |_,.skip,fr,st=> .ret (.normal,fr,st)
 |i,.seq a b,fr,st=>(gi S L N i a fr st).bind fun p=>match p.1 with
  | .normal=>gi S L N (i+da a) b p.2.1 p.2.2
  |e=> .ret (e,p.2.1,p.2.2)
 |_,.region id ops draw,fr,st=>
  match Pm E (L id).reg fr st with
  |some p=>match draw with
   |false=>(MA E S ops.toList ops.toList p.1 p.2).bind fun r=> .ret (Y0 E r)
   |true=>(I4 E S ops p.1 p.2).bind fun r=> .ret (Y0 E r)
  |none=> .fail
 |i,.cond c a b,fr,st=>
  match c with
  | .tmp t=>zT E fr t (fun fr=>gi S L N i a fr st) (fun fr=>gi S L N (i+da a) b fr st)
  |_=> .fail
 |i,.block id c,fr,st=>(gi S L N i c fr st).bind fun p=>match p.1 with
  | .exit id'=>bif Nat.beq id' id then .ret (.normal,p.2.1,p.2.2)else .ret (.exit id',p.2.1,p.2.2)
  |e=> .ret (e,p.2.1,p.2.2)
 |i,.loop c,fr,st=>
  match Pm E (L i).zR fr st with
  |some p=>match tc E (L i).aH [] p.2.length p.1 p.2 with
   |some (fr',st')=>Tree.cR (E9 E st' (L i).ik) (match(L i).closed with
    |some f=>f fr' st'
    |none=>qf E (gi S L N (i+1) c) (L i).aH (L i).ik st'.length N fr' st')
   |none=> .fail
  |none=> .fail
 |_,.exit id,fr,st=> .ret (.exit id,fr,st)
 |_,.ret,fr,st=> .ret (.ret,fr,st)
 |_,_,_,_=> .fail
def NB (fr:Fr E.T) (st:St E.T):ResultVar→Tree (az E.T)
 | .tmp s=> .ret (nth fr.s s .undef)
 | .cell a ty=>xY E st ty (nth fr.s a .undef)
def xX (fr:Fr E.T) (st:St E.T):List ResultVar→Tree (List (az E.T))
 |r::rs=>(NB E fr st r).bind fun v=>(xX fr st rs).bind fun vs=> .ret (v::vs)
 |[]=> .ret []
def asData (st:St E.T):List TypeId→List (az E.T)→Option (List (az E.T))
 |t::ts,v::vs=>
  match E.tk t with
  | .data ty=>match toData E st depth ty v with
   |some x=>match asData st ts vs with
    |some r=>some (.val ty x::r)
    |none=>none
   |none=>none
  | .other=>none
  |_=>match single E v with
   |true=>match asData st ts vs with
    |some r=>some (v::r)
    |none=>none
   |false=>none
 |[],[]=>some []
 |_,_=>none
def ending (aH:Bool) (base:Nat) (fn:Func) (fr:Fr E.T) (st:St E.T) (rS:Option (az E.T)):Tree (iR E.T×St E.T):=
 match rS with
 |some v=>match aH with
  |true=> .ret (.panic v,st)
  |false=>Tree.cR ((iX E (st.take base)++refs v).all fun k=>Nat.blt k base) (.ret (.panic v,st.take base))
 |none=>(xX E fr st fn.results.toList).bind fun vs=>
  match aH with
  |true=> .ret (.ret vs,st)
  |false=>match asData E st fn.resultTypes.toList vs with
   |some ws=>Tree.cR (((iX E (st.take base))++bg ws).all fun k=>Nat.blt k base)
     (.ret (.ret ws,(freeze E st (live E st (bg vs))).take base))
   |none=> .fail
def leave (SD:FuncId→Option (l8 E)) (aH:Bool) (base:Nat) (fn:Func) (fr:Fr E.T) (st:St E.T) (rS:Option (az E.T)):Tree (iR E.T×St E.T):=
 match fr.d with
 |[]=>ending E aH base fn fr st rS
 |[(g,as)]=>match SD g with
  |some F=>
   let fs:=sU E st (je E fr)
   let bs:=iX E st++bg as
   let gm:=fs.filter fun k=> !(cX bs k)
   (F as (y0 E gm st) rS).bind fun p=>
    ending E aH base fn {iK E st (fs.filter (cX bs)) fr with d:=[]} (iT E st gm p.2) (match p.1 with
     |true=>none
     |false=>rS)
  |none=> .fail
 |_=> .fail
def frame (fn:Func) (args:List (az E.T)):Fr E.T:={s:=args++List.replicate (fn.ntmps-args.length) .undef,d:=[]}
def NC (S:FuncId→Option (Spec E)) (SD:FuncId→Option (l8 E)) (L:Nat→cY E) (N:Nat) (aH:Bool) (fn:Func) (args:List (az E.T)) (st:St E.T):Tree (iR E.T×St E.T):=
 match fn.body with
 |some c=>(gi E S L N 0 c (frame E fn args) st).bind fun p=>match p.1 with
  | .normal=>leave E SD aH st.length fn p.2.1 p.2.2 none
  | .ret=>leave E SD aH st.length fn p.2.1 p.2.2 none
  | .panic v=>Tree.cR (refs v).isEmpty (leave E SD aH st.length fn p.2.1 p.2.2 (some v))
  | .exit _=> .fail
 |none=> .fail
def Qc:Option (az E.T)→az E.T
 |some v=>v
 |none=> .cr
def Ur:Option (az E.T)→Bool
 |some _=>true
 |none=>false
def Sr (base:Nat) (rS:Option (az E.T)) (fr:Fr E.T) (st':St E.T):Tree (Bool×St E.T):=
 match fr.d with
 |[]=>
  let st1:=freeze E st' (List.range' base (st'.length-base))
  let st2:=mV E st1 base
  Tree.cR ((iX E (st2.take base)).all fun k=>Nat.blt k base) (.ret (Ur E rS,st2.take base))
 |_=> .fail
end
end
open Go
noncomputable section
theorem ko {α:Type} (l:List α) (n:Nat) (d:α):nth l n d=l.getD n d:=by
 induction l generalizing n with
 |nil=>simp[ff,dW,dX]
 |cons x r ih=>cases n<;>simp[ff,dW,dX,ih]
theorem cT {α:Type} (l:List α) (n:Nat):aR l n=l[n]? :=by
 induction l generalizing n with
 |nil=>simp[dF,cP,cQ]
 |cons x r ih=>cases n<;>simp[dF,cP,cQ,ih]
theorem EG {α:Type} (l:List α) (n:Nat) (v:α):df l n v=l.set n v:=by
 induction l generalizing n with
 |nil=>simp[jK,gB,gC]
 |cons x r ih=>cases n<;>simp[jK,gB,gC,ih]
theorem bM {α:Type} {l:List α} {n:Nat} {x:α} (h:aR l n=some x):n<l.length:=by
 rw[cT]at h
 exact(List.getElem?_eq_some_iff.1 h).1
theorem bE {α:Type} (l:List α) (n m:Nat) (v:α):aR (df l n v) m=if n=m∧m<l.length then some v else aR l m:=by
 simp only[cT,EG,List.getElem?_set]
 by_cases h:n=m
 ·subst h
  by_cases h':n<l.length
  ·simp[h']
  ·simp[h']
 ·simp[h]
theorem dH {α:Type} (l:List α) (n:Nat) (v:α):(df l n v).length=l.length:=by simp[EG]
theorem ej {α:Type} (l:List α) (v:α) (m:Nat):aR (l++[v]) m=if m=l.length then some v else aR l m:=by
 simp only[cT]
 by_cases h:m<l.length
 ·rw[List.getElem?_append_left h,if_neg (by omega)]
 ·by_cases h':m=l.length
  ·subst h';simp
  ·rw[if_neg h',List.getElem?_eq_none (by simp;omega),List.getElem?_eq_none (by omega)]
structure Sg where
 f:Nat→Value
 m:Nat→Prop
instance:CoeFun Sg fun _=>Nat→Value:=⟨Sg.f⟩
def kV:Value→Bool
 | .agg _=>false
 | .tuple _=>false
 |_=>true
section
variable (E:Env) (w:World) (M:Nat→Prop)
def Mem (a:Option Addr) (cs:List Value):Prop:=
 ∃b off,a=some ⟨b,off,none⟩∧ ¬M b∧b<w.heap.size∧ ∀q v,cs[q]? =some v→w.cell? ⟨b,off+q,none⟩=some v
mutual
inductive cx:(t:Ty)→I E.T t→List Value→Prop where
 |bool (b:Bool):cx .bool b [.bool b]
 |int (k:IntKind) (x:Jq k):cx (.int k) x [.int k (toI k x)]
 |str (s:ByteArray) (h:s.size≤dK):cx .str s.data.toList [.string s]
 |named (i:Nat) (x:E.T i) (cs:List Value) (h:l7 (E.fields i) (E.out i x) cs):cx (.named i) x cs
 |slice (e:Ty) (xs:List (I E.T e)) (a:Option Addr) (cap:Nat) (cs:List Value) (hl:bD e xs cs) (hm:xs=[]∨Mem w M a cs) (hn:xs.length≤dK) (hc:xs.length≤cap):
   cx (.slice e) xs [.slice a xs.length cap]
 |arr (n:Nat) (e:Ty) (xs:List (I E.T e)) (cs:List Value) (hn:xs.length=n) (hl:bD e xs cs):cx (.arr n e) xs cs
inductive l7:(ts:List Ty)→HL E.T ts→List Value→Prop where
 |nil:l7 [] () []
 |cons (t:Ty) (ts:List Ty) (x:I E.T t) (r:HL E.T ts) (c1 c2:List Value) (h:cx t x c1) (h':l7 ts r c2):l7 (t::ts) (x,r) (c1++c2)
inductive bD:(e:Ty)→List (I E.T e)→List Value→Prop where
 |nil (e:Ty):bD e [] []
 |cons (e:Ty) (x:I E.T e) (r:List (I E.T e)) (c1 c2:List Value) (h:cx e x c1) (h':bD e r c2):bD e (x::r) (c1++c2)
end
end
structure wC (M M':Nat→Prop) (w w':World):Prop where
 os:w'.os=w.os
 tape:w'.tape=w.tape
 output:w'.output=w.output
 size:w.heap.size≤w'.heap.size
 block: ∀b,b<w.heap.size→ ¬M b→w'.heap[b]? =w.heap[b]?
 may: ∀b,b<w.heap.size→M' b→M b
theorem wC.refl (M:Nat→Prop) (w:World):wC M M w w:=⟨rfl,rfl,rfl,Nat.le_refl _,fun _ _ _=>rfl,fun _ _ h=>h⟩
theorem wC.trans {M M' M'':Nat→Prop} {w w' w'':World} (h:wC M M' w w') (k:wC M' M'' w' w''):wC M M'' w w'':=
 ⟨k.os.trans h.os,k.tape.trans h.tape,k.output.trans h.output,Nat.le_trans h.size k.size,
  fun b hb hm=>(k.block b (Nat.lt_of_lt_of_le hb h.size) (fun hm'=>hm (h.may b hb hm'))).trans (h.block b hb hm),
  fun b hb hm=>h.may b hb (k.may b (Nat.lt_of_lt_of_le hb h.size) hm)⟩
theorem SJ {w:World} {a:Addr} {v:Value} (h:w.cell? a=some v):a.block<w.heap.size:=by
 unfold World.cell? at h
 split at h
 ·rename_i c _ _ hh
  exact(Array.getElem?_eq_some_iff.1 hh).1
 ·cases h
theorem vX {w w':World} {a:Addr} (h:w'.heap[a.block]? =w.heap[a.block]?):w'.cell? a=w.cell? a:=by
 unfold World.cell?
 rw[h]
section
variable {E:Env} {w w':World} {M M':Nat→Prop}
structure Kept (M M':Nat→Prop) (w w':World):Prop where
 size:w.heap.size≤w'.heap.size
 block: ∀b,b<w.heap.size→ ¬M b→w'.heap[b]? =w.heap[b]?
 may: ∀b,b<w.heap.size→M' b→M b
theorem wC.kept {M M':Nat→Prop} {w w':World} (h:wC M M' w w'):Kept M M' w w':=⟨h.size,h.block,h.may⟩
theorem Kept.weaken {M M':Nat→Prop} {w:World} (h: ∀b,M' b→M b):Kept M M' w w:=⟨Nat.le_refl _,fun _ _ _=>rfl,fun b _ hm=>h b hm⟩
theorem Mem.aH {a:Option Addr} {cs:List Value} (k:Kept M M' w w') (h:Mem w M a cs):Mem w' M' a cs:=by
 obtain⟨b,off,rfl,hb,hlt,hc⟩:=h
 exact⟨b,off,rfl,fun hm=>hb (k.may b hlt hm),Nat.lt_of_lt_of_le hlt k.size,fun q v hv=>(vX (k.block b hlt hb)).trans (hc q v hv)⟩
mutual
theorem cx.aH (k:Kept M M' w w'): ∀{t:Ty} {x:I E.T t} {cs:List Value},cx E w M t x cs→cx E w' M' t x cs
 |_,_,_,.bool b=> .bool b
 |_,_,_,.int i x=> .int i x
 |_,_,_,.str s h=> .str s h
 |_,_,_,.named i x cs h=> .named i x cs (l7.aH k h)
 |_,_,_,.slice e xs a cap cs hl hm hn hc=> .slice e xs a cap cs (bD.aH k hl) (hm.imp id (Mem.aH k)) hn hc
 |_,_,_,.arr n e xs cs hn hl=> .arr n e xs cs hn (bD.aH k hl)
theorem l7.aH (k:Kept M M' w w'): ∀{ts:List Ty} {r:HL E.T ts} {cs:List Value},l7 E w M ts r cs→l7 E w' M' ts r cs
 |_,_,_,.nil=> .nil
 |_,_,_,.cons t ts x r c1 c2 h h'=> .cons t ts x r c1 c2 (cx.aH k h) (l7.aH k h')
theorem bD.aH (k:Kept M M' w w'): ∀{e:Ty} {xs:List (I E.T e)} {cs:List Value},bD E w M e xs cs→bD E w' M' e xs cs
 |_,_,_,.nil e=> .nil e
 |_,_,_,.cons e x r c1 c2 h h'=> .cons e x r c1 c2 (cx.aH k h) (bD.aH k h')
end
structure dk (E:Env):Prop where
 Kn: ∀i x,E.CL i (E.out i x)=x
 pe: ∀i r,E.out i (E.CL i r)=r
 zg: ∀i,E.zg i=((E.fields i).map E.size).sum
mutual
theorem cx.len (ok:dk E): ∀{t:Ty} {x:I E.T t} {cs:List Value},cx E w M t x cs→cs.length=E.size t
 |_,_,_,.bool b=>rfl
 |_,_,_,.int i x=>rfl
 |_,_,_,.str s h=>rfl
 |_,_,_,.named i x cs h=>by rw[l7.len ok h,Env.size,ok.zg]
 |_,_,_,.slice e xs a cap cs hl hm hn hc=>rfl
 |_,_,_,.arr n e xs cs hn hl=>by rw[bD.len ok hl,Env.size,hn]
theorem l7.len (ok:dk E): ∀{ts:List Ty} {r:HL E.T ts} {cs:List Value},l7 E w M ts r cs→cs.length=(ts.map E.size).sum
 |_,_,_,.nil=>rfl
 |_,_,_,.cons t ts x r c1 c2 h h'=>by rw[List.length_append,cx.len ok h,l7.len ok h'];simp
theorem bD.len (ok:dk E): ∀{e:Ty} {xs:List (I E.T e)} {cs:List Value},bD E w M e xs cs→cs.length=xs.length*E.size e
 |_,_,_,.nil e=>by simp
 |_,_,_,.cons e x r c1 c2 h h'=>by rw[List.length_append,cx.len ok h,bD.len ok h',List.length_cons,Nat.add_mul];omega
end
mutual
theorem cx.one: ∀{t:Ty} {x:I E.T t} {cs:List Value},cx E w M t x cs→ ∀v∈cs,kV v=true
 |_,_,_,.bool b=>by simp[kV]
 |_,_,_,.int i x=>by simp[kV]
 |_,_,_,.str s h=>by simp[kV]
 |_,_,_,.named i x cs h=>l7.one h
 |_,_,_,.slice e xs a cap cs hl hm hn hc=>by simp[kV]
 |_,_,_,.arr n e xs cs hn hl=>bD.one hl
theorem l7.one: ∀{ts:List Ty} {r:HL E.T ts} {cs:List Value},l7 E w M ts r cs→ ∀v∈cs,kV v=true
 |_,_,_,.nil=>by simp
 |_,_,_,.cons t ts x r c1 c2 h h'=>by
  intro v hv
  rcases List.mem_append.1 hv with hv|hv
  ·exact cx.one h v hv
  ·exact l7.one h' v hv
theorem bD.one: ∀{e:Ty} {xs:List (I E.T e)} {cs:List Value},bD E w M e xs cs→ ∀v∈cs,kV v=true
 |_,_,_,.nil e=>by simp
 |_,_,_,.cons e x r c1 c2 h h'=>by
  intro v hv
  rcases List.mem_append.1 hv with hv|hv
  ·exact cx.one h v hv
  ·exact bD.one h' v hv
end
theorem bD.at (ok:dk E): ∀{e:Ty} {xs:List (I E.T e)} {cs:List Value},bD E w M e xs cs→ ∀(i:Nat) (x:I E.T e),xs[i]? =some x→
  ∃c,cx E w M e x c∧ ∀q v,c[q]? =some v→cs[i*E.size e+q]? =some v
 |_,_,_,.nil e=>by intro i x h;simp at h
 |_,_,_,.cons e y r c1 c2 h h'=>by
  intro i x hx
  have hl:=cx.len ok h
  cases i with
  |zero=>
   simp at hx;subst hx
   refine⟨c1,h,fun q v hv=> ?_⟩
   rw[Nat.zero_mul,Nat.zero_add,List.getElem?_append_left (List.getElem?_eq_some_iff.1 hv).1];exact hv
  |succ i=>
   simp at hx
   obtain⟨c,hc,hq⟩:=bD.at ok h' i x hx
   refine⟨c,hc,fun q v hv=> ?_⟩
   rw[List.getElem?_append_right (by rw[hl,Nat.add_mul];omega),hl]
   have:(i+1)*E.size e+q-E.size e=i*E.size e+q:=by rw[Nat.add_mul];omega
   rw[this];exact hq q v hv
end
def D0 (E:Env):az E.T→Bool
 | .undef=>true
 |d=>single E d
theorem Nb {E:Env} {d:az E.T} (h:single E d=true):D0 E d=true:=by cases d<;>first|exact h|rfl
theorem Oe {E:Env} {d:az E.T} (h:D0 E d=true) (hn:d≠ .undef):single E d=true:=by cases d<;>first|exact h|exact absurd rfl hn
def toV (t:Ty) (cs:List Value):Value:=
 match dU t with
 |true=> .agg cs.toArray
 |false=>cs.headD (.tuple #[])
def lf:Value→Option Nat
 | .pointer (some a)=>some a.block
 | .slice (some a) _ (_+1)=>some a.block
 |_=>none
theorem Ey (a:Option Addr):lf (.slice a 0 0)=none:=by cases a<;>rfl
theorem jZ {g n cap b:Nat} (h:lf (.slice (some ⟨g,0,none⟩) n cap)=some b):b=g:=by
 cases cap with
 |zero=>cases h
 |succ c=>cases h;rfl
section
variable (E:Env) (σ:Sg) (st:St E.T) (w:World) (M:Nat→Prop)
mutual
inductive VT:Ty→az E.T→List Value→Prop where
 |val (t:Ty) (x:I E.T t) (cs:List Value) (h:cx E w M t x cs):VT t (.val t x) cs
 |bj (e:Ty) (a:Option Addr):VT (.slice e) .bj [.slice a 0 0]
 |own (k:Nat) (l:RM) (e:Ty) (xs:List (I E.T e)) (h:aR st k=some (.arr l e xs)):VT (.slice e) (.own k) [σ k]
 |dA (e:Ty) (v:Value) (h:kV v=true):VT (.slice e) (.dA e) [v]
 |agg (i:Nat) (fs:List (az E.T)) (cs:List Value) (h:iw (E.fields i) fs cs):VT (.named i) (.agg i fs) cs
inductive iw:List Ty→List (az E.T)→List Value→Prop where
 |nil:iw [] [] []
 |cons (t:Ty) (ts:List Ty) (v:az E.T) (r:List (az E.T)) (c1 c2:List Value) (h:VT t v c1) (h':iw ts r c2):iw (t::ts) (v::r) (c1++c2)
end
mutual
inductive aZ:az E.T→Value→Prop where
 |undef (v:Value):aZ .undef v
 |data (t:Ty) (d:az E.T) (cs:List Value) (h:VT E σ st w M t d cs):aZ d (toV t cs)
 |ptr (o:Nat) (p:List Step) (b:Nat) (h:lf (σ o)=some b) (hl:o<st.length):aZ (.ptr o p) (.pointer (some ⟨b,E.cw p,none⟩))
 |cM:aZ .cM (.pointer none)
 |dZ (t:Ty) (x:I E.T t) (a:Addr) (cs:List Value) (h:cx E w M t x cs) (hm:Mem w M (some a) cs):aZ (.dZ t x) (.pointer (some a))
 |jk (vs:List (az E.T)) (us:List Value) (h:aW vs us):aZ (.jk vs) (.tuple us.toArray)
 |fn (f:FuncId) (vs:List (az E.T)) (us:List Value) (h:aW vs us):aZ (.fn f vs) (.func (.func f) #[] us.toArray)
 |ea:aZ .ea .nilFunc
 |fG (t:TypeId) (d:az E.T) (v:Value) (h:aZ d v):aZ (.fG t d) (.iface t v)
 |cr:aZ .cr .nilIface
inductive aW:List (az E.T)→List Value→Prop where
 |nil:aW [] []
 |cons (v:az E.T) (r:List (az E.T)) (u:Value) (us:List Value) (h:aZ v u) (h':aW r us):aW (v::r) (u::us)
end
def gy (e:Ty) (xs:List (I E.T e)) (v:Value):Prop:=
 xs.length≤dK∧(((∃a,v= .slice a 0 0)∧xs=[])∨
  ∃(g cap:Nat) (c:Array Value) (el:TypeId) (fr:Nat×Nat) (cs:List Value),v= .slice (some ⟨g,0,none⟩) xs.length (cap+1)∧xs.length≤cap+1∧w.heap[g]? =some (.cells c el fr)∧(cap+1)*E.size e≤c.size∧
   (∀q,(e= .int .u8→q<(cap+1)*E.size e)→w.frozen? ⟨g,q,none⟩=false)∧bD E w M e xs cs∧(∀(q:Nat) (u:Value),cs[q]? =some u→c[q]? =some u)∧(e= .int .u8→fr.1≤fr.2))
theorem gy.mk' {e:Ty} {xs:List (I E.T e)} {g cap:Nat} {c:Array Value} {el:TypeId} {fr:Nat×Nat} {cs:List Value} (hx:xs.length≤dK) (hc:xs.length≤cap) (hh:w.heap[g]? =some (.cells c el fr)) (hz:cap*E.size e≤c.size)
  (hf: ∀q,(e= .int .u8→q<cap*E.size e)→w.frozen? ⟨g,q,none⟩=false) (hl:bD E w M e xs cs) (hq: ∀(q:Nat) (u:Value),cs[q]? =some u→c[q]? =some u) {n:Nat} (hn:n=xs.length)
  (ho:e= .int .u8→fr.1≤fr.2:=by first|assumption|(intro _;exact Nat.le_refl _)|(intro _;exact Nat.le_succ _)|(intro h;exact absurd h (by assumption))|(intro _;assumption)):gy E w M e xs (.slice (some ⟨g,0,none⟩) n cap):=by
 subst hn
 cases cap with
 |zero=>exact⟨hx,.inl ⟨⟨some ⟨g,0,none⟩,by rw[Nat.le_zero.1 hc]⟩,List.eq_nil_of_length_eq_zero (Nat.le_zero.1 hc)⟩⟩
 |succ cap=>exact⟨hx,.inr ⟨g,cap,c,el,fr,cs,rfl,hc,hh,hz,hf,hl,hq,ho⟩⟩
inductive cW:Value→Obj E.T→Prop where
 |box (ro:Bool) (d:az E.T) (b:Nat) (c:Array Value) (el:TypeId) (fr:Nat×Nat) (hh:w.heap[b]? =some (.cells c el fr))
   (hf: ∀q,w.frozen? ⟨b,q,none⟩=false)
   (hc:(∃t,VT E σ st w M t d c.toList)∨(D0 E d=true∧ ∃v,c.toList=[v]∧kV v=true∧aZ E σ st w M d v)):cW (.pointer (some ⟨b,0,none⟩)) (.box ro d)
 |arr (l:RM) (e:Ty) (xs:List (I E.T e)) (v:Value) (h:gy E w M e xs v):cW v (.arr l e xs)
 |dead (v:Value):cW v .dead
end
def dn {T:Nat→Type}:Obj T→Bool
 | .box ro _=> !ro
 | .arr l _ _=>l.may
 | .dead=>false
def dz {T:Nat→Type}:Obj T→Bool
 | .dead=>true
 |_=>false
def MB {T:Nat→Type} (σ:Sg) (st:St T) (b:Nat):Prop:=σ.m b∨ ∃o ob,aR st o=some ob∧dn ob=true∧lf (σ o)=some b
structure bm (E:Env) (σ:Sg) (st:St E.T) (w:World):Prop where
 obj: ∀o ob,aR st o=some ob→cW E σ st w (MB σ st) (σ o) ob
 apart: ∀o o' ob ob' b,o≠o'→aR st o=some ob→aR st o'=some ob'→dn ob=true→dz ob'=false→lf (σ o)=some b→lf (σ o')=some b→False
 qh: ∀b,σ.m b→b<w.heap.size
 out: ∀o ob b,aR st o=some ob→dz ob=false→lf (σ o)=some b→ ¬σ.m b
end
open Go
section
variable {E:Env} {σ σ':Sg} {st st':St E.T} {w w':World} {M M':Nat→Prop}
structure ib (σ σ':Sg) (st st':St E.T) (k:Nat):Prop where
 at_:σ' k=σ k
 arr: ∀l e xs,aR st k=some (.arr l e xs)→ ∃l' xs',aR st' k=some (.arr l' e xs')
 lt:k<st.length→k<st'.length
theorem ib.refl (k:Nat):ib σ σ st st k:=⟨rfl,fun l e xs h=>⟨l,xs,h⟩,id⟩
mutual
theorem VT.aH (kp:Kept M M' w w'): ∀{t:Ty} {d:az E.T} {cs:List Value},VT E σ st w M t d cs→(∀k∈refs d,ib σ σ' st st' k)→VT E σ' st' w' M' t d cs
 |_,_,_,.val t x cs h,hs=> .val t x cs (cx.aH kp h)
 |_,_,_,.bj e a,hs=> .bj e a
 |_,_,_,.own k l e xs h,hs=>by
  have hk:=hs k (by simp[refs])
  obtain⟨l',xs',h'⟩:=hk.arr l e xs h
  have:=VT.own (σ:=σ') (w:=w') (M:=M') k l' e xs' h'
  rwa [hk.at_]at this
 |_,_,_,.dA e v h,hs=> .dA e v h
 |_,_,_,.agg i fs cs h,hs=> .agg i fs cs (iw.aH kp h (fun k hk=>hs k (by simpa [refs]using hk)))
theorem iw.aH (kp:Kept M M' w w'): ∀{ts:List Ty} {ds:List (az E.T)} {cs:List Value},iw E σ st w M ts ds cs→(∀k∈bg ds,ib σ σ' st st' k)→iw E σ' st' w' M' ts ds cs
 |_,_,_,.nil,hs=> .nil
 |_,_,_,.cons t ts v r c1 c2 h h',hs=> .cons t ts v r c1 c2 (VT.aH kp h (fun k hk=>hs k (by simp[bg,hk]))) (iw.aH kp h' (fun k hk=>hs k (by simp[bg,hk])))
end
mutual
theorem aZ.aH (kp:Kept M M' w w'): ∀{d:az E.T} {v:Value},aZ E σ st w M d v→(∀k∈refs d,ib σ σ' st st' k)→aZ E σ' st' w' M' d v
 |_,_,.undef v,hs=> .undef v
 |_,_,.data t d cs h,hs=> .data t d cs (VT.aH kp h hs)
 |_,_,.ptr o p b h hl,hs=>by
  have hk:=hs o (by simp[refs])
  exact .ptr o p b (by rw[hk.at_];exact h) (hk.lt hl)
 |_,_,.cM,hs=> .cM
 |_,_,.dZ t x a cs h hm,hs=> .dZ t x a cs (cx.aH kp h) (Mem.aH kp hm)
 |_,_,.jk vs us h,hs=> .jk vs us (aW.aH kp h (fun k hk=>hs k (by simpa [refs]using hk)))
 |_,_,.fn f vs us h,hs=> .fn f vs us (aW.aH kp h (fun k hk=>hs k (by simpa [refs]using hk)))
 |_,_,.ea,hs=> .ea
 |_,_,.fG t d v h,hs=> .fG t d v (aZ.aH kp h (fun k hk=>hs k (by simpa [refs]using hk)))
 |_,_,.cr,hs=> .cr
theorem aW.aH (kp:Kept M M' w w'): ∀{ds:List (az E.T)} {us:List Value},aW E σ st w M ds us→(∀k∈bg ds,ib σ σ' st st' k)→aW E σ' st' w' M' ds us
 |_,_,.nil,hs=> .nil
 |_,_,.cons v r u us h h',hs=> .cons v r u us (aZ.aH kp h (fun k hk=>hs k (by simp[bg,hk]))) (aW.aH kp h' (fun k hk=>hs k (by simp[bg,hk])))
end
theorem gy.aH (kp:Kept M M' w w') {e:Ty} {xs:List (I E.T e)} {v:Value} (hb: ∀g,lf v=some g→w'.heap[g]? =w.heap[g]?) (h:gy E w M e xs v):gy E w' M' e xs v:=by
 refine⟨h.1,?_⟩
 rcases h.2 with h|⟨g,cap,c,el,fr,cs,rfl,hc,hh,hz,hf,hl,hq,ho⟩
 ·exact .inl h
 ·have hg:=hb g rfl
  refine .inr ⟨g,cap,c,el,fr,cs,rfl,hc,hg.trans hh,hz,fun q hq=> ?_,bD.aH kp hl,hq,ho⟩
  have:=hf q hq
  unfold World.frozen? at this⊢
  simp only[hg]
  exact this
theorem cW.aH (kp:Kept M M' w w') {v:Value} {ob:Obj E.T} (hb: ∀g,lf v=some g→w'.heap[g]? =w.heap[g]?) (hs: ∀k∈cd E ob,ib σ σ' st st' k) (h:cW E σ st w M v ob):
  cW E σ' st' w' M' v ob:=by
 cases h with
 |box ro d b c el fr hh hf hc=>
  have hg:=hb b rfl
  refine .box ro d b c el fr (hg.trans hh) (fun q=> ?_) ?_
  ·have:=hf q
   unfold World.frozen? at this⊢
   simp only[hg]
   exact this
  ·rcases hc with⟨t,ht⟩|⟨hs1,u,hu,ho,hv⟩
   ·exact .inl ⟨t,VT.aH kp ht hs⟩
   ·exact .inr ⟨hs1,u,hu,ho,aZ.aH kp hv hs⟩
 |arr l e xs v h=>exact .arr l e xs v (gy.aH kp hb h)
 |dead v=>exact .dead v
mutual
theorem VT.len (ok:dk E): ∀{t:Ty} {d:az E.T} {cs:List Value},VT E σ st w M t d cs→cs.length=E.size t
 |_,_,_,.val t x cs h=>cx.len ok h
 |_,_,_,.bj e a=>rfl
 |_,_,_,.own k l e xs h=>rfl
 |_,_,_,.dA e v h=>rfl
 |_,_,_,.agg i fs cs h=>by rw[iw.len ok h,Env.size,ok.zg]
theorem iw.len (ok:dk E): ∀{ts:List Ty} {ds:List (az E.T)} {cs:List Value},iw E σ st w M ts ds cs→cs.length=(ts.map E.size).sum
 |_,_,_,.nil=>rfl
 |_,_,_,.cons t ts v r c1 c2 h h'=>by rw[List.length_append,VT.len ok h,iw.len ok h'];simp
end
theorem Nf (hst:bm E σ st w) {k:Nat} {l:RM} {e:Ty} {xs:List (I E.T e)} (h:aR st k=some (.arr l e xs)):kV (σ k)=true:=by
 have:=hst.obj k _ h
 generalize σ k=u at this
 cases this with
 |arr l e xs v h=>
  rcases h.2 with⟨⟨a,h⟩,_⟩|⟨g,cap,c,el,fr,cs,h,_⟩<;>rw[h]<;>rfl
mutual
theorem VT.one (hst:bm E σ st w): ∀{t:Ty} {d:az E.T} {cs:List Value},VT E σ st w M t d cs→ ∀v∈cs,kV v=true
 |_,_,_,.val t x cs h=>cx.one h
 |_,_,_,.bj e a=>by simp[kV]
 |_,_,_,.own k l e xs h=>by simpa using Nf hst h
 |_,_,_,.dA e v h=>by simpa using h
 |_,_,_,.agg i fs cs h=>iw.one hst h
theorem iw.one (hst:bm E σ st w): ∀{ts:List Ty} {ds:List (az E.T)} {cs:List Value},iw E σ st w M ts ds cs→ ∀v∈cs,kV v=true
 |_,_,_,.nil=>by simp
 |_,_,_,.cons t ts v r c1 c2 h h'=>by
  intro u hu
  rcases List.mem_append.1 hu with hu|hu
  ·exact VT.one hst h u hu
  ·exact iw.one hst h' u hu
end
theorem ek (ks:List Nat) (k:Nat):cX ks k=true↔k∈ks:=by
 unfold cX
 rw[List.any_eq_true]
 constructor
 ·rintro⟨x,hx,h⟩
  rw[Nat.eq_of_beq_eq_true h];exact hx
 ·intro h;exact⟨k,h,Nat.beq_refl k⟩
mutual
theorem qA (ks:List Nat): ∀(d:az E.T) (k:Nat),k∈refs (kill E st ks d)→k∈refs d∧k∉ks
 | .own o,k=>by
  unfold kill
  cases hm:cX ks o with
  |true=>simp only[cond_true];split<;>simp[refs]
  |false=>
   simp only[cond_false,refs]
   intro h
   have hk:k=o:=by simpa using h
   subst hk
   exact⟨by simp,fun hk=>by rw[(ek ks k).2 hk]at hm;cases hm⟩
 | .ptr o p,k=>by
  unfold kill
  cases hm:cX ks o with
  |true=>simp[refs]
  |false=>
   simp only[cond_false,refs]
   intro h
   have hk:k=o:=by simpa using h
   subst hk
   exact⟨by simp,fun hk=>by rw[(ek ks k).2 hk]at hm;cases hm⟩
 | .agg i fs,k=>by unfold kill;simpa [refs]using kn ks fs k
 | .jk fs,k=>by unfold kill;simpa [refs]using kn ks fs k
 | .fn f fs,k=>by unfold kill;simpa [refs]using kn ks fs k
 | .fG t v,k=>by unfold kill;simpa [refs]using qA ks v k
 | .val t x,k=>by unfold kill;simp[refs]
 | .bj,k=>by unfold kill;simp[refs]
 | .cM,k=>by unfold kill;simp[refs]
 | .dZ t x,k=>by unfold kill;simp[refs]
 | .ea,k=>by unfold kill;simp[refs]
 | .cr,k=>by unfold kill;simp[refs]
 | .dA e,k=>by unfold kill;simp[refs]
 | .undef,k=>by unfold kill;simp[refs]
theorem kn (ks:List Nat): ∀(ds:List (az E.T)) (k:Nat),k∈bg (cU E st ks ds)→k∈bg ds∧k∉ks
 |[],k=>by simp[cU,bg]
 |d::r,k=>by
  simp only[cU,bg,List.mem_append]
  rintro(h|h)
  ·obtain⟨h1,h2⟩:=qA ks d k h;exact⟨.inl h1,h2⟩
  ·obtain⟨h1,h2⟩:=kn ks r k h;exact⟨.inr h1,h2⟩
end
mutual
theorem VT.kill (hst:bm E σ st w) (ks:List Nat): ∀{t:Ty} {d:az E.T} {cs:List Value},VT E σ st w M t d cs→VT E σ st w M t (D.kill E st ks d) cs
 |_,_,_,.val t x cs h=>by unfold D.kill;exact .val t x cs h
 |_,_,_,.bj e a=>by unfold D.kill;exact .bj e a
 |_,_,_,.own k l e xs h=>by
  unfold D.kill
  cases cX ks k with
  |true=>simp only[cond_true,h];exact .dA e _ (Nf hst h)
  |false=>simp only[cond_false];exact .own k l e xs h
 |_,_,_,.dA e v h=>by unfold D.kill;exact .dA e v h
 |_,_,_,.agg i fs cs h=>by unfold D.kill;exact .agg i _ cs (iw.kill hst ks h)
theorem iw.kill (hst:bm E σ st w) (ks:List Nat): ∀{ts:List Ty} {ds:List (az E.T)} {cs:List Value},iw E σ st w M ts ds cs→iw E σ st w M ts (D.cU E st ks ds) cs
 |_,_,_,.nil=>by unfold D.cU;exact .nil
 |_,_,_,.cons t ts v r c1 c2 h h'=>by unfold D.cU;exact .cons t ts _ _ c1 c2 (VT.kill hst ks h) (iw.kill hst ks h')
end
mutual
theorem aZ.kill (hst:bm E σ st w) (ks:List Nat): ∀{d:az E.T} {v:Value},aZ E σ st w M d v→aZ E σ st w M (D.kill E st ks d) v
 |_,_,.undef v=>by unfold D.kill;exact .undef v
 |_,_,.data t d cs h=> .data t _ cs (VT.kill hst ks h)
 |_,_,.ptr o p b h hl=>by
  unfold D.kill
  cases cX ks o with
  |true=>exact .undef _
  |false=>exact .ptr o p b h hl
 |_,_,.cM=>by unfold D.kill;exact .cM
 |_,_,.dZ t x a cs h hm=>by unfold D.kill;exact .dZ t x a cs h hm
 |_,_,.jk vs us h=>by unfold D.kill;exact .jk _ us (aW.kill hst ks h)
 |_,_,.fn f vs us h=>by unfold D.kill;exact .fn f _ us (aW.kill hst ks h)
 |_,_,.ea=>by unfold D.kill;exact .ea
 |_,_,.fG t d v h=>by unfold D.kill;exact .fG t _ v (aZ.kill hst ks h)
 |_,_,.cr=>by unfold D.kill;exact .cr
theorem aW.kill (hst:bm E σ st w) (ks:List Nat): ∀{ds:List (az E.T)} {us:List Value},aW E σ st w M ds us→aW E σ st w M (D.cU E st ks ds) us
 |_,_,.nil=>by unfold D.cU;exact .nil
 |_,_,.cons v r u us h h'=>by unfold D.cU;exact .cons _ _ u us (aZ.kill hst ks h) (aW.kill hst ks h')
end
end
open Go
noncomputable section
def qa (c:Array Value) (o:Nat):List Value→Array Value
 |[]=>c
 |v::r=>qa (c.setIfInBounds o v) (o+1) r
theorem gD (vs:List Value): ∀(c:Array Value) (o:Nat),(qa c o vs).size=c.size:=by
 induction vs with
 |nil=>intro c o;rfl
 |cons v r ih=>intro c o;simp[qa,ih]
theorem qk (vs:List Value): ∀(c:Array Value) (o q:Nat),o+vs.length≤c.size→(qa c o vs)[q]? =if o≤q∧q<o+vs.length then vs[q-o]? else c[q]? :=by
 induction vs with
 |nil=>intro c o q h;rw[if_neg (by simp)];rfl
 |cons v r ih=>
  intro c o q h
  simp only[qa]
  rw[ih _ _ _ (by simp at h⊢;omega)]
  simp only[List.length_cons]at h⊢
  by_cases h1:o+1≤q∧q<o+1+r.length
  ·rw[if_pos h1,if_pos (by omega)]
   have:q-o=(q-(o+1))+1:=by omega
   rw[this];rfl
  ·rw[if_neg h1]
   by_cases h2:q=o
   ·subst h2
    rw[if_pos (by omega),Array.getElem?_setIfInBounds]
    simp;omega
   ·rw[if_neg (by omega),Array.getElem?_setIfInBounds,if_neg (by omega)]
def iI (w:World) (b:Nat) (o:Go.Obj):World:={w with heap:=w.heap.setIfInBounds b o}
theorem kT {w:World} {b:Nat} {o:Go.Obj} (h:b<w.heap.size):(iI w b o).heap[b]? =some o:=by
 simp[iI,h]
theorem ns {w:World} {b b':Nat} {o:Go.Obj} (h:b≠b'):(iI w b o).heap[b']? =w.heap[b']? :=by
 simp[iI,h]
theorem iH {w:World} {b:Nat} {o:Go.Obj}:(iI w b o).heap.size=w.heap.size:=by simp[iI]
theorem Ha {w:World} {b:Nat} {o:Go.Obj} (h:w.heap[b]? =some o):iI w b o=w:=by
 have:w.heap.setIfInBounds b o=w.heap:=by
  apply Array.ext_getElem?
  intro i
  rw[Array.getElem?_setIfInBounds]
  split
  ·rename_i hi;subst hi
   obtain⟨hb,h'⟩:=Array.getElem?_eq_some_iff.1 h
   simp[hb,h']
  ·rfl
 unfold iI
 rw[this]
theorem dP (b off i:Nat):(⟨b,off,none⟩:Addr).add i=⟨b,off+i,none⟩:=by
 unfold Addr.add
 split
 ·rename_i h;subst h;rfl
 ·rfl
theorem OA (P:Program) (w:World) (b q:Nat) (v:Value) (c:Array Value) (el:TypeId) (fr:Nat×Nat) (hv:kV v=true) (hh:w.heap[b]? =some (.cells c el fr)) (hq:q<c.size)
  (hf:w.frozen? ⟨b,q,none⟩=false):(store ⟨b,q,none⟩ v).run P w= .ok () (iI w b (.cells (c.setIfInBounds q v) el fr)):=by
 have hc:w.cell? ⟨b,q,none⟩=some c[q]:=by simp[World.cell?,hh,hq]
 have hw:w.setCell ⟨b,q,none⟩ v=iI w b (.cells (c.setIfInBounds q v) el fr):=by
  obtain⟨hb,hh'⟩:=Array.getElem?_eq_some_iff.1 hh
  unfold World.setCell iI
  congr 1
  apply Array.ext_getElem?
  intro i
  rw[Array.getElem?_setIfInBounds,Array.getElem?_modify]
  by_cases hi:b=i
  ·subst hi;simp[hh',hb]
  ·simp[hi]
 cases v<;>first|(simp[kV]at hv;done)|simp[store,Sem.run,hc,hf,hw]
theorem nk (P:Program) (b off:Nat) (el:TypeId) (fr:Nat×Nat): ∀(vs:List Value) (i:Nat) (w:World) (c:Array Value),w.heap[b]? =some (.cells c el fr)→off+i+vs.length≤c.size→
  (∀v∈vs,kV v=true)→(∀q,off+i≤q→q<off+i+vs.length→w.frozen? ⟨b,q,none⟩=false)→
  (storeCells ⟨b,off,none⟩ vs i).run P w= .ok () (iI w b (.cells (qa c (off+i) vs) el fr)):=by
 intro vs
 induction vs with
 |nil=>
  intro i w c hh _ _ _
  simp[storeCells,qa,Ha hh]
 |cons v r ih=>
  intro i w c hh hl h1 hf
  simp only[List.length_cons]at hl hf
  have hst:=OA P w b (off+i) v c el fr (h1 v (by simp)) hh (by omega) (hf _ (Nat.le_refl _) (by omega))
  have hb:=(Array.getElem?_eq_some_iff.1 hh).1
  simp only[storeCells,dP,Sem.run_bind,hst,Result.andThen_ok]
  have hp:=ih (i+1) (iI w b (.cells (c.setIfInBounds (off+i) v) el fr)) (c.setIfInBounds (off+i) v) (kT hb) (by simp;omega) (fun v hv=>h1 v (by simp[hv])) (by
   intro q h2 h3
   have:=hf q (by omega) (by omega)
   unfold World.frozen? at this⊢
   rw[kT hb]
   rw[hh]at this
   exact this)
  rw[hp]
  simp[qa,iI,Nat.add_assoc]
def mb {T:Nat→Type}:Obj T→Bool
 | .arr l _ _=>l.TY
 |_=>false
inductive qy {T:Nat→Type}:Obj T→Obj T→Prop where
 |box (ro ro':Bool) (c c':az T):qy (.box ro c) (.box ro' c')
 |arr (l l':RM) (e:Ty) (xs xs':List (I T e)):qy (.arr l e xs) (.arr l' e xs')
 |dead:qy .dead .dead
theorem qy.refl {T:Nat→Type} (o:Obj T):qy o o:=by
 cases o with
 |box ro c=>exact .box ro ro c c
 |arr l e xs=>exact .arr l l e xs xs
 |dead=>exact .dead
theorem qy.trans {T:Nat→Type} {a b c:Obj T} (h:qy a b) (k:qy b c):qy a c:=by
 cases h<;>cases k<;>constructor
structure yv {T:Nat→Type} (σ σ':Sg) (st st':St T):Prop where
 same: ∀o ob,aR st o=some ob→mb ob=false→σ' o=σ o
 kind: ∀o ob,aR st o=some ob→ ∃ob',aR st' o=some ob'∧qy ob ob'∧(mb ob=false→mb ob'=false)
theorem yv.refl {T:Nat→Type} (σ:Sg) (st:St T):yv σ σ st st:=⟨fun _ _ _ _=>rfl,fun o ob h=>⟨ob,h,qy.refl ob,id⟩⟩
theorem yv.trans {T:Nat→Type} {σ σ' σ'':Sg} {st st' st'':St T} (h:yv σ σ' st st') (k:yv σ' σ'' st' st''):yv σ σ'' st st'':=by
 refine⟨fun o ob ho hl=> ?_,fun o ob ho=> ?_⟩
 ·obtain⟨ob',h',_,hl'⟩:=h.kind o ob ho
  rw[k.same o ob' h' (hl' hl),h.same o ob ho hl]
 ·obtain⟨ob',h',t',hl'⟩:=h.kind o ob ho
  obtain⟨ob'',h'',t'',hl''⟩:=k.kind o ob' h'
  exact⟨ob'',h'',t'.trans t'',fun hl=>hl'' (hl' hl)⟩
theorem yv.len {T:Nat→Type} {σ σ':Sg} {st st':St T} (h:yv σ σ' st st'):st.length≤st'.length:=by
 rcases Nat.eq_zero_or_pos st.length with h0|h0
 ·omega
 ·have:aR st (st.length-1)=some (st[st.length-1]'(by omega)):=by rw[cT];exact List.getElem?_eq_getElem _
  obtain⟨ob',h',_⟩:=h.kind _ _ this
  have:=bM h'
  omega
structure Pv (σ σ':Sg) (w w':World):Prop where
 m:σ'.m=σ.m
 gm: ∀b,σ.m b→w'.heap[b]? =w.heap[b]?
theorem Pv.refl (σ:Sg) (w:World):Pv σ σ w w:=⟨rfl,fun _ _=>rfl⟩
theorem Pv.trans {σ σ' σ'':Sg} {w w' w'':World} (h:Pv σ σ' w w') (k:Pv σ' σ'' w' w''):Pv σ σ'' w w'':=
 ⟨k.m.trans h.m,fun b hb=>(k.gm b (by rw[h.m];exact hb)).trans (h.gm b hb)⟩
structure Mv {E:Env} (σ σ':Sg) (st st':St E.T) (w w':World):Prop where
 rep:bm E σ' st' w'
 aH:wC (MB σ st) (MB σ' st') w w'
 stay:yv σ σ' st st'
 qh:Pv σ σ' w w'
 name: ∀k,k<st.length→σ' k=σ k
section
variable {E:Env} {σ σ' σ'':Sg} {st st' st'':St E.T} {w w' w'':World}
theorem Mv.refl (h:bm E σ st w):Mv σ σ st st w w:=⟨h,wC.refl _ _,yv.refl _ _,Pv.refl _ _,fun _ _=>rfl⟩
theorem Mv.trans (h:Mv (E:=E) σ σ' st st' w w') (k:Mv σ' σ'' st' st'' w' w''):Mv σ σ'' st st'' w w'':=
 ⟨k.rep,h.aH.trans k.aH,h.stay.trans k.stay,h.qh.trans k.qh,fun o ho=>(k.name o (Nat.lt_of_lt_of_le ho h.stay.len)).trans (h.name o ho)⟩
theorem Mv.same (h:Mv (E:=E) σ σ' st st' w w') (k:Nat) (hk:k<st.length):ib σ σ' st st' k:=by
 refine⟨h.name k hk,fun l e xs hh=> ?_,fun _=>Nat.lt_of_lt_of_le hk h.stay.len⟩
 obtain⟨ob',h',t',_⟩:=h.stay.kind k _ hh
 cases t' with
 |arr l l' e xs xs'=>exact⟨l',xs',h'⟩
mutual
theorem VT.refs: ∀{t:Ty} {d:az E.T} {cs:List Value} {M:Nat→Prop},VT E σ st w M t d cs→ ∀k∈D.refs d,k<st.length
 |_,_,_,_,.val t x cs h=>by simp[D.refs]
 |_,_,_,_,.bj e a=>by simp[D.refs]
 |_,_,_,_,.own k l e xs h=>by simpa [D.refs]using bM h
 |_,_,_,_,.dA e v h=>by simp[D.refs]
 |_,_,_,_,.agg i fs cs h=>by simpa [D.refs]using iw.refs h
theorem iw.refs: ∀{ts:List Ty} {ds:List (az E.T)} {cs:List Value} {M:Nat→Prop},iw E σ st w M ts ds cs→ ∀k∈bg ds,k<st.length
 |_,_,_,_,.nil=>by simp[bg]
 |_,_,_,_,.cons t ts v r c1 c2 h h'=>by
  intro k hk
  simp only[bg,List.mem_append]at hk
  rcases hk with hk|hk
  ·exact VT.refs h k hk
  ·exact iw.refs h' k hk
end
mutual
theorem aZ.refs: ∀{d:az E.T} {v:Value} {M:Nat→Prop},aZ E σ st w M d v→ ∀k∈D.refs d,k<st.length
 |_,_,_,.undef v=>by simp[D.refs]
 |_,_,_,.data t d cs h=>VT.refs h
 |_,_,_,.ptr o p b h hl=>by simpa [D.refs]using hl
 |_,_,_,.cM=>by simp[D.refs]
 |_,_,_,.dZ t x a cs h hm=>by simp[D.refs]
 |_,_,_,.jk vs us h=>by simpa [D.refs]using aW.refs h
 |_,_,_,.fn f vs us h=>by simpa [D.refs]using aW.refs h
 |_,_,_,.ea=>by simp[D.refs]
 |_,_,_,.fG t d v h=>by simpa [D.refs]using aZ.refs h
 |_,_,_,.cr=>by simp[D.refs]
theorem aW.refs: ∀{ds:List (az E.T)} {us:List Value} {M:Nat→Prop},aW E σ st w M ds us→ ∀k∈bg ds,k<st.length
 |_,_,_,.nil=>by simp[bg]
 |_,_,_,.cons v r u us h h'=>by
  intro k hk
  simp only[bg,List.mem_append]at hk
  rcases hk with hk|hk
  ·exact aZ.refs h k hk
  ·exact aW.refs h' k hk
end
theorem Mv.Yi (h:Mv (E:=E) σ σ' st st' w w') {d:az E.T} {v:Value} (hv:aZ E σ st w (MB σ st) d v):aZ E σ' st' w' (MB σ' st') d v:=
 aZ.aH h.aH.kept hv fun k hk=>h.same k (aZ.refs hv k hk)
theorem Mv.Jy (h:Mv (E:=E) σ σ' st st' w w') {ds:List (az E.T)} {us:List Value} (hv:aW E σ st w (MB σ st) ds us):aW E σ' st' w' (MB σ' st') ds us:=
 aW.aH h.aH.kept hv fun k hk=>h.same k (aW.refs hv k hk)
theorem zV (hst:bm E σ st w) {o:Nat} {ob:Obj E.T} (h:aR st o=some ob): ∀k∈cd E ob,k<st.length:=by
 intro k hk
 have:=hst.obj o ob h
 generalize σ o=u at this
 cases this with
 |box ro d b c el fr hh hf hc=>
  simp only[cd]at hk
  rcases hc with⟨t,ht⟩|⟨_,v,_,_,hv⟩
  ·exact VT.refs ht k hk
  ·exact aZ.refs hv k hk
 |arr l e xs v h=>simp[cd]at hk
 |dead v=>simp[cd]at hk
theorem Mv.mk' (hst:bm E σ st w) (hk:wC (MB σ st) (MB σ' st') w w') (hs:yv σ σ' st st') (hamb:Pv σ σ' w w') (hn: ∀k,k<st.length→σ' k=σ k)
  (hout: ∀o ob b,aR st' o=some ob→dz ob=false→lf (σ' o)=some b→ ¬σ.m b)
  (hob: ∀o ob',aR st' o=some ob'→(aR st o=some ob'∧ ∀g,lf (σ o)=some g→dz ob'=false→w'.heap[g]? =w.heap[g]?)∨cW E σ' st' w' (MB σ' st') (σ' o) ob')
  (hap: ∀o o' ob ob' b,o≠o'→aR st' o=some ob→aR st' o'=some ob'→dn ob=true→dz ob'=false→lf (σ' o)=some b→lf (σ' o')=some b→False):
  Mv σ σ' st st' w w':=by
 have hsame: ∀k,k<st.length→ib σ σ' st st' k:=by
  intro k hk
  refine⟨hn k hk,fun l e xs hh=> ?_,fun _=>Nat.lt_of_lt_of_le hk hs.len⟩
  obtain⟨ob',h',t',_⟩:=hs.kind k _ hh
  cases t' with
  |arr l l' e xs xs'=>exact⟨l',xs',h'⟩
 refine⟨⟨fun o ob' ho=> ?_,hap,fun b hb=>Nat.lt_of_lt_of_le (hst.qh b (by rw[←hamb.m];exact hb)) hk.size,fun o ob b ho hd hb=>by rw[hamb.m];exact hout o ob b ho hd hb⟩,hk,hs,hamb,hn⟩
 rcases hob o ob' ho with⟨ho',hb⟩|h
 ·have hlt:=bM ho'
  rw[hn o hlt]
  cases hd:dz ob' with
  |true=>
   cases ob' with
   |dead=>exact .dead _
   |box ro c=>cases hd
   |arr l e xs=>cases hd
  |false=>exact cW.aH hk.kept (fun g hg=>hb g hg hd) (fun k hk=>hsame k (zV hst ho' k hk)) (hst.obj o ob' ho')
 ·exact h
theorem lO (hst:bm E σ st w) {o:Nat} {ob:Obj E.T} (h:aR st o=some ob) (hd:dz ob=false) {b:Nat} (hb:lf (σ o)=some b):b<w.heap.size:=by
 have:=hst.obj o ob h
 generalize σ o=u at this hb
 cases this with
 |box ro d b' c el fr hh hf hc=>
  simp only[lf,Option.some.injEq]at hb
  subst hb
  exact(Array.getElem?_eq_some_iff.1 hh).1
 |arr l e xs _ hr=>
  rcases hr.2 with⟨⟨a,rfl⟩,_⟩|⟨g,cap,c,el,fr,cs,rfl,hc,hh,_⟩
  ·rw[Ey]at hb;cases hb
  ·simp only[lf,Option.some.injEq]at hb
   subst hb
   exact(Array.getElem?_eq_some_iff.1 hh).1
 |dead v=>cases hd
theorem Mv.grow (hst:bm E σ st w) (o:Go.Obj):Mv σ σ st st w {w with heap:=w.heap.push o}:=by
 have hb: ∀b,b<w.heap.size→(w.heap.push o)[b]? =w.heap[b]? :=fun b hb=>by simp[Array.getElem?_push,Nat.ne_of_lt hb]
 refine Mv.mk' hst ⟨rfl,rfl,rfl,by simp,fun b hlt _=>hb b hlt,fun _ _ h=>h⟩ (yv.refl _ _) ⟨rfl,fun b h=>hb b (hst.qh b h)⟩ (fun _ _=>rfl) hst.out (fun p ob' ho=> .inl ⟨ho,fun g hg hd=>hb g (lO hst ho hd hg)⟩) hst.apart
theorem Mv.drawn (hst:bm E σ st w) (n:Nat):Mv σ σ st st w {w with drawn:=n}:=by
 refine Mv.mk' hst ⟨rfl,rfl,rfl,Nat.le_refl _,fun b hlt _=>rfl,fun _ _ h=>h⟩ (yv.refl _ _) ⟨rfl,fun _ _=>rfl⟩ (fun _ _=>rfl) hst.out (fun p ob' ho=> .inl ⟨ho,fun g hg hd=>rfl⟩) hst.apart
def dL (σ:Sg) (n:Nat) (v:Value):Sg:={σ with f:=fun k=>if k=n then v else σ k}
theorem dC {n k:Nat} {v:Value} (h:k≠n):dL σ n v k=σ k:=if_neg h
theorem dD {n:Nat} {v:Value}:dL σ n v n=v:=if_pos rfl
theorem EA {ob:Obj E.T} {v:Value} {b:Nat} (h:MB (dL σ st.length v) (st++[ob]) b):MB σ st b∨lf v=some b:=by
 rcases h with h|⟨o,ob',ho,hm,hb⟩
 ·exact .inl (.inl h)
 rw[ej]at ho
 by_cases h':o=st.length
 ·subst h';rw[dD]at hb;exact .inr hb
 ·rw[dC h']at hb;rw[if_neg h']at ho;exact .inl (.inr ⟨o,ob',ho,hm,hb⟩)
theorem Mv.new (hst:bm E σ st w) (v:Value) (ob:Obj E.T) (w':World) (h1:w'.os=w.os) (h2:w'.tape=w.tape) (h3:w'.output=w.output) (h4:w.heap.size≤w'.heap.size) (h5: ∀b,b<w.heap.size→w'.heap[b]? =w.heap[b]?)
  (hv: ∀b,lf v=some b→w.heap.size≤b) (hob:cW E (dL σ st.length v) (st++[ob]) w' (MB (dL σ st.length v) (st++[ob])) v ob):
  Mv σ (dL σ st.length v) st (st++[ob]) w w':=by
 refine Mv.mk' hst ⟨h1,h2,h3,h4,fun b hlt _=>h5 b hlt,fun b hlt h=> ?_⟩ ⟨fun p q hp _=> ?_,fun p q hp=>⟨q,?_,qy.refl q,id⟩⟩ ⟨rfl,fun b h=>h5 b (hst.qh b h)⟩ (fun k hk=>dC (Nat.ne_of_lt hk)) (fun p q b hp hd hb=> ?_) (fun p ob' ho=> ?_) ?_
 ·rcases EA h with h|h
  ·exact h
  ·have:=hv b h;omega
 ·exact dC (Nat.ne_of_lt (bM hp))
 ·rw[ej,if_neg (Nat.ne_of_lt (bM hp))];exact hp
 ·rw[ej]at hp
  by_cases h':p=st.length
  ·subst h'
   rw[dD]at hb
   intro h
   have e1:=hv b hb
   have e2:=hst.qh b h
   omega
  ·rw[if_neg h']at hp
   rw[dC h']at hb
   exact hst.out p q b hp hd hb
 ·rw[ej]at ho
  by_cases h':p=st.length
  ·subst h'
   rw[if_pos rfl]at ho
   cases ho
   right
   rw[dD];exact hob
  ·rw[if_neg h']at ho
   exact .inl ⟨ho,fun g hg hd=>h5 g (lO hst ho hd hg)⟩
 ·intro p q ob1 ob2 b hne hp hq hm hd hb1 hb2
  rw[ej]at hp hq
  by_cases h1:p=st.length
  ·subst h1
   rw[dD]at hb1
   have h2:q≠st.length:=fun h=>hne h.symm
   rw[dC h2]at hb2
   rw[if_neg h2]at hq
   have e1:=hv b hb1
   have e2:=lO hst hq hd hb2
   omega
  ·rw[dC h1]at hb1
   rw[if_neg h1]at hp
   by_cases h2:q=st.length
   ·subst h2
    rw[dD]at hb2
    have e1:=hv b hb2
    have e2:=lO hst hp (by cases ob1<;>first|rfl|cases hm) hb1
    omega
   ·rw[dC h2]at hb2
    rw[if_neg h2]at hq
    exact hst.apart p q ob1 ob2 b hne hp hq hm hd hb1 hb2
theorem Mv.push (hst:bm E σ st w) (o:Go.Obj) (v:Value) (ob:Obj E.T) (hv: ∀b,lf v=some b→b=w.heap.size)
  (hob:cW E (dL σ st.length v) (st++[ob]) {w with heap:=w.heap.push o} (MB (dL σ st.length v) (st++[ob])) v ob):
  Mv σ (dL σ st.length v) st (st++[ob]) w {w with heap:=w.heap.push o}:=
 Mv.new hst v ob _ rfl rfl rfl (by simp) (fun b hb=>by simp[Array.getElem?_push,Nat.ne_of_lt hb]) (fun b hb=>Nat.le_of_eq (hv b hb).symm) hob
theorem Mv.JS (hst:bm E σ st w) (v:Value) (ob:Obj E.T) (hv:lf v=none) (hob: ∀σ' st' w' M',cW E σ' st' w' M' v ob):Mv σ (dL σ st.length v) st (st++[ob]) w w:=
 Mv.new hst v ob _ rfl rfl rfl (Nat.le_refl _) (fun _ _=>rfl) (fun b hb=>by rw[hv]at hb;cases hb) (hob _ _ _ _)
theorem tt {o:Nat} {ob ob':Obj E.T} {b:Nat} (ho:aR st o=some ob) (hm:dn ob'=true→dn ob=true) (h:MB σ (df st o ob') b):MB σ st b:=by
 rcases h with h|⟨p,q,hp,hq,hb⟩
 ·exact .inl h
 right
 rw[bE]at hp
 by_cases h':o=p∧p<st.length
 ·rw[if_pos h']at hp
  cases hp
  exact⟨o,ob,ho,hm hq,by rw[h'.1];exact hb⟩
 ·rw[if_neg h']at hp;exact⟨p,q,hp,hq,hb⟩
theorem Mv.df (hst:bm E σ st w) {o:Nat} {ob ob':Obj E.T} (ho:aR st o=some ob) (ht:qy ob ob') (hm:dn ob'=true→dn ob=true) (hl:mb ob=false→mb ob'=false)
  (w':World) (h1:w'.os=w.os) (h2:w'.tape=w.tape) (h3:w'.output=w.output) (h4:w'.heap.size=w.heap.size)
  (h5: ∀b,(dn ob=true→lf (σ o)≠some b)→w'.heap[b]? =w.heap[b]?)
  (hob:cW E σ (D.df st o ob') w' (MB σ (D.df st o ob')) (σ o) ob'):Mv σ σ st (D.df st o ob') w w':=by
 have hlt:=bM ho
 have hdd:dz ob'=dz ob:=by cases ht<;>rfl
 refine Mv.mk' hst ⟨h1,h2,h3,by omega,fun b hb hM=>h5 b (fun hmu hbb=>hM (.inr ⟨o,ob,ho,hmu,hbb⟩)),fun b _ h=>tt ho hm h⟩ ⟨fun _ _ _ _=>rfl,fun p q hp=> ?_⟩ ⟨rfl,fun b hb=>h5 b (fun hmu hbb=>hst.out o ob b ho (by cases ob<;>first|rfl|cases hmu) hbb hb)⟩ (fun _ _=>rfl) (fun p q b hp hd hb=> ?_) (fun p q hp=> ?_) ?_
 ·by_cases h:o=p
  ·subst h
   rw[ho]at hp;cases hp
   exact⟨ob',by rw[bE,if_pos ⟨rfl,hlt⟩],ht,hl⟩
  ·exact⟨q,by rw[bE,if_neg (fun h'=>h h'.1)];exact hp,qy.refl q,id⟩
 ·rw[bE]at hp
  by_cases h:o=p
  ·subst h
   rw[if_pos ⟨rfl,hlt⟩]at hp;cases hp
   exact hst.out o ob b ho (by rw[←hdd];exact hd) hb
  ·rw[if_neg (fun h'=>h h'.1)]at hp
   exact hst.out p q b hp hd hb
 ·rw[bE]at hp
  by_cases h:o=p
  ·subst h
   rw[if_pos ⟨rfl,hlt⟩]at hp;cases hp
   exact .inr hob
  ·rw[if_neg (fun h'=>h h'.1)]at hp
   exact .inl ⟨hp,fun g hg hd=>h5 g (fun hmu hbb=>hst.apart o p ob q g h ho hp hmu hd hbb hg)⟩
 ·intro p q ob1 ob2 b hne hp hq hmu hd hb1 hb2
  rw[bE]at hp hq
  by_cases h:o=p
  ·subst h
   rw[if_pos ⟨rfl,hlt⟩]at hp;cases hp
   rw[if_neg (fun h'=>hne h'.1)]at hq
   exact hst.apart o q ob ob2 b hne ho hq (hm hmu) hd hb1 hb2
  ·rw[if_neg (fun h'=>h h'.1)]at hp
   by_cases h':o=q
   ·subst h'
    rw[if_pos ⟨rfl,hlt⟩]at hq;cases hq
    exact hst.apart p o ob1 ob b hne hp ho hmu (by rw[←hdd];exact hd) hb1 hb2
   ·rw[if_neg (fun h''=>h' h''.1)]at hq
    exact hst.apart p q ob1 ob2 b hne hp hq hmu hd hb1 hb2
end
end
open Go
noncomputable section
def dV (E:Env):Nat→Ty→List Value
 |0,_=>[]
 |d+1,t=>
  match t with
  | .bool=>[.bool false]
  | .int k=>[.int k 0]
  | .str=>[.string ⟨#[]⟩]
  | .slice _=>[.slice none 0 0]
  | .arr n e=>(List.replicate n (dV E d e)).flatten
  | .named i=>(E.fields i).flatMap (dV E d)
def Vy (P:Program) (E:Env) (t:TypeId):Ty→Prop
 | .bool=>P.underlying t=some .bool
 | .int k=>P.underlying t=some (.int k)
 | .str=>P.underlying t=some .string
 | .slice e=> ∃te,P.underlying t=some (.slice te)∧E.tk te= .data e
 | .arr n e=> ∃te,P.underlying t=some (.array n te)∧E.tk te= .data e
 | .named i=> ∃fs,P.underlying t=some (.struct fs)∧fs.size=(E.fields i).length∧
   ∀(j:Nat) (f:Field),fs[j]? =some f→ ∃ty,aR (E.fields i) j=some ty∧E.tk f.type= .data ty∧f.offset=E.qu i j∧E.size ty≠0∧f.name≠ "_"
def Lv (E:Env):Nat→Ty→Bool
 |0,_=>false
 |d+1,t=>
  match t with
  | .arr _ e=>Lv E d e
  | .named i=>(E.fields i).all (Lv E d)
  |_=>true
structure TyM (P:Program) (E:Env) (t:TypeId) (ty:Ty):Prop where
 info: ∃i,P.info? t=some i∧i.size=E.size ty∧i.bytes≤8192∧i.zero=some (toV ty (dV E depth ty))
 desc:Vy P E t ty
 deep:Lv E depth ty=true
structure Sound (P:Program) (E:Env):Prop extends dk E where
 er: ∀i x y,E.er i x y=Mx E (E.fields i) (E.out i x) (E.out i y)
 cmp: ∀t,E.cmp t=true→P.eqGuardType P.depth t=false∧P.stoodInHeld t=false∧(∀fs,P.underlying t=some (.struct fs)→ ∀f∈fs.toList,E.cmp f.type=true)∧ ∀n e,P.underlying t=some (.array n e)→E.cmp e=true
 data: ∀t ty,E.tk t= .data ty→TyM P E t ty
 ptr: ∀t,E.tk t= .ptr→(∃e,P.underlying t=some (.pointer e))∧ ∃i,P.info? t=some i∧i.size=1∧i.zero=some (.pointer none)
 func: ∀t,E.tk t= .func→(∃a b c,P.underlying t=some (.func a b c))∧ ∃i,P.info? t=some i∧i.size=1∧i.zero=some .nilFunc
 iface: ∀t,E.tk t= .iface→(∃m,P.underlying t=some (.interface m))∧ ∃i,P.info? t=some i∧i.size=1∧i.zero=some .nilIface
section
variable {P:Program} {E:Env} {w:World}
theorem w9 {t:TypeId} {i:TypeInfo} (h:P.info? t=some i) (w:World):(typeInfo t).run P w= .ok i w:=by simp[typeInfo,h]
theorem q8 {t:TypeId} {i:TypeInfo} (h:P.info? t=some i) (w:World):(sizeOf t).run P w= .ok i.size w:=by simp[sizeOf,w9 h]
theorem bq {t:TypeId} {d:TypeDesc} (h:P.underlying t=some d) (w:World):(underlying t).run P w= .ok d w:=by simp[underlying,h]
theorem G6 (S:Sound P E) {t:TypeId} {ty:Ty} (h:E.tk t= .data ty) (w:World):(isAgg t).run P w= .ok (dU ty) w:=by
 have hd:=(S.data t ty h).desc
 unfold isAgg
 cases ty with
 |bool=>simp[bq hd,dU]
 |int k=>simp[bq hd,dU]
 |str=>simp[bq hd,dU]
 |slice e=>obtain⟨te,hu,_⟩:=hd;simp[bq hu,dU]
 |arr n e=>obtain⟨te,hu,_⟩:=hd;simp[bq hu,dU]
 |named i=>obtain⟨fs,hu,_⟩:=hd;simp[bq hu,dU]
theorem Cq (S:Sound P E) {t:TypeId} (h:E.tk t= .ptr∨E.tk t= .func∨E.tk t= .iface) (w:World):(isAgg t).run P w= .ok false w:=by
 unfold isAgg
 rcases h with h|h|h
 ·obtain⟨⟨e,hu⟩,_⟩:=S.ptr t h;simp[bq hu]
 ·obtain⟨⟨a,b,c,hu⟩,_⟩:=S.func t h;simp[bq hu]
 ·obtain⟨⟨e,hu⟩,_⟩:=S.iface t h;simp[bq hu]
theorem tK (S:Sound P E) {t:TypeId} {ty:Ty} (h:E.tk t= .data ty) (b off:Nat) (cs:List Value) (hl:cs.length=E.size ty)
  (hc: ∀q v,cs[q]? =some v→w.cell? ⟨b,off+q,none⟩=some v) (h1:dU ty=false→E.size ty=1):
  (loadVar t ⟨b,off,none⟩).run P w= .ok (toV ty cs) w:=by
 obtain⟨i,hi,hs,_⟩:=(S.data t ty h).info
 unfold loadVar
 simp only[Sem.run_bind,G6 S h,Result.andThen_ok]
 cases ha:dU ty with
 |true=>
  have:=run_loadCells_list (P:=P) (w:=w) ⟨b,off,none⟩ cs (fun j v hv=>by rw[dP];exact hc j v hv)
  simp[q8 hi,hs,←hl,this,toV,ha]
 |false=>
  have hs1:=h1 ha
  obtain⟨v,rfl⟩: ∃v,cs=[v]:=List.length_eq_one_iff.1 (by omega)
  have:=hc 0 v rfl
  rw[Nat.add_zero]at this
  simp[run_load,this,toV,ha]
theorem nh {ty:Ty} (h:dU ty=false):E.size ty=1:=by
 cases ty<;>first|rfl|cases h
variable {σ:Sg} {st:St E.T} {M:Nat→Prop}
theorem Q5 {d:az E.T} {v:Value} (hd: ∃t,qg E st t d=true) (h:aZ E σ st w M d v): ∃t cs,VT E σ st w M t d cs∧v=toV t cs:=by
 obtain⟨t,ht⟩:=hd
 cases h with
 |data t d cs h=>exact⟨t,cs,h,rfl⟩
 |undef v=>cases ht
 |ptr o p b h hl=>cases ht
 |cM=>cases ht
 |dZ t x a cs h hm=>cases ht
 |jk vs us h=>cases ht
 |fn f vs us h=>cases ht
 |ea=>cases ht
 |fG t d v h=>cases ht
 |cr=>cases ht
theorem dN {a b:Ty} (h:jj a b=true):a=b:=by
 unfold jj at h
 split at h
 ·rename_i p _;exact p.down
 ·cases h
theorem rE {t ty:Ty} {d:az E.T} {cs:List Value} (h:VT E σ st w M t d cs) (hf:qg E st ty d=true):VT E σ st w M ty d cs:=by
 cases h with
 |val t x cs h=>
  have:=dN hf
  subst this;exact .val t x cs h
 |bj e a=>
  cases ty with
  |slice e'=>exact .bj e' a
  |_=>cases hf
 |own k l e xs h=>
  simp only[qg,h]at hf
  have:=dN hf
  subst this;exact .own k l e xs h
 |dA e v h=>cases hf
 |agg i fs cs h=>
  cases ty with
  |named j=>
   have:i=j:=Nat.eq_of_beq_eq_true hf
   subst this;exact .agg i fs cs h
  |_=>cases hf
theorem R5 {t ty:Ty} {d:az E.T} {cs:List Value} (h:VT E σ st w M t d cs) (hf:OC E st ty d=true):VT E σ st w M ty d cs:=by
 cases h with
 |dA e v h=>
  have:=dN hf
  cases ty with
  |slice e'=>cases this;exact .dA e v h
  |_=>cases this
 |val t x cs h=>exact rE (.val t x cs h) hf
 |bj e a=>exact rE (.bj e a) hf
 |own k l e xs h=>exact rE (.own k l e xs h) hf
 |agg i fs cs h=>exact rE (.agg i fs cs h) hf
theorem CT {t:TypeId} {ty:Ty} (ht:E.tk t= .data ty) {d:az E.T} {v:Value} (hf:fits E st t d=true) (h:aZ E σ st w M d v): ∃cs,VT E σ st w M ty d cs∧v=toV ty cs:=by
 have hf':qg E st ty d=true:=by unfold fits at hf;rw[ht]at hf;exact hf
 obtain⟨t',cs,hv,rfl⟩:=Q5 ⟨ty,hf'⟩ h
 have h2:=rE hv hf'
 refine⟨cs,h2,?_⟩
 cases hv with
 |val t x cs h=>
  have:=dN hf'
  subst this;rfl
 |bj e a=>
  cases ty with
  |slice e'=>rfl
  |_=>cases hf'
 |own k l e xs hk=>
  simp only[qg,hk]at hf'
  have:=dN hf'
  subst this;rfl
 |dA e v h=>cases hf'
 |agg i fs cs h=>
  cases ty with
  |named j=>
   have:i=j:=Nat.eq_of_beq_eq_true hf'
   subst this;rfl
  |_=>cases hf'
theorem iw.ofF: ∀{ts:List Ty} {r:HL E.T ts} {cs:List Value},l7 E w M ts r cs→iw E σ st w M ts (Pt E ts r) cs
 |_,_,_,.nil=> .nil
 |_,_,_,.cons t ts x r c1 c2 h h'=> .cons t ts _ _ c1 c2 (.val t x c1 h) (iw.ofF h')
theorem Au {t:Ty} {d:az E.T} {cs:List Value} {i:Nat} {fs:List (az E.T)} (h:VT E σ st w M t d cs) (he:nI E d=some (i,fs)):t= .named i∧iw E σ st w M (E.fields i) fs cs:=by
 cases h with
 |val t x cs h=>
  cases h with
  |named j y cs h=>
   simp only[nI,Option.some.injEq,Prod.mk.injEq]at he
   obtain⟨rfl,rfl⟩:=he
   exact⟨rfl,iw.ofF h⟩
  |bool b=>cases he
  |int k x=>cases he
  |str s h=>cases he
  |slice e xs a cap cs hl hm hn hc=>cases he
  |arr n e xs cs hn hl=>cases he
 |agg j gs cs h=>
  simp only[nI,Option.some.injEq,Prod.mk.injEq]at he
  obtain⟨rfl,rfl⟩:=he
  exact⟨rfl,h⟩
 |bj e a=>cases he
 |own k l e xs h=>cases he
 |dA e v h=>cases he
theorem iw.at (ok:dk E): ∀{ts:List Ty} {fs:List (az E.T)} {cs:List Value},iw E σ st w M ts fs cs→ ∀(j:Nat) (d:az E.T),aR fs j=some d→
  ∃t c l r,aR ts j=some t∧VT E σ st w M t d c∧cs=l++c++r∧l.length=((ts.take j).map E.size).sum∧
   ∀(d':az E.T) (c':List Value),VT E σ st w M t d' c'→iw E σ st w M ts (df fs j d') (l++c'++r)
 |_,_,_,.nil=>by intro j d h;simp[dF,cP,cQ]at h
 |_,_,_,.cons t ts v r c1 c2 h h'=>by
  intro j d hd
  cases j with
  |zero=>
   simp only[dF,cP,cQ,Option.some.injEq]at hd;subst hd
   exact⟨t,c1,[],c2,rfl,h,by simp,by simp,fun d' c' hv=>by simpa [jK,gB,gC]using iw.cons t ts d' r c' c2 hv h'⟩
  |succ j=>
   simp only[dF,cP,cQ]at hd
   obtain⟨t',c,l,r',h1,h2,rfl,h4,h5⟩:=iw.at ok h' j d hd
   refine⟨t',c,c1++l,r',h1,h2,by simp,?_,fun d' c' hv=> ?_⟩
   ·simp[h4,VT.len ok h]
   ·have:=iw.cons t ts v _ c1 _ h (h5 d' c' hv)
    simpa [jK,gB,gC]using this
theorem nu {α:Type} {l:List α} {j:Nat} {d:α} (h:j<l.length):aR l j=some (nth l j d):=by
 rw[cT,ko,List.getD_eq_getElem?_getD,List.getElem?_eq_getElem h];rfl
theorem bD.split (ok:dk E): ∀{e:Ty} {xs:List (I E.T e)} {cs:List Value},bD E w M e xs cs→ ∀(i:Nat) (x:I E.T e),xs[i]? =some x→
  ∃c l r,cx E w M e x c∧cs=l++c++r∧l.length=i*E.size e∧ ∀(y:I E.T e) (c':List Value),cx E w M e y c'→bD E w M e (xs.set i y) (l++c'++r)
 |_,_,_,.nil e=>by intro i x h;simp at h
 |_,_,_,.cons e y r c1 c2 h h'=>by
  intro i x hx
  cases i with
  |zero=>
   simp only[List.getElem?_cons_zero,Option.some.injEq]at hx;subst hx
   exact⟨c1,[],c2,h,by simp,by simp,fun y' c' hv=>by simpa using bD.cons e y' r c' c2 hv h'⟩
  |succ i=>
   simp only[List.getElem?_cons_succ]at hx
   obtain⟨c,l,r',h2,rfl,h4,h5⟩:=bD.split ok h' i x hx
   refine⟨c,c1++l,r',h2,by simp,?_,fun y' c' hv=> ?_⟩
   ·rw[List.length_append,h4,cx.len ok h,Nat.add_mul];omega
   ·have:=bD.cons e y _ c1 _ h (h5 y' c' hv)
    simpa using this
theorem toHLWith_ok {f:(t:Ty)→az E.T→Option (I E.T t)} (hf: ∀t d x cs,f t d=some x→VT E σ st w M t d cs→cx E w M t x cs):
  ∀{ts:List Ty} {fs:List (az E.T)} {cs:List Value},iw E σ st w M ts fs cs→ ∀{r:HL E.T ts},toHLWith E f ts fs=some r→l7 E w M ts r cs
 |_,_,_,.nil=>by
  intro _
  exact .nil
 |_,_,_,.cons t ts v vs c1 c2 hv hvs=>by
  intro h
  simp only[toHLWith]at h
  split at h
  ·rename_i x hx
   split at h
   ·rename_i y hy
    cases h
    exact .cons t ts x y c1 c2 (hf t v x c1 hx hv) (toHLWith_ok hf hvs hy)
   ·cases h
  ·cases h
theorem toData_nil (ok:dk E): ∀(n:Nat) {t:Ty} {d:az E.T} {x:I E.T t} {cs:List Value},toData E [] n t d=some x→VT E σ st w M t d cs→cx E w M t x cs
 |0,_,_,_,_,h,_=>by cases h
 |n+1,t,d,x,cs,h,hv=>by
  cases hv with
  |val t y cs hc=>
   simp only[toData]at h
   split at h
   ·rename_i p _
    cases p with|up p=>
    cases h;exact hc
   ·cases h
  |bj e a=>
   simp only[toData,Option.some.injEq]at h
   subst h
   exact .slice e [] a 0 [] (.nil e) (.inl rfl) (Nat.zero_le _) (Nat.le_refl _)
  |own k l e xs hk=>simp[toData,dF,cP,cQ]at h
  |dA e v hv=>simp[toData]at h
  |agg i fs cs hs=>
   simp only[toData]at h
   split at h
   ·split at h
    ·rename_i r hr
     cases h
     exact .named i _ cs (by rw[ok.pe];exact toHLWith_ok (fun t d x cs=>toData_nil ok n) hs hr)
    ·cases h
   ·cases h
theorem yK (ok:dk E): ∀(p:List Step) {d v:az E.T} {t:Ty} {cs:List Value},(rU E p d).get=some v→VT E σ st w M t d cs→v≠ .undef→
  ∃t' c l r,VT E σ st w M t' v c∧cs=l++c++r∧l.length=E.cw p
 |[],d,v,t,cs,h,hv,_=>by
  cases h
  exact⟨t,cs,[],[],hv,by simp,by simp[Env.cw]⟩
 | .td i j::p,d,v,t,cs,h,hv,hn=>by
  simp only[rU]at h
  have hex: ∃fs,nI E d=some (i,fs)∧mH E i j d=nth fs j .undef:=by
   cases hv with
   |val t x cs hc=>
    cases hc with
    |named i' x cs hf=>
     cases hb:Nat.beq i i' with
     |true=>
      have:=Nat.eq_of_beq_eq_true hb;subst this
      exact⟨_,rfl,by simp[mH]⟩
     |false=>rw[show mH E i j (.val (.named i') x)= .undef by simp[mH,hb]]at h;exact absurd (getP_undef p h) hn
    |bool b=>exact absurd (getP_undef p h) hn
    |int k x=>exact absurd (getP_undef p h) hn
    |str s hs=>exact absurd (getP_undef p h) hn
    |slice e xs a cap cs hl hm hn' hc=>exact absurd (getP_undef p h) hn
    |arr n e xs cs hn' hl=>exact absurd (getP_undef p h) hn
   |agg i' fs cs hs=>
    cases hb:Nat.beq i i' with
    |true=>
     have:=Nat.eq_of_beq_eq_true hb;subst this
     exact⟨_,rfl,by simp[mH]⟩
    |false=>rw[show mH E i j (.agg i' fs)= .undef by simp[mH,hb]]at h;exact absurd (getP_undef p h) hn
   |bj e a=>exact absurd (getP_undef p h) hn
   |own k l e xs hk=>exact absurd (getP_undef p h) hn
   |dA e v hs=>exact absurd (getP_undef p h) hn
  obtain⟨fs,he,hd⟩:=hex
  rw[hd]at h
  obtain⟨rfl,hs⟩:=Au hv he
  have hj:aR fs j=some (nth fs j .undef):=by
   rcases Nat.lt_or_ge j fs.length with hlt|hge
   ·exact nu hlt
   ·rw[show nth fs j .undef= .undef by rw[ko,List.getD_eq_getElem?_getD,List.getElem?_eq_none hge];rfl]at h
    exact absurd (getP_undef p h) hn
  obtain⟨t1,c1,l1,r1,h1,h2,rfl,h4,_⟩:=iw.at ok hs j _ hj
  obtain⟨t',c,l,r,h5,rfl,h6⟩:=yK ok p h h2 hn
  exact⟨t',c,l1++l,r++r1,h5,by simp,by simp[Env.cw,Env.iW,Env.qu,h4,h6]⟩
 | .idx e n::p,d,v,t,cs,h,hv,hn=>by
  cases hv with
  |val t x cs hc=>
   cases hc with
   |arr m e' xs cs hm hl=>
    simp only[rU]at h
    obtain⟨he,h⟩:=Tree.aO h
    have:=dN he;subst this
    simp only[Tree.get]at h
    obtain⟨x,hx,h⟩:=Option.bind_eq_some_iff.1 h
    obtain⟨c1,l1,r1,h1,rfl,h3,_⟩:=bD.split ok hl n x hx
    obtain⟨t',c,l,r,h5,rfl,h6⟩:=yK ok p h (.val e x c1 h1) hn
    exact⟨t',c,l1++l,r++r1,h5,by simp,by simp[Env.cw,Env.iW,h3,h6]⟩
   |bool b=>cases h
   |int k x=>cases h
   |str s hs=>cases h
   |slice e xs a cap cs hl hm hn' hc=>cases h
   |named i x cs hf=>cases h
  |bj e a=>cases h
  |own k l e xs hk=>cases h
  |dA e v hs=>cases h
  |agg i fs cs hs=>cases h
where
 getP_undef: ∀(p:List Step) {v:az E.T},(rU E p .undef).get=some v→v= .undef
  |[],v,h=>by cases h;rfl
  | .td i j::p,v,h=>by simp only[rU,mH]at h;exact getP_undef p h
  | .idx e n::p,v,h=>by cases h
end
end
end Go.Proofs.YtlejgahbbfeagaaGreatDoor.D

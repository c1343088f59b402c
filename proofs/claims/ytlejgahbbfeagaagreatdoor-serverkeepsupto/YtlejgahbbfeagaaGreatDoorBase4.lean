/- Regions whose order is open: what an operation does hangs on what it looks at alone. Regions whose order is open: what an operation does hangs on what it looks at alone (2). Regions whose order is open: what an operation does hangs on what it looks at alone (3). Regions whose order is open: two operations change places (1). Regions whose order is open: two operations change places (2). Regions whose order is open: two operations change places (3). Regions whose order is open: two operations change places (4). Regions whose order is open: any order comes to what the text's order comes to. Regions whose order is open: one operation in the machine. Regions whose order is open: what is made takes its place. -/
import Derived.Test.YtlejgahbbfeagaaGreatDoorBase3
set_option linter.unusedVariables false
set_option linter.unusedSimpArgs false
namespace Go.Proofs.YtlejgahbbfeagaaGreatDoor.D
open Go
noncomputable section
section
variable {E:Env} {st st2:St E.T}
def bJ {T:Nat→Type} (L:List Nat) (st st2:St T):Prop:= ∀k∈L,aR st k=aR st2 k
theorem bJ.mono {T:Nat→Type} {L L':List Nat} {st st2:St T} (h:bJ L st st2) (hs: ∀k∈L',k∈L):bJ L' st st2:=fun k hk=>h k (hs k hk)
theorem Bp {d:az E.T}: ∀{fs:List (az E.T)},d∈fs→ ∀k∈owns d,k∈eK fs
 |v::r,h,k,hk=>by
  unfold eK
  rcases List.mem_cons.1 h with rfl|h
  ·exact List.mem_append_left _ hk
  ·exact List.mem_append_right _ (Bp h k hk)
mutual
theorem qB: ∀(d:az E.T),∀k∈owns d,k∈refs d
 | .own o,k,h=>by simpa [owns,refs]using h
 | .agg i fs,k,h=>by unfold owns at h;unfold refs;exact ri fs k h
 | .jk fs,k,h=>by unfold owns at h;unfold refs;exact ri fs k h
 | .fn f fs,k,h=>by unfold owns at h;unfold refs;exact ri fs k h
 | .fG t v,k,h=>by unfold owns at h;unfold refs;exact qB v k h
 | .ptr o p,k,h=>by simp[owns]at h
 | .val t x,k,h=>by simp[owns]at h
 | .bj,k,h=>by simp[owns]at h
 | .cM,k,h=>by simp[owns]at h
 | .dZ t x,k,h=>by simp[owns]at h
 | .ea,k,h=>by simp[owns]at h
 | .cr,k,h=>by simp[owns]at h
 | .dA e,k,h=>by simp[owns]at h
 | .undef,k,h=>by simp[owns]at h
theorem ri: ∀(ds:List (az E.T)),∀k∈eK ds,k∈bg ds
 |[],k,h=>by simp[eK]at h
 |d::r,k,h=>by
  unfold eK at h
  unfold bg
  rcases List.mem_append.1 h with h|h
  ·exact List.mem_append_left _ (qB d k h)
  ·exact List.mem_append_right _ (ri r k h)
end
theorem toHLWith_cong {f g:(t:Ty)→az E.T→Option (I E.T t)}: ∀(ts:List Ty) (vs:List (az E.T)),(∀t,∀v∈vs,f t v=g t v)→toHLWith E f ts vs=toHLWith E g ts vs
 |[],[],_=>rfl
 |[],_::_,_=>rfl
 |_::_,[],_=>rfl
 |t::ts,v::vs,h=>by
  simp only[toHLWith]
  rw[h t v (by simp),toHLWith_cong ts vs (fun t v hv=>h t v (by simp[hv]))]
theorem toData_cong: ∀(n:Nat) (t:Ty) (v:az E.T),bJ (owns v) st st2→toData E st n t v=toData E st2 n t v
 |0,_,_,_=>rfl
 |n+1,t,v,h=>by
  cases v with
  |own k=>
   simp only[toData]
   rw[h k (by simp[owns])]
  |agg i fs=>
   cases t with
   |named j=>
    simp only[toData]
    rw[toHLWith_cong (E.fields j) fs (fun t v hv=>toData_cong n t v (h.mono fun k hk=>by unfold owns;exact Bp hv k hk))]
   |_=>rfl
  |_=>rfl
theorem Aq (t:Ty) (v:az E.T) (h:bJ (owns v) st st2):qg E st t v=qg E st2 t v:=by
 cases v with
 |own k=>simp only[qg];rw[h k (by simp[owns])]
 |_=>rfl
theorem OB (t:Ty) (v:az E.T) (h:bJ (owns v) st st2):OC E st t v=OC E st2 t v:=by
 cases v with
 |dA e=>rfl
 |own k=>simp only[OC];exact Aq t _ h
 |_=>rfl
theorem yL (t:TypeId) (v:az E.T) (h:bJ (owns v) st st2):fits E st t v=fits E st2 t v:=by
 unfold fits
 split
 ·exact Aq _ v h
 ·rfl
 ·rfl
theorem BT (t:TypeId) (v:az E.T) (h:bJ (owns v) st st2):mg E st t v=mg E st2 t v:=by
 unfold mg
 split
 ·exact OB _ v h
 ·rfl
 ·rfl
theorem HH (ts:List Ty): ∀(ps:List (Nat×az E.T)) (fs:List (az E.T)) (f:List (az E.T)→Tree (az E.T)),bJ (eK (ps.map (·.2))) st st2→kI.fill E st ts fs ps f=kI.fill E st2 ts fs ps f
 |[],fs,f,_=>by simp[kI.fill]
 |(j,v) ::r,fs,f,h=>by
  simp only[kI.fill]
  cases aR ts j with
  |none=>rfl
  |some t=>
   simp only
   rw[Aq t v (h.mono fun k hk=>by simp[eK,hk]),HH ts r _ f (h.mono fun k hk=>by simp[eK,hk])]
theorem KZ (t:TypeId) (ps:List (Nat×az E.T)) (h:bJ (eK (ps.map (·.2))) st st2):kI E st t ps=kI E st2 t ps:=by
 unfold kI
 split
 ·exact HH _ ps _ _ h
 ·rfl
 ·rfl
theorem O5 (t:Ty) (x y:az E.T) (f:Bool→Bool) (hx:bJ (owns x) st st2) (hy:bJ (owns y) st st2):KX E st t x y f=KX E st2 t x y f:=by
 unfold KX
 rw[toData_cong depth t x hx,toData_cong depth t y hy]
theorem Pb (op:BinOp) (t:TypeId) (x y:az E.T) (hx:bJ (owns x) st st2) (hy:bJ (owns y) st st2):MM E st op t x y=MM E st2 op t x y:=by
 unfold MM
 split<;>first|rfl|skip
 split<;>first|rfl|(congr 1;cases op<;>first|rfl|exact O5 _ x y _ hx hy)
theorem MI (src dst:TypeId) (x:az E.T) (hd: ∀e,E.tk dst≠ .data (.slice e)) (h:bJ (owns x) st st2):(yc E st src dst x).bind (fun p=> .ret p.1)=(yc E st2 src dst x).bind (fun p=>Tree.ret p.1):=by
 unfold yc
 cases CK E src with
 |false=>rfl
 |true=>
  simp only[Tree.cR]
  split<;>first|rfl|skip
  ·rename_i s h1;exact absurd h1 (hd _)
  ·rename_i s h1;exact absurd h1 (hd _)
  ·split
   ·unfold elems
    rw[toData_cong (st:=st) (st2:=st2) depth _ _ h]
    have hk: ∀o:Option (List UInt8),((Tree.e8 o).bind fun s=>Tree.ret ((az.val Ty.str s:az E.T),st)).bind (fun p=>Tree.ret p.1)=((Tree.e8 o).bind fun s=>Tree.ret ((az.val Ty.str s:az E.T),st2)).bind (fun p=>Tree.ret p.1):=by
     intro o;cases o<;>rfl
    exact hk _
   ·rfl
theorem OY (t:TypeId) (x:az E.T) (h:bJ (owns x) st st2):MD E st t x=MD E st2 t x:=by
 unfold MD
 split<;>first|rfl|skip
 rename_i e k _
 rw[h k (by simp[owns])]
theorem D9 (t:TypeId) (x i:az E.T) (h:bJ (owns x) st st2):mG E st t x i=mG E st2 t x i:=by
 unfold mG
 split<;>first|rfl|skip
 split<;>first|rfl|skip
 rename_i o
 rw[h o (by simp[owns])]
theorem KP (t:TypeId) (x:az E.T) (lo hi mx:Option (az E.T)) (h1: ∀k,x≠ .own k) (h2: ∀o p,x≠ .ptr o p):(vH E st t x lo hi mx).bind (fun p=> .ret p.1)=(vH E st2 t x lo hi mx).bind (fun p=>Tree.ret p.1):=by
 have key: ∀{α:Type} (xs:List α) (t1:Bool) (l h:Option Int) (g:List α→az E.T),(Tree.cR t1 ((Tree.e8 l).bind fun l=>(Tree.e8 h).bind fun h=>Ea E xs l h fun r=> .ret (g r,st))).bind (fun p=> .ret p.1)=
   (Tree.cR t1 ((Tree.e8 l).bind fun l=>(Tree.e8 h).bind fun h=>Ea E xs l h fun r=> .ret (g r,st2))).bind (fun p=>Tree.ret p.1):=by
  intro α xs t1 l h g
  cases t1<;>cases l<;>cases h<;>rfl
 unfold vH
 split
 ·rfl
 ·split<;>first|exact key _ _ _ _ _|rfl|skip
  ·rename_i k;exact absurd rfl (h1 k)
  ·rename_i o p;exact absurd rfl (h2 o p)
theorem zw (tx:TypeId) (e:Ty) (x:az E.T) (k:List (I E.T e)→Tree (Out E)) (h:bJ (owns x) st st2):appended E st tx e x k=appended E st2 tx e x k:=by
 unfold appended
 split<;>first|rfl|skip
 unfold elems
 rw[toData_cong depth _ x h]
theorem zx {β:Type} (tx:TypeId) (e:Ty) (x:az E.T) (k:List (I E.T e)→Tree (Out E)) (g:Out E→Tree β) (k':List (I E.T e)→Tree (Out E)) (g':Out E→Tree β) (h: ∀ys,(k ys).bind g=(k' ys).bind g'):
  (appended E st tx e x k).bind g=(appended E st tx e x k').bind g':=by
 unfold appended
 split
 ·cases isNum E tx with
  |false=>rfl
  |true=>
   simp only[Tree.cR,Tree.bind]
   congr 1
   cases fp E depth e with
   |none=>rfl
   |some z=>exact h _
 ·cases wA E tx .str with
  |false=>rfl
  |true=>
   simp only[Tree.cR]
   split
   ·exact h _
   ·rfl
 ·cases xQ E tx with
  |false=>rfl
  |true=>
   simp only[Tree.cR]
   cases elems E st e x with
   |none=>rfl
   |some ys=>exact h ys
theorem xw (t:TypeId) (l c:az E.T):(eg E true st t l c).bind (fun p=> .ret p.1)=(eg E true st2 t l c).bind (fun p=>Tree.ret p.1):=by
 unfold eg
 split
 ·simp only[Tree.bind]
  congr 1
  generalize fp E depth _=z
  cases z<;>rfl
 ·rfl
theorem Su {ev ev2:Operand→az E.T} (o:Op) (h: ∀x∈o.operands,ev x=ev2 x):gh E ev st o=gh E ev2 st o:=by
 have pairs: ∀ps:Array (Nat×Operand),(∀x∈ps.map (·.2),ev x=ev2 x)→(ps.toList.map fun x=>(x.1,ev x.2))=(ps.toList.map fun x=>(x.1,ev2 x.2)):=fun ps hp=>
  List.map_congr_left fun p hm=>by rw[hp p.2 (Array.mem_map.2 ⟨p,by simpa using hm,rfl⟩)]
 have list: ∀xs:Array Operand,(∀x∈xs,ev x=ev2 x)→xs.toList.map ev=xs.toList.map ev2:=fun xs hp=>List.map_congr_left fun x hm=>hp x (by simpa using hm)
 cases o<;>simp only[Op.operands]at h<;>simp only[gh]
 case build t ps=>rw[pairs ps fun x hx=>h x (by simpa using hx)]
 case buildSlice t n ps=>rw[pairs ps fun x hx=>h x (by simpa using hx)]
 case makeFunc fn first captured=>
  cases fn<;>simp only[gh]
  rw[list captured fun x hx=>h x (by simp[hx])]
 case call c=>
  obtain⟨callee,args,ats⟩:=c
  cases callee with
  |builtin b=>
   simp only[gh]
   rw[list args fun x hx=>h x (by simp[Call.operands,hx])]
  |_=>rfl
 case slice t x lo hi mx=>cases lo<;>cases hi<;>cases mx<;>simp_all
 case typeAssert x xt t ok=>cases ok<;>simp_all [gh]
 all_goals (first|rfl|(simp_all;done))
theorem SF {S:FuncId→Option (Spec E)} {fx:List Nat} {ev ev2:Operand→az E.T} {id:Nat} (o:Op) (h: ∀x∈o.operands,ev x=ev2 x):eQ E S fx ev st id o=eQ E S fx ev2 st id o:=by
 have list: ∀xs:Array Operand,(∀x∈xs,ev x=ev2 x)→xs.toList.map ev=xs.toList.map ev2:=fun xs hp=>List.map_congr_left fun x hm=>hp x (by simpa using hm)
 have hv:=Su (st:=st) o h
 cases o with
 |alloc t=>rfl
 |box t v=>simp only[eQ];rw[h v (by simp[Op.operands])]
 |convert src dst x=>
  have hx:=h x (by simp[Op.operands])
  simp only[eQ]
  rw[hv,hx]
 |store t a v=>simp only[eQ];rw[h a (by simp[Op.operands]),h v (by simp[Op.operands])]
 |makeSlice t l c=>simp only[eQ];rw[h l (by simp[Op.operands]),h c (by simp[Op.operands])]
 |buildSlice t n ps=>
  have hp: ∀x∈ps.toList,ev x.2=ev2 x.2:=fun x hx=>h x.2 (by simp only[Op.operands];simp;exact⟨x.1,by simpa using hx⟩)
  have h1:(ps.toList.map fun x=>ev x.2)=ps.toList.map fun x=>ev2 x.2:=List.map_congr_left hp
  have h2: ∀s:St E.T,(ps.toList.map fun x=>(x.1,gN E s 0 (ev x.2)))=ps.toList.map fun x=>(x.1,gN E s 0 (ev2 x.2)):=fun s=>List.map_congr_left fun x hx=>by rw[hp x hx]
  simp only[eQ]
  rw[hv,h1]
  simp only[h2]
 |call c=>
  obtain⟨callee,args,ats⟩:=c
  cases callee with
  |value f=>
   simp only[eQ]
   rw[h f (by simp[Op.operands,Call.operands]),list args fun x hx=>h x (by simp[Op.operands,Call.operands,hx])]
  |invoke r m=>simp only[eQ];rw[hv]
  |builtin b=>
   cases b<;>simp only[eQ]<;>first|rw[hv]|skip
   rw[list args fun x hx=>h x (by simp[Op.operands,Call.operands,hx])]
 |_=>simp only[eQ];rw[hv]
end
end
open Go
section
variable {E:Env} {st st2:St E.T}
theorem uR {k:Nat} (h:aR st k=aR st2 k):jq E st k=jq E st2 k:=by unfold jq;rw[h]
theorem rh {L:List Nat} (hc: ∀k∈L,∀j∈jq E st k,j∈L) (h:bJ L st st2): ∀(n:Nat) (todo seen:List Nat),(∀k∈todo,k∈L)→reach E st n todo seen=reach E st2 n todo seen
 |0,_,_,_=>rfl
 |n+1,[],_,_=>rfl
 |n+1,k::t,seen,ht=>by
  simp only[reach]
  have hk:=ht k (by simp)
  rw[←uR (h k hk)]
  rw[rh hc h n t seen (fun j hj=>ht j (by simp[hj])),rh hc h n _ _ (fun j hj=>by
   rcases List.mem_append.1 hj with hj|hj
   ·exact hc k hk j hj
   ·exact ht j (by simp[hj]))]
theorem Bl {L:List Nat} (hc: ∀k∈L,∀j∈jq E st k,j∈L): ∀(n:Nat) (todo seen:List Nat),(∀k∈todo,k∈L)→(∀k∈seen,k∈L)→ ∀k∈reach E st n todo seen,k∈L
 |0,_,_,_,hs,k,h=>hs k h
 |n+1,[],_,_,hs,k,h=>hs k h
 |n+1,j::t,seen,ht,hs,k,h=>by
  simp only[reach]at h
  have hj:=ht j (by simp)
  cases hb:cX seen j with
  |true=>
   rw[hb]at h
   exact Bl hc n t seen (fun i hi=>ht i (by simp[hi])) hs k h
  |false=>
   rw[hb]at h
   refine Bl hc n _ _ (fun i hi=> ?_) (fun i hi=> ?_) k h
   ·rcases List.mem_append.1 hi with hi|hi
    ·exact hc j hj i hi
    ·exact ht i (by simp[hi])
   ·rcases List.mem_append.1 hi with hi|hi
    ·exact hs i hi
    ·simp at hi;subst hi;exact hj
theorem vU {R:List Nat} (h:bJ R st st2) (hl:st.length=st2.length):oX E st R=oX E st2 R:=by
 unfold oX
 congr 1
 have: ∀(l:List Nat),(∀k∈l,aR st k=aR st2 k)→(l.all fun k=>Nat.blt k st.length&&(jq E st k).all (cX R))=(l.all fun k=>Nat.blt k st2.length&&(jq E st2 k).all (cX R)):=by
  intro l
  induction l with
  |nil=>intro _;rfl
  |cons k l ih=>
   intro hk
   simp only[List.all_cons]
   rw[ih (fun j hj=>hk j (by simp[hj])),uR (hk k (by simp)),hl]
 exact this R h
theorem Fl {fx R:List Nat} (h:bJ R st st2):gL E st fx R=gL E st2 fx R:=by
 unfold gL
 exact List.map_congr_left fun k hk=>by rw[h k hk]
theorem J4 {R:List Nat} (h:bJ R st st2):sU E st R=sU E st2 R:=by
 unfold sU
 exact List.filter_congr fun k hk=>by rw[h k hk]
theorem Hp {R:List Nat} (h:bJ R st st2):live E st R=live E st2 R:=by
 unfold live
 exact List.filter_congr fun k hk=>by rw[h k hk]
theorem Dm: ∀{R:List Nat} (q:List (Obj E.T)),bJ R st st2→sI E st R q=sI E st2 R q
 |[],q,_=>by cases q<;>rfl
 |k::R,[],_=>rfl
 |k::R,ob::q,h=>by simp only[sI];rw[h k (by simp),Dm q (h.mono fun j hj=>by simp[hj])]
theorem kF: ∀{R:List Nat},bJ R st st2→frozen E st R=frozen E st2 R
 |[],_=>rfl
 |k::R,h=>by
  simp only[frozen]
  rw[h k (by simp),kF (h.mono fun j hj=>by simp[hj])]
theorem FY: ∀(ps:List Ty) (vs:List (az E.T)),bJ (eK vs) st st2→zr E st ps vs=zr E st2 ps vs
 |[],[],_=>rfl
 |[],_::_,_=>rfl
 |_::_,[],_=>rfl
 |t::ts,v::vs,h=>by
  simp only[zr]
  rw[toData_cong depth t v (h.mono fun k hk=>by simp[eK,hk]),FY ts vs (h.mono fun k hk=>by simp[eK,hk])]
theorem DP: ∀(ps:List TK) (vs:List (az E.T)),bJ (eK vs) st st2→lN E st ps vs=lN E st2 ps vs
 |[],[],_=>rfl
 |[],_::_,_=>rfl
 |tk::ts,[],_=>by cases tk<;>rfl
 |tk::ts,v::vs,h=>by
  have ih:=DP ts vs (h.mono fun k hk=>by simp[eK,hk])
  cases tk with
  |data t=>
   simp only[lN]
   rw[toData_cong depth t v (h.mono fun k hk=>by simp[eK,hk]),ih]
  |other=>rfl
  |_=>simp only[lN];rw[ih]
theorem zq: ∀(ps:List TK) (vs:List (az E.T)),cG E st ps vs=cG E st2 ps vs
 |[],_=>by simp[cG]
 |tk::ts,[]=>by cases tk<;>simp[cG]
 |tk::ts,v::vs=>by cases tk<;>simp[cG,zq ts vs]
theorem yd: ∀(ps:List TK) (vs:List (az E.T)),∀k∈cG E st ps vs,k∈bg vs
 |[],_,k,h=>by simp[cG]at h
 |tk::ts,[],k,h=>by cases tk<;>simp[cG]at h
 |tk::ts,v::vs,k,h=>by
  cases tk<;>simp only[cG,List.mem_append]at h<;>unfold bg
  ·rcases h with h|h
   ·exact List.mem_append_left _ h
   ·exact List.mem_append_right _ (yd ts vs k h)
  all_goals exact List.mem_append_right _ (yd ts vs k h)
theorem DO: ∀(ps:List TK) (vs ds:List (az E.T)),lN E st ps vs=some ds→ ∀k∈bg ds,k∈bg vs
 |[],[],ds,h,k,hk=>by cases h;exact hk
 |[],_::_,ds,h,k,hk=>by cases h
 |tk::ts,[],ds,h,k,hk=>by cases tk<;>cases h
 |tk::ts,v::vs,ds,h,k,hk=>by
  have ih:=fun ds h=>DO ts vs ds h k
  cases tk with
  |data t=>
   simp only[lN]at h
   split at h
   ·split at h
    ·rename_i r hr
     cases h
     simp only[bg,refs,List.nil_append]at hk
     unfold bg
     exact List.mem_append_right _ (ih r hr hk)
    ·cases h
   ·cases h
  |other=>cases h
  |_=>
   simp only[lN]at h
   split at h
   ·split at h
    ·rename_i r hr
     cases h
     unfold bg at hk⊢
     rcases List.mem_append.1 hk with hk|hk
     ·exact List.mem_append_left _ hk
     ·exact List.mem_append_right _ (ih r hr hk)
    ·cases h
   ·cases h
theorem B5 {L fx:List Nat} {ds:List (az E.T)} {F:List (az E.T)→St E.T→Tree (iR E.T×St E.T)} (hc: ∀k∈L,∀j∈jq E st k,j∈L) (h:bJ L st st2) (hl:st.length=st2.length) (hds: ∀k∈bg ds,k∈L):
  vZ E st fx ds F=vZ E st2 fx ds F:=by
 unfold vZ
 rw[←rh hc h 1000 (bg ds) [] hds]
 have hR:bJ (reach E st 1000 (bg ds) []) st st2:=h.mono (Bl hc 1000 _ _ hds (fun k hk=>by cases hk))
 generalize reach E st 1000 (bg ds) []=R at*
 simp only
 rw[vU hR hl,Fl hR,J4 hR,hl]
 congr 1
 congr 1
 funext p
 rw[Dm _ hR]
theorem Lb {L:List Nat} {ds:List (az E.T)} {F:List (az E.T)→St E.T→Tree (iR E.T×St E.T)} (hc: ∀k∈L,∀j∈jq E st k,j∈L) (h:bJ L st st2) (hl:st.length=st2.length) (hds: ∀k∈bg ds,k∈L):
  Db E st ds F=Db E st2 ds F:=by
 unfold Db
 rw[←rh hc h 1000 (bg ds) [] hds]
 have hR:bJ (reach E st 1000 (bg ds) []) st st2:=h.mono (Bl hc 1000 _ _ hds (fun k hk=>by cases hk))
 generalize reach E st 1000 (bg ds) []=R at*
 simp only
 rw[vU hR hl,Fl hR]
theorem AU {L:List Nat}: ∀(l:List (Nat×Obj E.T)) {s s2:St E.T},bJ L s s2→s.length=s2.length→bJ L (cy E s l) (cy E s2 l)
 |[],s,s2,h,_=>h
 |p::r,s,s2,h,hl=>by
  simp only[cy]
  refine AU r (fun k hk=> ?_) (by rw[dH,dH,hl])
  rw[bE,bE,h k hk,hl]
theorem I0 (ks:List Nat): ∀(s0 s:St E.T) (k j:Nat),j∈jq E (cy E s (frozen E s0 ks)) k→j∈jq E s k:=by
 induction ks with
 |nil=>intro s0 s k j h;exact h
 |cons a ks ih=>
  intro s0 s k j h
  simp only[frozen]at h
  split at h
  ·simp only[cy]at h
   have:=ih s0 _ k j h
   unfold jq at this⊢
   rw[bE]at this
   by_cases hk:a=k∧k<s.length
   ·rw[if_pos hk]at this;simp[cd]at this
   ·rw[if_neg hk]at this;exact this
  ·exact ih s0 s k j h
theorem KY {S:FuncId→Option (Spec E)} {L fx:List Nat} {f:az E.T} {args:List (az E.T)} (hc: ∀k∈L,∀j∈jq E st k,j∈L) (h:bJ L st st2) (hl:st.length=st2.length) (hin: ∀k∈refs f++bg args,k∈L):
  AH E S st fx f args=AH E S st2 fx f args:=by
 unfold AH
 split<;>first|rfl|skip
 rename_i g cap
 have hin2: ∀k∈bg (args++cap),k∈L:=by
  intro k hk
  have happ: ∀(a b:List (az E.T)),bg (a++b)=bg a++bg b:=by
   intro a b
   induction a with
   |nil=>rfl
   |cons v r ih=>simp only[List.cons_append,bg,ih,List.append_assoc]
  rw[happ]at hk
  refine hin k ?_
  rcases List.mem_append.1 hk with hk|hk
  ·exact List.mem_append_right _ hk
  ·exact List.mem_append_left _ (by unfold refs;exact hk)
 have hown:bJ (eK (args++cap)) st st2:=h.mono fun k hk=>hin2 k (ri _ k hk)
 generalize args++cap=vs at*
 split<;>first|rfl|skip
 ·rename_i ps F _
  rw[←FY ps vs hown,←Hp (h.mono hin2)]
  have hf:bJ (live E st (bg vs)) st st2:=h.mono fun k hk=>hin2 k (BA.1 hk).1
  have hfz:=kF (E:=E) hf
  generalize live E st (bg vs)=ks at*
  cases ks with
  |nil=>rfl
  |cons a r=>simp only;rw[hfz]
 ·rename_i ps flat F _
  rw[←DP ps vs hown]
  cases hds:lN E st ps vs with
  |none=>rfl
  |some ds=>
   have hd:=fun k hk=>hin2 k (DO ps vs ds hds k hk)
   simp only
   cases flat with
   |true=>exact Lb hc h hl hd
   |false=>
    simp only
    have hlv:bJ (cG E st ps vs) st st2:=h.mono fun k hk=>hin2 k (yd ps vs k hk)
    rw[←zq (st:=st) (st2:=st2) ps vs,←Hp hlv]
    have hf:bJ (live E st (cG E st ps vs)) st st2:=hlv.mono fun k hk=>(BA.1 hk).1
    generalize live E st (cG E st ps vs)=ks at*
    have hfz:=kF (E:=E) hf
    split
    ·exact B5 hc h hl hd
    ·rw[←hfz]
     rw[B5 (L:=L) (fun k hk j hj=>hc k hk j (I0 _ _ _ k j hj)) (AU _ h hl) (by rw[ez,ez,hl]) hd]
theorem Oy {ev:Operand→az E.T} {xs:List Operand} {x:Operand} (hx:x∈xs): ∀k∈owns (ev x),k∈eK (xs.map ev):=fun k hk=>Bp (List.mem_map.2 ⟨x,hx,rfl⟩) k hk
theorem Ss {ev:Operand→az E.T} (o:Op) (hn: ∀t a,o≠ .load t a) (hc: ∀s d x,o= .convert s d x→ ∀e,E.tk d≠ .data (.slice e)) (h:bJ (eK (o.operands.toList.map ev)) st st2):gh E ev st o=gh E ev st2 o:=by
 have one: ∀{x:Operand},x∈o.operands→bJ (owns (ev x)) st st2:=fun hx=>h.mono (Oy (by simpa using hx))
 cases o with
 |build t ps=>
  simp only[gh]
  refine KZ t _ ?_
  simpa [Op.operands,List.map_map,Function.comp_def]using h
 |load t a=>exact absurd rfl (hn t a)
 |binOp op t x y p=>
  simp only[gh]
  rw[Pb op t _ _ (one (x:=x) (by simp[Op.operands])) (one (x:=y) (by simp[Op.operands]))]
 |convert s d x=>
  simp only[gh]
  split
  ·rfl
  ·exact MI s d _ (hc s d x rfl) (one (x:=x) (by simp[Op.operands]))
 |makeSlice t l c=>simp only[gh];exact xw t _ _
 |slice t x lo hi mx=>
  simp only[gh]
  split
  ·rfl
  ·rfl
  ·rename_i h1 h2
   exact KP t _ _ _ _ (fun k=>h1 k) (fun o p=>h2 o p)
 |indexAddr t x i=>
  simp only[gh]
  exact D9 t _ _ (one (x:=x) (by simp[Op.operands]))
 |call c=>
  obtain⟨callee,args,ats⟩:=c
  cases callee with
  |builtin b=>
   simp only[gh]
   have hargs:bJ (eK (args.toList.map ev)) st st2:=by simpa [Op.operands,Call.operands]using h
   generalize args.toList.map ev=vs at hargs
   split<;>first|rfl|skip
   exact OY _ _ (hargs.mono fun k hk=>by simp[eK,hk])
  |_=>rfl
 |makeFunc fn first captured=>cases fn<;>rfl
 |typeAssert x xt t ok=>cases ok<;>rfl
 |_=>rfl
end
open Go
noncomputable section
section
variable {E:Env} {st st2:St E.T}
theorem J0: ∀(fs:List (az E.T)) (j:Nat),∀k∈refs (nth fs j .undef),k∈bg fs
 |[],j,k,h=>by simp[ff,dW,dX,refs]at h
 |v::r,0,k,h=>by simp only[ff,dW,dX]at h;unfold bg;exact List.mem_append_left _ h
 |v::r,j+1,k,h=>by simp only[ff,dW,dX]at h;unfold bg;exact List.mem_append_right _ (J0 r j k h)
theorem Ks: ∀(ts:List Ty) (x:HL E.T ts) (j:Nat),refs (nth (Pt E ts x) j .undef)=[]
 |[],x,j=>by simp[Pt,ff,dW,dX,refs]
 |t::ts,x,0=>by simp[Pt,ff,dW,dX,refs]
 |t::ts,x,j+1=>by simp only[Pt,ff,dW,dX];exact Ks ts x.2 j
theorem I1 {d:az E.T} {i:Nat} {fs:List (az E.T)} (h:nI E d=some (i,fs)) (j:Nat): ∀k∈refs (nth fs j .undef),k∈refs d:=by
 intro k hk
 cases d with
 |val t x=>
  cases t with
  |named i'=>
   simp only[nI,Option.some.injEq,Prod.mk.injEq]at h
   obtain⟨rfl,rfl⟩:=h
   unfold parts at hk
   rw[Ks]at hk
   cases hk
  |_=>cases h
 |agg i' fs'=>
  simp only[nI,Option.some.injEq,Prod.mk.injEq]at h
  obtain⟨rfl,rfl⟩:=h
  unfold refs
  exact J0 _ j k hk
 |_=>cases h
theorem yC {ok ok2:az E.T→Bool} (v:az E.T): ∀(p:List Step) (d:az E.T),(∀d',(∀k∈owns d',k∈refs d)→ok d'=ok2 d')→uA E ok v p d=uA E ok2 v p d
 |[],d,h=>by simp only[uA];rw[h d (qB d)]
 | .td i j::p,d,h=>by
  simp only[uA]
  split
  ·rename_i i' fs he
   rw[yC v p _ (fun d' hd=>h d' (fun k hk=>I1 he j k (hd k hk)))]
  ·rfl
 | .idx e n::p,d,h=>by
  cases d with
  |val t x=>
   cases t with
   |arr m e'=>
    simp only[uA]
    congr 1
    congr 1
    funext y
    rw[yC v p _ (fun d' hd=>h d' (fun k hk=>by have:=hd k hk;simp[refs]at this))]
   |_=>rfl
  |_=>rfl
theorem G1 {ok ok2:az E.T→Bool} (v:az E.T) (p:List Step) (ob:Obj E.T) (h: ∀d',(∀k∈owns d',k∈cd E ob)→ok d'=ok2 d'):zK E ok v ob p=zK E ok2 v ob p:=by
 cases ob with
 |box ro c=>
  cases ro with
  |false=>simp only[zK];rw[yC v p c h]
  |true=>rfl
 |arr l e xs=>
  cases p with
  |nil=>rfl
  |cons s p=>
   cases s with
   |td i j=>rfl
   |idx e' n=>
    simp only[zK]
    congr 1
    congr 1
    funext y
    rw[yC v p _ (fun d' hd=>h d' (fun k hk=>by have:=hd k hk;simp[refs]at this))]
 |dead=>rfl
mutual
theorem C3: ∀(d:az E.T),bJ (owns d) st st2→gN E st 0 d=gN E st2 0 d
 | .own k,h=>by simp only[gN];rw[h k (by simp[owns])]
 | .agg i fs,h=>by simp only[gN];rw[HQ fs (by simpa only[owns]using h)]
 | .val _ _,_=>rfl
 | .bj,_=>rfl
 | .ptr _ _,_=>rfl
 | .cM,_=>rfl
 | .dZ _ _,_=>rfl
 | .jk _,_=>rfl
 | .fn _ _,_=>rfl
 | .ea,_=>rfl
 | .fG _ _,_=>rfl
 | .cr,_=>rfl
 | .dA _,_=>rfl
 | .undef,_=>rfl
theorem HQ: ∀(ds:List (az E.T)),bJ (eK ds) st st2→rI E st 0 ds=rI E st2 0 ds
 |[],_=>rfl
 |v::r,h=>by
  simp only[rI]
  rw[C3 v (h.mono fun k hk=>by unfold eK;exact List.mem_append_left _ hk),HQ r (h.mono fun k hk=>by unfold eK;exact List.mem_append_right _ hk)]
end
theorem qK: ∀(l:List (Nat×Obj E.T)) (s s2:St E.T) (k:Nat),aR s k=aR s2 k→aR (cy E s l) k=aR (cy E s2 l) k
 |[],s,s2,k,h=>h
 |p::r,s,s2,k,h=>by
  simp only[cy]
  refine qK r _ _ k ?_
  rw[bE,bE]
  by_cases hk:p.1=k
  ·subst hk
   by_cases hl:p.1<s.length
   ·have:p.1<s2.length:=by
     have h1:aR s p.1=some s[p.1]:=by rw[cT];exact List.getElem?_eq_getElem hl
     rw[h1]at h
     exact bM h.symm
    rw[if_pos ⟨rfl,hl⟩,if_pos ⟨rfl,this⟩]
   ·have: ¬p.1<s2.length:=fun h2=>hl (by
     have h1:aR s2 p.1=some s2[p.1]:=by rw[cT];exact List.getElem?_eq_getElem h2
     rw[h1]at h
     exact bM h)
    rw[if_neg (fun h=>hl h.2),if_neg (fun h=>this h.2)];exact h
  ·rw[if_neg (fun h=>hk h.1),if_neg (fun h=>hk h.1)];exact h
theorem KA {ks:List Nat} (h:bJ ks st st2):bJ ks (freeze E st ks) (freeze E st2 ks):=by
 intro k hk
 rw[←dp,←dp,←kF h]
 exact qK _ _ _ k (h k hk)
structure Mov (E:Env) (ev:Operand→az E.T) (st:St E.T) (id:Nat) (o:Op) (e:rT E.T):Prop where
 val: ∃v,e.res= .val v
 ks:e.ks=[]
 news:e.news=[]
 iM:e.iM=[]∨ ∃ob,e.iM=[(id,ob)]∧aR st id=some .dead∧dz ob=false∧(∀k∈cd E ob,k∈bg (o.operands.toList.map ev))∧makes E o=true∧id∈sB E e.res
theorem Eo {ev:Operand→az E.T} {id:Nat} {o:Op} {v:az E.T}:Mov E ev st id o (rV E v):=⟨⟨v,rfl⟩,rfl,rfl,.inl rfl⟩
theorem mY {t:Tree (az E.T)} {e:rT E.T} (h:(t.bind fun v=> .ret (rV E v)).get=some e): ∃v,t.get=some v∧e=rV E v:=by
 obtain⟨v,h1,h2⟩:=Tree.aB h
 cases h2
 exact⟨v,h1,rfl⟩
theorem ED: ∀(n:Nat) (t:Ty),refs (iN E n t)=[]
 |0,t=>by simp[iN,refs]
 |n+1,t=>by
  cases t with
  |arr m e=>simp only[iN];split<;>simp[refs]
  |named i=>
   simp only[iN]
   unfold refs
   have: ∀ts:List Ty,bg (ts.map (iN E n))=[]:=by
    intro ts
    induction ts with
    |nil=>rfl
    |cons t ts ih=>simp only[List.map_cons,bg,ED n t,ih,List.append_nil]
   exact this _
  |_=>simp[iN,refs]
theorem EC (t:TypeId):refs (zeroV E t)=[]:=by
 unfold zeroV
 split<;>first|exact ED _ _|simp[refs]
theorem pU {i:Nat} (h:eP E st i=true):aR st i=some .dead:=by
 unfold eP at h
 split at h
 ·assumption
 ·cases h
theorem tX {S:FuncId→Option (Spec E)} {fx:List Nat} {ev:Operand→az E.T} {id:Nat} {o:Op} {e:rT E.T} (hm:fg E ev o=true) (h:(eQ E S fx ev st id o).get=some e):Mov E ev st id o e:=by
 cases o with
 |alloc t=>
  simp only[eQ]at h
  split at h
  ·cases h
  ·obtain⟨hd,h⟩:=Tree.aO h
   cases h
   exact⟨⟨_,rfl⟩,rfl,rfl,.inr ⟨_,rfl,pU hd,rfl,(fun k hk=>by simp only[cd,EC]at hk;cases hk),rfl,by simp[sB,refs]⟩⟩
 |box t v=>
  simp only[eQ]at h
  obtain⟨hd,h⟩:=Tree.aO h
  cases h
  rw[Bool.and_eq_true]at hd
  exact⟨⟨_,rfl⟩,rfl,rfl,.inr ⟨_,rfl,pU hd.1,rfl,(fun k hk=>by simpa [Op.operands,cd,bg]using hk),rfl,by simp[sB,refs]⟩⟩
 |convert s d x=>
  simp only[eQ]at h
  split at h
  ·rename_i hd'
   split at h
   ·obtain⟨hd,h⟩:=Tree.aO h
    cases h
    rw[Bool.and_eq_true]at hd
    exact⟨⟨_,rfl⟩,rfl,rfl,.inr ⟨_,rfl,pU hd.2,rfl,(fun k hk=>by simp[cd]at hk),by simp only[makes,xQ,hd'],by simp[sB,refs]⟩⟩
   ·cases h
  ·obtain⟨v,_,rfl⟩:=mY h;exact Eo
 |store t a v=>cases hm
 |makeSlice t l c=>
  simp only[eQ]at h
  obtain⟨p,hp,h⟩:=Tree.aB h
  split at h
  ·obtain⟨hd,h⟩:=Tree.aO h
   cases h
   exact⟨⟨_,rfl⟩,rfl,rfl,.inr ⟨_,rfl,pU hd,rfl,(fun k hk=>by simp[cd]at hk),rfl,by simp[sB,refs]⟩⟩
  ·cases h
 |buildSlice t n ps=>
  simp only[fg,List.isEmpty_iff]at hm
  simp only[eQ,hm]at h
  obtain⟨v,_,rfl⟩:=mY h;exact Eo
 |call c=>
  obtain⟨callee,args,ats⟩:=c
  cases callee with
  |value f=>cases hm
  |invoke r m=>cases hm
  |builtin b=>
   cases b<;>first|(cases hm;done)|(simp only[eQ]at h;obtain⟨v,_,rfl⟩:=mY h;exact Eo)
 |_=>simp only[eQ]at h;obtain⟨v,_,rfl⟩:=mY h;exact Eo
theorem SE {S:FuncId→Option (Spec E)} {fx:List Nat} {ev:Operand→az E.T} {id:Nat} {o:Op} {e:rT E.T} (h:(eQ E S fx ev st id o).get=some e) (hk:hU E ev st o=true) (ha:bJ (look E ev st id o e) st st2)
  (hl:fg E ev o=true∨st.length=st2.length):(eQ E S fx ev st2 id o).get=some e∧hU E ev st2 o=true∧look E ev st2 id o e=look E ev st id o e:=by
 have viaVal: ∀(o:Op),(∀t a,o≠ .load t a)→(∀s d x,o= .convert s d x→ ∀e,E.tk d≠ .data (.slice e))→bJ (eK (o.operands.toList.map ev)) st st2→((gh E ev st o).bind fun v=> .ret (rV E v)).get=some e→((gh E ev st2 o).bind fun v=> .ret (rV E v)).get=some e:=by
  intro o h1 h2 h3 h4
  rw[←Ss o h1 h2 h3];exact h4
 have arrs: ∀L:List Nat,bJ L st st2→L.all (zm E st)=L.all (zm E st2):=by
  intro L
  induction L with
  |nil=>intro _;rfl
  |cons k L ih=>
   intro h
   simp only[List.all_cons]
   rw[ih (h.mono fun j hj=>by simp[hj])]
   unfold zm
   rw[h k (by simp)]
 have free: ∀(o:Op),gh E ev st o=gh E ev st2 o→((gh E ev st o).bind fun v=> .ret (rV E v)).get=some e→((gh E ev st2 o).bind fun v=> .ret (rV E v)).get=some e:=fun o h1 h2=>by rw[←h1];exact h2
 cases o with
 |move x=>exact⟨h,rfl,rfl⟩
 |assign x=>exact⟨h,rfl,rfl⟩
 |alloc t=>
  refine⟨?_,rfl,rfl⟩
  simp only[eQ]at h⊢
  have:eP E st2 id=eP E st id:=by unfold eP;rw[ha id (by simp[look])]
  rw[this];exact h
 |box t v=>
  refine⟨?_,by simp only[hU]at hk⊢;rw[←arrs _ (ha.mono fun k hk=>by simp[look,hk])];exact hk,rfl⟩
  simp only[eQ]at h⊢
  have:eP E st2 id=eP E st id:=by unfold eP;rw[ha id (by simp[look])]
  rw[this,←yL (st:=st) (st2:=st2) t (ev v) (ha.mono fun k hk=>by simp[look,hk])];exact h
 |convert s d x=>
  refine⟨?_,by simp only[hU]at hk⊢;rw[←arrs _ (ha.mono fun k hk=>by simp[look,hk])];exact hk,rfl⟩
  simp only[eQ]at h⊢
  split
  ·rename_i hd
   rw[hd]at h
   have:eP E st2 id=eP E st id:=by unfold eP;rw[ha id (by simp[look,xQ,hd])]
   rw[this];exact h
  ·rename_i hd
   have h':((gh E ev st (.convert s d x)).bind fun v=> .ret (rV E v)).get=some e:=by
    split at h
    ·rename_i hd2;exact absurd hd2 hd
    ·exact h
   by_cases hsl: ∃e,E.tk d= .data (.slice e)
   ·obtain⟨e',he⟩:=hsl
    simp only[gh,he]at h'
    cases h'
   ·exact viaVal _ (fun t a hh=>by cases hh) (fun s' d' x' hh e' he=>by cases hh;exact hsl ⟨e',he⟩) (ha.mono fun k hk=>by
     have:k∈owns (ev x):=by simpa [Op.operands,eK]using hk
     simp[look,this]) h'
 |makeSlice t l c=>
  refine⟨?_,by simp only[hU]at hk⊢;rw[←arrs _ (ha.mono fun k hk=>by simp only[look];exact List.mem_cons_of_mem _ hk)];exact hk,rfl⟩
  simp only[eQ]at h⊢
  have hd:eP E st2 id=eP E st id:=by unfold eP;rw[ha id (by simp[look])]
  obtain⟨p,hp,h⟩:=Tree.aB h
  have hp2:(eg E true st2 t (ev l) (ev c)).get=some (p.1,st2):=by
   have h1:=xw (st:=st) (st2:=st2) t (ev l) (ev c)
   have h2:((eg E true st2 t (ev l) (ev c)).bind fun p=>Tree.ret p.1).get=some p.1:=by rw[←h1,Tree.get_bind,hp];rfl
   obtain⟨q,hq,h3⟩:=Tree.aB h2
   have h4:q.1=p.1:=Option.some.inj h3
   rw[hq,←h4]
   have:q.2=st2:=by
    unfold eg at hq
    split at hq
    ·obtain⟨_,h⟩:=fN hq
     obtain⟨z,_,h⟩:=Tree.aB h
     cases h;rfl
    ·cases hq
   rw[←this]
  rw[Tree.get_bind,hp2]
  simp only[Option.bind_some,hd]
  exact h
 |buildSlice t n ps=>
  have ha':bJ (eK (ps.toList.map fun x=>ev x.2)) st st2:=by
   have:look E ev st id (.buildSlice t n ps) e=eK (ps.toList.map fun x=>ev x.2):=by simp[look,Op.operands,Function.comp_def]
   rwa [this]at ha
  refine⟨?_,by simp only[hU]at hk⊢;rw[←arrs _ (by simpa only[look]using ha)];exact hk,rfl⟩
  simp only[eQ]at h⊢
  split at h
  ·exact viaVal _ (fun t a hh=>by cases hh) (fun s d x hh=>by cases hh) (by simpa only[look]using ha) h
  ·rename_i k r hks
   rw[hks]at ha'
   have hfr:frozen E st2 (k::r)=frozen E st (k::r):=(kF ha').symm
   have hdat: ∀x∈ps.toList,gN E (freeze E st2 (k::r)) 0 (ev x.2)=gN E (freeze E st (k::r)) 0 (ev x.2):=fun x hx=>
    (C3 (ev x.2) ((KA ha').mono fun j hj=>by rw[←hks];exact Bp (List.mem_map.2 ⟨x,hx,rfl⟩) j hj)).symm
   have hmap:(ps.toList.map fun x=>(x.1,gN E (freeze E st2 (k::r)) 0 (ev x.2)))=ps.toList.map fun x=>(x.1,gN E (freeze E st (k::r)) 0 (ev x.2)):=List.map_congr_left fun x hx=>by rw[hdat x hx]
   rw[hfr,hmap]
   exact h
 |store t a v=>
  simp only[eQ]at h⊢
  have hlvc:bJ (refs (ev v)) st st2→live E st2 (rowsOf E (ev a) (ev v))=live E st (rowsOf E (ev a) (ev v)):=by
   intro hag
   unfold live
   refine List.filter_congr fun x hx=> ?_
   rw[hag x]
   unfold rowsOf at hx
   split at hx
   ·rename_i p _
    cases hi:Fx p with
    |true=>rw[hi]at hx;exact hx
    |false=>rw[hi]at hx;cases hx
   ·cases hx
  split at h
  ·rename_i hlv
   split at h
   ·rename_i k p hev
    have hlk: ∀s:St E.T,look E ev s id (.store t a v) e=k::(jq E s k++refs (ev v)):=fun s=>by simp only[look,hev]
    rw[hlk]at ha
    have hk':=ha k (by simp)
    refine⟨?_,rfl,by rw[hlk,hlk,uR hk']⟩
    have hl2:=hlvc (ha.mono fun j hj=>by simp[hj])
    rw[hl2,hlv]
    simp only
    rw[←hk']
    split at h
    ·rename_i b hb
     rw[←yL (st:=st) (st2:=st2) t (ev v) (ha.mono fun j hj=>by simp[qB _ j hj])]
     rw[←G1 (ok:=mg E st t) (ok2:=mg E st2 t) (ev v) p b (fun d' hd=>BT t d' (ha.mono fun j hj=>by
      have:=hd j hj
      have h2:j∈jq E st k:=by unfold jq;rw[hb];exact this
      simp[h2]))]
     exact h
    ·cases h
   ·cases h
  ·rename_i k r hlv
   split at h
   ·rename_i q p hev
    have hlk: ∀s:St E.T,look E ev s id (.store t a v) e=q::(jq E s q++refs (ev v)):=fun s=>by simp only[look,hev]
    rw[hlk]at ha
    have hq':=ha q (by simp)
    have hag:bJ (refs (ev v)) st st2:=ha.mono fun j hj=>by simp[hj]
    refine⟨?_,rfl,by rw[hlk,hlk,uR hq']⟩
    have hl2:=hlvc hag
    rw[hl2,hlv]
    simp only
    have hks:bJ (k::r) st st2:=fun j hj=>hag j (by
     have h1:j∈live E st (rowsOf E (ev a) (ev v)):=by rw[hlv];exact hj
     have h2:=(List.mem_filter.1 h1).1
     rw[hev]at h2
     simp only[rowsOf]at h2
     cases hi:Fx p with
     |true=>rw[hi]at h2;exact h2
     |false=>rw[hi]at h2;cases h2)
    have hfz: ∀j,aR st j=aR st2 j→aR (freeze E st (k::r)) j=aR (freeze E st2 (k::r)) j:=fun j hj=>by
     rw[←dp,←dp,←kF hks]
     exact qK _ _ _ j hj
    have hdat:gN E (freeze E st2 (k::r)) 0 (ev v)=gN E (freeze E st (k::r)) 0 (ev v):=(C3 (ev v) fun j hj=>hfz j (hag j (qB _ j hj))).symm
    rw[hdat,←hfz q hq',←kF hks]
    split at h
    ·rename_i l e' xs hb
     obtain⟨hn,h⟩:=Tree.aO h
     have hn2:=hn
     simp only[Bool.and_eq_true]at hn
     have hem:owns (gN E (freeze E st (k::r)) 0 (ev v))=[]:=List.isEmpty_iff.1 hn.2
     rw[←yL (st:=freeze E st (k::r)) (st2:=freeze E st2 (k::r)) t (gN E (freeze E st (k::r)) 0 (ev v)) (by rw[hem];intro j hj;cases hj)]
     rw[←G1 (ok:=mg E (freeze E st (k::r)) t) (ok2:=mg E (freeze E st2 (k::r)) t) (gN E (freeze E st (k::r)) 0 (ev v)) p (.arr l e' xs) (fun d' hd=>BT t d' fun j hj=>by
      have:=hd j hj
      cases this)]
     rw[hn2]
     exact h
    ·cases h
   ·cases h
 |load t a=>
  simp only[eQ]at h⊢
  obtain⟨v,hv,rfl⟩:=mY h
  simp only[gh]at hv⊢
  refine⟨?_,rfl,rfl⟩
  have key:(xY E st2 t (ev a)).get=some v:=by
   unfold xY at hv⊢
   split at hv
   ·rename_i k p hev
    have ha':bJ (k::refs v) st st2:=by
     have:look E ev st id (.load t a) (rV E v)=k::refs v:=by simp only[look,hev,rV]
     rwa [this]at ha
    rw[←ha' k (by simp)]
    split at hv
    ·rename_i b hb
     obtain⟨v',h1,h2⟩:=Tree.aB hv
     obtain⟨hf,h2⟩:=Tree.aO h2
     cases h2
     rw[Tree.get_bind,h1]
     simp only[Option.bind_some]
     rw[←yL (st:=st) (st2:=st2) t v (ha'.mono fun j hj=>by simp[qB _ j hj]),hf]
     rfl
    ·cases hv
   ·exact hv
   ·cases hv
  rw[Tree.get_bind,key];rfl
 |call c=>
  obtain⟨callee,args,ats⟩:=c
  cases callee with
  |value f=>
   have hl:=hl.resolve_left (by simp[fg])
   simp only[hU,Bool.and_eq_true]at hk
   have hc:=yQ hk.1
   simp only[look]at ha
   have hin: ∀k∈kK E ev f args,k∈reach E st 1000 (kK E ev f args) []:=by
    intro k hk'
    have:=hk.2
    rw[List.all_eq_true]at this
    exact(ek _ k).1 (this k hk')
   have hcl: ∀k∈reach E st 1000 (kK E ev f args) [],∀j∈jq E st k,j∈reach E st 1000 (kK E ev f args) []:=by
    intro k hk' j hj
    unfold jq at hj
    split at hj
    ·rename_i ob hob;exact hc.obj k hk' ob hob j hj
    ·cases hj
   have hr:=rh hcl ha 1000 (kK E ev f args) [] hin
   refine⟨?_,?_,?_⟩
   ·simp only[eQ]at h⊢
    rw[←KY hcl ha hl hin];exact h
   ·simp only[hU,Bool.and_eq_true]
    rw[←hr,←vU ha hl]
    exact hk
   ·simp only[look];exact hr.symm
  |invoke r m=>simp only[eQ]at h;cases h
  |builtin b=>
   have hlk: ∀s:St E.T,look E ev s id (.call {callee:= .builtin b,args:=args,argTypes:=ats}) e=eK (args.toList.map ev):=fun s=>by simp[look,Op.operands,Call.operands]
   rw[hlk]at ha
   refine⟨?_,by simp only[hU,Op.operands,Call.operands]at hk⊢;rw[←arrs _ (by simpa using ha)];exact hk,by rw[hlk,hlk]⟩
   have hdv:=fun hh=>viaVal (.call {callee:= .builtin b,args:=args,argTypes:=ats}) (fun t a hh=>by cases hh) (fun s d x hh=>by cases hh) (by simpa [Op.operands,Call.operands]using ha) hh
   cases b<;>simp only[eQ]at h hdv⊢ <;>first|exact hdv h|skip
   have hl:=hl.resolve_left (by simp[fg])
   clear hdv
   split at h
   ·rename_i s x t tx hargs hats
    rw[hargs]at ha
    split at h
    ·unfold nL at h⊢
     simp only at h⊢
     split at h
     ·rename_i e' htk
      rw[←zw (st:=st) (st2:=st2) tx e' x _ (ha.mono fun k hk=>by simp[eK,hk])]
      rw[←h]
      congr 1
      refine(zx tx e' x _ _ _ _ (fun ys=> ?_)).symm
      simp only[Tree.bind]
      congr 1
      rw[hl]
      simp[List.drop_append,←hl]
     ·cases h
    ·rename_i k
     have hk':=ha k (by simp[eK,owns])
     unfold nL at h⊢
     simp only at h⊢
     rw[←hk']
     split at h
     ·rename_i e' xs hob
      have hlt:=bM hob
      have hlt2:k<st2.length:=by rw[←hl];exact hlt
      cases hty:wA E t (.slice e')with
      |false=>rw[hty]at h;cases h
      |true=>
       rw[hty]at h
       simp only[Tree.cR]at h⊢
       rw[←zw (st:=st) (st2:=st2) tx e' x _ (ha.mono fun j hj=>by simp[eK,hj])]
       rw[←h]
       congr 1
       refine(zx tx e' x _ _ _ _ (fun ys=> ?_)).symm
       simp only[Tree.bind]
       congr 1
       rw[bE,if_pos ⟨rfl,hlt⟩,bE,if_pos ⟨rfl,hlt2⟩]
     ·cases h
    ·cases h
   ·cases h
 |_=>
  refine⟨?_,by simp only[hU]at hk⊢;rw[←arrs _ (by simpa only[look]using ha)];exact hk,rfl⟩
  simp only[eQ]at h⊢
  exact viaVal _ (fun t a hh=>by cases hh) (fun s d x hh=>by cases hh) (by simpa only[look]using ha) h
end
end
open Go
noncomputable section
section
variable {E:Env} {st st1 st2:St E.T}
mutual
theorem oC (ks:List Nat): ∀(d:az E.T),(∀k∈refs d,k∉ks)→kill E st ks d=d
 | .own k,h=>by unfold kill;rw[kt.2 (h k (by simp[refs]))];rfl
 | .ptr o p,h=>by unfold kill;rw[kt.2 (h o (by simp[refs]))];rfl
 | .agg i fs,h=>by unfold kill;rw[vh ks fs (fun k hk=>h k (by unfold refs;exact hk))]
 | .jk fs,h=>by unfold kill;rw[vh ks fs (fun k hk=>h k (by unfold refs;exact hk))]
 | .fn f fs,h=>by unfold kill;rw[vh ks fs (fun k hk=>h k (by unfold refs;exact hk))]
 | .fG t v,h=>by unfold kill;rw[oC ks v (fun k hk=>h k (by unfold refs;exact hk))]
 | .val t x,h=>by unfold kill;rfl
 | .bj,h=>by unfold kill;rfl
 | .cM,h=>by unfold kill;rfl
 | .dZ t x,h=>by unfold kill;rfl
 | .ea,h=>by unfold kill;rfl
 | .cr,h=>by unfold kill;rfl
 | .dA e,h=>by unfold kill;rfl
 | .undef,h=>by unfold kill;rfl
theorem vh (ks:List Nat): ∀(ds:List (az E.T)),(∀k∈bg ds,k∉ks)→cU E st ks ds=ds
 |[],h=>by unfold cU;rfl
 |d::r,h=>by
  unfold cU
  rw[oC ks d (fun k hk=>h k (by unfold bg;exact List.mem_append_left _ hk)),vh ks r (fun k hk=>h k (by unfold bg;exact List.mem_append_right _ hk))]
end
mutual
theorem vg (ks:List Nat): ∀(d:az E.T),clean (kill E st ks d)=true→kill E st ks d=d
 | .own k,h=>by
  unfold kill at h⊢
  cases hb:cX ks k with
  |true=>rw[hb]at h;simp only[cond_true]at h;split at h<;>simp[clean]at h
  |false=>rfl
 | .ptr o p,h=>by
  unfold kill at h⊢
  cases hb:cX ks o with
  |true=>rw[hb]at h;simp[clean]at h
  |false=>rfl
 | .agg i fs,h=>by unfold kill at h⊢;unfold clean at h;rw[su ks fs h]
 | .jk fs,h=>by unfold kill at h⊢;unfold clean at h;rw[su ks fs h]
 | .fn f fs,h=>by unfold kill at h⊢;unfold clean at h;rw[su ks fs h]
 | .fG t v,h=>by unfold kill at h⊢;unfold clean at h;rw[vg ks v h]
 | .val t x,h=>by unfold kill;rfl
 | .bj,h=>by unfold kill;rfl
 | .cM,h=>by unfold kill;rfl
 | .dZ t x,h=>by unfold kill;rfl
 | .ea,h=>by unfold kill;rfl
 | .cr,h=>by unfold kill;rfl
 | .dA e,h=>by unfold kill;rfl
 | .undef,h=>by unfold kill;rfl
theorem su (ks:List Nat): ∀(ds:List (az E.T)),tp (cU E st ks ds)=true→cU E st ks ds=ds
 |[],h=>by unfold cU;rfl
 |d::r,h=>by
  unfold cU at h⊢
  unfold tp at h
  rw[Bool.and_eq_true]at h
  rw[vg ks d h.1,su ks r h.2]
end
mutual
theorem CF {s s':St E.T} {ks:List Nat} (h:bJ ks s s'): ∀(d:az E.T),kill E s ks d=kill E s' ks d
 | .own k=>by
  unfold kill
  cases hb:cX ks k with
  |true=>rw[h k ((ek ks k).1 hb)]
  |false=>rfl
 | .ptr o p=>by unfold kill;rfl
 | .agg i fs=>by unfold kill;rw[oE h fs]
 | .jk fs=>by unfold kill;rw[oE h fs]
 | .fn f fs=>by unfold kill;rw[oE h fs]
 | .fG t v=>by unfold kill;rw[CF h v]
 | .val t x=>by unfold kill;rfl
 | .bj=>by unfold kill;rfl
 | .cM=>by unfold kill;rfl
 | .dZ t x=>by unfold kill;rfl
 | .ea=>by unfold kill;rfl
 | .cr=>by unfold kill;rfl
 | .dA e=>by unfold kill;rfl
 | .undef=>by unfold kill;rfl
theorem oE {s s':St E.T} {ks:List Nat} (h:bJ ks s s'): ∀(ds:List (az E.T)),cU E s ks ds=cU E s' ks ds
 |[]=>by unfold cU;rfl
 |d::r=>by unfold cU;rw[CF h d,oE h r]
end
theorem IN {s s':St E.T} {ks:List Nat} (h:bJ ks s s'):bT E s ks=bT E s' ks:=by
 funext ob
 cases ob<;>simp[bT,CF h]
theorem IM {ks:List Nat} {ob:Obj E.T} (h: ∀k∈cd E ob,k∉ks):bT E st ks ob=ob:=by
 cases ob with
 |box ro c=>simp only[bT];rw[oC ks c h]
 |_=>rfl
theorem tN (ks:List Nat): ∀(ds:List (az E.T)) (t:Nat),nth (cU E st ks ds) t .undef=kill E st ks (nth ds t .undef)
 |[],t=>by unfold cU kill;rfl
 |d::r,0=>by unfold cU;rfl
 |d::r,t+1=>by unfold cU;exact tN ks r t
theorem CH (ks:List Nat): ∀(ds:List (az E.T)) (t:Nat) (v:az E.T),cU E st ks (df ds t v)=df (cU E st ks ds) t (kill E st ks v)
 |[],t,v=>by unfold cU;rfl
 |d::r,0,v=>by simp[cU,jK,gB,gC]
 |d::r,t+1,v=>by simp only[cU,jK,gB,gC];rw[CH ks r t v]
variable {fr:Fr E.T}
theorem zW {α:Type}: ∀(l:List α) (t t':Nat) (v d:α),t≠t'→nth (df l t v) t' d=nth l t' d
 |[],t,t',v,d,h=>rfl
 |x::r,0,0,v,d,h=>absurd rfl h
 |x::r,0,t'+1,v,d,h=>rfl
 |x::r,t+1,0,v,d,h=>rfl
 |x::r,t+1,t'+1,v,d,h=>by simp only[jK,gB,gC,ff,dW,dX];exact zW r t t' v d (fun e=>h (by rw[e]))
theorem EH {α:Type}: ∀(l:List α) (t t':Nat) (v v':α),t≠t'→df (df l t v) t' v'=df (df l t' v') t v
 |[],t,t',v,v',h=>rfl
 |x::r,0,0,v,v',h=>absurd rfl h
 |x::r,0,t'+1,v,v',h=>rfl
 |x::r,t+1,0,v,v',h=>rfl
 |x::r,t+1,t'+1,v,v',h=>by simp only[jK,gB,gC];rw[EH r t t' v v' (fun e=>h (by rw[e]))]
theorem BV {dst:Option Tmp} {v:az E.T} {x:Operand} (h: ∀d,dst=some d→x≠ .tmp d):bY E (put E fr dst v) x=bY E fr x:=by
 cases dst with
 |none=>rfl
 |some d=>
  cases x with
  |tmp t=>
   simp only[bY,put]
   exact zW _ _ _ _ _ (fun e=>h d rfl (by rw[e]))
  |_=>rfl
theorem put_comm {d1 d2:Option Tmp} {v1 v2:az E.T} (h: ∀d,d1=some d→d2≠some d):put E (put E fr d1 v1) d2 v2=put E (put E fr d2 v2) d1 v1:=by
 cases d1 with
 |none=>rfl
 |some a=>
  cases d2 with
  |none=>rfl
  |some b=>
   simp only[put]
   rw[EH _ _ _ _ _ (fun e=>h a rfl (by rw[e]))]
theorem HM (ks:List Nat) (x:Operand) (hx: ∀t,x= .tmp t→kill E st ks (nth fr.s t .undef)=nth fr.s t .undef):bY E (dy E st ks fr) x=bY E fr x:=by
 rw[gA]
 cases x with
 |tmp t=>
  simp only[bY,iK]
  rw[tN]
  exact hx t rfl
 |_=>rfl
theorem Ki {ks:List Nat} {d:Option Tmp} {v:az E.T} (hv:kill E st ks v=v):dy E st ks (put E fr d v)=put E (dy E st ks fr) d v:=by
 rw[gA,gA]
 cases d with
 |none=>rfl
 |some t=>
  simp only[put,iK]
  rw[CH,hv]
theorem IQ {s s':St E.T} {ks:List Nat} (h:bJ ks s s'):dy E s ks fr=dy E s' ks fr:=by
 rw[gA,gA]
 unfold iK
 rw[oE h]
 have:(fun x:FuncId×List (az E.T)=>(x.1,cU E s ks x.2))=(fun x=>(x.1,cU E s' ks x.2)):=funext fun x=>by rw[oE h]
 rw[this]
def lg (E:Env) (all:List Oper) (o:Oper) (fr:Fr E.T):Option Bool:=
 match o.guard with
 |none=>some true
 |some (j,b)=>match pv all j with
  |some t=>match nth fr.s t .undef with
   | .val .bool c=>some (c==b)
   | .jk []=>some false
   |_=>none
  |none=>none
theorem Mp {all:List Oper} {o:Oper} {α:Type} {go pass:Fr E.T→Tree α} {r:α} (h:(guarded E all o.guard fr go pass).get=some r):
  (lg E all o fr=some true∧(go fr).get=some r)∨(lg E all o fr=some false∧(pass fr).get=some r):=by
 unfold guarded at h
 unfold lg
 split at h
 ·rename_i hg;rw[hg];exact .inl ⟨rfl,h⟩
 ·rename_i j b hg
  rw[hg]
  split at h
  ·rename_i t ht
   simp only[ht]
   by_cases hn:nth fr.s t .undef= .jk []
   ·rw[hn]at h⊢
    exact .inr ⟨rfl,h⟩
   ·have h:(match b with|true=>zT E fr t go pass|false=>zT E fr t pass go).get=some r:=by
     split at h
     ·rename_i h0;exact absurd h0 hn
     ·exact h
    cases b with
    |true=>
     obtain⟨c,hc,hor⟩:=rj h
     rw[hc]
     rcases hor with⟨rfl,h⟩|⟨rfl,h⟩
     ·exact .inl ⟨rfl,h⟩
     ·exact .inr ⟨rfl,h⟩
    |false=>
     obtain⟨c,hc,hor⟩:=rj h
     rw[hc]
     rcases hor with⟨rfl,h⟩|⟨rfl,h⟩
     ·exact .inr ⟨rfl,h⟩
     ·exact .inl ⟨rfl,h⟩
  ·cases h
theorem Kb {all:Array Oper} {o:Oper} {j:Nat} {b:Bool} {t:Tmp} (hg:o.guard=some (j,b)) (ht:pv all.toList j=some t):t∈o.looksAt all:=by
 unfold Oper.looksAt
 rw[hg]
 unfold pv at ht
 split at ht
 ·rename_i oj hj
  rw[cT,Array.getElem?_toList]at hj
  simp[hj,ht]
 ·cases ht
theorem o5 {all:Array Oper} {o:Oper} {dst:Option Tmp} {v:az E.T} (h: ∀d,dst=some d→d∉o.looksAt all):lg E all.toList o (put E fr dst v)=lg E all.toList o fr:=by
 unfold lg
 split
 ·rfl
 ·rename_i j b hg
  split
  ·rename_i t ht
   have hne:bY E (put E fr dst v) (.tmp t)=bY E fr (.tmp t):=BV (fun d hd e=>h d hd (by cases e;exact Kb hg ht))
   simp only[bY]at hne
   rw[hne]
  ·rfl
theorem yz {all:List Oper} {o:Oper} (ks:List Nat):lg E all o (dy E st ks fr)=lg E all o fr:=by
 rw[gA]
 unfold lg
 split
 ·rfl
 ·rename_i j b hg
  split
  ·rename_i t ht
   simp only[iK]
   rw[tN]
   generalize nth fr.s t .undef=d
   cases d with
   |own k=>
    unfold kill
    cases hb:cX ks k with
    |false=>rfl
    |true=>
     simp only[cond_true]
     have hq: ∀q:Option (Obj E.T),(match(match q with|some (.arr _ e _)=>(.dA e:az E.T)|_=> .undef)with| .val .bool c=>some (c==b)| .jk []=>some false|_=>none)=(none:Option Bool):=by
      intro q
      cases q with
      |none=>rfl
      |some o=>cases o<;>rfl
     exact hq _
   |ptr o p=>
    unfold kill
    cases hb:cX ks o<;>rfl
   |jk vs=>
    cases vs with
    |nil=>unfold kill;unfold cU;rfl
    |cons x r=>unfold kill;unfold cU;rfl
   |_=>unfold kill;rfl
  ·rfl
theorem EJ {id:Nat} {ob:Obj E.T}: ∀(l:List (Nat×Obj E.T)) (s:St E.T),id∉l.map (·.1)→cy E (df s id ob) l=df (cy E s l) id ob
 |[],s,_=>rfl
 |p::r,s,h=>by
  simp only[cy]
  simp only[List.map_cons,List.mem_cons,not_or]at h
  rw[EH s id p.1 ob p.2 h.1,EJ r _ h.2]
theorem EI {α:Type}: ∀(l r:List α) (i:Nat) (v:α),i<l.length→df (l++r) i v=df l i v++r
 |[],r,i,v,h=>by simp at h
 |x::l,r,0,v,h=>rfl
 |x::l,r,i+1,v,h=>by simp only[List.cons_append,jK,gB,gC];rw[EI l r i v (by simpa using h)]
theorem Re {id:Nat} {ob:Obj E.T} {e:rT E.T} (gm:id<st.length) (h1:id∉e.iM.map (·.1)) (h2:id∉e.ks) (h3: ∀k∈cd E ob,k∉e.ks):
  dJ E (df st id ob) e=df (dJ E st e) id ob:=by
 have ha:bJ e.ks (df st id ob) st:=fun k hk=>by
  rw[bE,if_neg]
  rintro⟨rfl,_⟩
  exact h2 hk
 unfold dJ
 rw[qH,qH,oD,oD,IN ha,Ep,IM h3,EJ _ _ h1,EI _ _ _ _ (by rw[ez,List.length_map];exact gm)]
theorem yS {dst:Option Tmp} {e:rT E.T} {v:az E.T} (hv:e.res= .val v) (hk:e.ks=[]) (hn:e.news=[]):cI E fr st dst e= .next (put E fr dst v) (cy E st e.iM):=by
 unfold cI dJ
 rw[hv,hk,hn]
 rfl
def Ef (out:wv E) (dst:Option Tmp) (v:az E.T) (iM:List (Nat×Obj E.T)):wv E:=
 match out with
 | .next f s=> .next (put E f dst v) (cy E s iM)
 | .panic u f s=> .panic u (put E f dst v) (cy E s iM)
theorem F6 {dm dc:Option Tmp} {v:az E.T} {iM:List (Nat×Obj E.T)} {e:rT E.T} (hd: ∀d,dm=some d→dc≠some d) (hv: ∀k∈refs v,k∉e.ks)
  (hu:iM=[]∨ ∃id ob,iM=[(id,ob)]∧id<st.length∧id∉e.iM.map (·.1)∧id∉e.ks∧ ∀k∈cd E ob,k∉e.ks):
  cI E (put E fr dm v) (cy E st iM) dc e=Ef (cI E fr st dc e) dm v iM:=by
 have hkv:kill E st e.ks v=v:=oC e.ks v hv
 have hst:dJ E (cy E st iM) e=cy E (dJ E st e) iM∧dy E (cy E st iM) e.ks (put E fr dm v)=put E (dy E st e.ks fr) dm v:=by
  rcases hu with rfl|⟨id,ob,rfl,h1,h2,h3,h4⟩
  ·exact⟨rfl,Ki hkv⟩
  ·refine⟨Re h1 h2 h3 h4,?_⟩
   have ha:bJ e.ks (cy E st [(id,ob)]) st:=fun k hk=>by
    simp only[cy]
    rw[bE,if_neg]
    rintro⟨rfl,_⟩
    exact h3 hk
   rw[IQ ha]
   exact Ki hkv
 unfold cI
 rw[hst.1,hst.2]
 cases e.res with
 |val u=>
  simp only[Ef]
  rw[put_comm hd]
 |panic u=>rfl
end
end
open Go
noncomputable section
section
variable {E:Env} {st st1 st2:St E.T} {fr fr2:Fr E.T} {S:FuncId→Option (Spec E)} {fx:List Nat} {all:Array Oper}
theorem Sd {ev ev2:Operand→az E.T} {id:Nat} {e:rT E.T} (o:Op) (h: ∀x∈o.operands,ev x=ev2 x):look E ev st id o e=look E ev2 st id o e:=by
 have hmap:o.operands.toList.map ev=o.operands.toList.map ev2:=List.map_congr_left fun x hx=>h x (by simpa using hx)
 cases o with
 |move x=>rfl
 |assign x=>rfl
 |alloc t=>rfl
 |load t a=>simp only[look];rw[h a (by simp[Op.operands])]
 |store t a v=>simp only[look];rw[h a (by simp[Op.operands]),h v (by simp[Op.operands])]
 |box t v=>simp only[look];rw[h v (by simp[Op.operands])]
 |makeSlice t l c=>simp only[look];rw[h l (by simp[Op.operands]),h c (by simp[Op.operands])]
 |convert s d x=>simp only[look];rw[h x (by simp[Op.operands])]
 |call c=>
  obtain⟨callee,args,ats⟩:=c
  cases callee with
  |value f=>
   have h1:args.toList.map ev=args.toList.map ev2:=List.map_congr_left fun x hx=>h x (by simp[Op.operands,Call.operands];exact .inr (by simpa using hx))
   simp only[look,kK]
   rw[h f (by simp[Op.operands,Call.operands]),h1]
  |_=>simp only[look];rw[hmap]
 |_=>simp only[look];rw[hmap]
theorem OM {ev ev2:Operand→az E.T} (o:Op) (h: ∀x∈o.operands,ev x=ev2 x):hU E ev st o=hU E ev2 st o:=by
 have hmap:o.operands.toList.map ev=o.operands.toList.map ev2:=List.map_congr_left fun x hx=>h x (by simpa using hx)
 cases o with
 |move x=>rfl
 |assign x=>rfl
 |alloc t=>rfl
 |load t a=>rfl
 |store t a v=>rfl
 |box t v=>simp only[hU];rw[h v (by simp[Op.operands])]
 |makeSlice t l c=>simp only[hU];rw[h l (by simp[Op.operands]),h c (by simp[Op.operands])]
 |convert s d x=>simp only[hU];rw[h x (by simp[Op.operands])]
 |call c=>
  obtain⟨callee,args,ats⟩:=c
  cases callee with
  |value f=>
   have h1:args.toList.map ev=args.toList.map ev2:=List.map_congr_left fun x hx=>h x (by simp[Op.operands,Call.operands];exact .inr (by simpa using hx))
   simp only[hU,kK]
   rw[h f (by simp[Op.operands,Call.operands]),h1]
  |_=>simp only[hU];rw[hmap]
 |_=>simp only[hU];rw[hmap]
theorem L9 {ev ev2:Operand→az E.T} (o:Op) (h: ∀x∈o.operands,ev x=ev2 x):fg E ev o=fg E ev2 o:=by
 cases o with
 |buildSlice t n ps=>
  have hp: ∀x∈ps.toList,ev x.2=ev2 x.2:=fun x hx=>h x.2 (by simp only[Op.operands];simp;exact⟨x.1,by simpa using hx⟩)
  have h1:(ps.toList.map fun x=>ev x.2)=ps.toList.map fun x=>ev2 x.2:=List.map_congr_left hp
  simp only[fg,h1]
 |call c=>
  obtain⟨callee,args,ats⟩:=c
  cases callee with
  |builtin b=>cases b<;>rfl
  |_=>rfl
 |_=>rfl
theorem FI {ev ev2:Operand→az E.T} {id:Nat} {e:rT E.T} (o:Op) (h: ∀x∈o.operands,ev x=ev2 x):iQ E ev st id o e=iQ E ev2 st id o e:=by
 have hmap:o.operands.toList.map ev=o.operands.toList.map ev2:=List.map_congr_left fun x hx=>h x (by simpa using hx)
 unfold iQ
 rw[Sd o h,hmap,L9 o h]
 cases o with
 |load t a=>simp only;rw[h a (by simp[Op.operands])]
 |store t a v=>simp only;rw[h a (by simp[Op.operands]),h v (by simp[Op.operands])]
 |_=>rfl
def kM (S:FuncId→Option (Spec E)) (fx:List Nat) (all:Array Oper) (x:y6) (fr:Fr E.T) (st:St E.T) (e:rT E.T) (en:Option y7):Prop:=
 (lg E all.toList x.o fr=some true∧(eQ E S fx (bY E fr) st x.id x.o.op).get=some e∧hU E (bY E fr) st x.o.op=true∧en=some (iQ E (bY E fr) st x.id x.o.op e))∨
 (lg E all.toList x.o fr=some false∧e=rV E (.jk [])∧en=none)
theorem kM.to {x:y6} {e:rT E.T} {en:Option y7} (h:kM S fx all x fr st e en) (hop: ∀z∈x.o.op.operands,bY E fr2 z=bY E fr z) (hw:lg E all.toList x.o fr2=lg E all.toList x.o fr)
  (ha: ∀a,en=some a→bJ a.lk st st2) (hl:fg E (bY E fr) x.o.op=true∨st.length=st2.length):kM S fx all x fr2 st2 e en:=by
 rcases h with⟨h1,h2,h3,h4⟩|⟨h1,h2,h3⟩
 ·subst h4
  have ha':bJ (look E (bY E fr) st x.id x.o.op e) st st2:=ha _ rfl
  obtain⟨g1,g2,g3⟩:=SE h2 h3 ha' hl
  refine .inl ⟨by rw[hw,h1],by rw[SF _ hop];exact g1,by rw[OM _ hop];exact g2,?_⟩
  rw[FI _ hop]
  unfold iQ
  rw[g3]
  have:List.range' st.length e.news.length=List.range' st2.length e.news.length:=by
   rcases hl with hl|hl
   ·rw[(tX hl h2).news];rfl
   ·rw[hl]
  rw[this]
 ·exact .inr ⟨by rw[hw,h1],h2,h3⟩
theorem tW {a b:List Nat}:ME a b=true↔ ∀k∈a,k∉b:=by
 unfold ME
 rw[List.all_eq_true]
 constructor
 ·intro h k hk hb
  have:=h k hk
  rw[(ek b k).2 hb]at this;cases this
 ·intro h k hk
  rw[kt.2 (h k hk)];rfl
theorem R9 {ev:Operand→az E.T} {id:Nat} {o:Op} {e:rT E.T} (h:fg E ev o=true):(iQ E ev st id o e).RO=none:=by
 unfold iQ
 cases o<;>first|rfl|cases h
theorem yA: ∀(l:List (Nat×Obj E.T)) (s:St E.T) (k:Nat),k∉l.map (·.1)→aR (cy E s l) k=aR s k
 |[],s,k,_=>rfl
 |p::r,s,k,h=>by
  simp only[List.map_cons,List.mem_cons,not_or]at h
  rw[cy,yA r _ k h.2,bE,if_neg (fun hh=>h.1 hh.1.symm)]
theorem tV {e:rT E.T} {k:Nat} (hk:k<st.length) (hu:k∉e.iM.map (·.1)):aR (dJ E st e) k=(aR st k).map (bT E st e.ks):=by
 unfold dJ
 rw[qH,E6,ez,oD,List.length_map,if_pos hk,yA _ _ _ hu,dx]
theorem KN {e:rT E.T} {k:Nat} (hk: ¬k<st.length) (hn:k∉List.range' st.length e.news.length):aR (dJ E st e) k=none:=by
 unfold dJ
 rw[qH,E6,ez,oD,List.length_map,if_neg hk,cT]
 rw[List.getElem?_eq_none]
 rw[List.mem_range'_1]at hn
 omega
theorem IP {ks:List Nat} {ob:Obj E.T} (h: ∀ro c,ob≠ .box ro c):bT E st ks ob=ob:=by
 cases ob with
 |box ro c=>exact absurd rfl (h ro c)
 |_=>rfl
theorem pw: ∀(p:List Step) {t:Ty} {x:I E.T t} {v:az E.T},(rU E p (.val t x)).get=some v→refs v=[]
 |[],t,x,v,h=>by cases h;simp[refs]
 | .td i j::p,t,x,v,h=>by
  simp only[rU]at h
  have hd:(∃t' y,mH E i j (.val t x)= .val t' y)∨mH E i j (.val t x)= .undef:=by
   cases t with
   |named i'=>
    simp only[mH]
    cases Nat.beq i i' with
    |false=>exact .inr rfl
    |true=>
     simp only[cond_true]
     unfold parts
     generalize E.out i' x=r
     generalize E.fields i'=ts at r
     have: ∀(ts:List Ty) (r:HL E.T ts) (j:Nat),(∃t' y,nth (Pt E ts r) j .undef= .val t' y)∨nth (Pt E ts r) j .undef= .undef:=by
      intro ts
      induction ts with
      |nil=>intro r j;exact .inr (by simp[Pt,ff,dW,dX])
      |cons t ts ih=>
       intro r j
       cases j with
       |zero=>exact .inl ⟨t,r.1,by simp[Pt,ff,dW,dX]⟩
       |succ j=>simp only[Pt,ff,dW,dX];exact ih r.2 j
     exact this ts r j
   |_=>exact .inr rfl
  rcases hd with⟨t',y,hd⟩|hd
  ·rw[hd]at h;exact pw p h
  ·rw[hd]at h
   have:=yK.getP_undef p h
   subst this
   simp[refs]
 | .idx e n::p,t,x,v,h=>by
  cases t with
  |arr m e'=>
   simp only[rU]at h
   obtain⟨_,h⟩:=Tree.aO h
   simp only[Tree.get]at h
   obtain⟨y,_,h⟩:=Option.bind_eq_some_iff.1 h
   exact pw p h
  |_=>cases h
theorem xJ {ks:List Nat} {v:az E.T} (h:refs v=[]):kill E st ks v=v:=oC ks v (fun k hk=>by rw[h]at hk;cases hk)
theorem O3 (ks:List Nat) (i j:Nat) (d:az E.T):mH E i j (kill E st ks d)=kill E st ks (mH E i j d):=by
 cases d with
 |own k=>
  unfold kill
  cases cX ks k with
  |true=>simp only[cond_true];split<;>simp[mH,kill]
  |false=>simp[mH,kill]
 |ptr o p=>
  unfold kill
  cases cX ks o<;>simp[mH,kill]
 |agg i' fs=>
  rw[show kill E st ks (.agg i' fs)= .agg i' (cU E st ks fs)by simp[kill]]
  simp only[mH]
  cases Nat.beq i i' with
  |true=>simp only[cond_true];exact tN ks fs j
  |false=>simp[kill]
 |val t x=>
  rw[show kill E st ks (.val t x)= .val t x by simp[kill]]
  symm
  refine xJ ?_
  have:(rU E [.td i j] (.val t x)).get=some (mH E i j (.val t x)):=rfl
  exact pw _ this
 |_=>simp[mH,kill]
theorem HA (ks:List Nat): ∀(p:List Step) (d:az E.T),(rU E p (kill E st ks d)).get=((rU E p d).get).map (kill E st ks)
 |[],d=>rfl
 | .td i j::p,d=>by
  simp only[rU]
  rw[O3,HA ks p]
 | .idx e n::p,d=>by
  cases d with
  |val t x=>
   rw[show kill E st ks (.val t x)= .val t x by simp[kill]]
   cases hg:(rU E (.idx e n::p) (.val t x)).get with
   |none=>rfl
   |some v=>simp only[Option.map_some];rw[xJ (pw _ hg)]
  |own k=>
   unfold kill
   cases cX ks k with
   |true=>simp only[cond_true];split<;>rfl
   |false=>rfl
  |ptr o q=>unfold kill;cases cX ks o<;>rfl
  |_=>unfold kill;rfl
theorem HB (ks:List Nat) (p:List Step) (ob:Obj E.T):(BP E (bT E st ks ob) p).get=((BP E ob p).get).map (kill E st ks):=by
 cases ob with
 |box ro c=>exact HA ks p c
 |arr l e xs=>
  show(BP E (.arr l e xs) p).get=_
  cases p with
  |nil=>rfl
  |cons s p=>
   cases s with
   |td i j=>rfl
   |idx e' n=>
    cases hg:(BP E (.arr l e xs) (.idx e' n::p)).get with
    |none=>rfl
    |some v=>
     simp only[Option.map_some]
     have hr:refs v=[]:=by
      simp only[BP]at hg
      obtain⟨_,hg⟩:=Tree.aO hg
      simp only[Tree.get]at hg
      obtain⟨y,_,hg⟩:=Option.bind_eq_some_iff.1 hg
      exact pw _ hg
     rw[xJ hr]
 |dead=>rfl
theorem Gl {ok:az E.T→Bool} {v:az E.T}: ∀(q p:List Step) {d d1:az E.T},(uA E ok v q d).get=some d1→yt q p=true→rU E p d1=rU E p d
 |[],p,d,d1,_,h=>by cases h
 | .idx e n::q,p,d,d1,_,h=>by cases p<;>cases h
 | .td i j::q,[],d,d1,_,h=>by cases h
 | .td i j::q,.idx e n::p,d,d1,_,h=>by cases h
 | .td i j::q,.td i' j'::p,d,d1,hs,h=>by
  simp only[yt,Bool.and_eq_true]at h
  obtain⟨hi,hj⟩:=h
  have hi:=Nat.eq_of_beq_eq_true hi;subst hi
  simp only[uA]at hs
  split at hs
  ·rename_i i0 fs he
   obtain⟨hb,hs⟩:=Tree.aO hs
   rw[Bool.and_eq_true]at hb
   have hb1:=Nat.eq_of_beq_eq_true hb.1;subst hb1
   have hlt:=Gd hb.2
   obtain⟨d2,h1,h2⟩:=Tree.aB hs
   cases h2
   have hd:mH E i j' d=nth fs j' .undef:=by
    cases d with
    |val t x=>
     cases t with
     |named i'=>
      simp only[nI,Option.some.injEq,Prod.mk.injEq]at he
      obtain⟨rfl,rfl⟩:=he
      simp[mH,Nat.beq_refl]
     |_=>cases he
    |agg i' fs'=>
     simp only[nI,Option.some.injEq,Prod.mk.injEq]at he
     obtain⟨rfl,rfl⟩:=he
     simp[mH,Nat.beq_refl]
    |_=>cases he
   simp only[rU]
   rw[hd]
   have hd1:mH E i j' (.agg i (df fs j d2))=nth (df fs j d2) j' .undef:=by simp[mH,Nat.beq_refl]
   rw[hd1]
   cases hjj:Nat.beq j j' with
   |true=>
    have:=Nat.eq_of_beq_eq_true hjj;subst this
    rw[hjj]at hj
    simp only[cond_true]at hj
    have hn:nth (df fs j d2) j .undef=d2:=by
     have h3:=bE fs j j d2
     rw[if_pos ⟨rfl,hlt⟩]at h3
     rw[cT]at h3
     rw[ko,List.getD_eq_getElem?_getD,h3];rfl
    rw[hn]
    exact Gl q p h1 hj
   |false=>
    rw[zW _ _ _ _ _ (fun e=>by rw[e,Nat.beq_refl]at hjj;cases hjj)]
  ·cases hs
theorem Gm {ok:az E.T→Bool} {v:az E.T} {b b1:Obj E.T} {q p:List Step} (h:(zK E ok v b q).get=some b1) (ha:yt q p=true):BP E b1 p=BP E b p:=by
 cases b with
 |box ro c=>
  cases ro with
  |false=>
   simp only[zK]at h
   obtain⟨c',h1,h2⟩:=Tree.aB h
   cases h2
   exact Gl q p h1 ha
  |true=>cases h
 |arr l e xs=>
  cases q with
  |nil=>cases h
  |cons s q=>
   cases s with
   |td i j=>cases h
   |idx e' n=>cases ha
 |dead=>cases h
theorem yN {t:TypeId} {k:Nat} {p:List Step} {v:az E.T}:(xY E st t (.ptr k p)).get=some v↔ ∃b,aR st k=some b∧(BP E b p).get=some v∧fits E st t v=true:=by
 unfold xY
 constructor
 ·intro h
  simp only at h
  split at h
  ·rename_i b hb
   obtain⟨v',h1,h2⟩:=Tree.aB h
   obtain⟨hf,h2⟩:=Tree.aO h2
   cases h2
   exact⟨b,hb,h1,hf⟩
  ·cases h
 ·rintro⟨b,hb,h1,h2⟩
  simp only[hb]
  rw[Tree.get_bind,h1]
  simp only[Option.bind_some,h2]
  rfl
theorem BS {t:TypeId} {v:az E.T} (hf:fits E st t v=true) (h: ∀k,v= .own k→ ∀l e xs,aR st k=some (.arr l e xs)→aR st2 k=some (.arr l e xs)):fits E st2 t v=true:=by
 by_cases hv: ∃k,v= .own k
 ·obtain⟨k,rfl⟩:=hv
  unfold fits at hf⊢
  cases htk:E.tk t with
  |data ty=>
   rw[htk]at hf
   simp only[qg]at hf⊢
   split at hf
   ·rename_i l e xs hk
    rw[h k rfl l e xs hk];exact hf
   ·cases hf
  |other=>rw[htk]at hf;cases hf
  |_=>rw[htk]at hf;cases hf
 ·have:fits E st2 t v=fits E st t v:=by
   unfold fits
   cases v with
   |own k=>exact absurd ⟨k,rfl⟩ hv
   |_=>rfl
  rw[this];exact hf
end
end
open Go
section
variable {E:Env} {st st1 st2:St E.T} {fr fr1 fr2:Fr E.T} {S:FuncId→Option (Spec E)} {fx:List Nat} {all:Array Oper}
theorem Ml {k:Nat} (h:zm E st k=true): ∃l e xs,aR st k=some (.arr l e xs):=by
 unfold zm at h
 split at h
 ·rename_i l e xs hk;exact⟨l,e,xs,hk⟩
 ·cases h
theorem Kd {ev:Operand→az E.T} {id:Nat} {o:Op} {e:rT E.T} (hm:fg E ev o=true) (h:(eQ E S fx ev st id o).get=some e) (hk:hU E ev st o=true) (hn: ∀t a k p,o= .load t a→ev a≠ .ptr k p):
  ∀k∈look E ev st id o e,∃ob,aR st k=some ob∧ ∀ro c,ob≠ .box ro c:=by
 have arrs: ∀L:List Nat,L.all (zm E st)=true→ ∀k∈L,∃ob,aR st k=some ob∧ ∀ro c,ob≠ .box ro c:=by
  intro L hL k hk
  rw[List.all_eq_true]at hL
  obtain⟨l,e,xs,h⟩:=Ml (hL k hk)
  exact⟨_,h,fun ro c h=>by cases h⟩
 have dead: ∀{ob},aR st id=some .dead→ob=id→ ∃ob',aR st ob=some ob'∧ ∀ro c,ob'≠ .box ro c:=fun h1 h2=>⟨.dead,by rw[h2];exact h1,fun ro c h=>by cases h⟩
 intro k hkk
 cases o with
 |move x=>cases hkk
 |assign x=>cases hkk
 |alloc t=>
  have hM:=tX hm h
  simp only[look,List.mem_singleton]at hkk
  simp only[eQ]at h
  split at h
  ·cases h
  ·exact dead (pU (Tree.aO h).1) hkk
 |load t a=>
  simp only[look]at hkk
  split at hkk
  ·rename_i k' p v hev _;exact absurd hev (hn t a k' p rfl)
  ·cases hkk
 |store t a v=>cases hm
 |makeSlice t l c=>
  simp only[look,List.mem_cons]at hkk
  rcases hkk with hkk|hkk
  ·simp only[eQ]at h
   obtain⟨p,hp,h⟩:=Tree.aB h
   split at h
   ·exact dead (pU (Tree.aO h).1) hkk
   ·cases h
  ·exact arrs _ hk k hkk
 |box t v=>
  simp only[look,List.mem_cons]at hkk
  simp only[eQ]at h
  obtain⟨hd,_⟩:=Tree.aO h
  rw[Bool.and_eq_true]at hd
  rcases hkk with hkk|hkk
  ·exact dead (pU hd.1) hkk
  ·exact arrs _ hk k hkk
 |convert s d x=>
  simp only[look,List.mem_append]at hkk
  rcases hkk with hkk|hkk
  ·have hs:xQ E d=true:=by
    cases hb:xQ E d with
    |true=>rfl
    |false=>rw[hb]at hkk;cases hkk
   rw[hs]at hkk
   simp only[cond_true,List.mem_singleton]at hkk
   simp only[eQ]at h
   split at h
   ·split at h
    ·obtain⟨hd,_⟩:=Tree.aO h
     rw[Bool.and_eq_true]at hd
     exact dead (pU hd.2) hkk
    ·cases h
   ·exfalso
    unfold xQ at hs
    split at hs
    ·rename_i e' he
     simp only[gh,he]at h
     cases h
    ·cases hs
  ·exact arrs _ hk k hkk
 |call c=>
  obtain⟨callee,args,ats⟩:=c
  cases callee with
  |value f=>cases hm
  |invoke r m=>exact arrs _ hk k hkk
  |builtin b=>exact arrs _ hk k hkk
 |_=>exact arrs _ hk k hkk
theorem PM {x:y6} {e:rT E.T} {a:y7} {k:Nat} {q:List Step} (h:kM S fx all x fr st e (some a)) (hs:a.RO=some (k,q)):
  ∃ok v b b1,aR st k=some b∧(zK E ok v b q).get=some b1∧e={res:= .val .undef,iM:=[(k,b1)],ks:=[],news:=[]}:=by
 rcases h with⟨h1,h2,h3,h4⟩|⟨_,_,h3⟩
 ·cases h4
  unfold iQ at hs
  simp only at hs
  generalize x.o.op=o at*
  cases o with
  |store t z v=>
   simp only at hs
   split at hs
   ·rename_i k' p hev
    cases hr:(refs (bY E fr v)).isEmpty with
    |false=>rw[hr]at hs;cases hs
    |true=>
     rw[hr]at hs
     cases hs
     have hl0:live E st (rowsOf E (.ptr k q) (bY E fr v))=[]:=by
      have:refs (bY E fr v)=[]:=List.isEmpty_iff.1 hr
      have h0:rowsOf E (.ptr k q) (bY E fr v)=[]:=by
       simp only[rowsOf,this]
       cases Fx q<;>rfl
      rw[h0];rfl
     simp only[eQ,hev,hl0]at h2
     split at h2
     ·rename_i b hb
      obtain⟨_,h2⟩:=Tree.aO h2
      obtain⟨b1,h5,h6⟩:=Tree.aB h2
      cases h6
      exact⟨_,_,b,b1,hb,h5,rfl⟩
     ·cases h2
   ·cases hs
  |_=>cases hs
 ·cases h3
theorem Nh {x:y6} {e ec:rT E.T} {b:y7} {dc:Option Tmp} {vc:az E.T} (hm:fg E (bY E fr) x.o.op=true) (h:kM S fx all x fr st e (some b)) (hd: ∀d,dc=some d→d∉x.o.looksAt all) (hv: ∀k∈ec.ks,k∉b.vr)
  (hs:(∀k∈b.lk,k∉ec.iM.map (·.1))∨(∃k p q rs ok v b0 b1,b.ld=some (k,p,rs)∧yt q p=true∧aR st k=some b0∧(zK E ok v b0 q).get=some b1∧ec={res:= .val .undef,iM:=[(k,b1)],ks:=[],news:=[]}∧k∉rs)):
  kM S fx all x (put E (dy E st ec.ks fr) dc vc) (dJ E st ec) e (some b):=by
 rcases h with⟨h1,h2,h3,h4⟩|⟨_,_,h4⟩
 rotate_left
 ·cases h4
 have hb:b=iQ E (bY E fr) st x.id x.o.op e:=Option.some.inj h4
 have hvr: ∀k∈ec.ks,k∉bg (x.o.op.operands.toList.map (bY E fr))∧k∉sB E e.res:=by
  intro k hk
  have:=hv k hk
  rw[hb]at this
  simp only[iQ,List.mem_append,not_or]at this
  exact this
 have hop: ∀z∈x.o.op.operands,bY E (put E (dy E st ec.ks fr) dc vc) z=bY E fr z:=by
  intro z hz
  rw[BV (fun d hd' e=>hd d hd' (by subst e;exact List.mem_append_left _ (List.mem_filterMap.2 ⟨.tmp d,by simpa using hz,rfl⟩)))]
  refine HM ec.ks z (fun t ht=> ?_)
  subst ht
  refine oC _ _ (fun k hk hkk=>(hvr k hkk).1 ?_)
  exact EX (d:=bY E fr (.tmp t)) (List.mem_map.2 ⟨.tmp t,by simpa using hz,rfl⟩) k hk
 have hw:lg E all.toList x.o (put E (dy E st ec.ks fr) dc vc)=lg E all.toList x.o fr:=by rw[o5 hd,yz]
 by_cases hload: ∃t z k p,x.o.op= .load t z∧bY E fr z= .ptr k p
 ·obtain⟨t,z,k,p,hop',hev⟩:=hload
  have h2':=h2
  rw[hop']at h2'
  simp only[eQ]at h2'
  obtain⟨v,hv',he⟩:=mY h2'
  simp only[gh,hev]at hv'
  obtain⟨b0,hb0,hg,hf⟩:=yN.1 hv'
  have hres:e.res= .val v:=by rw[he];rfl
  have hlk:b.lk=k::refs v:=by rw[hb];simp only[iQ,hop',look,hev,hres]
  have hld:b.ld=some (k,p,refs v):=by rw[hb];simp only[iQ,hop',hev,hres]
  have hkv:kill E st ec.ks v=v:=oC _ _ (fun j hj hjk=>(hvr j hjk).2 (by rw[hres];exact hj))
  have key: ∃b2,aR (dJ E st ec) k=some b2∧(BP E b2 p).get=some v∧fits E (dJ E st ec) t v=true:=by
   rcases hs with hs|⟨k',p',q,rs,ok,v',b0',b1,g1,g2,g3,g4,g5,g6⟩
   ·rw[hlk]at hs
    refine⟨bT E st ec.ks b0,by rw[tV (bM hb0) (hs k (by simp)),hb0];rfl,by rw[HB,hg];simp only[Option.map_some];rw[hkv],BS hf (fun j hj l e' xs hjk=> ?_)⟩
    rw[tV (bM hjk) (hs j (by subst hj;simp[refs])),hjk];rfl
   ·rw[hld]at g1
    cases g1
    rw[hb0]at g3;cases g3
    subst g5
    refine⟨b1,?_,by rw[Gm g4 g2];exact hg,BS hf (fun j hj l e' xs hjk=> ?_)⟩
    ·show aR (df st k b1) k=some b1
     rw[bE,if_pos ⟨rfl,bM hb0⟩]
    ·show aR (df st k b1) j=_
     rw[bE,if_neg]
     ·exact hjk
     ·rintro⟨rfl,_⟩
      exact g6 (by subst hj;simp[refs])
  have hdl:=yN.2 key
  have hze:bY E (put E (dy E st ec.ks fr) dc vc) z= .ptr k p:=by rw[hop z (by rw[hop'];simp[Op.operands]),hev]
  refine .inl ⟨by rw[hw,h1],?_,by rw[hop'];rfl,?_⟩
  ·rw[hop']
   simp only[eQ,gh,hze]
   rw[Tree.get_bind,hdl,he]
   rfl
  ·rw[hb,FI _ hop]
   unfold iQ
   have hM:=tX hm h2
   rw[hM.news]
   simp only[hop',look,hev,hres,List.length_nil,List.range'_zero]
 ·have hld:b.ld=none:=by
   rw[hb]
   unfold iQ
   simp only
   generalize hoo:x.o.op=oo at*
   cases oo with
   |load t z=>
    simp only
    split
    ·rename_i k p v hev _;exact absurd ⟨t,z,k,p,rfl,hev⟩ hload
    ·rfl
   |_=>rfl
  have hs': ∀k∈b.lk,k∉ec.iM.map (·.1):=by
   rcases hs with hs|⟨k',p',q,rs,ok,v',b0',b1,g1,_⟩
   ·exact hs
   ·rw[hld]at g1;cases g1
  have hkinds:=Kd hm h2 h3 (fun t a k p h hev=>hload ⟨t,a,k,p,h,hev⟩)
  refine kM.to (.inl ⟨h1,h2,h3,h4⟩) hop hw (fun a ha=> ?_) (.inl hm)
  cases ha
  intro k hk
  obtain⟨ob,ho,hnb⟩:=hkinds k (by rw[hb]at hk;exact hk)
  rw[tV (bM ho) (hs' k hk),ho]
  simp only[Option.map_some]
  rw[IP hnb]
theorem Sa {x:y6} {e ec:rT E.T} {b:y7} {dc:Option Tmp} {vc:az E.T} (hm:fg E (bY E (put E (dy E st ec.ks fr) dc vc)) x.o.op=true) (h:kM S fx all x (put E (dy E st ec.ks fr) dc vc) (dJ E st ec) e (some b)) (hd: ∀d,dc=some d→d∉x.o.looksAt all) (hcl:ec.ks=[]∨b.cl=true)
  (hs:(∀k∈b.lk,k∉ec.iM.map (·.1)∧k∉List.range' st.length ec.news.length)∨(∃k p q rs ok v b0 b1,b.ld=some (k,p,rs)∧yt q p=true∧aR st k=some b0∧(zK E ok v b0 q).get=some b1∧ec={res:= .val .undef,iM:=[(k,b1)],ks:=[],news:=[]}∧k∉rs)):
  kM S fx all x fr st e (some b):=by
 rcases h with⟨h1,h2,h3,h4⟩|⟨_,_,h4⟩
 rotate_left
 ·cases h4
 generalize hfr2:put E (dy E st ec.ks fr) dc vc=fr2 at*
 have hb:b=iQ E (bY E fr2) (dJ E st ec) x.id x.o.op e:=Option.some.inj h4
 have hop0: ∀z∈x.o.op.operands,bY E fr2 z=bY E (dy E st ec.ks fr) z:=by
  intro z hz
  rw[←hfr2]
  exact BV (fun d hd' e=>hd d hd' (by subst e;exact List.mem_append_left _ (List.mem_filterMap.2 ⟨.tmp d,by simpa using hz,rfl⟩)))
 have hclean:ec.ks=[]∨(tp (x.o.op.operands.toList.map (bY E fr2))=true∧F8 E e.res=true):=by
  rcases hcl with h|h
  ·exact .inl h
  ·rw[hb]at h
   simp only[iQ,Bool.and_eq_true]at h
   exact .inr h
 have clean_mem: ∀{d:az E.T} {l:List (az E.T)},tp l=true→d∈l→clean d=true:=by
  intro d l
  induction l with
  |nil=>intro _ h;cases h
  |cons v r ih=>
   intro h1 h2
   unfold tp at h1
   rw[Bool.and_eq_true]at h1
   rcases List.mem_cons.1 h2 with rfl|h2
   ·exact h1.1
   ·exact ih h1.2 h2
 have hop: ∀z∈x.o.op.operands,bY E fr z=bY E fr2 z:=by
  intro z hz
  rw[hop0 z hz]
  symm
  refine HM ec.ks z (fun t ht=> ?_)
  subst ht
  rcases hclean with h|⟨h,_⟩
  ·rw[h];exact xK _ _
  ·have hc:=clean_mem h (List.mem_map.2 ⟨.tmp t,by simpa using hz,rfl⟩)
   rw[hop0 _ hz,gA]at hc
   simp only[bY,iK]at hc
   rw[tN]at hc
   exact vg ec.ks _ hc
 have hw:lg E all.toList x.o fr=lg E all.toList x.o fr2:=by rw[←hfr2,o5 hd,yz]
 by_cases hload: ∃t z k p,x.o.op= .load t z∧bY E fr2 z= .ptr k p
 ·obtain⟨t,z,k,p,hop',hev⟩:=hload
  have h2':=h2
  rw[hop']at h2'
  simp only[eQ]at h2'
  obtain⟨v,hv',he⟩:=mY h2'
  simp only[gh,hev]at hv'
  obtain⟨b2,hb2,hg,hf⟩:=yN.1 hv'
  have hres:e.res= .val v:=by rw[he];rfl
  have hlk:b.lk=k::refs v:=by rw[hb];simp only[iQ,hop',look,hev,hres]
  have hld:b.ld=some (k,p,refs v):=by rw[hb];simp only[iQ,hop',hev,hres]
  have key: ∃b0,aR st k=some b0∧(BP E b0 p).get=some v∧fits E st t v=true:=by
   rcases hs with hs|⟨k',p',q,rs,ok,v',b0',b1,g1,g2,g3,g4,g5,g6⟩
   ·rw[hlk]at hs
    have hlt: ∀{j ob},aR (dJ E st ec) j=some ob→j∈k::refs v→j<st.length:=by
     intro j ob hj hjm
     rcases Nat.lt_or_ge j st.length with h|h
     ·exact h
     ·rw[KN (by omega) (hs j hjm).2]at hj;cases hj
    have hk:=hlt hb2 (by simp)
    have hat:=tV hk (hs k (by simp)).1
    rw[hb2]at hat
    obtain⟨b0,hb0,hbk⟩:=Option.map_eq_some_iff.1 hat.symm
    refine⟨b0,hb0,?_,BS hf (fun j hj l e' xs hjk=> ?_)⟩
    ·rw[←hbk,HB]at hg
     obtain⟨v0,hv0,hvk⟩:=Option.map_eq_some_iff.1 hg
     rw[hv0]
     rcases hclean with h|⟨_,h⟩
     ·rw[←hvk,h,xK]
     ·rw[hres]at h
      simp only[F8]at h
      rw[←hvk]at h
      rw[vg ec.ks v0 h]at hvk
      rw[hvk]
    ·have hjm:j∈k::refs v:=by subst hj;simp[refs]
     have hj2:=tV (hlt hjk hjm) (hs j hjm).1
     rw[hjk]at hj2
     obtain⟨ob,ho,hok⟩:=Option.map_eq_some_iff.1 hj2.symm
     rw[ho]
     cases ob with
     |arr l' e'' xs'=>rw[←hok];rfl
     |box ro c=>cases hok
     |dead=>cases hok
   ·rw[hld]at g1
    cases g1
    subst g5
    have hb2':aR (df st k b1) k=some b2:=hb2
    rw[bE,if_pos ⟨rfl,bM g3⟩]at hb2'
    have hb2'':=Option.some.inj hb2'
    subst hb2''
    refine⟨b0',g3,by rw[←Gm g4 g2];exact hg,BS hf (fun j hj l e' xs hjk=> ?_)⟩
    have hjk':=hjk
    simp only[dJ,CG,cy,AL]at hjk'
    rw[bE,if_neg]at hjk'
    ·exact hjk'
    ·rintro⟨rfl,_⟩
     exact g6 (by subst hj;simp[refs])
  have hdl:=yN.2 key
  have hze:bY E fr z= .ptr k p:=by rw[hop z (by rw[hop'];simp[Op.operands]),hev]
  refine .inl ⟨by rw[hw,h1],?_,by rw[hop'];rfl,?_⟩
  ·rw[hop']
   simp only[eQ,gh,hze]
   rw[Tree.get_bind,hdl,he]
   rfl
  ·rw[hb,FI _ hop]
   unfold iQ
   have hM:=tX hm h2
   rw[hM.news]
   simp only[hop',look,hev,hres,List.length_nil,List.range'_zero]
 ·have hld:b.ld=none:=by
   rw[hb]
   unfold iQ
   simp only
   generalize hoo:x.o.op=oo at*
   cases oo with
   |load t z=>
    simp only
    split
    ·rename_i k p v hev _;exact absurd ⟨t,z,k,p,rfl,hev⟩ hload
    ·rfl
   |_=>rfl
  have hs': ∀k∈b.lk,k∉ec.iM.map (·.1)∧k∉List.range' st.length ec.news.length:=by
   rcases hs with hs|⟨k',p',q,rs,ok,v',b0',b1,g1,_⟩
   ·exact hs
   ·rw[hld]at g1;cases g1
  have hkinds:=Kd hm h2 h3 (fun t a k p h hev=>hload ⟨t,a,k,p,h,hev⟩)
  refine kM.to (.inl ⟨h1,h2,h3,h4⟩) hop hw (fun a ha=> ?_) (.inl hm)
  cases ha
  intro k hk
  obtain⟨ob,ho,hnb⟩:=hkinds k (by rw[hb]at hk;exact hk)
  have hlt:k<st.length:=by
   rcases Nat.lt_or_ge k st.length with h|h
   ·exact h
   ·rw[KN (by omega) (hs' k hk).2]at ho;cases ho
  have hat:=tV hlt (hs' k hk).1
  rw[ho]at hat
  obtain⟨ob0,ho0,hok⟩:=Option.map_eq_some_iff.1 hat.symm
  rw[ho,ho0]
  cases ob0 with
  |box ro c=>exact absurd hok.symm (hnb _ _)
  |arr l e' xs=>rw[←hok];rfl
  |dead=>rw[←hok];rfl
end
open Go
section
variable {E:Env} {st st1 st2:St E.T} {fr fr1 fr2:Fr E.T} {S:FuncId→Option (Spec E)} {fx:List Nat} {all:Array Oper}
structure T8 (E:Env) (x:y6) (fr:Fr E.T) (st:St E.T) (e:rT E.T) (en:Option y7) (v:az E.T):Prop where
 val:e.res= .val v
 ks:e.ks=[]
 news:e.news=[]
 vr: ∀a,en=some a→ ∀k∈refs v,k∈a.vr
 Y2:en=none→refs v=[]
 iM:e.iM=[]∨ ∃ob a,e.iM=[(x.id,ob)]∧en=some a∧aR st x.id=some .dead∧x.id∈a.vr∧x.id∈a.up∧ ∀k∈cd E ob,k∈a.vr
 RO: ∀a,en=some a→a.RO=none
 mv: ∀a,en=some a→fg E (bY E fr) x.o.op=true
theorem FM {x:y6} {e:rT E.T} {en:Option y7} (h:kM S fx all x fr st e en) (hm:en=none∨fg E (bY E fr) x.o.op=true): ∃v,T8 E x fr st e en v:=by
 rcases h with⟨h1,h2,h3,h4⟩|⟨_,h2,h3⟩
 ·subst h4
  have hm:=hm.resolve_left (fun h=>by cases h)
  have hM:=tX hm h2
  obtain⟨v,hv⟩:=hM.val
  have hvr: ∀k,k∈bg (x.o.op.operands.toList.map (bY E fr))∨k∈sB E e.res→k∈(iQ E (bY E fr) st x.id x.o.op e).vr:=by
   intro k hk
   simp only[iQ,List.mem_append]
   exact hk
  refine⟨v,hv,hM.ks,hM.news,fun a ha k hk=> ?_,fun h=>(by cases h),?_,fun a ha=> ?_,fun _ _=>hm⟩
  ·cases ha
   exact hvr k (.inr (by rw[hv];exact hk))
  ·rcases hM.iM with h|⟨ob,h5,h6,h7,h8,h9,h10⟩
   ·exact .inl h
   ·refine .inr ⟨ob,_,h5,rfl,h6,hvr _ (.inr h10),?_,fun k hk=>hvr k (.inl (h8 k hk))⟩
    simp[iQ,h5]
  ·cases ha
   exact R9 hm
 ·subst h2;subst h3
  exact⟨.jk [],rfl,rfl,rfl,fun a ha=>(by cases ha),fun _=>by simp[refs,bg],.inl rfl,fun a ha=>(by cases ha),fun a ha=>(by cases ha)⟩
theorem sm {x:y6} {e:rT E.T} {en:Option y7} {v:az E.T} (h:T8 E x fr st e en v) (fr':Fr E.T) (st':St E.T):cI E fr' st' x.o.dst e= .next (put E fr' x.o.dst v) (cy E st' e.iM):=yS h.val h.ks h.news
theorem gg {a b:y7} (h:indep a b=true):(a.mv=true∨b.mv=true)∧(∀k∈a.up,k∉b.up)∧JH a b=true∧JH b a=true∧(∀k∈a.ks,k∉b.vr)∧(∀k∈b.ks,k∉a.vr)∧(a.ks=[]∨b.cl=true)∧(b.ks=[]∨a.cl=true)∧(a.rS=true→b.up=[])∧(b.rS=true→a.up=[]):=by
 unfold indep at h
 simp only[Bool.and_eq_true,Bool.or_eq_true,Bool.not_eq_true',List.isEmpty_iff]at h
 obtain⟨h1,h2,h3,h4,h5,⟨h6,h7,h8⟩,h9,h10⟩:=h
 refine⟨h1,tW.1 h2,h3,h4,tW.1 h5,tW.1 h6,h7,h8,fun hp=> ?_,fun hp=> ?_⟩
 ·rcases h9 with h9|h9
  ·exact absurd hp (by rw[h9];simp)
  ·exact h9
 ·rcases h10 with h10|h10
  ·exact absurd hp (by rw[h10];simp)
  ·exact h10
theorem JG {a b:y7} (h:JH a b=true) (hs:a.RO=none): ∀k∈a.up,k∉b.lk:=by
 unfold JH at h
 rw[hs]at h
 simp only[Bool.or_false]at h
 exact tW.1 h
theorem js {x:y6} {e:rT E.T} {a:y7} (h:kM S fx all x fr st e (some a)):a.mv=fg E (bY E fr) x.o.op∧a.up=e.iM.map (·.1)++List.range' st.length e.news.length∧a.ks=e.ks∧a.rS=TW E e.res:=by
 rcases h with⟨_,_,_,h4⟩|⟨_,_,h4⟩
 ·cases h4;exact⟨rfl,rfl,rfl,rfl⟩
 ·cases h4
theorem G2 {y:y6} {ey:rT E.T} {a b:y7} (hy:kM S fx all y fr st ey (some b)) (h:JH b a=true):
  (∀k∈a.lk,k∉ey.iM.map (·.1)∧k∉List.range' st.length ey.news.length)∨(∃k p q rs ok v b0 b1,a.ld=some (k,p,rs)∧yt q p=true∧aR st k=some b0∧(zK E ok v b0 q).get=some b1∧ey={res:= .val .undef,iM:=[(k,b1)],ks:=[],news:=[]}∧k∉rs):=by
 have hup:=(js hy).2.1
 unfold JH at h
 rw[Bool.or_eq_true]at h
 rcases h with h|h
 ·left
  intro k hk
  have h1:=tW.1 h
  constructor
  ·intro hk2
   exact h1 k (by rw[hup];exact List.mem_append_left _ hk2) hk
  ·intro hk2
   exact h1 k (by rw[hup];exact List.mem_append_right _ hk2) hk
 ·right
  split at h
  ·rename_i k q k' p rs hs hl
   simp only[Bool.and_eq_true]at h
   obtain⟨h1,h2,h3⟩:=h
   have:=Nat.eq_of_beq_eq_true h1;subst this
   obtain⟨ok,v,b0,b1,h4,h5,h6⟩:=PM hy hs
   refine⟨k,p,q,rs,ok,v,b0,b1,hl,h2,h4,h5,h6,tW.1 h3 k ?_⟩
   rw[hup,h6]
   simp
  ·cases h
theorem Hd {x:y6} {e:rT E.T} (h:kM S fx all x fr st e none) (hw:lg E all.toList x.o fr2=lg E all.toList x.o fr):kM S fx all x fr2 st2 e none:=by
 rcases h with⟨_,_,_,h4⟩|⟨h1,h2,h3⟩
 ·cases h4
 ·exact .inr ⟨by rw[hw];exact h1,h2,rfl⟩
theorem El {x:y6} {d:Option Tmp} {v:az E.T} (h: ∀t,d=some t→t∉x.o.looksAt all): ∀z∈x.o.op.operands,bY E (put E fr d v) z=bY E fr z:=fun z hz=>
 BV (fun t ht e=>h t ht (by subst e;exact List.mem_append_left _ (List.mem_filterMap.2 ⟨.tmp t,by simpa using hz,rfl⟩)))
theorem swap {x y:y6} {ex ey:rT E.T} {enx eny:Option y7} (hx:kM S fx all x fr st ex enx) (hap:x.o.apart all y.o=true) (hnext:cI E fr st x.o.dst ex= .next fr1 st1) (hy:kM S fx all y fr1 st1 ey eny)
  (hi: ∀a b,enx=some a→eny=some b→indep a b=true):
  kM S fx all y fr st ey eny∧(match cI E fr1 st1 y.o.dst ey with
   | .next fr2 st2=> ∃fr1' st1',cI E fr st y.o.dst ey= .next fr1' st1'∧kM S fx all x fr1' st1' ex enx∧cI E fr1' st1' x.o.dst ex= .next fr2 st2
   | .panic v fr2 st2=> ∃fr1' vx,cI E fr st y.o.dst ey= .panic v fr1' st2∧fr2=put E fr1' x.o.dst vx):=by
 obtain⟨hxy,hdd,hyx⟩:=Oper.apart_spec hap
 have hdd': ∀d,y.o.dst=some d→x.o.dst≠some d:=fun d h1 h2=>hdd d h2 h1
 by_cases hmx:enx=none∨fg E (bY E fr) x.o.op=true
 ·
  obtain⟨vx,hm⟩:=FM hx hmx
  rw[sm hm]at hnext
  cases hnext
  have hlen:(cy E st ex.iM).length=st.length:=ez _ _
  have hids: ∀b,eny=some b→bJ b.lk (cy E st ex.iM) st:=by
   intro b hb k hk
   rcases hm.iM with h|⟨ob,a,h5,h6,_,_,h7,_⟩
   ·rw[h];rfl
   ·have hin:=gg (hi a b h6 hb)
    have:=JG hin.2.2.1 (hm.RO a h6) _ h7
    rw[yA _ _ _ (by rw[h5];simp;rintro rfl;exact this hk)]
  have hy0:kM S fx all y fr st ey eny:=by
   refine kM.to hy (fun z hz=>(El hxy z hz).symm) (o5 hxy).symm hids (.inr hlen)
  refine⟨hy0,?_⟩
  have hvk: ∀k∈refs vx,k∉ey.ks:=by
   intro k hk hkk
   cases henx:enx with
   |none=>rw[hm.Y2 henx]at hk;cases hk
   |some a=>
    cases heny:eny with
    |none=>
     rw[heny]at hy0
     rcases hy0 with⟨_,_,_,h4⟩|⟨_,h2,_⟩
     ·cases h4
     ·subst h2;cases hkk
    |some b=>
     rw[heny]at hy0
     have hin:=gg (hi a b henx heny)
     exact hin.2.2.2.2.2.1 k (by rw[(js hy0).2.2.1];exact hkk) (hm.vr a henx k hk)
  have hcomm:=F6 (fr:=fr) (st:=st) (dm:=x.o.dst) (dc:=y.o.dst) (v:=vx) (iM:=ex.iM) (e:=ey) hdd hvk (by
   rcases hm.iM with h|⟨ob,a,h5,h6,h7,h8,h9,h10⟩
   ·exact .inl h
   ·refine .inr ⟨x.id,ob,h5,bM h7,?_⟩
    cases heny:eny with
    |none=>
     rw[heny]at hy0
     rcases hy0 with⟨_,_,_,h4⟩|⟨_,h2,_⟩
     ·cases h4
     ·subst h2;exact⟨by simp[rV],by simp[rV],fun k _=>by simp[rV]⟩
    |some b=>
     rw[heny]at hy0
     have hin:=gg (hi a b h6 heny)
     have hen:=js hy0
     refine⟨fun h=>hin.2.1 _ h9 (by rw[hen.2.1];exact List.mem_append_left _ h),fun h=>hin.2.2.2.2.2.1 _ (by rw[hen.2.2.1];exact h) h8,fun k hk h=>hin.2.2.2.2.2.1 _ (by rw[hen.2.2.1];exact h) (h10 k hk)⟩)
  rw[hcomm]
  cases hap2:cI E fr st y.o.dst ey with
  |next fr1' st1'=>
   simp only[Ef]
   refine⟨fr1',st1',rfl,?_,sm hm fr1' st1'⟩
   have hform:fr1'=put E (dy E st ey.ks fr) y.o.dst (match ey.res with| .val v=>v| .panic v=>v)∧st1'=dJ E st ey:=by
    unfold cI at hap2
    split at hap2
    ·rename_i v hv
     cases hap2
     rw[hv]
     exact⟨rfl,rfl⟩
    ·cases hap2
   obtain⟨rfl,rfl⟩:=hform
   cases henx:enx with
   |none=>
    rw[henx]at hx
    refine Hd hx ?_
    rw[o5 hyx,yz]
   |some a=>
    rw[henx]at hx
    have hmx':=hm.mv a henx
    cases heny:eny with
    |none=>
     rw[heny]at hy0
     rcases hy0 with⟨_,_,_,h4⟩|⟨_,h2,_⟩
     ·cases h4
     ·subst h2
      exact Nh hmx' hx hyx (fun k hk=>by simp[rV]at hk) (.inl fun k hk=>by simp[rV])
    |some b=>
     rw[heny]at hy0
     have hin:=gg (hi a b henx heny)
     refine Nh hmx' hx hyx (fun k hk=>hin.2.2.2.2.2.1 k (by rw[(js hy0).2.2.1];exact hk)) ?_
     rcases G2 hy0 hin.2.2.2.1 with h|h
     ·exact .inl fun k hk=>(h k hk).1
     ·exact .inr h
  |panic v fr1' st1'=>
   simp only[Ef]
   refine⟨fr1',vx,?_,rfl⟩
   have hups:ex.iM=[]:=by
    rcases hm.iM with h|⟨ob,a,h5,h6,h7,h8,h9,h10⟩
    ·exact h
    ·cases heny:eny with
     |none=>
      rw[heny]at hy0
      rcases hy0 with⟨_,_,_,h4⟩|⟨_,h2,_⟩
      ·cases h4
      ·subst h2;cases hap2
     |some b=>
      rw[heny]at hy0
      have hin:=gg (hi a b h6 heny)
      have hpan:b.rS=true:=by
       rw[(js hy0).2.2.2]
       unfold cI at hap2
       split at hap2
       ·cases hap2
       ·rename_i u hu;rw[hu];rfl
      rw[hin.2.2.2.2.2.2.2.2.2 hpan]at h9
      cases h9
   rw[hups]
   rfl
 ·
  obtain⟨a,henx⟩: ∃a,enx=some a:=by
   cases enx with
   |none=>exact absurd (.inl rfl) hmx
   |some a=>exact⟨a,rfl⟩
  subst henx
  have hmx': ¬fg E (bY E fr) x.o.op=true:=fun h=>hmx (.inr h)
  have hmy:eny=none∨fg E (bY E fr1) y.o.op=true:=by
   cases heny:eny with
   |none=>exact .inl rfl
   |some b=>
    right
    rw[heny]at hy
    have hin:=gg (hi a b rfl heny)
    rcases hin.1 with h|h
    ·rw[(js hx).1]at h;exact absurd h hmx'
    ·rw[(js hy).1]at h;exact h
  have hform:fr1=put E (dy E st ex.ks fr) x.o.dst (match ex.res with| .val v=>v| .panic v=>v)∧st1=dJ E st ex:=by
   unfold cI at hnext
   split at hnext
   ·rename_i v hv
    cases hnext
    rw[hv]
    exact⟨rfl,rfl⟩
   ·cases hnext
  have hy0:kM S fx all y fr st ey eny:=by
   obtain⟨h1,h2⟩:=hform
   cases heny:eny with
   |none=>
    rw[heny]at hy
    refine Hd hy ?_
    rw[h1,o5 hxy,yz]
   |some b=>
    rw[heny]at hy
    have hmy':=hmy.resolve_left (fun h=>by rw[heny]at h;cases h)
    have hin:=gg (hi a b rfl heny)
    rw[h1,h2]at hy
    rw[h1]at hmy'
    refine Sa hmy' hy hxy ?_ (G2 hx hin.2.2.1)
    rw[←(js hx).2.2.1]
    exact hin.2.2.2.2.2.2.1
  refine⟨hy0,?_⟩
  have hmy0:eny=none∨fg E (bY E fr) y.o.op=true:=by
   cases heny:eny with
   |none=>exact .inl rfl
   |some b=>
    right
    rw[heny]at hy0
    have hin:=gg (hi a b rfl heny)
    rcases hin.1 with h|h
    ·rw[(js hx).1]at h;exact absurd h hmx'
    ·rw[(js hy0).1]at h;exact h
  obtain⟨vy,hm⟩:=FM hy0 hmy0
  rw[sm hm]
  refine⟨_,_,sm hm fr st,?_,?_⟩
  ·refine kM.to hx (El hyx) (o5 hyx) (fun a' ha' k hk=> ?_) (.inr (ez _ _).symm)
   cases ha'
   rcases hm.iM with h|⟨ob,b,h5,h6,h7,h8,h9,h10⟩
   ·rw[h];rfl
   ·have hin:=gg (hi a b rfl h6)
    have:=JG hin.2.2.2.1 (hm.RO b h6) _ h9
    rw[yA _ _ _ (by rw[h5];simp;rintro rfl;exact this hk)]
  ·have hcomm:=F6 (fr:=fr) (st:=st) (dm:=y.o.dst) (dc:=x.o.dst) (v:=vy) (iM:=ey.iM) (e:=ex) hdd' (by
     intro k hk hkk
     cases heny:eny with
     |none=>rw[hm.Y2 heny]at hk;cases hk
     |some b=>
      have hin:=gg (hi a b rfl heny)
      exact hin.2.2.2.2.1 k (by rw[(js hx).2.2.1];exact hkk) (hm.vr b heny k hk)) (by
     rcases hm.iM with h|⟨ob,b,h5,h6,h7,h8,h9,h10⟩
     ·exact .inl h
     ·have hin:=gg (hi a b rfl h6)
      have hen:=js hx
      refine .inr ⟨y.id,ob,h5,bM h7,fun h=>hin.2.1 _ (by rw[hen.2.1];exact List.mem_append_left _ h) h9,fun h=>hin.2.2.2.2.1 _ (by rw[hen.2.2.1];exact h) h8,fun k hk h=>hin.2.2.2.2.1 _ (by rw[hen.2.2.1];exact h) (h10 k hk)⟩)
   rw[hcomm,hnext]
   rfl
end
open Go
noncomputable section
section
variable {E:Env} {st st1 st2:St E.T} {fr fr1 fr2:Fr E.T} {S:FuncId→Option (Spec E)} {fx bef:List Nat} {all:Array Oper}
def IE (i:Nat) (en:Option y7) (log:List (Nat×y7)):List (Nat×y7):=
 match en with
 |some a=>(i,a) ::log
 |none=>log
inductive nR (S:FuncId→Option (Spec E)) (fx bef:List Nat) (all:Array Oper):List y6→Fr E.T→St E.T→oh E→List (Nat×y7)→Prop where
 |nil (fr:Fr E.T) (st:St E.T):nR S fx bef all [] fr st (.done fr st) []
 |next {x:y6} {l:List y6} {fr fr1:Fr E.T} {st st1:St E.T} {e:rT E.T} {en:Option y7} {out:oh E} {log:List (Nat×y7)} (h:kM S fx all x fr st e en) (ha:cI E fr st x.o.dst e= .next fr1 st1) (hr:nR S fx bef all l fr1 st1 out log)
   (hl: ∀a,en=some a→ ∀p∈log,y5 bef p.1 x.i=true∨indep a p.2=true):nR S fx bef all (x::l) fr st out (IE x.i en log)
 |panic {x:y6} {l:List y6} {fr fr1:Fr E.T} {st st1:St E.T} {e:rT E.T} {en:Option y7} {v:az E.T} (h:kM S fx all x fr st e en) (ha:cI E fr st x.o.dst e= .panic v fr1 st1)
   (hr: ∀y∈l,y5 bef y.i x.i=true∨Ak y.o=true):nR S fx bef all (x::l) fr st (.panic v (nO E fr1 all.toList) st1) (IE x.i en [])
theorem Fk {i:Nat} {a:y7}: ∀{log:List (Nat×y7)},Nn bef i a log=true→ ∀p∈log,y5 bef i p.1=true∨indep p.2 a=true
 |[],_,p,h=>by cases h
 |q::r,hl,p,h=>by
  simp only[Nn,Bool.and_eq_true,Bool.or_eq_true]at hl
  rcases List.mem_cons.1 h with rfl|h
  ·exact hl.1
  ·exact Fk hl.2 p h
theorem Ds {i:Nat}: ∀{l:List y6},Ii bef i l=true→ ∀y∈l,y5 bef y.i i=true∨Ak y.o=true
 |[],_,y,h=>by cases h
 |x::r,hl,y,h=>by
  simp only[Ii,Bool.and_eq_true,Bool.or_eq_true]at hl
  rcases List.mem_cons.1 h with rfl|h
  ·exact hl.1
  ·exact Ds hl.2 y h
theorem CW: ∀(l:List y6) {log:List (Nat×y7)} {fr:Fr E.T} {st:St E.T} {out:oh E},(QU E S fx bef all.toList l log fr st).get=some out→
  ∃log',nR S fx bef all l fr st out log'∧ ∀p∈log,∀q∈log',y5 bef q.1 p.1=true∨indep p.2 q.2=true
 |[],log,fr,st,out,h=>by
  cases h
  exact⟨[],.nil fr st,fun p _ q hq=>by cases hq⟩
 |x::r,log,fr,st,out,h=>by
  simp only[QU]at h
  rcases Mp h with⟨hw,h1⟩|⟨hw,h1⟩
  ·obtain⟨e,he,h2⟩:=Tree.aB h1
   obtain⟨hb,h2⟩:=Tree.aO h2
   rw[Bool.and_eq_true]at hb
   have hd:kM S fx all x fr st e (some (iQ E (bY E fr) st x.id x.o.op e)):= .inl ⟨hw,he,hb.1,rfl⟩
   have hlog:=Fk hb.2
   split at h2
   ·rename_i fr' st' ha
    obtain⟨log',hg,hl⟩:=CW r h2
    refine⟨_,.next hd ha hg (fun a ha' q hq=> ?_),fun p hp q hq=> ?_⟩
    ·cases ha'
     exact hl _ List.mem_cons_self q hq
    ·rcases List.mem_cons.1 hq with rfl|hq
     ·exact hlog p hp
     ·exact hl p (by simp[hp]) q hq
   ·rename_i v fr' st' ha
    obtain⟨hr,h2⟩:=Tree.aO h2
    cases h2
    refine⟨_,.panic hd ha (Ds hr),fun p hp q hq=> ?_⟩
    simp only[IE,List.mem_singleton]at hq
    subst hq
    exact hlog p hp
  ·have hd:kM S fx all x fr st (rV E (.jk [])) none:= .inr ⟨hw,rfl,rfl⟩
   obtain⟨log',hg,hl⟩:=CW r h1
   exact⟨_,.next hd rfl hg (fun a ha=>by cases ha),hl⟩
theorem C7 {d:Option Tmp} {v:az E.T}: ∀(l:List Oper) {f:Fr E.T},(∃o∈l,o.dst=d)→nO E (put E f d v) l=nO E f l
 |[],f,h=>by obtain⟨o,ho,_⟩:=h;cases ho
 |o::r,f,h=>by
  simp only[nO]
  by_cases ho:o.dst=d
  ·rw[ho]
   cases d with
   |none=>rfl
   |some t=>
    have:put E (put E f (some t) v) (some t) .undef=put E f (some t) .undef:=by
     simp only[put]
     congr 1
     have upd_upd: ∀(l:List (az E.T)) (t:Nat) (a b:az E.T),df (df l t a) t b=df l t b:=by
      intro l
      induction l with
      |nil=>intro t a b;rfl
      |cons x r ih=>
       intro t a b
       cases t with
       |zero=>rfl
       |succ t=>simp only[jK,gB,gC];rw[ih]
     exact upd_upd _ _ _ _
    rw[this]
  ·have hc:put E (put E f d v) o.dst .undef=put E (put E f o.dst .undef) d v:=put_comm (fun t ht e=>ho (by rw[ht];exact e))
   rw[hc]
   refine C7 r ?_
   obtain⟨o',ho',hd⟩:=h
   rcases List.mem_cons.1 ho' with rfl|ho'
   ·exact absurd hd ho
   ·exact⟨o',ho',hd⟩
theorem Hq {ks:List Nat} {d:Option Tmp} {v:az E.T}:dy E st ks (put E fr d v)=put E (dy E st ks fr) d (kill E st ks v):=by
 rw[gA,gA]
 cases d with
 |none=>rfl
 |some t=>
  simp only[put,iK]
  rw[CH]
theorem OI {y:y6} (h:Ak y.o=true) (fr:Fr E.T) (st:St E.T): ∃e v en,kM S fx all y fr st e en∧ ∀fr' st',cI E fr' st' y.o.dst e= .next (put E fr' y.o.dst v) st':=by
 unfold Ak at h
 split at h
 ·rename_i z ho hg
  refine⟨rV E (bY E fr z),bY E fr z,_,.inl ⟨by unfold lg;rw[hg],by rw[ho];rfl,by rw[ho];rfl,rfl⟩,fun fr' st'=>rfl⟩
 ·cases h
theorem front {y:y6} {post:List y6}: ∀(pre:List y6) {fr:Fr E.T} {st:St E.T} {out:oh E} {log:List (Nat×y7)},nR S fx bef all (pre++y::post) fr st out log→
  (∀x∈pre,y5 bef y.i x.i=false∧x.o.apart all y.o=true)→(∀x∈pre++y::post,∃o∈all.toList,o.dst=x.o.dst)→
  (∃e en fr1 st1 log1,kM S fx all y fr st e en∧cI E fr st y.o.dst e= .next fr1 st1∧nR S fx bef all (pre++post) fr1 st1 out log1∧(∀q∈log1,q∈log)∧ ∀a,en=some a→(y.i,a)∈log)∨
  (∃v e en fr1 st1,kM S fx all y fr st e en∧cI E fr st y.o.dst e= .panic v fr1 st1∧out= .panic v (nO E fr1 all.toList) st1∧ ∀a,en=some a→(y.i,a)∈log)∨
  (Ak y.o=true∧ ∀v',nR S fx bef all (pre++post) (put E fr y.o.dst v') st out log)
 |[],fr,st,out,log,h,_,_=>by
  cases h with
  |next h ha hr hl=>
   rename_i fr1 st1 e en log1
   refine .inl ⟨_,_,_,_,_,h,ha,hr,fun q hq=> ?_,fun a ha=> ?_⟩
   ·cases en with
    |none=>exact hq
    |some a=>exact List.mem_cons_of_mem _ hq
   ·subst ha;exact List.mem_cons_self
  |panic h ha hr=>
   rename_i fr1 st1 e en v
   refine .inr (.inl ⟨_,_,_,_,_,h,ha,rfl,fun a ha=> ?_⟩)
   subst ha;exact List.mem_cons_self
 |x::pre,fr,st,out,log,h,hp,hd=>by
  have hx:=hp x (by simp)
  obtain⟨hxy,hdd,hyx⟩:=Oper.apart_spec hx.2
  have hyd:=hd y (by simp)
  have hxd:=hd x (by simp)
  cases h with
  |panic h ha hr=>
   rename_i fr1 st1 e en v
   right;right
   have hm:Ak y.o=true:=by
    rcases hr y (by simp)with h1|h1
    ·rw[hx.1]at h1;cases h1
    ·exact h1
   refine⟨hm,fun v'=> ?_⟩
   have hd':kM S fx all x (put E fr y.o.dst v') st e en:=kM.to h (El hyx) (o5 hyx) (fun a _ k _=>rfl) (.inr rfl)
   have ha':cI E (put E fr y.o.dst v') st x.o.dst e= .panic v (put E fr1 y.o.dst (kill E st e.ks v')) st1:=by
    unfold cI at ha⊢
    split at ha
    ·cases ha
    ·rename_i u hu
     cases ha
     rw[Hq]
   have:=nR.panic hd' ha' (l:=pre++post) (bef:=bef) (fun z hz=>hr z (by
    rcases List.mem_append.1 hz with hz|hz
    ·simp[hz]
    ·simp[hz]))
   rw[C7 _ hyd]at this
   exact this
  |next h ha hr hl=>
   rename_i fr1 st1 e en log1
   have hlog: ∀q∈log1,q∈IE x.i en log1:=fun q hq=>by
    cases en with
    |none=>exact hq
    |some a=>exact List.mem_cons_of_mem _ hq
   rcases front pre hr (fun z hz=>hp z (by simp[hz])) (fun z hz=>hd z (by simp at hz⊢;right;exact hz))with⟨ey,eny,fr2,st2,log2,h1,h2,h3,h4,h5⟩|⟨v,ey,eny,fr2,st2,h1,h2,h3,h5⟩|⟨h1,h2⟩
   ·
    have hi: ∀a b,en=some a→eny=some b→indep a b=true:=by
     intro a b hen heny
     rcases hl a hen _ (h5 b heny)with h|h
     ·rw[hx.1]at h;cases h
     ·exact h
    obtain⟨hs1,hs2⟩:=swap h hx.2 ha h1 hi
    rw[h2]at hs2
    obtain⟨fr1',st1',g1,g2,g3⟩:=hs2
    refine .inl ⟨_,_,_,_,_,hs1,g1,.next g2 g3 h3 (fun a hen q hq=>hl a hen q (h4 q hq)),fun q hq=> ?_,fun a ha=>hlog _ (h5 a ha)⟩
    cases en with
    |none=>exact h4 q hq
    |some a=>
     rcases List.mem_cons.1 hq with rfl|hq
     ·exact List.mem_cons_self
     ·exact List.mem_cons_of_mem _ (h4 q hq)
   ·
    have hi: ∀a b,en=some a→eny=some b→indep a b=true:=by
     intro a b hen heny
     rcases hl a hen _ (h5 b heny)with h|h
     ·rw[hx.1]at h;cases h
     ·exact h
    obtain⟨hs1,hs2⟩:=swap h hx.2 ha h1 hi
    rw[h2]at hs2
    obtain⟨fr1',vx,g1,g2⟩:=hs2
    refine .inr (.inl ⟨v,ey,eny,fr1',st2,hs1,g1,?_,fun a ha=>hlog _ (h5 a ha)⟩)
    rw[h3,g2,C7 _ hxd]
   ·
    refine .inr (.inr ⟨h1,fun v'=> ?_⟩)
    have hd':kM S fx all x (put E fr y.o.dst v') st e en:=kM.to h (El hyx) (o5 hyx) (fun a _ k _=>rfl) (.inr rfl)
    have ha':cI E (put E fr y.o.dst v') st x.o.dst e= .next (put E fr1 y.o.dst (kill E st e.ks v')) st1:=by
     unfold cI at ha⊢
     split at ha
     ·rename_i u hu
      cases ha
      rw[Hq,put_comm (d1:=y.o.dst) (d2:=x.o.dst) (fun d h3 h4=>hdd d h4 h3)]
     ·cases ha
    exact .next hd' ha' (h2 _) hl
end
end
open Go
section
variable {P:Program} {E:Env} {w w':World} {σ σ':Sg} {st st':St E.T} {fr:Fr E.T} {a:Act} {S:FuncId→Option (Spec E)} {fx:List Nat}
variable {K:Act→World→Prop} {Q:Exit→Act→World→Prop}
theorem KV {src dst:TypeId} {x:az E.T} {p:az E.T×St E.T} (hn:xQ E dst=false) (h:(yc E st src dst x).get=some p):p.2=st:=by
 unfold yc at h
 obtain⟨_,h⟩:=Tree.aO h
 unfold xQ at hn
 split at h
 ·cases h;rfl
 ·cases h;rfl
 ·rename_i hd _;rw[hd]at hn;cases hn
 ·rename_i hd _;rw[hd]at hn;cases hn
 ·split at h
  ·obtain⟨s,_,h⟩:=Tree.aB h
   cases h;rfl
  ·cases h
 ·cases h
theorem KQ {t:TypeId} {l c:az E.T} {p:az E.T×St E.T} (h:(eg E true st t l c).get=some p):p.2=st:=by
 unfold eg at h
 split at h
 ·obtain⟨_,h⟩:=fN h
  obtain⟨z,_,h⟩:=Tree.aB h
  cases h;rfl
 ·cases h
theorem MH {α:Type} {xs:List α} {l h:Int} {g:List α→az E.T} {p:az E.T×St E.T} (hg:(Ea E xs l h fun r=> .ret (g r,st)).get=some p):p.2=st:=by
 unfold Ea at hg
 obtain⟨_,hg⟩:=fN hg
 cases hg;rfl
theorem I3 {t:TypeId} {x:az E.T} {lo hi mx:Option (az E.T)} {p:az E.T×St E.T} (h1: ∀k,x≠ .own k) (h2: ∀o q,x≠ .ptr o q) (h:(vH E st t x lo hi mx).get=some p):p.2=st:=by
 have key: ∀{α:Type} {xs:List α} {t1:Bool} {l hh:Option Int} {g:List α→az E.T},((Tree.cR t1 ((Tree.e8 l).bind fun l=>(Tree.e8 hh).bind fun h=>Ea E xs l h fun r=> .ret (g r,st)))).get=some p→p.2=st:=by
  intro α xs t1 l hh g h
  obtain⟨_,h⟩:=Tree.aO h
  obtain⟨_,_,h⟩:=Tree.aB h
  obtain⟨_,_,h⟩:=Tree.aB h
  exact MH h
 unfold vH at h
 split at h
 ·cases h
 ·split at h
  ·exact key h
  ·exact key h
  ·rename_i k;exact absurd rfl (h1 k)
  ·exact key h
  ·rename_i o q;exact absurd rfl (h2 o q)
  ·cases h
theorem jt {t:Tree (az E.T)} {v:az E.T} {dst:Option Tmp} (h:t.get=some v):(t.bind (dQ E fr dst st)).get=some (.next (put E fr dst v) st):=by
 rw[Tree.get_bind,h];rfl
theorem QT {o:Oper} {v:az E.T} (hm:makes E o.op=false) (h:(gh E (bY E fr) st o.op).get=some v):(pB E S true fr st o).get=some (.next (put E fr o.dst v) st):=by
 obtain⟨dst,op,type,pos,aft,guard⟩:=o
 simp only at h hm
 cases op with
 |move x=>cases h;rfl
 |assign x=>cases h;rfl
 |pick c x y=>
  simp only[gh]at h
  simp only[pB]
  split at h
  ·rename_i b hb
   cases b<;>(cases h;rfl)
  ·cases h
 |build t ps=>simp only[pB];exact jt h
 |buildSlice t n ps=>simp only[pB];exact jt h
 |load t x=>simp only[pB];exact jt h
 |nilCheck x=>
  simp only[gh]at h
  simp only[pB]
  split at h
  ·rename_i p q hq;cases h;rfl
  ·rename_i t y hq;cases h;rfl
  ·rename_i f c hq;cases h;rfl
  ·cases h
 |binOp op t x y rS=>
  simp only[gh]at h
  simp only[pB]
  split at h
  ·rename_i b hb
   obtain⟨hi,h⟩:=Tree.aO h
   cases h
   simp only[hi]
   rfl
  ·exact jt h
 |unOp op t x=>simp only[pB];exact jt h
 |convert src d x=>
  simp only[gh]at h
  simp only[pB]
  split at h
  ·cases h
  ·obtain⟨p,hp,h2⟩:=Tree.aB h
   cases h2
   rw[Tree.get_bind,hp]
   simp only[Option.bind_some]
   rw[KV hm hp]
   rfl
 |makeInterface t x=>
  simp only[gh]at h
  simp only[pB]
  split at h
  ·rename_i ty hk
   obtain⟨y,hy,h⟩:=Tree.aB h
   obtain⟨hf,h⟩:=Tree.aO h
   cases h
   rw[Tree.get_bind,hy]
   simp only[Option.bind_some,hf]
   rfl
  ·cases h
 |makeFunc f first captured=>
  cases f with
  |func f=>
   simp only[gh]at h
   obtain⟨hf,h⟩:=Tree.aO h
   cases h
   simp only[pB,hf]
   rfl
  |_=>cases h
 |makeSlice t l c=>
  simp only[gh]at h
  simp only[pB]
  obtain⟨p,hp,h2⟩:=Tree.aB h
  cases h2
  rw[Tree.get_bind,hp]
  simp only[Option.bind_some]
  rw[KQ hp]
  rfl
 |slice t x lo hi mx=>
  simp only[gh]at h
  simp only[pB]
  split at h
  ·cases h
  ·cases h
  ·rename_i h1 h2
   obtain⟨p,hp,h3⟩:=Tree.aB h
   cases h3
   rw[Tree.get_bind,hp]
   simp only[Option.bind_some]
   rw[I3 (fun k=>h1 k) (fun o q=>h2 o q) hp]
   rfl
 |fieldAddr t x j=>simp only[pB];exact jt h
 |field t x j=>simp only[pB];exact jt h
 |indexAddr t x i=>simp only[pB];exact jt h
 |index t x i=>simp only[pB];exact jt h
 |typeAssert x xt t ok=>
  cases ok with
  |false=>cases h
  |true=>
   simp only[gh]at h
   simp only[pB]
   split at h
   ·split at h
    ·rename_i t' v' hq
     cases hb:Nat.beq t' t<;>(rw[hb]at h;cases h;rfl)
    ·rename_i hq;cases h;rfl
    ·cases h
   ·cases h
 |extract t i=>
  simp only[gh]at h
  simp only[pB]
  split at h
  ·split at h
   ·cases h;rfl
   ·cases h
  ·cases h
 |call c=>
  obtain⟨callee,args,ats⟩:=c
  cases callee with
  |builtin b=>
   simp only[gh]at h
   simp only[pB,BX]
   split at h
   ·rename_i x t ts hx hts;rw[hx,hts];exact jt h
   ·rename_i x r hx;rw[hx];exact jt h
   ·rename_i x r hx;rw[hx];exact jt h
   ·cases h
  |_=>cases h
 |_=>cases h
theorem yp {tx:TypeId} {e:Ty} {x:az E.T} {k:List (I E.T e)→Tree (Out E)} {p:Out E} (h:(appended E st tx e x k).get=some p): ∃ys,(k ys).get=some p:=by
 unfold appended at h
 split at h
 ·obtain⟨_,h⟩:=Tree.aO h
  obtain⟨_,h⟩:=fN h
  obtain⟨z,_,h⟩:=Tree.aB h
  exact⟨_,h⟩
 ·obtain⟨_,h⟩:=Tree.aO h
  split at h
  ·exact⟨_,h⟩
  ·cases h
 ·obtain⟨_,h⟩:=Tree.aO h
  obtain⟨ys,_,h⟩:=Tree.aB h
  exact⟨ys,h⟩
theorem UO (HS:Sound P E) (HC:mJ P E S) {o:Oper} {e:rT E.T} {id:Nat} (hst:bm E σ st w) (hfr:cf E σ st w fr a) (hm:makes E o.op=false) (h:(eQ E S fx (bY E fr) st id o.op).get=some e)
  (hp:Dg E σ st w K Q a (cI E fr st o.dst e)):o.wp P a w K Q:=by
 have viaVal:((gh E (bY E fr) st o.op).bind fun v=> .ret (rV E v)).get=some e→o.wp P a w K Q:=by
  intro h
  obtain⟨v,hv,rfl⟩:=mY h
  exact CX HS HC hst hfr (QT hm hv) hp
 obtain⟨dst,op,type,pos,aft,guard⟩:=o
 simp only at h hm hp viaVal
 cases op with
 |alloc t=>cases hm
 |box t v=>cases hm
 |makeSlice t l c=>cases hm
 |buildSlice t n ps=>
  simp only[eQ]at h
  split at h
  ·exact viaVal h
  ·rename_i k r hks
   obtain⟨v,hv,h⟩:=Tree.aB h
   cases h
   obtain⟨mf,_⟩:=fS (k::r) hst
   have hfr1:=hfr.mv mf
   have hps:=wB.ye HS.todk mf.rep 0 (oJ hfr1 ps.toList)
   rw[List.map_map]at hps
   have hap:cI E fr st dst {res:= .val v,iM:=frozen E st (k::r),ks:=[],news:=[]}= .next (put E fr dst v) (freeze E st (k::r)):=by
    rw[yS rfl rfl rfl,dp]
   rw[hap]at hp
   exact nt hfr1 (nJ HS mf.rep hps hv) (by rw[←lX];rfl) (Dg.later mf.f hp)
 |convert s d x=>
  simp only[eQ]at h
  split at h
  ·rename_i hd
   simp only[makes,xQ,hd]at hm
   cases hm
  ·exact viaVal h
 |store t x y=>
  simp only[eQ]at h
  split at h
  ·refine CX HS HC (S:=S) (dr:=true) (out:=cI E fr st dst e) hst hfr ?_ hp
   simp only[pB,Ax]
   split at h
   ·rename_i k p hx
    try rw[hx]
    try simp only
    split at h
    ·rename_i b hb
     try rw[hb]
     try simp only
     obtain⟨hf,h⟩:=Tree.aO h
     obtain⟨b',hb',h⟩:=Tree.aB h
     cases h
     rw[hf]
     simp only[Tree.cR]
     rw[Tree.get_bind,Tree.get_bind,hb']
     rfl
    ·cases h
   ·cases h
  ·rename_i k r hks
   split at h
   ·rename_i q p hx
    split at h
    ·rename_i l e' xs hb
     obtain⟨hf,h⟩:=Tree.aO h
     obtain⟨b',hb',h⟩:=Tree.aB h
     cases h
     rw[yS rfl rfl rfl,zB,dp]at hp
     refine CX HS HC (S:=S) (dr:=false) hst hfr ?_ hp
     simp only[Bool.and_eq_true]at hf
     have hf':(fits E (freeze E st (k::r)) t (gN E (freeze E st (k::r)) 0 (bY E fr y))&&yH E t p)=true:=by rw[hf.1.1,hf.1.2];rfl
     simp only[pB]
     rw[hx]at hks⊢
     rw[hks]
     simp only[Ax]
     rw[hb]
     simp only
     rw[hf']
     simp only[Tree.cR]
     rw[Tree.get_bind,Tree.get_bind,hb']
     rfl
    ·cases h
   ·cases h
 |call c=>
  obtain⟨callee,args,ats⟩:=c
  cases callee with
  |value f=>
   simp only[eQ]at h
   exact HC hst hfr rfl h hp
  |invoke r m=>exact viaVal h
  |builtin b=>
   cases b<;>simp only[eQ]at h<;>first|exact viaVal h|skip
   refine CX HS HC (S:=S) (dr:=true) (out:=cI E fr st dst e) hst hfr ?_ hp
   simp only[pB,BX]
   split at h
   ·rename_i s x t tx hargs hats
    rw[hargs,hats]
    simp only
    split at h
    ·obtain⟨p,hv,h⟩:=Tree.aB h
     cases h
     rw[Tree.get_bind,hv]
     simp only[Option.bind_some]
     have hsh: ∃ob,p.2=st++[ob]:=by
      unfold nL at hv
      simp only at hv
      split at hv
      ·obtain⟨ys,hy⟩:=yp hv
       obtain⟨_,hy⟩:=fN hy
       cases hy
       exact⟨_,rfl⟩
      ·cases hv
     obtain⟨ob,hob⟩:=hsh
     unfold cI dJ
     simp only
     rw[hob]
     simp only[CG,cy,List.drop_left,AL]
     rfl
    ·rename_i k
     obtain⟨p,hv,h⟩:=Tree.aB h
     rw[Tree.get_bind,hv]
     simp only[Option.bind_some]
     have hsh: ∃l e' xs,p.2=df st k (.arr l e' xs)∧k<st.length:=by
      unfold nL at hv
      simp only at hv
      split at hv
      ·rename_i e' xs hk
       obtain⟨_,hv⟩:=Tree.aO hv
       obtain⟨ys,hy⟩:=yp hv
       obtain⟨_,hy⟩:=fN hy
       cases hy
       exact⟨_,_,_,rfl,bM hk⟩
      ·cases hv
     obtain⟨l,e',xs,hpe,hlt⟩:=hsh
     have hn:aR p.2 k=some (.arr l e' xs):=by rw[hpe,bE,if_pos ⟨rfl,hlt⟩]
     rw[hn]at h
     cases h
     unfold cI dJ
     simp only[Tree.get]
     rw[hpe]
     simp only[CG,cy,AL,dy]
     rw[Ep]
     rfl
    ·cases h
   ·cases h
 |_=>exact viaVal h
end
open Go
section
variable {P:Program} {E:Env} {w w':World} {σ σ':Sg} {st st':St E.T} {fr:Fr E.T} {a:Act} {S:FuncId→Option (Spec E)} {fx:List Nat} {M:Nat→Prop}
variable {K:Act→World→Prop} {Q:Exit→Act→World→Prop}
mutual
theorem VT.mS {id:Nat} (hd:aR st id=some .dead): ∀{t:Ty} {d:az E.T} {cs:List Value},VT E σ st w M t d cs→id∉D.refs d
 |_,_,_,.val t x cs h=>by simp[D.refs]
 |_,_,_,.bj e a=>by simp[D.refs]
 |_,_,_,.own k l e xs h=>by
  simp only[D.refs,List.mem_singleton]
  rintro rfl
  rw[hd]at h;cases h
 |_,_,_,.dA e v h=>by simp[D.refs]
 |_,_,_,.agg i fs cs h=>by unfold D.refs;exact iw.mS hd h
theorem iw.mS {id:Nat} (hd:aR st id=some .dead): ∀{ts:List Ty} {ds:List (az E.T)} {cs:List Value},iw E σ st w M ts ds cs→id∉bg ds
 |_,_,_,.nil=>by simp[bg]
 |_,_,_,.cons t ts v r c1 c2 h h'=>by
  unfold bg
  rw[List.mem_append,not_or]
  exact⟨VT.mS hd h,iw.mS hd h'⟩
end
mutual
theorem aZ.mS {id:Nat} (hd:aR st id=some .dead) (hb:lf (σ id)=none): ∀{d:az E.T} {v:Value},aZ E σ st w M d v→id∉D.refs d
 |_,_,.undef v=>by simp[D.refs]
 |_,_,.data t d cs h=>VT.mS hd h
 |_,_,.ptr o p b h hl=>by
  simp only[D.refs,List.mem_singleton]
  rintro rfl
  rw[hb]at h;cases h
 |_,_,.cM=>by simp[D.refs]
 |_,_,.dZ t x a cs h hm=>by simp[D.refs]
 |_,_,.jk vs us h=>by unfold D.refs;exact aW.mS hd hb h
 |_,_,.fn f vs us h=>by unfold D.refs;exact aW.mS hd hb h
 |_,_,.ea=>by simp[D.refs]
 |_,_,.fG t d v h=>by unfold D.refs;exact aZ.mS hd hb h
 |_,_,.cr=>by simp[D.refs]
theorem aW.mS {id:Nat} (hd:aR st id=some .dead) (hb:lf (σ id)=none): ∀{ds:List (az E.T)} {us:List Value},aW E σ st w M ds us→id∉bg ds
 |_,_,.nil=>by simp[bg]
 |_,_,.cons v r u us h h'=>by
  unfold bg
  rw[List.mem_append,not_or]
  exact⟨aZ.mS hd hb h,aW.mS hd hb h'⟩
end
theorem fR.mS {id:Nat} (hd:aR st id=some .dead) (hb:lf (σ id)=none): ∀{ds:List (FuncId×List (az E.T))} {us:List Deferred},fR E σ st w M ds us→id∉ds.flatMap fun x=>bg x.2
 |_,_,.nil=>by simp
 |_,_,.cons g as args cap ds dds h h'=>by
  rw[List.flatMap_cons,List.mem_append,not_or]
  exact⟨aW.mS hd hb h,fR.mS hd hb h'⟩
theorem GF {id:Nat} (hst:bm E σ st w) (hd:aR st id=some .dead) (hb:lf (σ id)=none) {o:Nat} {ob:Obj E.T} (h:aR st o=some ob):id∉cd E ob:=by
 have:=hst.obj o ob h
 generalize σ o=u at this
 cases this with
 |box ro d b c el fr hh hf hc=>
  simp only[cd]
  rcases hc with⟨t,ht⟩|⟨_,v,_,_,hv⟩
  ·exact VT.mS hd ht
  ·exact aZ.mS hd hb hv
 |arr l e xs v h=>simp[cd]
 |dead v=>simp[cd]
theorem Uf (hst:bm E σ st w) {σ1:Sg} {id:Nat} {v:Value} {ob:Obj E.T} (hd:aR st id=some .dead) (hb:lf (σ id)=none) (hod:dz ob=false) (m:Mv σ σ1 st (st++[ob]) w w') (hv:σ1 st.length=v)
  (hr: ∀k∈cd E ob,k<st.length∧k≠id):
  bm E (dL σ id v) (df st id ob) w'∧wC (MB σ st) (MB (dL σ id v) (df st id ob)) w w'∧ ∀k,k<st.length→k≠id→ib σ (dL σ id v) st (df st id ob) k:=by
 have hlt:=bM hd
 have hnew:aR (st++[ob]) st.length=some ob:=by rw[ej,if_pos rfl]
 have hold: ∀{o ob'},aR st o=some ob'→aR (st++[ob]) o=some ob':=fun ho=>by rw[ej,if_neg (Nat.ne_of_lt (bM ho))];exact ho
 have hname: ∀{o ob'},aR st o=some ob'→σ1 o=σ o:=fun ho=>m.name _ (bM ho)
 have hin: ∀o ob',aR (df st id ob) o=some ob'→(o=id∧ob'=ob)∨(o≠id∧aR st o=some ob'):=by
  intro o ob' ho
  rw[bE]at ho
  by_cases hoi:id=o
  ·subst hoi
   rw[if_pos ⟨rfl,hlt⟩]at ho
   cases ho
   exact .inl ⟨rfl,rfl⟩
  ·rw[if_neg (fun h=>hoi h.1)]at ho
   exact .inr ⟨fun h=>hoi h.symm,ho⟩
 have hM: ∀b,MB (dL σ id v) (df st id ob) b→MB σ1 (st++[ob]) b:=by
  rintro b (h|⟨o,ob',ho,hm,hbo⟩)
  ·exact .inl (by rw[m.qh.m];exact h)
  ·rcases hin o ob' ho with⟨rfl,rfl⟩|⟨hoi,ho1⟩
   ·rw[dD]at hbo
    exact .inr ⟨st.length,_,hnew,hm,by rw[hv];exact hbo⟩
   ·rw[dC hoi]at hbo
    exact .inr ⟨o,ob',hold ho1,hm,by rw[hname ho1];exact hbo⟩
 have same1: ∀k,k<st.length→k≠id→ib σ1 (dL σ id v) (st++[ob]) (df st id ob) k:=by
  intro k hk hki
  refine⟨by rw[dC hki,m.name k hk],fun l e xs hh=>⟨l,xs,?_⟩,fun _=>by rw[dH];exact hk⟩
  rw[ej,if_neg (Nat.ne_of_lt hk)]at hh
  rw[bE,if_neg (fun h=>hki h.1.symm)]
  exact hh
 refine⟨⟨fun o ob' ho=> ?_,fun o o' ob1 ob2 b hne ho ho' hm hdd h1 h2=> ?_,fun b hbb=>m.rep.qh b (by rw[m.qh.m];exact hbb),fun o ob' b ho hdd h1=> ?_⟩,⟨m.aH.os,m.aH.tape,m.aH.output,m.aH.size,m.aH.block,fun b hb' h=>m.aH.may b hb' (hM b h)⟩,fun k hk hki=> ?_⟩
 ·rcases hin o ob' ho with⟨rfl,rfl⟩|⟨hoi,ho1⟩
  ·have:=m.rep.obj _ _ hnew
   rw[hv]at this
   rw[dD]
   exact cW.aH (Kept.weaken hM) (fun _ _=>rfl) (fun k hk=>same1 k (hr k hk).1 (hr k hk).2) this
  ·have:=m.rep.obj _ _ (hold ho1)
   rw[hname ho1]at this
   rw[dC hoi]
   exact cW.aH (Kept.weaken hM) (fun _ _=>rfl) (fun k hk=>same1 k (zV hst ho1 k hk) (fun e=>GF hst hd hb ho1 (e▸hk))) this
 ·rcases hin o ob1 ho with⟨rfl,e1⟩|⟨hoi,ho1⟩
  ·rcases hin o' ob2 ho' with⟨rfl,e2⟩|⟨hoi',ho2⟩
   ·exact hne rfl
   ·subst e1
    rw[dD]at h1
    rw[dC hoi']at h2
    exact m.rep.apart _ _ _ _ b (fun e=>absurd (bM ho2) (by omega)) hnew (hold ho2) hm hdd (by rw[hv];exact h1) (by rw[hname ho2];exact h2)
  ·rcases hin o' ob2 ho' with⟨rfl,e2⟩|⟨hoi',ho2⟩
   ·subst e2
    rw[dC hoi]at h1
    rw[dD]at h2
    exact m.rep.apart _ _ _ _ b (fun e=>absurd (bM ho1) (by omega)) (hold ho1) hnew hm hdd (by rw[hname ho1];exact h1) (by rw[hv];exact h2)
   ·rw[dC hoi]at h1
    rw[dC hoi']at h2
    exact m.rep.apart _ _ _ _ b hne (hold ho1) (hold ho2) hm hdd (by rw[hname ho1];exact h1) (by rw[hname ho2];exact h2)
 ·show ¬σ.m b
  rw[←m.qh.m]
  rcases hin o ob' ho with⟨rfl,e1⟩|⟨hoi,ho1⟩
  ·subst e1
   rw[dD]at h1
   exact m.rep.out _ _ b hnew hdd (by rw[hv];exact h1)
  ·rw[dC hoi]at h1
   exact m.rep.out _ _ b (hold ho1) hdd (by rw[hname ho1];exact h1)
 ·have h1:=m.same k hk
  have h2:=same1 k hk hki
  refine⟨h2.at_.trans h1.at_,fun l e xs hh=> ?_,fun h=>h2.lt (h1.lt h)⟩
  obtain⟨l1,xs1,hh1⟩:=h1.arr l e xs hh
  exact h2.arr l1 e xs1 hh1
theorem Ms {id:Nat} (hd:aR st id=some .dead) (hb:lf (σ id)=none) (hfr:cf E σ st w fr a) (kp:Kept (MB σ st) (MB σ' st') w w') (hs: ∀k,k<st.length→k≠id→ib σ σ' st st' k):cf E σ' st' w' fr a:=
 vz hfr kp (fun k hk=>hs k (CQ hfr k hk) (fun e=>by
  subst e
  unfold je at hk
  rcases List.mem_append.1 hk with hk|hk
  ·exact aW.mS hd hb hfr.s hk
  ·exact fR.mS hd hb hfr.d hk))
theorem Mf.Uf {σ0:Sg} {st0:St E.T} {w0:World} {id:Nat} {v:Value} {ob:Obj E.T} (m:Mf σ0 σ st0 st w0 w) (gm:st0.length≤id) (hr:bm E (dL σ id v) (df st id ob) w') (hk:wC (MB σ st) (MB (dL σ id v) (df st id ob)) w w') (hamb: ∀b,σ.m b→w'.heap[b]? =w.heap[b]?):
  Mf σ0 (dL σ id v) st0 (df st id ob) w0 w':=by
 refine⟨hr,m.aH.trans hk,⟨fun o ob' ho hl=> ?_,fun o ob' ho=> ?_⟩,m.qh.trans ⟨rfl,hamb⟩⟩
 ·have hlt:=bM ho
  rw[dC (by omega)]
  exact m.stay.same o ob' ho hl
 ·obtain⟨ob2,h1,h2,h3⟩:=m.stay.kind o ob' ho
  have hlt:=bM ho
  exact⟨ob2,by rw[bE,if_neg (fun h=>by omega)];exact h1,h2,h3⟩
theorem Qu (HS:Sound P E) {o:Oper} {e:rT E.T} {id:Nat} (hst:bm E σ st w) (hfr:cf E σ st w fr a) (hm:makes E o.op=true) (h:(eQ E S fx (bY E fr) st id o.op).get=some e) (hb:lf (σ id)=none) {σ0:Sg} {st0:St E.T} {w0:World} (m0:Mf σ0 σ st0 st w0 w) (gm:st0.length≤id)
  (hK: ∀σ' w' a' v ob,e.res= .val v→e.iM=[(id,ob)]→e.ks=[]→e.news=[]→Mf σ0 σ' st0 (df st id ob) w0 w'→(∀k,k≠id→σ' k=σ k)→cf E σ' (df st id ob) w' (put E fr o.dst v) a'→K a' w'):o.wp P a w K Q:=by
 have fin: ∀{y:Value} {w':World} {ob:Obj E.T} {v:az E.T} {σ1:Sg},aR st id=some .dead→dz ob=false→(execOp a.eval o).run P w= .ok (.value y) w'→Mv σ σ1 st (st++[ob]) w w'→σ1 st.length=y→(∀k∈cd E ob,k<st.length∧k≠id)→
   (bm E (dL σ id y) (df st id ob) w'→aZ E (dL σ id y) (df st id ob) w' (MB (dL σ id y) (df st id ob)) v y)→e={res:= .val v,iM:=[(id,ob)],ks:=[],news:=[]}→o.wp P a w K Q:=by
  intro y w' ob v σ1 hd hod hrun m hy hr hv he
  subst he
  obtain⟨h1,h2,h3⟩:=Uf hst hd hb hod m hy hr
  refine j2 hrun (hK _ w' _ v ob rfl rfl rfl rfl (Mf.Uf m0 gm h1 h2 m.qh.gm) (fun k hk=>dC hk) (fo (Ms hd hb hfr h2.kept h3) o.dst (hv h1)))
 obtain⟨dst,op,type,pos,aft,guard⟩:=o
 simp only at h hm fin
 cases op with
 |alloc t=>
  simp only[eQ]at h
  have ht:E.tk t≠ .other:=by intro hk;rw[hk]at h;cases h
  have h':eP E st id=true∧e={res:= .val (.ptr id []),iM:=[(id,.box false (zeroV E t))],ks:=[],news:=[]}:=by
   split at h
   ·cases h
   ·obtain⟨hd,h⟩:=Tree.aO h
    cases h;exact⟨hd,rfl⟩
  obtain⟨hd,he⟩:=h'
  have hd:=pU hd
  obtain⟨u,hu,hv,hf⟩:=Ju HS hst ht
  obtain⟨m,hvp⟩:=En HS hst hf hv
  refine fin (y:= .pointer (some ⟨w.heap.size,0,none⟩)) (w':=w.alloc (.cells u.cells t)) hd rfl (by simp[execOp,Instr.alloc,hu,uD]) m dD (fun k hk=>by simp only[cd,EC]at hk;cases hk) (fun _=> ?_) he
  exact .ptr id [] w.heap.size (by rw[dD];rfl) (by rw[dH];exact bM hd)
 |box t x=>
  simp only[eQ]at h
  obtain⟨hd,h⟩:=Tree.aO h
  cases h
  rw[Bool.and_eq_true]at hd
  have hdd:=pU hd.1
  have hx:=bU hfr x
  obtain⟨m,hvp⟩:=En HS hst hd.2 hx
  refine fin (y:= .pointer (some ⟨w.heap.size,0,none⟩)) (w':=w.alloc (.cells (a.eval x).cells t)) hdd rfl (by simp[execOp,Instr.box,uD]) m dD (fun k hk=>⟨aZ.refs hx k hk,fun e=>aZ.mS hdd hb hx (e▸hk)⟩) (fun _=> ?_) rfl
  exact .ptr id [] w.heap.size (by rw[dD];rfl) (by rw[dH];exact bM hdd)
 |convert s d x=>
  simp only[eQ]at h
  split at h
  ·rename_i hdt
   have hx:=bU hfr x
   split at h
   ·rename_i b hxv
    obtain⟨hd,h⟩:=Tree.aO h
    cases h
    rw[Bool.and_eq_true]at hd
    have hdd:=pU hd.2
    rw[hxv]at hx
    have hdc:(yc E st s d (.val .str b)).get=some (.own st.length,st++[.arr .live (.int .u8) b]):=by
     unfold yc
     have hs:CK E s=true:=by unfold CK;rw[kZ hd.1]
     rw[hs,hdt]
     simp only[Tree.cR]
     rw[hd.1]
     rfl
    obtain⟨y,w',σ1,hrun,m,hv⟩:=KW HS hst hdc hx
    refine fin (y:=y) (w':=w') hdd rfl (by simp[execOp,hrun]) m (uQ hv).symm (fun k hk=>by simp[cd]at hk) (fun _=> ?_) rfl
    have h1:=aZ.data _ _ _ (VT.own (E:=E) (σ:=dL σ id y) (st:=df st id (.arr .live (.int .u8) b)) (w:=w') (M:=MB (dL σ id y) (df st id (.arr .live (.int .u8) b))) id .live (.int .u8) b (by rw[bE,if_pos ⟨rfl,bM hdd⟩]))
    rw[dD]at h1
    exact h1
   ·cases h
  ·rename_i hdt
   exfalso
   have hs: ∃e',E.tk d= .data (.slice e'):=by
    simp only[makes,xQ]at hm
    split at hm
    ·exact⟨_,by assumption⟩
    ·cases hm
   obtain⟨e',he'⟩:=hs
   simp only[gh,he']at h
   cases h
 |makeSlice t l c=>
  simp only[eQ]at h
  obtain⟨p,hp,h⟩:=Tree.aB h
  split at h
  ·rename_i e' xs hp1
   obtain⟨hd,h⟩:=Tree.aO h
   cases h
   have hdd:=pU hd
   have hdm:(eg E false st t (bY E fr l) (bY E fr c)).get=some (.own st.length,st++[.arr .live e' xs]):=by
    unfold eg at hp⊢
    split at hp
    ·obtain⟨h1,h2⟩:=fN hp
     obtain⟨z,hz,h3⟩:=Tree.aB h2
     cases h3
     cases hp1
     simp only[Tree.get,h1,cond_true]
     rw[Tree.get_bind,hz]
     rfl
    ·cases hp
   obtain⟨y,w',σ1,hrun,m,hv⟩:=zp HS hst (bU hfr l) (bU hfr c) hdm
   refine fin (y:=y) (w':=w') hdd rfl (by simp[execOp,hrun]) m (uQ hv).symm (fun k hk=>by simp[cd]at hk) (fun _=> ?_) rfl
   have h1:=aZ.data _ _ _ (VT.own (E:=E) (σ:=dL σ id y) (st:=df st id (.arr .live e' xs)) (w:=w') (M:=MB (dL σ id y) (df st id (.arr .live e' xs))) id .live e' xs (by rw[bE,if_pos ⟨rfl,bM hdd⟩]))
   rw[dD]at h1
   exact h1
  ·cases h
 |_=>cases hm
end
end Go.Proofs.YtlejgahbbfeagaaGreatDoor.D

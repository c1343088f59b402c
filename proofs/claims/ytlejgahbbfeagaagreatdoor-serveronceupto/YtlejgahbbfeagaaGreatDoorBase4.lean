/- Regions whose order is open: what an operation does hangs on what it looks at alone. Regions whose order is open: what an operation does hangs on what it looks at alone (2). Regions whose order is open: what an operation does hangs on what it looks at alone (3). Regions whose order is open: two operations change places (1). Regions whose order is open: two operations change places (2). Regions whose order is open: two operations change places (3). Regions whose order is open: two operations change places (4). Regions whose order is open: any order comes to what the text's order comes to. Regions whose order is open: one operation in the machine. Regions whose order is open: what is made takes its place. -/
import Derived.Test.YtlejgahbbfeagaaGreatDoorBase3
set_option linter.unusedVariables false
set_option linter.unusedSimpArgs false
namespace Go.Proofs.YtlejgahbbfeagaaGreatDoor.D
open Go
noncomputable section
section
variable {E:Env} {st st2:St E.T}
def bI {T:Nat→Type} (L:List Nat) (st st2:St T):Prop:= ∀k∈L,aR st k=aR st2 k
theorem bI.mono {T:Nat→Type} {L L':List Nat} {st st2:St T} (h:bI L st st2) (hs: ∀k∈L',k∈L):bI L' st st2:=fun k hk=>h k (hs k hk)
theorem BY {d:az E.T}: ∀{fs:List (az E.T)},d∈fs→ ∀k∈owns d,k∈eQ fs
 |v::r,h,k,hk=>by
  unfold eQ
  rcases List.mem_cons.1 h with rfl|h
  ·exact List.mem_append_left _ hk
  ·exact List.mem_append_right _ (BY h k hk)
mutual
theorem qU: ∀(d:az E.T),∀k∈owns d,k∈refs d
 | .own o,k,h=>by simpa [owns,refs]using h
 | .agg i fs,k,h=>by unfold owns at h;unfold refs;exact rM fs k h
 | .jo fs,k,h=>by unfold owns at h;unfold refs;exact rM fs k h
 | .fn f fs,k,h=>by unfold owns at h;unfold refs;exact rM fs k h
 | .fD t v,k,h=>by unfold owns at h;unfold refs;exact qU v k h
 | .ptr o p,k,h=>by simp[owns]at h
 | .val t x,k,h=>by simp[owns]at h
 | .bm,k,h=>by simp[owns]at h
 | .cQ,k,h=>by simp[owns]at h
 | .eg t x,k,h=>by simp[owns]at h
 | .ei,k,h=>by simp[owns]at h
 | .ct,k,h=>by simp[owns]at h
 | .dD e,k,h=>by simp[owns]at h
 | .undef,k,h=>by simp[owns]at h
theorem rM: ∀(ds:List (az E.T)),∀k∈eQ ds,k∈bh ds
 |[],k,h=>by simp[eQ]at h
 |d::r,k,h=>by
  unfold eQ at h
  unfold bh
  rcases List.mem_append.1 h with h|h
  ·exact List.mem_append_left _ (qU d k h)
  ·exact List.mem_append_right _ (rM r k h)
end
theorem toHLWith_cong {f g:(t:Ty)→az E.T→Option (I E.T t)}: ∀(ts:List Ty) (vs:List (az E.T)),(∀t,∀v∈vs,f t v=g t v)→toHLWith E f ts vs=toHLWith E g ts vs
 |[],[],_=>rfl
 |[],_::_,_=>rfl
 |_::_,[],_=>rfl
 |t::ts,v::vs,h=>by
  simp only[toHLWith]
  rw[h t v (by simp),toHLWith_cong ts vs (fun t v hv=>h t v (by simp[hv]))]
theorem toData_cong: ∀(n:Nat) (t:Ty) (v:az E.T),bI (owns v) st st2→toData E st n t v=toData E st2 n t v
 |0,_,_,_=>rfl
 |n+1,t,v,h=>by
  cases v with
  |own k=>
   simp only[toData]
   rw[h k (by simp[owns])]
  |agg i fs=>
   cases t with
   |named j=>
    simp only[toData]
    rw[toHLWith_cong (E.fields j) fs (fun t v hv=>toData_cong n t v (h.mono fun k hk=>by unfold owns;exact BY hv k hk))]
   |_=>rfl
  |_=>rfl
theorem AU (t:Ty) (v:az E.T) (h:bI (owns v) st st2):qB E st t v=qB E st2 t v:=by
 cases v with
 |own k=>simp only[qB];rw[h k (by simp[owns])]
 |_=>rfl
theorem Pq (t:Ty) (v:az E.T) (h:bI (owns v) st st2):Pr E st t v=Pr E st2 t v:=by
 cases v with
 |dD e=>rfl
 |own k=>simp only[Pr];exact AU t _ h
 |_=>rfl
theorem zh (t:TypeId) (v:az E.T) (h:bI (owns v) st st2):fits E st t v=fits E st2 t v:=by
 unfold fits
 split
 ·exact AU _ v h
 ·rfl
 ·rfl
theorem Cn (t:TypeId) (v:az E.T) (h:bI (owns v) st st2):mh E st t v=mh E st2 t v:=by
 unfold mh
 split
 ·exact Pq _ v h
 ·rfl
 ·rfl
theorem Im (ts:List Ty): ∀(ps:List (Nat×az E.T)) (fs:List (az E.T)) (f:List (az E.T)→Tree (az E.T)),bI (eQ (ps.map (·.2))) st st2→kJ.fill E st ts fs ps f=kJ.fill E st2 ts fs ps f
 |[],fs,f,_=>by simp[kJ.fill]
 |(j,v) ::r,fs,f,h=>by
  simp only[kJ.fill]
  cases aR ts j with
  |none=>rfl
  |some t=>
   simp only
   rw[AU t v (h.mono fun k hk=>by simp[eQ,hk]),Im ts r _ f (h.mono fun k hk=>by simp[eQ,hk])]
theorem LL (t:TypeId) (ps:List (Nat×az E.T)) (h:bI (eQ (ps.map (·.2))) st st2):kJ E st t ps=kJ E st2 t ps:=by
 unfold kJ
 split
 ·exact Im _ ps _ _ h
 ·rfl
 ·rfl
theorem PW (t:Ty) (x y:az E.T) (f:Bool→Bool) (hx:bI (owns x) st st2) (hy:bI (owns y) st st2):LJ E st t x y f=LJ E st2 t x y f:=by
 unfold LJ
 rw[toData_cong depth t x hx,toData_cong depth t y hy]
theorem P1 (op:BinOp) (t:TypeId) (x y:az E.T) (hx:bI (owns x) st st2) (hy:bI (owns y) st st2):NC E st op t x y=NC E st2 op t x y:=by
 unfold NC
 split<;>first|rfl|skip
 split<;>first|rfl|(congr 1;cases op<;>first|rfl|exact PW _ x y _ hx hy)
theorem Ny (src dst:TypeId) (x:az E.T) (hd: ∀e,E.tk dst≠ .data (.slice e)) (h:bI (owns x) st st2):(yD E st src dst x).bind (fun p=> .ret p.1)=(yD E st2 src dst x).bind (fun p=>Tree.ret p.1):=by
 unfold yD
 cases Df E src with
 |false=>rfl
 |true=>
  simp only[Tree.cV]
  split<;>first|rfl|skip
  ·rename_i s h1;exact absurd h1 (hd _)
  ·rename_i s h1;exact absurd h1 (hd _)
  ·split
   ·unfold elems
    rw[toData_cong (st:=st) (st2:=st2) depth _ _ h]
    have hk: ∀o:Option (List UInt8),((Tree.e9 o).bind fun s=>Tree.ret ((az.val Ty.str s:az E.T),st)).bind (fun p=>Tree.ret p.1)=((Tree.e9 o).bind fun s=>Tree.ret ((az.val Ty.str s:az E.T),st2)).bind (fun p=>Tree.ret p.1):=by
     intro o;cases o<;>rfl
    exact hk _
   ·rfl
theorem PN (t:TypeId) (x:az E.T) (h:bI (owns x) st st2):Nt E st t x=Nt E st2 t x:=by
 unfold Nt
 split<;>first|rfl|skip
 rename_i e k _
 rw[h k (by simp[owns])]
theorem ED (t:TypeId) (x i:az E.T) (h:bI (owns x) st st2):mK E st t x i=mK E st2 t x i:=by
 unfold mK
 split<;>first|rfl|skip
 split<;>first|rfl|skip
 rename_i o
 rw[h o (by simp[owns])]
theorem LA (t:TypeId) (x:az E.T) (lo hi mx:Option (az E.T)) (h1: ∀k,x≠ .own k) (h2: ∀o p,x≠ .ptr o p):(wi E st t x lo hi mx).bind (fun p=> .ret p.1)=(wi E st2 t x lo hi mx).bind (fun p=>Tree.ret p.1):=by
 have key: ∀{α:Type} (xs:List α) (t1:Bool) (l h:Option Int) (g:List α→az E.T),(Tree.cV t1 ((Tree.e9 l).bind fun l=>(Tree.e9 h).bind fun h=>EE E xs l h fun r=> .ret (g r,st))).bind (fun p=> .ret p.1)=
   (Tree.cV t1 ((Tree.e9 l).bind fun l=>(Tree.e9 h).bind fun h=>EE E xs l h fun r=> .ret (g r,st2))).bind (fun p=>Tree.ret p.1):=by
  intro α xs t1 l h g
  cases t1<;>cases l<;>cases h<;>rfl
 unfold wi
 split
 ·rfl
 ·split<;>first|exact key _ _ _ _ _|rfl|skip
  ·rename_i k;exact absurd rfl (h1 k)
  ·rename_i o p;exact absurd rfl (h2 o p)
theorem z6 (tx:TypeId) (e:Ty) (x:az E.T) (k:List (I E.T e)→Tree (Out E)) (h:bI (owns x) st st2):appended E st tx e x k=appended E st2 tx e x k:=by
 unfold appended
 split<;>first|rfl|skip
 unfold elems
 rw[toData_cong depth _ x h]
theorem z7 {β:Type} (tx:TypeId) (e:Ty) (x:az E.T) (k:List (I E.T e)→Tree (Out E)) (g:Out E→Tree β) (k':List (I E.T e)→Tree (Out E)) (g':Out E→Tree β) (h: ∀ys,(k ys).bind g=(k' ys).bind g'):
  (appended E st tx e x k).bind g=(appended E st tx e x k').bind g':=by
 unfold appended
 split
 ·cases isNum E tx with
  |false=>rfl
  |true=>
   simp only[Tree.cV,Tree.bind]
   congr 1
   cases fo E depth e with
   |none=>rfl
   |some z=>exact h _
 ·cases wW E tx .str with
  |false=>rfl
  |true=>
   simp only[Tree.cV]
   split
   ·exact h _
   ·rfl
 ·cases yl E tx with
  |false=>rfl
  |true=>
   simp only[Tree.cV]
   cases elems E st e x with
   |none=>rfl
   |some ys=>exact h ys
theorem xW (t:TypeId) (l c:az E.T):(er E true st t l c).bind (fun p=> .ret p.1)=(er E true st2 t l c).bind (fun p=>Tree.ret p.1):=by
 unfold er
 split
 ·simp only[Tree.bind]
  congr 1
  generalize fo E depth _=z
  cases z<;>rfl
 ·rfl
theorem S9 {ev ev2:Operand→az E.T} (o:Op) (h: ∀x∈o.operands,ev x=ev2 x):gg E ev st o=gg E ev2 st o:=by
 have pairs: ∀ps:Array (Nat×Operand),(∀x∈ps.map (·.2),ev x=ev2 x)→(ps.toList.map fun x=>(x.1,ev x.2))=(ps.toList.map fun x=>(x.1,ev2 x.2)):=fun ps hp=>
  List.map_congr_left fun p hm=>by rw[hp p.2 (Array.mem_map.2 ⟨p,by simpa using hm,rfl⟩)]
 have list: ∀xs:Array Operand,(∀x∈xs,ev x=ev2 x)→xs.toList.map ev=xs.toList.map ev2:=fun xs hp=>List.map_congr_left fun x hm=>hp x (by simpa using hm)
 cases o<;>simp only[Op.operands]at h<;>simp only[gg]
 case build t ps=>rw[pairs ps fun x hx=>h x (by simpa using hx)]
 case buildSlice t n ps=>rw[pairs ps fun x hx=>h x (by simpa using hx)]
 case makeFunc fn first captured=>
  cases fn<;>simp only[gg]
  rw[list captured fun x hx=>h x (by simp[hx])]
 case call c=>
  obtain⟨callee,args,ats⟩:=c
  cases callee with
  |builtin b=>
   simp only[gg]
   rw[list args fun x hx=>h x (by simp[Call.operands,hx])]
  |_=>rfl
 case slice t x lo hi mx=>cases lo<;>cases hi<;>cases mx<;>simp_all
 case typeAssert x xt t ok=>cases ok<;>simp_all [gg]
 all_goals (first|rfl|(simp_all;done))
theorem Tj {S:FuncId→Option (Spec E)} {fx:List Nat} {ev ev2:Operand→az E.T} {id:Nat} (o:Op) (h: ∀x∈o.operands,ev x=ev2 x):eV E S fx ev st id o=eV E S fx ev2 st id o:=by
 have list: ∀xs:Array Operand,(∀x∈xs,ev x=ev2 x)→xs.toList.map ev=xs.toList.map ev2:=fun xs hp=>List.map_congr_left fun x hm=>hp x (by simpa using hm)
 have hv:=S9 (st:=st) o h
 cases o with
 |alloc t=>rfl
 |box t v=>simp only[eV];rw[h v (by simp[Op.operands])]
 |convert src dst x=>
  have hx:=h x (by simp[Op.operands])
  simp only[eV]
  rw[hv,hx]
 |store t a v=>simp only[eV];rw[h a (by simp[Op.operands]),h v (by simp[Op.operands])]
 |makeSlice t l c=>simp only[eV];rw[h l (by simp[Op.operands]),h c (by simp[Op.operands])]
 |buildSlice t n ps=>
  have hp: ∀x∈ps.toList,ev x.2=ev2 x.2:=fun x hx=>h x.2 (by simp only[Op.operands];simp;exact⟨x.1,by simpa using hx⟩)
  have h1:(ps.toList.map fun x=>ev x.2)=ps.toList.map fun x=>ev2 x.2:=List.map_congr_left hp
  have h2: ∀s:St E.T,(ps.toList.map fun x=>(x.1,gV E s 0 (ev x.2)))=ps.toList.map fun x=>(x.1,gV E s 0 (ev2 x.2)):=fun s=>List.map_congr_left fun x hx=>by rw[hp x hx]
  simp only[eV]
  rw[hv,h1]
  simp only[h2]
 |call c=>
  obtain⟨callee,args,ats⟩:=c
  cases callee with
  |value f=>
   simp only[eV]
   rw[h f (by simp[Op.operands,Call.operands]),list args fun x hx=>h x (by simp[Op.operands,Call.operands,hx])]
  |invoke r m=>simp only[eV];rw[hv]
  |builtin b=>
   cases b<;>simp only[eV]<;>first|rw[hv]|skip
   rw[list args fun x hx=>h x (by simp[Op.operands,Call.operands,hx])]
 |_=>simp only[eV];rw[hv]
end
end
open Go
section
variable {E:Env} {st st2:St E.T}
theorem vu {k:Nat} (h:aR st k=aR st2 k):ju E st k=ju E st2 k:=by unfold ju;rw[h]
theorem rL {L:List Nat} (hc: ∀k∈L,∀j∈ju E st k,j∈L) (h:bI L st st2): ∀(n:Nat) (todo seen:List Nat),(∀k∈todo,k∈L)→reach E st n todo seen=reach E st2 n todo seen
 |0,_,_,_=>rfl
 |n+1,[],_,_=>rfl
 |n+1,k::t,seen,ht=>by
  simp only[reach]
  have hk:=ht k (by simp)
  rw[←vu (h k hk)]
  rw[rL hc h n t seen (fun j hj=>ht j (by simp[hj])),rL hc h n _ _ (fun j hj=>by
   rcases List.mem_append.1 hj with hj|hj
   ·exact hc k hk j hj
   ·exact ht j (by simp[hj]))]
theorem BV {L:List Nat} (hc: ∀k∈L,∀j∈ju E st k,j∈L): ∀(n:Nat) (todo seen:List Nat),(∀k∈todo,k∈L)→(∀k∈seen,k∈L)→ ∀k∈reach E st n todo seen,k∈L
 |0,_,_,_,hs,k,h=>hs k h
 |n+1,[],_,_,hs,k,h=>hs k h
 |n+1,j::t,seen,ht,hs,k,h=>by
  simp only[reach]at h
  have hj:=ht j (by simp)
  cases hb:c9 seen j with
  |true=>
   rw[hb]at h
   exact BV hc n t seen (fun i hi=>ht i (by simp[hi])) hs k h
  |false=>
   rw[hb]at h
   refine BV hc n _ _ (fun i hi=> ?_) (fun i hi=> ?_) k h
   ·rcases List.mem_append.1 hi with hi|hi
    ·exact hc j hj i hi
    ·exact ht i (by simp[hi])
   ·rcases List.mem_append.1 hi with hi|hi
    ·exact hs i hi
    ·simp at hi;subst hi;exact hj
theorem wD {R:List Nat} (h:bI R st st2) (hl:st.length=st2.length):pq E st R=pq E st2 R:=by
 unfold pq
 congr 1
 have: ∀(l:List Nat),(∀k∈l,aR st k=aR st2 k)→(l.all fun k=>Nat.blt k st.length&&(ju E st k).all (c9 R))=(l.all fun k=>Nat.blt k st2.length&&(ju E st2 k).all (c9 R)):=by
  intro l
  induction l with
  |nil=>intro _;rfl
  |cons k l ih=>
   intro hk
   simp only[List.all_cons]
   rw[ih (fun j hj=>hk j (by simp[hj])),vu (hk k (by simp)),hl]
 exact this R h
theorem FU {fx R:List Nat} (h:bI R st st2):gT E st fx R=gT E st2 fx R:=by
 unfold gT
 exact List.map_congr_left fun k hk=>by rw[h k hk]
theorem KS {R:List Nat} (h:bI R st st2):tD E st R=tD E st2 R:=by
 unfold tD
 exact List.filter_congr fun k hk=>by rw[h k hk]
theorem H7 {R:List Nat} (h:bI R st st2):live E st R=live E st2 R:=by
 unfold live
 exact List.filter_congr fun k hk=>by rw[h k hk]
theorem DO: ∀{R:List Nat} (q:List (Obj E.T)),bI R st st2→tf E st R q=tf E st2 R q
 |[],q,_=>by cases q<;>rfl
 |k::R,[],_=>rfl
 |k::R,ob::q,h=>by simp only[tf];rw[h k (by simp),DO q (h.mono fun j hj=>by simp[hj])]
theorem kG: ∀{R:List Nat},bI R st st2→frozen E st R=frozen E st2 R
 |[],_=>rfl
 |k::R,h=>by
  simp only[frozen]
  rw[h k (by simp),kG (h.mono fun j hj=>by simp[hj])]
theorem GA: ∀(ps:List Ty) (vs:List (az E.T)),bI (eQ vs) st st2→zW E st ps vs=zW E st2 ps vs
 |[],[],_=>rfl
 |[],_::_,_=>rfl
 |_::_,[],_=>rfl
 |t::ts,v::vs,h=>by
  simp only[zW]
  rw[toData_cong depth t v (h.mono fun k hk=>by simp[eQ,hk]),GA ts vs (h.mono fun k hk=>by simp[eQ,hk])]
theorem Ej: ∀(ps:List TK) (vs:List (az E.T)),bI (eQ vs) st st2→lN E st ps vs=lN E st2 ps vs
 |[],[],_=>rfl
 |[],_::_,_=>rfl
 |tk::ts,[],_=>by cases tk<;>rfl
 |tk::ts,v::vs,h=>by
  have ih:=Ej ts vs (h.mono fun k hk=>by simp[eQ,hk])
  cases tk with
  |data t=>
   simp only[lN]
   rw[toData_cong depth t v (h.mono fun k hk=>by simp[eQ,hk]),ih]
  |other=>rfl
  |_=>simp only[lN];rw[ih]
theorem zV: ∀(ps:List TK) (vs:List (az E.T)),cI E st ps vs=cI E st2 ps vs
 |[],_=>by simp[cI]
 |tk::ts,[]=>by cases tk<;>simp[cI]
 |tk::ts,v::vs=>by cases tk<;>simp[cI,zV ts vs]
theorem yE: ∀(ps:List TK) (vs:List (az E.T)),∀k∈cI E st ps vs,k∈bh vs
 |[],_,k,h=>by simp[cI]at h
 |tk::ts,[],k,h=>by cases tk<;>simp[cI]at h
 |tk::ts,v::vs,k,h=>by
  cases tk<;>simp only[cI,List.mem_append]at h<;>unfold bh
  ·rcases h with h|h
   ·exact List.mem_append_left _ h
   ·exact List.mem_append_right _ (yE ts vs k h)
  all_goals exact List.mem_append_right _ (yE ts vs k h)
theorem Ei: ∀(ps:List TK) (vs ds:List (az E.T)),lN E st ps vs=some ds→ ∀k∈bh ds,k∈bh vs
 |[],[],ds,h,k,hk=>by cases h;exact hk
 |[],_::_,ds,h,k,hk=>by cases h
 |tk::ts,[],ds,h,k,hk=>by cases tk<;>cases h
 |tk::ts,v::vs,ds,h,k,hk=>by
  have ih:=fun ds h=>Ei ts vs ds h k
  cases tk with
  |data t=>
   simp only[lN]at h
   split at h
   ·split at h
    ·rename_i r hr
     cases h
     simp only[bh,refs,List.nil_append]at hk
     unfold bh
     exact List.mem_append_right _ (ih r hr hk)
    ·cases h
   ·cases h
  |other=>cases h
  |_=>
   simp only[lN]at h
   split at h
   ·split at h
    ·rename_i r hr
     cases h
     unfold bh at hk⊢
     rcases List.mem_append.1 hk with hk|hk
     ·exact List.mem_append_left _ hk
     ·exact List.mem_append_right _ (ih r hr hk)
    ·cases h
   ·cases h
theorem Cy {L fx:List Nat} {ds:List (az E.T)} {F:List (az E.T)→St E.T→Tree (iT E.T×St E.T)} (hc: ∀k∈L,∀j∈ju E st k,j∈L) (h:bI L st st2) (hl:st.length=st2.length) (hds: ∀k∈bh ds,k∈L):
  wG E st fx ds F=wG E st2 fx ds F:=by
 unfold wG
 rw[←rL hc h 1000 (bh ds) [] hds]
 have hR:bI (reach E st 1000 (bh ds) []) st st2:=h.mono (BV hc 1000 _ _ hds (fun k hk=>by cases hk))
 generalize reach E st 1000 (bh ds) []=R at*
 simp only
 rw[wD hR hl,FU hR,KS hR,hl]
 congr 1
 congr 1
 funext p
 rw[DO _ hR]
theorem LX {L:List Nat} {ds:List (az E.T)} {F:List (az E.T)→St E.T→Tree (iT E.T×St E.T)} (hc: ∀k∈L,∀j∈ju E st k,j∈L) (h:bI L st st2) (hl:st.length=st2.length) (hds: ∀k∈bh ds,k∈L):
  DE E st ds F=DE E st2 ds F:=by
 unfold DE
 rw[←rL hc h 1000 (bh ds) [] hds]
 have hR:bI (reach E st 1000 (bh ds) []) st st2:=h.mono (BV hc 1000 _ _ hds (fun k hk=>by cases hk))
 generalize reach E st 1000 (bh ds) []=R at*
 simp only
 rw[wD hR hl,FU hR]
theorem Bo {L:List Nat}: ∀(l:List (Nat×Obj E.T)) {s s2:St E.T},bI L s s2→s.length=s2.length→bI L (cG E s l) (cG E s2 l)
 |[],s,s2,h,_=>h
 |p::r,s,s2,h,hl=>by
  simp only[cG]
  refine Bo r (fun k hk=> ?_) (by rw[dL,dL,hl])
  rw[bF,bF,h k hk,hl]
theorem JF (ks:List Nat): ∀(s0 s:St E.T) (k j:Nat),j∈ju E (cG E s (frozen E s0 ks)) k→j∈ju E s k:=by
 induction ks with
 |nil=>intro s0 s k j h;exact h
 |cons a ks ih=>
  intro s0 s k j h
  simp only[frozen]at h
  split at h
  ·simp only[cG]at h
   have:=ih s0 _ k j h
   unfold ju at this⊢
   rw[bF]at this
   by_cases hk:a=k∧k<s.length
   ·rw[if_pos hk]at this;simp[cf]at this
   ·rw[if_neg hk]at this;exact this
  ·exact ih s0 s k j h
theorem LK {S:FuncId→Option (Spec E)} {L fx:List Nat} {f:az E.T} {args:List (az E.T)} (hc: ∀k∈L,∀j∈ju E st k,j∈L) (h:bI L st st2) (hl:st.length=st2.length) (hin: ∀k∈refs f++bh args,k∈L):
  Bb E S st fx f args=Bb E S st2 fx f args:=by
 unfold Bb
 split<;>first|rfl|skip
 rename_i g cap
 have hin2: ∀k∈bh (args++cap),k∈L:=by
  intro k hk
  have happ: ∀(a b:List (az E.T)),bh (a++b)=bh a++bh b:=by
   intro a b
   induction a with
   |nil=>rfl
   |cons v r ih=>simp only[List.cons_append,bh,ih,List.append_assoc]
  rw[happ]at hk
  refine hin k ?_
  rcases List.mem_append.1 hk with hk|hk
  ·exact List.mem_append_right _ hk
  ·exact List.mem_append_left _ (by unfold refs;exact hk)
 have hown:bI (eQ (args++cap)) st st2:=h.mono fun k hk=>hin2 k (rM _ k hk)
 generalize args++cap=vs at*
 split<;>first|rfl|skip
 ·rename_i ps F _
  rw[←GA ps vs hown,←H7 (h.mono hin2)]
  have hf:bI (live E st (bh vs)) st st2:=h.mono fun k hk=>hin2 k (B4.1 hk).1
  have hfz:=kG (E:=E) hf
  generalize live E st (bh vs)=ks at*
  cases ks with
  |nil=>rfl
  |cons a r=>simp only;rw[hfz]
 ·rename_i ps flat F _
  rw[←Ej ps vs hown]
  cases hds:lN E st ps vs with
  |none=>rfl
  |some ds=>
   have hd:=fun k hk=>hin2 k (Ei ps vs ds hds k hk)
   simp only
   cases flat with
   |true=>exact LX hc h hl hd
   |false=>
    simp only
    have hlv:bI (cI E st ps vs) st st2:=h.mono fun k hk=>hin2 k (yE ps vs k hk)
    rw[←zV (st:=st) (st2:=st2) ps vs,←H7 hlv]
    have hf:bI (live E st (cI E st ps vs)) st st2:=hlv.mono fun k hk=>(B4.1 hk).1
    generalize live E st (cI E st ps vs)=ks at*
    have hfz:=kG (E:=E) hf
    split
    ·exact Cy hc h hl hd
    ·rw[←hfz]
     rw[Cy (L:=L) (fun k hk j hj=>hc k hk j (JF _ _ _ k j hj)) (Bo _ h hl) (by rw[eG,eG,hl]) hd]
theorem Pm {ev:Operand→az E.T} {xs:List Operand} {x:Operand} (hx:x∈xs): ∀k∈owns (ev x),k∈eQ (xs.map ev):=fun k hk=>BY (List.mem_map.2 ⟨x,hx,rfl⟩) k hk
theorem S8 {ev:Operand→az E.T} (o:Op) (hn: ∀t a,o≠ .load t a) (hc: ∀s d x,o= .convert s d x→ ∀e,E.tk d≠ .data (.slice e)) (h:bI (eQ (o.operands.toList.map ev)) st st2):gg E ev st o=gg E ev st2 o:=by
 have one: ∀{x:Operand},x∈o.operands→bI (owns (ev x)) st st2:=fun hx=>h.mono (Pm (by simpa using hx))
 cases o with
 |build t ps=>
  simp only[gg]
  refine LL t _ ?_
  simpa [Op.operands,List.map_map,Function.comp_def]using h
 |load t a=>exact absurd rfl (hn t a)
 |binOp op t x y p=>
  simp only[gg]
  rw[P1 op t _ _ (one (x:=x) (by simp[Op.operands])) (one (x:=y) (by simp[Op.operands]))]
 |convert s d x=>
  simp only[gg]
  split
  ·rfl
  ·exact Ny s d _ (hc s d x rfl) (one (x:=x) (by simp[Op.operands]))
 |makeSlice t l c=>simp only[gg];exact xW t _ _
 |slice t x lo hi mx=>
  simp only[gg]
  split
  ·rfl
  ·rfl
  ·rename_i h1 h2
   exact LA t _ _ _ _ (fun k=>h1 k) (fun o p=>h2 o p)
 |indexAddr t x i=>
  simp only[gg]
  exact ED t _ _ (one (x:=x) (by simp[Op.operands]))
 |call c=>
  obtain⟨callee,args,ats⟩:=c
  cases callee with
  |builtin b=>
   simp only[gg]
   have hargs:bI (eQ (args.toList.map ev)) st st2:=by simpa [Op.operands,Call.operands]using h
   generalize args.toList.map ev=vs at hargs
   split<;>first|rfl|skip
   exact PN _ _ (hargs.mono fun k hk=>by simp[eQ,hk])
  |_=>rfl
 |makeFunc fn first captured=>cases fn<;>rfl
 |typeAssert x xt t ok=>cases ok<;>rfl
 |_=>rfl
end
open Go
noncomputable section
section
variable {E:Env} {st st2:St E.T}
theorem KO: ∀(fs:List (az E.T)) (j:Nat),∀k∈refs (nth fs j .undef),k∈bh fs
 |[],j,k,h=>by simp[fg,dZ,ed,refs]at h
 |v::r,0,k,h=>by simp only[fg,dZ,ed]at h;unfold bh;exact List.mem_append_left _ h
 |v::r,j+1,k,h=>by simp only[fg,dZ,ed]at h;unfold bh;exact List.mem_append_right _ (KO r j k h)
theorem Ld: ∀(ts:List Ty) (x:HL E.T ts) (j:Nat),refs (nth (Qi E ts x) j .undef)=[]
 |[],x,j=>by simp[Qi,fg,dZ,ed,refs]
 |t::ts,x,0=>by simp[Qi,fg,dZ,ed,refs]
 |t::ts,x,j+1=>by simp only[Qi,fg,dZ,ed];exact Ld ts x.2 j
theorem JG {d:az E.T} {i:Nat} {fs:List (az E.T)} (h:nR E d=some (i,fs)) (j:Nat): ∀k∈refs (nth fs j .undef),k∈refs d:=by
 intro k hk
 cases d with
 |val t x=>
  cases t with
  |named i'=>
   simp only[nR,Option.some.injEq,Prod.mk.injEq]at h
   obtain⟨rfl,rfl⟩:=h
   unfold parts at hk
   rw[Ld]at hk
   cases hk
  |_=>cases h
 |agg i' fs'=>
  simp only[nR,Option.some.injEq,Prod.mk.injEq]at h
  obtain⟨rfl,rfl⟩:=h
  unfold refs
  exact KO _ j k hk
 |_=>cases h
theorem y5 {ok ok2:az E.T→Bool} (v:az E.T): ∀(p:List Step) (d:az E.T),(∀d',(∀k∈owns d',k∈refs d)→ok d'=ok2 d')→ve E ok v p d=ve E ok2 v p d
 |[],d,h=>by simp only[ve];rw[h d (qU d)]
 | .tQ i j::p,d,h=>by
  simp only[ve]
  split
  ·rename_i i' fs he
   rw[y5 v p _ (fun d' hd=>h d' (fun k hk=>JG he j k (hd k hk)))]
  ·rfl
 | .idx e n::p,d,h=>by
  cases d with
  |val t x=>
   cases t with
   |arr m e'=>
    simp only[ve]
    congr 1
    congr 1
    funext y
    rw[y5 v p _ (fun d' hd=>h d' (fun k hk=>by have:=hd k hk;simp[refs]at this))]
   |_=>rfl
  |_=>rfl
theorem HE {ok ok2:az E.T→Bool} (v:az E.T) (p:List Step) (ob:Obj E.T) (h: ∀d',(∀k∈owns d',k∈cf E ob)→ok d'=ok2 d'):Ak E ok v ob p=Ak E ok2 v ob p:=by
 cases ob with
 |box ro c=>
  cases ro with
  |false=>simp only[Ak];rw[y5 v p c h]
  |true=>rfl
 |arr l e xs=>
  cases p with
  |nil=>rfl
  |cons s p=>
   cases s with
   |tQ i j=>rfl
   |idx e' n=>
    simp only[Ak]
    congr 1
    congr 1
    funext y
    rw[y5 v p _ (fun d' hd=>h d' (fun k hk=>by have:=hd k hk;simp[refs]at this))]
 |dead=>rfl
mutual
theorem Dy: ∀(d:az E.T),bI (owns d) st st2→gV E st 0 d=gV E st2 0 d
 | .own k,h=>by simp only[gV];rw[h k (by simp[owns])]
 | .agg i fs,h=>by simp only[gV];rw[Iv fs (by simpa only[owns]using h)]
 | .val _ _,_=>rfl
 | .bm,_=>rfl
 | .ptr _ _,_=>rfl
 | .cQ,_=>rfl
 | .eg _ _,_=>rfl
 | .jo _,_=>rfl
 | .fn _ _,_=>rfl
 | .ei,_=>rfl
 | .fD _ _,_=>rfl
 | .ct,_=>rfl
 | .dD _,_=>rfl
 | .undef,_=>rfl
theorem Iv: ∀(ds:List (az E.T)),bI (eQ ds) st st2→sl E st 0 ds=sl E st2 0 ds
 |[],_=>rfl
 |v::r,h=>by
  simp only[sl]
  rw[Dy v (h.mono fun k hk=>by unfold eQ;exact List.mem_append_left _ hk),Iv r (h.mono fun k hk=>by unfold eQ;exact List.mem_append_right _ hk)]
end
theorem rf: ∀(l:List (Nat×Obj E.T)) (s s2:St E.T) (k:Nat),aR s k=aR s2 k→aR (cG E s l) k=aR (cG E s2 l) k
 |[],s,s2,k,h=>h
 |p::r,s,s2,k,h=>by
  simp only[cG]
  refine rf r _ _ k ?_
  rw[bF,bF]
  by_cases hk:p.1=k
  ·subst hk
   by_cases hl:p.1<s.length
   ·have:p.1<s2.length:=by
     have h1:aR s p.1=some s[p.1]:=by rw[cX];exact List.getElem?_eq_getElem hl
     rw[h1]at h
     exact bT h.symm
    rw[if_pos ⟨rfl,hl⟩,if_pos ⟨rfl,this⟩]
   ·have: ¬p.1<s2.length:=fun h2=>hl (by
     have h1:aR s2 p.1=some s2[p.1]:=by rw[cX];exact List.getElem?_eq_getElem h2
     rw[h1]at h
     exact bT h)
    rw[if_neg (fun h=>hl h.2),if_neg (fun h=>this h.2)];exact h
  ·rw[if_neg (fun h=>hk h.1),if_neg (fun h=>hk h.1)];exact h
theorem Ll {ks:List Nat} (h:bI ks st st2):bI ks (freeze E st ks) (freeze E st2 ks):=by
 intro k hk
 rw[←du,←du,←kG h]
 exact rf _ _ _ k (h k hk)
structure Mov (E:Env) (ev:Operand→az E.T) (st:St E.T) (id:Nat) (o:Op) (e:sB E.T):Prop where
 val: ∃v,e.res= .val v
 ks:e.ks=[]
 news:e.news=[]
 iO:e.iO=[]∨ ∃ob,e.iO=[(id,ob)]∧aR st id=some .dead∧dC ob=false∧(∀k∈cf E ob,k∈bh (o.operands.toList.map ev))∧makes E o=true∧id∈s6 E e.res
theorem ET {ev:Operand→az E.T} {id:Nat} {o:Op} {v:az E.T}:Mov E ev st id o (sD E v):=⟨⟨v,rfl⟩,rfl,rfl,.inl rfl⟩
theorem na {t:Tree (az E.T)} {e:sB E.T} (h:(t.bind fun v=> .ret (sD E v)).get=some e): ∃v,t.get=some v∧e=sD E v:=by
 obtain⟨v,h1,h2⟩:=Tree.aA h
 cases h2
 exact⟨v,h1,rfl⟩
theorem E8: ∀(n:Nat) (t:Ty),refs (iP E n t)=[]
 |0,t=>by simp[iP,refs]
 |n+1,t=>by
  cases t with
  |arr m e=>simp only[iP];split<;>simp[refs]
  |named i=>
   simp only[iP]
   unfold refs
   have: ∀ts:List Ty,bh (ts.map (iP E n))=[]:=by
    intro ts
    induction ts with
    |nil=>rfl
    |cons t ts ih=>simp only[List.map_cons,bh,E8 n t,ih,List.append_nil]
   exact this _
  |_=>simp[iP,refs]
theorem E7 (t:TypeId):refs (zeroV E t)=[]:=by
 unfold zeroV
 split<;>first|exact E8 _ _|simp[refs]
theorem qk {i:Nat} (h:eU E st i=true):aR st i=some .dead:=by
 unfold eU at h
 split at h
 ·assumption
 ·cases h
theorem uK {S:FuncId→Option (Spec E)} {fx:List Nat} {ev:Operand→az E.T} {id:Nat} {o:Op} {e:sB E.T} (hm:fh E ev o=true) (h:(eV E S fx ev st id o).get=some e):Mov E ev st id o e:=by
 cases o with
 |alloc t=>
  simp only[eV]at h
  split at h
  ·cases h
  ·obtain⟨hd,h⟩:=Tree.aO h
   cases h
   exact⟨⟨_,rfl⟩,rfl,rfl,.inr ⟨_,rfl,qk hd,rfl,(fun k hk=>by simp only[cf,E7]at hk;cases hk),rfl,by simp[s6,refs]⟩⟩
 |box t v=>
  simp only[eV]at h
  obtain⟨hd,h⟩:=Tree.aO h
  cases h
  rw[Bool.and_eq_true]at hd
  exact⟨⟨_,rfl⟩,rfl,rfl,.inr ⟨_,rfl,qk hd.1,rfl,(fun k hk=>by simpa [Op.operands,cf,bh]using hk),rfl,by simp[s6,refs]⟩⟩
 |convert s d x=>
  simp only[eV]at h
  split at h
  ·rename_i hd'
   split at h
   ·obtain⟨hd,h⟩:=Tree.aO h
    cases h
    rw[Bool.and_eq_true]at hd
    exact⟨⟨_,rfl⟩,rfl,rfl,.inr ⟨_,rfl,qk hd.2,rfl,(fun k hk=>by simp[cf]at hk),by simp only[makes,yl,hd'],by simp[s6,refs]⟩⟩
   ·cases h
  ·obtain⟨v,_,rfl⟩:=na h;exact ET
 |store t a v=>cases hm
 |makeSlice t l c=>
  simp only[eV]at h
  obtain⟨p,hp,h⟩:=Tree.aA h
  split at h
  ·obtain⟨hd,h⟩:=Tree.aO h
   cases h
   exact⟨⟨_,rfl⟩,rfl,rfl,.inr ⟨_,rfl,qk hd,rfl,(fun k hk=>by simp[cf]at hk),rfl,by simp[s6,refs]⟩⟩
  ·cases h
 |buildSlice t n ps=>
  simp only[fh,List.isEmpty_iff]at hm
  simp only[eV,hm]at h
  obtain⟨v,_,rfl⟩:=na h;exact ET
 |call c=>
  obtain⟨callee,args,ats⟩:=c
  cases callee with
  |value f=>cases hm
  |invoke r m=>cases hm
  |builtin b=>
   cases b<;>first|(cases hm;done)|(simp only[eV]at h;obtain⟨v,_,rfl⟩:=na h;exact ET)
 |_=>simp only[eV]at h;obtain⟨v,_,rfl⟩:=na h;exact ET
theorem Ti {S:FuncId→Option (Spec E)} {fx:List Nat} {ev:Operand→az E.T} {id:Nat} {o:Op} {e:sB E.T} (h:(eV E S fx ev st id o).get=some e) (hk:ic E ev st o=true) (ha:bI (look E ev st id o e) st st2)
  (hl:fh E ev o=true∨st.length=st2.length):(eV E S fx ev st2 id o).get=some e∧ic E ev st2 o=true∧look E ev st2 id o e=look E ev st id o e:=by
 have viaVal: ∀(o:Op),(∀t a,o≠ .load t a)→(∀s d x,o= .convert s d x→ ∀e,E.tk d≠ .data (.slice e))→bI (eQ (o.operands.toList.map ev)) st st2→((gg E ev st o).bind fun v=> .ret (sD E v)).get=some e→((gg E ev st2 o).bind fun v=> .ret (sD E v)).get=some e:=by
  intro o h1 h2 h3 h4
  rw[←S8 o h1 h2 h3];exact h4
 have arrs: ∀L:List Nat,bI L st st2→L.all (zR E st)=L.all (zR E st2):=by
  intro L
  induction L with
  |nil=>intro _;rfl
  |cons k L ih=>
   intro h
   simp only[List.all_cons]
   rw[ih (h.mono fun j hj=>by simp[hj])]
   unfold zR
   rw[h k (by simp)]
 have free: ∀(o:Op),gg E ev st o=gg E ev st2 o→((gg E ev st o).bind fun v=> .ret (sD E v)).get=some e→((gg E ev st2 o).bind fun v=> .ret (sD E v)).get=some e:=fun o h1 h2=>by rw[←h1];exact h2
 cases o with
 |move x=>exact⟨h,rfl,rfl⟩
 |assign x=>exact⟨h,rfl,rfl⟩
 |alloc t=>
  refine⟨?_,rfl,rfl⟩
  simp only[eV]at h⊢
  have:eU E st2 id=eU E st id:=by unfold eU;rw[ha id (by simp[look])]
  rw[this];exact h
 |box t v=>
  refine⟨?_,by simp only[ic]at hk⊢;rw[←arrs _ (ha.mono fun k hk=>by simp[look,hk])];exact hk,rfl⟩
  simp only[eV]at h⊢
  have:eU E st2 id=eU E st id:=by unfold eU;rw[ha id (by simp[look])]
  rw[this,←zh (st:=st) (st2:=st2) t (ev v) (ha.mono fun k hk=>by simp[look,hk])];exact h
 |convert s d x=>
  refine⟨?_,by simp only[ic]at hk⊢;rw[←arrs _ (ha.mono fun k hk=>by simp[look,hk])];exact hk,rfl⟩
  simp only[eV]at h⊢
  split
  ·rename_i hd
   rw[hd]at h
   have:eU E st2 id=eU E st id:=by unfold eU;rw[ha id (by simp[look,yl,hd])]
   rw[this];exact h
  ·rename_i hd
   have h':((gg E ev st (.convert s d x)).bind fun v=> .ret (sD E v)).get=some e:=by
    split at h
    ·rename_i hd2;exact absurd hd2 hd
    ·exact h
   by_cases hsl: ∃e,E.tk d= .data (.slice e)
   ·obtain⟨e',he⟩:=hsl
    simp only[gg,he]at h'
    cases h'
   ·exact viaVal _ (fun t a hh=>by cases hh) (fun s' d' x' hh e' he=>by cases hh;exact hsl ⟨e',he⟩) (ha.mono fun k hk=>by
     have:k∈owns (ev x):=by simpa [Op.operands,eQ]using hk
     simp[look,this]) h'
 |makeSlice t l c=>
  refine⟨?_,by simp only[ic]at hk⊢;rw[←arrs _ (ha.mono fun k hk=>by simp only[look];exact List.mem_cons_of_mem _ hk)];exact hk,rfl⟩
  simp only[eV]at h⊢
  have hd:eU E st2 id=eU E st id:=by unfold eU;rw[ha id (by simp[look])]
  obtain⟨p,hp,h⟩:=Tree.aA h
  have hp2:(er E true st2 t (ev l) (ev c)).get=some (p.1,st2):=by
   have h1:=xW (st:=st) (st2:=st2) t (ev l) (ev c)
   have h2:((er E true st2 t (ev l) (ev c)).bind fun p=>Tree.ret p.1).get=some p.1:=by rw[←h1,Tree.get_bind,hp];rfl
   obtain⟨q,hq,h3⟩:=Tree.aA h2
   have h4:q.1=p.1:=Option.some.inj h3
   rw[hq,←h4]
   have:q.2=st2:=by
    unfold er at hq
    split at hq
    ·obtain⟨_,h⟩:=fM hq
     obtain⟨z,_,h⟩:=Tree.aA h
     cases h;rfl
    ·cases hq
   rw[←this]
  rw[Tree.get_bind,hp2]
  simp only[Option.bind_some,hd]
  exact h
 |buildSlice t n ps=>
  have ha':bI (eQ (ps.toList.map fun x=>ev x.2)) st st2:=by
   have:look E ev st id (.buildSlice t n ps) e=eQ (ps.toList.map fun x=>ev x.2):=by simp[look,Op.operands,Function.comp_def]
   rwa [this]at ha
  refine⟨?_,by simp only[ic]at hk⊢;rw[←arrs _ (by simpa only[look]using ha)];exact hk,rfl⟩
  simp only[eV]at h⊢
  split at h
  ·exact viaVal _ (fun t a hh=>by cases hh) (fun s d x hh=>by cases hh) (by simpa only[look]using ha) h
  ·rename_i k r hks
   rw[hks]at ha'
   have hfr:frozen E st2 (k::r)=frozen E st (k::r):=(kG ha').symm
   have hdat: ∀x∈ps.toList,gV E (freeze E st2 (k::r)) 0 (ev x.2)=gV E (freeze E st (k::r)) 0 (ev x.2):=fun x hx=>
    (Dy (ev x.2) ((Ll ha').mono fun j hj=>by rw[←hks];exact BY (List.mem_map.2 ⟨x,hx,rfl⟩) j hj)).symm
   have hmap:(ps.toList.map fun x=>(x.1,gV E (freeze E st2 (k::r)) 0 (ev x.2)))=ps.toList.map fun x=>(x.1,gV E (freeze E st (k::r)) 0 (ev x.2)):=List.map_congr_left fun x hx=>by rw[hdat x hx]
   rw[hfr,hmap]
   exact h
 |store t a v=>
  simp only[eV]at h⊢
  have hlvc:bI (refs (ev v)) st st2→live E st2 (rowsOf E (ev a) (ev v))=live E st (rowsOf E (ev a) (ev v)):=by
   intro hag
   unfold live
   refine List.filter_congr fun x hx=> ?_
   rw[hag x]
   unfold rowsOf at hx
   split at hx
   ·rename_i p _
    cases hi:F7 p with
    |true=>rw[hi]at hx;exact hx
    |false=>rw[hi]at hx;cases hx
   ·cases hx
  split at h
  ·rename_i hlv
   split at h
   ·rename_i k p hev
    have hlk: ∀s:St E.T,look E ev s id (.store t a v) e=k::(ju E s k++refs (ev v)):=fun s=>by simp only[look,hev]
    rw[hlk]at ha
    have hk':=ha k (by simp)
    refine⟨?_,rfl,by rw[hlk,hlk,vu hk']⟩
    have hl2:=hlvc (ha.mono fun j hj=>by simp[hj])
    rw[hl2,hlv]
    simp only
    rw[←hk']
    split at h
    ·rename_i b hb
     rw[←zh (st:=st) (st2:=st2) t (ev v) (ha.mono fun j hj=>by simp[qU _ j hj])]
     rw[←HE (ok:=mh E st t) (ok2:=mh E st2 t) (ev v) p b (fun d' hd=>Cn t d' (ha.mono fun j hj=>by
      have:=hd j hj
      have h2:j∈ju E st k:=by unfold ju;rw[hb];exact this
      simp[h2]))]
     exact h
    ·cases h
   ·cases h
  ·rename_i k r hlv
   split at h
   ·rename_i q p hev
    have hlk: ∀s:St E.T,look E ev s id (.store t a v) e=q::(ju E s q++refs (ev v)):=fun s=>by simp only[look,hev]
    rw[hlk]at ha
    have hq':=ha q (by simp)
    have hag:bI (refs (ev v)) st st2:=ha.mono fun j hj=>by simp[hj]
    refine⟨?_,rfl,by rw[hlk,hlk,vu hq']⟩
    have hl2:=hlvc hag
    rw[hl2,hlv]
    simp only
    have hks:bI (k::r) st st2:=fun j hj=>hag j (by
     have h1:j∈live E st (rowsOf E (ev a) (ev v)):=by rw[hlv];exact hj
     have h2:=(List.mem_filter.1 h1).1
     rw[hev]at h2
     simp only[rowsOf]at h2
     cases hi:F7 p with
     |true=>rw[hi]at h2;exact h2
     |false=>rw[hi]at h2;cases h2)
    have hfz: ∀j,aR st j=aR st2 j→aR (freeze E st (k::r)) j=aR (freeze E st2 (k::r)) j:=fun j hj=>by
     rw[←du,←du,←kG hks]
     exact rf _ _ _ j hj
    have hdat:gV E (freeze E st2 (k::r)) 0 (ev v)=gV E (freeze E st (k::r)) 0 (ev v):=(Dy (ev v) fun j hj=>hfz j (hag j (qU _ j hj))).symm
    rw[hdat,←hfz q hq',←kG hks]
    split at h
    ·rename_i l e' xs hb
     obtain⟨hn,h⟩:=Tree.aO h
     have hn2:=hn
     simp only[Bool.and_eq_true]at hn
     have hem:owns (gV E (freeze E st (k::r)) 0 (ev v))=[]:=List.isEmpty_iff.1 hn.2
     rw[←zh (st:=freeze E st (k::r)) (st2:=freeze E st2 (k::r)) t (gV E (freeze E st (k::r)) 0 (ev v)) (by rw[hem];intro j hj;cases hj)]
     rw[←HE (ok:=mh E (freeze E st (k::r)) t) (ok2:=mh E (freeze E st2 (k::r)) t) (gV E (freeze E st (k::r)) 0 (ev v)) p (.arr l e' xs) (fun d' hd=>Cn t d' fun j hj=>by
      have:=hd j hj
      cases this)]
     rw[hn2]
     exact h
    ·cases h
   ·cases h
 |load t a=>
  simp only[eV]at h⊢
  obtain⟨v,hv,rfl⟩:=na h
  simp only[gg]at hv⊢
  refine⟨?_,rfl,rfl⟩
  have key:(yw E st2 t (ev a)).get=some v:=by
   unfold yw at hv⊢
   split at hv
   ·rename_i k p hev
    have ha':bI (k::refs v) st st2:=by
     have:look E ev st id (.load t a) (sD E v)=k::refs v:=by simp only[look,hev,sD]
     rwa [this]at ha
    rw[←ha' k (by simp)]
    split at hv
    ·rename_i b hb
     obtain⟨v',h1,h2⟩:=Tree.aA hv
     obtain⟨hf,h2⟩:=Tree.aO h2
     cases h2
     rw[Tree.get_bind,h1]
     simp only[Option.bind_some]
     rw[←zh (st:=st) (st2:=st2) t v (ha'.mono fun j hj=>by simp[qU _ j hj]),hf]
     rfl
    ·cases hv
   ·exact hv
   ·cases hv
  rw[Tree.get_bind,key];rfl
 |call c=>
  obtain⟨callee,args,ats⟩:=c
  cases callee with
  |value f=>
   have hl:=hl.resolve_left (by simp[fh])
   simp only[ic,Bool.and_eq_true]at hk
   have hc:=zm hk.1
   simp only[look]at ha
   have hin: ∀k∈kL E ev f args,k∈reach E st 1000 (kL E ev f args) []:=by
    intro k hk'
    have:=hk.2
    rw[List.all_eq_true]at this
    exact(ez _ k).1 (this k hk')
   have hcl: ∀k∈reach E st 1000 (kL E ev f args) [],∀j∈ju E st k,j∈reach E st 1000 (kL E ev f args) []:=by
    intro k hk' j hj
    unfold ju at hj
    split at hj
    ·rename_i ob hob;exact hc.obj k hk' ob hob j hj
    ·cases hj
   have hr:=rL hcl ha 1000 (kL E ev f args) [] hin
   refine⟨?_,?_,?_⟩
   ·simp only[eV]at h⊢
    rw[←LK hcl ha hl hin];exact h
   ·simp only[ic,Bool.and_eq_true]
    rw[←hr,←wD ha hl]
    exact hk
   ·simp only[look];exact hr.symm
  |invoke r m=>simp only[eV]at h;cases h
  |builtin b=>
   have hlk: ∀s:St E.T,look E ev s id (.call {callee:= .builtin b,args:=args,argTypes:=ats}) e=eQ (args.toList.map ev):=fun s=>by simp[look,Op.operands,Call.operands]
   rw[hlk]at ha
   refine⟨?_,by simp only[ic,Op.operands,Call.operands]at hk⊢;rw[←arrs _ (by simpa using ha)];exact hk,by rw[hlk,hlk]⟩
   have hdv:=fun hh=>viaVal (.call {callee:= .builtin b,args:=args,argTypes:=ats}) (fun t a hh=>by cases hh) (fun s d x hh=>by cases hh) (by simpa [Op.operands,Call.operands]using ha) hh
   cases b<;>simp only[eV]at h hdv⊢ <;>first|exact hdv h|skip
   have hl:=hl.resolve_left (by simp[fh])
   clear hdv
   split at h
   ·rename_i s x t tx hargs hats
    rw[hargs]at ha
    split at h
    ·unfold nU at h⊢
     simp only at h⊢
     split at h
     ·rename_i e' htk
      rw[←z6 (st:=st) (st2:=st2) tx e' x _ (ha.mono fun k hk=>by simp[eQ,hk])]
      rw[←h]
      congr 1
      refine(z7 tx e' x _ _ _ _ (fun ys=> ?_)).symm
      simp only[Tree.bind]
      congr 1
      rw[hl]
      simp[List.drop_append,←hl]
     ·cases h
    ·rename_i k
     have hk':=ha k (by simp[eQ,owns])
     unfold nU at h⊢
     simp only at h⊢
     rw[←hk']
     split at h
     ·rename_i e' xs hob
      have hlt:=bT hob
      have hlt2:k<st2.length:=by rw[←hl];exact hlt
      cases hty:wW E t (.slice e')with
      |false=>rw[hty]at h;cases h
      |true=>
       rw[hty]at h
       simp only[Tree.cV]at h⊢
       rw[←z6 (st:=st) (st2:=st2) tx e' x _ (ha.mono fun j hj=>by simp[eQ,hj])]
       rw[←h]
       congr 1
       refine(z7 tx e' x _ _ _ _ (fun ys=> ?_)).symm
       simp only[Tree.bind]
       congr 1
       rw[bF,if_pos ⟨rfl,hlt⟩,bF,if_pos ⟨rfl,hlt2⟩]
     ·cases h
    ·cases h
   ·cases h
 |_=>
  refine⟨?_,by simp only[ic]at hk⊢;rw[←arrs _ (by simpa only[look]using ha)];exact hk,rfl⟩
  simp only[eV]at h⊢
  exact viaVal _ (fun t a hh=>by cases hh) (fun s d x hh=>by cases hh) (by simpa only[look]using ha) h
end
end
open Go
noncomputable section
section
variable {E:Env} {st st1 st2:St E.T}
mutual
theorem oT (ks:List Nat): ∀(d:az E.T),(∀k∈refs d,k∉ks)→kill E st ks d=d
 | .own k,h=>by unfold kill;rw[kx.2 (h k (by simp[refs]))];rfl
 | .ptr o p,h=>by unfold kill;rw[kx.2 (h o (by simp[refs]))];rfl
 | .agg i fs,h=>by unfold kill;rw[vK ks fs (fun k hk=>h k (by unfold refs;exact hk))]
 | .jo fs,h=>by unfold kill;rw[vK ks fs (fun k hk=>h k (by unfold refs;exact hk))]
 | .fn f fs,h=>by unfold kill;rw[vK ks fs (fun k hk=>h k (by unfold refs;exact hk))]
 | .fD t v,h=>by unfold kill;rw[oT ks v (fun k hk=>h k (by unfold refs;exact hk))]
 | .val t x,h=>by unfold kill;rfl
 | .bm,h=>by unfold kill;rfl
 | .cQ,h=>by unfold kill;rfl
 | .eg t x,h=>by unfold kill;rfl
 | .ei,h=>by unfold kill;rfl
 | .ct,h=>by unfold kill;rfl
 | .dD e,h=>by unfold kill;rfl
 | .undef,h=>by unfold kill;rfl
theorem vK (ks:List Nat): ∀(ds:List (az E.T)),(∀k∈bh ds,k∉ks)→cY E st ks ds=ds
 |[],h=>by unfold cY;rfl
 |d::r,h=>by
  unfold cY
  rw[oT ks d (fun k hk=>h k (by unfold bh;exact List.mem_append_left _ hk)),vK ks r (fun k hk=>h k (by unfold bh;exact List.mem_append_right _ hk))]
end
mutual
theorem vJ (ks:List Nat): ∀(d:az E.T),clean (kill E st ks d)=true→kill E st ks d=d
 | .own k,h=>by
  unfold kill at h⊢
  cases hb:c9 ks k with
  |true=>rw[hb]at h;simp only[cond_true]at h;split at h<;>simp[clean]at h
  |false=>rfl
 | .ptr o p,h=>by
  unfold kill at h⊢
  cases hb:c9 ks o with
  |true=>rw[hb]at h;simp[clean]at h
  |false=>rfl
 | .agg i fs,h=>by unfold kill at h⊢;unfold clean at h;rw[sY ks fs h]
 | .jo fs,h=>by unfold kill at h⊢;unfold clean at h;rw[sY ks fs h]
 | .fn f fs,h=>by unfold kill at h⊢;unfold clean at h;rw[sY ks fs h]
 | .fD t v,h=>by unfold kill at h⊢;unfold clean at h;rw[vJ ks v h]
 | .val t x,h=>by unfold kill;rfl
 | .bm,h=>by unfold kill;rfl
 | .cQ,h=>by unfold kill;rfl
 | .eg t x,h=>by unfold kill;rfl
 | .ei,h=>by unfold kill;rfl
 | .ct,h=>by unfold kill;rfl
 | .dD e,h=>by unfold kill;rfl
 | .undef,h=>by unfold kill;rfl
theorem sY (ks:List Nat): ∀(ds:List (az E.T)),tX (cY E st ks ds)=true→cY E st ks ds=ds
 |[],h=>by unfold cY;rfl
 |d::r,h=>by
  unfold cY at h⊢
  unfold tX at h
  rw[Bool.and_eq_true]at h
  rw[vJ ks d h.1,sY ks r h.2]
end
mutual
theorem C9 {s s':St E.T} {ks:List Nat} (h:bI ks s s'): ∀(d:az E.T),kill E s ks d=kill E s' ks d
 | .own k=>by
  unfold kill
  cases hb:c9 ks k with
  |true=>rw[h k ((ez ks k).1 hb)]
  |false=>rfl
 | .ptr o p=>by unfold kill;rfl
 | .agg i fs=>by unfold kill;rw[oV h fs]
 | .jo fs=>by unfold kill;rw[oV h fs]
 | .fn f fs=>by unfold kill;rw[oV h fs]
 | .fD t v=>by unfold kill;rw[C9 h v]
 | .val t x=>by unfold kill;rfl
 | .bm=>by unfold kill;rfl
 | .cQ=>by unfold kill;rfl
 | .eg t x=>by unfold kill;rfl
 | .ei=>by unfold kill;rfl
 | .ct=>by unfold kill;rfl
 | .dD e=>by unfold kill;rfl
 | .undef=>by unfold kill;rfl
theorem oV {s s':St E.T} {ks:List Nat} (h:bI ks s s'): ∀(ds:List (az E.T)),cY E s ks ds=cY E s' ks ds
 |[]=>by unfold cY;rfl
 |d::r=>by unfold cY;rw[C9 h d,oV h r]
end
theorem Jr {s s':St E.T} {ks:List Nat} (h:bI ks s s'):bW E s ks=bW E s' ks:=by
 funext ob
 cases ob<;>simp[bW,C9 h]
theorem Jq {ks:List Nat} {ob:Obj E.T} (h: ∀k∈cf E ob,k∉ks):bW E st ks ob=ob:=by
 cases ob with
 |box ro c=>simp only[bW];rw[oT ks c h]
 |_=>rfl
theorem uB (ks:List Nat): ∀(ds:List (az E.T)) (t:Nat),nth (cY E st ks ds) t .undef=kill E st ks (nth ds t .undef)
 |[],t=>by unfold cY kill;rfl
 |d::r,0=>by unfold cY;rfl
 |d::r,t+1=>by unfold cY;exact uB ks r t
theorem Db (ks:List Nat): ∀(ds:List (az E.T)) (t:Nat) (v:az E.T),cY E st ks (dk ds t v)=dk (cY E st ks ds) t (kill E st ks v)
 |[],t,v=>by unfold cY;rfl
 |d::r,0,v=>by simp[cY,jJ,gF,gG]
 |d::r,t+1,v=>by simp only[cY,jJ,gF,gG];rw[Db ks r t v]
variable {fr:Fr E.T}
theorem Av {α:Type}: ∀(l:List α) (t t':Nat) (v d:α),t≠t'→nth (dk l t v) t' d=nth l t' d
 |[],t,t',v,d,h=>rfl
 |x::r,0,0,v,d,h=>absurd rfl h
 |x::r,0,t'+1,v,d,h=>rfl
 |x::r,t+1,0,v,d,h=>rfl
 |x::r,t+1,t'+1,v,d,h=>by simp only[jJ,gF,gG,fg,dZ,ed];exact Av r t t' v d (fun e=>h (by rw[e]))
theorem Fc {α:Type}: ∀(l:List α) (t t':Nat) (v v':α),t≠t'→dk (dk l t v) t' v'=dk (dk l t' v') t v
 |[],t,t',v,v',h=>rfl
 |x::r,0,0,v,v',h=>absurd rfl h
 |x::r,0,t'+1,v,v',h=>rfl
 |x::r,t+1,0,v,v',h=>rfl
 |x::r,t+1,t'+1,v,v',h=>by simp only[jJ,gF,gG];rw[Fc r t t' v v' (fun e=>h (by rw[e]))]
theorem Co {dst:Option Tmp} {v:az E.T} {x:Operand} (h: ∀d,dst=some d→x≠ .tmp d):cd E (put E fr dst v) x=cd E fr x:=by
 cases dst with
 |none=>rfl
 |some d=>
  cases x with
  |tmp t=>
   simp only[cd,put]
   exact Av _ _ _ _ _ (fun e=>h d rfl (by rw[e]))
  |_=>rfl
theorem put_comm {d1 d2:Option Tmp} {v1 v2:az E.T} (h: ∀d,d1=some d→d2≠some d):put E (put E fr d1 v1) d2 v2=put E (put E fr d2 v2) d1 v1:=by
 cases d1 with
 |none=>rfl
 |some a=>
  cases d2 with
  |none=>rfl
  |some b=>
   simp only[put]
   rw[Fc _ _ _ _ _ (fun e=>h a rfl (by rw[e]))]
theorem Iq (ks:List Nat) (x:Operand) (hx: ∀t,x= .tmp t→kill E st ks (nth fr.s t .undef)=nth fr.s t .undef):cd E (dB E st ks fr) x=cd E fr x:=by
 rw[gB]
 cases x with
 |tmp t=>
  simp only[cd,iM]
  rw[uB]
  exact hx t rfl
 |_=>rfl
theorem K5 {ks:List Nat} {d:Option Tmp} {v:az E.T} (hv:kill E st ks v=v):dB E st ks (put E fr d v)=put E (dB E st ks fr) d v:=by
 rw[gB,gB]
 cases d with
 |none=>rfl
 |some t=>
  simp only[put,iM]
  rw[Db,hv]
theorem Jt {s s':St E.T} {ks:List Nat} (h:bI ks s s'):dB E s ks fr=dB E s' ks fr:=by
 rw[gB,gB]
 unfold iM
 rw[oV h]
 have:(fun x:FuncId×List (az E.T)=>(x.1,cY E s ks x.2))=(fun x=>(x.1,cY E s' ks x.2)):=funext fun x=>by rw[oV h]
 rw[this]
def lf (E:Env) (all:List Oper) (o:Oper) (fr:Fr E.T):Option Bool:=
 match o.guard with
 |none=>some true
 |some (j,b)=>match pM all j with
  |some t=>match nth fr.s t .undef with
   | .val .bool c=>some (c==b)
   | .jo []=>some false
   |_=>none
  |none=>none
theorem Nf {all:List Oper} {o:Oper} {α:Type} {go pass:Fr E.T→Tree α} {r:α} (h:(guarded E all o.guard fr go pass).get=some r):
  (lf E all o fr=some true∧(go fr).get=some r)∨(lf E all o fr=some false∧(pass fr).get=some r):=by
 unfold guarded at h
 unfold lf
 split at h
 ·rename_i hg;rw[hg];exact .inl ⟨rfl,h⟩
 ·rename_i j b hg
  rw[hg]
  split at h
  ·rename_i t ht
   simp only[ht]
   by_cases hn:nth fr.s t .undef= .jo []
   ·rw[hn]at h⊢
    exact .inr ⟨rfl,h⟩
   ·have h:(match b with|true=>Ar E fr t go pass|false=>Ar E fr t pass go).get=some r:=by
     split at h
     ·rename_i h0;exact absurd h0 hn
     ·exact h
    cases b with
    |true=>
     obtain⟨c,hc,hor⟩:=rO h
     rw[hc]
     rcases hor with⟨rfl,h⟩|⟨rfl,h⟩
     ·exact .inl ⟨rfl,h⟩
     ·exact .inr ⟨rfl,h⟩
    |false=>
     obtain⟨c,hc,hor⟩:=rO h
     rw[hc]
     rcases hor with⟨rfl,h⟩|⟨rfl,h⟩
     ·exact .inr ⟨rfl,h⟩
     ·exact .inl ⟨rfl,h⟩
  ·cases h
theorem K0 {all:Array Oper} {o:Oper} {j:Nat} {b:Bool} {t:Tmp} (hg:o.guard=some (j,b)) (ht:pM all.toList j=some t):t∈o.looksAt all:=by
 unfold Oper.looksAt
 rw[hg]
 unfold pM at ht
 split at ht
 ·rename_i oj hj
  rw[cX,Array.getElem?_toList]at hj
  simp[hj,ht]
 ·cases ht
theorem pv {all:Array Oper} {o:Oper} {dst:Option Tmp} {v:az E.T} (h: ∀d,dst=some d→d∉o.looksAt all):lf E all.toList o (put E fr dst v)=lf E all.toList o fr:=by
 unfold lf
 split
 ·rfl
 ·rename_i j b hg
  split
  ·rename_i t ht
   have hne:cd E (put E fr dst v) (.tmp t)=cd E fr (.tmp t):=Co (fun d hd e=>h d hd (by cases e;exact K0 hg ht))
   simp only[cd]at hne
   rw[hne]
  ·rfl
theorem yZ {all:List Oper} {o:Oper} (ks:List Nat):lf E all o (dB E st ks fr)=lf E all o fr:=by
 rw[gB]
 unfold lf
 split
 ·rfl
 ·rename_i j b hg
  split
  ·rename_i t ht
   simp only[iM]
   rw[uB]
   generalize nth fr.s t .undef=d
   cases d with
   |own k=>
    unfold kill
    cases hb:c9 ks k with
    |false=>rfl
    |true=>
     simp only[cond_true]
     have hq: ∀q:Option (Obj E.T),(match(match q with|some (.arr _ e _)=>(.dD e:az E.T)|_=> .undef)with| .val .bool c=>some (c==b)| .jo []=>some false|_=>none)=(none:Option Bool):=by
      intro q
      cases q with
      |none=>rfl
      |some o=>cases o<;>rfl
     exact hq _
   |ptr o p=>
    unfold kill
    cases hb:c9 ks o<;>rfl
   |jo vs=>
    cases vs with
    |nil=>unfold kill;unfold cY;rfl
    |cons x r=>unfold kill;unfold cY;rfl
   |_=>unfold kill;rfl
  ·rfl
theorem Ff {id:Nat} {ob:Obj E.T}: ∀(l:List (Nat×Obj E.T)) (s:St E.T),id∉l.map (·.1)→cG E (dk s id ob) l=dk (cG E s l) id ob
 |[],s,_=>rfl
 |p::r,s,h=>by
  simp only[cG]
  simp only[List.map_cons,List.mem_cons,not_or]at h
  rw[Fc s id p.1 ob p.2 h.1,Ff r _ h.2]
theorem Fe {α:Type}: ∀(l r:List α) (i:Nat) (v:α),i<l.length→dk (l++r) i v=dk l i v++r
 |[],r,i,v,h=>by simp at h
 |x::l,r,0,v,h=>rfl
 |x::l,r,i+1,v,h=>by simp only[List.cons_append,jJ,gF,gG];rw[Fe l r i v (by simpa using h)]
theorem RY {id:Nat} {ob:Obj E.T} {e:sB E.T} (gm:id<st.length) (h1:id∉e.iO.map (·.1)) (h2:id∉e.ks) (h3: ∀k∈cf E ob,k∉e.ks):
  dM E (dk st id ob) e=dk (dM E st e) id ob:=by
 have ha:bI e.ks (dk st id ob) st:=fun k hk=>by
  rw[bF,if_neg]
  rintro⟨rfl,_⟩
  exact h2 hk
 unfold dM
 rw[ra,ra,oU,oU,Jr ha,EU,Jq h3,Ff _ _ h1,Fe _ _ _ _ (by rw[eG,List.length_map];exact gm)]
theorem zo {dst:Option Tmp} {e:sB E.T} {v:az E.T} (hv:e.res= .val v) (hk:e.ks=[]) (hn:e.news=[]):cM E fr st dst e= .next (put E fr dst v) (cG E st e.iO):=by
 unfold cM dM
 rw[hv,hk,hn]
 rfl
def EJ (out:wR E) (dst:Option Tmp) (v:az E.T) (iO:List (Nat×Obj E.T)):wR E:=
 match out with
 | .next f s=> .next (put E f dst v) (cG E s iO)
 | .panic u f s=> .panic u (put E f dst v) (cG E s iO)
theorem GB {dm dc:Option Tmp} {v:az E.T} {iO:List (Nat×Obj E.T)} {e:sB E.T} (hd: ∀d,dm=some d→dc≠some d) (hv: ∀k∈refs v,k∉e.ks)
  (hu:iO=[]∨ ∃id ob,iO=[(id,ob)]∧id<st.length∧id∉e.iO.map (·.1)∧id∉e.ks∧ ∀k∈cf E ob,k∉e.ks):
  cM E (put E fr dm v) (cG E st iO) dc e=EJ (cM E fr st dc e) dm v iO:=by
 have hkv:kill E st e.ks v=v:=oT e.ks v hv
 have hst:dM E (cG E st iO) e=cG E (dM E st e) iO∧dB E (cG E st iO) e.ks (put E fr dm v)=put E (dB E st e.ks fr) dm v:=by
  rcases hu with rfl|⟨id,ob,rfl,h1,h2,h3,h4⟩
  ·exact⟨rfl,K5 hkv⟩
  ·refine⟨RY h1 h2 h3 h4,?_⟩
   have ha:bI e.ks (cG E st [(id,ob)]) st:=fun k hk=>by
    simp only[cG]
    rw[bF,if_neg]
    rintro⟨rfl,_⟩
    exact h3 hk
   rw[Jt ha]
   exact K5 hkv
 unfold cM
 rw[hst.1,hst.2]
 cases e.res with
 |val u=>
  simp only[EJ]
  rw[put_comm hd]
 |panic u=>rfl
end
end
open Go
noncomputable section
section
variable {E:Env} {st st1 st2:St E.T} {fr fr2:Fr E.T} {S:FuncId→Option (Spec E)} {fx:List Nat} {all:Array Oper}
theorem SY {ev ev2:Operand→az E.T} {id:Nat} {e:sB E.T} (o:Op) (h: ∀x∈o.operands,ev x=ev2 x):look E ev st id o e=look E ev2 st id o e:=by
 have hmap:o.operands.toList.map ev=o.operands.toList.map ev2:=List.map_congr_left fun x hx=>h x (by simpa using hx)
 cases o with
 |move x=>rfl
 |assign x=>rfl
 |alloc t=>rfl
 |load t a=>simp only[look];rw[h a (by simp[Op.operands])]
 |store t a v=>simp only[look];rw[h a (by simp[Op.operands]),h v (by simp[Op.operands])]
 |box t v=>simp only[look];rw[h v (by simp[Op.operands])]
 |makeSlice t l c=>simp only[look];rw[h l (by simp[Op.operands]),h c (by simp[Op.operands])]
 |convert s d x=>simp only[look];rw[h x (by simp[Op.operands])]
 |call c=>
  obtain⟨callee,args,ats⟩:=c
  cases callee with
  |value f=>
   have h1:args.toList.map ev=args.toList.map ev2:=List.map_congr_left fun x hx=>h x (by simp[Op.operands,Call.operands];exact .inr (by simpa using hx))
   simp only[look,kL]
   rw[h f (by simp[Op.operands,Call.operands]),h1]
  |_=>simp only[look];rw[hmap]
 |_=>simp only[look];rw[hmap]
theorem PA {ev ev2:Operand→az E.T} (o:Op) (h: ∀x∈o.operands,ev x=ev2 x):ic E ev st o=ic E ev2 st o:=by
 have hmap:o.operands.toList.map ev=o.operands.toList.map ev2:=List.map_congr_left fun x hx=>h x (by simpa using hx)
 cases o with
 |move x=>rfl
 |assign x=>rfl
 |alloc t=>rfl
 |load t a=>rfl
 |store t a v=>rfl
 |box t v=>simp only[ic];rw[h v (by simp[Op.operands])]
 |makeSlice t l c=>simp only[ic];rw[h l (by simp[Op.operands]),h c (by simp[Op.operands])]
 |convert s d x=>simp only[ic];rw[h x (by simp[Op.operands])]
 |call c=>
  obtain⟨callee,args,ats⟩:=c
  cases callee with
  |value f=>
   have h1:args.toList.map ev=args.toList.map ev2:=List.map_congr_left fun x hx=>h x (by simp[Op.operands,Call.operands];exact .inr (by simpa using hx))
   simp only[ic,kL]
   rw[h f (by simp[Op.operands,Call.operands]),h1]
  |_=>simp only[ic];rw[hmap]
 |_=>simp only[ic];rw[hmap]
theorem MZ {ev ev2:Operand→az E.T} (o:Op) (h: ∀x∈o.operands,ev x=ev2 x):fh E ev o=fh E ev2 o:=by
 cases o with
 |buildSlice t n ps=>
  have hp: ∀x∈ps.toList,ev x.2=ev2 x.2:=fun x hx=>h x.2 (by simp only[Op.operands];simp;exact⟨x.1,by simpa using hx⟩)
  have h1:(ps.toList.map fun x=>ev x.2)=ps.toList.map fun x=>ev2 x.2:=List.map_congr_left hp
  simp only[fh,h1]
 |call c=>
  obtain⟨callee,args,ats⟩:=c
  cases callee with
  |builtin b=>cases b<;>rfl
  |_=>rfl
 |_=>rfl
theorem Gi {ev ev2:Operand→az E.T} {id:Nat} {e:sB E.T} (o:Op) (h: ∀x∈o.operands,ev x=ev2 x):iS E ev st id o e=iS E ev2 st id o e:=by
 have hmap:o.operands.toList.map ev=o.operands.toList.map ev2:=List.map_congr_left fun x hx=>h x (by simpa using hx)
 unfold iS
 rw[SY o h,hmap,MZ o h]
 cases o with
 |load t a=>simp only;rw[h a (by simp[Op.operands])]
 |store t a v=>simp only;rw[h a (by simp[Op.operands]),h v (by simp[Op.operands])]
 |_=>rfl
def kN (S:FuncId→Option (Spec E)) (fx:List Nat) (all:Array Oper) (x:zA) (fr:Fr E.T) (st:St E.T) (e:sB E.T) (en:Option zB):Prop:=
 (lf E all.toList x.o fr=some true∧(eV E S fx (cd E fr) st x.id x.o.op).get=some e∧ic E (cd E fr) st x.o.op=true∧en=some (iS E (cd E fr) st x.id x.o.op e))∨
 (lf E all.toList x.o fr=some false∧e=sD E (.jo [])∧en=none)
theorem kN.to {x:zA} {e:sB E.T} {en:Option zB} (h:kN S fx all x fr st e en) (hop: ∀z∈x.o.op.operands,cd E fr2 z=cd E fr z) (hw:lf E all.toList x.o fr2=lf E all.toList x.o fr)
  (ha: ∀a,en=some a→bI a.lk st st2) (hl:fh E (cd E fr) x.o.op=true∨st.length=st2.length):kN S fx all x fr2 st2 e en:=by
 rcases h with⟨h1,h2,h3,h4⟩|⟨h1,h2,h3⟩
 ·subst h4
  have ha':bI (look E (cd E fr) st x.id x.o.op e) st st2:=ha _ rfl
  obtain⟨g1,g2,g3⟩:=Ti h2 h3 ha' hl
  refine .inl ⟨by rw[hw,h1],by rw[Tj _ hop];exact g1,by rw[PA _ hop];exact g2,?_⟩
  rw[Gi _ hop]
  unfold iS
  rw[g3]
  have:List.range' st.length e.news.length=List.range' st2.length e.news.length:=by
   rcases hl with hl|hl
   ·rw[(uK hl h2).news];rfl
   ·rw[hl]
  rw[this]
 ·exact .inr ⟨by rw[hw,h1],h2,h3⟩
theorem uJ {a b:List Nat}:Nu a b=true↔ ∀k∈a,k∉b:=by
 unfold Nu
 rw[List.all_eq_true]
 constructor
 ·intro h k hk hb
  have:=h k hk
  rw[(ez b k).2 hb]at this;cases this
 ·intro h k hk
  rw[kx.2 (h k hk)];rfl
theorem SU {ev:Operand→az E.T} {id:Nat} {o:Op} {e:sB E.T} (h:fh E ev o=true):(iS E ev st id o e).Sz=none:=by
 unfold iS
 cases o<;>first|rfl|cases h
theorem y0: ∀(l:List (Nat×Obj E.T)) (s:St E.T) (k:Nat),k∉l.map (·.1)→aR (cG E s l) k=aR s k
 |[],s,k,_=>rfl
 |p::r,s,k,h=>by
  simp only[List.map_cons,List.mem_cons,not_or]at h
  rw[cG,y0 r _ k h.2,bF,if_neg (fun hh=>h.1 hh.1.symm)]
theorem uI {e:sB E.T} {k:Nat} (hk:k<st.length) (hu:k∉e.iO.map (·.1)):aR (dM E st e) k=(aR st k).map (bW E st e.ks):=by
 unfold dM
 rw[ra,FH,eG,oU,List.length_map,if_pos hk,y0 _ _ _ hu,dA]
theorem Lx {e:sB E.T} {k:Nat} (hk: ¬k<st.length) (hn:k∉List.range' st.length e.news.length):aR (dM E st e) k=none:=by
 unfold dM
 rw[ra,FH,eG,oU,List.length_map,if_neg hk,cX]
 rw[List.getElem?_eq_none]
 rw[List.mem_range'_1]at hn
 omega
theorem Js {ks:List Nat} {ob:Obj E.T} (h: ∀ro c,ob≠ .box ro c):bW E st ks ob=ob:=by
 cases ob with
 |box ro c=>exact absurd rfl (h ro c)
 |_=>rfl
theorem pN: ∀(p:List Step) {t:Ty} {x:I E.T t} {v:az E.T},(sC E p (.val t x)).get=some v→refs v=[]
 |[],t,x,v,h=>by cases h;simp[refs]
 | .tQ i j::p,t,x,v,h=>by
  simp only[sC]at h
  have hd:(∃t' y,mL E i j (.val t x)= .val t' y)∨mL E i j (.val t x)= .undef:=by
   cases t with
   |named i'=>
    simp only[mL]
    cases Nat.beq i i' with
    |false=>exact .inr rfl
    |true=>
     simp only[cond_true]
     unfold parts
     generalize E.out i' x=r
     generalize E.fields i'=ts at r
     have: ∀(ts:List Ty) (r:HL E.T ts) (j:Nat),(∃t' y,nth (Qi E ts r) j .undef= .val t' y)∨nth (Qi E ts r) j .undef= .undef:=by
      intro ts
      induction ts with
      |nil=>intro r j;exact .inr (by simp[Qi,fg,dZ,ed])
      |cons t ts ih=>
       intro r j
       cases j with
       |zero=>exact .inl ⟨t,r.1,by simp[Qi,fg,dZ,ed]⟩
       |succ j=>simp only[Qi,fg,dZ,ed];exact ih r.2 j
     exact this ts r j
   |_=>exact .inr rfl
  rcases hd with⟨t',y,hd⟩|hd
  ·rw[hd]at h;exact pN p h
  ·rw[hd]at h
   have:=zg.getP_undef p h
   subst this
   simp[refs]
 | .idx e n::p,t,x,v,h=>by
  cases t with
  |arr m e'=>
   simp only[sC]at h
   obtain⟨_,h⟩:=Tree.aO h
   simp only[Tree.get]at h
   obtain⟨y,_,h⟩:=Option.bind_eq_some_iff.1 h
   exact pN p h
  |_=>cases h
theorem yd {ks:List Nat} {v:az E.T} (h:refs v=[]):kill E st ks v=v:=oT ks v (fun k hk=>by rw[h]at hk;cases hk)
theorem PU (ks:List Nat) (i j:Nat) (d:az E.T):mL E i j (kill E st ks d)=kill E st ks (mL E i j d):=by
 cases d with
 |own k=>
  unfold kill
  cases c9 ks k with
  |true=>simp only[cond_true];split<;>simp[mL,kill]
  |false=>simp[mL,kill]
 |ptr o p=>
  unfold kill
  cases c9 ks o<;>simp[mL,kill]
 |agg i' fs=>
  rw[show kill E st ks (.agg i' fs)= .agg i' (cY E st ks fs)by simp[kill]]
  simp only[mL]
  cases Nat.beq i i' with
  |true=>simp only[cond_true];exact uB ks fs j
  |false=>simp[kill]
 |val t x=>
  rw[show kill E st ks (.val t x)= .val t x by simp[kill]]
  symm
  refine yd ?_
  have:(sC E [.tQ i j] (.val t x)).get=some (mL E i j (.val t x)):=rfl
  exact pN _ this
 |_=>simp[mL,kill]
theorem Ih (ks:List Nat): ∀(p:List Step) (d:az E.T),(sC E p (kill E st ks d)).get=((sC E p d).get).map (kill E st ks)
 |[],d=>rfl
 | .tQ i j::p,d=>by
  simp only[sC]
  rw[PU,Ih ks p]
 | .idx e n::p,d=>by
  cases d with
  |val t x=>
   rw[show kill E st ks (.val t x)= .val t x by simp[kill]]
   cases hg:(sC E (.idx e n::p) (.val t x)).get with
   |none=>rfl
   |some v=>simp only[Option.map_some];rw[yd (pN _ hg)]
  |own k=>
   unfold kill
   cases c9 ks k with
   |true=>simp only[cond_true];split<;>rfl
   |false=>rfl
  |ptr o q=>unfold kill;cases c9 ks o<;>rfl
  |_=>unfold kill;rfl
theorem Ii (ks:List Nat) (p:List Step) (ob:Obj E.T):(Ck E (bW E st ks ob) p).get=((Ck E ob p).get).map (kill E st ks):=by
 cases ob with
 |box ro c=>exact Ih ks p c
 |arr l e xs=>
  show(Ck E (.arr l e xs) p).get=_
  cases p with
  |nil=>rfl
  |cons s p=>
   cases s with
   |tQ i j=>rfl
   |idx e' n=>
    cases hg:(Ck E (.arr l e xs) (.idx e' n::p)).get with
    |none=>rfl
    |some v=>
     simp only[Option.map_some]
     have hr:refs v=[]:=by
      simp only[Ck]at hg
      obtain⟨_,hg⟩:=Tree.aO hg
      simp only[Tree.get]at hg
      obtain⟨y,_,hg⟩:=Option.bind_eq_some_iff.1 hg
      exact pN _ hg
     rw[yd hr]
 |dead=>rfl
theorem GR {ok:az E.T→Bool} {v:az E.T}: ∀(q p:List Step) {d d1:az E.T},(ve E ok v q d).get=some d1→yS q p=true→sC E p d1=sC E p d
 |[],p,d,d1,_,h=>by cases h
 | .idx e n::q,p,d,d1,_,h=>by cases p<;>cases h
 | .tQ i j::q,[],d,d1,_,h=>by cases h
 | .tQ i j::q,.idx e n::p,d,d1,_,h=>by cases h
 | .tQ i j::q,.tQ i' j'::p,d,d1,hs,h=>by
  simp only[yS,Bool.and_eq_true]at h
  obtain⟨hi,hj⟩:=h
  have hi:=Nat.eq_of_beq_eq_true hi;subst hi
  simp only[ve]at hs
  split at hs
  ·rename_i i0 fs he
   obtain⟨hb,hs⟩:=Tree.aO hs
   rw[Bool.and_eq_true]at hb
   have hb1:=Nat.eq_of_beq_eq_true hb.1;subst hb1
   have hlt:=GI hb.2
   obtain⟨d2,h1,h2⟩:=Tree.aA hs
   cases h2
   have hd:mL E i j' d=nth fs j' .undef:=by
    cases d with
    |val t x=>
     cases t with
     |named i'=>
      simp only[nR,Option.some.injEq,Prod.mk.injEq]at he
      obtain⟨rfl,rfl⟩:=he
      simp[mL,Nat.beq_refl]
     |_=>cases he
    |agg i' fs'=>
     simp only[nR,Option.some.injEq,Prod.mk.injEq]at he
     obtain⟨rfl,rfl⟩:=he
     simp[mL,Nat.beq_refl]
    |_=>cases he
   simp only[sC]
   rw[hd]
   have hd1:mL E i j' (.agg i (dk fs j d2))=nth (dk fs j d2) j' .undef:=by simp[mL,Nat.beq_refl]
   rw[hd1]
   cases hjj:Nat.beq j j' with
   |true=>
    have:=Nat.eq_of_beq_eq_true hjj;subst this
    rw[hjj]at hj
    simp only[cond_true]at hj
    have hn:nth (dk fs j d2) j .undef=d2:=by
     have h3:=bF fs j j d2
     rw[if_pos ⟨rfl,hlt⟩]at h3
     rw[cX]at h3
     rw[kt,List.getD_eq_getElem?_getD,h3];rfl
    rw[hn]
    exact GR q p h1 hj
   |false=>
    rw[Av _ _ _ _ _ (fun e=>by rw[e,Nat.beq_refl]at hjj;cases hjj)]
  ·cases hs
theorem GS {ok:az E.T→Bool} {v:az E.T} {b b1:Obj E.T} {q p:List Step} (h:(Ak E ok v b q).get=some b1) (ha:yS q p=true):Ck E b1 p=Ck E b p:=by
 cases b with
 |box ro c=>
  cases ro with
  |false=>
   simp only[Ak]at h
   obtain⟨c',h1,h2⟩:=Tree.aA h
   cases h2
   exact GR q p h1 ha
  |true=>cases h
 |arr l e xs=>
  cases q with
  |nil=>cases h
  |cons s q=>
   cases s with
   |tQ i j=>cases h
   |idx e' n=>cases ha
 |dead=>cases h
theorem zj {t:TypeId} {k:Nat} {p:List Step} {v:az E.T}:(yw E st t (.ptr k p)).get=some v↔ ∃b,aR st k=some b∧(Ck E b p).get=some v∧fits E st t v=true:=by
 unfold yw
 constructor
 ·intro h
  simp only at h
  split at h
  ·rename_i b hb
   obtain⟨v',h1,h2⟩:=Tree.aA h
   obtain⟨hf,h2⟩:=Tree.aO h2
   cases h2
   exact⟨b,hb,h1,hf⟩
  ·cases h
 ·rintro⟨b,hb,h1,h2⟩
  simp only[hb]
  rw[Tree.get_bind,h1]
  simp only[Option.bind_some,h2]
  rfl
theorem Cm {t:TypeId} {v:az E.T} (hf:fits E st t v=true) (h: ∀k,v= .own k→ ∀l e xs,aR st k=some (.arr l e xs)→aR st2 k=some (.arr l e xs)):fits E st2 t v=true:=by
 by_cases hv: ∃k,v= .own k
 ·obtain⟨k,rfl⟩:=hv
  unfold fits at hf⊢
  cases htk:E.tk t with
  |data ty=>
   rw[htk]at hf
   simp only[qB]at hf⊢
   split at hf
   ·rename_i l e xs hk
    rw[h k rfl l e xs hk];exact hf
   ·cases hf
  |other=>rw[htk]at hf;cases hf
  |_=>rw[htk]at hf;cases hf
 ·have:fits E st2 t v=fits E st t v:=by
   unfold fits
   cases v with
   |own k=>exact absurd ⟨k,rfl⟩ hv
   |_=>rfl
  rw[this];exact hf
end
end
open Go
section
variable {E:Env} {st st1 st2:St E.T} {fr fr1 fr2:Fr E.T} {S:FuncId→Option (Spec E)} {fx:List Nat} {all:Array Oper}
theorem Na {k:Nat} (h:zR E st k=true): ∃l e xs,aR st k=some (.arr l e xs):=by
 unfold zR at h
 split at h
 ·rename_i l e xs hk;exact⟨l,e,xs,hk⟩
 ·cases h
theorem K2 {ev:Operand→az E.T} {id:Nat} {o:Op} {e:sB E.T} (hm:fh E ev o=true) (h:(eV E S fx ev st id o).get=some e) (hk:ic E ev st o=true) (hn: ∀t a k p,o= .load t a→ev a≠ .ptr k p):
  ∀k∈look E ev st id o e,∃ob,aR st k=some ob∧ ∀ro c,ob≠ .box ro c:=by
 have arrs: ∀L:List Nat,L.all (zR E st)=true→ ∀k∈L,∃ob,aR st k=some ob∧ ∀ro c,ob≠ .box ro c:=by
  intro L hL k hk
  rw[List.all_eq_true]at hL
  obtain⟨l,e,xs,h⟩:=Na (hL k hk)
  exact⟨_,h,fun ro c h=>by cases h⟩
 have dead: ∀{ob},aR st id=some .dead→ob=id→ ∃ob',aR st ob=some ob'∧ ∀ro c,ob'≠ .box ro c:=fun h1 h2=>⟨.dead,by rw[h2];exact h1,fun ro c h=>by cases h⟩
 intro k hkk
 cases o with
 |move x=>cases hkk
 |assign x=>cases hkk
 |alloc t=>
  have hM:=uK hm h
  simp only[look,List.mem_singleton]at hkk
  simp only[eV]at h
  split at h
  ·cases h
  ·exact dead (qk (Tree.aO h).1) hkk
 |load t a=>
  simp only[look]at hkk
  split at hkk
  ·rename_i k' p v hev _;exact absurd hev (hn t a k' p rfl)
  ·cases hkk
 |store t a v=>cases hm
 |makeSlice t l c=>
  simp only[look,List.mem_cons]at hkk
  rcases hkk with hkk|hkk
  ·simp only[eV]at h
   obtain⟨p,hp,h⟩:=Tree.aA h
   split at h
   ·exact dead (qk (Tree.aO h).1) hkk
   ·cases h
  ·exact arrs _ hk k hkk
 |box t v=>
  simp only[look,List.mem_cons]at hkk
  simp only[eV]at h
  obtain⟨hd,_⟩:=Tree.aO h
  rw[Bool.and_eq_true]at hd
  rcases hkk with hkk|hkk
  ·exact dead (qk hd.1) hkk
  ·exact arrs _ hk k hkk
 |convert s d x=>
  simp only[look,List.mem_append]at hkk
  rcases hkk with hkk|hkk
  ·have hs:yl E d=true:=by
    cases hb:yl E d with
    |true=>rfl
    |false=>rw[hb]at hkk;cases hkk
   rw[hs]at hkk
   simp only[cond_true,List.mem_singleton]at hkk
   simp only[eV]at h
   split at h
   ·split at h
    ·obtain⟨hd,_⟩:=Tree.aO h
     rw[Bool.and_eq_true]at hd
     exact dead (qk hd.2) hkk
    ·cases h
   ·exfalso
    unfold yl at hs
    split at hs
    ·rename_i e' he
     simp only[gg,he]at h
     cases h
    ·cases hs
  ·exact arrs _ hk k hkk
 |call c=>
  obtain⟨callee,args,ats⟩:=c
  cases callee with
  |value f=>cases hm
  |invoke r m=>exact arrs _ hk k hkk
  |builtin b=>exact arrs _ hk k hkk
 |_=>exact arrs _ hk k hkk
theorem QB {x:zA} {e:sB E.T} {a:zB} {k:Nat} {q:List Step} (h:kN S fx all x fr st e (some a)) (hs:a.Sz=some (k,q)):
  ∃ok v b b1,aR st k=some b∧(Ak E ok v b q).get=some b1∧e={res:= .val .undef,iO:=[(k,b1)],ks:=[],news:=[]}:=by
 rcases h with⟨h1,h2,h3,h4⟩|⟨_,_,h3⟩
 ·cases h4
  unfold iS at hs
  simp only at hs
  generalize x.o.op=o at*
  cases o with
  |store t z v=>
   simp only at hs
   split at hs
   ·rename_i k' p hev
    cases hr:(refs (cd E fr v)).isEmpty with
    |false=>rw[hr]at hs;cases hs
    |true=>
     rw[hr]at hs
     cases hs
     have hl0:live E st (rowsOf E (.ptr k q) (cd E fr v))=[]:=by
      have:refs (cd E fr v)=[]:=List.isEmpty_iff.1 hr
      have h0:rowsOf E (.ptr k q) (cd E fr v)=[]:=by
       simp only[rowsOf,this]
       cases F7 q<;>rfl
      rw[h0];rfl
     simp only[eV,hev,hl0]at h2
     split at h2
     ·rename_i b hb
      obtain⟨_,h2⟩:=Tree.aO h2
      obtain⟨b1,h5,h6⟩:=Tree.aA h2
      cases h6
      exact⟨_,_,b,b1,hb,h5,rfl⟩
     ·cases h2
   ·cases hs
  |_=>cases hs
 ·cases h3
theorem Oe {x:zA} {e ec:sB E.T} {b:zB} {dc:Option Tmp} {vc:az E.T} (hm:fh E (cd E fr) x.o.op=true) (h:kN S fx all x fr st e (some b)) (hd: ∀d,dc=some d→d∉x.o.looksAt all) (hv: ∀k∈ec.ks,k∉b.vr)
  (hs:(∀k∈b.lk,k∉ec.iO.map (·.1))∨(∃k p q rs ok v b0 b1,b.ld=some (k,p,rs)∧yS q p=true∧aR st k=some b0∧(Ak E ok v b0 q).get=some b1∧ec={res:= .val .undef,iO:=[(k,b1)],ks:=[],news:=[]}∧k∉rs)):
  kN S fx all x (put E (dB E st ec.ks fr) dc vc) (dM E st ec) e (some b):=by
 rcases h with⟨h1,h2,h3,h4⟩|⟨_,_,h4⟩
 rotate_left
 ·cases h4
 have hb:b=iS E (cd E fr) st x.id x.o.op e:=Option.some.inj h4
 have hvr: ∀k∈ec.ks,k∉bh (x.o.op.operands.toList.map (cd E fr))∧k∉s6 E e.res:=by
  intro k hk
  have:=hv k hk
  rw[hb]at this
  simp only[iS,List.mem_append,not_or]at this
  exact this
 have hop: ∀z∈x.o.op.operands,cd E (put E (dB E st ec.ks fr) dc vc) z=cd E fr z:=by
  intro z hz
  rw[Co (fun d hd' e=>hd d hd' (by subst e;exact List.mem_append_left _ (List.mem_filterMap.2 ⟨.tmp d,by simpa using hz,rfl⟩)))]
  refine Iq ec.ks z (fun t ht=> ?_)
  subst ht
  refine oT _ _ (fun k hk hkk=>(hvr k hkk).1 ?_)
  exact Fx (d:=cd E fr (.tmp t)) (List.mem_map.2 ⟨.tmp t,by simpa using hz,rfl⟩) k hk
 have hw:lf E all.toList x.o (put E (dB E st ec.ks fr) dc vc)=lf E all.toList x.o fr:=by rw[pv hd,yZ]
 by_cases hload: ∃t z k p,x.o.op= .load t z∧cd E fr z= .ptr k p
 ·obtain⟨t,z,k,p,hop',hev⟩:=hload
  have h2':=h2
  rw[hop']at h2'
  simp only[eV]at h2'
  obtain⟨v,hv',he⟩:=na h2'
  simp only[gg,hev]at hv'
  obtain⟨b0,hb0,hg,hf⟩:=zj.1 hv'
  have hres:e.res= .val v:=by rw[he];rfl
  have hlk:b.lk=k::refs v:=by rw[hb];simp only[iS,hop',look,hev,hres]
  have hld:b.ld=some (k,p,refs v):=by rw[hb];simp only[iS,hop',hev,hres]
  have hkv:kill E st ec.ks v=v:=oT _ _ (fun j hj hjk=>(hvr j hjk).2 (by rw[hres];exact hj))
  have key: ∃b2,aR (dM E st ec) k=some b2∧(Ck E b2 p).get=some v∧fits E (dM E st ec) t v=true:=by
   rcases hs with hs|⟨k',p',q,rs,ok,v',b0',b1,g1,g2,g3,g4,g5,g6⟩
   ·rw[hlk]at hs
    refine⟨bW E st ec.ks b0,by rw[uI (bT hb0) (hs k (by simp)),hb0];rfl,by rw[Ii,hg];simp only[Option.map_some];rw[hkv],Cm hf (fun j hj l e' xs hjk=> ?_)⟩
    rw[uI (bT hjk) (hs j (by subst hj;simp[refs])),hjk];rfl
   ·rw[hld]at g1
    cases g1
    rw[hb0]at g3;cases g3
    subst g5
    refine⟨b1,?_,by rw[GS g4 g2];exact hg,Cm hf (fun j hj l e' xs hjk=> ?_)⟩
    ·show aR (dk st k b1) k=some b1
     rw[bF,if_pos ⟨rfl,bT hb0⟩]
    ·show aR (dk st k b1) j=_
     rw[bF,if_neg]
     ·exact hjk
     ·rintro⟨rfl,_⟩
      exact g6 (by subst hj;simp[refs])
  have hdl:=zj.2 key
  have hze:cd E (put E (dB E st ec.ks fr) dc vc) z= .ptr k p:=by rw[hop z (by rw[hop'];simp[Op.operands]),hev]
  refine .inl ⟨by rw[hw,h1],?_,by rw[hop'];rfl,?_⟩
  ·rw[hop']
   simp only[eV,gg,hze]
   rw[Tree.get_bind,hdl,he]
   rfl
  ·rw[hb,Gi _ hop]
   unfold iS
   have hM:=uK hm h2
   rw[hM.news]
   simp only[hop',look,hev,hres,List.length_nil,List.range'_zero]
 ·have hld:b.ld=none:=by
   rw[hb]
   unfold iS
   simp only
   generalize hoo:x.o.op=oo at*
   cases oo with
   |load t z=>
    simp only
    split
    ·rename_i k p v hev _;exact absurd ⟨t,z,k,p,rfl,hev⟩ hload
    ·rfl
   |_=>rfl
  have hs': ∀k∈b.lk,k∉ec.iO.map (·.1):=by
   rcases hs with hs|⟨k',p',q,rs,ok,v',b0',b1,g1,_⟩
   ·exact hs
   ·rw[hld]at g1;cases g1
  have hkinds:=K2 hm h2 h3 (fun t a k p h hev=>hload ⟨t,a,k,p,h,hev⟩)
  refine kN.to (.inl ⟨h1,h2,h3,h4⟩) hop hw (fun a ha=> ?_) (.inl hm)
  cases ha
  intro k hk
  obtain⟨ob,ho,hnb⟩:=hkinds k (by rw[hb]at hk;exact hk)
  rw[uI (bT ho) (hs' k hk),ho]
  simp only[Option.map_some]
  rw[Js hnb]
theorem SV {x:zA} {e ec:sB E.T} {b:zB} {dc:Option Tmp} {vc:az E.T} (hm:fh E (cd E (put E (dB E st ec.ks fr) dc vc)) x.o.op=true) (h:kN S fx all x (put E (dB E st ec.ks fr) dc vc) (dM E st ec) e (some b)) (hd: ∀d,dc=some d→d∉x.o.looksAt all) (hcl:ec.ks=[]∨b.cl=true)
  (hs:(∀k∈b.lk,k∉ec.iO.map (·.1)∧k∉List.range' st.length ec.news.length)∨(∃k p q rs ok v b0 b1,b.ld=some (k,p,rs)∧yS q p=true∧aR st k=some b0∧(Ak E ok v b0 q).get=some b1∧ec={res:= .val .undef,iO:=[(k,b1)],ks:=[],news:=[]}∧k∉rs)):
  kN S fx all x fr st e (some b):=by
 rcases h with⟨h1,h2,h3,h4⟩|⟨_,_,h4⟩
 rotate_left
 ·cases h4
 generalize hfr2:put E (dB E st ec.ks fr) dc vc=fr2 at*
 have hb:b=iS E (cd E fr2) (dM E st ec) x.id x.o.op e:=Option.some.inj h4
 have hop0: ∀z∈x.o.op.operands,cd E fr2 z=cd E (dB E st ec.ks fr) z:=by
  intro z hz
  rw[←hfr2]
  exact Co (fun d hd' e=>hd d hd' (by subst e;exact List.mem_append_left _ (List.mem_filterMap.2 ⟨.tmp d,by simpa using hz,rfl⟩)))
 have hclean:ec.ks=[]∨(tX (x.o.op.operands.toList.map (cd E fr2))=true∧GC E e.res=true):=by
  rcases hcl with h|h
  ·exact .inl h
  ·rw[hb]at h
   simp only[iS,Bool.and_eq_true]at h
   exact .inr h
 have clean_mem: ∀{d:az E.T} {l:List (az E.T)},tX l=true→d∈l→clean d=true:=by
  intro d l
  induction l with
  |nil=>intro _ h;cases h
  |cons v r ih=>
   intro h1 h2
   unfold tX at h1
   rw[Bool.and_eq_true]at h1
   rcases List.mem_cons.1 h2 with rfl|h2
   ·exact h1.1
   ·exact ih h1.2 h2
 have hop: ∀z∈x.o.op.operands,cd E fr z=cd E fr2 z:=by
  intro z hz
  rw[hop0 z hz]
  symm
  refine Iq ec.ks z (fun t ht=> ?_)
  subst ht
  rcases hclean with h|⟨h,_⟩
  ·rw[h];exact ye _ _
  ·have hc:=clean_mem h (List.mem_map.2 ⟨.tmp t,by simpa using hz,rfl⟩)
   rw[hop0 _ hz,gB]at hc
   simp only[cd,iM]at hc
   rw[uB]at hc
   exact vJ ec.ks _ hc
 have hw:lf E all.toList x.o fr=lf E all.toList x.o fr2:=by rw[←hfr2,pv hd,yZ]
 by_cases hload: ∃t z k p,x.o.op= .load t z∧cd E fr2 z= .ptr k p
 ·obtain⟨t,z,k,p,hop',hev⟩:=hload
  have h2':=h2
  rw[hop']at h2'
  simp only[eV]at h2'
  obtain⟨v,hv',he⟩:=na h2'
  simp only[gg,hev]at hv'
  obtain⟨b2,hb2,hg,hf⟩:=zj.1 hv'
  have hres:e.res= .val v:=by rw[he];rfl
  have hlk:b.lk=k::refs v:=by rw[hb];simp only[iS,hop',look,hev,hres]
  have hld:b.ld=some (k,p,refs v):=by rw[hb];simp only[iS,hop',hev,hres]
  have key: ∃b0,aR st k=some b0∧(Ck E b0 p).get=some v∧fits E st t v=true:=by
   rcases hs with hs|⟨k',p',q,rs,ok,v',b0',b1,g1,g2,g3,g4,g5,g6⟩
   ·rw[hlk]at hs
    have hlt: ∀{j ob},aR (dM E st ec) j=some ob→j∈k::refs v→j<st.length:=by
     intro j ob hj hjm
     rcases Nat.lt_or_ge j st.length with h|h
     ·exact h
     ·rw[Lx (by omega) (hs j hjm).2]at hj;cases hj
    have hk:=hlt hb2 (by simp)
    have hat:=uI hk (hs k (by simp)).1
    rw[hb2]at hat
    obtain⟨b0,hb0,hbk⟩:=Option.map_eq_some_iff.1 hat.symm
    refine⟨b0,hb0,?_,Cm hf (fun j hj l e' xs hjk=> ?_)⟩
    ·rw[←hbk,Ii]at hg
     obtain⟨v0,hv0,hvk⟩:=Option.map_eq_some_iff.1 hg
     rw[hv0]
     rcases hclean with h|⟨_,h⟩
     ·rw[←hvk,h,ye]
     ·rw[hres]at h
      simp only[GC]at h
      rw[←hvk]at h
      rw[vJ ec.ks v0 h]at hvk
      rw[hvk]
    ·have hjm:j∈k::refs v:=by subst hj;simp[refs]
     have hj2:=uI (hlt hjk hjm) (hs j hjm).1
     rw[hjk]at hj2
     obtain⟨ob,ho,hok⟩:=Option.map_eq_some_iff.1 hj2.symm
     rw[ho]
     cases ob with
     |arr l' e'' xs'=>rw[←hok];rfl
     |box ro c=>cases hok
     |dead=>cases hok
   ·rw[hld]at g1
    cases g1
    subst g5
    have hb2':aR (dk st k b1) k=some b2:=hb2
    rw[bF,if_pos ⟨rfl,bT g3⟩]at hb2'
    have hb2'':=Option.some.inj hb2'
    subst hb2''
    refine⟨b0',g3,by rw[←GS g4 g2];exact hg,Cm hf (fun j hj l e' xs hjk=> ?_)⟩
    have hjk':=hjk
    simp only[dM,Da,cG,Bg]at hjk'
    rw[bF,if_neg]at hjk'
    ·exact hjk'
    ·rintro⟨rfl,_⟩
     exact g6 (by subst hj;simp[refs])
  have hdl:=zj.2 key
  have hze:cd E fr z= .ptr k p:=by rw[hop z (by rw[hop'];simp[Op.operands]),hev]
  refine .inl ⟨by rw[hw,h1],?_,by rw[hop'];rfl,?_⟩
  ·rw[hop']
   simp only[eV,gg,hze]
   rw[Tree.get_bind,hdl,he]
   rfl
  ·rw[hb,Gi _ hop]
   unfold iS
   have hM:=uK hm h2
   rw[hM.news]
   simp only[hop',look,hev,hres,List.length_nil,List.range'_zero]
 ·have hld:b.ld=none:=by
   rw[hb]
   unfold iS
   simp only
   generalize hoo:x.o.op=oo at*
   cases oo with
   |load t z=>
    simp only
    split
    ·rename_i k p v hev _;exact absurd ⟨t,z,k,p,rfl,hev⟩ hload
    ·rfl
   |_=>rfl
  have hs': ∀k∈b.lk,k∉ec.iO.map (·.1)∧k∉List.range' st.length ec.news.length:=by
   rcases hs with hs|⟨k',p',q,rs,ok,v',b0',b1,g1,_⟩
   ·exact hs
   ·rw[hld]at g1;cases g1
  have hkinds:=K2 hm h2 h3 (fun t a k p h hev=>hload ⟨t,a,k,p,h,hev⟩)
  refine kN.to (.inl ⟨h1,h2,h3,h4⟩) hop hw (fun a ha=> ?_) (.inl hm)
  cases ha
  intro k hk
  obtain⟨ob,ho,hnb⟩:=hkinds k (by rw[hb]at hk;exact hk)
  have hlt:k<st.length:=by
   rcases Nat.lt_or_ge k st.length with h|h
   ·exact h
   ·rw[Lx (by omega) (hs' k hk).2]at ho;cases ho
  have hat:=uI hlt (hs' k hk).1
  rw[ho]at hat
  obtain⟨ob0,ho0,hok⟩:=Option.map_eq_some_iff.1 hat.symm
  rw[ho,ho0]
  cases ob0 with
  |box ro c=>exact absurd hok.symm (hnb _ _)
  |arr l e' xs=>rw[←hok];rfl
  |dead=>rw[←hok];rfl
end
open Go
section
variable {E:Env} {st st1 st2:St E.T} {fr fr1 fr2:Fr E.T} {S:FuncId→Option (Spec E)} {fx:List Nat} {all:Array Oper}
structure UB (E:Env) (x:zA) (fr:Fr E.T) (st:St E.T) (e:sB E.T) (en:Option zB) (v:az E.T):Prop where
 val:e.res= .val v
 ks:e.ks=[]
 news:e.news=[]
 vr: ∀a,en=some a→ ∀k∈refs v,k∈a.vr
 Zz:en=none→refs v=[]
 iO:e.iO=[]∨ ∃ob a,e.iO=[(x.id,ob)]∧en=some a∧aR st x.id=some .dead∧x.id∈a.vr∧x.id∈a.up∧ ∀k∈cf E ob,k∈a.vr
 Sz: ∀a,en=some a→a.Sz=none
 mv: ∀a,en=some a→fh E (cd E fr) x.o.op=true
theorem Gp {x:zA} {e:sB E.T} {en:Option zB} (h:kN S fx all x fr st e en) (hm:en=none∨fh E (cd E fr) x.o.op=true): ∃v,UB E x fr st e en v:=by
 rcases h with⟨h1,h2,h3,h4⟩|⟨_,h2,h3⟩
 ·subst h4
  have hm:=hm.resolve_left (fun h=>by cases h)
  have hM:=uK hm h2
  obtain⟨v,hv⟩:=hM.val
  have hvr: ∀k,k∈bh (x.o.op.operands.toList.map (cd E fr))∨k∈s6 E e.res→k∈(iS E (cd E fr) st x.id x.o.op e).vr:=by
   intro k hk
   simp only[iS,List.mem_append]
   exact hk
  refine⟨v,hv,hM.ks,hM.news,fun a ha k hk=> ?_,fun h=>(by cases h),?_,fun a ha=> ?_,fun _ _=>hm⟩
  ·cases ha
   exact hvr k (.inr (by rw[hv];exact hk))
  ·rcases hM.iO with h|⟨ob,h5,h6,h7,h8,h9,h10⟩
   ·exact .inl h
   ·refine .inr ⟨ob,_,h5,rfl,h6,hvr _ (.inr h10),?_,fun k hk=>hvr k (.inl (h8 k hk))⟩
    simp[iS,h5]
  ·cases ha
   exact SU hm
 ·subst h2;subst h3
  exact⟨.jo [],rfl,rfl,rfl,fun a ha=>(by cases ha),fun _=>by simp[refs,bh],.inl rfl,fun a ha=>(by cases ha),fun a ha=>(by cases ha)⟩
theorem sU {x:zA} {e:sB E.T} {en:Option zB} {v:az E.T} (h:UB E x fr st e en v) (fr':Fr E.T) (st':St E.T):cM E fr' st' x.o.dst e= .next (put E fr' x.o.dst v) (cG E st' e.iO):=zo h.val h.ks h.news
theorem gd {a b:zB} (h:indep a b=true):(a.mv=true∨b.mv=true)∧(∀k∈a.up,k∉b.up)∧Kq a b=true∧Kq b a=true∧(∀k∈a.ks,k∉b.vr)∧(∀k∈b.ks,k∉a.vr)∧(a.ks=[]∨b.cl=true)∧(b.ks=[]∨a.cl=true)∧(a.sA=true→b.up=[])∧(b.sA=true→a.up=[]):=by
 unfold indep at h
 simp only[Bool.and_eq_true,Bool.or_eq_true,Bool.not_eq_true',List.isEmpty_iff]at h
 obtain⟨h1,h2,h3,h4,h5,⟨h6,h7,h8⟩,h9,h10⟩:=h
 refine⟨h1,uJ.1 h2,h3,h4,uJ.1 h5,uJ.1 h6,h7,h8,fun hp=> ?_,fun hp=> ?_⟩
 ·rcases h9 with h9|h9
  ·exact absurd hp (by rw[h9];simp)
  ·exact h9
 ·rcases h10 with h10|h10
  ·exact absurd hp (by rw[h10];simp)
  ·exact h10
theorem Kp {a b:zB} (h:Kq a b=true) (hs:a.Sz=none): ∀k∈a.up,k∉b.lk:=by
 unfold Kq at h
 rw[hs]at h
 simp only[Bool.or_false]at h
 exact uJ.1 h
theorem jv {x:zA} {e:sB E.T} {a:zB} (h:kN S fx all x fr st e (some a)):a.mv=fh E (cd E fr) x.o.op∧a.up=e.iO.map (·.1)++List.range' st.length e.news.length∧a.ks=e.ks∧a.sA=Uq E e.res:=by
 rcases h with⟨_,_,_,h4⟩|⟨_,_,h4⟩
 ·cases h4;exact⟨rfl,rfl,rfl,rfl⟩
 ·cases h4
theorem HF {y:zA} {ey:sB E.T} {a b:zB} (hy:kN S fx all y fr st ey (some b)) (h:Kq b a=true):
  (∀k∈a.lk,k∉ey.iO.map (·.1)∧k∉List.range' st.length ey.news.length)∨(∃k p q rs ok v b0 b1,a.ld=some (k,p,rs)∧yS q p=true∧aR st k=some b0∧(Ak E ok v b0 q).get=some b1∧ey={res:= .val .undef,iO:=[(k,b1)],ks:=[],news:=[]}∧k∉rs):=by
 have hup:=(jv hy).2.1
 unfold Kq at h
 rw[Bool.or_eq_true]at h
 rcases h with h|h
 ·left
  intro k hk
  have h1:=uJ.1 h
  constructor
  ·intro hk2
   exact h1 k (by rw[hup];exact List.mem_append_left _ hk2) hk
  ·intro hk2
   exact h1 k (by rw[hup];exact List.mem_append_right _ hk2) hk
 ·right
  split at h
  ·rename_i k q k' p rs hs hl
   simp only[Bool.and_eq_true]at h
   obtain⟨h1,h2,h3⟩:=h
   have:=Nat.eq_of_beq_eq_true h1;subst this
   obtain⟨ok,v,b0,b1,h4,h5,h6⟩:=QB hy hs
   refine⟨k,p,q,rs,ok,v,b0,b1,hl,h2,h4,h5,h6,uJ.1 h3 k ?_⟩
   rw[hup,h6]
   simp
  ·cases h
theorem HV {x:zA} {e:sB E.T} (h:kN S fx all x fr st e none) (hw:lf E all.toList x.o fr2=lf E all.toList x.o fr):kN S fx all x fr2 st2 e none:=by
 rcases h with⟨_,_,_,h4⟩|⟨h1,h2,h3⟩
 ·cases h4
 ·exact .inr ⟨by rw[hw];exact h1,h2,rfl⟩
theorem EP {x:zA} {d:Option Tmp} {v:az E.T} (h: ∀t,d=some t→t∉x.o.looksAt all): ∀z∈x.o.op.operands,cd E (put E fr d v) z=cd E fr z:=fun z hz=>
 Co (fun t ht e=>h t ht (by subst e;exact List.mem_append_left _ (List.mem_filterMap.2 ⟨.tmp t,by simpa using hz,rfl⟩)))
theorem swap {x y:zA} {ex ey:sB E.T} {enx eny:Option zB} (hx:kN S fx all x fr st ex enx) (hap:x.o.apart all y.o=true) (hnext:cM E fr st x.o.dst ex= .next fr1 st1) (hy:kN S fx all y fr1 st1 ey eny)
  (hi: ∀a b,enx=some a→eny=some b→indep a b=true):
  kN S fx all y fr st ey eny∧(match cM E fr1 st1 y.o.dst ey with
   | .next fr2 st2=> ∃fr1' st1',cM E fr st y.o.dst ey= .next fr1' st1'∧kN S fx all x fr1' st1' ex enx∧cM E fr1' st1' x.o.dst ex= .next fr2 st2
   | .panic v fr2 st2=> ∃fr1' vx,cM E fr st y.o.dst ey= .panic v fr1' st2∧fr2=put E fr1' x.o.dst vx):=by
 obtain⟨hxy,hdd,hyx⟩:=Oper.apart_spec hap
 have hdd': ∀d,y.o.dst=some d→x.o.dst≠some d:=fun d h1 h2=>hdd d h2 h1
 by_cases hmx:enx=none∨fh E (cd E fr) x.o.op=true
 ·
  obtain⟨vx,hm⟩:=Gp hx hmx
  rw[sU hm]at hnext
  cases hnext
  have hlen:(cG E st ex.iO).length=st.length:=eG _ _
  have hids: ∀b,eny=some b→bI b.lk (cG E st ex.iO) st:=by
   intro b hb k hk
   rcases hm.iO with h|⟨ob,a,h5,h6,_,_,h7,_⟩
   ·rw[h];rfl
   ·have hin:=gd (hi a b h6 hb)
    have:=Kp hin.2.2.1 (hm.Sz a h6) _ h7
    rw[y0 _ _ _ (by rw[h5];simp;rintro rfl;exact this hk)]
  have hy0:kN S fx all y fr st ey eny:=by
   refine kN.to hy (fun z hz=>(EP hxy z hz).symm) (pv hxy).symm hids (.inr hlen)
  refine⟨hy0,?_⟩
  have hvk: ∀k∈refs vx,k∉ey.ks:=by
   intro k hk hkk
   cases henx:enx with
   |none=>rw[hm.Zz henx]at hk;cases hk
   |some a=>
    cases heny:eny with
    |none=>
     rw[heny]at hy0
     rcases hy0 with⟨_,_,_,h4⟩|⟨_,h2,_⟩
     ·cases h4
     ·subst h2;cases hkk
    |some b=>
     rw[heny]at hy0
     have hin:=gd (hi a b henx heny)
     exact hin.2.2.2.2.2.1 k (by rw[(jv hy0).2.2.1];exact hkk) (hm.vr a henx k hk)
  have hcomm:=GB (fr:=fr) (st:=st) (dm:=x.o.dst) (dc:=y.o.dst) (v:=vx) (iO:=ex.iO) (e:=ey) hdd hvk (by
   rcases hm.iO with h|⟨ob,a,h5,h6,h7,h8,h9,h10⟩
   ·exact .inl h
   ·refine .inr ⟨x.id,ob,h5,bT h7,?_⟩
    cases heny:eny with
    |none=>
     rw[heny]at hy0
     rcases hy0 with⟨_,_,_,h4⟩|⟨_,h2,_⟩
     ·cases h4
     ·subst h2;exact⟨by simp[sD],by simp[sD],fun k _=>by simp[sD]⟩
    |some b=>
     rw[heny]at hy0
     have hin:=gd (hi a b h6 heny)
     have hen:=jv hy0
     refine⟨fun h=>hin.2.1 _ h9 (by rw[hen.2.1];exact List.mem_append_left _ h),fun h=>hin.2.2.2.2.2.1 _ (by rw[hen.2.2.1];exact h) h8,fun k hk h=>hin.2.2.2.2.2.1 _ (by rw[hen.2.2.1];exact h) (h10 k hk)⟩)
  rw[hcomm]
  cases hap2:cM E fr st y.o.dst ey with
  |next fr1' st1'=>
   simp only[EJ]
   refine⟨fr1',st1',rfl,?_,sU hm fr1' st1'⟩
   have hform:fr1'=put E (dB E st ey.ks fr) y.o.dst (match ey.res with| .val v=>v| .panic v=>v)∧st1'=dM E st ey:=by
    unfold cM at hap2
    split at hap2
    ·rename_i v hv
     cases hap2
     rw[hv]
     exact⟨rfl,rfl⟩
    ·cases hap2
   obtain⟨rfl,rfl⟩:=hform
   cases henx:enx with
   |none=>
    rw[henx]at hx
    refine HV hx ?_
    rw[pv hyx,yZ]
   |some a=>
    rw[henx]at hx
    have hmx':=hm.mv a henx
    cases heny:eny with
    |none=>
     rw[heny]at hy0
     rcases hy0 with⟨_,_,_,h4⟩|⟨_,h2,_⟩
     ·cases h4
     ·subst h2
      exact Oe hmx' hx hyx (fun k hk=>by simp[sD]at hk) (.inl fun k hk=>by simp[sD])
    |some b=>
     rw[heny]at hy0
     have hin:=gd (hi a b henx heny)
     refine Oe hmx' hx hyx (fun k hk=>hin.2.2.2.2.2.1 k (by rw[(jv hy0).2.2.1];exact hk)) ?_
     rcases HF hy0 hin.2.2.2.1 with h|h
     ·exact .inl fun k hk=>(h k hk).1
     ·exact .inr h
  |panic v fr1' st1'=>
   simp only[EJ]
   refine⟨fr1',vx,?_,rfl⟩
   have hups:ex.iO=[]:=by
    rcases hm.iO with h|⟨ob,a,h5,h6,h7,h8,h9,h10⟩
    ·exact h
    ·cases heny:eny with
     |none=>
      rw[heny]at hy0
      rcases hy0 with⟨_,_,_,h4⟩|⟨_,h2,_⟩
      ·cases h4
      ·subst h2;cases hap2
     |some b=>
      rw[heny]at hy0
      have hin:=gd (hi a b h6 heny)
      have hpan:b.sA=true:=by
       rw[(jv hy0).2.2.2]
       unfold cM at hap2
       split at hap2
       ·cases hap2
       ·rename_i u hu;rw[hu];rfl
      rw[hin.2.2.2.2.2.2.2.2.2 hpan]at h9
      cases h9
   rw[hups]
   rfl
 ·
  obtain⟨a,henx⟩: ∃a,enx=some a:=by
   cases enx with
   |none=>exact absurd (.inl rfl) hmx
   |some a=>exact⟨a,rfl⟩
  subst henx
  have hmx': ¬fh E (cd E fr) x.o.op=true:=fun h=>hmx (.inr h)
  have hmy:eny=none∨fh E (cd E fr1) y.o.op=true:=by
   cases heny:eny with
   |none=>exact .inl rfl
   |some b=>
    right
    rw[heny]at hy
    have hin:=gd (hi a b rfl heny)
    rcases hin.1 with h|h
    ·rw[(jv hx).1]at h;exact absurd h hmx'
    ·rw[(jv hy).1]at h;exact h
  have hform:fr1=put E (dB E st ex.ks fr) x.o.dst (match ex.res with| .val v=>v| .panic v=>v)∧st1=dM E st ex:=by
   unfold cM at hnext
   split at hnext
   ·rename_i v hv
    cases hnext
    rw[hv]
    exact⟨rfl,rfl⟩
   ·cases hnext
  have hy0:kN S fx all y fr st ey eny:=by
   obtain⟨h1,h2⟩:=hform
   cases heny:eny with
   |none=>
    rw[heny]at hy
    refine HV hy ?_
    rw[h1,pv hxy,yZ]
   |some b=>
    rw[heny]at hy
    have hmy':=hmy.resolve_left (fun h=>by rw[heny]at h;cases h)
    have hin:=gd (hi a b rfl heny)
    rw[h1,h2]at hy
    rw[h1]at hmy'
    refine SV hmy' hy hxy ?_ (HF hx hin.2.2.1)
    rw[←(jv hx).2.2.1]
    exact hin.2.2.2.2.2.2.1
  refine⟨hy0,?_⟩
  have hmy0:eny=none∨fh E (cd E fr) y.o.op=true:=by
   cases heny:eny with
   |none=>exact .inl rfl
   |some b=>
    right
    rw[heny]at hy0
    have hin:=gd (hi a b rfl heny)
    rcases hin.1 with h|h
    ·rw[(jv hx).1]at h;exact absurd h hmx'
    ·rw[(jv hy0).1]at h;exact h
  obtain⟨vy,hm⟩:=Gp hy0 hmy0
  rw[sU hm]
  refine⟨_,_,sU hm fr st,?_,?_⟩
  ·refine kN.to hx (EP hyx) (pv hyx) (fun a' ha' k hk=> ?_) (.inr (eG _ _).symm)
   cases ha'
   rcases hm.iO with h|⟨ob,b,h5,h6,h7,h8,h9,h10⟩
   ·rw[h];rfl
   ·have hin:=gd (hi a b rfl h6)
    have:=Kp hin.2.2.2.1 (hm.Sz b h6) _ h9
    rw[y0 _ _ _ (by rw[h5];simp;rintro rfl;exact this hk)]
  ·have hcomm:=GB (fr:=fr) (st:=st) (dm:=y.o.dst) (dc:=x.o.dst) (v:=vy) (iO:=ey.iO) (e:=ex) hdd' (by
     intro k hk hkk
     cases heny:eny with
     |none=>rw[hm.Zz heny]at hk;cases hk
     |some b=>
      have hin:=gd (hi a b rfl heny)
      exact hin.2.2.2.2.1 k (by rw[(jv hx).2.2.1];exact hkk) (hm.vr b heny k hk)) (by
     rcases hm.iO with h|⟨ob,b,h5,h6,h7,h8,h9,h10⟩
     ·exact .inl h
     ·have hin:=gd (hi a b rfl h6)
      have hen:=jv hx
      refine .inr ⟨y.id,ob,h5,bT h7,fun h=>hin.2.1 _ (by rw[hen.2.1];exact List.mem_append_left _ h) h9,fun h=>hin.2.2.2.2.1 _ (by rw[hen.2.2.1];exact h) h8,fun k hk h=>hin.2.2.2.2.1 _ (by rw[hen.2.2.1];exact h) (h10 k hk)⟩)
   rw[hcomm,hnext]
   rfl
end
open Go
noncomputable section
section
variable {E:Env} {st st1 st2:St E.T} {fr fr1 fr2:Fr E.T} {S:FuncId→Option (Spec E)} {fx bef:List Nat} {all:Array Oper}
def Ji (i:Nat) (en:Option zB) (log:List (Nat×zB)):List (Nat×zB):=
 match en with
 |some a=>(i,a) ::log
 |none=>log
inductive oe (S:FuncId→Option (Spec E)) (fx bef:List Nat) (all:Array Oper):List zA→Fr E.T→St E.T→oA E→List (Nat×zB)→Prop where
 |nil (fr:Fr E.T) (st:St E.T):oe S fx bef all [] fr st (.done fr st) []
 |next {x:zA} {l:List zA} {fr fr1:Fr E.T} {st st1:St E.T} {e:sB E.T} {en:Option zB} {out:oA E} {log:List (Nat×zB)} (h:kN S fx all x fr st e en) (ha:cM E fr st x.o.dst e= .next fr1 st1) (hr:oe S fx bef all l fr1 st1 out log)
   (hl: ∀a,en=some a→ ∀p∈log,zz bef p.1 x.i=true∨indep a p.2=true):oe S fx bef all (x::l) fr st out (Ji x.i en log)
 |panic {x:zA} {l:List zA} {fr fr1:Fr E.T} {st st1:St E.T} {e:sB E.T} {en:Option zB} {v:az E.T} (h:kN S fx all x fr st e en) (ha:cM E fr st x.o.dst e= .panic v fr1 st1)
   (hr: ∀y∈l,zz bef y.i x.i=true∨AP y.o=true):oe S fx bef all (x::l) fr st (.panic v (nZ E fr1 all.toList) st1) (Ji x.i en [])
theorem FT {i:Nat} {a:zB}: ∀{log:List (Nat×zB)},Ok bef i a log=true→ ∀p∈log,zz bef i p.1=true∨indep p.2 a=true
 |[],_,p,h=>by cases h
 |q::r,hl,p,h=>by
  simp only[Ok,Bool.and_eq_true,Bool.or_eq_true]at hl
  rcases List.mem_cons.1 h with rfl|h
  ·exact hl.1
  ·exact FT hl.2 p h
theorem DU {i:Nat}: ∀{l:List zA},I0 bef i l=true→ ∀y∈l,zz bef y.i i=true∨AP y.o=true
 |[],_,y,h=>by cases h
 |x::r,hl,y,h=>by
  simp only[I0,Bool.and_eq_true,Bool.or_eq_true]at hl
  rcases List.mem_cons.1 h with rfl|h
  ·exact hl.1
  ·exact DU hl.2 y h
theorem Ds: ∀(l:List zA) {log:List (Nat×zB)} {fr:Fr E.T} {st:St E.T} {out:oA E},(RE E S fx bef all.toList l log fr st).get=some out→
  ∃log',oe S fx bef all l fr st out log'∧ ∀p∈log,∀q∈log',zz bef q.1 p.1=true∨indep p.2 q.2=true
 |[],log,fr,st,out,h=>by
  cases h
  exact⟨[],.nil fr st,fun p _ q hq=>by cases hq⟩
 |x::r,log,fr,st,out,h=>by
  simp only[RE]at h
  rcases Nf h with⟨hw,h1⟩|⟨hw,h1⟩
  ·obtain⟨e,he,h2⟩:=Tree.aA h1
   obtain⟨hb,h2⟩:=Tree.aO h2
   rw[Bool.and_eq_true]at hb
   have hd:kN S fx all x fr st e (some (iS E (cd E fr) st x.id x.o.op e)):= .inl ⟨hw,he,hb.1,rfl⟩
   have hlog:=FT hb.2
   split at h2
   ·rename_i fr' st' ha
    obtain⟨log',hg,hl⟩:=Ds r h2
    refine⟨_,.next hd ha hg (fun a ha' q hq=> ?_),fun p hp q hq=> ?_⟩
    ·cases ha'
     exact hl _ List.mem_cons_self q hq
    ·rcases List.mem_cons.1 hq with rfl|hq
     ·exact hlog p hp
     ·exact hl p (by simp[hp]) q hq
   ·rename_i v fr' st' ha
    obtain⟨hr,h2⟩:=Tree.aO h2
    cases h2
    refine⟨_,.panic hd ha (DU hr),fun p hp q hq=> ?_⟩
    simp only[Ji,List.mem_singleton]at hq
    subst hq
    exact hlog p hp
  ·have hd:kN S fx all x fr st (sD E (.jo [])) none:= .inr ⟨hw,rfl,rfl⟩
   obtain⟨log',hg,hl⟩:=Ds r h1
   exact⟨_,.next hd rfl hg (fun a ha=>by cases ha),hl⟩
theorem DA {d:Option Tmp} {v:az E.T}: ∀(l:List Oper) {f:Fr E.T},(∃o∈l,o.dst=d)→nZ E (put E f d v) l=nZ E f l
 |[],f,h=>by obtain⟨o,ho,_⟩:=h;cases ho
 |o::r,f,h=>by
  simp only[nZ]
  by_cases ho:o.dst=d
  ·rw[ho]
   cases d with
   |none=>rfl
   |some t=>
    have:put E (put E f (some t) v) (some t) .undef=put E f (some t) .undef:=by
     simp only[put]
     congr 1
     have upd_upd: ∀(l:List (az E.T)) (t:Nat) (a b:az E.T),dk (dk l t a) t b=dk l t b:=by
      intro l
      induction l with
      |nil=>intro t a b;rfl
      |cons x r ih=>
       intro t a b
       cases t with
       |zero=>rfl
       |succ t=>simp only[jJ,gF,gG];rw[ih]
     exact upd_upd _ _ _ _
    rw[this]
  ·have hc:put E (put E f d v) o.dst .undef=put E (put E f o.dst .undef) d v:=put_comm (fun t ht e=>ho (by rw[ht];exact e))
   rw[hc]
   refine DA r ?_
   obtain⟨o',ho',hd⟩:=h
   rcases List.mem_cons.1 ho' with rfl|ho'
   ·exact absurd hd ho
   ·exact⟨o',ho',hd⟩
theorem H9 {ks:List Nat} {d:Option Tmp} {v:az E.T}:dB E st ks (put E fr d v)=put E (dB E st ks fr) d (kill E st ks v):=by
 rw[gB,gB]
 cases d with
 |none=>rfl
 |some t=>
  simp only[put,iM]
  rw[Db]
theorem Px {y:zA} (h:AP y.o=true) (fr:Fr E.T) (st:St E.T): ∃e v en,kN S fx all y fr st e en∧ ∀fr' st',cM E fr' st' y.o.dst e= .next (put E fr' y.o.dst v) st':=by
 unfold AP at h
 split at h
 ·rename_i z ho hg
  refine⟨sD E (cd E fr z),cd E fr z,_,.inl ⟨by unfold lf;rw[hg],by rw[ho];rfl,by rw[ho];rfl,rfl⟩,fun fr' st'=>rfl⟩
 ·cases h
theorem front {y:zA} {post:List zA}: ∀(pre:List zA) {fr:Fr E.T} {st:St E.T} {out:oA E} {log:List (Nat×zB)},oe S fx bef all (pre++y::post) fr st out log→
  (∀x∈pre,zz bef y.i x.i=false∧x.o.apart all y.o=true)→(∀x∈pre++y::post,∃o∈all.toList,o.dst=x.o.dst)→
  (∃e en fr1 st1 log1,kN S fx all y fr st e en∧cM E fr st y.o.dst e= .next fr1 st1∧oe S fx bef all (pre++post) fr1 st1 out log1∧(∀q∈log1,q∈log)∧ ∀a,en=some a→(y.i,a)∈log)∨
  (∃v e en fr1 st1,kN S fx all y fr st e en∧cM E fr st y.o.dst e= .panic v fr1 st1∧out= .panic v (nZ E fr1 all.toList) st1∧ ∀a,en=some a→(y.i,a)∈log)∨
  (AP y.o=true∧ ∀v',oe S fx bef all (pre++post) (put E fr y.o.dst v') st out log)
 |[],fr,st,out,log,h,_,_=>by
  cases h with
  |next h ha hr hl=>
   rename_i fr1 st1 e en log1
   refine .inl ⟨_,_,_,_,_,h,ha,hr,fun q hq=> ?_,fun a ha=> ?_⟩
   ·cases en with
    |none=>exact hq
    |some a=>exact List.mem_cons_of_mem _ hq
   ·subst ha;exact List.mem_cons_self
  |panic h ha hr=>
   rename_i fr1 st1 e en v
   refine .inr (.inl ⟨_,_,_,_,_,h,ha,rfl,fun a ha=> ?_⟩)
   subst ha;exact List.mem_cons_self
 |x::pre,fr,st,out,log,h,hp,hd=>by
  have hx:=hp x (by simp)
  obtain⟨hxy,hdd,hyx⟩:=Oper.apart_spec hx.2
  have hyd:=hd y (by simp)
  have hxd:=hd x (by simp)
  cases h with
  |panic h ha hr=>
   rename_i fr1 st1 e en v
   right;right
   have hm:AP y.o=true:=by
    rcases hr y (by simp)with h1|h1
    ·rw[hx.1]at h1;cases h1
    ·exact h1
   refine⟨hm,fun v'=> ?_⟩
   have hd':kN S fx all x (put E fr y.o.dst v') st e en:=kN.to h (EP hyx) (pv hyx) (fun a _ k _=>rfl) (.inr rfl)
   have ha':cM E (put E fr y.o.dst v') st x.o.dst e= .panic v (put E fr1 y.o.dst (kill E st e.ks v')) st1:=by
    unfold cM at ha⊢
    split at ha
    ·cases ha
    ·rename_i u hu
     cases ha
     rw[H9]
   have:=oe.panic hd' ha' (l:=pre++post) (bef:=bef) (fun z hz=>hr z (by
    rcases List.mem_append.1 hz with hz|hz
    ·simp[hz]
    ·simp[hz]))
   rw[DA _ hyd]at this
   exact this
  |next h ha hr hl=>
   rename_i fr1 st1 e en log1
   have hlog: ∀q∈log1,q∈Ji x.i en log1:=fun q hq=>by
    cases en with
    |none=>exact hq
    |some a=>exact List.mem_cons_of_mem _ hq
   rcases front pre hr (fun z hz=>hp z (by simp[hz])) (fun z hz=>hd z (by simp at hz⊢;right;exact hz))with⟨ey,eny,fr2,st2,log2,h1,h2,h3,h4,h5⟩|⟨v,ey,eny,fr2,st2,h1,h2,h3,h5⟩|⟨h1,h2⟩
   ·
    have hi: ∀a b,en=some a→eny=some b→indep a b=true:=by
     intro a b hen heny
     rcases hl a hen _ (h5 b heny)with h|h
     ·rw[hx.1]at h;cases h
     ·exact h
    obtain⟨hs1,hs2⟩:=swap h hx.2 ha h1 hi
    rw[h2]at hs2
    obtain⟨fr1',st1',g1,g2,g3⟩:=hs2
    refine .inl ⟨_,_,_,_,_,hs1,g1,.next g2 g3 h3 (fun a hen q hq=>hl a hen q (h4 q hq)),fun q hq=> ?_,fun a ha=>hlog _ (h5 a ha)⟩
    cases en with
    |none=>exact h4 q hq
    |some a=>
     rcases List.mem_cons.1 hq with rfl|hq
     ·exact List.mem_cons_self
     ·exact List.mem_cons_of_mem _ (h4 q hq)
   ·
    have hi: ∀a b,en=some a→eny=some b→indep a b=true:=by
     intro a b hen heny
     rcases hl a hen _ (h5 b heny)with h|h
     ·rw[hx.1]at h;cases h
     ·exact h
    obtain⟨hs1,hs2⟩:=swap h hx.2 ha h1 hi
    rw[h2]at hs2
    obtain⟨fr1',vx,g1,g2⟩:=hs2
    refine .inr (.inl ⟨v,ey,eny,fr1',st2,hs1,g1,?_,fun a ha=>hlog _ (h5 a ha)⟩)
    rw[h3,g2,DA _ hxd]
   ·
    refine .inr (.inr ⟨h1,fun v'=> ?_⟩)
    have hd':kN S fx all x (put E fr y.o.dst v') st e en:=kN.to h (EP hyx) (pv hyx) (fun a _ k _=>rfl) (.inr rfl)
    have ha':cM E (put E fr y.o.dst v') st x.o.dst e= .next (put E fr1 y.o.dst (kill E st e.ks v')) st1:=by
     unfold cM at ha⊢
     split at ha
     ·rename_i u hu
      cases ha
      rw[H9,put_comm (d1:=y.o.dst) (d2:=x.o.dst) (fun d h3 h4=>hdd d h4 h3)]
     ·cases ha
    exact .next hd' ha' (h2 _) hl
end
end
open Go
section
variable {P:Program} {E:Env} {w w':World} {σ σ':Sg} {st st':St E.T} {fr:Fr E.T} {a:Act} {S:FuncId→Option (Spec E)} {fx:List Nat}
variable {K:Act→World→Prop} {Q:Exit→Act→World→Prop}
theorem LH {src dst:TypeId} {x:az E.T} {p:az E.T×St E.T} (hn:yl E dst=false) (h:(yD E st src dst x).get=some p):p.2=st:=by
 unfold yD at h
 obtain⟨_,h⟩:=Tree.aO h
 unfold yl at hn
 split at h
 ·cases h;rfl
 ·cases h;rfl
 ·rename_i hd _;rw[hd]at hn;cases hn
 ·rename_i hd _;rw[hd]at hn;cases hn
 ·split at h
  ·obtain⟨s,_,h⟩:=Tree.aA h
   cases h;rfl
  ·cases h
 ·cases h
theorem LB {t:TypeId} {l c:az E.T} {p:az E.T×St E.T} (h:(er E true st t l c).get=some p):p.2=st:=by
 unfold er at h
 split at h
 ·obtain⟨_,h⟩:=fM h
  obtain⟨z,_,h⟩:=Tree.aA h
  cases h;rfl
 ·cases h
theorem Nx {α:Type} {xs:List α} {l h:Int} {g:List α→az E.T} {p:az E.T×St E.T} (hg:(EE E xs l h fun r=> .ret (g r,st)).get=some p):p.2=st:=by
 unfold EE at hg
 obtain⟨_,hg⟩:=fM hg
 cases hg;rfl
theorem JI {t:TypeId} {x:az E.T} {lo hi mx:Option (az E.T)} {p:az E.T×St E.T} (h1: ∀k,x≠ .own k) (h2: ∀o q,x≠ .ptr o q) (h:(wi E st t x lo hi mx).get=some p):p.2=st:=by
 have key: ∀{α:Type} {xs:List α} {t1:Bool} {l hh:Option Int} {g:List α→az E.T},((Tree.cV t1 ((Tree.e9 l).bind fun l=>(Tree.e9 hh).bind fun h=>EE E xs l h fun r=> .ret (g r,st)))).get=some p→p.2=st:=by
  intro α xs t1 l hh g h
  obtain⟨_,h⟩:=Tree.aO h
  obtain⟨_,_,h⟩:=Tree.aA h
  obtain⟨_,_,h⟩:=Tree.aA h
  exact Nx h
 unfold wi at h
 split at h
 ·cases h
 ·split at h
  ·exact key h
  ·exact key h
  ·rename_i k;exact absurd rfl (h1 k)
  ·exact key h
  ·rename_i o q;exact absurd rfl (h2 o q)
  ·cases h
theorem jw {t:Tree (az E.T)} {v:az E.T} {dst:Option Tmp} (h:t.get=some v):(t.bind (dU E fr dst st)).get=some (.next (put E fr dst v) st):=by
 rw[Tree.get_bind,h];rfl
theorem RD {o:Oper} {v:az E.T} (hm:makes E o.op=false) (h:(gg E (cd E fr) st o.op).get=some v):(pR E S true fr st o).get=some (.next (put E fr o.dst v) st):=by
 obtain⟨dst,op,type,pos,aft,guard⟩:=o
 simp only at h hm
 cases op with
 |move x=>cases h;rfl
 |assign x=>cases h;rfl
 |pick c x y=>
  simp only[gg]at h
  simp only[pR]
  split at h
  ·rename_i b hb
   cases b<;>(cases h;rfl)
  ·cases h
 |build t ps=>simp only[pR];exact jw h
 |buildSlice t n ps=>simp only[pR];exact jw h
 |load t x=>simp only[pR];exact jw h
 |nilCheck x=>
  simp only[gg]at h
  simp only[pR]
  split at h
  ·rename_i p q hq;cases h;rfl
  ·rename_i t y hq;cases h;rfl
  ·rename_i f c hq;cases h;rfl
  ·cases h
 |binOp op t x y sA=>
  simp only[gg]at h
  simp only[pR]
  split at h
  ·rename_i b hb
   obtain⟨hi,h⟩:=Tree.aO h
   cases h
   simp only[hi]
   rfl
  ·exact jw h
 |unOp op t x=>simp only[pR];exact jw h
 |convert src d x=>
  simp only[gg]at h
  simp only[pR]
  split at h
  ·cases h
  ·obtain⟨p,hp,h2⟩:=Tree.aA h
   cases h2
   rw[Tree.get_bind,hp]
   simp only[Option.bind_some]
   rw[LH hm hp]
   rfl
 |makeInterface t x=>
  simp only[gg]at h
  simp only[pR]
  split at h
  ·rename_i ty hk
   obtain⟨y,hy,h⟩:=Tree.aA h
   obtain⟨hf,h⟩:=Tree.aO h
   cases h
   rw[Tree.get_bind,hy]
   simp only[Option.bind_some,hf]
   rfl
  ·cases h
 |makeFunc f first captured=>
  cases f with
  |func f=>
   simp only[gg]at h
   obtain⟨hf,h⟩:=Tree.aO h
   cases h
   simp only[pR,hf]
   rfl
  |_=>cases h
 |makeSlice t l c=>
  simp only[gg]at h
  simp only[pR]
  obtain⟨p,hp,h2⟩:=Tree.aA h
  cases h2
  rw[Tree.get_bind,hp]
  simp only[Option.bind_some]
  rw[LB hp]
  rfl
 |slice t x lo hi mx=>
  simp only[gg]at h
  simp only[pR]
  split at h
  ·cases h
  ·cases h
  ·rename_i h1 h2
   obtain⟨p,hp,h3⟩:=Tree.aA h
   cases h3
   rw[Tree.get_bind,hp]
   simp only[Option.bind_some]
   rw[JI (fun k=>h1 k) (fun o q=>h2 o q) hp]
   rfl
 |fieldAddr t x j=>simp only[pR];exact jw h
 |field t x j=>simp only[pR];exact jw h
 |indexAddr t x i=>simp only[pR];exact jw h
 |index t x i=>simp only[pR];exact jw h
 |typeAssert x xt t ok=>
  cases ok with
  |false=>cases h
  |true=>
   simp only[gg]at h
   simp only[pR]
   split at h
   ·split at h
    ·rename_i t' v' hq
     cases hb:Nat.beq t' t<;>(rw[hb]at h;cases h;rfl)
    ·rename_i hq;cases h;rfl
    ·cases h
   ·cases h
 |extract t i=>
  simp only[gg]at h
  simp only[pR]
  split at h
  ·split at h
   ·cases h;rfl
   ·cases h
  ·cases h
 |call c=>
  obtain⟨callee,args,ats⟩:=c
  cases callee with
  |builtin b=>
   simp only[gg]at h
   simp only[pR,Cq]
   split at h
   ·rename_i x t ts hx hts;rw[hx,hts];exact jw h
   ·rename_i x r hx;rw[hx];exact jw h
   ·rename_i x r hx;rw[hx];exact jw h
   ·cases h
  |_=>cases h
 |_=>cases h
theorem yP {tx:TypeId} {e:Ty} {x:az E.T} {k:List (I E.T e)→Tree (Out E)} {p:Out E} (h:(appended E st tx e x k).get=some p): ∃ys,(k ys).get=some p:=by
 unfold appended at h
 split at h
 ·obtain⟨_,h⟩:=Tree.aO h
  obtain⟨_,h⟩:=fM h
  obtain⟨z,_,h⟩:=Tree.aA h
  exact⟨_,h⟩
 ·obtain⟨_,h⟩:=Tree.aO h
  split at h
  ·exact⟨_,h⟩
  ·cases h
 ·obtain⟨_,h⟩:=Tree.aO h
  obtain⟨ys,_,h⟩:=Tree.aA h
  exact⟨ys,h⟩
theorem Vg (HS:Sound P E) (HC:mN P E S) {o:Oper} {e:sB E.T} {id:Nat} (hst:br E σ st w) (hfr:cj E σ st w fr a) (hm:makes E o.op=false) (h:(eV E S fx (cd E fr) st id o.op).get=some e)
  (hp:DJ E σ st w K Q a (cM E fr st o.dst e)):o.wp P a w K Q:=by
 have viaVal:((gg E (cd E fr) st o.op).bind fun v=> .ret (sD E v)).get=some e→o.wp P a w K Q:=by
  intro h
  obtain⟨v,hv,rfl⟩:=na h
  exact Dt HS HC hst hfr (RD hm hv) hp
 obtain⟨dst,op,type,pos,aft,guard⟩:=o
 simp only at h hm hp viaVal
 cases op with
 |alloc t=>cases hm
 |box t v=>cases hm
 |makeSlice t l c=>cases hm
 |buildSlice t n ps=>
  simp only[eV]at h
  split at h
  ·exact viaVal h
  ·rename_i k r hks
   obtain⟨v,hv,h⟩:=Tree.aA h
   cases h
   obtain⟨mf,_⟩:=fS (k::r) hst
   have hfr1:=hfr.mv mf
   have hps:=wX.yF HS.todq mf.rep 0 (oZ hfr1 ps.toList)
   rw[List.map_map]at hps
   have hap:cM E fr st dst {res:= .val v,iO:=frozen E st (k::r),ks:=[],news:=[]}= .next (put E fr dst v) (freeze E st (k::r)):=by
    rw[zo rfl rfl rfl,du]
   rw[hap]at hp
   exact nG hfr1 (nS HS mf.rep hps hv) (by rw[←lW];rfl) (DJ.later mf.f hp)
 |convert s d x=>
  simp only[eV]at h
  split at h
  ·rename_i hd
   simp only[makes,yl,hd]at hm
   cases hm
  ·exact viaVal h
 |store t x y=>
  simp only[eV]at h
  split at h
  ·refine Dt HS HC (S:=S) (dr:=true) (out:=cM E fr st dst e) hst hfr ?_ hp
   simp only[pR,AZ]
   split at h
   ·rename_i k p hx
    try rw[hx]
    try simp only
    split at h
    ·rename_i b hb
     try rw[hb]
     try simp only
     obtain⟨hf,h⟩:=Tree.aO h
     obtain⟨b',hb',h⟩:=Tree.aA h
     cases h
     rw[hf]
     simp only[Tree.cV]
     rw[Tree.get_bind,Tree.get_bind,hb']
     rfl
    ·cases h
   ·cases h
  ·rename_i k r hks
   split at h
   ·rename_i q p hx
    split at h
    ·rename_i l e' xs hb
     obtain⟨hf,h⟩:=Tree.aO h
     obtain⟨b',hb',h⟩:=Tree.aA h
     cases h
     rw[zo rfl rfl rfl,Ad,du]at hp
     refine Dt HS HC (S:=S) (dr:=false) hst hfr ?_ hp
     simp only[Bool.and_eq_true]at hf
     have hf':(fits E (freeze E st (k::r)) t (gV E (freeze E st (k::r)) 0 (cd E fr y))&&zc E t p)=true:=by rw[hf.1.1,hf.1.2];rfl
     simp only[pR]
     rw[hx]at hks⊢
     rw[hks]
     simp only[AZ]
     rw[hb]
     simp only
     rw[hf']
     simp only[Tree.cV]
     rw[Tree.get_bind,Tree.get_bind,hb']
     rfl
    ·cases h
   ·cases h
 |call c=>
  obtain⟨callee,args,ats⟩:=c
  cases callee with
  |value f=>
   simp only[eV]at h
   exact HC hst hfr rfl h hp
  |invoke r m=>exact viaVal h
  |builtin b=>
   cases b<;>simp only[eV]at h<;>first|exact viaVal h|skip
   refine Dt HS HC (S:=S) (dr:=true) (out:=cM E fr st dst e) hst hfr ?_ hp
   simp only[pR,Cq]
   split at h
   ·rename_i s x t tx hargs hats
    rw[hargs,hats]
    simp only
    split at h
    ·obtain⟨p,hv,h⟩:=Tree.aA h
     cases h
     rw[Tree.get_bind,hv]
     simp only[Option.bind_some]
     have hsh: ∃ob,p.2=st++[ob]:=by
      unfold nU at hv
      simp only at hv
      split at hv
      ·obtain⟨ys,hy⟩:=yP hv
       obtain⟨_,hy⟩:=fM hy
       cases hy
       exact⟨_,rfl⟩
      ·cases hv
     obtain⟨ob,hob⟩:=hsh
     unfold cM dM
     simp only
     rw[hob]
     simp only[Da,cG,List.drop_left,Bg]
     rfl
    ·rename_i k
     obtain⟨p,hv,h⟩:=Tree.aA h
     rw[Tree.get_bind,hv]
     simp only[Option.bind_some]
     have hsh: ∃l e' xs,p.2=dk st k (.arr l e' xs)∧k<st.length:=by
      unfold nU at hv
      simp only at hv
      split at hv
      ·rename_i e' xs hk
       obtain⟨_,hv⟩:=Tree.aO hv
       obtain⟨ys,hy⟩:=yP hv
       obtain⟨_,hy⟩:=fM hy
       cases hy
       exact⟨_,_,_,rfl,bT hk⟩
      ·cases hv
     obtain⟨l,e',xs,hpe,hlt⟩:=hsh
     have hn:aR p.2 k=some (.arr l e' xs):=by rw[hpe,bF,if_pos ⟨rfl,hlt⟩]
     rw[hn]at h
     cases h
     unfold cM dM
     simp only[Tree.get]
     rw[hpe]
     simp only[Da,cG,Bg,dB]
     rw[EU]
     rfl
    ·cases h
   ·cases h
 |_=>exact viaVal h
end
open Go
section
variable {P:Program} {E:Env} {w w':World} {σ σ':Sg} {st st':St E.T} {fr:Fr E.T} {a:Act} {S:FuncId→Option (Spec E)} {fx:List Nat} {M:Nat→Prop}
variable {K:Act→World→Prop} {Q:Exit→Act→World→Prop}
mutual
theorem VT.mY {id:Nat} (hd:aR st id=some .dead): ∀{t:Ty} {d:az E.T} {cs:List Value},VT E σ st w M t d cs→id∉D.refs d
 |_,_,_,.val t x cs h=>by simp[D.refs]
 |_,_,_,.bm e a=>by simp[D.refs]
 |_,_,_,.own k l e xs h=>by
  simp only[D.refs,List.mem_singleton]
  rintro rfl
  rw[hd]at h;cases h
 |_,_,_,.dD e v h=>by simp[D.refs]
 |_,_,_,.agg i fs cs h=>by unfold D.refs;exact iB.mY hd h
theorem iB.mY {id:Nat} (hd:aR st id=some .dead): ∀{ts:List Ty} {ds:List (az E.T)} {cs:List Value},iB E σ st w M ts ds cs→id∉bh ds
 |_,_,_,.nil=>by simp[bh]
 |_,_,_,.cons t ts v r c1 c2 h h'=>by
  unfold bh
  rw[List.mem_append,not_or]
  exact⟨VT.mY hd h,iB.mY hd h'⟩
end
mutual
theorem a8.mY {id:Nat} (hd:aR st id=some .dead) (hb:k9 (σ id)=none): ∀{d:az E.T} {v:Value},a8 E σ st w M d v→id∉D.refs d
 |_,_,.undef v=>by simp[D.refs]
 |_,_,.data t d cs h=>VT.mY hd h
 |_,_,.ptr o p b h hl=>by
  simp only[D.refs,List.mem_singleton]
  rintro rfl
  rw[hb]at h;cases h
 |_,_,.cQ=>by simp[D.refs]
 |_,_,.eg t x a cs h hm=>by simp[D.refs]
 |_,_,.jo vs us h=>by unfold D.refs;exact aW.mY hd hb h
 |_,_,.fn f vs us h=>by unfold D.refs;exact aW.mY hd hb h
 |_,_,.ei=>by simp[D.refs]
 |_,_,.fD t d v h=>by unfold D.refs;exact a8.mY hd hb h
 |_,_,.ct=>by simp[D.refs]
theorem aW.mY {id:Nat} (hd:aR st id=some .dead) (hb:k9 (σ id)=none): ∀{ds:List (az E.T)} {us:List Value},aW E σ st w M ds us→id∉bh ds
 |_,_,.nil=>by simp[bh]
 |_,_,.cons v r u us h h'=>by
  unfold bh
  rw[List.mem_append,not_or]
  exact⟨a8.mY hd hb h,aW.mY hd hb h'⟩
end
theorem fP.mY {id:Nat} (hd:aR st id=some .dead) (hb:k9 (σ id)=none): ∀{ds:List (FuncId×List (az E.T))} {us:List Deferred},fP E σ st w M ds us→id∉ds.flatMap fun x=>bh x.2
 |_,_,.nil=>by simp
 |_,_,.cons g as args cap ds dds h h'=>by
  rw[List.flatMap_cons,List.mem_append,not_or]
  exact⟨aW.mY hd hb h,fP.mY hd hb h'⟩
theorem Hc {id:Nat} (hst:br E σ st w) (hd:aR st id=some .dead) (hb:k9 (σ id)=none) {o:Nat} {ob:Obj E.T} (h:aR st o=some ob):id∉cf E ob:=by
 have:=hst.obj o ob h
 generalize σ o=u at this
 cases this with
 |box ro d b c el fr hh hf hc=>
  simp only[cf]
  rcases hc with⟨t,ht⟩|⟨_,v,_,_,hv⟩
  ·exact VT.mY hd ht
  ·exact a8.mY hd hb hv
 |arr l e xs v h=>simp[cf]
 |dead v=>simp[cf]
theorem UH (hst:br E σ st w) {σ1:Sg} {id:Nat} {v:Value} {ob:Obj E.T} (hd:aR st id=some .dead) (hb:k9 (σ id)=none) (hod:dC ob=false) (m:Mv σ σ1 st (st++[ob]) w w') (hv:σ1 st.length=v)
  (hr: ∀k∈cf E ob,k<st.length∧k≠id):
  br E (dN σ id v) (dk st id ob) w'∧wY (MB σ st) (MB (dN σ id v) (dk st id ob)) w w'∧ ∀k,k<st.length→k≠id→ij σ (dN σ id v) st (dk st id ob) k:=by
 have hlt:=bT hd
 have hnew:aR (st++[ob]) st.length=some ob:=by rw[ew,if_pos rfl]
 have hold: ∀{o ob'},aR st o=some ob'→aR (st++[ob]) o=some ob':=fun ho=>by rw[ew,if_neg (Nat.ne_of_lt (bT ho))];exact ho
 have hname: ∀{o ob'},aR st o=some ob'→σ1 o=σ o:=fun ho=>m.name _ (bT ho)
 have hin: ∀o ob',aR (dk st id ob) o=some ob'→(o=id∧ob'=ob)∨(o≠id∧aR st o=some ob'):=by
  intro o ob' ho
  rw[bF]at ho
  by_cases hoi:id=o
  ·subst hoi
   rw[if_pos ⟨rfl,hlt⟩]at ho
   cases ho
   exact .inl ⟨rfl,rfl⟩
  ·rw[if_neg (fun h=>hoi h.1)]at ho
   exact .inr ⟨fun h=>hoi h.symm,ho⟩
 have hM: ∀b,MB (dN σ id v) (dk st id ob) b→MB σ1 (st++[ob]) b:=by
  rintro b (h|⟨o,ob',ho,hm,hbo⟩)
  ·exact .inl (by rw[m.qC.m];exact h)
  ·rcases hin o ob' ho with⟨rfl,rfl⟩|⟨hoi,ho1⟩
   ·rw[dH]at hbo
    exact .inr ⟨st.length,_,hnew,hm,by rw[hv];exact hbo⟩
   ·rw[dG hoi]at hbo
    exact .inr ⟨o,ob',hold ho1,hm,by rw[hname ho1];exact hbo⟩
 have same1: ∀k,k<st.length→k≠id→ij σ1 (dN σ id v) (st++[ob]) (dk st id ob) k:=by
  intro k hk hki
  refine⟨by rw[dG hki,m.name k hk],fun l e xs hh=>⟨l,xs,?_⟩,fun _=>by rw[dL];exact hk⟩
  rw[ew,if_neg (Nat.ne_of_lt hk)]at hh
  rw[bF,if_neg (fun h=>hki h.1.symm)]
  exact hh
 refine⟨⟨fun o ob' ho=> ?_,fun o o' ob1 ob2 b hne ho ho' hm hdd h1 h2=> ?_,fun b hbb=>m.rep.qC b (by rw[m.qC.m];exact hbb),fun o ob' b ho hdd h1=> ?_⟩,⟨m.aM.os,m.aM.tape,m.aM.output,m.aM.size,m.aM.block,fun b hb' h=>m.aM.may b hb' (hM b h)⟩,fun k hk hki=> ?_⟩
 ·rcases hin o ob' ho with⟨rfl,rfl⟩|⟨hoi,ho1⟩
  ·have:=m.rep.obj _ _ hnew
   rw[hv]at this
   rw[dH]
   exact cZ.aM (Kept.weaken hM) (fun _ _=>rfl) (fun k hk=>same1 k (hr k hk).1 (hr k hk).2) this
  ·have:=m.rep.obj _ _ (hold ho1)
   rw[hname ho1]at this
   rw[dG hoi]
   exact cZ.aM (Kept.weaken hM) (fun _ _=>rfl) (fun k hk=>same1 k (Au hst ho1 k hk) (fun e=>Hc hst hd hb ho1 (e▸hk))) this
 ·rcases hin o ob1 ho with⟨rfl,e1⟩|⟨hoi,ho1⟩
  ·rcases hin o' ob2 ho' with⟨rfl,e2⟩|⟨hoi',ho2⟩
   ·exact hne rfl
   ·subst e1
    rw[dH]at h1
    rw[dG hoi']at h2
    exact m.rep.apart _ _ _ _ b (fun e=>absurd (bT ho2) (by omega)) hnew (hold ho2) hm hdd (by rw[hv];exact h1) (by rw[hname ho2];exact h2)
  ·rcases hin o' ob2 ho' with⟨rfl,e2⟩|⟨hoi',ho2⟩
   ·subst e2
    rw[dG hoi]at h1
    rw[dH]at h2
    exact m.rep.apart _ _ _ _ b (fun e=>absurd (bT ho1) (by omega)) (hold ho1) hnew hm hdd (by rw[hname ho1];exact h1) (by rw[hv];exact h2)
   ·rw[dG hoi]at h1
    rw[dG hoi']at h2
    exact m.rep.apart _ _ _ _ b hne (hold ho1) (hold ho2) hm hdd (by rw[hname ho1];exact h1) (by rw[hname ho2];exact h2)
 ·show ¬σ.m b
  rw[←m.qC.m]
  rcases hin o ob' ho with⟨rfl,e1⟩|⟨hoi,ho1⟩
  ·subst e1
   rw[dH]at h1
   exact m.rep.out _ _ b hnew hdd (by rw[hv];exact h1)
  ·rw[dG hoi]at h1
   exact m.rep.out _ _ b (hold ho1) hdd (by rw[hname ho1];exact h1)
 ·have h1:=m.same k hk
  have h2:=same1 k hk hki
  refine⟨h2.at_.trans h1.at_,fun l e xs hh=> ?_,fun h=>h2.lt (h1.lt h)⟩
  obtain⟨l1,xs1,hh1⟩:=h1.arr l e xs hh
  exact h2.arr l1 e xs1 hh1
theorem Ni {id:Nat} (hd:aR st id=some .dead) (hb:k9 (σ id)=none) (hfr:cj E σ st w fr a) (kp:Kept (MB σ st) (MB σ' st') w w') (hs: ∀k,k<st.length→k≠id→ij σ σ' st st' k):cj E σ' st' w' fr a:=
 vW hfr kp (fun k hk=>hs k (Dk hfr k hk) (fun e=>by
  subst e
  unfold jh at hk
  rcases List.mem_append.1 hk with hk|hk
  ·exact aW.mY hd hb hfr.s hk
  ·exact fP.mY hd hb hfr.d hk))
theorem Mf.UH {σ0:Sg} {st0:St E.T} {w0:World} {id:Nat} {v:Value} {ob:Obj E.T} (m:Mf σ0 σ st0 st w0 w) (gm:st0.length≤id) (hr:br E (dN σ id v) (dk st id ob) w') (hk:wY (MB σ st) (MB (dN σ id v) (dk st id ob)) w w') (hamb: ∀b,σ.m b→w'.heap[b]? =w.heap[b]?):
  Mf σ0 (dN σ id v) st0 (dk st id ob) w0 w':=by
 refine⟨hr,m.aM.trans hk,⟨fun o ob' ho hl=> ?_,fun o ob' ho=> ?_⟩,m.qC.trans ⟨rfl,hamb⟩⟩
 ·have hlt:=bT ho
  rw[dG (by omega)]
  exact m.stay.same o ob' ho hl
 ·obtain⟨ob2,h1,h2,h3⟩:=m.stay.kind o ob' ho
  have hlt:=bT ho
  exact⟨ob2,by rw[bF,if_neg (fun h=>by omega)];exact h1,h2,h3⟩
theorem Ri (HS:Sound P E) {o:Oper} {e:sB E.T} {id:Nat} (hst:br E σ st w) (hfr:cj E σ st w fr a) (hm:makes E o.op=true) (h:(eV E S fx (cd E fr) st id o.op).get=some e) (hb:k9 (σ id)=none) {σ0:Sg} {st0:St E.T} {w0:World} (m0:Mf σ0 σ st0 st w0 w) (gm:st0.length≤id)
  (hK: ∀σ' w' a' v ob,e.res= .val v→e.iO=[(id,ob)]→e.ks=[]→e.news=[]→Mf σ0 σ' st0 (dk st id ob) w0 w'→(∀k,k≠id→σ' k=σ k)→cj E σ' (dk st id ob) w' (put E fr o.dst v) a'→K a' w'):o.wp P a w K Q:=by
 have fin: ∀{y:Value} {w':World} {ob:Obj E.T} {v:az E.T} {σ1:Sg},aR st id=some .dead→dC ob=false→(execOp a.eval o).run P w= .ok (.value y) w'→Mv σ σ1 st (st++[ob]) w w'→σ1 st.length=y→(∀k∈cf E ob,k<st.length∧k≠id)→
   (br E (dN σ id y) (dk st id ob) w'→a8 E (dN σ id y) (dk st id ob) w' (MB (dN σ id y) (dk st id ob)) v y)→e={res:= .val v,iO:=[(id,ob)],ks:=[],news:=[]}→o.wp P a w K Q:=by
  intro y w' ob v σ1 hd hod hrun m hy hr hv he
  subst he
  obtain⟨h1,h2,h3⟩:=UH hst hd hb hod m hy hr
  refine j7 hrun (hK _ w' _ v ob rfl rfl rfl rfl (Mf.UH m0 gm h1 h2 m.qC.gm) (fun k hk=>dG hk) (fm (Ni hd hb hfr h2.kept h3) o.dst (hv h1)))
 obtain⟨dst,op,type,pos,aft,guard⟩:=o
 simp only at h hm fin
 cases op with
 |alloc t=>
  simp only[eV]at h
  have ht:E.tk t≠ .other:=by intro hk;rw[hk]at h;cases h
  have h':eU E st id=true∧e={res:= .val (.ptr id []),iO:=[(id,.box false (zeroV E t))],ks:=[],news:=[]}:=by
   split at h
   ·cases h
   ·obtain⟨hd,h⟩:=Tree.aO h
    cases h;exact⟨hd,rfl⟩
  obtain⟨hd,he⟩:=h'
  have hd:=qk hd
  obtain⟨u,hu,hv,hf⟩:=Kb HS hst ht
  obtain⟨m,hvp⟩:=ES HS hst hf hv
  refine fin (y:= .pointer (some ⟨w.heap.size,0,none⟩)) (w':=w.alloc (.cells u.cells t)) hd rfl (by simp[execOp,Instr.alloc,hu,vi]) m dH (fun k hk=>by simp only[cf,E7]at hk;cases hk) (fun _=> ?_) he
  exact .ptr id [] w.heap.size (by rw[dH];rfl) (by rw[dL];exact bT hd)
 |box t x=>
  simp only[eV]at h
  obtain⟨hd,h⟩:=Tree.aO h
  cases h
  rw[Bool.and_eq_true]at hd
  have hdd:=qk hd.1
  have hx:=bY hfr x
  obtain⟨m,hvp⟩:=ES HS hst hd.2 hx
  refine fin (y:= .pointer (some ⟨w.heap.size,0,none⟩)) (w':=w.alloc (.cells (a.eval x).cells t)) hdd rfl (by simp[execOp,Instr.box,vi]) m dH (fun k hk=>⟨a8.refs hx k hk,fun e=>a8.mY hdd hb hx (e▸hk)⟩) (fun _=> ?_) rfl
  exact .ptr id [] w.heap.size (by rw[dH];rfl) (by rw[dL];exact bT hdd)
 |convert s d x=>
  simp only[eV]at h
  split at h
  ·rename_i hdt
   have hx:=bY hfr x
   split at h
   ·rename_i b hxv
    obtain⟨hd,h⟩:=Tree.aO h
    cases h
    rw[Bool.and_eq_true]at hd
    have hdd:=qk hd.2
    rw[hxv]at hx
    have hdc:(yD E st s d (.val .str b)).get=some (.own st.length,st++[.arr .live (.int .u8) b]):=by
     unfold yD
     have hs:Df E s=true:=by unfold Df;rw[kY hd.1]
     rw[hs,hdt]
     simp only[Tree.cV]
     rw[hd.1]
     rfl
    obtain⟨y,w',σ1,hrun,m,hv⟩:=LI HS hst hdc hx
    refine fin (y:=y) (w':=w') hdd rfl (by simp[execOp,hrun]) m (vt hv).symm (fun k hk=>by simp[cf]at hk) (fun _=> ?_) rfl
    have h1:=a8.data _ _ _ (VT.own (E:=E) (σ:=dN σ id y) (st:=dk st id (.arr .live (.int .u8) b)) (w:=w') (M:=MB (dN σ id y) (dk st id (.arr .live (.int .u8) b))) id .live (.int .u8) b (by rw[bF,if_pos ⟨rfl,bT hdd⟩]))
    rw[dH]at h1
    exact h1
   ·cases h
  ·rename_i hdt
   exfalso
   have hs: ∃e',E.tk d= .data (.slice e'):=by
    simp only[makes,yl]at hm
    split at hm
    ·exact⟨_,by assumption⟩
    ·cases hm
   obtain⟨e',he'⟩:=hs
   simp only[gg,he']at h
   cases h
 |makeSlice t l c=>
  simp only[eV]at h
  obtain⟨p,hp,h⟩:=Tree.aA h
  split at h
  ·rename_i e' xs hp1
   obtain⟨hd,h⟩:=Tree.aO h
   cases h
   have hdd:=qk hd
   have hdm:(er E false st t (cd E fr l) (cd E fr c)).get=some (.own st.length,st++[.arr .live e' xs]):=by
    unfold er at hp⊢
    split at hp
    ·obtain⟨h1,h2⟩:=fM hp
     obtain⟨z,hz,h3⟩:=Tree.aA h2
     cases h3
     cases hp1
     simp only[Tree.get,h1,cond_true]
     rw[Tree.get_bind,hz]
     rfl
    ·cases hp
   obtain⟨y,w',σ1,hrun,m,hv⟩:=zU HS hst (bY hfr l) (bY hfr c) hdm
   refine fin (y:=y) (w':=w') hdd rfl (by simp[execOp,hrun]) m (vt hv).symm (fun k hk=>by simp[cf]at hk) (fun _=> ?_) rfl
   have h1:=a8.data _ _ _ (VT.own (E:=E) (σ:=dN σ id y) (st:=dk st id (.arr .live e' xs)) (w:=w') (M:=MB (dN σ id y) (dk st id (.arr .live e' xs))) id .live e' xs (by rw[bF,if_pos ⟨rfl,bT hdd⟩]))
   rw[dH]at h1
   exact h1
  ·cases h
 |_=>cases hm
end
end Go.Proofs.YtlejgahbbfeagaaGreatDoor.D

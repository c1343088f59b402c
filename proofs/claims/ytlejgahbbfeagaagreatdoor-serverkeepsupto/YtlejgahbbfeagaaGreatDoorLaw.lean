/- Proved: ServerKeeps answers true at all arguments of bounded bulk. No condition beyond the statement's: the listed variables as the program's text lays them (the card). (This text joins: ) -/
import Derived.Test.YtlejgahbbfeagaaGreatDoorCards
import Derived.Test.YtlejgahbbfeagaaGreatDoorTie
import Derived.Deep.DeepHandedRow
import Derived.OpenShut
import Derived.Test.YtlejgahbbfeagaaGreatDoorSeat1
import Derived.Test.YtlejgahbbfeagaaGreatDoorSeat5
import Derived.Test.YtlejgahbbfeagaaGreatDoorSeat9
set_option linter.unusedVariables false
set_option maxRecDepth 100000
namespace Go.Proofs.YtlejgahbbfeagaaGreatDoor
open Go Go.ChangeShapes Go.WideShapes Go.ChangeAt Go.RowKit
namespace Q4
open Go.Proofs.YtlejgahbbfeagaaGreatDoor.D Go.Proofs.YtlejgahbbfeagaaGreatDoor.V
theorem SN {α β:Type} {t:Option α} {b:α} {f:α→Option β} {r:Option β} (h:t=some b) (hr:f b=r):t.bind f=r:=by rw[h];exact hr
theorem law (xs:List (az E.T)) (h:Di E 1048576 [(.slice (.arr 4 (.int .u8))),(.int .u8),(.slice (.int .i64))] xs):((x4.B Tryz.f4) xs []).get=some (.ret [.val .bool true],[]):=by
 match xs,h with
 |[_,_,_],.cons _ _ x0 _ h0 (.cons _ _ x1 _ h1 (.cons _ _ x2 _ h2 .nil))=>exact(F4 x0 x1 x2).trans ((Tree.CM _).trans ((Tree.get_bind _ _).trans (SN (α:=Bool) (N.xI x0 x1 x2 ⟨(h0 12).1,fun x hx=>((h0 12).2 x hx).1⟩ (h2 12).1) rfl)))
theorem Ra (H:Type) (enc:TypeId×Value→H) (W:World) (base:Nat) (args:Array Value) (ds gs:List (DataW H)) (before:List MemPlace)
  (hval: ∀(j:Nat) t v,Tryz.f4.params[j]? =some t→args[j]? =some v→Value.okWide Tryz.prog W .any base t v)
  (hW:DataW.Whole enc Tryz.prog Tryz.f4.params.toList Rows.serverKeepsSpec.vars false W args.toList ds gs before) (hk: ∀d∈ds,Rows.uptoBulk d≤1048576):
  Calls Tryz.prog 4 args W fun e W'=> ∃v,e= .returned v∧Rows.serverKeepsSpec.post enc Tryz.prog Tryz.f4 false true false false W args v W':=
 IL sound tl laid full aey bl (fn:=Tryz.f4) (tb:=4) rfl Tryz.underlying4 (ps:=[(.slice (.arr 4 (.int .u8))),(.int .u8),(.slice (.int .i64))]) rfl
  (by
   have h:(Tryz.f4.params.toList.all fun t=>Tryz.prog.readableRec t&&decide (t<Tryz.prog.types.size))=true:=by kernel_rfl
   intro t ht
   have:=List.all_eq_true.1 h t ht
   simpa using this) rfl
  (fun ds hd=>by
   match ds,hd with
   |[x0,x1,x2],_=>rfl)
  z4 law W base args ds gs before hval hW hk
noncomputable def CE (os:Os):World:=TV 1 ((Go.Pinned.utf8FirstZ.map fun(n:Nat)=>Value.int .u8 (Int.ofNat n))) (TV 2 ([.int .u8 128,.int .u8 191,.int .u8 160,.int .u8 191,.int .u8 128,.int .u8 159,.int .u8 144,.int .u8 191,.int .u8 128,.int .u8 143,.int .u8 0,.int .u8 0,.int .u8 0,.int .u8 0,.int .u8 0,.int .u8 0,.int .u8 0,.int .u8 0,.int .u8 0,.int .u8 0,.int .u8 0,.int .u8 0,.int .u8 0,.int .u8 0,.int .u8 0,.int .u8 0,.int .u8 0,.int .u8 0,.int .u8 0,.int .u8 0,.int .u8 0,.int .u8 0]) (World.holding Tryz.prog os ⟨#[],#[],[]⟩))
theorem QB (os:Os):laidMet Tryz.prog Rows.serverKeepsUptoRow.laid ((CE os).forCall (fun _ _=>0) ⟨#[],#[.slice none 0 0,.int .u8 0,.slice none 0 0],[]⟩).memory:=laidMet_of_run' 8 (by kernel_rfl) (by kernel_rfl)
theorem reads (os:Os) {H:Type} (enc:TypeId×Value→H): ∃places,DataW.whole enc Tryz.prog ((CE os).forCall (fun _ _=>0) ⟨#[],#[.slice none 0 0,.int .u8 0,.slice none 0 0],[]⟩).memory Tryz.f4.params.toList Rows.serverKeepsSpec.vars false (#[.slice none 0 0,.int .u8 0,.slice none 0 0]:Array Value).toList 8=some ([.nil,.lit (.int .u8 0),.nil],[],places):=⟨[],by kernel_rfl⟩
theorem lifted (os:Os) (started:os.Started) (H:Type) (enc:TypeId×Value→H) (F:Stop.Interp):
  ReturnsInHanded {} Tryz.checked os 4 .any ((Rows.OpenSpec.upto Rows.serverKeepsSpec).preRow enc Tryz.prog Tryz.f4 Rows.serverKeepsUptoRow.domain false Rows.serverKeepsUptoRow.laid) (((Rows.OpenSpec.upto Rows.serverKeepsSpec).at F).post enc Tryz.prog Tryz.f4 false true false false):=by
 obtain⟨places,hx⟩:=reads os enc
 refine returnsInHanded_of_row (C:=Tryz.checked) (s:=Rows.OpenSpec.upto Rows.serverKeepsSpec) own started (by kernel_rfl) Tryz.func4
  (witness_row_at (enc:=enc) (C:=Tryz.checked) false (CE os) #[.slice none 0 0,.int .u8 0,.slice none 0 0] rfl (by kernel_rfl) (by kernel_rfl) (by kernel_rfl)
   (OpenSpec.preRow_of_cond 8 hx (by kernel_rfl) (fun k hk=>by cases hk;kernel_rfl) (by kernel_rfl) (QB os))) ?_
 intro W base args ds gs before hval hW _ hcond _ _ _ _
 have hgs:gs=[]:=by
  obtain⟨p,q,hA,hV,_⟩:=hW
  cases gs with
  |nil=>rfl
  |cons g gs=>exact hV.elim
 subst hgs
 have hk:=hcond _ rfl
 exact Ra H enc W base args ds [] before hval hW (small hk)
theorem o1:Tryz.pinned.checked.prog.funcNamed Rows.serverKeepsUptoRow.func=some 4:=by kernel_rfl
theorem o2:joinedFacts Tryz.pinned.checked.prog 4 Tryz.f4 (Rows.OpenSpec.upto Rows.serverKeepsSpec).bare Rows.serverKeepsUptoRow=true:=by kernel_rfl
theorem o3:Tryz.f4.isInstance Tryz.pinned.checked.prog Rows.serverKeepsUptoRow.origin Rows.serverKeepsUptoRow.targs:=of_decide_eq_true (by kernel_rfl)
theorem o4:Tryz.f4.isWrapper Tryz.pinned.checked.prog Rows.serverKeepsUptoRow.wrapper Rows.serverKeepsUptoRow.mainSum:=by unfold Func.isWrapper;first|(rw[if_pos (by decide+kernel)];kernel_rfl)|(rw[if_neg (by decide+kernel)];exact⟨rfl,rfl⟩)
theorem over:Rows.serverKeepsUptoRow.holds Tryz.pinned (Rows.OpenSpec.upto Rows.serverKeepsSpec):=
 OpenClaim.holds_of_cond 4 Tryz.f4 rfl rfl rfl rfl rfl rfl rfl ⟨rfl,rfl,rfl,rfl,rfl⟩ rfl rfl rfl rfl rfl o1 Tryz.func4 o2 o3 o4
  (fun os started H enc _ F=>by rw[OpenClaim.pre_eq_preRow];exact lifted os started H enc F)
theorem plain (f:FuncId) (fn:Func) (hf:Tryz.pinned.checked.prog.funcNamed "tenancy/tenancylaw18.ServerKeeps" =some f) (hfn:Tryz.pinned.checked.prog.funcs[f]? =some fn):
  true=Tryz.pinned.checked.prog.looks []∧ ∀(j:Nat) t,fn.params[j]? =some t→Tryz.pinned.checked.prog.wantsStandIn t=false:=by
 obtain rfl:f=4:=Option.some.inj ((show Tryz.prog.funcNamed "tenancy/tenancylaw18.ServerKeeps" =some 4 by kernel_rfl).symm.trans hf)|>.symm
 obtain rfl:fn=Tryz.f4:=(Option.some.inj (Tryz.func4.symm.trans hfn)).symm
 refine⟨by kernel_rfl,fun j t ht=> ?_⟩
 have h:(Tryz.f4.params.toList.all fun t=> !(Tryz.prog.wantsStandIn t))=true:=by kernel_rfl
 have:=List.all_eq_true.1 h t (Array.mem_toList_iff.2 (Array.mem_of_getElem? ht))
 show Tryz.prog.wantsStandIn t=false
 simpa using this
theorem aeJ:Rows.ServerKeepsUptoCardSaid:=
 Claim7.holds_tied_plain_at .later [] _ _ _ _ over (fun _ h=>by cases h) (by kernel_rfl) (fun _ h=>by cases h) serverKeepsUpto_row_tie rfl ⟨rfl,rfl⟩ (by kernel_rfl) rfl plain (by kernel_rfl)
end Q4
theorem serverKeeps_holds:Rows.ServerKeepsUptoCardSaid:=Q4.aeJ
end Go.Proofs.YtlejgahbbfeagaaGreatDoor

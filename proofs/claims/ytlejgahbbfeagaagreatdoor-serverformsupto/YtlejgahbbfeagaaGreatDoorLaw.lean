/- Proved: ServerForms answers true at all arguments of bounded bulk. No condition beyond the statement's: the listed variables as the program's text lays them (the card). (This text joins: ) -/
import Derived.Test.YtlejgahbbfeagaaGreatDoorCards
import Derived.Test.YtlejgahbbfeagaaGreatDoorTie
import Derived.Deep.DeepHandedRow
import Derived.OpenShut
import Derived.Test.YtlejgahbbfeagaaGreatDoorSeat1
import Derived.Test.YtlejgahbbfeagaaGreatDoorSeat6
set_option linter.unusedVariables false
set_option maxRecDepth 100000
namespace Go.Proofs.YtlejgahbbfeagaaGreatDoor
open Go Go.ChangeShapes Go.WideShapes Go.ChangeAt Go.RowKit
namespace Q7
open Go.Proofs.YtlejgahbbfeagaaGreatDoor.D Go.Proofs.YtlejgahbbfeagaaGreatDoor.V
theorem bind_of {α β : Type} {t : Option α} {b : α} {f : α → Option β} {r : Option β} (h : t = some b) (hr : f b = r) : t.bind f = r := by rw [h]; exact hr
theorem law (xs : List (DVal E.T)) (h : ArgsOk E 1048576 [] xs) : ((x7.B Tryz.f7) xs []).get = some (.ret [.val .bool true], []) := by
  match xs, h with
  | [], .nil => exact (F7).trans ((Tree.get_bind _ _).trans (bind_of (α := Bool) (N.law18_ServerForms_ok) rfl))
theorem contract (H : Type) (enc : TypeId × Value → H) (W : World) (base : Nat) (args : Array Value) (ds gs : List (DataW H)) (before : List MemPlace)
    (hval : ∀ (j : Nat) t v, Tryz.f7.params[j]? = some t → args[j]? = some v → Value.okWide Tryz.prog W .any base t v)
    (hW : DataW.Whole enc Tryz.prog Tryz.f7.params.toList Rows.serverFormsSpec.vars false W args.toList ds gs before) (hk : ∀ d ∈ ds, Rows.uptoBulk d ≤ 1048576) :
    Calls Tryz.prog 7 args W fun e W' => ∃ v, e = .returned v ∧ Rows.serverFormsSpec.post enc Tryz.prog Tryz.f7 false true false false W args v W' :=
  law_contract sound tl laid full meas bl (fn := Tryz.f7) (tb := 4) rfl Tryz.underlying4 (ps := []) rfl
    (by
      have h : (Tryz.f7.params.toList.all fun t => Tryz.prog.readableRec t && decide (t < Tryz.prog.types.size)) = true := by kernel_rfl
      intro t ht
      have := List.all_eq_true.1 h t ht
      simpa using this) rfl
    (fun ds hd => by
      match ds, hd with
      | [], _ => rfl)
    z7 law W base args ds gs before hval hW hk
noncomputable def laidWorld (os : Os) : World := layAt 1 ((Go.Pinned.utf8FirstZ.map fun (n : Nat) => Value.int .u8 (Int.ofNat n))) (layAt 2 ([.int .u8 128, .int .u8 191, .int .u8 160, .int .u8 191, .int .u8 128, .int .u8 159, .int .u8 144, .int .u8 191, .int .u8 128, .int .u8 143, .int .u8 0, .int .u8 0, .int .u8 0, .int .u8 0, .int .u8 0, .int .u8 0, .int .u8 0, .int .u8 0, .int .u8 0, .int .u8 0, .int .u8 0, .int .u8 0, .int .u8 0, .int .u8 0, .int .u8 0, .int .u8 0, .int .u8 0, .int .u8 0, .int .u8 0, .int .u8 0, .int .u8 0, .int .u8 0]) (World.holding Tryz.prog os ⟨#[], #[], []⟩))
theorem laid_met (os : Os) : laidMet Tryz.prog Rows.serverFormsUptoRow.laid ((laidWorld os).forCall (fun _ _ => 0) ⟨#[], #[], []⟩).memory := laidMet_of_run' 8 (by kernel_rfl) (by kernel_rfl)
theorem reads (os : Os) {H : Type} (enc : TypeId × Value → H) : ∃ places, DataW.whole enc Tryz.prog ((laidWorld os).forCall (fun _ _ => 0) ⟨#[], #[], []⟩).memory Tryz.f7.params.toList Rows.serverFormsSpec.vars false (#[] : Array Value).toList 8 = some ([], [], places) := ⟨[], by kernel_rfl⟩
theorem lifted (os : Os) (started : os.Started) (H : Type) (enc : TypeId × Value → H) (F : Stop.Interp) :
    ReturnsInHanded {} Tryz.checked os 7 .any ((Rows.OpenSpec.upto Rows.serverFormsSpec).preRow enc Tryz.prog Tryz.f7 Rows.serverFormsUptoRow.domain false Rows.serverFormsUptoRow.laid) (((Rows.OpenSpec.upto Rows.serverFormsSpec).at F).post enc Tryz.prog Tryz.f7 false true false false) := by
  obtain ⟨places, hx⟩ := reads os enc
  refine returnsInHanded_of_row (C := Tryz.checked) (s := Rows.OpenSpec.upto Rows.serverFormsSpec) own started (by kernel_rfl) Tryz.func7
    (witness_row_at (enc := enc) (C := Tryz.checked) false (laidWorld os) #[] rfl (by kernel_rfl) (by kernel_rfl) (by kernel_rfl)
      (OpenSpec.preRow_of_cond 8 hx (by kernel_rfl) (fun k hk => by cases hk; kernel_rfl) (by kernel_rfl) (laid_met os))) ?_
  intro W base args ds gs before hval hW _ hcond _ _ _ _
  have hgs : gs = [] := by
    obtain ⟨p, q, hA, hV, _⟩ := hW
    cases gs with
    | nil => rfl
    | cons g gs => exact hV.elim
  subst hgs
  have hk := hcond _ rfl
  exact contract H enc W base args ds [] before hval hW (small hk)
theorem o1 : Tryz.pinned.checked.prog.funcNamed Rows.serverFormsUptoRow.func = some 7 := by kernel_rfl
theorem o2 : joinedFacts Tryz.pinned.checked.prog 7 Tryz.f7 (Rows.OpenSpec.upto Rows.serverFormsSpec).bare Rows.serverFormsUptoRow = true := by kernel_rfl
theorem o3 : Tryz.f7.isInstance Tryz.pinned.checked.prog Rows.serverFormsUptoRow.origin Rows.serverFormsUptoRow.targs := of_decide_eq_true (by kernel_rfl)
theorem o4 : Tryz.f7.isWrapper Tryz.pinned.checked.prog Rows.serverFormsUptoRow.wrapper Rows.serverFormsUptoRow.mainSum := by unfold Func.isWrapper; first | (rw [if_pos (by decide +kernel)]; kernel_rfl) | (rw [if_neg (by decide +kernel)]; exact ⟨rfl, rfl⟩)
theorem over : Rows.serverFormsUptoRow.holds Tryz.pinned (Rows.OpenSpec.upto Rows.serverFormsSpec) :=
  OpenClaim.holds_of_cond 7 Tryz.f7 rfl rfl rfl rfl rfl rfl rfl ⟨rfl, rfl, rfl, rfl, rfl⟩ rfl rfl rfl rfl rfl o1 Tryz.func7 o2 o3 o4
    (fun os started H enc _ F => by rw [OpenClaim.pre_eq_preRow]; exact lifted os started H enc F)
theorem plain (f : FuncId) (fn : Func) (hf : Tryz.pinned.checked.prog.funcNamed "tenancy/tenancylaw18.ServerForms" = some f) (hfn : Tryz.pinned.checked.prog.funcs[f]? = some fn) :
    true = Tryz.pinned.checked.prog.looks [] ∧ ∀ (j : Nat) t, fn.params[j]? = some t → Tryz.pinned.checked.prog.wantsStandIn t = false := by
  obtain rfl : f = 7 := Option.some.inj ((show Tryz.prog.funcNamed "tenancy/tenancylaw18.ServerForms" = some 7 by kernel_rfl).symm.trans hf) |>.symm
  obtain rfl : fn = Tryz.f7 := (Option.some.inj (Tryz.func7.symm.trans hfn)).symm
  refine ⟨by kernel_rfl, fun j t ht => ?_⟩
  have h : (Tryz.f7.params.toList.all fun t => !(Tryz.prog.wantsStandIn t)) = true := by kernel_rfl
  have := List.all_eq_true.1 h t (Array.mem_toList_iff.2 (Array.mem_of_getElem? ht))
  show Tryz.prog.wantsStandIn t = false
  simpa using this
theorem card : Rows.ServerFormsUptoCardSaid :=
  Claim7.holds_tied_plain_at .later [] _ _ _ _ over (fun _ h => by cases h) (by kernel_rfl) (fun _ h => by cases h) serverFormsUpto_row_tie rfl ⟨rfl, rfl⟩ (by kernel_rfl) rfl plain (by kernel_rfl)
end Q7
theorem serverForms_holds : Rows.ServerFormsUptoCardSaid := Q7.card
end Go.Proofs.YtlejgahbbfeagaaGreatDoor

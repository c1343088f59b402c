/- Proved: MsgForms answers true at all arguments of bounded bulk. No condition beyond the statement's. (This text joins: The plain law of MsgForms: evaluated whole.) -/
import Derived.Test.YtphcaobgkegbaaaSeat2
import Derived.KernelRfl
import Derived.Test.YtphcaobgkegbaaaSeat1
import Derived.Test.YtphcaobgkegbaaaSeat3
set_option maxRecDepth 100000
namespace Go.Proofs.Ytphcaobgkegbaaa.N
open Go
theorem law16_MsgForms_ok : law16_MsgForms fuel = some true := by rw [fuel_eq]; kernel_rfl
end Go.Proofs.Ytphcaobgkegbaaa.N

set_option linter.unusedVariables false
set_option maxRecDepth 100000
namespace Go.Proofs.Ytphcaobgkegbaaa
open Go Go.ChangeShapes Go.WideShapes Go.ChangeAt Go.RowKit
namespace Q5
open Go.Proofs.Ytphcaobgkegbaaa.D Go.Proofs.Ytphcaobgkegbaaa.M

theorem law (xs : List (DVal E.T)) (h : ArgsOk E 1048576 [] xs) : (B5 xs []).get = some (.ret [.val .bool true], []) := by
  match xs, h with
  | [], .nil => exact (F5).trans ((N.law16_MsgForms_bind N.fuel _).trans (by rw [N.law16_MsgForms_ok]; rfl))

theorem contract (H : Type) (enc : TypeId × Value → H) (W : World) (base : Nat) (args : Array Value) (ds gs : List (DataW H)) (before : List MemPlace)
    (hval : ∀ (j : Nat) t v, Try.f5.params[j]? = some t → args[j]? = some v → Value.okWide Try.prog W .any base t v)
    (hW : DataW.Whole enc Try.prog Try.f5.params.toList Rows.msgFormsSpec.vars false W args.toList ds gs before) (hk : ∀ d ∈ ds, Rows.uptoBulk d ≤ 1048576) :
    Calls Try.prog 5 args W fun e W' => ∃ v, e = .returned v ∧ Rows.msgFormsSpec.post enc Try.prog Try.f5 false true false false W args v W' :=
  law_contract sound tl laid full meas bl (fn := Try.f5) (tb := 4) rfl Try.underlying4 (ps := []) rfl
    (by
      have h : (Try.f5.params.toList.all fun t => Try.prog.readableRec t && decide (t < Try.prog.types.size)) = true := by kernel_rfl
      intro t ht
      have := List.all_eq_true.1 h t ht
      simpa using this) rfl
    (fun ds hd => by
      match ds, hd with
      | [], _ => rfl)
    B5_ok law W base args ds gs before hval hW hk

theorem lifted (os : Os) (started : os.Started) (H : Type) (enc : TypeId × Value → H) (F : Stop.Interp) :
    ReturnsInHanded {} Try.checked os 5 .any ((Rows.OpenSpec.upto Rows.msgFormsSpec).pre6 enc Try.prog Try.f5 Rows.msgFormsUptoRow.domain false) (((Rows.OpenSpec.upto Rows.msgFormsSpec).at F).post enc Try.prog Try.f5 false true false false) := by
  refine returnsInHanded_of_cond (C := Try.checked) (s := Rows.OpenSpec.upto Rows.msgFormsSpec) (k := Rows.uptoSmall) rfl own started (by kernel_rfl) Try.func5
    (OpenSpec.witness (enc := enc) (C := Try.checked) (s := Rows.OpenSpec.upto Rows.msgFormsSpec) (k := Rows.uptoSmall) rfl false ⟨#[], #[], []⟩ 8 (by kernel_rfl) (by kernel_rfl) (by kernel_rfl)
      (x := ([], [], [])) (by kernel_rfl) rfl (by kernel_rfl)) ?_
  intro W base args ds gs before hval hW _ hk _
  have hgs : gs = [] := by
    obtain ⟨p, q, hA, hV, _⟩ := hW
    cases gs with
    | nil => rfl
    | cons g gs => exact hV.elim
  subst hgs
  exact contract H enc W base args ds [] before hval hW (small hk)

theorem over : Rows.msgFormsUptoRow.holds Try.pinned (Rows.OpenSpec.upto Rows.msgFormsSpec) :=
  OpenClaim.holds_of_cond 5 Try.f5 rfl rfl rfl rfl rfl rfl rfl ⟨rfl, rfl, rfl, rfl, rfl⟩ rfl rfl rfl rfl rfl (by kernel_rfl) Try.func5 (by kernel_rfl)
    (of_decide_eq_true (by kernel_rfl)) (by unfold Func.isWrapper; first | (rw [if_pos (by decide +kernel)]; kernel_rfl) | (rw [if_neg (by decide +kernel)]; exact ⟨rfl, rfl⟩))
    (fun os started H enc _ F => lifted os started H enc F)
end Q5
theorem msgForms_holds : Rows.MsgFormsUptoSaid := Q5.over
end Go.Proofs.Ytphcaobgkegbaaa

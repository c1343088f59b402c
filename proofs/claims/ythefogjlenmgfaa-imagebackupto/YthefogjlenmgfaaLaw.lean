/- Proved: ImageBack answers true at all arguments of bounded bulk. No condition beyond the statement's. (This text joins: ) -/
import Derived.Test.YthefogjlenmgfaaSeat1
import Derived.Test.YthefogjlenmgfaaSeat4
import Derived.Test.YthefogjlenmgfaaSeat6
set_option linter.unusedVariables false
set_option maxRecDepth 100000
namespace Go.Proofs.Ythefogjlenmgfaa
open Go Go.ChangeShapes Go.WideShapes Go.ChangeAt Go.RowKit
namespace Q4
open Go.Proofs.Ythefogjlenmgfaa.D Go.Proofs.Ythefogjlenmgfaa.I

theorem law (xs : List (DVal E.T)) (h : ArgsOk E 1048576 [(.slice (.int .u8)), (.slice (.int .u8))] xs) : (B4 xs []).get = some (.ret [.val .bool true], []) := by
  match xs, h with
  | [_, _], .cons _ _ x0 _ h0 (.cons _ _ x1 _ h1 .nil) => exact (F4 x0 x1).trans ((N.law11_ImageBack_bind N.fuel _ x0 x1).trans (by rw [N.law11_ImageBack_ok x0 x1 (h0 12).1 (h1 12).1]; rfl))

theorem contract (H : Type) (enc : TypeId × Value → H) (W : World) (base : Nat) (args : Array Value) (ds gs : List (DataW H)) (before : List MemPlace)
    (hval : ∀ (j : Nat) t v, Try.f4.params[j]? = some t → args[j]? = some v → Value.okWide Try.prog W .any base t v)
    (hW : DataW.Whole enc Try.prog Try.f4.params.toList Rows.imageBackSpec.vars false W args.toList ds gs before) (hk : ∀ d ∈ ds, Rows.uptoBulk d ≤ 1048576) :
    Calls Try.prog 4 args W fun e W' => ∃ v, e = .returned v ∧ Rows.imageBackSpec.post enc Try.prog Try.f4 false true false false W args v W' :=
  law_contract sound tl laid full meas bl (fn := Try.f4) (tb := 4) rfl Try.underlying4 (ps := [(.slice (.int .u8)), (.slice (.int .u8))]) rfl
    (by
      have h : (Try.f4.params.toList.all fun t => Try.prog.readableRec t && decide (t < Try.prog.types.size)) = true := by kernel_rfl
      intro t ht
      have := List.all_eq_true.1 h t ht
      simpa using this) rfl
    (fun ds hd => by
      match ds, hd with
      | [x0, x1], _ => rfl)
    B4_ok law W base args ds gs before hval hW hk

theorem lifted (os : Os) (started : os.Started) (H : Type) (enc : TypeId × Value → H) (F : Stop.Interp) :
    ReturnsInHanded {} Try.checked os 4 .any ((Rows.OpenSpec.upto Rows.imageBackSpec).pre6 enc Try.prog Try.f4 Rows.imageBackUptoRow.domain false) (((Rows.OpenSpec.upto Rows.imageBackSpec).at F).post enc Try.prog Try.f4 false true false false) := by
  refine returnsInHanded_of_cond (C := Try.checked) (s := Rows.OpenSpec.upto Rows.imageBackSpec) (k := Rows.uptoSmall) rfl own started (by kernel_rfl) Try.func4
    (OpenSpec.witness (enc := enc) (C := Try.checked) (s := Rows.OpenSpec.upto Rows.imageBackSpec) (k := Rows.uptoSmall) rfl false ⟨#[], #[.slice none 0 0, .slice none 0 0], []⟩ 8 (by kernel_rfl) (by kernel_rfl) (by kernel_rfl)
      (x := ([.nil, .nil], [], [])) (by kernel_rfl) rfl (by kernel_rfl)) ?_
  intro W base args ds gs before hval hW _ hk _
  have hgs : gs = [] := by
    obtain ⟨p, q, hA, hV, _⟩ := hW
    cases gs with
    | nil => rfl
    | cons g gs => exact hV.elim
  subst hgs
  exact contract H enc W base args ds [] before hval hW (small hk)

theorem over : Rows.imageBackUptoRow.holds Try.pinned (Rows.OpenSpec.upto Rows.imageBackSpec) :=
  OpenClaim.holds_of_cond 4 Try.f4 rfl rfl rfl rfl rfl rfl rfl ⟨rfl, rfl, rfl, rfl, rfl⟩ rfl rfl rfl rfl rfl (by kernel_rfl) Try.func4 (by kernel_rfl)
    (of_decide_eq_true (by kernel_rfl)) (by unfold Func.isWrapper; first | (rw [if_pos (by decide +kernel)]; kernel_rfl) | (rw [if_neg (by decide +kernel)]; exact ⟨rfl, rfl⟩))
    (fun os started H enc _ F => lifted os started H enc F)
end Q4
theorem imageBack_holds : Rows.ImageBackUptoSaid := Q4.over
end Go.Proofs.Ythefogjlenmgfaa

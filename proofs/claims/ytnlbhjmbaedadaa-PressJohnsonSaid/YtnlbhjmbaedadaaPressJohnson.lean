/- The law PressJohnson returns true of all numbers of sheets; no condition. -/
import Derived.Test.YtnlbhjmbaedadaaRows
import Derived.ProofKit
import Derived.Test.YtnlbhjmbaedadaaQPressJohnson2
set_option linter.unusedVariables false
set_option linter.unusedSimpArgs false
namespace Go.Proofs.Ytnlbhjmbaedadaa
open Go.ChangeShapes Go.WideShapes Go.ChangeAt Go.RowKit Go.Vi
theorem pressJohnson_val (xs : pksDen (pks [ShF])) (h : WfL [ShF] xs) : ∃ n, S6 n xs.1 = some true := ⟨N, johnson_ok (fm_ok h.1)⟩
set_option maxRecDepth 100000 in
theorem pressJohnson_lifted (os : Os) (started : os.Started) (H : Type) (enc : TypeId × Value → H) :
    ReturnsInHanded {} Try.checked os 6 .any (Rows.pressJohnsonSpec.pre6 enc Try.prog Try.f6 Rows.pressJohnsonRow.domain false) (Rows.pressJohnsonSpec.post enc Try.prog Try.f6 false true false false) := by
  refine returnsInHanded_of_change (C := Try.checked) (by kernel_rfl) started (by kernel_rfl) Try.func6
    (ChangeSpec.witness6 (enc := enc) (C := Try.checked) false ⟨#[], #[.agg #[.int .u8 0, .int .u8 0, .int .u8 0, .int .u8 0, .int .u8 0, .int .u8 0, .int .u8 0, .int .u8 0, .int .u8 0, .int .u8 0, .int .u8 0, .int .u8 0, .int .u8 0, .int .u8 0, .int .u8 0, .int .u8 0]], []⟩ 8 (by kernel_rfl) (by kernel_rfl) (by kernel_rfl) (by kernel_rfl)) ?_
  intro W base args ds gs before hval hW hcnd _
  exact law_post (P := Try.prog) (ss := [ShF]) (n := 8) (tb := 4) (t0 := 2) (S := fun n xs => S6 n xs.1) (fun n => FC6 n) (fun xs hx => pressJohnson_val xs hx) (by kernel_rfl) (by kernel_rfl) (by kernel_rfl) (by kernel_rfl) Try.underlying4 rfl
    (fun H ds h => by match ds, h with | [d0], _ => rfl) hval hW
theorem pressJohnson_holds : Rows.PressJohnsonSaid :=
  OpenClaim.holds_of_wide 6 Try.f6 rfl rfl rfl rfl rfl rfl rfl ⟨rfl, rfl, rfl, rfl, rfl⟩ rfl rfl rfl rfl rfl (by kernel_rfl) Try.func6 (by kernel_rfl)
    (of_decide_eq_true (by kernel_rfl)) (by unfold Func.isWrapper; first | (rw [if_pos (by decide +kernel)]; kernel_rfl) | (rw [if_neg (by decide +kernel)]; exact ⟨rfl, rfl⟩))
    (fun os started H enc _ => pressJohnson_lifted os started H enc)
#print axioms pressJohnson_holds
end Go.Proofs.Ytnlbhjmbaedadaa

/- The law PressNamed returns true of all numbers of sheets and orders; no condition. -/
import Derived.Test.YtnlbhjmbaedadaaRows
import Derived.ProofKit
import Derived.Test.YtnlbhjmbaedadaaQPressNamed2
set_option linter.unusedVariables false
set_option linter.unusedSimpArgs false
namespace Go.Proofs.Ytnlbhjmbaedadaa
open Go.ChangeShapes Go.WideShapes Go.ChangeAt Go.RowKit Go.Vi

theorem pressNamed_val (xs : pksDen (pks [ShF, ShB])) (h : WfL [ShF, ShB] xs) : ∃ n, S9 n xs.1 xs.2.1 = some true := ⟨N, named_ok (fm_ok h.1) (bt_ok h.2.1)⟩

set_option maxRecDepth 100000 in
theorem pressNamed_lifted (os : Os) (started : os.Started) (H : Type) (enc : TypeId × Value → H) :
    ReturnsInHanded {} Try.checked os 9 .any (Rows.pressNamedSpec.pre6 enc Try.prog Try.f9 Rows.pressNamedRow.domain false) (Rows.pressNamedSpec.post enc Try.prog Try.f9 false true false false) := by
  refine returnsInHanded_of_change (C := Try.checked) (by kernel_rfl) started (by kernel_rfl) Try.func9
    (ChangeSpec.witness6 (enc := enc) (C := Try.checked) false ⟨#[], #[.agg #[.int .u8 0, .int .u8 0, .int .u8 0, .int .u8 0, .int .u8 0, .int .u8 0, .int .u8 0, .int .u8 0, .int .u8 0, .int .u8 0, .int .u8 0, .int .u8 0, .int .u8 0, .int .u8 0, .int .u8 0, .int .u8 0], .agg #[.int .u8 0, .int .u8 0, .int .u8 0, .int .u8 0, .int .u8 0, .int .u8 0, .int .u8 0]], []⟩ 8 (by kernel_rfl) (by kernel_rfl) (by kernel_rfl) (by kernel_rfl)) ?_
  intro W base args ds gs before hval hW hcnd _
  exact law_post (P := Try.prog) (ss := [ShF, ShB]) (n := 8) (tb := 4) (t0 := 4) (S := fun n xs => S9 n xs.1 xs.2.1) (fun n => FC9 n) (fun xs hx => pressNamed_val xs hx) (by kernel_rfl) (by kernel_rfl) (by kernel_rfl) (by kernel_rfl) Try.underlying4 rfl
    (fun H ds h => by match ds, h with | [d0, d1], _ => rfl) hval hW

theorem pressNamed_holds : Rows.PressNamedSaid :=
  OpenClaim.holds_of_wide 9 Try.f9 rfl rfl rfl rfl rfl rfl rfl ⟨rfl, rfl, rfl, rfl, rfl⟩ rfl rfl rfl rfl rfl (by kernel_rfl) Try.func9 (by kernel_rfl)
    (of_decide_eq_true (by kernel_rfl)) (by unfold Func.isWrapper; first | (rw [if_pos (by decide +kernel)]; kernel_rfl) | (rw [if_neg (by decide +kernel)]; exact ⟨rfl, rfl⟩))
    (fun os started H enc _ => pressNamed_lifted os started H enc)
#print axioms pressNamed_holds
end Go.Proofs.Ytnlbhjmbaedadaa

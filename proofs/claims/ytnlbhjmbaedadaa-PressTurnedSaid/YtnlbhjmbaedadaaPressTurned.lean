/- The law PressTurned returns true of all numbers of sheets and orders; no condition. -/
import Derived.Test.YtnlbhjmbaedadaaRows
import Derived.ProofKit
import Derived.Test.YtnlbhjmbaedadaaQPressTurned1
set_option linter.unusedVariables false
set_option linter.unusedSimpArgs false
namespace Go.Proofs.Ytnlbhjmbaedadaa
open Go.ChangeShapes Go.WideShapes Go.ChangeAt Go.RowKit Go.Vi
theorem pressTurned_val (xs : pksDen (pks [ShF, ShB])) (h : WfL [ShF, ShB] xs) : ∃ n, S8 n xs.1 xs.2.1 = some true := ⟨N, turned_ok (fm_ok h.1) (bt_ok h.2.1)⟩
set_option maxRecDepth 100000 in
theorem pressTurned_lifted (os : Os) (started : os.Started) (H : Type) (enc : TypeId × Value → H) :
    ReturnsInHanded {} Try.checked os 8 .any (Rows.pressTurnedSpec.pre6 enc Try.prog Try.f8 Rows.pressTurnedRow.domain false) (Rows.pressTurnedSpec.post enc Try.prog Try.f8 false true false false) := by
  refine returnsInHanded_of_change (C := Try.checked) (by kernel_rfl) started (by kernel_rfl) Try.func8
    (ChangeSpec.witness6 (enc := enc) (C := Try.checked) false ⟨#[], #[.agg #[.int .u8 0, .int .u8 0, .int .u8 0, .int .u8 0, .int .u8 0, .int .u8 0, .int .u8 0, .int .u8 0, .int .u8 0, .int .u8 0, .int .u8 0, .int .u8 0, .int .u8 0, .int .u8 0, .int .u8 0, .int .u8 0], .agg #[.int .u8 0, .int .u8 0, .int .u8 0, .int .u8 0, .int .u8 0, .int .u8 0, .int .u8 0]], []⟩ 8 (by kernel_rfl) (by kernel_rfl) (by kernel_rfl) (by kernel_rfl)) ?_
  intro W base args ds gs before hval hW hcnd _
  exact law_post (P := Try.prog) (ss := [ShF, ShB]) (n := 8) (tb := 4) (t0 := 4) (S := fun n xs => S8 n xs.1 xs.2.1) (fun n => FC8 n) (fun xs hx => pressTurned_val xs hx) (by kernel_rfl) (by kernel_rfl) (by kernel_rfl) (by kernel_rfl) Try.underlying4 rfl
    (fun H ds h => by match ds, h with | [d0, d1], _ => rfl) hval hW
theorem pressTurned_holds : Rows.PressTurnedSaid :=
  OpenClaim.holds_of_wide 8 Try.f8 rfl rfl rfl rfl rfl rfl rfl ⟨rfl, rfl, rfl, rfl, rfl⟩ rfl rfl rfl rfl rfl (by kernel_rfl) Try.func8 (by kernel_rfl)
    (of_decide_eq_true (by kernel_rfl)) (by unfold Func.isWrapper; first | (rw [if_pos (by decide +kernel)]; kernel_rfl) | (rw [if_neg (by decide +kernel)]; exact ⟨rfl, rfl⟩))
    (fun os started H enc _ => pressTurned_lifted os started H enc)
#print axioms pressTurned_holds
end Go.Proofs.Ytnlbhjmbaedadaa

/- The law PressBounds returns true of all sheets, orders, machines and numbers; no condition. -/
import Derived.Test.YtnlbhjmbaedadaaRows
import Derived.ProofKit
import Derived.Test.YtnlbhjmbaedadaaQPressBounds2
set_option linter.unusedVariables false
set_option linter.unusedSimpArgs false
namespace Go.Proofs.Ytnlbhjmbaedadaa
open Go.ChangeShapes Go.WideShapes Go.ChangeAt Go.RowKit Go.Vi

theorem pressBounds_val (xs : pksDen (pks [.sl (.pair (.int .i64) (.int .i64)), .sl (.int .i64), .int .i64, .int .i64])) (h : WfL [.sl (.pair (.int .i64) (.int .i64)), .sl (.int .i64), .int .i64, .int .i64] xs) : ∃ n, S5 n xs.1 xs.2.1 xs.2.2.1 xs.2.2.2.1 = some true := ⟨N, bounds_ok xs.1 xs.2.1 xs.2.2.1 xs.2.2.2.1⟩

set_option maxRecDepth 100000 in
theorem pressBounds_lifted (os : Os) (started : os.Started) (H : Type) (enc : TypeId × Value → H) :
    ReturnsInHanded {} Try.checked os 5 .any (Rows.pressBoundsSpec.pre6 enc Try.prog Try.f5 Rows.pressBoundsRow.domain false) (Rows.pressBoundsSpec.post enc Try.prog Try.f5 false true false false) := by
  refine returnsInHanded_of_change (C := Try.checked) (by kernel_rfl) started (by kernel_rfl) Try.func5
    (ChangeSpec.witness6 (enc := enc) (C := Try.checked) false ⟨#[], #[.slice none 0 0, .slice none 0 0, .int .i64 0, .int .i64 0], []⟩ 8 (by kernel_rfl) (by kernel_rfl) (by kernel_rfl) (by kernel_rfl)) ?_
  intro W base args ds gs before hval hW hcnd _
  exact law_post (P := Try.prog) (ss := [.sl (.pair (.int .i64) (.int .i64)), .sl (.int .i64), .int .i64, .int .i64]) (n := 8) (tb := 4) (t0 := 8) (S := fun n xs => S5 n xs.1 xs.2.1 xs.2.2.1 xs.2.2.2.1) (fun n => FC5 n) (fun xs hx => pressBounds_val xs hx) (by kernel_rfl) (by kernel_rfl) (by kernel_rfl) (by kernel_rfl) Try.underlying4 rfl
    (fun H ds h => by match ds, h with | [d0, d1, d2, d3], _ => rfl) hval hW

theorem pressBounds_holds : Rows.PressBoundsSaid :=
  OpenClaim.holds_of_wide 5 Try.f5 rfl rfl rfl rfl rfl rfl rfl ⟨rfl, rfl, rfl, rfl, rfl⟩ rfl rfl rfl rfl rfl (by kernel_rfl) Try.func5 (by kernel_rfl)
    (of_decide_eq_true (by kernel_rfl)) (by unfold Func.isWrapper; first | (rw [if_pos (by decide +kernel)]; kernel_rfl) | (rw [if_neg (by decide +kernel)]; exact ⟨rfl, rfl⟩))
    (fun os started H enc _ => pressBounds_lifted os started H enc)
#print axioms pressBounds_holds
end Go.Proofs.Ytnlbhjmbaedadaa

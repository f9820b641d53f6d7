/- The law PressOrders returns true of all sheets and numbers; no condition. -/
import Derived.Test.YtnlbhjmbaedadaaRows
import Derived.ProofKit
import Derived.Test.YtnlbhjmbaedadaaQPressOrders2
set_option linter.unusedVariables false
set_option linter.unusedSimpArgs false
namespace Go.Proofs.Ytnlbhjmbaedadaa
open Go.ChangeShapes Go.WideShapes Go.ChangeAt Go.RowKit Go.Vi

theorem pressOrders_val (xs : pksDen (pks [.sl (.pair (.int .i64) (.int .i64)), .int .i64, .int .i64])) (h : WfL [.sl (.pair (.int .i64) (.int .i64)), .int .i64, .int .i64] xs) : ∃ n, S4 n xs.1 xs.2.1 xs.2.2.1 = some true := ⟨M, orders_ok xs.1 xs.2.1 xs.2.2.1⟩

set_option maxRecDepth 100000 in
theorem pressOrders_lifted (os : Os) (started : os.Started) (H : Type) (enc : TypeId × Value → H) :
    ReturnsInHanded {} Try.checked os 4 .any (Rows.pressOrdersSpec.pre6 enc Try.prog Try.f4 Rows.pressOrdersRow.domain false) (Rows.pressOrdersSpec.post enc Try.prog Try.f4 false true false false) := by
  refine returnsInHanded_of_change (C := Try.checked) (by kernel_rfl) started (by kernel_rfl) Try.func4
    (ChangeSpec.witness6 (enc := enc) (C := Try.checked) false ⟨#[], #[.slice none 0 0, .int .i64 0, .int .i64 0], []⟩ 8 (by kernel_rfl) (by kernel_rfl) (by kernel_rfl) (by kernel_rfl)) ?_
  intro W base args ds gs before hval hW hcnd _
  exact law_post (P := Try.prog) (ss := [.sl (.pair (.int .i64) (.int .i64)), .int .i64, .int .i64]) (n := 8) (tb := 4) (t0 := 6) (S := fun n xs => S4 n xs.1 xs.2.1 xs.2.2.1) (fun n => FC4 n) (fun xs hx => pressOrders_val xs hx) (by kernel_rfl) (by kernel_rfl) (by kernel_rfl) (by kernel_rfl) Try.underlying4 rfl
    (fun H ds h => by match ds, h with | [d0, d1, d2], _ => rfl) hval hW

theorem pressOrders_holds : Rows.PressOrdersSaid :=
  OpenClaim.holds_of_wide 4 Try.f4 rfl rfl rfl rfl rfl rfl rfl ⟨rfl, rfl, rfl, rfl, rfl⟩ rfl rfl rfl rfl rfl (by kernel_rfl) Try.func4 (by kernel_rfl)
    (of_decide_eq_true (by kernel_rfl)) (by unfold Func.isWrapper; first | (rw [if_pos (by decide +kernel)]; kernel_rfl) | (rw [if_neg (by decide +kernel)]; exact ⟨rfl, rfl⟩))
    (fun os started H enc _ => pressOrders_lifted os started H enc)
#print axioms pressOrders_holds
end Go.Proofs.Ytnlbhjmbaedadaa

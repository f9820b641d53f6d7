/- The law ReignEnds returns true, whatever the input: no condition. -/
import Derived.Test.YtombednapelokaaRows
import Derived.Test.YtombednapelokaaViX
import Derived.Test.YtombednapelokaaLG6
import Derived.Test.YtombednapelokaaMn
import Derived.ProofKit
set_option linter.unusedVariables false
set_option linter.unusedSimpArgs false
namespace Go.Proofs.Ytombednapelokaa
open Go.ChangeShapes Go.WideShapes Go.ChangeAt Go.RowKit Go.Vi

theorem reignEnds_val (xs : pksDen (pks [.sl (.pair (.int .i64) (.int .i64)), .int .i64, .int .i64])) (h : WfL [.sl (.pair (.int .i64) (.int .i64)), .int .i64, .int .i64] xs) : ∃ n, S6 n xs.1 xs.2.1 xs.2.2.1 = some true := ends_ok xs h

set_option maxRecDepth 100000 in
theorem reignEnds_lifted (os : Os) (started : os.Started) (H : Type) (enc : TypeId × Value → H) :
    ReturnsInHanded {} Try.checked os 6 .any (Rows.reignEndsSpec.pre6 enc Try.prog Try.f6 Rows.reignEndsRow.domain false) (Rows.reignEndsSpec.post enc Try.prog Try.f6 false true false false) := by
  refine returnsInHanded_of_change (C := Try.checked) (by kernel_rfl) started (by kernel_rfl) Try.func6
    (ChangeSpec.witness6 (enc := enc) (C := Try.checked) false ⟨#[], #[.slice none 0 0, .int .i64 0, .int .i64 0], []⟩ 8 (by kernel_rfl) (by kernel_rfl) (by kernel_rfl) (by kernel_rfl)) ?_
  intro W base args ds gs before hval hW hcnd _
  exact law_post (P := Try.prog) (ss := [.sl (.pair (.int .i64) (.int .i64)), .int .i64, .int .i64]) (n := 8) (tb := 4) (t0 := 6) (S := fun n xs => S6 n xs.1 xs.2.1 xs.2.2.1) (fun n => FC6 n) (fun xs hx => reignEnds_val xs hx) (by kernel_rfl) (by kernel_rfl) (by kernel_rfl) (by kernel_rfl) Try.underlying4 rfl
    (fun H ds h => by match ds, h with | [d0, d1, d2], _ => rfl) hval hW

theorem reignEnds_holds : Rows.ReignEndsSaid :=
  OpenClaim.holds_of_wide 6 Try.f6 rfl rfl rfl rfl rfl rfl rfl ⟨rfl, rfl, rfl, rfl, rfl⟩ rfl rfl rfl rfl rfl (by kernel_rfl) Try.func6 (by kernel_rfl)
    (of_decide_eq_true (by kernel_rfl)) (by unfold Func.isWrapper; first | (rw [if_pos (by decide +kernel)]; kernel_rfl) | (rw [if_neg (by decide +kernel)]; exact ⟨rfl, rfl⟩))
    (fun os started H enc _ => reignEnds_lifted os started H enc)
end Go.Proofs.Ytombednapelokaa

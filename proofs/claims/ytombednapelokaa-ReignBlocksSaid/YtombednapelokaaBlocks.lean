/- The law ReignBlocks returns true, whatever the input: no condition. -/
import Derived.Test.YtombednapelokaaRows
import Derived.Test.YtombednapelokaaViX
import Derived.Test.YtombednapelokaaLG17
import Derived.Test.YtombednapelokaaNm
import Derived.ProofKit
set_option linter.unusedVariables false
set_option linter.unusedSimpArgs false
namespace Go.Proofs.Ytombednapelokaa
open Go.ChangeShapes Go.WideShapes Go.ChangeAt Go.RowKit Go.Vi
theorem reignBlocks_val (xs : pksDen (pks [ShA, .int .u8])) (h : WfL [ShA, .int .u8] xs) : ∃ n, S17 n xs.1 xs.2.1 = some true := blocks_ok xs h
set_option maxRecDepth 100000 in
theorem reignBlocks_lifted (os : Os) (started : os.Started) (H : Type) (enc : TypeId × Value → H) :
    ReturnsInHanded {} Try.checked os 17 .any (Rows.reignBlocksSpec.pre6 enc Try.prog Try.f17 Rows.reignBlocksRow.domain false) (Rows.reignBlocksSpec.post enc Try.prog Try.f17 false true false false) := by
  refine returnsInHanded_of_change (C := Try.checked) (by kernel_rfl) started (by kernel_rfl) Try.func17
    (ChangeSpec.witness6 (enc := enc) (C := Try.checked) false ⟨#[], #[.agg #[.int .u8 0, .int .u8 0, .int .u8 0, .int .u8 0, .int .u8 0, .int .u8 0, .int .u8 0, .int .u8 0, .int .u8 0, .int .u8 0, .int .u8 0, .int .u8 0, .int .u8 0, .int .u8 0, .int .u8 0, .int .u8 0, .int .u8 0], .int .u8 0], []⟩ 8 (by kernel_rfl) (by kernel_rfl) (by kernel_rfl) (by kernel_rfl)) ?_
  intro W base args ds gs before hval hW hcnd _
  exact law_post (P := Try.prog) (ss := [ShA, .int .u8]) (n := 8) (tb := 4) (t0 := 4) (S := fun n xs => S17 n xs.1 xs.2.1) (fun n => FC17 n) (fun xs hx => reignBlocks_val xs hx) (by kernel_rfl) (by kernel_rfl) (by kernel_rfl) (by kernel_rfl) Try.underlying4 rfl
    (fun H ds h => by match ds, h with | [d0, d1], _ => rfl) hval hW
theorem reignBlocks_holds : Rows.ReignBlocksSaid :=
  OpenClaim.holds_of_wide 17 Try.f17 rfl rfl rfl rfl rfl rfl rfl ⟨rfl, rfl, rfl, rfl, rfl⟩ rfl rfl rfl rfl rfl (by kernel_rfl) Try.func17 (by kernel_rfl)
    (of_decide_eq_true (by kernel_rfl)) (by unfold Func.isWrapper; first | (rw [if_pos (by decide +kernel)]; kernel_rfl) | (rw [if_neg (by decide +kernel)]; exact ⟨rfl, rfl⟩))
    (fun os started H enc _ => reignBlocks_lifted os started H enc)
end Go.Proofs.Ytombednapelokaa

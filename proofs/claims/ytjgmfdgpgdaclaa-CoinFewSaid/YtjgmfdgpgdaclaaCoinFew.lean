/- The law CoinFew returns true at every argument. -/
import Derived.Test.YtjgmfdgpgdaclaaRows
import Derived.ProofKit
import Derived.Test.YtjgmfdgpgdaclaaQCoinFew1
set_option linter.unusedVariables false
set_option linter.unusedSimpArgs false
namespace Go.Proofs.Ytjgmfdgpgdaclaa
open Go.ChangeShapes Go.WideShapes Go.ChangeAt Go.RowKit Go.Vi

theorem coinFew_val (xs : pksDen (pks [.sl (.int .i64), .int .i64])) (h : WfL [.sl (.int .i64), .int .i64] xs) : ∃ n, S3 n xs.1 xs.2.1 = some true := ⟨N, few_ok xs.1 xs.2.1⟩

set_option maxRecDepth 100000 in
theorem coinFew_lifted (os : Os) (started : os.Started) (H : Type) (enc : TypeId × Value → H) :
    ReturnsInHanded {} Try.checked os 3 .any (Rows.coinFewSpec.pre6 enc Try.prog Try.f3 Rows.coinFewRow.domain false) (Rows.coinFewSpec.post enc Try.prog Try.f3 false true false false) := by
  refine returnsInHanded_of_change (C := Try.checked) (by kernel_rfl) started (by kernel_rfl) Try.func3
    (ChangeSpec.witness6 (enc := enc) (C := Try.checked) false ⟨#[], #[.slice none 0 0, .int .i64 0], []⟩ 8 (by kernel_rfl) (by kernel_rfl) (by kernel_rfl) (by kernel_rfl)) ?_
  intro W base args ds gs before hval hW hcnd _
  exact law_post (P := Try.prog) (ss := [.sl (.int .i64), .int .i64]) (n := 8) (tb := 4) (t0 := 4) (S := fun n xs => S3 n xs.1 xs.2.1) (fun n => FC3 n) (fun xs hx => coinFew_val xs hx) (by kernel_rfl) (by kernel_rfl) (by kernel_rfl) (by kernel_rfl) Try.underlying4 rfl
    (fun H ds h => by match ds, h with | [d0, d1], _ => rfl) hval hW

theorem coinFew_holds : Rows.CoinFewSaid :=
  OpenClaim.holds_of_wide 3 Try.f3 rfl rfl rfl rfl rfl rfl rfl ⟨rfl, rfl, rfl, rfl, rfl⟩ rfl rfl rfl rfl rfl (by kernel_rfl) Try.func3 (by kernel_rfl)
    (of_decide_eq_true (by kernel_rfl)) (by unfold Func.isWrapper; first | (rw [if_pos (by decide +kernel)]; kernel_rfl) | (rw [if_neg (by decide +kernel)]; exact ⟨rfl, rfl⟩))
    (fun os started H enc _ => coinFew_lifted os started H enc)
#print axioms coinFew_holds
end Go.Proofs.Ytjgmfdgpgdaclaa

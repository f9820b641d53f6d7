/- The law CoinPaid returns true at every argument. -/
import Derived.Test.YtjgmfdgpgdaclaaRows
import Derived.ProofKit
import Derived.Test.YtjgmfdgpgdaclaaQCoinPaid1
set_option linter.unusedVariables false
set_option linter.unusedSimpArgs false
namespace Go.Proofs.Ytjgmfdgpgdaclaa
open Go.ChangeShapes Go.WideShapes Go.ChangeAt Go.RowKit Go.Vi

theorem coinPaid_val (xs : pksDen (pks [.sl (.int .i64), .sl (.int .i64), .int .i64])) (h : WfL [.sl (.int .i64), .sl (.int .i64), .int .i64] xs) : ∃ n, S6 n xs.1 xs.2.1 xs.2.2.1 = some true := ⟨N, paid_ok xs.1 xs.2.1 xs.2.2.1⟩

set_option maxRecDepth 100000 in
theorem coinPaid_lifted (os : Os) (started : os.Started) (H : Type) (enc : TypeId × Value → H) :
    ReturnsInHanded {} Try.checked os 6 .any (Rows.coinPaidSpec.pre6 enc Try.prog Try.f6 Rows.coinPaidRow.domain false) (Rows.coinPaidSpec.post enc Try.prog Try.f6 false true false false) := by
  refine returnsInHanded_of_change (C := Try.checked) (by kernel_rfl) started (by kernel_rfl) Try.func6
    (ChangeSpec.witness6 (enc := enc) (C := Try.checked) false ⟨#[], #[.slice none 0 0, .slice none 0 0, .int .i64 0], []⟩ 8 (by kernel_rfl) (by kernel_rfl) (by kernel_rfl) (by kernel_rfl)) ?_
  intro W base args ds gs before hval hW hcnd _
  exact law_post (P := Try.prog) (ss := [.sl (.int .i64), .sl (.int .i64), .int .i64]) (n := 8) (tb := 4) (t0 := 6) (S := fun n xs => S6 n xs.1 xs.2.1 xs.2.2.1) (fun n => FC6 n) (fun xs hx => coinPaid_val xs hx) (by kernel_rfl) (by kernel_rfl) (by kernel_rfl) (by kernel_rfl) Try.underlying4 rfl
    (fun H ds h => by match ds, h with | [d0, d1, d2], _ => rfl) hval hW

theorem coinPaid_holds : Rows.CoinPaidSaid :=
  OpenClaim.holds_of_wide 6 Try.f6 rfl rfl rfl rfl rfl rfl rfl ⟨rfl, rfl, rfl, rfl, rfl⟩ rfl rfl rfl rfl rfl (by kernel_rfl) Try.func6 (by kernel_rfl)
    (of_decide_eq_true (by kernel_rfl)) (by unfold Func.isWrapper; first | (rw [if_pos (by decide +kernel)]; kernel_rfl) | (rw [if_neg (by decide +kernel)]; exact ⟨rfl, rfl⟩))
    (fun os started H enc _ => coinPaid_lifted os started H enc)
#print axioms coinPaid_holds
end Go.Proofs.Ytjgmfdgpgdaclaa

/- The law CoinPurse: what a purse pays: all payments are tried. -/
import Derived.Test.YtjgmfdgpgdaclaaRows
import Derived.ProofKit
import Derived.Test.YtjgmfdgpgdaclaaQCoinPurse1
set_option linter.unusedVariables false
set_option linter.unusedSimpArgs false
namespace Go.Proofs.Ytjgmfdgpgdaclaa
open Go.ChangeShapes Go.WideShapes Go.ChangeAt Go.RowKit Go.Vi
theorem coinPurse_val (xs : pksDen (pks [ShM, ShM, .int .u8])) (h : WfL [ShM, ShM, .int .u8] xs) : ∃ n, S13 n xs.1 xs.2.1 xs.2.2.1 = some true := purse_ok xs h
set_option maxRecDepth 100000 in
theorem coinPurse_lifted (os : Os) (started : os.Started) (H : Type) (enc : TypeId × Value → H) :
    ReturnsInHanded {} Try.checked os 13 .any (Rows.coinPurseSpec.pre6 enc Try.prog Try.f13 Rows.coinPurseRow.domain false) (Rows.coinPurseSpec.post enc Try.prog Try.f13 false true false false) := by
  refine returnsInHanded_of_change (C := Try.checked) (by kernel_rfl) started (by kernel_rfl) Try.func13
    (ChangeSpec.witness6 (enc := enc) (C := Try.checked) false ⟨#[], #[.agg #[.int .u8 0, .int .u8 0, .int .u8 0, .int .u8 0, .int .u8 0, .int .u8 0], .agg #[.int .u8 0, .int .u8 0, .int .u8 0, .int .u8 0, .int .u8 0, .int .u8 0], .int .u8 0], []⟩ 8 (by kernel_rfl) (by kernel_rfl) (by kernel_rfl) (by kernel_rfl)) ?_
  intro W base args ds gs before hval hW hcnd _
  exact law_post (P := Try.prog) (ss := [ShM, ShM, .int .u8]) (n := 8) (tb := 4) (t0 := 6) (S := fun n xs => S13 n xs.1 xs.2.1 xs.2.2.1) (fun n => FC13 n) (fun xs hx => coinPurse_val xs hx) (by kernel_rfl) (by kernel_rfl) (by kernel_rfl) (by kernel_rfl) Try.underlying4 rfl
    (fun H ds h => by match ds, h with | [d0, d1, d2], _ => rfl) hval hW (fun _ _ h => by cases h)
theorem coinPurse_holds : Rows.CoinPurseSaid :=
  OpenClaim.holds_of_wide 13 Try.f13 rfl rfl rfl rfl rfl rfl rfl ⟨rfl, rfl, rfl, rfl, rfl⟩ rfl rfl rfl rfl rfl (by kernel_rfl) Try.func13 (by kernel_rfl)
    (of_decide_eq_true (by kernel_rfl)) (by unfold Func.isWrapper; first | (rw [if_pos (by decide +kernel)]; kernel_rfl) | (rw [if_neg (by decide +kernel)]; exact ⟨rfl, rfl⟩))
    (fun os started H enc _ => coinPurse_lifted os started H enc)
#print axioms coinPurse_holds
end Go.Proofs.Ytjgmfdgpgdaclaa

/- The law CoinFewest returns true of all numbers of coins and sums; no condition. -/
import Derived.Test.YtjgmfdgpgdaclaaRows
import Derived.ProofKit
import Derived.Test.YtjgmfdgpgdaclaaQCoinFewest1
set_option linter.unusedVariables false
set_option linter.unusedSimpArgs false
namespace Go.Proofs.Ytjgmfdgpgdaclaa
open Go.ChangeShapes Go.WideShapes Go.ChangeAt Go.RowKit Go.Vi
theorem coinFewest_val (xs : pksDen (pks [.pair (.int .u8) (.pair (.int .u8) (.pair (.int .u8) (.pair (.int .u8) (.pair (.int .u8) (.int .u8))))), .int .u8, .int .u8])) (h : WfL [.pair (.int .u8) (.pair (.int .u8) (.pair (.int .u8) (.pair (.int .u8) (.pair (.int .u8) (.int .u8))))), .int .u8, .int .u8] xs) : ∃ n, S9 n xs.1 xs.2.1 xs.2.2.1 = some true := fewest_ok xs h
set_option maxRecDepth 100000 in
theorem coinFewest_lifted (os : Os) (started : os.Started) (H : Type) (enc : TypeId × Value → H) :
    ReturnsInHanded {} Try.checked os 9 .any (Rows.coinFewestSpec.pre6 enc Try.prog Try.f9 Rows.coinFewestRow.domain false) (Rows.coinFewestSpec.post enc Try.prog Try.f9 false true false false) := by
  refine returnsInHanded_of_change (C := Try.checked) (by kernel_rfl) started (by kernel_rfl) Try.func9
    (ChangeSpec.witness6 (enc := enc) (C := Try.checked) false ⟨#[], #[.agg #[.int .u8 0, .int .u8 0, .int .u8 0, .int .u8 0, .int .u8 0, .int .u8 0], .int .u8 0, .int .u8 0], []⟩ 8 (by kernel_rfl) (by kernel_rfl) (by kernel_rfl) (by kernel_rfl)) ?_
  intro W base args ds gs before hval hW hcnd _
  exact law_post (P := Try.prog) (ss := [.pair (.int .u8) (.pair (.int .u8) (.pair (.int .u8) (.pair (.int .u8) (.pair (.int .u8) (.int .u8))))), .int .u8, .int .u8]) (n := 8) (tb := 4) (t0 := 6) (S := fun n xs => S9 n xs.1 xs.2.1 xs.2.2.1) (fun n => FC9 n) (fun xs hx => coinFewest_val xs hx) (by kernel_rfl) (by kernel_rfl) (by kernel_rfl) (by kernel_rfl) Try.underlying4 rfl
    (fun H ds h => by match ds, h with | [d0, d1, d2], _ => rfl) hval hW
theorem coinFewest_holds : Rows.CoinFewestSaid :=
  OpenClaim.holds_of_wide 9 Try.f9 rfl rfl rfl rfl rfl rfl rfl ⟨rfl, rfl, rfl, rfl, rfl⟩ rfl rfl rfl rfl rfl (by kernel_rfl) Try.func9 (by kernel_rfl)
    (of_decide_eq_true (by kernel_rfl)) (by unfold Func.isWrapper; first | (rw [if_pos (by decide +kernel)]; kernel_rfl) | (rw [if_neg (by decide +kernel)]; exact ⟨rfl, rfl⟩))
    (fun os started H enc _ => coinFewest_lifted os started H enc)
#print axioms coinFewest_holds
end Go.Proofs.Ytjgmfdgpgdaclaa

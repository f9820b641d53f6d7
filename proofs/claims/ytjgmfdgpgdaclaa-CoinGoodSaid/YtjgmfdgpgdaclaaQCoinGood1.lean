/- Texts of this claim, joined: Ci to Ci. -/
import Derived.Test.YtjgmfdgpgdaclaaP7
/-
  Coins: the law CoinGood.
-/
set_option linter.unusedVariables false
set_option linter.unusedSimpArgs false
namespace Go.Proofs.Ytjgmfdgpgdaclaa
open Go.Vi

theorem hN : 1000 ≤ N.1 := by decide
theorem good_ok (cs : List Int) (s : Int) (p : List Int) : S4 N cs s p = some true := by
  rw [S4_D N rfl]
  unfold D4
  rw [good_eq hN, rgood_eq hN, why_eq hN, rwhy_eq hN, prov_eq hN, rprov_eq hN, works_eq]
  simp only [Option.bind_some, beq_self_eq_true, cond_true]
  generalize decide ((cs.length : Int) > 40) = x
  generalize decide ((p.length : Int) > 40) = y
  cases x <;> cases y <;> rfl
#print axioms good_ok
end Go.Proofs.Ytjgmfdgpgdaclaa

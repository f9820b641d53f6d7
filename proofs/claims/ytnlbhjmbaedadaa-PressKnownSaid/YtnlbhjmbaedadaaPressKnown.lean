/- The law PressKnown returns true: it has no argument; no condition. -/
import Derived.Test.YtnlbhjmbaedadaaRows
import Derived.ProofKit
import Derived.Test.YtnlbhjmbaedadaaP7
set_option linter.unusedVariables false
set_option linter.unusedSimpArgs false
namespace Go.Proofs.Ytnlbhjmbaedadaa
open Go.ChangeShapes Go.WideShapes Go.ChangeAt Go.RowKit Go.Vi

theorem pressKnown_val : S11 (10000, 1) = some true := by
  rw [S11_D (10000, 1) rfl]
  kernel_rfl

set_option maxRecDepth 100000 in
theorem pressKnown_lifted (os : Os) (started : os.Started) (H : Type) (enc : TypeId × Value → H) :
    ReturnsInHanded {} Try.checked os 11 .any (Rows.pressKnownSpec.pre6 enc Try.prog Try.f11 Rows.pressKnownRow.domain false) (Rows.pressKnownSpec.post enc Try.prog Try.f11 false true false false) := by
  refine returnsInHanded_of_change (C := Try.checked) (by kernel_rfl) started (by kernel_rfl) Try.func11
    (ChangeSpec.witness6 (enc := enc) (C := Try.checked) false ⟨#[], #[], []⟩ 8 (by kernel_rfl) (by kernel_rfl) (by kernel_rfl) (by kernel_rfl)) ?_
  intro W base args ds gs before hval hW hcnd _
  exact law_post (P := Try.prog) (ss := []) (n := 8) (tb := 4) (t0 := 0) (S := fun n xs => S11 n) (fun n => FC11 n) (fun xs _ => ⟨(10000, 1), pressKnown_val⟩) (by kernel_rfl) (by kernel_rfl) (by kernel_rfl) (by kernel_rfl) Try.underlying4 rfl
    (fun H ds h => by match ds, h with | [], _ => rfl) hval hW

theorem pressKnown_holds : Rows.PressKnownSaid :=
  OpenClaim.holds_of_wide 11 Try.f11 rfl rfl rfl rfl rfl rfl rfl ⟨rfl, rfl, rfl, rfl, rfl⟩ rfl rfl rfl rfl rfl (by kernel_rfl) Try.func11 (by kernel_rfl)
    (of_decide_eq_true (by kernel_rfl)) (by unfold Func.isWrapper; first | (rw [if_pos (by decide +kernel)]; kernel_rfl) | (rw [if_neg (by decide +kernel)]; exact ⟨rfl, rfl⟩))
    (fun os started H enc _ => pressKnown_lifted os started H enc)
#print axioms pressKnown_holds
end Go.Proofs.Ytnlbhjmbaedadaa

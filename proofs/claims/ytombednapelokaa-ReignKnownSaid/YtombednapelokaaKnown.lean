/- The law ReignKnown returns true: whatever the input (it has none). -/
import Derived.Test.YtombednapelokaaRows
import Derived.Test.YtombednapelokaaViX
import Derived.Test.YtombednapelokaaLG9
import Derived.ProofKit
namespace Go.Proofs.Ytombednapelokaa
open Go.ChangeShapes Go.WideShapes Go.ChangeAt Go.RowKit Go.Vi

theorem known_val : S9 (1000, 1) = some true := by
  rw [S9_D (1000, 1) rfl]
  kernel_rfl

set_option maxRecDepth 100000 in
theorem reignKnown_lifted (os : Os) (started : os.Started) (H : Type) (enc : TypeId × Value → H) :
    ReturnsInHanded {} Try.checked os 9 .any (Rows.reignKnownSpec.pre6 enc Try.prog Try.f9 Rows.reignKnownRow.domain false) (Rows.reignKnownSpec.post enc Try.prog Try.f9 false true false false) := by
  refine returnsInHanded_of_change (C := Try.checked) (by kernel_rfl) started (by kernel_rfl) Try.func9
    (ChangeSpec.witness6 (enc := enc) (C := Try.checked) false ⟨#[], #[], []⟩ 8 (by kernel_rfl) (by kernel_rfl) (by kernel_rfl) (by kernel_rfl)) ?_
  intro W base args ds gs before hval hW hcnd _
  exact law_post (P := Try.prog) (ss := []) (n := 8) (tb := 4) (t0 := 0) (S := fun n xs => S9 n) (fun n => FC9 n) (fun xs _ => ⟨(1000, 1), known_val⟩) (by kernel_rfl) (by kernel_rfl) (by kernel_rfl) (by kernel_rfl) Try.underlying4 rfl
    (fun H ds h => by match ds, h with | [], _ => rfl) hval hW

theorem reignKnown_holds : Rows.ReignKnownSaid :=
  OpenClaim.holds_of_wide 9 Try.f9 rfl rfl rfl rfl rfl rfl rfl ⟨rfl, rfl, rfl, rfl, rfl⟩ rfl rfl rfl rfl rfl (by kernel_rfl) Try.func9 (by kernel_rfl)
    (of_decide_eq_true (by kernel_rfl)) (by unfold Func.isWrapper; first | (rw [if_pos (by decide +kernel)]; kernel_rfl) | (rw [if_neg (by decide +kernel)]; exact ⟨rfl, rfl⟩))
    (fun os started H enc _ => reignKnown_lifted os started H enc)
#print axioms reignKnown_holds
end Go.Proofs.Ytombednapelokaa

/- The law ReignProofs returns true, whatever the input: no condition. -/
import Derived.Test.YtombednapelokaaRows
import Derived.Test.YtombednapelokaaViX
import Derived.Test.YtombednapelokaaLG5
import Derived.Test.YtombednapelokaaMp
import Derived.ProofKit
set_option linter.unusedVariables false
set_option linter.unusedSimpArgs false
namespace Go.Proofs.Ytombednapelokaa
open Go.ChangeShapes Go.WideShapes Go.ChangeAt Go.RowKit Go.Vi

abbrev N1 : Nat × Nat := (100000000000000000000, 1)

theorem works_val1 : D18 N1 = some true := by kernel_rfl

theorem proofs_val (l : List Src) (v : List Frc) : D5 N1 l v = some true := by
  unfold D5
  simp only [orB, Option.bind_some]
  by_cases h40 : (l.length : Int) > 40 ∨ (v.length : Int) > 40
  · rw [show (decide ((l.length : Int) > 40) || decide ((v.length : Int) > 40)) = true by simpa using h40, cond_true, works_val1]
    rfl
  · have hl : l.length ≤ 40 := by omega
    have hv : v.length ≤ 40 := by omega
    rw [show (decide ((l.length : Int) > 40) || decide ((v.length : Int) > 40)) = false by simp; omega, cond_false]
    obtain ⟨e, e1, e2⟩ := proves_eq (n := N1) (by decide) l hv hl
    rw [e1, copy_eq (n := N1) (by decide) hl, copyv_eq (n := N1) (by decide) hv]
    simp only [Option.bind_some]
    rw [e2, works_val1]
    simp

theorem reignProofs_val (xs : pksDen (pks [.sl (.pair (.int .i64) (.int .i64)), .sl (.pair (.int .i64) (.int .i64))])) (h : WfL [.sl (.pair (.int .i64) (.int .i64)), .sl (.pair (.int .i64) (.int .i64))] xs) : ∃ n, S5 n xs.1 xs.2.1 = some true :=
  ⟨N1, by rw [S5_D N1 rfl]; exact proofs_val xs.1 xs.2.1⟩

set_option maxRecDepth 100000 in
theorem reignProofs_lifted (os : Os) (started : os.Started) (H : Type) (enc : TypeId × Value → H) :
    ReturnsInHanded {} Try.checked os 5 .any (Rows.reignProofsSpec.pre6 enc Try.prog Try.f5 Rows.reignProofsRow.domain false) (Rows.reignProofsSpec.post enc Try.prog Try.f5 false true false false) := by
  refine returnsInHanded_of_change (C := Try.checked) (by kernel_rfl) started (by kernel_rfl) Try.func5
    (ChangeSpec.witness6 (enc := enc) (C := Try.checked) false ⟨#[], #[.slice none 0 0, .slice none 0 0], []⟩ 8 (by kernel_rfl) (by kernel_rfl) (by kernel_rfl) (by kernel_rfl)) ?_
  intro W base args ds gs before hval hW hcnd _
  exact law_post (P := Try.prog) (ss := [.sl (.pair (.int .i64) (.int .i64)), .sl (.pair (.int .i64) (.int .i64))]) (n := 8) (tb := 4) (t0 := 4) (S := fun n xs => S5 n xs.1 xs.2.1) (fun n => FC5 n) (fun xs hx => reignProofs_val xs hx) (by kernel_rfl) (by kernel_rfl) (by kernel_rfl) (by kernel_rfl) Try.underlying4 rfl
    (fun H ds h => by match ds, h with | [d0, d1], _ => rfl) hval hW

theorem reignProofs_holds : Rows.ReignProofsSaid :=
  OpenClaim.holds_of_wide 5 Try.f5 rfl rfl rfl rfl rfl rfl rfl ⟨rfl, rfl, rfl, rfl, rfl⟩ rfl rfl rfl rfl rfl (by kernel_rfl) Try.func5 (by kernel_rfl)
    (of_decide_eq_true (by kernel_rfl)) (by unfold Func.isWrapper; first | (rw [if_pos (by decide +kernel)]; kernel_rfl) | (rw [if_neg (by decide +kernel)]; exact ⟨rfl, rfl⟩))
    (fun os started H enc _ => reignProofs_lifted os started H enc)
end Go.Proofs.Ytombednapelokaa

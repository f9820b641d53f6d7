/- The law ReignMeans returns true, whatever the input: no condition. -/
import Derived.Test.YtombednapelokaaRows
import Derived.Test.YtombednapelokaaViX
import Derived.Test.YtombednapelokaaLG3
import Derived.Test.YtombednapelokaaMc
import Derived.ProofKit
set_option linter.unusedVariables false
set_option linter.unusedSimpArgs false
namespace Go.Proofs.Ytombednapelokaa
open Go.ChangeShapes Go.WideShapes Go.ChangeAt Go.RowKit Go.Vi

abbrev N0 : Nat × Nat := (4611686018427387904, 1)

theorem works_val : D18 N0 = some true := by kernel_rfl

theorem means_eq (l : List Src) (b e : Int) : D3 N0 l b e = some true := by
  unfold D3
  by_cases h40 : (l.length : Int) > 40
  · rw [decide_eq_true h40, cond_true, works_val]
    rfl
  · have hl : l.length ≤ 40 := by omega
    rw [decide_eq_false h40, cond_false, copy_eq (by decide) hl]
    obtain ⟨r1, f1, f2⟩ := falls_eq (n := N0) (by decide) l
    obtain ⟨r2, m1, m2⟩ := meanf_eq (n := N0) (by decide) l b e
    obtain ⟨r3, h1, h2, _⟩ := high_eq (n := N0) (by decide) l b
    obtain ⟨r4, l1, l2, _⟩ := low_eq (n := N0) (by decide) l e
    have c1 := chk_eq (n := N0) (by decide) l
    have c2 := chkr_eq (n := N0) (by decide) l
    simp only [Option.bind_some, f1, f2, m1, m2, h1, h2, l1, l2, c1, c2, works_val, bne_self_eq_false, beq_self_eq_true, Bool.and_self, Bool.not_true, cond_true, cond_false]

theorem reignMeans_val (xs : pksDen (pks [.sl (.pair (.int .i64) (.int .i64)), .int .i64, .int .i64])) (h : WfL [.sl (.pair (.int .i64) (.int .i64)), .int .i64, .int .i64] xs) : ∃ n, S3 n xs.1 xs.2.1 xs.2.2.1 = some true :=
  ⟨N0, by rw [S3_D N0 rfl]; exact means_eq xs.1 xs.2.1 xs.2.2.1⟩

set_option maxRecDepth 100000 in
theorem reignMeans_lifted (os : Os) (started : os.Started) (H : Type) (enc : TypeId × Value → H) :
    ReturnsInHanded {} Try.checked os 3 .any (Rows.reignMeansSpec.pre6 enc Try.prog Try.f3 Rows.reignMeansRow.domain false) (Rows.reignMeansSpec.post enc Try.prog Try.f3 false true false false) := by
  refine returnsInHanded_of_change (C := Try.checked) (by kernel_rfl) started (by kernel_rfl) Try.func3
    (ChangeSpec.witness6 (enc := enc) (C := Try.checked) false ⟨#[], #[.slice none 0 0, .int .i64 0, .int .i64 0], []⟩ 8 (by kernel_rfl) (by kernel_rfl) (by kernel_rfl) (by kernel_rfl)) ?_
  intro W base args ds gs before hval hW hcnd _
  exact law_post (P := Try.prog) (ss := [.sl (.pair (.int .i64) (.int .i64)), .int .i64, .int .i64]) (n := 8) (tb := 4) (t0 := 6) (S := fun n xs => S3 n xs.1 xs.2.1 xs.2.2.1) (fun n => FC3 n) (fun xs hx => reignMeans_val xs hx) (by kernel_rfl) (by kernel_rfl) (by kernel_rfl) (by kernel_rfl) Try.underlying4 rfl
    (fun H ds h => by match ds, h with | [d0, d1, d2], _ => rfl) hval hW

theorem reignMeans_holds : Rows.ReignMeansSaid :=
  OpenClaim.holds_of_wide 3 Try.f3 rfl rfl rfl rfl rfl rfl rfl ⟨rfl, rfl, rfl, rfl, rfl⟩ rfl rfl rfl rfl rfl (by kernel_rfl) Try.func3 (by kernel_rfl)
    (of_decide_eq_true (by kernel_rfl)) (by unfold Func.isWrapper; first | (rw [if_pos (by decide +kernel)]; kernel_rfl) | (rw [if_neg (by decide +kernel)]; exact ⟨rfl, rfl⟩))
    (fun os started H enc _ => reignMeans_lifted os started H enc)
end Go.Proofs.Ytombednapelokaa

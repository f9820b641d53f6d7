/- The law SheetBounds returns true of all jobs, plans and numbers; no condition beyond the row's. -/
import Derived.Test.YtgmonagekfjnmaaDoorRows
import Derived.Test.YtgmonagekfjnmaaDoorCards
import Derived.Test.YtgmonagekfjnmaaDoorTie
import Derived.ProofKit
import Derived.SevenTiedAt
import Derived.Test.YtgmonagekfjnmaaDoorQSheetBoundsCard2
set_option linter.unusedVariables false
set_option linter.unusedSimpArgs false
namespace Go.Proofs.YtgmonagekfjnmaaDoor
open Go.ChangeShapes Go.WideShapes Go.ChangeAt Go.RowKit Go.Vi
theorem sheetBounds_val (xs : pksDen (pks [.int .i64, .sl (.int .i64), .sl (.int .i64), .int .i64])) (h : WfL [.int .i64, .sl (.int .i64), .sl (.int .i64), .int .i64] xs) : ∃ n, S6 n xs.1 xs.2.1 xs.2.2.1 xs.2.2.2.1 = some true := ⟨N, bounds_ok xs.1 xs.2.1 xs.2.2.1 xs.2.2.2.1⟩
set_option maxRecDepth 100000 in
theorem sheetBounds_lifted (os : Os) (started : os.Started) (H : Type) (enc : TypeId × Value → H) :
    ReturnsInHanded {} Tryd.checked os 6 .any (fun w args => (Rows.sheetBoundsSpec.pre enc Tryd.prog Tryd.f6 [] false w args ∧ laidMet Tryd.prog Rows.sheetBoundsRow.laid w) ∧ sizedMet enc Tryd.prog Tryd.f6 (OpenSpec.ofChange Rows.sheetBoundsSpec) false w args)
      (Rows.sheetBoundsSpec.post enc Tryd.prog Tryd.f6 false true false false) := by
  refine returnsInHanded_of_change_and (C := Tryd.checked) (X := fun w _ => laidMet Tryd.prog Rows.sheetBoundsRow.laid w) (fun _ _ _ hh h => h.of_heap hh) (by kernel_rfl) started (by kernel_rfl) Tryd.func6
    (ChangeSpec.witness_at (enc := enc) (C := Tryd.checked) (os := os) (X := fun w _ => laidMet Tryd.prog Rows.sheetBoundsRow.laid w) false (laidWorld os) #[.int .i64 0, .slice none 0 0, .slice none 0 0, .int .i64 0] 8 rfl (by kernel_rfl) (by kernel_rfl) (by kernel_rfl) (by kernel_rfl) (by kernel_rfl) (laidWorld_met os _)) ?_
  intro W base args ds gs before hval hW hcnd _ hL _
  exact law_post (P := Tryd.prog) (ss := [.int .i64, .sl (.int .i64), .sl (.int .i64), .int .i64]) (n := 8) (tb := 4) (t0 := 8) (S := fun n xs => S6 n xs.1 xs.2.1 xs.2.2.1 xs.2.2.2.1) (fun n => FC6 n) (fun xs hx => sheetBounds_val xs hx) (by kernel_rfl) (by kernel_rfl) (by kernel_rfl) (by kernel_rfl) Tryd.underlying4 rfl
    (fun H ds h => by match ds, h with | [d0, d1, d2, d3], _ => rfl) hval hW (globs_ok hL)
theorem sheetBounds_holds : Rows.SheetBoundsSaid :=
  OpenClaim.holds_of_wide 6 Tryd.f6 rfl rfl rfl rfl rfl rfl rfl ⟨rfl, rfl, rfl, rfl, rfl⟩ rfl rfl rfl rfl rfl (by kernel_rfl) Tryd.func6 (by kernel_rfl)
    (of_decide_eq_true (by kernel_rfl)) (by unfold Func.isWrapper; first | (rw [if_pos (by decide +kernel)]; kernel_rfl) | (rw [if_neg (by decide +kernel)]; exact ⟨rfl, rfl⟩))
    (fun os started H enc _ => sheetBounds_lifted os started H enc)
theorem sheetBoundsCard_holds : Rows.SheetBoundsCardSaid :=
  Claim7.holds_tied_plain_at .later [] [.data] true (true, "840c485b999cbaa68443e014a5beddb2fd0b36fabf2df12c9a4f864b1d453cf6") false
    sheetBounds_holds (fun _ h => by cases h) (by kernel_rfl) (fun _ h => by cases h) sheetBounds_row_tie rfl ⟨rfl, rfl⟩ (by kernel_rfl) rfl
    (fun f fn hf hfn => by
      obtain rfl : f = 6 := Option.some.inj ((show Tryd.prog.funcNamed "headword/headwordlaw09.SheetBounds" = some 6 by kernel_rfl).symm.trans hf) |>.symm
      obtain rfl : fn = Tryd.f6 := (Option.some.inj (Tryd.func6.symm.trans hfn)).symm
      exact ⟨by kernel_rfl, fun j t ht => by
        have h := List.all_eq_true.1 (show (Tryd.f6.params.toList.all fun t => !Tryd.prog.wantsStandIn t) = true by kernel_rfl) t (Array.mem_toList_iff.2 (Array.mem_of_getElem? ht))
        exact (show Tryd.prog.wantsStandIn t = false by simpa using h)⟩)
    (by kernel_rfl)
#print axioms sheetBoundsCard_holds
end Go.Proofs.YtgmonagekfjnmaaDoor

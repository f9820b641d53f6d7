/- The law SheetFits returns true of all sizes, pieces and orders; no condition beyond the row's. -/
import Derived.Test.YtgmonagekfjnmaaDoorRows
import Derived.Test.YtgmonagekfjnmaaDoorCards
import Derived.Test.YtgmonagekfjnmaaDoorTie
import Derived.ProofKit
import Derived.SevenTiedAt
import Derived.Test.YtgmonagekfjnmaaDoorQSheetFitsCard2
set_option linter.unusedVariables false
set_option linter.unusedSimpArgs false
namespace Go.Proofs.YtgmonagekfjnmaaDoor
open Go.ChangeShapes Go.WideShapes Go.ChangeAt Go.RowKit Go.Vi
theorem sheetFits_val (xs : pksDen (pks [.int .i64, .sl (.int .i64), .sl (.int .i64)])) (h : WfL [.int .i64, .sl (.int .i64), .sl (.int .i64)] xs) : ∃ n, S4 n xs.1 xs.2.1 xs.2.2.1 = some true := ⟨N, fits_ok xs.1 xs.2.1 xs.2.2.1⟩
set_option maxRecDepth 100000 in
theorem sheetFits_lifted (os : Os) (started : os.Started) (H : Type) (enc : TypeId × Value → H) :
    ReturnsInHanded {} Tryd.checked os 4 .any (fun w args => (Rows.sheetFitsSpec.pre enc Tryd.prog Tryd.f4 [] false w args ∧ laidMet Tryd.prog Rows.sheetFitsRow.laid w) ∧ sizedMet enc Tryd.prog Tryd.f4 (OpenSpec.ofChange Rows.sheetFitsSpec) false w args)
      (Rows.sheetFitsSpec.post enc Tryd.prog Tryd.f4 false true false false) := by
  refine returnsInHanded_of_change_and (C := Tryd.checked) (X := fun w _ => laidMet Tryd.prog Rows.sheetFitsRow.laid w) (fun _ _ _ hh h => h.of_heap hh) (by kernel_rfl) started (by kernel_rfl) Tryd.func4
    (ChangeSpec.witness_at (enc := enc) (C := Tryd.checked) (os := os) (X := fun w _ => laidMet Tryd.prog Rows.sheetFitsRow.laid w) false (laidWorld os) #[.int .i64 0, .slice none 0 0, .slice none 0 0] 8 rfl (by kernel_rfl) (by kernel_rfl) (by kernel_rfl) (by kernel_rfl) (by kernel_rfl) (laidWorld_met os _)) ?_
  intro W base args ds gs before hval hW hcnd _ hL _
  exact law_post (P := Tryd.prog) (ss := [.int .i64, .sl (.int .i64), .sl (.int .i64)]) (n := 8) (tb := 4) (t0 := 6) (S := fun n xs => S4 n xs.1 xs.2.1 xs.2.2.1) (fun n => FC4 n) (fun xs hx => sheetFits_val xs hx) (by kernel_rfl) (by kernel_rfl) (by kernel_rfl) (by kernel_rfl) Tryd.underlying4 rfl
    (fun H ds h => by match ds, h with | [d0, d1, d2], _ => rfl) hval hW (globs_ok hL)
theorem sheetFits_holds : Rows.SheetFitsSaid :=
  OpenClaim.holds_of_wide 4 Tryd.f4 rfl rfl rfl rfl rfl rfl rfl ⟨rfl, rfl, rfl, rfl, rfl⟩ rfl rfl rfl rfl rfl (by kernel_rfl) Tryd.func4 (by kernel_rfl)
    (of_decide_eq_true (by kernel_rfl)) (by unfold Func.isWrapper; first | (rw [if_pos (by decide +kernel)]; kernel_rfl) | (rw [if_neg (by decide +kernel)]; exact ⟨rfl, rfl⟩))
    (fun os started H enc _ => sheetFits_lifted os started H enc)
theorem sheetFitsCard_holds : Rows.SheetFitsCardSaid :=
  Claim7.holds_tied_plain_at .later [] [.data] true (true, "840c485b999cbaa68443e014a5beddb2fd0b36fabf2df12c9a4f864b1d453cf6") false
    sheetFits_holds (fun _ h => by cases h) (by kernel_rfl) (fun _ h => by cases h) sheetFits_row_tie rfl ⟨rfl, rfl⟩ (by kernel_rfl) rfl
    (fun f fn hf hfn => by
      obtain rfl : f = 4 := Option.some.inj ((show Tryd.prog.funcNamed "headword/headwordlaw09.SheetFits" = some 4 by kernel_rfl).symm.trans hf) |>.symm
      obtain rfl : fn = Tryd.f4 := (Option.some.inj (Tryd.func4.symm.trans hfn)).symm
      exact ⟨by kernel_rfl, fun j t ht => by
        have h := List.all_eq_true.1 (show (Tryd.f4.params.toList.all fun t => !Tryd.prog.wantsStandIn t) = true by kernel_rfl) t (Array.mem_toList_iff.2 (Array.mem_of_getElem? ht))
        exact (show Tryd.prog.wantsStandIn t = false by simpa using h)⟩)
    (by kernel_rfl)
#print axioms sheetFitsCard_holds
end Go.Proofs.YtgmonagekfjnmaaDoor

/- The law SheetKnown (the chapter's examples) returns true; no condition beyond the row's. -/
import Derived.Test.YtgmonagekfjnmaaDoorRows
import Derived.Test.YtgmonagekfjnmaaDoorCards
import Derived.Test.YtgmonagekfjnmaaDoorTie
import Derived.ProofKit
import Derived.SevenTiedAt
import Derived.Test.YtgmonagekfjnmaaDoorQSheetKnownCard1
set_option linter.unusedVariables false
set_option linter.unusedSimpArgs false
namespace Go.Proofs.YtgmonagekfjnmaaDoor
open Go.ChangeShapes Go.WideShapes Go.ChangeAt Go.RowKit Go.Vi

theorem sheetKnown_val : S13 (10000, 1) = some true := by
  rw [S13_D (10000, 1) rfl]
  exact known_eq

set_option maxRecDepth 100000 in
theorem sheetKnown_lifted (os : Os) (started : os.Started) (H : Type) (enc : TypeId × Value → H) :
    ReturnsInHanded {} Tryd.checked os 13 .any (fun w args => (Rows.sheetKnownSpec.pre enc Tryd.prog Tryd.f13 [] false w args ∧ laidMet Tryd.prog Rows.sheetKnownRow.laid w) ∧ sizedMet enc Tryd.prog Tryd.f13 (OpenSpec.ofChange Rows.sheetKnownSpec) false w args)
      (Rows.sheetKnownSpec.post enc Tryd.prog Tryd.f13 false true false false) := by
  refine returnsInHanded_of_change_and (C := Tryd.checked) (X := fun w _ => laidMet Tryd.prog Rows.sheetKnownRow.laid w) (fun _ _ _ hh h => h.of_heap hh) (by kernel_rfl) started (by kernel_rfl) Tryd.func13
    (ChangeSpec.witness_at (enc := enc) (C := Tryd.checked) (os := os) (X := fun w _ => laidMet Tryd.prog Rows.sheetKnownRow.laid w) false (laidWorld os) #[] 8 rfl (by kernel_rfl) (by kernel_rfl) (by kernel_rfl) (by kernel_rfl) (by kernel_rfl) (laidWorld_met os _)) ?_
  intro W base args ds gs before hval hW hcnd _ hL _
  exact law_post (P := Tryd.prog) (ss := []) (n := 8) (tb := 4) (t0 := 0) (S := fun n xs => S13 n) (fun n => FC13 n) (fun xs _ => ⟨(10000, 1), sheetKnown_val⟩) (by kernel_rfl) (by kernel_rfl) (by kernel_rfl) (by kernel_rfl) Tryd.underlying4 rfl
    (fun H ds h => by match ds, h with | [], _ => rfl) hval hW (globs_ok hL)

theorem sheetKnown_holds : Rows.SheetKnownSaid :=
  OpenClaim.holds_of_wide 13 Tryd.f13 rfl rfl rfl rfl rfl rfl rfl ⟨rfl, rfl, rfl, rfl, rfl⟩ rfl rfl rfl rfl rfl (by kernel_rfl) Tryd.func13 (by kernel_rfl)
    (of_decide_eq_true (by kernel_rfl)) (by unfold Func.isWrapper; first | (rw [if_pos (by decide +kernel)]; kernel_rfl) | (rw [if_neg (by decide +kernel)]; exact ⟨rfl, rfl⟩))
    (fun os started H enc _ => sheetKnown_lifted os started H enc)
theorem sheetKnownCard_holds : Rows.SheetKnownCardSaid :=
  Claim7.holds_tied_plain_at .later [] [.data] true (true, "840c485b999cbaa68443e014a5beddb2fd0b36fabf2df12c9a4f864b1d453cf6") false
    sheetKnown_holds (fun _ h => by cases h) (by kernel_rfl) (fun _ h => by cases h) sheetKnown_row_tie rfl ⟨rfl, rfl⟩ (by kernel_rfl) rfl
    (fun f fn hf hfn => by
      obtain rfl : f = 13 := Option.some.inj ((show Tryd.prog.funcNamed "headword/headwordlaw09.SheetKnown" = some 13 by kernel_rfl).symm.trans hf) |>.symm
      obtain rfl : fn = Tryd.f13 := (Option.some.inj (Tryd.func13.symm.trans hfn)).symm
      exact ⟨by kernel_rfl, fun j t ht => by
        have h := List.all_eq_true.1 (show (Tryd.f13.params.toList.all fun t => !Tryd.prog.wantsStandIn t) = true by kernel_rfl) t (Array.mem_toList_iff.2 (Array.mem_of_getElem? ht))
        exact (show Tryd.prog.wantsStandIn t = false by simpa using h)⟩)
    (by kernel_rfl)
#print axioms sheetKnownCard_holds
end Go.Proofs.YtgmonagekfjnmaaDoor

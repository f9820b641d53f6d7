/- The law SheetGroups returns true of all jobs, orders and turns by numbers; no condition beyond the row's. -/
import Derived.Test.YtgmonagekfjnmaaDoorRows
import Derived.Test.YtgmonagekfjnmaaDoorCards
import Derived.Test.YtgmonagekfjnmaaDoorTie
import Derived.ProofKit
import Derived.SevenTiedAt
import Derived.Test.YtgmonagekfjnmaaDoorQSheetGroupsCard2
set_option linter.unusedVariables false
set_option linter.unusedSimpArgs false
namespace Go.Proofs.YtgmonagekfjnmaaDoor
open Go.ChangeShapes Go.WideShapes Go.ChangeAt Go.RowKit Go.Vi
theorem sheetGroups_val (xs : pksDen (pks [ShS, ShB, .int .u8])) (h : WfL [ShS, ShB, .int .u8] xs) : ∃ n, S15 n xs.1 xs.2.1 xs.2.2.1 = some true := ⟨N, groups_ok (stp_ok h.1) (b8_ok h.2.1) (by_wf h.2.2.1)⟩
set_option maxRecDepth 100000 in
theorem sheetGroups_lifted (os : Os) (started : os.Started) (H : Type) (enc : TypeId × Value → H) :
    ReturnsInHanded {} Tryd.checked os 15 .any (fun w args => (Rows.sheetGroupsSpec.pre enc Tryd.prog Tryd.f15 [] false w args ∧ laidMet Tryd.prog Rows.sheetGroupsRow.laid w) ∧ sizedMet enc Tryd.prog Tryd.f15 (OpenSpec.ofChange Rows.sheetGroupsSpec) false w args)
      (Rows.sheetGroupsSpec.post enc Tryd.prog Tryd.f15 false true false false) := by
  refine returnsInHanded_of_change_and (C := Tryd.checked) (X := fun w _ => laidMet Tryd.prog Rows.sheetGroupsRow.laid w) (fun _ _ _ hh h => h.of_heap hh) (by kernel_rfl) started (by kernel_rfl) Tryd.func15
    (ChangeSpec.witness_at (enc := enc) (C := Tryd.checked) (os := os) (X := fun w _ => laidMet Tryd.prog Rows.sheetGroupsRow.laid w) false (laidWorld os) #[.agg #[.int .u8 0, .int .u8 0, .int .u8 0, .int .u8 0, .int .u8 0, .int .u8 0, .int .u8 0, .int .u8 0, .int .u8 0, .int .u8 0, .int .u8 0], .agg #[.int .u8 0, .int .u8 0, .int .u8 0, .int .u8 0, .int .u8 0, .int .u8 0, .int .u8 0, .int .u8 0], .int .u8 0] 8 rfl (by kernel_rfl) (by kernel_rfl) (by kernel_rfl) (by kernel_rfl) (by kernel_rfl) (laidWorld_met os _)) ?_
  intro W base args ds gs before hval hW hcnd _ hL _
  exact law_post (P := Tryd.prog) (ss := [ShS, ShB, .int .u8]) (n := 8) (tb := 4) (t0 := 6) (S := fun n xs => S15 n xs.1 xs.2.1 xs.2.2.1) (fun n => FC15 n) (fun xs hx => sheetGroups_val xs hx) (by kernel_rfl) (by kernel_rfl) (by kernel_rfl) (by kernel_rfl) Tryd.underlying4 rfl
    (fun H ds h => by match ds, h with | [d0, d1, d2], _ => rfl) hval hW (globs_ok hL)
theorem sheetGroups_holds : Rows.SheetGroupsSaid :=
  OpenClaim.holds_of_wide 15 Tryd.f15 rfl rfl rfl rfl rfl rfl rfl ⟨rfl, rfl, rfl, rfl, rfl⟩ rfl rfl rfl rfl rfl (by kernel_rfl) Tryd.func15 (by kernel_rfl)
    (of_decide_eq_true (by kernel_rfl)) (by unfold Func.isWrapper; first | (rw [if_pos (by decide +kernel)]; kernel_rfl) | (rw [if_neg (by decide +kernel)]; exact ⟨rfl, rfl⟩))
    (fun os started H enc _ => sheetGroups_lifted os started H enc)
theorem sheetGroupsCard_holds : Rows.SheetGroupsCardSaid :=
  Claim7.holds_tied_plain_at .later [] [.data] true (true, "840c485b999cbaa68443e014a5beddb2fd0b36fabf2df12c9a4f864b1d453cf6") false
    sheetGroups_holds (fun _ h => by cases h) (by kernel_rfl) (fun _ h => by cases h) sheetGroups_row_tie rfl ⟨rfl, rfl⟩ (by kernel_rfl) rfl
    (fun f fn hf hfn => by
      obtain rfl : f = 15 := Option.some.inj ((show Tryd.prog.funcNamed "headword/headwordlaw09.SheetGroups" = some 15 by kernel_rfl).symm.trans hf) |>.symm
      obtain rfl : fn = Tryd.f15 := (Option.some.inj (Tryd.func15.symm.trans hfn)).symm
      exact ⟨by kernel_rfl, fun j t ht => by
        have h := List.all_eq_true.1 (show (Tryd.f15.params.toList.all fun t => !Tryd.prog.wantsStandIn t) = true by kernel_rfl) t (Array.mem_toList_iff.2 (Array.mem_of_getElem? ht))
        exact (show Tryd.prog.wantsStandIn t = false by simpa using h)⟩)
    (by kernel_rfl)
#print axioms sheetGroupsCard_holds
end Go.Proofs.YtgmonagekfjnmaaDoor

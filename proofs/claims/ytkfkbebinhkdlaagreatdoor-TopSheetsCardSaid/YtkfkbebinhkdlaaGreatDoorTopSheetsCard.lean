/- The law TopSheets returns true of all pieces; no condition. -/
import Derived.Test.YtkfkbebinhkdlaaGreatDoorRows
import Derived.Test.YtkfkbebinhkdlaaGreatDoorCards
import Derived.Test.YtkfkbebinhkdlaaGreatDoorTie
import Derived.ProofKit
import Derived.SevenTiedAt
import Derived.Test.YtkfkbebinhkdlaaGreatDoorQTopSheetsCard8
set_option linter.unusedVariables false
set_option linter.unusedSimpArgs false
namespace Go.Proofs.YtkfkbebinhkdlaaGreatDoor
open Go.ChangeShapes Go.WideShapes Go.ChangeAt Go.RowKit Go.Vi
theorem topSheets_val (xs : pksDen (pks [.int .u8, .int .u8, .int .u8, Sht.ShP])) (h : WfL [.int .u8, .int .u8, .int .u8, Sht.ShP] xs) : ∃ n, S3 n xs.1 xs.2.1 xs.2.2.1 xs.2.2.2.1 = some true := ⟨Sht.N, by rw [S3_D Sht.N rfl]; exact Sht.sheets_all _ _ _ _ (by_u8 h.1) (by_u8 h.2.1) h.2.2.2.1⟩
set_option maxRecDepth 100000 in
theorem topSheets_lifted (os : Os) (started : os.Started) (H : Type) (enc : TypeId × Value → H) :
    ReturnsInHanded {} Tryz.checked os 3 .any (fun w args => (Rows.topSheetsSpec.pre enc Tryz.prog Tryz.f3 [] false w args ∧ laidMet Tryz.prog Rows.topSheetsRow.laid w) ∧ sizedMet enc Tryz.prog Tryz.f3 (OpenSpec.ofChange Rows.topSheetsSpec) false w args)
      (Rows.topSheetsSpec.post enc Tryz.prog Tryz.f3 false true false false) := by
  refine returnsInHanded_of_change_and (C := Tryz.checked) (X := fun w _ => laidMet Tryz.prog Rows.topSheetsRow.laid w) (fun _ _ _ hh h => h.of_heap hh) (by kernel_rfl) started (by kernel_rfl) Tryz.func3
    (ChangeSpec.witness_at (enc := enc) (C := Tryz.checked) (os := os) (X := fun w _ => laidMet Tryz.prog Rows.topSheetsRow.laid w) false (laidWorld os) #[.int .u8 0, .int .u8 0, .int .u8 0, .agg #[.int .u8 0, .int .u8 0, .int .u8 0, .int .u8 0, .int .u8 0, .int .u8 0, .int .u8 0, .int .u8 0]] 8 rfl (by kernel_rfl) (by kernel_rfl) (by kernel_rfl) (by kernel_rfl) (by kernel_rfl) (laidWorld_met os _)) ?_
  intro W base args ds gs before hval hW hcnd _ hL _
  exact law_post (P := Tryz.prog) (ss := [.int .u8, .int .u8, .int .u8, Sht.ShP]) (n := 8) (tb := 4) (t0 := 8) (S := fun n xs => S3 n xs.1 xs.2.1 xs.2.2.1 xs.2.2.2.1) (fun n => FC3 n) (fun xs hx => topSheets_val xs hx) (by kernel_rfl) (by kernel_rfl) (by kernel_rfl) (by kernel_rfl) Tryz.underlying4 rfl
    (fun H ds h => by match ds, h with | [d0, d1, d2, d3], _ => rfl) hval hW (globs_ok hL)
theorem topSheets_holds : Rows.TopSheetsSaid :=
  OpenClaim.holds_of_wide 3 Tryz.f3 rfl rfl rfl rfl rfl rfl rfl ⟨rfl, rfl, rfl, rfl, rfl⟩ rfl rfl rfl rfl rfl (by kernel_rfl) Tryz.func3 (by kernel_rfl)
    (of_decide_eq_true (by kernel_rfl)) (by unfold Func.isWrapper; first | (rw [if_pos (by decide +kernel)]; kernel_rfl) | (rw [if_neg (by decide +kernel)]; exact ⟨rfl, rfl⟩))
    (fun os started H enc _ => topSheets_lifted os started H enc)
theorem topSheetsCard_holds : Rows.TopSheetsCardSaid :=
  Claim7.holds_tied_plain_at .later [] [.data, .data, .data] true (true, "50bbc867b87c12bbcce5adb75e9370e8d566b1f11b34106fdbc5dede74f08446") false
    topSheets_holds (fun _ h => by cases h) (by kernel_rfl) (fun _ h => by cases h) topSheets_row_tie rfl ⟨rfl, rfl⟩ (by kernel_rfl) rfl
    (fun f fn hf hfn => by
      obtain rfl : f = 3 := Option.some.inj ((show Tryz.prog.funcNamed "headword/headwordtop.TopSheets" = some 3 by kernel_rfl).symm.trans hf) |>.symm
      obtain rfl : fn = Tryz.f3 := (Option.some.inj (Tryz.func3.symm.trans hfn)).symm
      exact ⟨by kernel_rfl, fun j t ht => by
        have h := List.all_eq_true.1 (show (Tryz.f3.params.toList.all fun t => !Tryz.prog.wantsStandIn t) = true by kernel_rfl) t (Array.mem_toList_iff.2 (Array.mem_of_getElem? ht))
        exact (show Tryz.prog.wantsStandIn t = false by simpa using h)⟩)
    (by kernel_rfl)
#print axioms topSheetsCard_holds
end Go.Proofs.YtkfkbebinhkdlaaGreatDoor

/- The law TopChains returns true of all kinds and sums; no condition. -/
import Derived.Test.YtkfkbebinhkdlaaGreatDoorRows
import Derived.Test.YtkfkbebinhkdlaaGreatDoorCards
import Derived.Test.YtkfkbebinhkdlaaGreatDoorTie
import Derived.ProofKit
import Derived.SevenTiedAt
import Derived.Test.YtkfkbebinhkdlaaGreatDoorQTopChainsCard8
set_option linter.unusedVariables false
set_option linter.unusedSimpArgs false
namespace Go.Proofs.YtkfkbebinhkdlaaGreatDoor
open Go.ChangeShapes Go.WideShapes Go.ChangeAt Go.RowKit Go.Vi
theorem topChains_val (xs : pksDen (pks [.int .u8, .int .u8])) (h : WfL [.int .u8, .int .u8] xs) : ∃ n, S4 n xs.1 xs.2.1 = some true := ⟨M, by rw [S4_D M rfl]; exact chains_ok _ _ (by_u8 h.1) (by_u8 h.2.1)⟩
set_option maxRecDepth 100000 in
theorem topChains_lifted (os : Os) (started : os.Started) (H : Type) (enc : TypeId × Value → H) :
    ReturnsInHanded {} Tryz.checked os 4 .any (fun w args => (Rows.topChainsSpec.pre enc Tryz.prog Tryz.f4 [] false w args ∧ laidMet Tryz.prog Rows.topChainsRow.laid w) ∧ sizedMet enc Tryz.prog Tryz.f4 (OpenSpec.ofChange Rows.topChainsSpec) false w args)
      (Rows.topChainsSpec.post enc Tryz.prog Tryz.f4 false true false false) := by
  refine returnsInHanded_of_change_and (C := Tryz.checked) (X := fun w _ => laidMet Tryz.prog Rows.topChainsRow.laid w) (fun _ _ _ hh h => h.of_heap hh) (by kernel_rfl) started (by kernel_rfl) Tryz.func4
    (ChangeSpec.witness_at (enc := enc) (C := Tryz.checked) (os := os) (X := fun w _ => laidMet Tryz.prog Rows.topChainsRow.laid w) false (laidWorld os) #[.int .u8 0, .int .u8 0] 8 rfl (by kernel_rfl) (by kernel_rfl) (by kernel_rfl) (by kernel_rfl) (by kernel_rfl) (laidWorld_met os _)) ?_
  intro W base args ds gs before hval hW hcnd _ hL _
  exact law_post (P := Tryz.prog) (ss := [.int .u8, .int .u8]) (n := 8) (tb := 4) (t0 := 4) (S := fun n xs => S4 n xs.1 xs.2.1) (fun n => FC4 n) (fun xs hx => topChains_val xs hx) (by kernel_rfl) (by kernel_rfl) (by kernel_rfl) (by kernel_rfl) Tryz.underlying4 rfl
    (fun H ds h => by match ds, h with | [d0, d1], _ => rfl) hval hW (globs_ok hL)
theorem topChains_holds : Rows.TopChainsSaid :=
  OpenClaim.holds_of_wide 4 Tryz.f4 rfl rfl rfl rfl rfl rfl rfl ⟨rfl, rfl, rfl, rfl, rfl⟩ rfl rfl rfl rfl rfl (by kernel_rfl) Tryz.func4 (by kernel_rfl)
    (of_decide_eq_true (by kernel_rfl)) (by unfold Func.isWrapper; first | (rw [if_pos (by decide +kernel)]; kernel_rfl) | (rw [if_neg (by decide +kernel)]; exact ⟨rfl, rfl⟩))
    (fun os started H enc _ => topChains_lifted os started H enc)
theorem topChainsCard_holds : Rows.TopChainsCardSaid :=
  Claim7.holds_tied_plain_at .later [] [.data, .data, .data] true (true, "50bbc867b87c12bbcce5adb75e9370e8d566b1f11b34106fdbc5dede74f08446") false
    topChains_holds (fun _ h => by cases h) (by kernel_rfl) (fun _ h => by cases h) topChains_row_tie rfl ⟨rfl, rfl⟩ (by kernel_rfl) rfl
    (fun f fn hf hfn => by
      obtain rfl : f = 4 := Option.some.inj ((show Tryz.prog.funcNamed "headword/headwordtop.TopChains" = some 4 by kernel_rfl).symm.trans hf) |>.symm
      obtain rfl : fn = Tryz.f4 := (Option.some.inj (Tryz.func4.symm.trans hfn)).symm
      exact ⟨by kernel_rfl, fun j t ht => by
        have h := List.all_eq_true.1 (show (Tryz.f4.params.toList.all fun t => !Tryz.prog.wantsStandIn t) = true by kernel_rfl) t (Array.mem_toList_iff.2 (Array.mem_of_getElem? ht))
        exact (show Tryz.prog.wantsStandIn t = false by simpa using h)⟩)
    (by kernel_rfl)
#print axioms topChainsCard_holds
end Go.Proofs.YtkfkbebinhkdlaaGreatDoor

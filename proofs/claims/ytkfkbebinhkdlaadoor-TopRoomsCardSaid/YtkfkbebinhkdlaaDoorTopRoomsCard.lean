/- The law TopRooms returns true of all orders of visits; no condition. -/
import Derived.Test.YtkfkbebinhkdlaaDoorRows
import Derived.Test.YtkfkbebinhkdlaaDoorCards
import Derived.Test.YtkfkbebinhkdlaaDoorTie
import Derived.ProofKit
import Derived.SevenTiedAt
import Derived.Test.YtkfkbebinhkdlaaDoorQTopRoomsCard8
set_option linter.unusedVariables false
set_option linter.unusedSimpArgs false
namespace Go.Proofs.YtkfkbebinhkdlaaDoor
open Go.ChangeShapes Go.WideShapes Go.ChangeAt Go.RowKit Go.Vi
theorem topRooms_val (xs : pksDen (pks [.int .u8, ShR])) (h : WfL [.int .u8, ShR] xs) : ∃ n, S4 n xs.1 xs.2.1 = some true := ⟨M, by rw [S4_D M rfl]; exact rooms_ok _ _ (by_u8 h.1) h.2.1⟩
set_option maxRecDepth 100000 in
theorem topRooms_lifted (os : Os) (started : os.Started) (H : Type) (enc : TypeId × Value → H) :
    ReturnsInHanded {} Tryd.checked os 4 .any (fun w args => (Rows.topRoomsSpec.pre enc Tryd.prog Tryd.f4 [] false w args ∧ laidMet Tryd.prog Rows.topRoomsRow.laid w) ∧ sizedMet enc Tryd.prog Tryd.f4 (OpenSpec.ofChange Rows.topRoomsSpec) false w args)
      (Rows.topRoomsSpec.post enc Tryd.prog Tryd.f4 false true false false) := by
  refine returnsInHanded_of_change_and (C := Tryd.checked) (X := fun w _ => laidMet Tryd.prog Rows.topRoomsRow.laid w) (fun _ _ _ hh h => h.of_heap hh) (by kernel_rfl) started (by kernel_rfl) Tryd.func4
    (ChangeSpec.witness_at (enc := enc) (C := Tryd.checked) (os := os) (X := fun w _ => laidMet Tryd.prog Rows.topRoomsRow.laid w) false (laidWorld os) #[.int .u8 0, .agg #[.int .u8 0, .int .u8 0, .int .u8 0, .int .u8 0, .int .u8 0, .int .u8 0, .int .u8 0, .int .u8 0, .int .u8 0, .int .u8 0, .int .u8 0, .int .u8 0]] 8 rfl (by kernel_rfl) (by kernel_rfl) (by kernel_rfl) (by kernel_rfl) (by kernel_rfl) (laidWorld_met os _)) ?_
  intro W base args ds gs before hval hW hcnd _ hL _
  exact law_post (P := Tryd.prog) (ss := [.int .u8, ShR]) (n := 8) (tb := 4) (t0 := 4) (S := fun n xs => S4 n xs.1 xs.2.1) (fun n => FC4 n) (fun xs hx => topRooms_val xs hx) (by kernel_rfl) (by kernel_rfl) (by kernel_rfl) (by kernel_rfl) Tryd.underlying4 rfl
    (fun H ds h => by match ds, h with | [d0, d1], _ => rfl) hval hW (globs_ok hL)
theorem topRooms_holds : Rows.TopRoomsSaid :=
  OpenClaim.holds_of_wide 4 Tryd.f4 rfl rfl rfl rfl rfl rfl rfl ⟨rfl, rfl, rfl, rfl, rfl⟩ rfl rfl rfl rfl rfl (by kernel_rfl) Tryd.func4 (by kernel_rfl)
    (of_decide_eq_true (by kernel_rfl)) (by unfold Func.isWrapper; first | (rw [if_pos (by decide +kernel)]; kernel_rfl) | (rw [if_neg (by decide +kernel)]; exact ⟨rfl, rfl⟩))
    (fun os started H enc _ => topRooms_lifted os started H enc)
theorem topRoomsCard_holds : Rows.TopRoomsCardSaid :=
  Claim7.holds_tied_plain_at .later [] [.data, .data] true (true, "8820e409831485ac6dc7d1cc14e2e2a2dde494c8043dd54eff90b878ba994e21") true
    topRooms_holds (fun _ h => by cases h) (by kernel_rfl) (fun _ h => by cases h) topRooms_row_tie rfl ⟨rfl, rfl⟩ (by kernel_rfl) rfl
    (fun f fn hf hfn => by
      obtain rfl : f = 4 := Option.some.inj ((show Tryd.prog.funcNamed "headword/headwordtop.TopRooms" = some 4 by kernel_rfl).symm.trans hf) |>.symm
      obtain rfl : fn = Tryd.f4 := (Option.some.inj (Tryd.func4.symm.trans hfn)).symm
      exact ⟨by kernel_rfl, fun j t ht => by
        have h := List.all_eq_true.1 (show (Tryd.f4.params.toList.all fun t => !Tryd.prog.wantsStandIn t) = true by kernel_rfl) t (Array.mem_toList_iff.2 (Array.mem_of_getElem? ht))
        exact (show Tryd.prog.wantsStandIn t = false by simpa using h)⟩)
    (by kernel_rfl)
#print axioms topRoomsCard_holds
end Go.Proofs.YtkfkbebinhkdlaaDoor

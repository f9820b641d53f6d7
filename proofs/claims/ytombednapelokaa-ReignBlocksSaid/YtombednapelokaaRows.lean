/-
  No cell of these rows narrows 'for every input' (looked for: loops, veiled, ifaces, maps, wideKeys, modest, calm, conditions, laid).
  DERIVED. THE GIVEN ROWS OF THIS SEAT. 15 by the template 'for every input the law returns true; each argument reads behind the call as it read before'; 0 by the template 'total and deterministic' (their statements: YtombednapelokaaTotals.lean).
  GIVEN WITH THE SEED: the statements are not yours to turn. If you find one false, say at which input.
  Laid BY PROGRAM, IN A SANDBOX (cutbox-rows.mjs): the forced cells as the released guide's own fill.sh prints them over the translation 4b6307582713c5b7… (all of the seat's roots in one cut). By AI agents, Wed Nov 11 2026. No macro, syntax, notation, axiom, sorry.
-/
import Derived.Test.YtombednapelokaaChecked
import GoSem.Claim
import GoSem.ClaimJoined
import GoSem.ClaimMapViews
import Derived.JoinedTies
import Derived.KernelRfl
namespace Go.Proofs.Ytombednapelokaa
/- THE CELL 'sum', in the pinned program and in every row, IS THE sha256 OF THE DUMP (.gsa) THAT YtombednapelokaaProg.lean LOADS. Nothing in Lean hashes anything: it is a label: what it is worth is what the hold of that sum in a sandbox is worth. -/
noncomputable def Try.pinned : Pinned := { name := "ytombednapelokaa", sum := "4b6307582713c5b7c4f65f684a48680fbb2a4c71a490c648996c52bfac748e1d", checked := Try.checked }
namespace Rows
def none {H : Type} : Left H := { results := [], args := [] }

/-- 'headwordlaw08.ReignMeans': WHATEVER THE INPUT: true; the input reads as it did. -/
def reignMeansSpec : ChangeSpec := { name := "reignMeans", fn := fun _ => fun
  | [d1, d2, d3] => { results := [.lit (.bool true)], args := [d1, d2, d3] }
  | _ => none }
def reignMeansRow : OpenClaim := { program := "ytombednapelokaa", sum := "4b6307582713c5b7c4f65f684a48680fbb2a4c71a490c648996c52bfac748e1d", func := "headword/headwordlaw08.ReignMeans", spec := "reignMeans", unfollowed := true, recurses := true, apart := false }
def ReignMeansSaid : Prop := reignMeansRow.holds Try.pinned (OpenSpec.ofChange reignMeansSpec)

/-- ITS FALSE NEIGHBOUR: 'it returns false'. Refute it at one input. -/
def reignMeansWrong : ChangeSpec := { name := "reignMeans", fn := fun _ => fun
  | [d1, d2, d3] => { results := [.lit (.bool false)], args := [d1, d2, d3] }
  | _ => none }
def ReignMeansWrongFalsely : Prop := reignMeansRow.holds Try.pinned (OpenSpec.ofChange reignMeansWrong)

/-- 'headwordlaw08.ReignNear': WHATEVER THE INPUT: true; the input reads as it did. -/
def reignNearSpec : ChangeSpec := { name := "reignNear", fn := fun _ => fun
  | [d] => { results := [.lit (.bool true)], args := [d] }
  | _ => none }
def reignNearRow : OpenClaim := { program := "ytombednapelokaa", sum := "4b6307582713c5b7c4f65f684a48680fbb2a4c71a490c648996c52bfac748e1d", func := "headword/headwordlaw08.ReignNear", spec := "reignNear", unfollowed := true, recurses := true, apart := false }
def ReignNearSaid : Prop := reignNearRow.holds Try.pinned (OpenSpec.ofChange reignNearSpec)

/-- ITS FALSE NEIGHBOUR: 'it returns false'. Refute it at one input. -/
def reignNearWrong : ChangeSpec := { name := "reignNear", fn := fun _ => fun
  | [d] => { results := [.lit (.bool false)], args := [d] }
  | _ => none }
def ReignNearWrongFalsely : Prop := reignNearRow.holds Try.pinned (OpenSpec.ofChange reignNearWrong)

/-- 'headwordlaw08.ReignProofs': WHATEVER THE INPUT: true; the input reads as it did. -/
def reignProofsSpec : ChangeSpec := { name := "reignProofs", fn := fun _ => fun
  | [d1, d2] => { results := [.lit (.bool true)], args := [d1, d2] }
  | _ => none }
def reignProofsRow : OpenClaim := { program := "ytombednapelokaa", sum := "4b6307582713c5b7c4f65f684a48680fbb2a4c71a490c648996c52bfac748e1d", func := "headword/headwordlaw08.ReignProofs", spec := "reignProofs", unfollowed := true, recurses := true, apart := false }
def ReignProofsSaid : Prop := reignProofsRow.holds Try.pinned (OpenSpec.ofChange reignProofsSpec)

/-- ITS FALSE NEIGHBOUR: 'it returns false'. Refute it at one input. -/
def reignProofsWrong : ChangeSpec := { name := "reignProofs", fn := fun _ => fun
  | [d1, d2] => { results := [.lit (.bool false)], args := [d1, d2] }
  | _ => none }
def ReignProofsWrongFalsely : Prop := reignProofsRow.holds Try.pinned (OpenSpec.ofChange reignProofsWrong)

/-- 'headwordlaw08.ReignEnds': WHATEVER THE INPUT: true; the input reads as it did. -/
def reignEndsSpec : ChangeSpec := { name := "reignEnds", fn := fun _ => fun
  | [d1, d2, d3] => { results := [.lit (.bool true)], args := [d1, d2, d3] }
  | _ => none }
def reignEndsRow : OpenClaim := { program := "ytombednapelokaa", sum := "4b6307582713c5b7c4f65f684a48680fbb2a4c71a490c648996c52bfac748e1d", func := "headword/headwordlaw08.ReignEnds", spec := "reignEnds", unfollowed := true, recurses := true, apart := false }
def ReignEndsSaid : Prop := reignEndsRow.holds Try.pinned (OpenSpec.ofChange reignEndsSpec)

/-- ITS FALSE NEIGHBOUR: 'it returns false'. Refute it at one input. -/
def reignEndsWrong : ChangeSpec := { name := "reignEnds", fn := fun _ => fun
  | [d1, d2, d3] => { results := [.lit (.bool false)], args := [d1, d2, d3] }
  | _ => none }
def ReignEndsWrongFalsely : Prop := reignEndsRow.holds Try.pinned (OpenSpec.ofChange reignEndsWrong)

/-- 'headwordlaw08.ReignSums': WHATEVER THE INPUT: true; the input reads as it did. -/
def reignSumsSpec : ChangeSpec := { name := "reignSums", fn := fun _ => fun
  | [d1, d2, d3] => { results := [.lit (.bool true)], args := [d1, d2, d3] }
  | _ => none }
def reignSumsRow : OpenClaim := { program := "ytombednapelokaa", sum := "4b6307582713c5b7c4f65f684a48680fbb2a4c71a490c648996c52bfac748e1d", func := "headword/headwordlaw08.ReignSums", spec := "reignSums", unfollowed := true, recurses := true, apart := false }
def ReignSumsSaid : Prop := reignSumsRow.holds Try.pinned (OpenSpec.ofChange reignSumsSpec)

/-- ITS FALSE NEIGHBOUR: 'it returns false'. Refute it at one input. -/
def reignSumsWrong : ChangeSpec := { name := "reignSums", fn := fun _ => fun
  | [d1, d2, d3] => { results := [.lit (.bool false)], args := [d1, d2, d3] }
  | _ => none }
def ReignSumsWrongFalsely : Prop := reignSumsRow.holds Try.pinned (OpenSpec.ofChange reignSumsWrong)

/-- 'headwordlaw08.ReignShifted': WHATEVER THE INPUT: true; the input reads as it did. -/
def reignShiftedSpec : ChangeSpec := { name := "reignShifted", fn := fun _ => fun
  | [d1, d2] => { results := [.lit (.bool true)], args := [d1, d2] }
  | _ => none }
def reignShiftedRow : OpenClaim := { program := "ytombednapelokaa", sum := "4b6307582713c5b7c4f65f684a48680fbb2a4c71a490c648996c52bfac748e1d", func := "headword/headwordlaw08.ReignShifted", spec := "reignShifted", unfollowed := true, recurses := true, apart := false }
def ReignShiftedSaid : Prop := reignShiftedRow.holds Try.pinned (OpenSpec.ofChange reignShiftedSpec)

/-- ITS FALSE NEIGHBOUR: 'it returns false'. Refute it at one input. -/
def reignShiftedWrong : ChangeSpec := { name := "reignShifted", fn := fun _ => fun
  | [d1, d2] => { results := [.lit (.bool false)], args := [d1, d2] }
  | _ => none }
def ReignShiftedWrongFalsely : Prop := reignShiftedRow.holds Try.pinned (OpenSpec.ofChange reignShiftedWrong)

/-- 'headwordlaw08.ReignKnown': WHATEVER THE INPUT: true; the input reads as it did. -/
def reignKnownSpec : ChangeSpec := { name := "reignKnown", fn := fun _ => fun
  | [] => { results := [.lit (.bool true)], args := [] }
  | _ => none }
def reignKnownRow : OpenClaim := { program := "ytombednapelokaa", sum := "4b6307582713c5b7c4f65f684a48680fbb2a4c71a490c648996c52bfac748e1d", func := "headword/headwordlaw08.ReignKnown", spec := "reignKnown", unfollowed := true, recurses := true, apart := false }
def ReignKnownSaid : Prop := reignKnownRow.holds Try.pinned (OpenSpec.ofChange reignKnownSpec)

/-- ITS FALSE NEIGHBOUR: 'it returns false'. Refute it at one input. -/
def reignKnownWrong : ChangeSpec := { name := "reignKnown", fn := fun _ => fun
  | [] => { results := [.lit (.bool false)], args := [] }
  | _ => none }
def ReignKnownWrongFalsely : Prop := reignKnownRow.holds Try.pinned (OpenSpec.ofChange reignKnownWrong)

/-- 'headwordlaw08.ReignMore': WHATEVER THE INPUT: true; the input reads as it did. -/
def reignMoreSpec : ChangeSpec := { name := "reignMore", fn := fun _ => fun
  | [d1, d2, d3] => { results := [.lit (.bool true)], args := [d1, d2, d3] }
  | _ => none }
def reignMoreRow : OpenClaim := { program := "ytombednapelokaa", sum := "4b6307582713c5b7c4f65f684a48680fbb2a4c71a490c648996c52bfac748e1d", func := "headword/headwordlaw08.ReignMore", spec := "reignMore", unfollowed := true, recurses := true, apart := false }
def ReignMoreSaid : Prop := reignMoreRow.holds Try.pinned (OpenSpec.ofChange reignMoreSpec)

/-- ITS FALSE NEIGHBOUR: 'it returns false'. Refute it at one input. -/
def reignMoreWrong : ChangeSpec := { name := "reignMore", fn := fun _ => fun
  | [d1, d2, d3] => { results := [.lit (.bool false)], args := [d1, d2, d3] }
  | _ => none }
def ReignMoreWrongFalsely : Prop := reignMoreRow.holds Try.pinned (OpenSpec.ofChange reignMoreWrong)

/-- 'headwordlaw08.ReignTurned': WHATEVER THE INPUT: true; the input reads as it did. -/
def reignTurnedSpec : ChangeSpec := { name := "reignTurned", fn := fun _ => fun
  | [d] => { results := [.lit (.bool true)], args := [d] }
  | _ => none }
def reignTurnedRow : OpenClaim := { program := "ytombednapelokaa", sum := "4b6307582713c5b7c4f65f684a48680fbb2a4c71a490c648996c52bfac748e1d", func := "headword/headwordlaw08.ReignTurned", spec := "reignTurned", unfollowed := true, recurses := true, apart := false }
def ReignTurnedSaid : Prop := reignTurnedRow.holds Try.pinned (OpenSpec.ofChange reignTurnedSpec)

/-- ITS FALSE NEIGHBOUR: 'it returns false'. Refute it at one input. -/
def reignTurnedWrong : ChangeSpec := { name := "reignTurned", fn := fun _ => fun
  | [d] => { results := [.lit (.bool false)], args := [d] }
  | _ => none }
def ReignTurnedWrongFalsely : Prop := reignTurnedRow.holds Try.pinned (OpenSpec.ofChange reignTurnedWrong)

/-- 'headwordlaw08.ReignWrong': WHATEVER THE INPUT: true; the input reads as it did. -/
def reignWrongSpec : ChangeSpec := { name := "reignWrong", fn := fun _ => fun
  | [d1, d2] => { results := [.lit (.bool true)], args := [d1, d2] }
  | _ => none }
def reignWrongRow : OpenClaim := { program := "ytombednapelokaa", sum := "4b6307582713c5b7c4f65f684a48680fbb2a4c71a490c648996c52bfac748e1d", func := "headword/headwordlaw08.ReignWrong", spec := "reignWrong", unfollowed := true, recurses := true, apart := false }
def ReignWrongSaid : Prop := reignWrongRow.holds Try.pinned (OpenSpec.ofChange reignWrongSpec)

/-- ITS FALSE NEIGHBOUR: 'it returns false'. Refute it at one input. -/
def reignWrongWrong : ChangeSpec := { name := "reignWrong", fn := fun _ => fun
  | [d1, d2] => { results := [.lit (.bool false)], args := [d1, d2] }
  | _ => none }
def ReignWrongWrongFalsely : Prop := reignWrongRow.holds Try.pinned (OpenSpec.ofChange reignWrongWrong)

/-- 'headwordlaw08.ReignFormula': WHATEVER THE INPUT: true; the input reads as it did. -/
def reignFormulaSpec : ChangeSpec := { name := "reignFormula", fn := fun _ => fun
  | [d] => { results := [.lit (.bool true)], args := [d] }
  | _ => none }
def reignFormulaRow : OpenClaim := { program := "ytombednapelokaa", sum := "4b6307582713c5b7c4f65f684a48680fbb2a4c71a490c648996c52bfac748e1d", func := "headword/headwordlaw08.ReignFormula", spec := "reignFormula", unfollowed := true, recurses := true, apart := false }
def ReignFormulaSaid : Prop := reignFormulaRow.holds Try.pinned (OpenSpec.ofChange reignFormulaSpec)

/-- ITS FALSE NEIGHBOUR: 'it returns false'. Refute it at one input. -/
def reignFormulaWrong : ChangeSpec := { name := "reignFormula", fn := fun _ => fun
  | [d] => { results := [.lit (.bool false)], args := [d] }
  | _ => none }
def ReignFormulaWrongFalsely : Prop := reignFormulaRow.holds Try.pinned (OpenSpec.ofChange reignFormulaWrong)

/-- 'headwordlaw08.ReignCost': WHATEVER THE INPUT: true; the input reads as it did. -/
def reignCostSpec : ChangeSpec := { name := "reignCost", fn := fun _ => fun
  | [d1, d2, d3] => { results := [.lit (.bool true)], args := [d1, d2, d3] }
  | _ => none }
def reignCostRow : OpenClaim := { program := "ytombednapelokaa", sum := "4b6307582713c5b7c4f65f684a48680fbb2a4c71a490c648996c52bfac748e1d", func := "headword/headwordlaw08.ReignCost", spec := "reignCost", unfollowed := true, recurses := true, apart := false }
def ReignCostSaid : Prop := reignCostRow.holds Try.pinned (OpenSpec.ofChange reignCostSpec)

/-- ITS FALSE NEIGHBOUR: 'it returns false'. Refute it at one input. -/
def reignCostWrong : ChangeSpec := { name := "reignCost", fn := fun _ => fun
  | [d1, d2, d3] => { results := [.lit (.bool false)], args := [d1, d2, d3] }
  | _ => none }
def ReignCostWrongFalsely : Prop := reignCostRow.holds Try.pinned (OpenSpec.ofChange reignCostWrong)

/-- 'headwordlaw08.ReignBounded': WHATEVER THE INPUT: true; the input reads as it did. -/
def reignBoundedSpec : ChangeSpec := { name := "reignBounded", fn := fun _ => fun
  | [d1, d2, d3] => { results := [.lit (.bool true)], args := [d1, d2, d3] }
  | _ => none }
def reignBoundedRow : OpenClaim := { program := "ytombednapelokaa", sum := "4b6307582713c5b7c4f65f684a48680fbb2a4c71a490c648996c52bfac748e1d", func := "headword/headwordlaw08.ReignBounded", spec := "reignBounded", unfollowed := true, recurses := true, apart := false }
def ReignBoundedSaid : Prop := reignBoundedRow.holds Try.pinned (OpenSpec.ofChange reignBoundedSpec)

/-- ITS FALSE NEIGHBOUR: 'it returns false'. Refute it at one input. -/
def reignBoundedWrong : ChangeSpec := { name := "reignBounded", fn := fun _ => fun
  | [d1, d2, d3] => { results := [.lit (.bool false)], args := [d1, d2, d3] }
  | _ => none }
def ReignBoundedWrongFalsely : Prop := reignBoundedRow.holds Try.pinned (OpenSpec.ofChange reignBoundedWrong)

/-- 'headwordlaw08.ReignShown': WHATEVER THE INPUT: true; the input reads as it did. -/
def reignShownSpec : ChangeSpec := { name := "reignShown", fn := fun _ => fun
  | [d1, d2, d3, d4] => { results := [.lit (.bool true)], args := [d1, d2, d3, d4] }
  | _ => none }
def reignShownRow : OpenClaim := { program := "ytombednapelokaa", sum := "4b6307582713c5b7c4f65f684a48680fbb2a4c71a490c648996c52bfac748e1d", func := "headword/headwordlaw08.ReignShown", spec := "reignShown", unfollowed := true, recurses := true, apart := false }
def ReignShownSaid : Prop := reignShownRow.holds Try.pinned (OpenSpec.ofChange reignShownSpec)

/-- ITS FALSE NEIGHBOUR: 'it returns false'. Refute it at one input. -/
def reignShownWrong : ChangeSpec := { name := "reignShown", fn := fun _ => fun
  | [d1, d2, d3, d4] => { results := [.lit (.bool false)], args := [d1, d2, d3, d4] }
  | _ => none }
def ReignShownWrongFalsely : Prop := reignShownRow.holds Try.pinned (OpenSpec.ofChange reignShownWrong)

/-- 'headwordlaw08.ReignBlocks': WHATEVER THE INPUT: true; the input reads as it did. -/
def reignBlocksSpec : ChangeSpec := { name := "reignBlocks", fn := fun _ => fun
  | [d1, d2] => { results := [.lit (.bool true)], args := [d1, d2] }
  | _ => none }
def reignBlocksRow : OpenClaim := { program := "ytombednapelokaa", sum := "4b6307582713c5b7c4f65f684a48680fbb2a4c71a490c648996c52bfac748e1d", func := "headword/headwordlaw08.ReignBlocks", spec := "reignBlocks", unfollowed := true, recurses := true, apart := false }
def ReignBlocksSaid : Prop := reignBlocksRow.holds Try.pinned (OpenSpec.ofChange reignBlocksSpec)

/-- ITS FALSE NEIGHBOUR: 'it returns false'. Refute it at one input. -/
def reignBlocksWrong : ChangeSpec := { name := "reignBlocks", fn := fun _ => fun
  | [d1, d2] => { results := [.lit (.bool false)], args := [d1, d2] }
  | _ => none }
def ReignBlocksWrongFalsely : Prop := reignBlocksRow.holds Try.pinned (OpenSpec.ofChange reignBlocksWrong)

/- THE SECOND FORM. 'bulk': how many values and letters a reading holds, each counted each time it is reached (what is shared counts as often as it is met; a slice's spare places count too). A statement '..UptoSaid' is the law's where the arguments, and the package variables that the reading takes, are together of bulk at most 1048576: NARROWER than '..Said'. Prove '..Said' where nothing that the law and all that it calls make is longer than what came in: it says more and counts as full. Else prove '..UptoSaid'. A law counts once. -/
mutual
def uptoBulk {H : Type} : DataW H → Nat
  | .lit (.string bytes) => bytes.length + 1
  | .lit _ => 1
  | .nil => 1
  | .ptr d => uptoBulk d + 1
  | .slice elems spare => uptoBulkAll elems + uptoBulkAll spare + 1
  | .agg parts => uptoBulkAll parts + 1
  | .iface _ d => uptoBulk d + 1
  | .map entries => uptoBulkEntries entries + 1
  | .held _ => 1
def uptoBulkAll {H : Type} : List (DataW H) → Nat
  | [] => 0
  | d :: r => uptoBulk d + uptoBulkAll r
def uptoBulkEntries {H : Type} : List (Lit × DataW H) → Nat
  | [] => 0
  | x :: r => uptoBulkEntry x + uptoBulkEntries r
def uptoBulkEntry {H : Type} : Lit × DataW H → Nat
  | (.string bytes, d) => bytes.length + uptoBulk d + 1
  | (_, d) => uptoBulk d + 1
 end
def uptoSmall : (H : Type) → List (DataW H) → Bool := fun _ ds => decide (uptoBulkAll ds ≤ 1048576)
def OpenSpec.upto (s : _root_.Go.ChangeSpec) : _root_.Go.OpenSpec := { _root_.Go.OpenSpec.ofChange s with cond := some uptoSmall }

/-- 'headwordlaw08.ReignMeans', WHERE WHAT IT READS IS OF BULK AT MOST 1048576: true; the input reads as it did. -/
def reignMeansUptoRow : OpenClaim := { program := "ytombednapelokaa", sum := "4b6307582713c5b7c4f65f684a48680fbb2a4c71a490c648996c52bfac748e1d", func := "headword/headwordlaw08.ReignMeans", spec := "reignMeans", unfollowed := true, recurses := true, apart := false, narrowed := true }
def ReignMeansUptoSaid : Prop := reignMeansUptoRow.holds Try.pinned (OpenSpec.upto reignMeansSpec)

/-- 'headwordlaw08.ReignNear', WHERE WHAT IT READS IS OF BULK AT MOST 1048576: true; the input reads as it did. -/
def reignNearUptoRow : OpenClaim := { program := "ytombednapelokaa", sum := "4b6307582713c5b7c4f65f684a48680fbb2a4c71a490c648996c52bfac748e1d", func := "headword/headwordlaw08.ReignNear", spec := "reignNear", unfollowed := true, recurses := true, apart := false, narrowed := true }
def ReignNearUptoSaid : Prop := reignNearUptoRow.holds Try.pinned (OpenSpec.upto reignNearSpec)

/-- 'headwordlaw08.ReignProofs', WHERE WHAT IT READS IS OF BULK AT MOST 1048576: true; the input reads as it did. -/
def reignProofsUptoRow : OpenClaim := { program := "ytombednapelokaa", sum := "4b6307582713c5b7c4f65f684a48680fbb2a4c71a490c648996c52bfac748e1d", func := "headword/headwordlaw08.ReignProofs", spec := "reignProofs", unfollowed := true, recurses := true, apart := false, narrowed := true }
def ReignProofsUptoSaid : Prop := reignProofsUptoRow.holds Try.pinned (OpenSpec.upto reignProofsSpec)

/-- 'headwordlaw08.ReignEnds', WHERE WHAT IT READS IS OF BULK AT MOST 1048576: true; the input reads as it did. -/
def reignEndsUptoRow : OpenClaim := { program := "ytombednapelokaa", sum := "4b6307582713c5b7c4f65f684a48680fbb2a4c71a490c648996c52bfac748e1d", func := "headword/headwordlaw08.ReignEnds", spec := "reignEnds", unfollowed := true, recurses := true, apart := false, narrowed := true }
def ReignEndsUptoSaid : Prop := reignEndsUptoRow.holds Try.pinned (OpenSpec.upto reignEndsSpec)

/-- 'headwordlaw08.ReignSums', WHERE WHAT IT READS IS OF BULK AT MOST 1048576: true; the input reads as it did. -/
def reignSumsUptoRow : OpenClaim := { program := "ytombednapelokaa", sum := "4b6307582713c5b7c4f65f684a48680fbb2a4c71a490c648996c52bfac748e1d", func := "headword/headwordlaw08.ReignSums", spec := "reignSums", unfollowed := true, recurses := true, apart := false, narrowed := true }
def ReignSumsUptoSaid : Prop := reignSumsUptoRow.holds Try.pinned (OpenSpec.upto reignSumsSpec)

/-- 'headwordlaw08.ReignShifted', WHERE WHAT IT READS IS OF BULK AT MOST 1048576: true; the input reads as it did. -/
def reignShiftedUptoRow : OpenClaim := { program := "ytombednapelokaa", sum := "4b6307582713c5b7c4f65f684a48680fbb2a4c71a490c648996c52bfac748e1d", func := "headword/headwordlaw08.ReignShifted", spec := "reignShifted", unfollowed := true, recurses := true, apart := false, narrowed := true }
def ReignShiftedUptoSaid : Prop := reignShiftedUptoRow.holds Try.pinned (OpenSpec.upto reignShiftedSpec)

/-- 'headwordlaw08.ReignKnown', WHERE WHAT IT READS IS OF BULK AT MOST 1048576: true; the input reads as it did. -/
def reignKnownUptoRow : OpenClaim := { program := "ytombednapelokaa", sum := "4b6307582713c5b7c4f65f684a48680fbb2a4c71a490c648996c52bfac748e1d", func := "headword/headwordlaw08.ReignKnown", spec := "reignKnown", unfollowed := true, recurses := true, apart := false, narrowed := true }
def ReignKnownUptoSaid : Prop := reignKnownUptoRow.holds Try.pinned (OpenSpec.upto reignKnownSpec)

/-- 'headwordlaw08.ReignMore', WHERE WHAT IT READS IS OF BULK AT MOST 1048576: true; the input reads as it did. -/
def reignMoreUptoRow : OpenClaim := { program := "ytombednapelokaa", sum := "4b6307582713c5b7c4f65f684a48680fbb2a4c71a490c648996c52bfac748e1d", func := "headword/headwordlaw08.ReignMore", spec := "reignMore", unfollowed := true, recurses := true, apart := false, narrowed := true }
def ReignMoreUptoSaid : Prop := reignMoreUptoRow.holds Try.pinned (OpenSpec.upto reignMoreSpec)

/-- 'headwordlaw08.ReignTurned', WHERE WHAT IT READS IS OF BULK AT MOST 1048576: true; the input reads as it did. -/
def reignTurnedUptoRow : OpenClaim := { program := "ytombednapelokaa", sum := "4b6307582713c5b7c4f65f684a48680fbb2a4c71a490c648996c52bfac748e1d", func := "headword/headwordlaw08.ReignTurned", spec := "reignTurned", unfollowed := true, recurses := true, apart := false, narrowed := true }
def ReignTurnedUptoSaid : Prop := reignTurnedUptoRow.holds Try.pinned (OpenSpec.upto reignTurnedSpec)

/-- 'headwordlaw08.ReignWrong', WHERE WHAT IT READS IS OF BULK AT MOST 1048576: true; the input reads as it did. -/
def reignWrongUptoRow : OpenClaim := { program := "ytombednapelokaa", sum := "4b6307582713c5b7c4f65f684a48680fbb2a4c71a490c648996c52bfac748e1d", func := "headword/headwordlaw08.ReignWrong", spec := "reignWrong", unfollowed := true, recurses := true, apart := false, narrowed := true }
def ReignWrongUptoSaid : Prop := reignWrongUptoRow.holds Try.pinned (OpenSpec.upto reignWrongSpec)

/-- 'headwordlaw08.ReignFormula', WHERE WHAT IT READS IS OF BULK AT MOST 1048576: true; the input reads as it did. -/
def reignFormulaUptoRow : OpenClaim := { program := "ytombednapelokaa", sum := "4b6307582713c5b7c4f65f684a48680fbb2a4c71a490c648996c52bfac748e1d", func := "headword/headwordlaw08.ReignFormula", spec := "reignFormula", unfollowed := true, recurses := true, apart := false, narrowed := true }
def ReignFormulaUptoSaid : Prop := reignFormulaUptoRow.holds Try.pinned (OpenSpec.upto reignFormulaSpec)

/-- 'headwordlaw08.ReignCost', WHERE WHAT IT READS IS OF BULK AT MOST 1048576: true; the input reads as it did. -/
def reignCostUptoRow : OpenClaim := { program := "ytombednapelokaa", sum := "4b6307582713c5b7c4f65f684a48680fbb2a4c71a490c648996c52bfac748e1d", func := "headword/headwordlaw08.ReignCost", spec := "reignCost", unfollowed := true, recurses := true, apart := false, narrowed := true }
def ReignCostUptoSaid : Prop := reignCostUptoRow.holds Try.pinned (OpenSpec.upto reignCostSpec)

/-- 'headwordlaw08.ReignBounded', WHERE WHAT IT READS IS OF BULK AT MOST 1048576: true; the input reads as it did. -/
def reignBoundedUptoRow : OpenClaim := { program := "ytombednapelokaa", sum := "4b6307582713c5b7c4f65f684a48680fbb2a4c71a490c648996c52bfac748e1d", func := "headword/headwordlaw08.ReignBounded", spec := "reignBounded", unfollowed := true, recurses := true, apart := false, narrowed := true }
def ReignBoundedUptoSaid : Prop := reignBoundedUptoRow.holds Try.pinned (OpenSpec.upto reignBoundedSpec)

/-- 'headwordlaw08.ReignShown', WHERE WHAT IT READS IS OF BULK AT MOST 1048576: true; the input reads as it did. -/
def reignShownUptoRow : OpenClaim := { program := "ytombednapelokaa", sum := "4b6307582713c5b7c4f65f684a48680fbb2a4c71a490c648996c52bfac748e1d", func := "headword/headwordlaw08.ReignShown", spec := "reignShown", unfollowed := true, recurses := true, apart := false, narrowed := true }
def ReignShownUptoSaid : Prop := reignShownUptoRow.holds Try.pinned (OpenSpec.upto reignShownSpec)

/-- 'headwordlaw08.ReignBlocks', WHERE WHAT IT READS IS OF BULK AT MOST 1048576: true; the input reads as it did. -/
def reignBlocksUptoRow : OpenClaim := { program := "ytombednapelokaa", sum := "4b6307582713c5b7c4f65f684a48680fbb2a4c71a490c648996c52bfac748e1d", func := "headword/headwordlaw08.ReignBlocks", spec := "reignBlocks", unfollowed := true, recurses := true, apart := false, narrowed := true }
def ReignBlocksUptoSaid : Prop := reignBlocksUptoRow.holds Try.pinned (OpenSpec.upto reignBlocksSpec)

end Rows
end Go.Proofs.Ytombednapelokaa

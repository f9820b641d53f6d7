/-
  No cell of these rows narrows 'for every input' (looked for: loops, veiled, ifaces, maps, wideKeys, modest, calm, conditions, laid).
  DERIVED. THE GIVEN ROWS OF THIS SEAT. 11 by the template 'for every input the law returns true; each argument reads behind the call as it read before'; 0 by the template 'total and deterministic' (their statements: YtnlbhjmbaedadaaTotals.lean).
  GIVEN WITH THE SEED: the statements are not yours to turn. If you find one false, say at which input.
  Laid BY PROGRAM, IN A SANDBOX (cutbox-rows.mjs): the forced cells as the released guide's own fill.sh prints them over the translation 4c942af7d34aa877… (all of the seat's roots in one cut). By AI agents, Wed Nov 11 2026. No macro, syntax, notation, axiom, sorry.
-/
import Derived.Test.YtnlbhjmbaedadaaChecked
import GoSem.Claim
import GoSem.ClaimJoined
import GoSem.ClaimMapViews
import Derived.JoinedTies
import Derived.KernelRfl
namespace Go.Proofs.Ytnlbhjmbaedadaa
/- THE CELL 'sum', in the pinned program and in every row, IS THE sha256 OF THE DUMP (.gsa) THAT YtnlbhjmbaedadaaProg.lean LOADS. Nothing in Lean hashes anything: it is a label: what it is worth is what the hold of that sum in a sandbox is worth. -/
noncomputable def Try.pinned : Pinned := { name := "ytnlbhjmbaedadaa", sum := "4c942af7d34aa87791d982a0b11d75a1f9efc60342d2892116a0671e05a58e06", checked := Try.checked }
namespace Rows
def none {H : Type} : Left H := { results := [], args := [] }

/-- 'headwordlaw07.PressEnds': WHATEVER THE INPUT: true; the input reads as it did. -/
def pressEndsSpec : ChangeSpec := { name := "pressEnds", fn := fun _ => fun
  | [d1, d2] => { results := [.lit (.bool true)], args := [d1, d2] }
  | _ => none }
def pressEndsRow : OpenClaim := { program := "ytnlbhjmbaedadaa", sum := "4c942af7d34aa87791d982a0b11d75a1f9efc60342d2892116a0671e05a58e06", func := "headword/headwordlaw07.PressEnds", spec := "pressEnds", unfollowed := true, recurses := true, apart := false }
def PressEndsSaid : Prop := pressEndsRow.holds Try.pinned (OpenSpec.ofChange pressEndsSpec)

/-- ITS FALSE NEIGHBOUR: 'it returns false'. Refute it at one input. -/
def pressEndsWrong : ChangeSpec := { name := "pressEnds", fn := fun _ => fun
  | [d1, d2] => { results := [.lit (.bool false)], args := [d1, d2] }
  | _ => none }
def PressEndsWrongFalsely : Prop := pressEndsRow.holds Try.pinned (OpenSpec.ofChange pressEndsWrong)

/-- 'headwordlaw07.PressOrders': WHATEVER THE INPUT: true; the input reads as it did. -/
def pressOrdersSpec : ChangeSpec := { name := "pressOrders", fn := fun _ => fun
  | [d1, d2, d3] => { results := [.lit (.bool true)], args := [d1, d2, d3] }
  | _ => none }
def pressOrdersRow : OpenClaim := { program := "ytnlbhjmbaedadaa", sum := "4c942af7d34aa87791d982a0b11d75a1f9efc60342d2892116a0671e05a58e06", func := "headword/headwordlaw07.PressOrders", spec := "pressOrders", unfollowed := true, recurses := true, apart := false }
def PressOrdersSaid : Prop := pressOrdersRow.holds Try.pinned (OpenSpec.ofChange pressOrdersSpec)

/-- ITS FALSE NEIGHBOUR: 'it returns false'. Refute it at one input. -/
def pressOrdersWrong : ChangeSpec := { name := "pressOrders", fn := fun _ => fun
  | [d1, d2, d3] => { results := [.lit (.bool false)], args := [d1, d2, d3] }
  | _ => none }
def PressOrdersWrongFalsely : Prop := pressOrdersRow.holds Try.pinned (OpenSpec.ofChange pressOrdersWrong)

/-- 'headwordlaw07.PressBounds': WHATEVER THE INPUT: true; the input reads as it did. -/
def pressBoundsSpec : ChangeSpec := { name := "pressBounds", fn := fun _ => fun
  | [d1, d2, d3, d4] => { results := [.lit (.bool true)], args := [d1, d2, d3, d4] }
  | _ => none }
def pressBoundsRow : OpenClaim := { program := "ytnlbhjmbaedadaa", sum := "4c942af7d34aa87791d982a0b11d75a1f9efc60342d2892116a0671e05a58e06", func := "headword/headwordlaw07.PressBounds", spec := "pressBounds", unfollowed := true, recurses := true, apart := false }
def PressBoundsSaid : Prop := pressBoundsRow.holds Try.pinned (OpenSpec.ofChange pressBoundsSpec)

/-- ITS FALSE NEIGHBOUR: 'it returns false'. Refute it at one input. -/
def pressBoundsWrong : ChangeSpec := { name := "pressBounds", fn := fun _ => fun
  | [d1, d2, d3, d4] => { results := [.lit (.bool false)], args := [d1, d2, d3, d4] }
  | _ => none }
def PressBoundsWrongFalsely : Prop := pressBoundsRow.holds Try.pinned (OpenSpec.ofChange pressBoundsWrong)

/-- 'headwordlaw07.PressJohnson': WHATEVER THE INPUT: true; the input reads as it did. -/
def pressJohnsonSpec : ChangeSpec := { name := "pressJohnson", fn := fun _ => fun
  | [d] => { results := [.lit (.bool true)], args := [d] }
  | _ => none }
def pressJohnsonRow : OpenClaim := { program := "ytnlbhjmbaedadaa", sum := "4c942af7d34aa87791d982a0b11d75a1f9efc60342d2892116a0671e05a58e06", func := "headword/headwordlaw07.PressJohnson", spec := "pressJohnson", unfollowed := true, recurses := true, apart := false }
def PressJohnsonSaid : Prop := pressJohnsonRow.holds Try.pinned (OpenSpec.ofChange pressJohnsonSpec)

/-- ITS FALSE NEIGHBOUR: 'it returns false'. Refute it at one input. -/
def pressJohnsonWrong : ChangeSpec := { name := "pressJohnson", fn := fun _ => fun
  | [d] => { results := [.lit (.bool false)], args := [d] }
  | _ => none }
def PressJohnsonWrongFalsely : Prop := pressJohnsonRow.holds Try.pinned (OpenSpec.ofChange pressJohnsonWrong)

/-- 'headwordlaw07.PressDone': WHATEVER THE INPUT: true; the input reads as it did. -/
def pressDoneSpec : ChangeSpec := { name := "pressDone", fn := fun _ => fun
  | [d1, d2] => { results := [.lit (.bool true)], args := [d1, d2] }
  | _ => none }
def pressDoneRow : OpenClaim := { program := "ytnlbhjmbaedadaa", sum := "4c942af7d34aa87791d982a0b11d75a1f9efc60342d2892116a0671e05a58e06", func := "headword/headwordlaw07.PressDone", spec := "pressDone", unfollowed := true, recurses := true, apart := false }
def PressDoneSaid : Prop := pressDoneRow.holds Try.pinned (OpenSpec.ofChange pressDoneSpec)

/-- ITS FALSE NEIGHBOUR: 'it returns false'. Refute it at one input. -/
def pressDoneWrong : ChangeSpec := { name := "pressDone", fn := fun _ => fun
  | [d1, d2] => { results := [.lit (.bool false)], args := [d1, d2] }
  | _ => none }
def PressDoneWrongFalsely : Prop := pressDoneRow.holds Try.pinned (OpenSpec.ofChange pressDoneWrong)

/-- 'headwordlaw07.PressTurned': WHATEVER THE INPUT: true; the input reads as it did. -/
def pressTurnedSpec : ChangeSpec := { name := "pressTurned", fn := fun _ => fun
  | [d1, d2] => { results := [.lit (.bool true)], args := [d1, d2] }
  | _ => none }
def pressTurnedRow : OpenClaim := { program := "ytnlbhjmbaedadaa", sum := "4c942af7d34aa87791d982a0b11d75a1f9efc60342d2892116a0671e05a58e06", func := "headword/headwordlaw07.PressTurned", spec := "pressTurned", unfollowed := true, recurses := true, apart := false }
def PressTurnedSaid : Prop := pressTurnedRow.holds Try.pinned (OpenSpec.ofChange pressTurnedSpec)

/-- ITS FALSE NEIGHBOUR: 'it returns false'. Refute it at one input. -/
def pressTurnedWrong : ChangeSpec := { name := "pressTurned", fn := fun _ => fun
  | [d1, d2] => { results := [.lit (.bool false)], args := [d1, d2] }
  | _ => none }
def PressTurnedWrongFalsely : Prop := pressTurnedRow.holds Try.pinned (OpenSpec.ofChange pressTurnedWrong)

/-- 'headwordlaw07.PressNamed': WHATEVER THE INPUT: true; the input reads as it did. -/
def pressNamedSpec : ChangeSpec := { name := "pressNamed", fn := fun _ => fun
  | [d1, d2] => { results := [.lit (.bool true)], args := [d1, d2] }
  | _ => none }
def pressNamedRow : OpenClaim := { program := "ytnlbhjmbaedadaa", sum := "4c942af7d34aa87791d982a0b11d75a1f9efc60342d2892116a0671e05a58e06", func := "headword/headwordlaw07.PressNamed", spec := "pressNamed", unfollowed := true, recurses := true, apart := false }
def PressNamedSaid : Prop := pressNamedRow.holds Try.pinned (OpenSpec.ofChange pressNamedSpec)

/-- ITS FALSE NEIGHBOUR: 'it returns false'. Refute it at one input. -/
def pressNamedWrong : ChangeSpec := { name := "pressNamed", fn := fun _ => fun
  | [d1, d2] => { results := [.lit (.bool false)], args := [d1, d2] }
  | _ => none }
def PressNamedWrongFalsely : Prop := pressNamedRow.holds Try.pinned (OpenSpec.ofChange pressNamedWrong)

/-- 'headwordlaw07.PressShown': WHATEVER THE INPUT: true; the input reads as it did. -/
def pressShownSpec : ChangeSpec := { name := "pressShown", fn := fun _ => fun
  | [d1, d2, d3, d4] => { results := [.lit (.bool true)], args := [d1, d2, d3, d4] }
  | _ => none }
def pressShownRow : OpenClaim := { program := "ytnlbhjmbaedadaa", sum := "4c942af7d34aa87791d982a0b11d75a1f9efc60342d2892116a0671e05a58e06", func := "headword/headwordlaw07.PressShown", spec := "pressShown", unfollowed := true, recurses := true, apart := false }
def PressShownSaid : Prop := pressShownRow.holds Try.pinned (OpenSpec.ofChange pressShownSpec)

/-- ITS FALSE NEIGHBOUR: 'it returns false'. Refute it at one input. -/
def pressShownWrong : ChangeSpec := { name := "pressShown", fn := fun _ => fun
  | [d1, d2, d3, d4] => { results := [.lit (.bool false)], args := [d1, d2, d3, d4] }
  | _ => none }
def PressShownWrongFalsely : Prop := pressShownRow.holds Try.pinned (OpenSpec.ofChange pressShownWrong)

/-- 'headwordlaw07.PressKnown': WHATEVER THE INPUT: true; the input reads as it did. -/
def pressKnownSpec : ChangeSpec := { name := "pressKnown", fn := fun _ => fun
  | [] => { results := [.lit (.bool true)], args := [] }
  | _ => none }
def pressKnownRow : OpenClaim := { program := "ytnlbhjmbaedadaa", sum := "4c942af7d34aa87791d982a0b11d75a1f9efc60342d2892116a0671e05a58e06", func := "headword/headwordlaw07.PressKnown", spec := "pressKnown", unfollowed := true, recurses := true, apart := false }
def PressKnownSaid : Prop := pressKnownRow.holds Try.pinned (OpenSpec.ofChange pressKnownSpec)

/-- ITS FALSE NEIGHBOUR: 'it returns false'. Refute it at one input. -/
def pressKnownWrong : ChangeSpec := { name := "pressKnown", fn := fun _ => fun
  | [] => { results := [.lit (.bool false)], args := [] }
  | _ => none }
def PressKnownWrongFalsely : Prop := pressKnownRow.holds Try.pinned (OpenSpec.ofChange pressKnownWrong)

/-- 'headwordlaw07.PressNeighbours': WHATEVER THE INPUT: true; the input reads as it did. -/
def pressNeighboursSpec : ChangeSpec := { name := "pressNeighbours", fn := fun _ => fun
  | [d1, d2, d3] => { results := [.lit (.bool true)], args := [d1, d2, d3] }
  | _ => none }
def pressNeighboursRow : OpenClaim := { program := "ytnlbhjmbaedadaa", sum := "4c942af7d34aa87791d982a0b11d75a1f9efc60342d2892116a0671e05a58e06", func := "headword/headwordlaw07.PressNeighbours", spec := "pressNeighbours", unfollowed := true, recurses := true, apart := false }
def PressNeighboursSaid : Prop := pressNeighboursRow.holds Try.pinned (OpenSpec.ofChange pressNeighboursSpec)

/-- ITS FALSE NEIGHBOUR: 'it returns false'. Refute it at one input. -/
def pressNeighboursWrong : ChangeSpec := { name := "pressNeighbours", fn := fun _ => fun
  | [d1, d2, d3] => { results := [.lit (.bool false)], args := [d1, d2, d3] }
  | _ => none }
def PressNeighboursWrongFalsely : Prop := pressNeighboursRow.holds Try.pinned (OpenSpec.ofChange pressNeighboursWrong)

/-- 'headwordlaw07.PressMore': WHATEVER THE INPUT: true; the input reads as it did. -/
def pressMoreSpec : ChangeSpec := { name := "pressMore", fn := fun _ => fun
  | [d1, d2, d3, d4] => { results := [.lit (.bool true)], args := [d1, d2, d3, d4] }
  | _ => none }
def pressMoreRow : OpenClaim := { program := "ytnlbhjmbaedadaa", sum := "4c942af7d34aa87791d982a0b11d75a1f9efc60342d2892116a0671e05a58e06", func := "headword/headwordlaw07.PressMore", spec := "pressMore", unfollowed := true, recurses := true, apart := false }
def PressMoreSaid : Prop := pressMoreRow.holds Try.pinned (OpenSpec.ofChange pressMoreSpec)

/-- ITS FALSE NEIGHBOUR: 'it returns false'. Refute it at one input. -/
def pressMoreWrong : ChangeSpec := { name := "pressMore", fn := fun _ => fun
  | [d1, d2, d3, d4] => { results := [.lit (.bool false)], args := [d1, d2, d3, d4] }
  | _ => none }
def PressMoreWrongFalsely : Prop := pressMoreRow.holds Try.pinned (OpenSpec.ofChange pressMoreWrong)

/- THE SECOND FORM. 'bulk': how many values and letters a reading holds, each counted each time it is reached (what is shared counts as often as it is met; a slice's spare places count too). A statement '..UptoSaid' is the law's where the arguments, and the package variables that the reading takes, are together of bulk at most 1048576: NARROWER than '..Said'. Prove '..Said' where nothing that the law and all that it calls make is longer than what came in: it says more and counts as full. Else prove '..UptoSaid'. A law counts once. -/
mutual
def uptoBulk {H : Type} : DataW H → Nat
  | .lit (.string bytes) => bytes.length + 1
  | .lit _ => 1
  | .nil => 1
  | .ptr d => uptoBulk d + 1
  | .slice elems spare => uptoBulkAll elems + uptoBulkAll spare + 1
  | .agg parts => uptoBulkAll parts + 1
  | .iface _ d => uptoBulk d + 1
  | .map entries => uptoBulkEntries entries + 1
  | .held _ => 1
def uptoBulkAll {H : Type} : List (DataW H) → Nat
  | [] => 0
  | d :: r => uptoBulk d + uptoBulkAll r
def uptoBulkEntries {H : Type} : List (Lit × DataW H) → Nat
  | [] => 0
  | x :: r => uptoBulkEntry x + uptoBulkEntries r
def uptoBulkEntry {H : Type} : Lit × DataW H → Nat
  | (.string bytes, d) => bytes.length + uptoBulk d + 1
  | (_, d) => uptoBulk d + 1
 end
def uptoSmall : (H : Type) → List (DataW H) → Bool := fun _ ds => decide (uptoBulkAll ds ≤ 1048576)
def OpenSpec.upto (s : _root_.Go.ChangeSpec) : _root_.Go.OpenSpec := { _root_.Go.OpenSpec.ofChange s with cond := some uptoSmall }

/-- 'headwordlaw07.PressEnds', WHERE WHAT IT READS IS OF BULK AT MOST 1048576: true; the input reads as it did. -/
def pressEndsUptoRow : OpenClaim := { program := "ytnlbhjmbaedadaa", sum := "4c942af7d34aa87791d982a0b11d75a1f9efc60342d2892116a0671e05a58e06", func := "headword/headwordlaw07.PressEnds", spec := "pressEnds", unfollowed := true, recurses := true, apart := false, narrowed := true }
def PressEndsUptoSaid : Prop := pressEndsUptoRow.holds Try.pinned (OpenSpec.upto pressEndsSpec)

/-- 'headwordlaw07.PressOrders', WHERE WHAT IT READS IS OF BULK AT MOST 1048576: true; the input reads as it did. -/
def pressOrdersUptoRow : OpenClaim := { program := "ytnlbhjmbaedadaa", sum := "4c942af7d34aa87791d982a0b11d75a1f9efc60342d2892116a0671e05a58e06", func := "headword/headwordlaw07.PressOrders", spec := "pressOrders", unfollowed := true, recurses := true, apart := false, narrowed := true }
def PressOrdersUptoSaid : Prop := pressOrdersUptoRow.holds Try.pinned (OpenSpec.upto pressOrdersSpec)

/-- 'headwordlaw07.PressBounds', WHERE WHAT IT READS IS OF BULK AT MOST 1048576: true; the input reads as it did. -/
def pressBoundsUptoRow : OpenClaim := { program := "ytnlbhjmbaedadaa", sum := "4c942af7d34aa87791d982a0b11d75a1f9efc60342d2892116a0671e05a58e06", func := "headword/headwordlaw07.PressBounds", spec := "pressBounds", unfollowed := true, recurses := true, apart := false, narrowed := true }
def PressBoundsUptoSaid : Prop := pressBoundsUptoRow.holds Try.pinned (OpenSpec.upto pressBoundsSpec)

/-- 'headwordlaw07.PressJohnson', WHERE WHAT IT READS IS OF BULK AT MOST 1048576: true; the input reads as it did. -/
def pressJohnsonUptoRow : OpenClaim := { program := "ytnlbhjmbaedadaa", sum := "4c942af7d34aa87791d982a0b11d75a1f9efc60342d2892116a0671e05a58e06", func := "headword/headwordlaw07.PressJohnson", spec := "pressJohnson", unfollowed := true, recurses := true, apart := false, narrowed := true }
def PressJohnsonUptoSaid : Prop := pressJohnsonUptoRow.holds Try.pinned (OpenSpec.upto pressJohnsonSpec)

/-- 'headwordlaw07.PressDone', WHERE WHAT IT READS IS OF BULK AT MOST 1048576: true; the input reads as it did. -/
def pressDoneUptoRow : OpenClaim := { program := "ytnlbhjmbaedadaa", sum := "4c942af7d34aa87791d982a0b11d75a1f9efc60342d2892116a0671e05a58e06", func := "headword/headwordlaw07.PressDone", spec := "pressDone", unfollowed := true, recurses := true, apart := false, narrowed := true }
def PressDoneUptoSaid : Prop := pressDoneUptoRow.holds Try.pinned (OpenSpec.upto pressDoneSpec)

/-- 'headwordlaw07.PressTurned', WHERE WHAT IT READS IS OF BULK AT MOST 1048576: true; the input reads as it did. -/
def pressTurnedUptoRow : OpenClaim := { program := "ytnlbhjmbaedadaa", sum := "4c942af7d34aa87791d982a0b11d75a1f9efc60342d2892116a0671e05a58e06", func := "headword/headwordlaw07.PressTurned", spec := "pressTurned", unfollowed := true, recurses := true, apart := false, narrowed := true }
def PressTurnedUptoSaid : Prop := pressTurnedUptoRow.holds Try.pinned (OpenSpec.upto pressTurnedSpec)

/-- 'headwordlaw07.PressNamed', WHERE WHAT IT READS IS OF BULK AT MOST 1048576: true; the input reads as it did. -/
def pressNamedUptoRow : OpenClaim := { program := "ytnlbhjmbaedadaa", sum := "4c942af7d34aa87791d982a0b11d75a1f9efc60342d2892116a0671e05a58e06", func := "headword/headwordlaw07.PressNamed", spec := "pressNamed", unfollowed := true, recurses := true, apart := false, narrowed := true }
def PressNamedUptoSaid : Prop := pressNamedUptoRow.holds Try.pinned (OpenSpec.upto pressNamedSpec)

/-- 'headwordlaw07.PressShown', WHERE WHAT IT READS IS OF BULK AT MOST 1048576: true; the input reads as it did. -/
def pressShownUptoRow : OpenClaim := { program := "ytnlbhjmbaedadaa", sum := "4c942af7d34aa87791d982a0b11d75a1f9efc60342d2892116a0671e05a58e06", func := "headword/headwordlaw07.PressShown", spec := "pressShown", unfollowed := true, recurses := true, apart := false, narrowed := true }
def PressShownUptoSaid : Prop := pressShownUptoRow.holds Try.pinned (OpenSpec.upto pressShownSpec)

/-- 'headwordlaw07.PressKnown', WHERE WHAT IT READS IS OF BULK AT MOST 1048576: true; the input reads as it did. -/
def pressKnownUptoRow : OpenClaim := { program := "ytnlbhjmbaedadaa", sum := "4c942af7d34aa87791d982a0b11d75a1f9efc60342d2892116a0671e05a58e06", func := "headword/headwordlaw07.PressKnown", spec := "pressKnown", unfollowed := true, recurses := true, apart := false, narrowed := true }
def PressKnownUptoSaid : Prop := pressKnownUptoRow.holds Try.pinned (OpenSpec.upto pressKnownSpec)

/-- 'headwordlaw07.PressNeighbours', WHERE WHAT IT READS IS OF BULK AT MOST 1048576: true; the input reads as it did. -/
def pressNeighboursUptoRow : OpenClaim := { program := "ytnlbhjmbaedadaa", sum := "4c942af7d34aa87791d982a0b11d75a1f9efc60342d2892116a0671e05a58e06", func := "headword/headwordlaw07.PressNeighbours", spec := "pressNeighbours", unfollowed := true, recurses := true, apart := false, narrowed := true }
def PressNeighboursUptoSaid : Prop := pressNeighboursUptoRow.holds Try.pinned (OpenSpec.upto pressNeighboursSpec)

/-- 'headwordlaw07.PressMore', WHERE WHAT IT READS IS OF BULK AT MOST 1048576: true; the input reads as it did. -/
def pressMoreUptoRow : OpenClaim := { program := "ytnlbhjmbaedadaa", sum := "4c942af7d34aa87791d982a0b11d75a1f9efc60342d2892116a0671e05a58e06", func := "headword/headwordlaw07.PressMore", spec := "pressMore", unfollowed := true, recurses := true, apart := false, narrowed := true }
def PressMoreUptoSaid : Prop := pressMoreUptoRow.holds Try.pinned (OpenSpec.upto pressMoreSpec)

end Rows
end Go.Proofs.Ytnlbhjmbaedadaa

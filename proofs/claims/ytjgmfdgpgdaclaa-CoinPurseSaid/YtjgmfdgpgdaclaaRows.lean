/-
  No cell of these rows narrows 'for every input' (looked for: loops, veiled, ifaces, maps, wideKeys, modest, calm, conditions, laid).
  DERIVED. THE GIVEN ROWS OF THIS SEAT. 14 by the template 'for every input the law returns true; each argument reads behind the call as it read before'; 0 by the template 'total and deterministic' (their statements: YtjgmfdgpgdaclaaTotals.lean).
  GIVEN WITH THE SEED: the statements are not yours to turn. If you find one false, say at which input.
  Laid BY PROGRAM, IN A SANDBOX (cutbox-rows.mjs): the forced cells as the released guide's own fill.sh prints them over the translation 9c3d5ffab1d8e8b0… (all of the seat's roots in one cut). By AI agents, Wed Nov 11 2026. No macro, syntax, notation, axiom, sorry.
-/
import Derived.Test.YtjgmfdgpgdaclaaChecked
import GoSem.Claim
import GoSem.ClaimJoined
import GoSem.ClaimMapViews
import Derived.JoinedTies
import Derived.KernelRfl
namespace Go.Proofs.Ytjgmfdgpgdaclaa
/- THE CELL 'sum', in the pinned program and in every row, IS THE sha256 OF THE DUMP (.gsa) THAT YtjgmfdgpgdaclaaProg.lean LOADS. Nothing in Lean hashes anything: it is a label: what it is worth is what the hold of that sum in a sandbox is worth. -/
noncomputable def Try.pinned : Pinned := { name := "ytjgmfdgpgdaclaa", sum := "9c3d5ffab1d8e8b0a4426cd7acb84f808593668d0efc01d167f736d53addc925", checked := Try.checked }
namespace Rows
def none {H : Type} : Left H := { results := [], args := [] }

/-- 'headwordlaw12.CoinFew': WHATEVER THE INPUT: true; the input reads as it did. -/
def coinFewSpec : ChangeSpec := { name := "coinFew", fn := fun _ => fun
  | [d1, d2] => { results := [.lit (.bool true)], args := [d1, d2] }
  | _ => none }
def coinFewRow : OpenClaim := { program := "ytjgmfdgpgdaclaa", sum := "9c3d5ffab1d8e8b0a4426cd7acb84f808593668d0efc01d167f736d53addc925", func := "headword/headwordlaw12.CoinFew", spec := "coinFew", inPlace := ["maps.clone"], unfollowed := true, recurses := true, apart := false }
def CoinFewSaid : Prop := coinFewRow.holds Try.pinned (OpenSpec.ofChange coinFewSpec)

/-- ITS FALSE NEIGHBOUR: 'it returns false'. Refute it at one input. -/
def coinFewWrong : ChangeSpec := { name := "coinFew", fn := fun _ => fun
  | [d1, d2] => { results := [.lit (.bool false)], args := [d1, d2] }
  | _ => none }
def CoinFewWrongFalsely : Prop := coinFewRow.holds Try.pinned (OpenSpec.ofChange coinFewWrong)

/-- 'headwordlaw12.CoinGood': WHATEVER THE INPUT: true; the input reads as it did. -/
def coinGoodSpec : ChangeSpec := { name := "coinGood", fn := fun _ => fun
  | [d1, d2, d3] => { results := [.lit (.bool true)], args := [d1, d2, d3] }
  | _ => none }
def coinGoodRow : OpenClaim := { program := "ytjgmfdgpgdaclaa", sum := "9c3d5ffab1d8e8b0a4426cd7acb84f808593668d0efc01d167f736d53addc925", func := "headword/headwordlaw12.CoinGood", spec := "coinGood", inPlace := ["maps.clone"], unfollowed := true, recurses := true, apart := false }
def CoinGoodSaid : Prop := coinGoodRow.holds Try.pinned (OpenSpec.ofChange coinGoodSpec)

/-- ITS FALSE NEIGHBOUR: 'it returns false'. Refute it at one input. -/
def coinGoodWrong : ChangeSpec := { name := "coinGood", fn := fun _ => fun
  | [d1, d2, d3] => { results := [.lit (.bool false)], args := [d1, d2, d3] }
  | _ => none }
def CoinGoodWrongFalsely : Prop := coinGoodRow.holds Try.pinned (OpenSpec.ofChange coinGoodWrong)

/-- 'headwordlaw12.CoinWith': WHATEVER THE INPUT: true; the input reads as it did. -/
def coinWithSpec : ChangeSpec := { name := "coinWith", fn := fun _ => fun
  | [d1, d2, d3] => { results := [.lit (.bool true)], args := [d1, d2, d3] }
  | _ => none }
def coinWithRow : OpenClaim := { program := "ytjgmfdgpgdaclaa", sum := "9c3d5ffab1d8e8b0a4426cd7acb84f808593668d0efc01d167f736d53addc925", func := "headword/headwordlaw12.CoinWith", spec := "coinWith", inPlace := ["maps.clone"], unfollowed := true, recurses := true, apart := false }
def CoinWithSaid : Prop := coinWithRow.holds Try.pinned (OpenSpec.ofChange coinWithSpec)

/-- ITS FALSE NEIGHBOUR: 'it returns false'. Refute it at one input. -/
def coinWithWrong : ChangeSpec := { name := "coinWith", fn := fun _ => fun
  | [d1, d2, d3] => { results := [.lit (.bool false)], args := [d1, d2, d3] }
  | _ => none }
def CoinWithWrongFalsely : Prop := coinWithRow.holds Try.pinned (OpenSpec.ofChange coinWithWrong)

/-- 'headwordlaw12.CoinPaid': WHATEVER THE INPUT: true; the input reads as it did. -/
def coinPaidSpec : ChangeSpec := { name := "coinPaid", fn := fun _ => fun
  | [d1, d2, d3] => { results := [.lit (.bool true)], args := [d1, d2, d3] }
  | _ => none }
def coinPaidRow : OpenClaim := { program := "ytjgmfdgpgdaclaa", sum := "9c3d5ffab1d8e8b0a4426cd7acb84f808593668d0efc01d167f736d53addc925", func := "headword/headwordlaw12.CoinPaid", spec := "coinPaid", inPlace := ["maps.clone"], unfollowed := true, recurses := true, apart := false }
def CoinPaidSaid : Prop := coinPaidRow.holds Try.pinned (OpenSpec.ofChange coinPaidSpec)

/-- ITS FALSE NEIGHBOUR: 'it returns false'. Refute it at one input. -/
def coinPaidWrong : ChangeSpec := { name := "coinPaid", fn := fun _ => fun
  | [d1, d2, d3] => { results := [.lit (.bool false)], args := [d1, d2, d3] }
  | _ => none }
def CoinPaidWrongFalsely : Prop := coinPaidRow.holds Try.pinned (OpenSpec.ofChange coinPaidWrong)

/-- 'headwordlaw12.CoinKozen': WHATEVER THE INPUT: true; the input reads as it did. -/
def coinKozenSpec : ChangeSpec := { name := "coinKozen", fn := fun _ => fun
  | [d] => { results := [.lit (.bool true)], args := [d] }
  | _ => none }
def coinKozenRow : OpenClaim := { program := "ytjgmfdgpgdaclaa", sum := "9c3d5ffab1d8e8b0a4426cd7acb84f808593668d0efc01d167f736d53addc925", func := "headword/headwordlaw12.CoinKozen", spec := "coinKozen", inPlace := ["maps.clone"], unfollowed := true, recurses := true, apart := false }
def CoinKozenSaid : Prop := coinKozenRow.holds Try.pinned (OpenSpec.ofChange coinKozenSpec)

/-- ITS FALSE NEIGHBOUR: 'it returns false'. Refute it at one input. -/
def coinKozenWrong : ChangeSpec := { name := "coinKozen", fn := fun _ => fun
  | [d] => { results := [.lit (.bool false)], args := [d] }
  | _ => none }
def CoinKozenWrongFalsely : Prop := coinKozenRow.holds Try.pinned (OpenSpec.ofChange coinKozenWrong)

/-- 'headwordlaw12.CoinOne': WHATEVER THE INPUT: true; the input reads as it did. -/
def coinOneSpec : ChangeSpec := { name := "coinOne", fn := fun _ => fun
  | [d1, d2] => { results := [.lit (.bool true)], args := [d1, d2] }
  | _ => none }
def coinOneRow : OpenClaim := { program := "ytjgmfdgpgdaclaa", sum := "9c3d5ffab1d8e8b0a4426cd7acb84f808593668d0efc01d167f736d53addc925", func := "headword/headwordlaw12.CoinOne", spec := "coinOne", inPlace := ["maps.clone"], unfollowed := true, recurses := true, apart := false }
def CoinOneSaid : Prop := coinOneRow.holds Try.pinned (OpenSpec.ofChange coinOneSpec)

/-- ITS FALSE NEIGHBOUR: 'it returns false'. Refute it at one input. -/
def coinOneWrong : ChangeSpec := { name := "coinOne", fn := fun _ => fun
  | [d1, d2] => { results := [.lit (.bool false)], args := [d1, d2] }
  | _ => none }
def CoinOneWrongFalsely : Prop := coinOneRow.holds Try.pinned (OpenSpec.ofChange coinOneWrong)

/-- 'headwordlaw12.CoinFewest': WHATEVER THE INPUT: true; the input reads as it did. -/
def coinFewestSpec : ChangeSpec := { name := "coinFewest", fn := fun _ => fun
  | [d1, d2, d3] => { results := [.lit (.bool true)], args := [d1, d2, d3] }
  | _ => none }
def coinFewestRow : OpenClaim := { program := "ytjgmfdgpgdaclaa", sum := "9c3d5ffab1d8e8b0a4426cd7acb84f808593668d0efc01d167f736d53addc925", func := "headword/headwordlaw12.CoinFewest", spec := "coinFewest", inPlace := ["maps.clone"], unfollowed := true, recurses := true, apart := false }
def CoinFewestSaid : Prop := coinFewestRow.holds Try.pinned (OpenSpec.ofChange coinFewestSpec)

/-- ITS FALSE NEIGHBOUR: 'it returns false'. Refute it at one input. -/
def coinFewestWrong : ChangeSpec := { name := "coinFewest", fn := fun _ => fun
  | [d1, d2, d3] => { results := [.lit (.bool false)], args := [d1, d2, d3] }
  | _ => none }
def CoinFewestWrongFalsely : Prop := coinFewestRow.holds Try.pinned (OpenSpec.ofChange coinFewestWrong)

/-- 'headwordlaw12.CoinWays': WHATEVER THE INPUT: true; the input reads as it did. -/
def coinWaysSpec : ChangeSpec := { name := "coinWays", fn := fun _ => fun
  | [d1, d2, d3] => { results := [.lit (.bool true)], args := [d1, d2, d3] }
  | _ => none }
def coinWaysRow : OpenClaim := { program := "ytjgmfdgpgdaclaa", sum := "9c3d5ffab1d8e8b0a4426cd7acb84f808593668d0efc01d167f736d53addc925", func := "headword/headwordlaw12.CoinWays", spec := "coinWays", inPlace := ["maps.clone"], unfollowed := true, recurses := true, apart := false }
def CoinWaysSaid : Prop := coinWaysRow.holds Try.pinned (OpenSpec.ofChange coinWaysSpec)

/-- ITS FALSE NEIGHBOUR: 'it returns false'. Refute it at one input. -/
def coinWaysWrong : ChangeSpec := { name := "coinWays", fn := fun _ => fun
  | [d1, d2, d3] => { results := [.lit (.bool false)], args := [d1, d2, d3] }
  | _ => none }
def CoinWaysWrongFalsely : Prop := coinWaysRow.holds Try.pinned (OpenSpec.ofChange coinWaysWrong)

/-- 'headwordlaw12.CoinReach': WHATEVER THE INPUT: true; the input reads as it did. -/
def coinReachSpec : ChangeSpec := { name := "coinReach", fn := fun _ => fun
  | [d1, d2, d3] => { results := [.lit (.bool true)], args := [d1, d2, d3] }
  | _ => none }
def coinReachRow : OpenClaim := { program := "ytjgmfdgpgdaclaa", sum := "9c3d5ffab1d8e8b0a4426cd7acb84f808593668d0efc01d167f736d53addc925", func := "headword/headwordlaw12.CoinReach", spec := "coinReach", inPlace := ["maps.clone"], unfollowed := true, recurses := true, apart := false }
def CoinReachSaid : Prop := coinReachRow.holds Try.pinned (OpenSpec.ofChange coinReachSpec)

/-- ITS FALSE NEIGHBOUR: 'it returns false'. Refute it at one input. -/
def coinReachWrong : ChangeSpec := { name := "coinReach", fn := fun _ => fun
  | [d1, d2, d3] => { results := [.lit (.bool false)], args := [d1, d2, d3] }
  | _ => none }
def CoinReachWrongFalsely : Prop := coinReachRow.holds Try.pinned (OpenSpec.ofChange coinReachWrong)

/-- 'headwordlaw12.CoinChange': WHATEVER THE INPUT: true; the input reads as it did. -/
def coinChangeSpec : ChangeSpec := { name := "coinChange", fn := fun _ => fun
  | [d1, d2] => { results := [.lit (.bool true)], args := [d1, d2] }
  | _ => none }
def coinChangeRow : OpenClaim := { program := "ytjgmfdgpgdaclaa", sum := "9c3d5ffab1d8e8b0a4426cd7acb84f808593668d0efc01d167f736d53addc925", func := "headword/headwordlaw12.CoinChange", spec := "coinChange", inPlace := ["maps.clone"], unfollowed := true, recurses := true, apart := false }
def CoinChangeSaid : Prop := coinChangeRow.holds Try.pinned (OpenSpec.ofChange coinChangeSpec)

/-- ITS FALSE NEIGHBOUR: 'it returns false'. Refute it at one input. -/
def coinChangeWrong : ChangeSpec := { name := "coinChange", fn := fun _ => fun
  | [d1, d2] => { results := [.lit (.bool false)], args := [d1, d2] }
  | _ => none }
def CoinChangeWrongFalsely : Prop := coinChangeRow.holds Try.pinned (OpenSpec.ofChange coinChangeWrong)

/-- 'headwordlaw12.CoinPurse': WHATEVER THE INPUT: true; the input reads as it did. -/
def coinPurseSpec : ChangeSpec := { name := "coinPurse", fn := fun _ => fun
  | [d1, d2, d3] => { results := [.lit (.bool true)], args := [d1, d2, d3] }
  | _ => none }
def coinPurseRow : OpenClaim := { program := "ytjgmfdgpgdaclaa", sum := "9c3d5ffab1d8e8b0a4426cd7acb84f808593668d0efc01d167f736d53addc925", func := "headword/headwordlaw12.CoinPurse", spec := "coinPurse", inPlace := ["maps.clone"], unfollowed := true, recurses := true, apart := false }
def CoinPurseSaid : Prop := coinPurseRow.holds Try.pinned (OpenSpec.ofChange coinPurseSpec)

/-- ITS FALSE NEIGHBOUR: 'it returns false'. Refute it at one input. -/
def coinPurseWrong : ChangeSpec := { name := "coinPurse", fn := fun _ => fun
  | [d1, d2, d3] => { results := [.lit (.bool false)], args := [d1, d2, d3] }
  | _ => none }
def CoinPurseWrongFalsely : Prop := coinPurseRow.holds Try.pinned (OpenSpec.ofChange coinPurseWrong)

/-- 'headwordlaw12.CoinBack': WHATEVER THE INPUT: true; the input reads as it did. -/
def coinBackSpec : ChangeSpec := { name := "coinBack", fn := fun _ => fun
  | [d1, d2, d3, d4] => { results := [.lit (.bool true)], args := [d1, d2, d3, d4] }
  | _ => none }
def coinBackRow : OpenClaim := { program := "ytjgmfdgpgdaclaa", sum := "9c3d5ffab1d8e8b0a4426cd7acb84f808593668d0efc01d167f736d53addc925", func := "headword/headwordlaw12.CoinBack", spec := "coinBack", inPlace := ["maps.clone"], unfollowed := true, recurses := true, apart := false }
def CoinBackSaid : Prop := coinBackRow.holds Try.pinned (OpenSpec.ofChange coinBackSpec)

/-- ITS FALSE NEIGHBOUR: 'it returns false'. Refute it at one input. -/
def coinBackWrong : ChangeSpec := { name := "coinBack", fn := fun _ => fun
  | [d1, d2, d3, d4] => { results := [.lit (.bool false)], args := [d1, d2, d3, d4] }
  | _ => none }
def CoinBackWrongFalsely : Prop := coinBackRow.holds Try.pinned (OpenSpec.ofChange coinBackWrong)

/-- 'headwordlaw12.CoinProved': WHATEVER THE INPUT: true; the input reads as it did. -/
def coinProvedSpec : ChangeSpec := { name := "coinProved", fn := fun _ => fun
  | [d1, d2, d3, d4] => { results := [.lit (.bool true)], args := [d1, d2, d3, d4] }
  | _ => none }
def coinProvedRow : OpenClaim := { program := "ytjgmfdgpgdaclaa", sum := "9c3d5ffab1d8e8b0a4426cd7acb84f808593668d0efc01d167f736d53addc925", func := "headword/headwordlaw12.CoinProved", spec := "coinProved", inPlace := ["maps.clone"], unfollowed := true, recurses := true, apart := false }
def CoinProvedSaid : Prop := coinProvedRow.holds Try.pinned (OpenSpec.ofChange coinProvedSpec)

/-- ITS FALSE NEIGHBOUR: 'it returns false'. Refute it at one input. -/
def coinProvedWrong : ChangeSpec := { name := "coinProved", fn := fun _ => fun
  | [d1, d2, d3, d4] => { results := [.lit (.bool false)], args := [d1, d2, d3, d4] }
  | _ => none }
def CoinProvedWrongFalsely : Prop := coinProvedRow.holds Try.pinned (OpenSpec.ofChange coinProvedWrong)

/-- 'headwordlaw12.CoinKnown': WHATEVER THE INPUT: true; the input reads as it did. -/
def coinKnownSpec : ChangeSpec := { name := "coinKnown", fn := fun _ => fun
  | [] => { results := [.lit (.bool true)], args := [] }
  | _ => none }
def coinKnownRow : OpenClaim := { program := "ytjgmfdgpgdaclaa", sum := "9c3d5ffab1d8e8b0a4426cd7acb84f808593668d0efc01d167f736d53addc925", func := "headword/headwordlaw12.CoinKnown", spec := "coinKnown", inPlace := ["maps.clone"], unfollowed := true, recurses := true, apart := false }
def CoinKnownSaid : Prop := coinKnownRow.holds Try.pinned (OpenSpec.ofChange coinKnownSpec)

/-- ITS FALSE NEIGHBOUR: 'it returns false'. Refute it at one input. -/
def coinKnownWrong : ChangeSpec := { name := "coinKnown", fn := fun _ => fun
  | [] => { results := [.lit (.bool false)], args := [] }
  | _ => none }
def CoinKnownWrongFalsely : Prop := coinKnownRow.holds Try.pinned (OpenSpec.ofChange coinKnownWrong)

/- THE SECOND FORM. 'bulk': how many values and letters a reading holds, each counted each time it is reached (what is shared counts as often as it is met; a slice's spare places count too). A statement '..UptoSaid' is the law's where the arguments, and the package variables that the reading takes, are together of bulk at most 1048576: NARROWER than '..Said'. Prove '..Said' where nothing that the law and all that it calls make is longer than what came in: it says more and counts as full. Else prove '..UptoSaid'. A law counts once. -/
mutual
def uptoBulk {H : Type} : DataW H → Nat
  | .lit (.string bytes) => bytes.length + 1
  | .lit _ => 1
  | .nil => 1
  | .ptr d => uptoBulk d + 1
  | .slice elems spare => uptoBulkAll elems + uptoBulkAll spare + 1
  | .agg parts => uptoBulkAll parts + 1
  | .iface _ d => uptoBulk d + 1
  | .map entries => uptoBulkEntries entries + 1
  | .held _ => 1
def uptoBulkAll {H : Type} : List (DataW H) → Nat
  | [] => 0
  | d :: r => uptoBulk d + uptoBulkAll r
def uptoBulkEntries {H : Type} : List (Lit × DataW H) → Nat
  | [] => 0
  | x :: r => uptoBulkEntry x + uptoBulkEntries r
def uptoBulkEntry {H : Type} : Lit × DataW H → Nat
  | (.string bytes, d) => bytes.length + uptoBulk d + 1
  | (_, d) => uptoBulk d + 1
 end
def uptoSmall : (H : Type) → List (DataW H) → Bool := fun _ ds => decide (uptoBulkAll ds ≤ 1048576)
def OpenSpec.upto (s : _root_.Go.ChangeSpec) : _root_.Go.OpenSpec := { _root_.Go.OpenSpec.ofChange s with cond := some uptoSmall }

/-- 'headwordlaw12.CoinFew', WHERE WHAT IT READS IS OF BULK AT MOST 1048576: true; the input reads as it did. -/
def coinFewUptoRow : OpenClaim := { program := "ytjgmfdgpgdaclaa", sum := "9c3d5ffab1d8e8b0a4426cd7acb84f808593668d0efc01d167f736d53addc925", func := "headword/headwordlaw12.CoinFew", spec := "coinFew", inPlace := ["maps.clone"], unfollowed := true, recurses := true, apart := false, narrowed := true }
def CoinFewUptoSaid : Prop := coinFewUptoRow.holds Try.pinned (OpenSpec.upto coinFewSpec)

/-- 'headwordlaw12.CoinGood', WHERE WHAT IT READS IS OF BULK AT MOST 1048576: true; the input reads as it did. -/
def coinGoodUptoRow : OpenClaim := { program := "ytjgmfdgpgdaclaa", sum := "9c3d5ffab1d8e8b0a4426cd7acb84f808593668d0efc01d167f736d53addc925", func := "headword/headwordlaw12.CoinGood", spec := "coinGood", inPlace := ["maps.clone"], unfollowed := true, recurses := true, apart := false, narrowed := true }
def CoinGoodUptoSaid : Prop := coinGoodUptoRow.holds Try.pinned (OpenSpec.upto coinGoodSpec)

/-- 'headwordlaw12.CoinWith', WHERE WHAT IT READS IS OF BULK AT MOST 1048576: true; the input reads as it did. -/
def coinWithUptoRow : OpenClaim := { program := "ytjgmfdgpgdaclaa", sum := "9c3d5ffab1d8e8b0a4426cd7acb84f808593668d0efc01d167f736d53addc925", func := "headword/headwordlaw12.CoinWith", spec := "coinWith", inPlace := ["maps.clone"], unfollowed := true, recurses := true, apart := false, narrowed := true }
def CoinWithUptoSaid : Prop := coinWithUptoRow.holds Try.pinned (OpenSpec.upto coinWithSpec)

/-- 'headwordlaw12.CoinPaid', WHERE WHAT IT READS IS OF BULK AT MOST 1048576: true; the input reads as it did. -/
def coinPaidUptoRow : OpenClaim := { program := "ytjgmfdgpgdaclaa", sum := "9c3d5ffab1d8e8b0a4426cd7acb84f808593668d0efc01d167f736d53addc925", func := "headword/headwordlaw12.CoinPaid", spec := "coinPaid", inPlace := ["maps.clone"], unfollowed := true, recurses := true, apart := false, narrowed := true }
def CoinPaidUptoSaid : Prop := coinPaidUptoRow.holds Try.pinned (OpenSpec.upto coinPaidSpec)

/-- 'headwordlaw12.CoinKozen', WHERE WHAT IT READS IS OF BULK AT MOST 1048576: true; the input reads as it did. -/
def coinKozenUptoRow : OpenClaim := { program := "ytjgmfdgpgdaclaa", sum := "9c3d5ffab1d8e8b0a4426cd7acb84f808593668d0efc01d167f736d53addc925", func := "headword/headwordlaw12.CoinKozen", spec := "coinKozen", inPlace := ["maps.clone"], unfollowed := true, recurses := true, apart := false, narrowed := true }
def CoinKozenUptoSaid : Prop := coinKozenUptoRow.holds Try.pinned (OpenSpec.upto coinKozenSpec)

/-- 'headwordlaw12.CoinOne', WHERE WHAT IT READS IS OF BULK AT MOST 1048576: true; the input reads as it did. -/
def coinOneUptoRow : OpenClaim := { program := "ytjgmfdgpgdaclaa", sum := "9c3d5ffab1d8e8b0a4426cd7acb84f808593668d0efc01d167f736d53addc925", func := "headword/headwordlaw12.CoinOne", spec := "coinOne", inPlace := ["maps.clone"], unfollowed := true, recurses := true, apart := false, narrowed := true }
def CoinOneUptoSaid : Prop := coinOneUptoRow.holds Try.pinned (OpenSpec.upto coinOneSpec)

/-- 'headwordlaw12.CoinFewest', WHERE WHAT IT READS IS OF BULK AT MOST 1048576: true; the input reads as it did. -/
def coinFewestUptoRow : OpenClaim := { program := "ytjgmfdgpgdaclaa", sum := "9c3d5ffab1d8e8b0a4426cd7acb84f808593668d0efc01d167f736d53addc925", func := "headword/headwordlaw12.CoinFewest", spec := "coinFewest", inPlace := ["maps.clone"], unfollowed := true, recurses := true, apart := false, narrowed := true }
def CoinFewestUptoSaid : Prop := coinFewestUptoRow.holds Try.pinned (OpenSpec.upto coinFewestSpec)

/-- 'headwordlaw12.CoinWays', WHERE WHAT IT READS IS OF BULK AT MOST 1048576: true; the input reads as it did. -/
def coinWaysUptoRow : OpenClaim := { program := "ytjgmfdgpgdaclaa", sum := "9c3d5ffab1d8e8b0a4426cd7acb84f808593668d0efc01d167f736d53addc925", func := "headword/headwordlaw12.CoinWays", spec := "coinWays", inPlace := ["maps.clone"], unfollowed := true, recurses := true, apart := false, narrowed := true }
def CoinWaysUptoSaid : Prop := coinWaysUptoRow.holds Try.pinned (OpenSpec.upto coinWaysSpec)

/-- 'headwordlaw12.CoinReach', WHERE WHAT IT READS IS OF BULK AT MOST 1048576: true; the input reads as it did. -/
def coinReachUptoRow : OpenClaim := { program := "ytjgmfdgpgdaclaa", sum := "9c3d5ffab1d8e8b0a4426cd7acb84f808593668d0efc01d167f736d53addc925", func := "headword/headwordlaw12.CoinReach", spec := "coinReach", inPlace := ["maps.clone"], unfollowed := true, recurses := true, apart := false, narrowed := true }
def CoinReachUptoSaid : Prop := coinReachUptoRow.holds Try.pinned (OpenSpec.upto coinReachSpec)

/-- 'headwordlaw12.CoinChange', WHERE WHAT IT READS IS OF BULK AT MOST 1048576: true; the input reads as it did. -/
def coinChangeUptoRow : OpenClaim := { program := "ytjgmfdgpgdaclaa", sum := "9c3d5ffab1d8e8b0a4426cd7acb84f808593668d0efc01d167f736d53addc925", func := "headword/headwordlaw12.CoinChange", spec := "coinChange", inPlace := ["maps.clone"], unfollowed := true, recurses := true, apart := false, narrowed := true }
def CoinChangeUptoSaid : Prop := coinChangeUptoRow.holds Try.pinned (OpenSpec.upto coinChangeSpec)

/-- 'headwordlaw12.CoinPurse', WHERE WHAT IT READS IS OF BULK AT MOST 1048576: true; the input reads as it did. -/
def coinPurseUptoRow : OpenClaim := { program := "ytjgmfdgpgdaclaa", sum := "9c3d5ffab1d8e8b0a4426cd7acb84f808593668d0efc01d167f736d53addc925", func := "headword/headwordlaw12.CoinPurse", spec := "coinPurse", inPlace := ["maps.clone"], unfollowed := true, recurses := true, apart := false, narrowed := true }
def CoinPurseUptoSaid : Prop := coinPurseUptoRow.holds Try.pinned (OpenSpec.upto coinPurseSpec)

/-- 'headwordlaw12.CoinBack', WHERE WHAT IT READS IS OF BULK AT MOST 1048576: true; the input reads as it did. -/
def coinBackUptoRow : OpenClaim := { program := "ytjgmfdgpgdaclaa", sum := "9c3d5ffab1d8e8b0a4426cd7acb84f808593668d0efc01d167f736d53addc925", func := "headword/headwordlaw12.CoinBack", spec := "coinBack", inPlace := ["maps.clone"], unfollowed := true, recurses := true, apart := false, narrowed := true }
def CoinBackUptoSaid : Prop := coinBackUptoRow.holds Try.pinned (OpenSpec.upto coinBackSpec)

/-- 'headwordlaw12.CoinProved', WHERE WHAT IT READS IS OF BULK AT MOST 1048576: true; the input reads as it did. -/
def coinProvedUptoRow : OpenClaim := { program := "ytjgmfdgpgdaclaa", sum := "9c3d5ffab1d8e8b0a4426cd7acb84f808593668d0efc01d167f736d53addc925", func := "headword/headwordlaw12.CoinProved", spec := "coinProved", inPlace := ["maps.clone"], unfollowed := true, recurses := true, apart := false, narrowed := true }
def CoinProvedUptoSaid : Prop := coinProvedUptoRow.holds Try.pinned (OpenSpec.upto coinProvedSpec)

/-- 'headwordlaw12.CoinKnown', WHERE WHAT IT READS IS OF BULK AT MOST 1048576: true; the input reads as it did. -/
def coinKnownUptoRow : OpenClaim := { program := "ytjgmfdgpgdaclaa", sum := "9c3d5ffab1d8e8b0a4426cd7acb84f808593668d0efc01d167f736d53addc925", func := "headword/headwordlaw12.CoinKnown", spec := "coinKnown", inPlace := ["maps.clone"], unfollowed := true, recurses := true, apart := false, narrowed := true }
def CoinKnownUptoSaid : Prop := coinKnownUptoRow.holds Try.pinned (OpenSpec.upto coinKnownSpec)

end Rows
end Go.Proofs.Ytjgmfdgpgdaclaa

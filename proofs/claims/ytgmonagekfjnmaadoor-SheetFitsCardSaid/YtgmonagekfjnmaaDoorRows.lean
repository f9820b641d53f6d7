/-
  NARROWER THAN 'FOR EVERY INPUT', by the rows' own cells (each row's printed sentence says how): SheetPlans: laid · SheetFits: laid · SheetFinds: laid · SheetBounds: laid · SheetChained: laid · SheetTried: laid · SheetAny: laid · SheetBound: laid · SheetNamed: laid · SheetMore: laid · SheetKnown: laid · SheetShown: laid · SheetGroups: laid.
  DERIVED. THE GIVEN ROWS OF THIS SEAT. 13 by the template 'for every input the law returns true; each argument reads behind the call as it read before'; 0 by the template 'total and deterministic' (their statements: YtgmonagekfjnmaaDoorTotals.lean).
  GIVEN WITH THE SEED: the statements are not yours to turn. If you find one false, say at which input.
  Laid BY PROGRAM, IN A SANDBOX (cutbox-rows.mjs): the forced cells as the released guide's own fill.sh prints them over the translation 08539f19618a9a2d… (all of the seat's roots in one cut). By AI agents, Wed Nov 11 2026. No macro, syntax, notation, axiom, sorry.
-/
import Derived.Test.YtgmonagekfjnmaaDoorChecked
import GoSem.Claim
import GoSem.ClaimJoined
import GoSem.ClaimMapViews
import Derived.JoinedTies
import Derived.KernelRfl
namespace Go.Proofs.YtgmonagekfjnmaaDoor
/- THE CELL 'sum', in the pinned program and in every row, IS THE sha256 OF THE DUMP (.gsa) THAT YtgmonagekfjnmaaDoorProg.lean LOADS. Nothing in Lean hashes anything: it is a label: what it is worth is what the hold of that sum in a sandbox is worth. -/
noncomputable def Tryd.pinned : Pinned := { name := "ytgmonagekfjnmaadoor", sum := "08539f19618a9a2d8a221027408be511a135d7ba5e3b857d35ae9bc8341632ed", checked := Tryd.checked }
namespace Rows
def none {H : Type} : Left H := { results := [], args := [] }

/- WHAT THE LISTED PACKAGE-LEVEL VARIABLES READ AS WHEN THE CALL BEGINS. Each datum BY PROGRAM (the guide's laid-datum.mjs) off the statement by which the dump's own 'gosem.cut.vars' lays the variable. In a bare row this is a premise. The card (YtgmonagekfjnmaaDoorCards.lean) ties it to the program's text. -/
def laid_headword_sheet_divisors {H : Type} : DataW H := .agg [.lit (.int .u32 0), .lit (.int .u32 2), .lit (.int .u32 6), .lit (.int .u32 10), .lit (.int .u32 22), .lit (.int .u32 34), .lit (.int .u32 78), .lit (.int .u32 130), .lit (.int .u32 278), .lit (.int .u32 522), .lit (.int .u32 1062), .lit (.int .u32 2050), .lit (.int .u32 4190), .lit (.int .u32 8194), .lit (.int .u32 16518), .lit (.int .u32 32810), .lit (.int .u32 65814), .lit (.int .u32 131074), .lit (.int .u32 262734), .lit (.int .u32 524290), .lit (.int .u32 1049654), .lit (.int .u32 2097290), .lit (.int .u32 4196358), .lit (.int .u32 8388610), .lit (.int .u32 16781662)]

/-- 'headwordlaw09.SheetPlans': WHATEVER THE INPUT: true; the input reads as it did. -/
def sheetPlansSpec : ChangeSpec := { name := "sheetPlans", fn := fun _ => fun
  | [d1, d2, d3, d4] => { results := [.lit (.bool true)], args := [d1, d2, d3, d4] }
  | _ => none }
def sheetPlansRow : OpenClaim := { program := "ytgmonagekfjnmaadoor", sum := "08539f19618a9a2d8a221027408be511a135d7ba5e3b857d35ae9bc8341632ed", func := "headword/headwordlaw09.SheetPlans", spec := "sheetPlans", unfollowed := true, recurses := true, named := ["headword/sheet.divisors"], apart := false, laid := [("headword/sheet.divisors", laid_headword_sheet_divisors)] }
def SheetPlansSaid : Prop := sheetPlansRow.holds Tryd.pinned (OpenSpec.ofChange sheetPlansSpec)

/-- ITS FALSE NEIGHBOUR: 'it returns false'. Refute it at one input. -/
def sheetPlansWrong : ChangeSpec := { name := "sheetPlans", fn := fun _ => fun
  | [d1, d2, d3, d4] => { results := [.lit (.bool false)], args := [d1, d2, d3, d4] }
  | _ => none }
def SheetPlansWrongFalsely : Prop := sheetPlansRow.holds Tryd.pinned (OpenSpec.ofChange sheetPlansWrong)

/-- 'headwordlaw09.SheetFits': WHATEVER THE INPUT: true; the input reads as it did. -/
def sheetFitsSpec : ChangeSpec := { name := "sheetFits", fn := fun _ => fun
  | [d1, d2, d3] => { results := [.lit (.bool true)], args := [d1, d2, d3] }
  | _ => none }
def sheetFitsRow : OpenClaim := { program := "ytgmonagekfjnmaadoor", sum := "08539f19618a9a2d8a221027408be511a135d7ba5e3b857d35ae9bc8341632ed", func := "headword/headwordlaw09.SheetFits", spec := "sheetFits", unfollowed := true, recurses := true, named := ["headword/sheet.divisors"], apart := false, laid := [("headword/sheet.divisors", laid_headword_sheet_divisors)] }
def SheetFitsSaid : Prop := sheetFitsRow.holds Tryd.pinned (OpenSpec.ofChange sheetFitsSpec)

/-- ITS FALSE NEIGHBOUR: 'it returns false'. Refute it at one input. -/
def sheetFitsWrong : ChangeSpec := { name := "sheetFits", fn := fun _ => fun
  | [d1, d2, d3] => { results := [.lit (.bool false)], args := [d1, d2, d3] }
  | _ => none }
def SheetFitsWrongFalsely : Prop := sheetFitsRow.holds Tryd.pinned (OpenSpec.ofChange sheetFitsWrong)

/-- 'headwordlaw09.SheetFinds': WHATEVER THE INPUT: true; the input reads as it did. -/
def sheetFindsSpec : ChangeSpec := { name := "sheetFinds", fn := fun _ => fun
  | [d1, d2] => { results := [.lit (.bool true)], args := [d1, d2] }
  | _ => none }
def sheetFindsRow : OpenClaim := { program := "ytgmonagekfjnmaadoor", sum := "08539f19618a9a2d8a221027408be511a135d7ba5e3b857d35ae9bc8341632ed", func := "headword/headwordlaw09.SheetFinds", spec := "sheetFinds", unfollowed := true, recurses := true, named := ["headword/sheet.divisors"], apart := false, laid := [("headword/sheet.divisors", laid_headword_sheet_divisors)] }
def SheetFindsSaid : Prop := sheetFindsRow.holds Tryd.pinned (OpenSpec.ofChange sheetFindsSpec)

/-- ITS FALSE NEIGHBOUR: 'it returns false'. Refute it at one input. -/
def sheetFindsWrong : ChangeSpec := { name := "sheetFinds", fn := fun _ => fun
  | [d1, d2] => { results := [.lit (.bool false)], args := [d1, d2] }
  | _ => none }
def SheetFindsWrongFalsely : Prop := sheetFindsRow.holds Tryd.pinned (OpenSpec.ofChange sheetFindsWrong)

/-- 'headwordlaw09.SheetBounds': WHATEVER THE INPUT: true; the input reads as it did. -/
def sheetBoundsSpec : ChangeSpec := { name := "sheetBounds", fn := fun _ => fun
  | [d1, d2, d3, d4] => { results := [.lit (.bool true)], args := [d1, d2, d3, d4] }
  | _ => none }
def sheetBoundsRow : OpenClaim := { program := "ytgmonagekfjnmaadoor", sum := "08539f19618a9a2d8a221027408be511a135d7ba5e3b857d35ae9bc8341632ed", func := "headword/headwordlaw09.SheetBounds", spec := "sheetBounds", unfollowed := true, recurses := true, named := ["headword/sheet.divisors"], apart := false, laid := [("headword/sheet.divisors", laid_headword_sheet_divisors)] }
def SheetBoundsSaid : Prop := sheetBoundsRow.holds Tryd.pinned (OpenSpec.ofChange sheetBoundsSpec)

/-- ITS FALSE NEIGHBOUR: 'it returns false'. Refute it at one input. -/
def sheetBoundsWrong : ChangeSpec := { name := "sheetBounds", fn := fun _ => fun
  | [d1, d2, d3, d4] => { results := [.lit (.bool false)], args := [d1, d2, d3, d4] }
  | _ => none }
def SheetBoundsWrongFalsely : Prop := sheetBoundsRow.holds Tryd.pinned (OpenSpec.ofChange sheetBoundsWrong)

/-- 'headwordlaw09.SheetChained': WHATEVER THE INPUT: true; the input reads as it did. -/
def sheetChainedSpec : ChangeSpec := { name := "sheetChained", fn := fun _ => fun
  | [d] => { results := [.lit (.bool true)], args := [d] }
  | _ => none }
def sheetChainedRow : OpenClaim := { program := "ytgmonagekfjnmaadoor", sum := "08539f19618a9a2d8a221027408be511a135d7ba5e3b857d35ae9bc8341632ed", func := "headword/headwordlaw09.SheetChained", spec := "sheetChained", unfollowed := true, recurses := true, named := ["headword/sheet.divisors"], apart := false, laid := [("headword/sheet.divisors", laid_headword_sheet_divisors)] }
def SheetChainedSaid : Prop := sheetChainedRow.holds Tryd.pinned (OpenSpec.ofChange sheetChainedSpec)

/-- ITS FALSE NEIGHBOUR: 'it returns false'. Refute it at one input. -/
def sheetChainedWrong : ChangeSpec := { name := "sheetChained", fn := fun _ => fun
  | [d] => { results := [.lit (.bool false)], args := [d] }
  | _ => none }
def SheetChainedWrongFalsely : Prop := sheetChainedRow.holds Tryd.pinned (OpenSpec.ofChange sheetChainedWrong)

/-- 'headwordlaw09.SheetTried': WHATEVER THE INPUT: true; the input reads as it did. -/
def sheetTriedSpec : ChangeSpec := { name := "sheetTried", fn := fun _ => fun
  | [d] => { results := [.lit (.bool true)], args := [d] }
  | _ => none }
def sheetTriedRow : OpenClaim := { program := "ytgmonagekfjnmaadoor", sum := "08539f19618a9a2d8a221027408be511a135d7ba5e3b857d35ae9bc8341632ed", func := "headword/headwordlaw09.SheetTried", spec := "sheetTried", unfollowed := true, recurses := true, named := ["headword/sheet.divisors"], apart := false, laid := [("headword/sheet.divisors", laid_headword_sheet_divisors)] }
def SheetTriedSaid : Prop := sheetTriedRow.holds Tryd.pinned (OpenSpec.ofChange sheetTriedSpec)

/-- ITS FALSE NEIGHBOUR: 'it returns false'. Refute it at one input. -/
def sheetTriedWrong : ChangeSpec := { name := "sheetTried", fn := fun _ => fun
  | [d] => { results := [.lit (.bool false)], args := [d] }
  | _ => none }
def SheetTriedWrongFalsely : Prop := sheetTriedRow.holds Tryd.pinned (OpenSpec.ofChange sheetTriedWrong)

/-- 'headwordlaw09.SheetAny': WHATEVER THE INPUT: true; the input reads as it did. -/
def sheetAnySpec : ChangeSpec := { name := "sheetAny", fn := fun _ => fun
  | [d1, d2] => { results := [.lit (.bool true)], args := [d1, d2] }
  | _ => none }
def sheetAnyRow : OpenClaim := { program := "ytgmonagekfjnmaadoor", sum := "08539f19618a9a2d8a221027408be511a135d7ba5e3b857d35ae9bc8341632ed", func := "headword/headwordlaw09.SheetAny", spec := "sheetAny", unfollowed := true, recurses := true, named := ["headword/sheet.divisors"], apart := false, laid := [("headword/sheet.divisors", laid_headword_sheet_divisors)] }
def SheetAnySaid : Prop := sheetAnyRow.holds Tryd.pinned (OpenSpec.ofChange sheetAnySpec)

/-- ITS FALSE NEIGHBOUR: 'it returns false'. Refute it at one input. -/
def sheetAnyWrong : ChangeSpec := { name := "sheetAny", fn := fun _ => fun
  | [d1, d2] => { results := [.lit (.bool false)], args := [d1, d2] }
  | _ => none }
def SheetAnyWrongFalsely : Prop := sheetAnyRow.holds Tryd.pinned (OpenSpec.ofChange sheetAnyWrong)

/-- 'headwordlaw09.SheetBound': WHATEVER THE INPUT: true; the input reads as it did. -/
def sheetBoundSpec : ChangeSpec := { name := "sheetBound", fn := fun _ => fun
  | [d] => { results := [.lit (.bool true)], args := [d] }
  | _ => none }
def sheetBoundRow : OpenClaim := { program := "ytgmonagekfjnmaadoor", sum := "08539f19618a9a2d8a221027408be511a135d7ba5e3b857d35ae9bc8341632ed", func := "headword/headwordlaw09.SheetBound", spec := "sheetBound", unfollowed := true, recurses := true, named := ["headword/sheet.divisors"], apart := false, laid := [("headword/sheet.divisors", laid_headword_sheet_divisors)] }
def SheetBoundSaid : Prop := sheetBoundRow.holds Tryd.pinned (OpenSpec.ofChange sheetBoundSpec)

/-- ITS FALSE NEIGHBOUR: 'it returns false'. Refute it at one input. -/
def sheetBoundWrong : ChangeSpec := { name := "sheetBound", fn := fun _ => fun
  | [d] => { results := [.lit (.bool false)], args := [d] }
  | _ => none }
def SheetBoundWrongFalsely : Prop := sheetBoundRow.holds Tryd.pinned (OpenSpec.ofChange sheetBoundWrong)

/-- 'headwordlaw09.SheetNamed': WHATEVER THE INPUT: true; the input reads as it did. -/
def sheetNamedSpec : ChangeSpec := { name := "sheetNamed", fn := fun _ => fun
  | [d1, d2] => { results := [.lit (.bool true)], args := [d1, d2] }
  | _ => none }
def sheetNamedRow : OpenClaim := { program := "ytgmonagekfjnmaadoor", sum := "08539f19618a9a2d8a221027408be511a135d7ba5e3b857d35ae9bc8341632ed", func := "headword/headwordlaw09.SheetNamed", spec := "sheetNamed", unfollowed := true, recurses := true, named := ["headword/sheet.divisors"], apart := false, laid := [("headword/sheet.divisors", laid_headword_sheet_divisors)] }
def SheetNamedSaid : Prop := sheetNamedRow.holds Tryd.pinned (OpenSpec.ofChange sheetNamedSpec)

/-- ITS FALSE NEIGHBOUR: 'it returns false'. Refute it at one input. -/
def sheetNamedWrong : ChangeSpec := { name := "sheetNamed", fn := fun _ => fun
  | [d1, d2] => { results := [.lit (.bool false)], args := [d1, d2] }
  | _ => none }
def SheetNamedWrongFalsely : Prop := sheetNamedRow.holds Tryd.pinned (OpenSpec.ofChange sheetNamedWrong)

/-- 'headwordlaw09.SheetMore': WHATEVER THE INPUT: true; the input reads as it did. -/
def sheetMoreSpec : ChangeSpec := { name := "sheetMore", fn := fun _ => fun
  | [d1, d2, d3, d4] => { results := [.lit (.bool true)], args := [d1, d2, d3, d4] }
  | _ => none }
def sheetMoreRow : OpenClaim := { program := "ytgmonagekfjnmaadoor", sum := "08539f19618a9a2d8a221027408be511a135d7ba5e3b857d35ae9bc8341632ed", func := "headword/headwordlaw09.SheetMore", spec := "sheetMore", unfollowed := true, recurses := true, named := ["headword/sheet.divisors"], apart := false, laid := [("headword/sheet.divisors", laid_headword_sheet_divisors)] }
def SheetMoreSaid : Prop := sheetMoreRow.holds Tryd.pinned (OpenSpec.ofChange sheetMoreSpec)

/-- ITS FALSE NEIGHBOUR: 'it returns false'. Refute it at one input. -/
def sheetMoreWrong : ChangeSpec := { name := "sheetMore", fn := fun _ => fun
  | [d1, d2, d3, d4] => { results := [.lit (.bool false)], args := [d1, d2, d3, d4] }
  | _ => none }
def SheetMoreWrongFalsely : Prop := sheetMoreRow.holds Tryd.pinned (OpenSpec.ofChange sheetMoreWrong)

/-- 'headwordlaw09.SheetKnown': WHATEVER THE INPUT: true; the input reads as it did. -/
def sheetKnownSpec : ChangeSpec := { name := "sheetKnown", fn := fun _ => fun
  | [] => { results := [.lit (.bool true)], args := [] }
  | _ => none }
def sheetKnownRow : OpenClaim := { program := "ytgmonagekfjnmaadoor", sum := "08539f19618a9a2d8a221027408be511a135d7ba5e3b857d35ae9bc8341632ed", func := "headword/headwordlaw09.SheetKnown", spec := "sheetKnown", unfollowed := true, recurses := true, named := ["headword/sheet.divisors"], apart := false, laid := [("headword/sheet.divisors", laid_headword_sheet_divisors)] }
def SheetKnownSaid : Prop := sheetKnownRow.holds Tryd.pinned (OpenSpec.ofChange sheetKnownSpec)

/-- ITS FALSE NEIGHBOUR: 'it returns false'. Refute it at one input. -/
def sheetKnownWrong : ChangeSpec := { name := "sheetKnown", fn := fun _ => fun
  | [] => { results := [.lit (.bool false)], args := [] }
  | _ => none }
def SheetKnownWrongFalsely : Prop := sheetKnownRow.holds Tryd.pinned (OpenSpec.ofChange sheetKnownWrong)

/-- 'headwordlaw09.SheetShown': WHATEVER THE INPUT: true; the input reads as it did. -/
def sheetShownSpec : ChangeSpec := { name := "sheetShown", fn := fun _ => fun
  | [d1, d2, d3] => { results := [.lit (.bool true)], args := [d1, d2, d3] }
  | _ => none }
def sheetShownRow : OpenClaim := { program := "ytgmonagekfjnmaadoor", sum := "08539f19618a9a2d8a221027408be511a135d7ba5e3b857d35ae9bc8341632ed", func := "headword/headwordlaw09.SheetShown", spec := "sheetShown", unfollowed := true, recurses := true, named := ["headword/sheet.divisors"], apart := false, laid := [("headword/sheet.divisors", laid_headword_sheet_divisors)] }
def SheetShownSaid : Prop := sheetShownRow.holds Tryd.pinned (OpenSpec.ofChange sheetShownSpec)

/-- ITS FALSE NEIGHBOUR: 'it returns false'. Refute it at one input. -/
def sheetShownWrong : ChangeSpec := { name := "sheetShown", fn := fun _ => fun
  | [d1, d2, d3] => { results := [.lit (.bool false)], args := [d1, d2, d3] }
  | _ => none }
def SheetShownWrongFalsely : Prop := sheetShownRow.holds Tryd.pinned (OpenSpec.ofChange sheetShownWrong)

/-- 'headwordlaw09.SheetGroups': WHATEVER THE INPUT: true; the input reads as it did. -/
def sheetGroupsSpec : ChangeSpec := { name := "sheetGroups", fn := fun _ => fun
  | [d1, d2, d3] => { results := [.lit (.bool true)], args := [d1, d2, d3] }
  | _ => none }
def sheetGroupsRow : OpenClaim := { program := "ytgmonagekfjnmaadoor", sum := "08539f19618a9a2d8a221027408be511a135d7ba5e3b857d35ae9bc8341632ed", func := "headword/headwordlaw09.SheetGroups", spec := "sheetGroups", unfollowed := true, recurses := true, named := ["headword/sheet.divisors"], apart := false, laid := [("headword/sheet.divisors", laid_headword_sheet_divisors)] }
def SheetGroupsSaid : Prop := sheetGroupsRow.holds Tryd.pinned (OpenSpec.ofChange sheetGroupsSpec)

/-- ITS FALSE NEIGHBOUR: 'it returns false'. Refute it at one input. -/
def sheetGroupsWrong : ChangeSpec := { name := "sheetGroups", fn := fun _ => fun
  | [d1, d2, d3] => { results := [.lit (.bool false)], args := [d1, d2, d3] }
  | _ => none }
def SheetGroupsWrongFalsely : Prop := sheetGroupsRow.holds Tryd.pinned (OpenSpec.ofChange sheetGroupsWrong)

/- THE SECOND FORM. 'bulk': how many values and letters a reading holds, each counted each time it is reached (what is shared counts as often as it is met; a slice's spare places count too). A statement '..UptoSaid' is the law's where the arguments, and the package variables that the reading takes, are together of bulk at most 1048576: NARROWER than '..Said'. Prove '..Said' where nothing that the law and all that it calls make is longer than what came in: it says more and counts as full. Else prove '..UptoSaid'. A law counts once. -/
mutual
def uptoBulk {H : Type} : DataW H → Nat
  | .lit (.string bytes) => bytes.length + 1
  | .lit _ => 1
  | .nil => 1
  | .ptr d => uptoBulk d + 1
  | .slice elems spare => uptoBulkAll elems + uptoBulkAll spare + 1
  | .agg parts => uptoBulkAll parts + 1
  | .iface _ d => uptoBulk d + 1
  | .map entries => uptoBulkEntries entries + 1
  | .held _ => 1
def uptoBulkAll {H : Type} : List (DataW H) → Nat
  | [] => 0
  | d :: r => uptoBulk d + uptoBulkAll r
def uptoBulkEntries {H : Type} : List (Lit × DataW H) → Nat
  | [] => 0
  | x :: r => uptoBulkEntry x + uptoBulkEntries r
def uptoBulkEntry {H : Type} : Lit × DataW H → Nat
  | (.string bytes, d) => bytes.length + uptoBulk d + 1
  | (_, d) => uptoBulk d + 1
 end
def uptoSmall : (H : Type) → List (DataW H) → Bool := fun _ ds => decide (uptoBulkAll ds ≤ 1048576)
def OpenSpec.upto (s : _root_.Go.ChangeSpec) : _root_.Go.OpenSpec := { _root_.Go.OpenSpec.ofChange s with cond := some uptoSmall }

/-- 'headwordlaw09.SheetPlans', WHERE WHAT IT READS IS OF BULK AT MOST 1048576: true; the input reads as it did. -/
def sheetPlansUptoRow : OpenClaim := { program := "ytgmonagekfjnmaadoor", sum := "08539f19618a9a2d8a221027408be511a135d7ba5e3b857d35ae9bc8341632ed", func := "headword/headwordlaw09.SheetPlans", spec := "sheetPlans", unfollowed := true, recurses := true, named := ["headword/sheet.divisors"], apart := false, laid := [("headword/sheet.divisors", laid_headword_sheet_divisors)], narrowed := true }
def SheetPlansUptoSaid : Prop := sheetPlansUptoRow.holds Tryd.pinned (OpenSpec.upto sheetPlansSpec)

/-- 'headwordlaw09.SheetFits', WHERE WHAT IT READS IS OF BULK AT MOST 1048576: true; the input reads as it did. -/
def sheetFitsUptoRow : OpenClaim := { program := "ytgmonagekfjnmaadoor", sum := "08539f19618a9a2d8a221027408be511a135d7ba5e3b857d35ae9bc8341632ed", func := "headword/headwordlaw09.SheetFits", spec := "sheetFits", unfollowed := true, recurses := true, named := ["headword/sheet.divisors"], apart := false, laid := [("headword/sheet.divisors", laid_headword_sheet_divisors)], narrowed := true }
def SheetFitsUptoSaid : Prop := sheetFitsUptoRow.holds Tryd.pinned (OpenSpec.upto sheetFitsSpec)

/-- 'headwordlaw09.SheetFinds', WHERE WHAT IT READS IS OF BULK AT MOST 1048576: true; the input reads as it did. -/
def sheetFindsUptoRow : OpenClaim := { program := "ytgmonagekfjnmaadoor", sum := "08539f19618a9a2d8a221027408be511a135d7ba5e3b857d35ae9bc8341632ed", func := "headword/headwordlaw09.SheetFinds", spec := "sheetFinds", unfollowed := true, recurses := true, named := ["headword/sheet.divisors"], apart := false, laid := [("headword/sheet.divisors", laid_headword_sheet_divisors)], narrowed := true }
def SheetFindsUptoSaid : Prop := sheetFindsUptoRow.holds Tryd.pinned (OpenSpec.upto sheetFindsSpec)

/-- 'headwordlaw09.SheetBounds', WHERE WHAT IT READS IS OF BULK AT MOST 1048576: true; the input reads as it did. -/
def sheetBoundsUptoRow : OpenClaim := { program := "ytgmonagekfjnmaadoor", sum := "08539f19618a9a2d8a221027408be511a135d7ba5e3b857d35ae9bc8341632ed", func := "headword/headwordlaw09.SheetBounds", spec := "sheetBounds", unfollowed := true, recurses := true, named := ["headword/sheet.divisors"], apart := false, laid := [("headword/sheet.divisors", laid_headword_sheet_divisors)], narrowed := true }
def SheetBoundsUptoSaid : Prop := sheetBoundsUptoRow.holds Tryd.pinned (OpenSpec.upto sheetBoundsSpec)

/-- 'headwordlaw09.SheetChained', WHERE WHAT IT READS IS OF BULK AT MOST 1048576: true; the input reads as it did. -/
def sheetChainedUptoRow : OpenClaim := { program := "ytgmonagekfjnmaadoor", sum := "08539f19618a9a2d8a221027408be511a135d7ba5e3b857d35ae9bc8341632ed", func := "headword/headwordlaw09.SheetChained", spec := "sheetChained", unfollowed := true, recurses := true, named := ["headword/sheet.divisors"], apart := false, laid := [("headword/sheet.divisors", laid_headword_sheet_divisors)], narrowed := true }
def SheetChainedUptoSaid : Prop := sheetChainedUptoRow.holds Tryd.pinned (OpenSpec.upto sheetChainedSpec)

/-- 'headwordlaw09.SheetTried', WHERE WHAT IT READS IS OF BULK AT MOST 1048576: true; the input reads as it did. -/
def sheetTriedUptoRow : OpenClaim := { program := "ytgmonagekfjnmaadoor", sum := "08539f19618a9a2d8a221027408be511a135d7ba5e3b857d35ae9bc8341632ed", func := "headword/headwordlaw09.SheetTried", spec := "sheetTried", unfollowed := true, recurses := true, named := ["headword/sheet.divisors"], apart := false, laid := [("headword/sheet.divisors", laid_headword_sheet_divisors)], narrowed := true }
def SheetTriedUptoSaid : Prop := sheetTriedUptoRow.holds Tryd.pinned (OpenSpec.upto sheetTriedSpec)

/-- 'headwordlaw09.SheetAny', WHERE WHAT IT READS IS OF BULK AT MOST 1048576: true; the input reads as it did. -/
def sheetAnyUptoRow : OpenClaim := { program := "ytgmonagekfjnmaadoor", sum := "08539f19618a9a2d8a221027408be511a135d7ba5e3b857d35ae9bc8341632ed", func := "headword/headwordlaw09.SheetAny", spec := "sheetAny", unfollowed := true, recurses := true, named := ["headword/sheet.divisors"], apart := false, laid := [("headword/sheet.divisors", laid_headword_sheet_divisors)], narrowed := true }
def SheetAnyUptoSaid : Prop := sheetAnyUptoRow.holds Tryd.pinned (OpenSpec.upto sheetAnySpec)

/-- 'headwordlaw09.SheetBound', WHERE WHAT IT READS IS OF BULK AT MOST 1048576: true; the input reads as it did. -/
def sheetBoundUptoRow : OpenClaim := { program := "ytgmonagekfjnmaadoor", sum := "08539f19618a9a2d8a221027408be511a135d7ba5e3b857d35ae9bc8341632ed", func := "headword/headwordlaw09.SheetBound", spec := "sheetBound", unfollowed := true, recurses := true, named := ["headword/sheet.divisors"], apart := false, laid := [("headword/sheet.divisors", laid_headword_sheet_divisors)], narrowed := true }
def SheetBoundUptoSaid : Prop := sheetBoundUptoRow.holds Tryd.pinned (OpenSpec.upto sheetBoundSpec)

/-- 'headwordlaw09.SheetNamed', WHERE WHAT IT READS IS OF BULK AT MOST 1048576: true; the input reads as it did. -/
def sheetNamedUptoRow : OpenClaim := { program := "ytgmonagekfjnmaadoor", sum := "08539f19618a9a2d8a221027408be511a135d7ba5e3b857d35ae9bc8341632ed", func := "headword/headwordlaw09.SheetNamed", spec := "sheetNamed", unfollowed := true, recurses := true, named := ["headword/sheet.divisors"], apart := false, laid := [("headword/sheet.divisors", laid_headword_sheet_divisors)], narrowed := true }
def SheetNamedUptoSaid : Prop := sheetNamedUptoRow.holds Tryd.pinned (OpenSpec.upto sheetNamedSpec)

/-- 'headwordlaw09.SheetMore', WHERE WHAT IT READS IS OF BULK AT MOST 1048576: true; the input reads as it did. -/
def sheetMoreUptoRow : OpenClaim := { program := "ytgmonagekfjnmaadoor", sum := "08539f19618a9a2d8a221027408be511a135d7ba5e3b857d35ae9bc8341632ed", func := "headword/headwordlaw09.SheetMore", spec := "sheetMore", unfollowed := true, recurses := true, named := ["headword/sheet.divisors"], apart := false, laid := [("headword/sheet.divisors", laid_headword_sheet_divisors)], narrowed := true }
def SheetMoreUptoSaid : Prop := sheetMoreUptoRow.holds Tryd.pinned (OpenSpec.upto sheetMoreSpec)

/-- 'headwordlaw09.SheetKnown', WHERE WHAT IT READS IS OF BULK AT MOST 1048576: true; the input reads as it did. -/
def sheetKnownUptoRow : OpenClaim := { program := "ytgmonagekfjnmaadoor", sum := "08539f19618a9a2d8a221027408be511a135d7ba5e3b857d35ae9bc8341632ed", func := "headword/headwordlaw09.SheetKnown", spec := "sheetKnown", unfollowed := true, recurses := true, named := ["headword/sheet.divisors"], apart := false, laid := [("headword/sheet.divisors", laid_headword_sheet_divisors)], narrowed := true }
def SheetKnownUptoSaid : Prop := sheetKnownUptoRow.holds Tryd.pinned (OpenSpec.upto sheetKnownSpec)

/-- 'headwordlaw09.SheetShown', WHERE WHAT IT READS IS OF BULK AT MOST 1048576: true; the input reads as it did. -/
def sheetShownUptoRow : OpenClaim := { program := "ytgmonagekfjnmaadoor", sum := "08539f19618a9a2d8a221027408be511a135d7ba5e3b857d35ae9bc8341632ed", func := "headword/headwordlaw09.SheetShown", spec := "sheetShown", unfollowed := true, recurses := true, named := ["headword/sheet.divisors"], apart := false, laid := [("headword/sheet.divisors", laid_headword_sheet_divisors)], narrowed := true }
def SheetShownUptoSaid : Prop := sheetShownUptoRow.holds Tryd.pinned (OpenSpec.upto sheetShownSpec)

/-- 'headwordlaw09.SheetGroups', WHERE WHAT IT READS IS OF BULK AT MOST 1048576: true; the input reads as it did. -/
def sheetGroupsUptoRow : OpenClaim := { program := "ytgmonagekfjnmaadoor", sum := "08539f19618a9a2d8a221027408be511a135d7ba5e3b857d35ae9bc8341632ed", func := "headword/headwordlaw09.SheetGroups", spec := "sheetGroups", unfollowed := true, recurses := true, named := ["headword/sheet.divisors"], apart := false, laid := [("headword/sheet.divisors", laid_headword_sheet_divisors)], narrowed := true }
def SheetGroupsUptoSaid : Prop := sheetGroupsUptoRow.holds Tryd.pinned (OpenSpec.upto sheetGroupsSpec)

end Rows
end Go.Proofs.YtgmonagekfjnmaaDoor

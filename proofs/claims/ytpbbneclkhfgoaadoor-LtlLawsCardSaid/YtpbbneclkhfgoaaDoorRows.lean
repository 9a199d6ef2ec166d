/-
  NARROWER THAN 'FOR EVERY INPUT', by the rows' own cells (each row's printed sentence says how): LtlValues: laid · LtlPushes: laid · LtlNegates: laid · LtlOne: laid · LtlTurns: laid · LtlOwn: laid · LtlSame: laid · LtlLaws: laid · LtlSymmetric: laid · LtlHolds: laid · LtlChecks: laid · LtlLess: laid.
  DERIVED. THE GIVEN ROWS OF THIS SEAT. 12 by the template 'for every input the law returns true; each argument reads behind the call as it read before'; 0 by the template 'total and deterministic' (their statements: YtpbbneclkhfgoaaDoorTotals.lean).
  GIVEN WITH THE SEED: the statements are not yours to turn. If you find one false, say at which input.
  Laid BY PROGRAM, IN A SANDBOX (cutbox-rows.mjs): the forced cells as the released guide's own fill.sh prints them over the translation 1ee57083644d0c4f… (all of the seat's roots in one cut). By AI agents, Wed Nov 11 2026. No macro, syntax, notation, axiom, sorry.
-/
import Derived.Test.YtpbbneclkhfgoaaDoorChecked
import GoSem.Claim
import GoSem.ClaimJoined
import GoSem.ClaimMapViews
import Derived.JoinedTies
import Derived.KernelRfl
namespace Go.Proofs.YtpbbneclkhfgoaaDoor
/- THE CELL 'sum', in the pinned program and in every row, IS THE sha256 OF THE DUMP (.gsa) THAT YtpbbneclkhfgoaaDoorProg.lean LOADS. Nothing in Lean hashes anything: it is a label: what it is worth is what the hold of that sum in a sandbox is worth. -/
noncomputable def Tryd.pinned : Pinned := { name := "ytpbbneclkhfgoaadoor", sum := "1ee57083644d0c4f1fedc02cea8bbff0d55fe1d03ad8b02b598a86d62b4a6057", checked := Tryd.checked }
namespace Rows
def none {H : Type} : Left H := { results := [], args := [] }

/- WHAT THE LISTED PACKAGE-LEVEL VARIABLES READ AS WHEN THE CALL BEGINS. Each datum BY PROGRAM (the guide's laid-datum.mjs) off the statement by which the dump's own 'gosem.cut.vars' lays the variable. In a bare row this is a premise. The card (YtpbbneclkhfgoaaDoorCards.lean) ties it to the program's text. -/
def laid_olivette_ltl_atoms {H : Type} : DataW H := .slice [.lit (.string [116, 114, 117, 101]), .lit (.string [102, 97, 108, 115, 101]), .lit (.string [112, 48]), .lit (.string [112, 49]), .lit (.string [112, 50]), .lit (.string [112, 51])] []
def laid_olivette_ltl_ones {H : Type} : DataW H := .slice [.lit (.string [110, 111, 116]), .lit (.string [110, 101, 120, 116]), .lit (.string [97, 108, 119, 97, 121, 115]), .lit (.string [102, 105, 110, 97, 108, 108, 121])] []
def laid_olivette_ltl_twos {H : Type} : DataW H := .slice [.lit (.string [97, 110, 100]), .lit (.string [111, 114]), .lit (.string [117, 110, 116, 105, 108]), .lit (.string [114, 101, 108, 101, 97, 115, 101])] []
def laid_olivette_ltl_dual {H : Type} : DataW H := .map [(.string [97, 108, 119, 97, 121, 115], .lit (.string [102, 105, 110, 97, 108, 108, 121])), (.string [97, 110, 100], .lit (.string [111, 114])), (.string [102, 97, 108, 115, 101], .lit (.string [116, 114, 117, 101])), (.string [102, 105, 110, 97, 108, 108, 121], .lit (.string [97, 108, 119, 97, 121, 115])), (.string [110, 101, 120, 116], .lit (.string [110, 101, 120, 116])), (.string [111, 114], .lit (.string [97, 110, 100])), (.string [114, 101, 108, 101, 97, 115, 101], .lit (.string [117, 110, 116, 105, 108])), (.string [116, 114, 117, 101], .lit (.string [102, 97, 108, 115, 101])), (.string [117, 110, 116, 105, 108], .lit (.string [114, 101, 108, 101, 97, 115, 101]))]

/-- 'olivettelaw06.LtlValues': WHATEVER THE INPUT: true; the input reads as it did. -/
def ltlValuesSpec : ChangeSpec := { name := "ltlValues", fn := fun _ => fun
  | [d1, d2] => { results := [.lit (.bool true)], args := [d1, d2] }
  | _ => none }
def ltlValuesRow : OpenClaim := { program := "ytpbbneclkhfgoaadoor", sum := "1ee57083644d0c4f1fedc02cea8bbff0d55fe1d03ad8b02b598a86d62b4a6057", func := "olivette/olivettelaw06.LtlValues", spec := "ltlValues", unfollowed := true, recurses := true, named := ["olivette/ltl.atoms", "olivette/ltl.ones", "olivette/ltl.twos", "olivette/ltl.dual"], plainKeys := false, apart := false, laid := [("olivette/ltl.atoms", laid_olivette_ltl_atoms), ("olivette/ltl.ones", laid_olivette_ltl_ones), ("olivette/ltl.twos", laid_olivette_ltl_twos), ("olivette/ltl.dual", laid_olivette_ltl_dual)] }
def LtlValuesSaid : Prop := ltlValuesRow.holds Tryd.pinned (OpenSpec.ofChange ltlValuesSpec)

/-- ITS FALSE NEIGHBOUR: 'it returns false'. Refute it at one input. -/
def ltlValuesWrong : ChangeSpec := { name := "ltlValues", fn := fun _ => fun
  | [d1, d2] => { results := [.lit (.bool false)], args := [d1, d2] }
  | _ => none }
def LtlValuesWrongFalsely : Prop := ltlValuesRow.holds Tryd.pinned (OpenSpec.ofChange ltlValuesWrong)

/-- 'olivettelaw06.LtlPushes': WHATEVER THE INPUT: true; the input reads as it did. -/
def ltlPushesSpec : ChangeSpec := { name := "ltlPushes", fn := fun _ => fun
  | [d] => { results := [.lit (.bool true)], args := [d] }
  | _ => none }
def ltlPushesRow : OpenClaim := { program := "ytpbbneclkhfgoaadoor", sum := "1ee57083644d0c4f1fedc02cea8bbff0d55fe1d03ad8b02b598a86d62b4a6057", func := "olivette/olivettelaw06.LtlPushes", spec := "ltlPushes", unfollowed := true, recurses := true, named := ["olivette/ltl.atoms", "olivette/ltl.ones", "olivette/ltl.twos", "olivette/ltl.dual"], plainKeys := false, apart := false, laid := [("olivette/ltl.atoms", laid_olivette_ltl_atoms), ("olivette/ltl.ones", laid_olivette_ltl_ones), ("olivette/ltl.twos", laid_olivette_ltl_twos), ("olivette/ltl.dual", laid_olivette_ltl_dual)] }
def LtlPushesSaid : Prop := ltlPushesRow.holds Tryd.pinned (OpenSpec.ofChange ltlPushesSpec)

/-- ITS FALSE NEIGHBOUR: 'it returns false'. Refute it at one input. -/
def ltlPushesWrong : ChangeSpec := { name := "ltlPushes", fn := fun _ => fun
  | [d] => { results := [.lit (.bool false)], args := [d] }
  | _ => none }
def LtlPushesWrongFalsely : Prop := ltlPushesRow.holds Tryd.pinned (OpenSpec.ofChange ltlPushesWrong)

/-- 'olivettelaw06.LtlNegates': WHATEVER THE INPUT: true; the input reads as it did. -/
def ltlNegatesSpec : ChangeSpec := { name := "ltlNegates", fn := fun _ => fun
  | [d1, d2, d3] => { results := [.lit (.bool true)], args := [d1, d2, d3] }
  | _ => none }
def ltlNegatesRow : OpenClaim := { program := "ytpbbneclkhfgoaadoor", sum := "1ee57083644d0c4f1fedc02cea8bbff0d55fe1d03ad8b02b598a86d62b4a6057", func := "olivette/olivettelaw06.LtlNegates", spec := "ltlNegates", unfollowed := true, recurses := true, named := ["olivette/ltl.atoms", "olivette/ltl.ones", "olivette/ltl.twos", "olivette/ltl.dual"], plainKeys := false, apart := false, laid := [("olivette/ltl.atoms", laid_olivette_ltl_atoms), ("olivette/ltl.ones", laid_olivette_ltl_ones), ("olivette/ltl.twos", laid_olivette_ltl_twos), ("olivette/ltl.dual", laid_olivette_ltl_dual)] }
def LtlNegatesSaid : Prop := ltlNegatesRow.holds Tryd.pinned (OpenSpec.ofChange ltlNegatesSpec)

/-- ITS FALSE NEIGHBOUR: 'it returns false'. Refute it at one input. -/
def ltlNegatesWrong : ChangeSpec := { name := "ltlNegates", fn := fun _ => fun
  | [d1, d2, d3] => { results := [.lit (.bool false)], args := [d1, d2, d3] }
  | _ => none }
def LtlNegatesWrongFalsely : Prop := ltlNegatesRow.holds Tryd.pinned (OpenSpec.ofChange ltlNegatesWrong)

/-- 'olivettelaw06.LtlOne': WHATEVER THE INPUT: true; the input reads as it did. -/
def ltlOneSpec : ChangeSpec := { name := "ltlOne", fn := fun _ => fun
  | [d1, d2, d3] => { results := [.lit (.bool true)], args := [d1, d2, d3] }
  | _ => none }
def ltlOneRow : OpenClaim := { program := "ytpbbneclkhfgoaadoor", sum := "1ee57083644d0c4f1fedc02cea8bbff0d55fe1d03ad8b02b598a86d62b4a6057", func := "olivette/olivettelaw06.LtlOne", spec := "ltlOne", unfollowed := true, recurses := true, named := ["olivette/ltl.atoms", "olivette/ltl.ones", "olivette/ltl.twos", "olivette/ltl.dual"], plainKeys := false, apart := false, laid := [("olivette/ltl.atoms", laid_olivette_ltl_atoms), ("olivette/ltl.ones", laid_olivette_ltl_ones), ("olivette/ltl.twos", laid_olivette_ltl_twos), ("olivette/ltl.dual", laid_olivette_ltl_dual)] }
def LtlOneSaid : Prop := ltlOneRow.holds Tryd.pinned (OpenSpec.ofChange ltlOneSpec)

/-- ITS FALSE NEIGHBOUR: 'it returns false'. Refute it at one input. -/
def ltlOneWrong : ChangeSpec := { name := "ltlOne", fn := fun _ => fun
  | [d1, d2, d3] => { results := [.lit (.bool false)], args := [d1, d2, d3] }
  | _ => none }
def LtlOneWrongFalsely : Prop := ltlOneRow.holds Tryd.pinned (OpenSpec.ofChange ltlOneWrong)

/-- 'olivettelaw06.LtlTurns': WHATEVER THE INPUT: true; the input reads as it did. -/
def ltlTurnsSpec : ChangeSpec := { name := "ltlTurns", fn := fun _ => fun
  | [d1, d2, d3] => { results := [.lit (.bool true)], args := [d1, d2, d3] }
  | _ => none }
def ltlTurnsRow : OpenClaim := { program := "ytpbbneclkhfgoaadoor", sum := "1ee57083644d0c4f1fedc02cea8bbff0d55fe1d03ad8b02b598a86d62b4a6057", func := "olivette/olivettelaw06.LtlTurns", spec := "ltlTurns", unfollowed := true, recurses := true, named := ["olivette/ltl.atoms", "olivette/ltl.ones", "olivette/ltl.twos", "olivette/ltl.dual"], plainKeys := false, apart := false, laid := [("olivette/ltl.atoms", laid_olivette_ltl_atoms), ("olivette/ltl.ones", laid_olivette_ltl_ones), ("olivette/ltl.twos", laid_olivette_ltl_twos), ("olivette/ltl.dual", laid_olivette_ltl_dual)] }
def LtlTurnsSaid : Prop := ltlTurnsRow.holds Tryd.pinned (OpenSpec.ofChange ltlTurnsSpec)

/-- ITS FALSE NEIGHBOUR: 'it returns false'. Refute it at one input. -/
def ltlTurnsWrong : ChangeSpec := { name := "ltlTurns", fn := fun _ => fun
  | [d1, d2, d3] => { results := [.lit (.bool false)], args := [d1, d2, d3] }
  | _ => none }
def LtlTurnsWrongFalsely : Prop := ltlTurnsRow.holds Tryd.pinned (OpenSpec.ofChange ltlTurnsWrong)

/-- 'olivettelaw06.LtlOwn': WHATEVER THE INPUT: true; the input reads as it did. -/
def ltlOwnSpec : ChangeSpec := { name := "ltlOwn", fn := fun _ => fun
  | [d1, d2] => { results := [.lit (.bool true)], args := [d1, d2] }
  | _ => none }
def ltlOwnRow : OpenClaim := { program := "ytpbbneclkhfgoaadoor", sum := "1ee57083644d0c4f1fedc02cea8bbff0d55fe1d03ad8b02b598a86d62b4a6057", func := "olivette/olivettelaw06.LtlOwn", spec := "ltlOwn", unfollowed := true, recurses := true, named := ["olivette/ltl.atoms", "olivette/ltl.ones", "olivette/ltl.twos", "olivette/ltl.dual"], plainKeys := false, apart := false, laid := [("olivette/ltl.atoms", laid_olivette_ltl_atoms), ("olivette/ltl.ones", laid_olivette_ltl_ones), ("olivette/ltl.twos", laid_olivette_ltl_twos), ("olivette/ltl.dual", laid_olivette_ltl_dual)] }
def LtlOwnSaid : Prop := ltlOwnRow.holds Tryd.pinned (OpenSpec.ofChange ltlOwnSpec)

/-- ITS FALSE NEIGHBOUR: 'it returns false'. Refute it at one input. -/
def ltlOwnWrong : ChangeSpec := { name := "ltlOwn", fn := fun _ => fun
  | [d1, d2] => { results := [.lit (.bool false)], args := [d1, d2] }
  | _ => none }
def LtlOwnWrongFalsely : Prop := ltlOwnRow.holds Tryd.pinned (OpenSpec.ofChange ltlOwnWrong)

/-- 'olivettelaw06.LtlSame': WHATEVER THE INPUT: true; the input reads as it did. -/
def ltlSameSpec : ChangeSpec := { name := "ltlSame", fn := fun _ => fun
  | [d1, d2] => { results := [.lit (.bool true)], args := [d1, d2] }
  | _ => none }
def ltlSameRow : OpenClaim := { program := "ytpbbneclkhfgoaadoor", sum := "1ee57083644d0c4f1fedc02cea8bbff0d55fe1d03ad8b02b598a86d62b4a6057", func := "olivette/olivettelaw06.LtlSame", spec := "ltlSame", unfollowed := true, recurses := true, named := ["olivette/ltl.atoms", "olivette/ltl.ones", "olivette/ltl.twos", "olivette/ltl.dual"], plainKeys := false, apart := false, laid := [("olivette/ltl.atoms", laid_olivette_ltl_atoms), ("olivette/ltl.ones", laid_olivette_ltl_ones), ("olivette/ltl.twos", laid_olivette_ltl_twos), ("olivette/ltl.dual", laid_olivette_ltl_dual)] }
def LtlSameSaid : Prop := ltlSameRow.holds Tryd.pinned (OpenSpec.ofChange ltlSameSpec)

/-- ITS FALSE NEIGHBOUR: 'it returns false'. Refute it at one input. -/
def ltlSameWrong : ChangeSpec := { name := "ltlSame", fn := fun _ => fun
  | [d1, d2] => { results := [.lit (.bool false)], args := [d1, d2] }
  | _ => none }
def LtlSameWrongFalsely : Prop := ltlSameRow.holds Tryd.pinned (OpenSpec.ofChange ltlSameWrong)

/-- 'olivettelaw06.LtlLaws': WHATEVER THE INPUT: true; the input reads as it did. -/
def ltlLawsSpec : ChangeSpec := { name := "ltlLaws", fn := fun _ => fun
  | [d1, d2] => { results := [.lit (.bool true)], args := [d1, d2] }
  | _ => none }
def ltlLawsRow : OpenClaim := { program := "ytpbbneclkhfgoaadoor", sum := "1ee57083644d0c4f1fedc02cea8bbff0d55fe1d03ad8b02b598a86d62b4a6057", func := "olivette/olivettelaw06.LtlLaws", spec := "ltlLaws", unfollowed := true, recurses := true, named := ["olivette/ltl.atoms", "olivette/ltl.ones", "olivette/ltl.twos", "olivette/ltl.dual"], plainKeys := false, apart := false, laid := [("olivette/ltl.atoms", laid_olivette_ltl_atoms), ("olivette/ltl.ones", laid_olivette_ltl_ones), ("olivette/ltl.twos", laid_olivette_ltl_twos), ("olivette/ltl.dual", laid_olivette_ltl_dual)] }
def LtlLawsSaid : Prop := ltlLawsRow.holds Tryd.pinned (OpenSpec.ofChange ltlLawsSpec)

/-- ITS FALSE NEIGHBOUR: 'it returns false'. Refute it at one input. -/
def ltlLawsWrong : ChangeSpec := { name := "ltlLaws", fn := fun _ => fun
  | [d1, d2] => { results := [.lit (.bool false)], args := [d1, d2] }
  | _ => none }
def LtlLawsWrongFalsely : Prop := ltlLawsRow.holds Tryd.pinned (OpenSpec.ofChange ltlLawsWrong)

/-- 'olivettelaw06.LtlSymmetric': WHATEVER THE INPUT: true; the input reads as it did. -/
def ltlSymmetricSpec : ChangeSpec := { name := "ltlSymmetric", fn := fun _ => fun
  | [d1, d2] => { results := [.lit (.bool true)], args := [d1, d2] }
  | _ => none }
def ltlSymmetricRow : OpenClaim := { program := "ytpbbneclkhfgoaadoor", sum := "1ee57083644d0c4f1fedc02cea8bbff0d55fe1d03ad8b02b598a86d62b4a6057", func := "olivette/olivettelaw06.LtlSymmetric", spec := "ltlSymmetric", unfollowed := true, recurses := true, named := ["olivette/ltl.atoms", "olivette/ltl.ones", "olivette/ltl.twos", "olivette/ltl.dual"], plainKeys := false, apart := false, laid := [("olivette/ltl.atoms", laid_olivette_ltl_atoms), ("olivette/ltl.ones", laid_olivette_ltl_ones), ("olivette/ltl.twos", laid_olivette_ltl_twos), ("olivette/ltl.dual", laid_olivette_ltl_dual)] }
def LtlSymmetricSaid : Prop := ltlSymmetricRow.holds Tryd.pinned (OpenSpec.ofChange ltlSymmetricSpec)

/-- ITS FALSE NEIGHBOUR: 'it returns false'. Refute it at one input. -/
def ltlSymmetricWrong : ChangeSpec := { name := "ltlSymmetric", fn := fun _ => fun
  | [d1, d2] => { results := [.lit (.bool false)], args := [d1, d2] }
  | _ => none }
def LtlSymmetricWrongFalsely : Prop := ltlSymmetricRow.holds Tryd.pinned (OpenSpec.ofChange ltlSymmetricWrong)

/-- 'olivettelaw06.LtlHolds': WHATEVER THE INPUT: true; the input reads as it did. -/
def ltlHoldsSpec : ChangeSpec := { name := "ltlHolds", fn := fun _ => fun
  | [d1, d2] => { results := [.lit (.bool true)], args := [d1, d2] }
  | _ => none }
def ltlHoldsRow : OpenClaim := { program := "ytpbbneclkhfgoaadoor", sum := "1ee57083644d0c4f1fedc02cea8bbff0d55fe1d03ad8b02b598a86d62b4a6057", func := "olivette/olivettelaw06.LtlHolds", spec := "ltlHolds", unfollowed := true, recurses := true, named := ["olivette/ltl.atoms", "olivette/ltl.ones", "olivette/ltl.twos", "olivette/ltl.dual"], plainKeys := false, apart := false, laid := [("olivette/ltl.atoms", laid_olivette_ltl_atoms), ("olivette/ltl.ones", laid_olivette_ltl_ones), ("olivette/ltl.twos", laid_olivette_ltl_twos), ("olivette/ltl.dual", laid_olivette_ltl_dual)] }
def LtlHoldsSaid : Prop := ltlHoldsRow.holds Tryd.pinned (OpenSpec.ofChange ltlHoldsSpec)

/-- ITS FALSE NEIGHBOUR: 'it returns false'. Refute it at one input. -/
def ltlHoldsWrong : ChangeSpec := { name := "ltlHolds", fn := fun _ => fun
  | [d1, d2] => { results := [.lit (.bool false)], args := [d1, d2] }
  | _ => none }
def LtlHoldsWrongFalsely : Prop := ltlHoldsRow.holds Tryd.pinned (OpenSpec.ofChange ltlHoldsWrong)

/-- 'olivettelaw06.LtlChecks': WHATEVER THE INPUT: true; the input reads as it did. -/
def ltlChecksSpec : ChangeSpec := { name := "ltlChecks", fn := fun _ => fun
  | [d1, d2, d3] => { results := [.lit (.bool true)], args := [d1, d2, d3] }
  | _ => none }
def ltlChecksRow : OpenClaim := { program := "ytpbbneclkhfgoaadoor", sum := "1ee57083644d0c4f1fedc02cea8bbff0d55fe1d03ad8b02b598a86d62b4a6057", func := "olivette/olivettelaw06.LtlChecks", spec := "ltlChecks", unfollowed := true, recurses := true, named := ["olivette/ltl.atoms", "olivette/ltl.ones", "olivette/ltl.twos", "olivette/ltl.dual"], plainKeys := false, apart := false, laid := [("olivette/ltl.atoms", laid_olivette_ltl_atoms), ("olivette/ltl.ones", laid_olivette_ltl_ones), ("olivette/ltl.twos", laid_olivette_ltl_twos), ("olivette/ltl.dual", laid_olivette_ltl_dual)] }
def LtlChecksSaid : Prop := ltlChecksRow.holds Tryd.pinned (OpenSpec.ofChange ltlChecksSpec)

/-- ITS FALSE NEIGHBOUR: 'it returns false'. Refute it at one input. -/
def ltlChecksWrong : ChangeSpec := { name := "ltlChecks", fn := fun _ => fun
  | [d1, d2, d3] => { results := [.lit (.bool false)], args := [d1, d2, d3] }
  | _ => none }
def LtlChecksWrongFalsely : Prop := ltlChecksRow.holds Tryd.pinned (OpenSpec.ofChange ltlChecksWrong)

/-- 'olivettelaw06.LtlLess': WHATEVER THE INPUT: true; the input reads as it did. -/
def ltlLessSpec : ChangeSpec := { name := "ltlLess", fn := fun _ => fun
  | [d1, d2, d3] => { results := [.lit (.bool true)], args := [d1, d2, d3] }
  | _ => none }
def ltlLessRow : OpenClaim := { program := "ytpbbneclkhfgoaadoor", sum := "1ee57083644d0c4f1fedc02cea8bbff0d55fe1d03ad8b02b598a86d62b4a6057", func := "olivette/olivettelaw06.LtlLess", spec := "ltlLess", unfollowed := true, recurses := true, named := ["olivette/ltl.atoms", "olivette/ltl.ones", "olivette/ltl.twos", "olivette/ltl.dual"], plainKeys := false, apart := false, laid := [("olivette/ltl.atoms", laid_olivette_ltl_atoms), ("olivette/ltl.ones", laid_olivette_ltl_ones), ("olivette/ltl.twos", laid_olivette_ltl_twos), ("olivette/ltl.dual", laid_olivette_ltl_dual)] }
def LtlLessSaid : Prop := ltlLessRow.holds Tryd.pinned (OpenSpec.ofChange ltlLessSpec)

/-- ITS FALSE NEIGHBOUR: 'it returns false'. Refute it at one input. -/
def ltlLessWrong : ChangeSpec := { name := "ltlLess", fn := fun _ => fun
  | [d1, d2, d3] => { results := [.lit (.bool false)], args := [d1, d2, d3] }
  | _ => none }
def LtlLessWrongFalsely : Prop := ltlLessRow.holds Tryd.pinned (OpenSpec.ofChange ltlLessWrong)

/- THE SECOND FORM. 'bulk': how many values and letters a reading holds, each counted each time it is reached (what is shared counts as often as it is met; a slice's spare places count too). A statement '..UptoSaid' is the law's where the arguments, and the package variables that the reading takes, are together of bulk at most 1048576: NARROWER than '..Said'. Prove '..Said' where nothing that the law and all that it calls make is longer than what came in: it says more and counts as full. Else prove '..UptoSaid'. A law counts once. -/
mutual
def uptoBulk {H : Type} : DataW H → Nat
  | .lit (.string bytes) => bytes.length + 1
  | .lit _ => 1
  | .nil => 1
  | .ptr d => uptoBulk d + 1
  | .slice elems spare => uptoBulkAll elems + uptoBulkAll spare + 1
  | .agg parts => uptoBulkAll parts + 1
  | .iface _ d => uptoBulk d + 1
  | .map entries => uptoBulkEntries entries + 1
  | .held _ => 1
def uptoBulkAll {H : Type} : List (DataW H) → Nat
  | [] => 0
  | d :: r => uptoBulk d + uptoBulkAll r
def uptoBulkEntries {H : Type} : List (Lit × DataW H) → Nat
  | [] => 0
  | x :: r => uptoBulkEntry x + uptoBulkEntries r
def uptoBulkEntry {H : Type} : Lit × DataW H → Nat
  | (.string bytes, d) => bytes.length + uptoBulk d + 1
  | (_, d) => uptoBulk d + 1
 end
def uptoSmall : (H : Type) → List (DataW H) → Bool := fun _ ds => decide (uptoBulkAll ds ≤ 1048576)
def OpenSpec.upto (s : _root_.Go.ChangeSpec) : _root_.Go.OpenSpec := { _root_.Go.OpenSpec.ofChange s with cond := some uptoSmall }

/-- 'olivettelaw06.LtlValues', WHERE WHAT IT READS IS OF BULK AT MOST 1048576: true; the input reads as it did. -/
def ltlValuesUptoRow : OpenClaim := { program := "ytpbbneclkhfgoaadoor", sum := "1ee57083644d0c4f1fedc02cea8bbff0d55fe1d03ad8b02b598a86d62b4a6057", func := "olivette/olivettelaw06.LtlValues", spec := "ltlValues", unfollowed := true, recurses := true, named := ["olivette/ltl.atoms", "olivette/ltl.ones", "olivette/ltl.twos", "olivette/ltl.dual"], plainKeys := false, apart := false, laid := [("olivette/ltl.atoms", laid_olivette_ltl_atoms), ("olivette/ltl.ones", laid_olivette_ltl_ones), ("olivette/ltl.twos", laid_olivette_ltl_twos), ("olivette/ltl.dual", laid_olivette_ltl_dual)], narrowed := true }
def LtlValuesUptoSaid : Prop := ltlValuesUptoRow.holds Tryd.pinned (OpenSpec.upto ltlValuesSpec)

/-- 'olivettelaw06.LtlPushes', WHERE WHAT IT READS IS OF BULK AT MOST 1048576: true; the input reads as it did. -/
def ltlPushesUptoRow : OpenClaim := { program := "ytpbbneclkhfgoaadoor", sum := "1ee57083644d0c4f1fedc02cea8bbff0d55fe1d03ad8b02b598a86d62b4a6057", func := "olivette/olivettelaw06.LtlPushes", spec := "ltlPushes", unfollowed := true, recurses := true, named := ["olivette/ltl.atoms", "olivette/ltl.ones", "olivette/ltl.twos", "olivette/ltl.dual"], plainKeys := false, apart := false, laid := [("olivette/ltl.atoms", laid_olivette_ltl_atoms), ("olivette/ltl.ones", laid_olivette_ltl_ones), ("olivette/ltl.twos", laid_olivette_ltl_twos), ("olivette/ltl.dual", laid_olivette_ltl_dual)], narrowed := true }
def LtlPushesUptoSaid : Prop := ltlPushesUptoRow.holds Tryd.pinned (OpenSpec.upto ltlPushesSpec)

/-- 'olivettelaw06.LtlNegates', WHERE WHAT IT READS IS OF BULK AT MOST 1048576: true; the input reads as it did. -/
def ltlNegatesUptoRow : OpenClaim := { program := "ytpbbneclkhfgoaadoor", sum := "1ee57083644d0c4f1fedc02cea8bbff0d55fe1d03ad8b02b598a86d62b4a6057", func := "olivette/olivettelaw06.LtlNegates", spec := "ltlNegates", unfollowed := true, recurses := true, named := ["olivette/ltl.atoms", "olivette/ltl.ones", "olivette/ltl.twos", "olivette/ltl.dual"], plainKeys := false, apart := false, laid := [("olivette/ltl.atoms", laid_olivette_ltl_atoms), ("olivette/ltl.ones", laid_olivette_ltl_ones), ("olivette/ltl.twos", laid_olivette_ltl_twos), ("olivette/ltl.dual", laid_olivette_ltl_dual)], narrowed := true }
def LtlNegatesUptoSaid : Prop := ltlNegatesUptoRow.holds Tryd.pinned (OpenSpec.upto ltlNegatesSpec)

/-- 'olivettelaw06.LtlOne', WHERE WHAT IT READS IS OF BULK AT MOST 1048576: true; the input reads as it did. -/
def ltlOneUptoRow : OpenClaim := { program := "ytpbbneclkhfgoaadoor", sum := "1ee57083644d0c4f1fedc02cea8bbff0d55fe1d03ad8b02b598a86d62b4a6057", func := "olivette/olivettelaw06.LtlOne", spec := "ltlOne", unfollowed := true, recurses := true, named := ["olivette/ltl.atoms", "olivette/ltl.ones", "olivette/ltl.twos", "olivette/ltl.dual"], plainKeys := false, apart := false, laid := [("olivette/ltl.atoms", laid_olivette_ltl_atoms), ("olivette/ltl.ones", laid_olivette_ltl_ones), ("olivette/ltl.twos", laid_olivette_ltl_twos), ("olivette/ltl.dual", laid_olivette_ltl_dual)], narrowed := true }
def LtlOneUptoSaid : Prop := ltlOneUptoRow.holds Tryd.pinned (OpenSpec.upto ltlOneSpec)

/-- 'olivettelaw06.LtlTurns', WHERE WHAT IT READS IS OF BULK AT MOST 1048576: true; the input reads as it did. -/
def ltlTurnsUptoRow : OpenClaim := { program := "ytpbbneclkhfgoaadoor", sum := "1ee57083644d0c4f1fedc02cea8bbff0d55fe1d03ad8b02b598a86d62b4a6057", func := "olivette/olivettelaw06.LtlTurns", spec := "ltlTurns", unfollowed := true, recurses := true, named := ["olivette/ltl.atoms", "olivette/ltl.ones", "olivette/ltl.twos", "olivette/ltl.dual"], plainKeys := false, apart := false, laid := [("olivette/ltl.atoms", laid_olivette_ltl_atoms), ("olivette/ltl.ones", laid_olivette_ltl_ones), ("olivette/ltl.twos", laid_olivette_ltl_twos), ("olivette/ltl.dual", laid_olivette_ltl_dual)], narrowed := true }
def LtlTurnsUptoSaid : Prop := ltlTurnsUptoRow.holds Tryd.pinned (OpenSpec.upto ltlTurnsSpec)

/-- 'olivettelaw06.LtlOwn', WHERE WHAT IT READS IS OF BULK AT MOST 1048576: true; the input reads as it did. -/
def ltlOwnUptoRow : OpenClaim := { program := "ytpbbneclkhfgoaadoor", sum := "1ee57083644d0c4f1fedc02cea8bbff0d55fe1d03ad8b02b598a86d62b4a6057", func := "olivette/olivettelaw06.LtlOwn", spec := "ltlOwn", unfollowed := true, recurses := true, named := ["olivette/ltl.atoms", "olivette/ltl.ones", "olivette/ltl.twos", "olivette/ltl.dual"], plainKeys := false, apart := false, laid := [("olivette/ltl.atoms", laid_olivette_ltl_atoms), ("olivette/ltl.ones", laid_olivette_ltl_ones), ("olivette/ltl.twos", laid_olivette_ltl_twos), ("olivette/ltl.dual", laid_olivette_ltl_dual)], narrowed := true }
def LtlOwnUptoSaid : Prop := ltlOwnUptoRow.holds Tryd.pinned (OpenSpec.upto ltlOwnSpec)

/-- 'olivettelaw06.LtlSame', WHERE WHAT IT READS IS OF BULK AT MOST 1048576: true; the input reads as it did. -/
def ltlSameUptoRow : OpenClaim := { program := "ytpbbneclkhfgoaadoor", sum := "1ee57083644d0c4f1fedc02cea8bbff0d55fe1d03ad8b02b598a86d62b4a6057", func := "olivette/olivettelaw06.LtlSame", spec := "ltlSame", unfollowed := true, recurses := true, named := ["olivette/ltl.atoms", "olivette/ltl.ones", "olivette/ltl.twos", "olivette/ltl.dual"], plainKeys := false, apart := false, laid := [("olivette/ltl.atoms", laid_olivette_ltl_atoms), ("olivette/ltl.ones", laid_olivette_ltl_ones), ("olivette/ltl.twos", laid_olivette_ltl_twos), ("olivette/ltl.dual", laid_olivette_ltl_dual)], narrowed := true }
def LtlSameUptoSaid : Prop := ltlSameUptoRow.holds Tryd.pinned (OpenSpec.upto ltlSameSpec)

/-- 'olivettelaw06.LtlLaws', WHERE WHAT IT READS IS OF BULK AT MOST 1048576: true; the input reads as it did. -/
def ltlLawsUptoRow : OpenClaim := { program := "ytpbbneclkhfgoaadoor", sum := "1ee57083644d0c4f1fedc02cea8bbff0d55fe1d03ad8b02b598a86d62b4a6057", func := "olivette/olivettelaw06.LtlLaws", spec := "ltlLaws", unfollowed := true, recurses := true, named := ["olivette/ltl.atoms", "olivette/ltl.ones", "olivette/ltl.twos", "olivette/ltl.dual"], plainKeys := false, apart := false, laid := [("olivette/ltl.atoms", laid_olivette_ltl_atoms), ("olivette/ltl.ones", laid_olivette_ltl_ones), ("olivette/ltl.twos", laid_olivette_ltl_twos), ("olivette/ltl.dual", laid_olivette_ltl_dual)], narrowed := true }
def LtlLawsUptoSaid : Prop := ltlLawsUptoRow.holds Tryd.pinned (OpenSpec.upto ltlLawsSpec)

/-- 'olivettelaw06.LtlSymmetric', WHERE WHAT IT READS IS OF BULK AT MOST 1048576: true; the input reads as it did. -/
def ltlSymmetricUptoRow : OpenClaim := { program := "ytpbbneclkhfgoaadoor", sum := "1ee57083644d0c4f1fedc02cea8bbff0d55fe1d03ad8b02b598a86d62b4a6057", func := "olivette/olivettelaw06.LtlSymmetric", spec := "ltlSymmetric", unfollowed := true, recurses := true, named := ["olivette/ltl.atoms", "olivette/ltl.ones", "olivette/ltl.twos", "olivette/ltl.dual"], plainKeys := false, apart := false, laid := [("olivette/ltl.atoms", laid_olivette_ltl_atoms), ("olivette/ltl.ones", laid_olivette_ltl_ones), ("olivette/ltl.twos", laid_olivette_ltl_twos), ("olivette/ltl.dual", laid_olivette_ltl_dual)], narrowed := true }
def LtlSymmetricUptoSaid : Prop := ltlSymmetricUptoRow.holds Tryd.pinned (OpenSpec.upto ltlSymmetricSpec)

/-- 'olivettelaw06.LtlHolds', WHERE WHAT IT READS IS OF BULK AT MOST 1048576: true; the input reads as it did. -/
def ltlHoldsUptoRow : OpenClaim := { program := "ytpbbneclkhfgoaadoor", sum := "1ee57083644d0c4f1fedc02cea8bbff0d55fe1d03ad8b02b598a86d62b4a6057", func := "olivette/olivettelaw06.LtlHolds", spec := "ltlHolds", unfollowed := true, recurses := true, named := ["olivette/ltl.atoms", "olivette/ltl.ones", "olivette/ltl.twos", "olivette/ltl.dual"], plainKeys := false, apart := false, laid := [("olivette/ltl.atoms", laid_olivette_ltl_atoms), ("olivette/ltl.ones", laid_olivette_ltl_ones), ("olivette/ltl.twos", laid_olivette_ltl_twos), ("olivette/ltl.dual", laid_olivette_ltl_dual)], narrowed := true }
def LtlHoldsUptoSaid : Prop := ltlHoldsUptoRow.holds Tryd.pinned (OpenSpec.upto ltlHoldsSpec)

/-- 'olivettelaw06.LtlChecks', WHERE WHAT IT READS IS OF BULK AT MOST 1048576: true; the input reads as it did. -/
def ltlChecksUptoRow : OpenClaim := { program := "ytpbbneclkhfgoaadoor", sum := "1ee57083644d0c4f1fedc02cea8bbff0d55fe1d03ad8b02b598a86d62b4a6057", func := "olivette/olivettelaw06.LtlChecks", spec := "ltlChecks", unfollowed := true, recurses := true, named := ["olivette/ltl.atoms", "olivette/ltl.ones", "olivette/ltl.twos", "olivette/ltl.dual"], plainKeys := false, apart := false, laid := [("olivette/ltl.atoms", laid_olivette_ltl_atoms), ("olivette/ltl.ones", laid_olivette_ltl_ones), ("olivette/ltl.twos", laid_olivette_ltl_twos), ("olivette/ltl.dual", laid_olivette_ltl_dual)], narrowed := true }
def LtlChecksUptoSaid : Prop := ltlChecksUptoRow.holds Tryd.pinned (OpenSpec.upto ltlChecksSpec)

/-- 'olivettelaw06.LtlLess', WHERE WHAT IT READS IS OF BULK AT MOST 1048576: true; the input reads as it did. -/
def ltlLessUptoRow : OpenClaim := { program := "ytpbbneclkhfgoaadoor", sum := "1ee57083644d0c4f1fedc02cea8bbff0d55fe1d03ad8b02b598a86d62b4a6057", func := "olivette/olivettelaw06.LtlLess", spec := "ltlLess", unfollowed := true, recurses := true, named := ["olivette/ltl.atoms", "olivette/ltl.ones", "olivette/ltl.twos", "olivette/ltl.dual"], plainKeys := false, apart := false, laid := [("olivette/ltl.atoms", laid_olivette_ltl_atoms), ("olivette/ltl.ones", laid_olivette_ltl_ones), ("olivette/ltl.twos", laid_olivette_ltl_twos), ("olivette/ltl.dual", laid_olivette_ltl_dual)], narrowed := true }
def LtlLessUptoSaid : Prop := ltlLessUptoRow.holds Tryd.pinned (OpenSpec.upto ltlLessSpec)

end Rows
end Go.Proofs.YtpbbneclkhfgoaaDoor

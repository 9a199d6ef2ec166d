/-
  No cell of these rows narrows 'for every input' (looked for: loops, veiled, ifaces, maps, wideKeys, modest, calm, conditions, laid).
  DERIVED. THE GIVEN ROWS OF THIS SEAT. 12 by the template 'for every input the law returns true; each argument reads behind the call as it read before'; 0 by the template 'total and deterministic' (their statements: YtagfpnnplgkkoaaTotals.lean).
  GIVEN WITH THE SEED: the statements are not yours to turn. If you find one false, say at which input.
  Laid BY PROGRAM, IN A SANDBOX (cutbox-rows.mjs): the forced cells as the released guide's own fill.sh prints them over the translation 60f8abb4c18b8eab… (all of the seat's roots in one cut). By AI agents, Wed Nov 11 2026. No macro, syntax, notation, axiom, sorry.
-/
import Derived.Test.YtagfpnnplgkkoaaChecked
import GoSem.Claim
import GoSem.ClaimJoined
import GoSem.ClaimMapViews
import Derived.JoinedTies
import Derived.KernelRfl
namespace Go.Proofs.Ytagfpnnplgkkoaa
/- THE CELL 'sum', in the pinned program and in every row, IS THE sha256 OF THE DUMP (.gsa) THAT YtagfpnnplgkkoaaProg.lean LOADS. Nothing in Lean hashes anything: it is a label: what it is worth is what the hold of that sum in a sandbox is worth. -/
noncomputable def Try.pinned : Pinned := { name := "ytagfpnnplgkkoaa", sum := "60f8abb4c18b8eabe63a32745ed6d91941dcb554bb7550f8a76c4de05d09b5af", checked := Try.checked }
namespace Rows
def none {H : Type} : Left H := { results := [], args := [] }

/-- 'olivettelaw02.PolySums': WHATEVER THE INPUT: true; the input reads as it did. -/
def polySumsSpec : ChangeSpec := { name := "polySums", fn := fun _ => fun
  | [d1, d2] => { results := [.lit (.bool true)], args := [d1, d2] }
  | _ => none }
def polySumsRow : OpenClaim := { program := "ytagfpnnplgkkoaa", sum := "60f8abb4c18b8eabe63a32745ed6d91941dcb554bb7550f8a76c4de05d09b5af", func := "olivette/olivettelaw02.PolySums", spec := "polySums", unfollowed := true, recurses := true, apart := false }
def PolySumsSaid : Prop := polySumsRow.holds Try.pinned (OpenSpec.ofChange polySumsSpec)

/-- ITS FALSE NEIGHBOUR: 'it returns false'. Refute it at one input. -/
def polySumsWrong : ChangeSpec := { name := "polySums", fn := fun _ => fun
  | [d1, d2] => { results := [.lit (.bool false)], args := [d1, d2] }
  | _ => none }
def PolySumsWrongFalsely : Prop := polySumsRow.holds Try.pinned (OpenSpec.ofChange polySumsWrong)

/-- 'olivettelaw02.PolyQuotients': WHATEVER THE INPUT: true; the input reads as it did. -/
def polyQuotientsSpec : ChangeSpec := { name := "polyQuotients", fn := fun _ => fun
  | [d1, d2] => { results := [.lit (.bool true)], args := [d1, d2] }
  | _ => none }
def polyQuotientsRow : OpenClaim := { program := "ytagfpnnplgkkoaa", sum := "60f8abb4c18b8eabe63a32745ed6d91941dcb554bb7550f8a76c4de05d09b5af", func := "olivette/olivettelaw02.PolyQuotients", spec := "polyQuotients", unfollowed := true, recurses := true, apart := false }
def PolyQuotientsSaid : Prop := polyQuotientsRow.holds Try.pinned (OpenSpec.ofChange polyQuotientsSpec)

/-- ITS FALSE NEIGHBOUR: 'it returns false'. Refute it at one input. -/
def polyQuotientsWrong : ChangeSpec := { name := "polyQuotients", fn := fun _ => fun
  | [d1, d2] => { results := [.lit (.bool false)], args := [d1, d2] }
  | _ => none }
def PolyQuotientsWrongFalsely : Prop := polyQuotientsRow.holds Try.pinned (OpenSpec.ofChange polyQuotientsWrong)

/-- 'olivettelaw02.PolyDivides': WHATEVER THE INPUT: true; the input reads as it did. -/
def polyDividesSpec : ChangeSpec := { name := "polyDivides", fn := fun _ => fun
  | [d1, d2] => { results := [.lit (.bool true)], args := [d1, d2] }
  | _ => none }
def polyDividesRow : OpenClaim := { program := "ytagfpnnplgkkoaa", sum := "60f8abb4c18b8eabe63a32745ed6d91941dcb554bb7550f8a76c4de05d09b5af", func := "olivette/olivettelaw02.PolyDivides", spec := "polyDivides", unfollowed := true, recurses := true, apart := false }
def PolyDividesSaid : Prop := polyDividesRow.holds Try.pinned (OpenSpec.ofChange polyDividesSpec)

/-- ITS FALSE NEIGHBOUR: 'it returns false'. Refute it at one input. -/
def polyDividesWrong : ChangeSpec := { name := "polyDivides", fn := fun _ => fun
  | [d1, d2] => { results := [.lit (.bool false)], args := [d1, d2] }
  | _ => none }
def PolyDividesWrongFalsely : Prop := polyDividesRow.holds Try.pinned (OpenSpec.ofChange polyDividesWrong)

/-- 'olivettelaw02.PolyValues': WHATEVER THE INPUT: true; the input reads as it did. -/
def polyValuesSpec : ChangeSpec := { name := "polyValues", fn := fun _ => fun
  | [d1, d2, d3] => { results := [.lit (.bool true)], args := [d1, d2, d3] }
  | _ => none }
def polyValuesRow : OpenClaim := { program := "ytagfpnnplgkkoaa", sum := "60f8abb4c18b8eabe63a32745ed6d91941dcb554bb7550f8a76c4de05d09b5af", func := "olivette/olivettelaw02.PolyValues", spec := "polyValues", unfollowed := true, recurses := true, apart := false }
def PolyValuesSaid : Prop := polyValuesRow.holds Try.pinned (OpenSpec.ofChange polyValuesSpec)

/-- ITS FALSE NEIGHBOUR: 'it returns false'. Refute it at one input. -/
def polyValuesWrong : ChangeSpec := { name := "polyValues", fn := fun _ => fun
  | [d1, d2, d3] => { results := [.lit (.bool false)], args := [d1, d2, d3] }
  | _ => none }
def PolyValuesWrongFalsely : Prop := polyValuesRow.holds Try.pinned (OpenSpec.ofChange polyValuesWrong)

/-- 'olivettelaw02.PolyGcds': WHATEVER THE INPUT: true; the input reads as it did. -/
def polyGcdsSpec : ChangeSpec := { name := "polyGcds", fn := fun _ => fun
  | [d1, d2] => { results := [.lit (.bool true)], args := [d1, d2] }
  | _ => none }
def polyGcdsRow : OpenClaim := { program := "ytagfpnnplgkkoaa", sum := "60f8abb4c18b8eabe63a32745ed6d91941dcb554bb7550f8a76c4de05d09b5af", func := "olivette/olivettelaw02.PolyGcds", spec := "polyGcds", unfollowed := true, recurses := true, apart := false }
def PolyGcdsSaid : Prop := polyGcdsRow.holds Try.pinned (OpenSpec.ofChange polyGcdsSpec)

/-- ITS FALSE NEIGHBOUR: 'it returns false'. Refute it at one input. -/
def polyGcdsWrong : ChangeSpec := { name := "polyGcds", fn := fun _ => fun
  | [d1, d2] => { results := [.lit (.bool false)], args := [d1, d2] }
  | _ => none }
def PolyGcdsWrongFalsely : Prop := polyGcdsRow.holds Try.pinned (OpenSpec.ofChange polyGcdsWrong)

/-- 'olivettelaw02.PolyPoints': WHATEVER THE INPUT: true; the input reads as it did. -/
def polyPointsSpec : ChangeSpec := { name := "polyPoints", fn := fun _ => fun
  | [d1, d2] => { results := [.lit (.bool true)], args := [d1, d2] }
  | _ => none }
def polyPointsRow : OpenClaim := { program := "ytagfpnnplgkkoaa", sum := "60f8abb4c18b8eabe63a32745ed6d91941dcb554bb7550f8a76c4de05d09b5af", func := "olivette/olivettelaw02.PolyPoints", spec := "polyPoints", unfollowed := true, recurses := true, apart := false }
def PolyPointsSaid : Prop := polyPointsRow.holds Try.pinned (OpenSpec.ofChange polyPointsSpec)

/-- ITS FALSE NEIGHBOUR: 'it returns false'. Refute it at one input. -/
def polyPointsWrong : ChangeSpec := { name := "polyPoints", fn := fun _ => fun
  | [d1, d2] => { results := [.lit (.bool false)], args := [d1, d2] }
  | _ => none }
def PolyPointsWrongFalsely : Prop := polyPointsRow.holds Try.pinned (OpenSpec.ofChange polyPointsWrong)

/-- 'olivettelaw02.PolyRing': WHATEVER THE INPUT: true; the input reads as it did. -/
def polyRingSpec : ChangeSpec := { name := "polyRing", fn := fun _ => fun
  | [d1, d2, d3] => { results := [.lit (.bool true)], args := [d1, d2, d3] }
  | _ => none }
def polyRingRow : OpenClaim := { program := "ytagfpnnplgkkoaa", sum := "60f8abb4c18b8eabe63a32745ed6d91941dcb554bb7550f8a76c4de05d09b5af", func := "olivette/olivettelaw02.PolyRing", spec := "polyRing", unfollowed := true, recurses := true, apart := false }
def PolyRingSaid : Prop := polyRingRow.holds Try.pinned (OpenSpec.ofChange polyRingSpec)

/-- ITS FALSE NEIGHBOUR: 'it returns false'. Refute it at one input. -/
def polyRingWrong : ChangeSpec := { name := "polyRing", fn := fun _ => fun
  | [d1, d2, d3] => { results := [.lit (.bool false)], args := [d1, d2, d3] }
  | _ => none }
def PolyRingWrongFalsely : Prop := polyRingRow.holds Try.pinned (OpenSpec.ofChange polyRingWrong)

/-- 'olivettelaw02.PolyBezout': WHATEVER THE INPUT: true; the input reads as it did. -/
def polyBezoutSpec : ChangeSpec := { name := "polyBezout", fn := fun _ => fun
  | [d1, d2] => { results := [.lit (.bool true)], args := [d1, d2] }
  | _ => none }
def polyBezoutRow : OpenClaim := { program := "ytagfpnnplgkkoaa", sum := "60f8abb4c18b8eabe63a32745ed6d91941dcb554bb7550f8a76c4de05d09b5af", func := "olivette/olivettelaw02.PolyBezout", spec := "polyBezout", unfollowed := true, recurses := true, apart := false }
def PolyBezoutSaid : Prop := polyBezoutRow.holds Try.pinned (OpenSpec.ofChange polyBezoutSpec)

/-- ITS FALSE NEIGHBOUR: 'it returns false'. Refute it at one input. -/
def polyBezoutWrong : ChangeSpec := { name := "polyBezout", fn := fun _ => fun
  | [d1, d2] => { results := [.lit (.bool false)], args := [d1, d2] }
  | _ => none }
def PolyBezoutWrongFalsely : Prop := polyBezoutRow.holds Try.pinned (OpenSpec.ofChange polyBezoutWrong)

/-- 'olivettelaw02.PolyAgain': WHATEVER THE INPUT: true; the input reads as it did. -/
def polyAgainSpec : ChangeSpec := { name := "polyAgain", fn := fun _ => fun
  | [d1, d2, d3] => { results := [.lit (.bool true)], args := [d1, d2, d3] }
  | _ => none }
def polyAgainRow : OpenClaim := { program := "ytagfpnnplgkkoaa", sum := "60f8abb4c18b8eabe63a32745ed6d91941dcb554bb7550f8a76c4de05d09b5af", func := "olivette/olivettelaw02.PolyAgain", spec := "polyAgain", unfollowed := true, recurses := true, apart := false }
def PolyAgainSaid : Prop := polyAgainRow.holds Try.pinned (OpenSpec.ofChange polyAgainSpec)

/-- ITS FALSE NEIGHBOUR: 'it returns false'. Refute it at one input. -/
def polyAgainWrong : ChangeSpec := { name := "polyAgain", fn := fun _ => fun
  | [d1, d2, d3] => { results := [.lit (.bool false)], args := [d1, d2, d3] }
  | _ => none }
def PolyAgainWrongFalsely : Prop := polyAgainRow.holds Try.pinned (OpenSpec.ofChange polyAgainWrong)

/-- 'olivettelaw02.PolyRoots': WHATEVER THE INPUT: true; the input reads as it did. -/
def polyRootsSpec : ChangeSpec := { name := "polyRoots", fn := fun _ => fun
  | [d1, d2] => { results := [.lit (.bool true)], args := [d1, d2] }
  | _ => none }
def polyRootsRow : OpenClaim := { program := "ytagfpnnplgkkoaa", sum := "60f8abb4c18b8eabe63a32745ed6d91941dcb554bb7550f8a76c4de05d09b5af", func := "olivette/olivettelaw02.PolyRoots", spec := "polyRoots", unfollowed := true, recurses := true, apart := false }
def PolyRootsSaid : Prop := polyRootsRow.holds Try.pinned (OpenSpec.ofChange polyRootsSpec)

/-- ITS FALSE NEIGHBOUR: 'it returns false'. Refute it at one input. -/
def polyRootsWrong : ChangeSpec := { name := "polyRoots", fn := fun _ => fun
  | [d1, d2] => { results := [.lit (.bool false)], args := [d1, d2] }
  | _ => none }
def PolyRootsWrongFalsely : Prop := polyRootsRow.holds Try.pinned (OpenSpec.ofChange polyRootsWrong)

/-- 'olivettelaw02.PolyOwn': WHATEVER THE INPUT: true; the input reads as it did. -/
def polyOwnSpec : ChangeSpec := { name := "polyOwn", fn := fun _ => fun
  | [d1, d2] => { results := [.lit (.bool true)], args := [d1, d2] }
  | _ => none }
def polyOwnRow : OpenClaim := { program := "ytagfpnnplgkkoaa", sum := "60f8abb4c18b8eabe63a32745ed6d91941dcb554bb7550f8a76c4de05d09b5af", func := "olivette/olivettelaw02.PolyOwn", spec := "polyOwn", unfollowed := true, recurses := true, apart := false }
def PolyOwnSaid : Prop := polyOwnRow.holds Try.pinned (OpenSpec.ofChange polyOwnSpec)

/-- ITS FALSE NEIGHBOUR: 'it returns false'. Refute it at one input. -/
def polyOwnWrong : ChangeSpec := { name := "polyOwn", fn := fun _ => fun
  | [d1, d2] => { results := [.lit (.bool false)], args := [d1, d2] }
  | _ => none }
def PolyOwnWrongFalsely : Prop := polyOwnRow.holds Try.pinned (OpenSpec.ofChange polyOwnWrong)

/-- 'olivettelaw02.PolyFactors': WHATEVER THE INPUT: true; the input reads as it did. -/
def polyFactorsSpec : ChangeSpec := { name := "polyFactors", fn := fun _ => fun
  | [d1, d2] => { results := [.lit (.bool true)], args := [d1, d2] }
  | _ => none }
def polyFactorsRow : OpenClaim := { program := "ytagfpnnplgkkoaa", sum := "60f8abb4c18b8eabe63a32745ed6d91941dcb554bb7550f8a76c4de05d09b5af", func := "olivette/olivettelaw02.PolyFactors", spec := "polyFactors", unfollowed := true, recurses := true, apart := false }
def PolyFactorsSaid : Prop := polyFactorsRow.holds Try.pinned (OpenSpec.ofChange polyFactorsSpec)

/-- ITS FALSE NEIGHBOUR: 'it returns false'. Refute it at one input. -/
def polyFactorsWrong : ChangeSpec := { name := "polyFactors", fn := fun _ => fun
  | [d1, d2] => { results := [.lit (.bool false)], args := [d1, d2] }
  | _ => none }
def PolyFactorsWrongFalsely : Prop := polyFactorsRow.holds Try.pinned (OpenSpec.ofChange polyFactorsWrong)

/- THE SECOND FORM. 'bulk': how many values and letters a reading holds, each counted each time it is reached (what is shared counts as often as it is met; a slice's spare places count too). A statement '..UptoSaid' is the law's where the arguments, and the package variables that the reading takes, are together of bulk at most 1048576: NARROWER than '..Said'. Prove '..Said' where nothing that the law and all that it calls make is longer than what came in: it says more and counts as full. Else prove '..UptoSaid'. A law counts once. -/
mutual
def uptoBulk {H : Type} : DataW H → Nat
  | .lit (.string bytes) => bytes.length + 1
  | .lit _ => 1
  | .nil => 1
  | .ptr d => uptoBulk d + 1
  | .slice elems spare => uptoBulkAll elems + uptoBulkAll spare + 1
  | .agg parts => uptoBulkAll parts + 1
  | .iface _ d => uptoBulk d + 1
  | .map entries => uptoBulkEntries entries + 1
  | .held _ => 1
def uptoBulkAll {H : Type} : List (DataW H) → Nat
  | [] => 0
  | d :: r => uptoBulk d + uptoBulkAll r
def uptoBulkEntries {H : Type} : List (Lit × DataW H) → Nat
  | [] => 0
  | x :: r => uptoBulkEntry x + uptoBulkEntries r
def uptoBulkEntry {H : Type} : Lit × DataW H → Nat
  | (.string bytes, d) => bytes.length + uptoBulk d + 1
  | (_, d) => uptoBulk d + 1
 end
def uptoSmall : (H : Type) → List (DataW H) → Bool := fun _ ds => decide (uptoBulkAll ds ≤ 1048576)
def OpenSpec.upto (s : _root_.Go.ChangeSpec) : _root_.Go.OpenSpec := { _root_.Go.OpenSpec.ofChange s with cond := some uptoSmall }

/-- 'olivettelaw02.PolySums', WHERE WHAT IT READS IS OF BULK AT MOST 1048576: true; the input reads as it did. -/
def polySumsUptoRow : OpenClaim := { program := "ytagfpnnplgkkoaa", sum := "60f8abb4c18b8eabe63a32745ed6d91941dcb554bb7550f8a76c4de05d09b5af", func := "olivette/olivettelaw02.PolySums", spec := "polySums", unfollowed := true, recurses := true, apart := false, narrowed := true }
def PolySumsUptoSaid : Prop := polySumsUptoRow.holds Try.pinned (OpenSpec.upto polySumsSpec)

/-- 'olivettelaw02.PolyQuotients', WHERE WHAT IT READS IS OF BULK AT MOST 1048576: true; the input reads as it did. -/
def polyQuotientsUptoRow : OpenClaim := { program := "ytagfpnnplgkkoaa", sum := "60f8abb4c18b8eabe63a32745ed6d91941dcb554bb7550f8a76c4de05d09b5af", func := "olivette/olivettelaw02.PolyQuotients", spec := "polyQuotients", unfollowed := true, recurses := true, apart := false, narrowed := true }
def PolyQuotientsUptoSaid : Prop := polyQuotientsUptoRow.holds Try.pinned (OpenSpec.upto polyQuotientsSpec)

/-- 'olivettelaw02.PolyDivides', WHERE WHAT IT READS IS OF BULK AT MOST 1048576: true; the input reads as it did. -/
def polyDividesUptoRow : OpenClaim := { program := "ytagfpnnplgkkoaa", sum := "60f8abb4c18b8eabe63a32745ed6d91941dcb554bb7550f8a76c4de05d09b5af", func := "olivette/olivettelaw02.PolyDivides", spec := "polyDivides", unfollowed := true, recurses := true, apart := false, narrowed := true }
def PolyDividesUptoSaid : Prop := polyDividesUptoRow.holds Try.pinned (OpenSpec.upto polyDividesSpec)

/-- 'olivettelaw02.PolyValues', WHERE WHAT IT READS IS OF BULK AT MOST 1048576: true; the input reads as it did. -/
def polyValuesUptoRow : OpenClaim := { program := "ytagfpnnplgkkoaa", sum := "60f8abb4c18b8eabe63a32745ed6d91941dcb554bb7550f8a76c4de05d09b5af", func := "olivette/olivettelaw02.PolyValues", spec := "polyValues", unfollowed := true, recurses := true, apart := false, narrowed := true }
def PolyValuesUptoSaid : Prop := polyValuesUptoRow.holds Try.pinned (OpenSpec.upto polyValuesSpec)

/-- 'olivettelaw02.PolyGcds', WHERE WHAT IT READS IS OF BULK AT MOST 1048576: true; the input reads as it did. -/
def polyGcdsUptoRow : OpenClaim := { program := "ytagfpnnplgkkoaa", sum := "60f8abb4c18b8eabe63a32745ed6d91941dcb554bb7550f8a76c4de05d09b5af", func := "olivette/olivettelaw02.PolyGcds", spec := "polyGcds", unfollowed := true, recurses := true, apart := false, narrowed := true }
def PolyGcdsUptoSaid : Prop := polyGcdsUptoRow.holds Try.pinned (OpenSpec.upto polyGcdsSpec)

/-- 'olivettelaw02.PolyPoints', WHERE WHAT IT READS IS OF BULK AT MOST 1048576: true; the input reads as it did. -/
def polyPointsUptoRow : OpenClaim := { program := "ytagfpnnplgkkoaa", sum := "60f8abb4c18b8eabe63a32745ed6d91941dcb554bb7550f8a76c4de05d09b5af", func := "olivette/olivettelaw02.PolyPoints", spec := "polyPoints", unfollowed := true, recurses := true, apart := false, narrowed := true }
def PolyPointsUptoSaid : Prop := polyPointsUptoRow.holds Try.pinned (OpenSpec.upto polyPointsSpec)

/-- 'olivettelaw02.PolyRing', WHERE WHAT IT READS IS OF BULK AT MOST 1048576: true; the input reads as it did. -/
def polyRingUptoRow : OpenClaim := { program := "ytagfpnnplgkkoaa", sum := "60f8abb4c18b8eabe63a32745ed6d91941dcb554bb7550f8a76c4de05d09b5af", func := "olivette/olivettelaw02.PolyRing", spec := "polyRing", unfollowed := true, recurses := true, apart := false, narrowed := true }
def PolyRingUptoSaid : Prop := polyRingUptoRow.holds Try.pinned (OpenSpec.upto polyRingSpec)

/-- 'olivettelaw02.PolyBezout', WHERE WHAT IT READS IS OF BULK AT MOST 1048576: true; the input reads as it did. -/
def polyBezoutUptoRow : OpenClaim := { program := "ytagfpnnplgkkoaa", sum := "60f8abb4c18b8eabe63a32745ed6d91941dcb554bb7550f8a76c4de05d09b5af", func := "olivette/olivettelaw02.PolyBezout", spec := "polyBezout", unfollowed := true, recurses := true, apart := false, narrowed := true }
def PolyBezoutUptoSaid : Prop := polyBezoutUptoRow.holds Try.pinned (OpenSpec.upto polyBezoutSpec)

/-- 'olivettelaw02.PolyAgain', WHERE WHAT IT READS IS OF BULK AT MOST 1048576: true; the input reads as it did. -/
def polyAgainUptoRow : OpenClaim := { program := "ytagfpnnplgkkoaa", sum := "60f8abb4c18b8eabe63a32745ed6d91941dcb554bb7550f8a76c4de05d09b5af", func := "olivette/olivettelaw02.PolyAgain", spec := "polyAgain", unfollowed := true, recurses := true, apart := false, narrowed := true }
def PolyAgainUptoSaid : Prop := polyAgainUptoRow.holds Try.pinned (OpenSpec.upto polyAgainSpec)

/-- 'olivettelaw02.PolyRoots', WHERE WHAT IT READS IS OF BULK AT MOST 1048576: true; the input reads as it did. -/
def polyRootsUptoRow : OpenClaim := { program := "ytagfpnnplgkkoaa", sum := "60f8abb4c18b8eabe63a32745ed6d91941dcb554bb7550f8a76c4de05d09b5af", func := "olivette/olivettelaw02.PolyRoots", spec := "polyRoots", unfollowed := true, recurses := true, apart := false, narrowed := true }
def PolyRootsUptoSaid : Prop := polyRootsUptoRow.holds Try.pinned (OpenSpec.upto polyRootsSpec)

/-- 'olivettelaw02.PolyOwn', WHERE WHAT IT READS IS OF BULK AT MOST 1048576: true; the input reads as it did. -/
def polyOwnUptoRow : OpenClaim := { program := "ytagfpnnplgkkoaa", sum := "60f8abb4c18b8eabe63a32745ed6d91941dcb554bb7550f8a76c4de05d09b5af", func := "olivette/olivettelaw02.PolyOwn", spec := "polyOwn", unfollowed := true, recurses := true, apart := false, narrowed := true }
def PolyOwnUptoSaid : Prop := polyOwnUptoRow.holds Try.pinned (OpenSpec.upto polyOwnSpec)

/-- 'olivettelaw02.PolyFactors', WHERE WHAT IT READS IS OF BULK AT MOST 1048576: true; the input reads as it did. -/
def polyFactorsUptoRow : OpenClaim := { program := "ytagfpnnplgkkoaa", sum := "60f8abb4c18b8eabe63a32745ed6d91941dcb554bb7550f8a76c4de05d09b5af", func := "olivette/olivettelaw02.PolyFactors", spec := "polyFactors", unfollowed := true, recurses := true, apart := false, narrowed := true }
def PolyFactorsUptoSaid : Prop := polyFactorsUptoRow.holds Try.pinned (OpenSpec.upto polyFactorsSpec)

end Rows
end Go.Proofs.Ytagfpnnplgkkoaa

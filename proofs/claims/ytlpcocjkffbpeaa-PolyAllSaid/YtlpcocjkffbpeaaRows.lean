/-
  No cell of these rows narrows 'for every input' (looked for: loops, veiled, ifaces, maps, wideKeys, modest, calm, conditions, laid).
  DERIVED. THE GIVEN ROWS OF THIS SEAT. 7 by the template 'for every input the law returns true; each argument reads behind the call as it read before'; 0 by the template 'total and deterministic' (their statements: YtlpcocjkffbpeaaTotals.lean).
  GIVEN WITH THE SEED: the statements are not yours to turn. If you find one false, say at which input.
  Laid BY PROGRAM, IN A SANDBOX (cutbox-rows.mjs): the forced cells as the released guide's own fill.sh prints them over the translation cdfb7fff00b8628d… (all of the seat's roots in one cut). By AI agents, Wed Nov 11 2026. No macro, syntax, notation, axiom, sorry.
-/
import Derived.Test.YtlpcocjkffbpeaaChecked
import GoSem.Claim
import GoSem.ClaimJoined
import GoSem.ClaimMapViews
import Derived.JoinedTies
import Derived.KernelRfl
namespace Go.Proofs.Ytlpcocjkffbpeaa
/- THE CELL 'sum', in the pinned program and in every row, IS THE sha256 OF THE DUMP (.gsa) THAT YtlpcocjkffbpeaaProg.lean LOADS. Nothing in Lean hashes anything: it is a label: what it is worth is what the hold of that sum in a sandbox is worth. -/
noncomputable def Try.pinned : Pinned := { name := "ytlpcocjkffbpeaa", sum := "cdfb7fff00b8628d16f1d84599172184890917ff87f6fb4a8ffcf3cd5e03a4f1", checked := Try.checked }
namespace Rows
def none {H : Type} : Left H := { results := [], args := [] }

/-- 'olivettelaw02.PolyCounts': WHATEVER THE INPUT: true; the input reads as it did. -/
def polyCountsSpec : ChangeSpec := { name := "polyCounts", fn := fun _ => fun
  | [d1, d2] => { results := [.lit (.bool true)], args := [d1, d2] }
  | _ => none }
def polyCountsRow : OpenClaim := { program := "ytlpcocjkffbpeaa", sum := "cdfb7fff00b8628d16f1d84599172184890917ff87f6fb4a8ffcf3cd5e03a4f1", func := "olivette/olivettelaw02.PolyCounts", spec := "polyCounts", unfollowed := true, recurses := true, apart := false }
def PolyCountsSaid : Prop := polyCountsRow.holds Try.pinned (OpenSpec.ofChange polyCountsSpec)

/-- ITS FALSE NEIGHBOUR: 'it returns false'. Refute it at one input. -/
def polyCountsWrong : ChangeSpec := { name := "polyCounts", fn := fun _ => fun
  | [d1, d2] => { results := [.lit (.bool false)], args := [d1, d2] }
  | _ => none }
def PolyCountsWrongFalsely : Prop := polyCountsRow.holds Try.pinned (OpenSpec.ofChange polyCountsWrong)

/-- 'olivettelaw02.PolyAll': WHATEVER THE INPUT: true; the input reads as it did. -/
def polyAllSpec : ChangeSpec := { name := "polyAll", fn := fun _ => fun
  | [d1, d2] => { results := [.lit (.bool true)], args := [d1, d2] }
  | _ => none }
def polyAllRow : OpenClaim := { program := "ytlpcocjkffbpeaa", sum := "cdfb7fff00b8628d16f1d84599172184890917ff87f6fb4a8ffcf3cd5e03a4f1", func := "olivette/olivettelaw02.PolyAll", spec := "polyAll", unfollowed := true, recurses := true, apart := false }
def PolyAllSaid : Prop := polyAllRow.holds Try.pinned (OpenSpec.ofChange polyAllSpec)

/-- ITS FALSE NEIGHBOUR: 'it returns false'. Refute it at one input. -/
def polyAllWrong : ChangeSpec := { name := "polyAll", fn := fun _ => fun
  | [d1, d2] => { results := [.lit (.bool false)], args := [d1, d2] }
  | _ => none }
def PolyAllWrongFalsely : Prop := polyAllRow.holds Try.pinned (OpenSpec.ofChange polyAllWrong)

/-- 'olivettelaw02.PolySums': WHATEVER THE INPUT: true; the input reads as it did. -/
def polySumsSpec : ChangeSpec := { name := "polySums", fn := fun _ => fun
  | [d1, d2] => { results := [.lit (.bool true)], args := [d1, d2] }
  | _ => none }
def polySumsRow : OpenClaim := { program := "ytlpcocjkffbpeaa", sum := "cdfb7fff00b8628d16f1d84599172184890917ff87f6fb4a8ffcf3cd5e03a4f1", func := "olivette/olivettelaw02.PolySums", spec := "polySums", unfollowed := true, recurses := true, apart := false }
def PolySumsSaid : Prop := polySumsRow.holds Try.pinned (OpenSpec.ofChange polySumsSpec)

/-- ITS FALSE NEIGHBOUR: 'it returns false'. Refute it at one input. -/
def polySumsWrong : ChangeSpec := { name := "polySums", fn := fun _ => fun
  | [d1, d2] => { results := [.lit (.bool false)], args := [d1, d2] }
  | _ => none }
def PolySumsWrongFalsely : Prop := polySumsRow.holds Try.pinned (OpenSpec.ofChange polySumsWrong)

/-- 'olivettelaw02.PolyQuotients': WHATEVER THE INPUT: true; the input reads as it did. -/
def polyQuotientsSpec : ChangeSpec := { name := "polyQuotients", fn := fun _ => fun
  | [d1, d2] => { results := [.lit (.bool true)], args := [d1, d2] }
  | _ => none }
def polyQuotientsRow : OpenClaim := { program := "ytlpcocjkffbpeaa", sum := "cdfb7fff00b8628d16f1d84599172184890917ff87f6fb4a8ffcf3cd5e03a4f1", func := "olivette/olivettelaw02.PolyQuotients", spec := "polyQuotients", unfollowed := true, recurses := true, apart := false }
def PolyQuotientsSaid : Prop := polyQuotientsRow.holds Try.pinned (OpenSpec.ofChange polyQuotientsSpec)

/-- ITS FALSE NEIGHBOUR: 'it returns false'. Refute it at one input. -/
def polyQuotientsWrong : ChangeSpec := { name := "polyQuotients", fn := fun _ => fun
  | [d1, d2] => { results := [.lit (.bool false)], args := [d1, d2] }
  | _ => none }
def PolyQuotientsWrongFalsely : Prop := polyQuotientsRow.holds Try.pinned (OpenSpec.ofChange polyQuotientsWrong)

/-- 'olivettelaw02.PolyValues': WHATEVER THE INPUT: true; the input reads as it did. -/
def polyValuesSpec : ChangeSpec := { name := "polyValues", fn := fun _ => fun
  | [d1, d2, d3] => { results := [.lit (.bool true)], args := [d1, d2, d3] }
  | _ => none }
def polyValuesRow : OpenClaim := { program := "ytlpcocjkffbpeaa", sum := "cdfb7fff00b8628d16f1d84599172184890917ff87f6fb4a8ffcf3cd5e03a4f1", func := "olivette/olivettelaw02.PolyValues", spec := "polyValues", unfollowed := true, recurses := true, apart := false }
def PolyValuesSaid : Prop := polyValuesRow.holds Try.pinned (OpenSpec.ofChange polyValuesSpec)

/-- ITS FALSE NEIGHBOUR: 'it returns false'. Refute it at one input. -/
def polyValuesWrong : ChangeSpec := { name := "polyValues", fn := fun _ => fun
  | [d1, d2, d3] => { results := [.lit (.bool false)], args := [d1, d2, d3] }
  | _ => none }
def PolyValuesWrongFalsely : Prop := polyValuesRow.holds Try.pinned (OpenSpec.ofChange polyValuesWrong)

/-- 'olivettelaw02.PolyGcds': WHATEVER THE INPUT: true; the input reads as it did. -/
def polyGcdsSpec : ChangeSpec := { name := "polyGcds", fn := fun _ => fun
  | [d1, d2] => { results := [.lit (.bool true)], args := [d1, d2] }
  | _ => none }
def polyGcdsRow : OpenClaim := { program := "ytlpcocjkffbpeaa", sum := "cdfb7fff00b8628d16f1d84599172184890917ff87f6fb4a8ffcf3cd5e03a4f1", func := "olivette/olivettelaw02.PolyGcds", spec := "polyGcds", unfollowed := true, recurses := true, apart := false }
def PolyGcdsSaid : Prop := polyGcdsRow.holds Try.pinned (OpenSpec.ofChange polyGcdsSpec)

/-- ITS FALSE NEIGHBOUR: 'it returns false'. Refute it at one input. -/
def polyGcdsWrong : ChangeSpec := { name := "polyGcds", fn := fun _ => fun
  | [d1, d2] => { results := [.lit (.bool false)], args := [d1, d2] }
  | _ => none }
def PolyGcdsWrongFalsely : Prop := polyGcdsRow.holds Try.pinned (OpenSpec.ofChange polyGcdsWrong)

/-- 'olivettelaw02.PolyDivides': WHATEVER THE INPUT: true; the input reads as it did. -/
def polyDividesSpec : ChangeSpec := { name := "polyDivides", fn := fun _ => fun
  | [d1, d2] => { results := [.lit (.bool true)], args := [d1, d2] }
  | _ => none }
def polyDividesRow : OpenClaim := { program := "ytlpcocjkffbpeaa", sum := "cdfb7fff00b8628d16f1d84599172184890917ff87f6fb4a8ffcf3cd5e03a4f1", func := "olivette/olivettelaw02.PolyDivides", spec := "polyDivides", unfollowed := true, recurses := true, apart := false }
def PolyDividesSaid : Prop := polyDividesRow.holds Try.pinned (OpenSpec.ofChange polyDividesSpec)

/-- ITS FALSE NEIGHBOUR: 'it returns false'. Refute it at one input. -/
def polyDividesWrong : ChangeSpec := { name := "polyDivides", fn := fun _ => fun
  | [d1, d2] => { results := [.lit (.bool false)], args := [d1, d2] }
  | _ => none }
def PolyDividesWrongFalsely : Prop := polyDividesRow.holds Try.pinned (OpenSpec.ofChange polyDividesWrong)

/- THE SECOND FORM. 'bulk': how many values and letters a reading holds, each counted each time it is reached (what is shared counts as often as it is met; a slice's spare places count too). A statement '..UptoSaid' is the law's where the arguments, and the package variables that the reading takes, are together of bulk at most 1048576: NARROWER than '..Said'. Prove '..Said' where nothing that the law and all that it calls make is longer than what came in: it says more and counts as full. Else prove '..UptoSaid'. A law counts once. -/
mutual
def uptoBulk {H : Type} : DataW H → Nat
  | .lit (.string bytes) => bytes.length + 1
  | .lit _ => 1
  | .nil => 1
  | .ptr d => uptoBulk d + 1
  | .slice elems spare => uptoBulkAll elems + uptoBulkAll spare + 1
  | .agg parts => uptoBulkAll parts + 1
  | .iface _ d => uptoBulk d + 1
  | .map entries => uptoBulkEntries entries + 1
  | .held _ => 1
def uptoBulkAll {H : Type} : List (DataW H) → Nat
  | [] => 0
  | d :: r => uptoBulk d + uptoBulkAll r
def uptoBulkEntries {H : Type} : List (Lit × DataW H) → Nat
  | [] => 0
  | x :: r => uptoBulkEntry x + uptoBulkEntries r
def uptoBulkEntry {H : Type} : Lit × DataW H → Nat
  | (.string bytes, d) => bytes.length + uptoBulk d + 1
  | (_, d) => uptoBulk d + 1
 end
def uptoSmall : (H : Type) → List (DataW H) → Bool := fun _ ds => decide (uptoBulkAll ds ≤ 1048576)
def OpenSpec.upto (s : _root_.Go.ChangeSpec) : _root_.Go.OpenSpec := { _root_.Go.OpenSpec.ofChange s with cond := some uptoSmall }

/-- 'olivettelaw02.PolyCounts', WHERE WHAT IT READS IS OF BULK AT MOST 1048576: true; the input reads as it did. -/
def polyCountsUptoRow : OpenClaim := { program := "ytlpcocjkffbpeaa", sum := "cdfb7fff00b8628d16f1d84599172184890917ff87f6fb4a8ffcf3cd5e03a4f1", func := "olivette/olivettelaw02.PolyCounts", spec := "polyCounts", unfollowed := true, recurses := true, apart := false, narrowed := true }
def PolyCountsUptoSaid : Prop := polyCountsUptoRow.holds Try.pinned (OpenSpec.upto polyCountsSpec)

/-- 'olivettelaw02.PolyAll', WHERE WHAT IT READS IS OF BULK AT MOST 1048576: true; the input reads as it did. -/
def polyAllUptoRow : OpenClaim := { program := "ytlpcocjkffbpeaa", sum := "cdfb7fff00b8628d16f1d84599172184890917ff87f6fb4a8ffcf3cd5e03a4f1", func := "olivette/olivettelaw02.PolyAll", spec := "polyAll", unfollowed := true, recurses := true, apart := false, narrowed := true }
def PolyAllUptoSaid : Prop := polyAllUptoRow.holds Try.pinned (OpenSpec.upto polyAllSpec)

/-- 'olivettelaw02.PolySums', WHERE WHAT IT READS IS OF BULK AT MOST 1048576: true; the input reads as it did. -/
def polySumsUptoRow : OpenClaim := { program := "ytlpcocjkffbpeaa", sum := "cdfb7fff00b8628d16f1d84599172184890917ff87f6fb4a8ffcf3cd5e03a4f1", func := "olivette/olivettelaw02.PolySums", spec := "polySums", unfollowed := true, recurses := true, apart := false, narrowed := true }
def PolySumsUptoSaid : Prop := polySumsUptoRow.holds Try.pinned (OpenSpec.upto polySumsSpec)

/-- 'olivettelaw02.PolyQuotients', WHERE WHAT IT READS IS OF BULK AT MOST 1048576: true; the input reads as it did. -/
def polyQuotientsUptoRow : OpenClaim := { program := "ytlpcocjkffbpeaa", sum := "cdfb7fff00b8628d16f1d84599172184890917ff87f6fb4a8ffcf3cd5e03a4f1", func := "olivette/olivettelaw02.PolyQuotients", spec := "polyQuotients", unfollowed := true, recurses := true, apart := false, narrowed := true }
def PolyQuotientsUptoSaid : Prop := polyQuotientsUptoRow.holds Try.pinned (OpenSpec.upto polyQuotientsSpec)

/-- 'olivettelaw02.PolyValues', WHERE WHAT IT READS IS OF BULK AT MOST 1048576: true; the input reads as it did. -/
def polyValuesUptoRow : OpenClaim := { program := "ytlpcocjkffbpeaa", sum := "cdfb7fff00b8628d16f1d84599172184890917ff87f6fb4a8ffcf3cd5e03a4f1", func := "olivette/olivettelaw02.PolyValues", spec := "polyValues", unfollowed := true, recurses := true, apart := false, narrowed := true }
def PolyValuesUptoSaid : Prop := polyValuesUptoRow.holds Try.pinned (OpenSpec.upto polyValuesSpec)

/-- 'olivettelaw02.PolyGcds', WHERE WHAT IT READS IS OF BULK AT MOST 1048576: true; the input reads as it did. -/
def polyGcdsUptoRow : OpenClaim := { program := "ytlpcocjkffbpeaa", sum := "cdfb7fff00b8628d16f1d84599172184890917ff87f6fb4a8ffcf3cd5e03a4f1", func := "olivette/olivettelaw02.PolyGcds", spec := "polyGcds", unfollowed := true, recurses := true, apart := false, narrowed := true }
def PolyGcdsUptoSaid : Prop := polyGcdsUptoRow.holds Try.pinned (OpenSpec.upto polyGcdsSpec)

/-- 'olivettelaw02.PolyDivides', WHERE WHAT IT READS IS OF BULK AT MOST 1048576: true; the input reads as it did. -/
def polyDividesUptoRow : OpenClaim := { program := "ytlpcocjkffbpeaa", sum := "cdfb7fff00b8628d16f1d84599172184890917ff87f6fb4a8ffcf3cd5e03a4f1", func := "olivette/olivettelaw02.PolyDivides", spec := "polyDivides", unfollowed := true, recurses := true, apart := false, narrowed := true }
def PolyDividesUptoSaid : Prop := polyDividesUptoRow.holds Try.pinned (OpenSpec.upto polyDividesSpec)

end Rows
end Go.Proofs.Ytlpcocjkffbpeaa

/-
  No cell of these rows narrows 'for every input' (looked for: loops, veiled, ifaces, maps, wideKeys, modest, calm, conditions, laid).
  DERIVED. THE GIVEN ROWS OF THIS SEAT. 5 by the template 'for every input the law returns true; each argument reads behind the call as it read before'; 0 by the template 'total and deterministic' (their statements: YtoghnhbjdnjghaaTotals.lean).
  GIVEN WITH THE SEED: the statements are not yours to turn. If you find one false, say at which input.
  Laid BY PROGRAM, IN A SANDBOX (cutbox-rows.mjs): the forced cells as the released guide's own fill.sh prints them over the translation 7842eb32ae744092… (all of the seat's roots in one cut). By AI agents, Wed Nov 11 2026. No macro, syntax, notation, axiom, sorry.
-/
import Derived.Test.YtoghnhbjdnjghaaChecked
import GoSem.Claim
import GoSem.ClaimJoined
import GoSem.ClaimMapViews
import Derived.JoinedTies
import Derived.KernelRfl
namespace Go.Proofs.Ytoghnhbjdnjghaa
/- THE CELL 'sum', in the pinned program and in every row, IS THE sha256 OF THE DUMP (.gsa) THAT YtoghnhbjdnjghaaProg.lean LOADS. Nothing in Lean hashes anything: it is a label: what it is worth is what the hold of that sum in a sandbox is worth. -/
noncomputable def Try.pinned : Pinned := { name := "ytoghnhbjdnjghaa", sum := "7842eb32ae744092253366fdbc4e5417bd862581a066ca54faa1eaeb7d0f09db", checked := Try.checked }
namespace Rows
def none {H : Type} : Left H := { results := [], args := [] }

/-- 'olivettelaw05.WordsConfluent': WHATEVER THE INPUT: true; the input reads as it did. -/
def wordsConfluentSpec : ChangeSpec := { name := "wordsConfluent", fn := fun _ => fun
  | [d1, d2, d3] => { results := [.lit (.bool true)], args := [d1, d2, d3] }
  | _ => none }
def wordsConfluentRow : OpenClaim := { program := "ytoghnhbjdnjghaa", sum := "7842eb32ae744092253366fdbc4e5417bd862581a066ca54faa1eaeb7d0f09db", func := "olivette/olivettelaw05.WordsConfluent", spec := "wordsConfluent", inPlace := ["internal/bytealg.abigen_runtime_cmpstring", "slices.overlaps[olivette/api.Rule]", "internal/bytealg.IndexByteString", "internal/bytealg.IndexString", "math/bits.Add64"], unfollowed := true, recurses := true, named := ["internal/bytealg.MaxLen"], plainKeys := false, apart := false }
def WordsConfluentSaid : Prop := wordsConfluentRow.holds Try.pinned (OpenSpec.ofChange wordsConfluentSpec)

/-- ITS FALSE NEIGHBOUR: 'it returns false'. Refute it at one input. -/
def wordsConfluentWrong : ChangeSpec := { name := "wordsConfluent", fn := fun _ => fun
  | [d1, d2, d3] => { results := [.lit (.bool false)], args := [d1, d2, d3] }
  | _ => none }
def WordsConfluentWrongFalsely : Prop := wordsConfluentRow.holds Try.pinned (OpenSpec.ofChange wordsConfluentWrong)

/-- 'olivettelaw05.WordsGroups': WHATEVER THE INPUT: true; the input reads as it did. -/
def wordsGroupsSpec : ChangeSpec := { name := "wordsGroups", fn := fun _ => fun
  | [d1, d2, d3] => { results := [.lit (.bool true)], args := [d1, d2, d3] }
  | _ => none }
def wordsGroupsRow : OpenClaim := { program := "ytoghnhbjdnjghaa", sum := "7842eb32ae744092253366fdbc4e5417bd862581a066ca54faa1eaeb7d0f09db", func := "olivette/olivettelaw05.WordsGroups", spec := "wordsGroups", inPlace := ["internal/bytealg.abigen_runtime_cmpstring", "slices.overlaps[olivette/api.Rule]", "internal/bytealg.IndexByteString", "internal/bytealg.IndexString", "math/bits.Add64"], unfollowed := true, recurses := true, named := ["internal/bytealg.MaxLen"], plainKeys := false, apart := false }
def WordsGroupsSaid : Prop := wordsGroupsRow.holds Try.pinned (OpenSpec.ofChange wordsGroupsSpec)

/-- ITS FALSE NEIGHBOUR: 'it returns false'. Refute it at one input. -/
def wordsGroupsWrong : ChangeSpec := { name := "wordsGroups", fn := fun _ => fun
  | [d1, d2, d3] => { results := [.lit (.bool false)], args := [d1, d2, d3] }
  | _ => none }
def WordsGroupsWrongFalsely : Prop := wordsGroupsRow.holds Try.pinned (OpenSpec.ofChange wordsGroupsWrong)

/-- 'olivettelaw05.WordsRelated': WHATEVER THE INPUT: true; the input reads as it did. -/
def wordsRelatedSpec : ChangeSpec := { name := "wordsRelated", fn := fun _ => fun
  | [d1, d2, d3] => { results := [.lit (.bool true)], args := [d1, d2, d3] }
  | _ => none }
def wordsRelatedRow : OpenClaim := { program := "ytoghnhbjdnjghaa", sum := "7842eb32ae744092253366fdbc4e5417bd862581a066ca54faa1eaeb7d0f09db", func := "olivette/olivettelaw05.WordsRelated", spec := "wordsRelated", inPlace := ["internal/bytealg.abigen_runtime_cmpstring", "slices.overlaps[olivette/api.Rule]", "internal/bytealg.IndexByteString", "internal/bytealg.IndexString", "math/bits.Add64"], unfollowed := true, recurses := true, named := ["internal/bytealg.MaxLen"], plainKeys := false, apart := false }
def WordsRelatedSaid : Prop := wordsRelatedRow.holds Try.pinned (OpenSpec.ofChange wordsRelatedSpec)

/-- ITS FALSE NEIGHBOUR: 'it returns false'. Refute it at one input. -/
def wordsRelatedWrong : ChangeSpec := { name := "wordsRelated", fn := fun _ => fun
  | [d1, d2, d3] => { results := [.lit (.bool false)], args := [d1, d2, d3] }
  | _ => none }
def WordsRelatedWrongFalsely : Prop := wordsRelatedRow.holds Try.pinned (OpenSpec.ofChange wordsRelatedWrong)

/-- 'olivettelaw05.WordsNormalOnes': WHATEVER THE INPUT: true; the input reads as it did. -/
def wordsNormalOnesSpec : ChangeSpec := { name := "wordsNormalOnes", fn := fun _ => fun
  | [d1, d2] => { results := [.lit (.bool true)], args := [d1, d2] }
  | _ => none }
def wordsNormalOnesRow : OpenClaim := { program := "ytoghnhbjdnjghaa", sum := "7842eb32ae744092253366fdbc4e5417bd862581a066ca54faa1eaeb7d0f09db", func := "olivette/olivettelaw05.WordsNormalOnes", spec := "wordsNormalOnes", inPlace := ["internal/bytealg.abigen_runtime_cmpstring", "math/bits.Add64", "slices.overlaps[olivette/api.Rule]", "internal/bytealg.IndexByteString", "internal/bytealg.IndexString"], unfollowed := true, recurses := true, named := ["internal/bytealg.MaxLen"], plainKeys := false, apart := false }
def WordsNormalOnesSaid : Prop := wordsNormalOnesRow.holds Try.pinned (OpenSpec.ofChange wordsNormalOnesSpec)

/-- ITS FALSE NEIGHBOUR: 'it returns false'. Refute it at one input. -/
def wordsNormalOnesWrong : ChangeSpec := { name := "wordsNormalOnes", fn := fun _ => fun
  | [d1, d2] => { results := [.lit (.bool false)], args := [d1, d2] }
  | _ => none }
def WordsNormalOnesWrongFalsely : Prop := wordsNormalOnesRow.holds Try.pinned (OpenSpec.ofChange wordsNormalOnesWrong)

/-- 'olivettelaw05.WordsKeeps': WHATEVER THE INPUT: true; the input reads as it did. -/
def wordsKeepsSpec : ChangeSpec := { name := "wordsKeeps", fn := fun _ => fun
  | [d1, d2] => { results := [.lit (.bool true)], args := [d1, d2] }
  | _ => none }
def wordsKeepsRow : OpenClaim := { program := "ytoghnhbjdnjghaa", sum := "7842eb32ae744092253366fdbc4e5417bd862581a066ca54faa1eaeb7d0f09db", func := "olivette/olivettelaw05.WordsKeeps", spec := "wordsKeeps", inPlace := ["internal/bytealg.abigen_runtime_cmpstring", "slices.overlaps[olivette/api.Rule]", "internal/bytealg.IndexByteString", "internal/bytealg.IndexString", "math/bits.Add64"], unfollowed := true, recurses := true, named := ["internal/bytealg.MaxLen"], plainKeys := false, apart := false }
def WordsKeepsSaid : Prop := wordsKeepsRow.holds Try.pinned (OpenSpec.ofChange wordsKeepsSpec)

/-- ITS FALSE NEIGHBOUR: 'it returns false'. Refute it at one input. -/
def wordsKeepsWrong : ChangeSpec := { name := "wordsKeeps", fn := fun _ => fun
  | [d1, d2] => { results := [.lit (.bool false)], args := [d1, d2] }
  | _ => none }
def WordsKeepsWrongFalsely : Prop := wordsKeepsRow.holds Try.pinned (OpenSpec.ofChange wordsKeepsWrong)

/- THE SECOND FORM. 'bulk': how many values and letters a reading holds, each counted each time it is reached (what is shared counts as often as it is met; a slice's spare places count too). A statement '..UptoSaid' is the law's where the arguments, and the package variables that the reading takes, are together of bulk at most 1048576: NARROWER than '..Said'. Prove '..Said' where nothing that the law and all that it calls make is longer than what came in: it says more and counts as full. Else prove '..UptoSaid'. A law counts once. -/
mutual
def uptoBulk {H : Type} : DataW H → Nat
  | .lit (.string bytes) => bytes.length + 1
  | .lit _ => 1
  | .nil => 1
  | .ptr d => uptoBulk d + 1
  | .slice elems spare => uptoBulkAll elems + uptoBulkAll spare + 1
  | .agg parts => uptoBulkAll parts + 1
  | .iface _ d => uptoBulk d + 1
  | .map entries => uptoBulkEntries entries + 1
  | .held _ => 1
def uptoBulkAll {H : Type} : List (DataW H) → Nat
  | [] => 0
  | d :: r => uptoBulk d + uptoBulkAll r
def uptoBulkEntries {H : Type} : List (Lit × DataW H) → Nat
  | [] => 0
  | x :: r => uptoBulkEntry x + uptoBulkEntries r
def uptoBulkEntry {H : Type} : Lit × DataW H → Nat
  | (.string bytes, d) => bytes.length + uptoBulk d + 1
  | (_, d) => uptoBulk d + 1
 end
def uptoSmall : (H : Type) → List (DataW H) → Bool := fun _ ds => decide (uptoBulkAll ds ≤ 1048576)
def OpenSpec.upto (s : _root_.Go.ChangeSpec) : _root_.Go.OpenSpec := { _root_.Go.OpenSpec.ofChange s with cond := some uptoSmall }

/-- 'olivettelaw05.WordsConfluent', WHERE WHAT IT READS IS OF BULK AT MOST 1048576: true; the input reads as it did. -/
def wordsConfluentUptoRow : OpenClaim := { program := "ytoghnhbjdnjghaa", sum := "7842eb32ae744092253366fdbc4e5417bd862581a066ca54faa1eaeb7d0f09db", func := "olivette/olivettelaw05.WordsConfluent", spec := "wordsConfluent", inPlace := ["internal/bytealg.abigen_runtime_cmpstring", "slices.overlaps[olivette/api.Rule]", "internal/bytealg.IndexByteString", "internal/bytealg.IndexString", "math/bits.Add64"], unfollowed := true, recurses := true, named := ["internal/bytealg.MaxLen"], plainKeys := false, apart := false, narrowed := true }
def WordsConfluentUptoSaid : Prop := wordsConfluentUptoRow.holds Try.pinned (OpenSpec.upto wordsConfluentSpec)

/-- 'olivettelaw05.WordsGroups', WHERE WHAT IT READS IS OF BULK AT MOST 1048576: true; the input reads as it did. -/
def wordsGroupsUptoRow : OpenClaim := { program := "ytoghnhbjdnjghaa", sum := "7842eb32ae744092253366fdbc4e5417bd862581a066ca54faa1eaeb7d0f09db", func := "olivette/olivettelaw05.WordsGroups", spec := "wordsGroups", inPlace := ["internal/bytealg.abigen_runtime_cmpstring", "slices.overlaps[olivette/api.Rule]", "internal/bytealg.IndexByteString", "internal/bytealg.IndexString", "math/bits.Add64"], unfollowed := true, recurses := true, named := ["internal/bytealg.MaxLen"], plainKeys := false, apart := false, narrowed := true }
def WordsGroupsUptoSaid : Prop := wordsGroupsUptoRow.holds Try.pinned (OpenSpec.upto wordsGroupsSpec)

/-- 'olivettelaw05.WordsRelated', WHERE WHAT IT READS IS OF BULK AT MOST 1048576: true; the input reads as it did. -/
def wordsRelatedUptoRow : OpenClaim := { program := "ytoghnhbjdnjghaa", sum := "7842eb32ae744092253366fdbc4e5417bd862581a066ca54faa1eaeb7d0f09db", func := "olivette/olivettelaw05.WordsRelated", spec := "wordsRelated", inPlace := ["internal/bytealg.abigen_runtime_cmpstring", "slices.overlaps[olivette/api.Rule]", "internal/bytealg.IndexByteString", "internal/bytealg.IndexString", "math/bits.Add64"], unfollowed := true, recurses := true, named := ["internal/bytealg.MaxLen"], plainKeys := false, apart := false, narrowed := true }
def WordsRelatedUptoSaid : Prop := wordsRelatedUptoRow.holds Try.pinned (OpenSpec.upto wordsRelatedSpec)

/-- 'olivettelaw05.WordsNormalOnes', WHERE WHAT IT READS IS OF BULK AT MOST 1048576: true; the input reads as it did. -/
def wordsNormalOnesUptoRow : OpenClaim := { program := "ytoghnhbjdnjghaa", sum := "7842eb32ae744092253366fdbc4e5417bd862581a066ca54faa1eaeb7d0f09db", func := "olivette/olivettelaw05.WordsNormalOnes", spec := "wordsNormalOnes", inPlace := ["internal/bytealg.abigen_runtime_cmpstring", "math/bits.Add64", "slices.overlaps[olivette/api.Rule]", "internal/bytealg.IndexByteString", "internal/bytealg.IndexString"], unfollowed := true, recurses := true, named := ["internal/bytealg.MaxLen"], plainKeys := false, apart := false, narrowed := true }
def WordsNormalOnesUptoSaid : Prop := wordsNormalOnesUptoRow.holds Try.pinned (OpenSpec.upto wordsNormalOnesSpec)

/-- 'olivettelaw05.WordsKeeps', WHERE WHAT IT READS IS OF BULK AT MOST 1048576: true; the input reads as it did. -/
def wordsKeepsUptoRow : OpenClaim := { program := "ytoghnhbjdnjghaa", sum := "7842eb32ae744092253366fdbc4e5417bd862581a066ca54faa1eaeb7d0f09db", func := "olivette/olivettelaw05.WordsKeeps", spec := "wordsKeeps", inPlace := ["internal/bytealg.abigen_runtime_cmpstring", "slices.overlaps[olivette/api.Rule]", "internal/bytealg.IndexByteString", "internal/bytealg.IndexString", "math/bits.Add64"], unfollowed := true, recurses := true, named := ["internal/bytealg.MaxLen"], plainKeys := false, apart := false, narrowed := true }
def WordsKeepsUptoSaid : Prop := wordsKeepsUptoRow.holds Try.pinned (OpenSpec.upto wordsKeepsSpec)

end Rows
end Go.Proofs.Ytoghnhbjdnjghaa

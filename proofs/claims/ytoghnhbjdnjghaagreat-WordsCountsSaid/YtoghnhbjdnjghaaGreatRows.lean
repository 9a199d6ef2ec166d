/-
  No cell of these rows narrows 'for every input' (looked for: loops, veiled, ifaces, maps, wideKeys, modest, calm, conditions, laid).
  DERIVED. THE GIVEN ROWS OF THIS SEAT. 7 by the template 'for every input the law returns true; each argument reads behind the call as it read before'; 0 by the template 'total and deterministic' (their statements: YtoghnhbjdnjghaaGreatTotals.lean).
  GIVEN WITH THE SEED: the statements are not yours to turn. If you find one false, say at which input.
  Laid BY PROGRAM, IN A SANDBOX (cutbox-rows.mjs): the forced cells as the released guide's own fill.sh prints them over the translation 53572ef68f634e62… (all of the seat's roots in one cut). By AI agents, Wed Nov 11 2026. No macro, syntax, notation, axiom, sorry.
-/
import Derived.Test.YtoghnhbjdnjghaaGreatChecked
import GoSem.Claim
import GoSem.ClaimJoined
import GoSem.ClaimMapViews
import Derived.JoinedTies
import Derived.KernelRfl
namespace Go.Proofs.YtoghnhbjdnjghaaGreat
/- THE CELL 'sum', in the pinned program and in every row, IS THE sha256 OF THE DUMP (.gsa) THAT YtoghnhbjdnjghaaGreatProg.lean LOADS. Nothing in Lean hashes anything: it is a label: what it is worth is what the hold of that sum in a sandbox is worth. -/
noncomputable def Tryz.pinned : Pinned := { name := "ytoghnhbjdnjghaagreat", sum := "53572ef68f634e62bf53e43c0df618fcaff129bbd86fb52f8a232f39da3ecc07", checked := Tryz.checked }
namespace Rows
def none {H : Type} : Left H := { results := [], args := [] }

/-- 'olivettelaw05.WordsSteps': WHATEVER THE INPUT: true; the input reads as it did. -/
def wordsStepsSpec : ChangeSpec := { name := "wordsSteps", fn := fun _ => fun
  | [d1, d2] => { results := [.lit (.bool true)], args := [d1, d2] }
  | _ => none }
def wordsStepsRow : OpenClaim := { program := "ytoghnhbjdnjghaagreat", sum := "53572ef68f634e62bf53e43c0df618fcaff129bbd86fb52f8a232f39da3ecc07", func := "olivette/olivettelaw05.WordsSteps", spec := "wordsSteps", inPlace := ["internal/bytealg.abigen_runtime_cmpstring", "slices.overlaps[olivette/api.Rule]", "internal/bytealg.IndexByteString", "internal/bytealg.IndexString", "math/bits.Add64"], unfollowed := true, recurses := true, named := ["internal/bytealg.MaxLen"], plainKeys := false, apart := false }
def WordsStepsSaid : Prop := wordsStepsRow.holds Tryz.pinned (OpenSpec.ofChange wordsStepsSpec)

/-- ITS FALSE NEIGHBOUR: 'it returns false'. Refute it at one input. -/
def wordsStepsWrong : ChangeSpec := { name := "wordsSteps", fn := fun _ => fun
  | [d1, d2] => { results := [.lit (.bool false)], args := [d1, d2] }
  | _ => none }
def WordsStepsWrongFalsely : Prop := wordsStepsRow.holds Tryz.pinned (OpenSpec.ofChange wordsStepsWrong)

/-- 'olivettelaw05.WordsCompletes': WHATEVER THE INPUT: true; the input reads as it did. -/
def wordsCompletesSpec : ChangeSpec := { name := "wordsCompletes", fn := fun _ => fun
  | [d1, d2] => { results := [.lit (.bool true)], args := [d1, d2] }
  | _ => none }
def wordsCompletesRow : OpenClaim := { program := "ytoghnhbjdnjghaagreat", sum := "53572ef68f634e62bf53e43c0df618fcaff129bbd86fb52f8a232f39da3ecc07", func := "olivette/olivettelaw05.WordsCompletes", spec := "wordsCompletes", inPlace := ["internal/bytealg.abigen_runtime_cmpstring", "slices.overlaps[olivette/api.Rule]", "internal/bytealg.IndexByteString", "internal/bytealg.IndexString", "math/bits.Add64"], unfollowed := true, recurses := true, named := ["internal/bytealg.MaxLen"], plainKeys := false, apart := false }
def WordsCompletesSaid : Prop := wordsCompletesRow.holds Tryz.pinned (OpenSpec.ofChange wordsCompletesSpec)

/-- ITS FALSE NEIGHBOUR: 'it returns false'. Refute it at one input. -/
def wordsCompletesWrong : ChangeSpec := { name := "wordsCompletes", fn := fun _ => fun
  | [d1, d2] => { results := [.lit (.bool false)], args := [d1, d2] }
  | _ => none }
def WordsCompletesWrongFalsely : Prop := wordsCompletesRow.holds Tryz.pinned (OpenSpec.ofChange wordsCompletesWrong)

/-- 'olivettelaw05.WordsPairs': WHATEVER THE INPUT: true; the input reads as it did. -/
def wordsPairsSpec : ChangeSpec := { name := "wordsPairs", fn := fun _ => fun
  | [d] => { results := [.lit (.bool true)], args := [d] }
  | _ => none }
def wordsPairsRow : OpenClaim := { program := "ytoghnhbjdnjghaagreat", sum := "53572ef68f634e62bf53e43c0df618fcaff129bbd86fb52f8a232f39da3ecc07", func := "olivette/olivettelaw05.WordsPairs", spec := "wordsPairs", inPlace := ["internal/bytealg.abigen_runtime_cmpstring", "slices.overlaps[olivette/api.Rule]", "internal/bytealg.IndexByteString", "internal/bytealg.IndexString", "math/bits.Add64"], unfollowed := true, recurses := true, named := ["internal/bytealg.MaxLen"], plainKeys := false, apart := false }
def WordsPairsSaid : Prop := wordsPairsRow.holds Tryz.pinned (OpenSpec.ofChange wordsPairsSpec)

/-- ITS FALSE NEIGHBOUR: 'it returns false'. Refute it at one input. -/
def wordsPairsWrong : ChangeSpec := { name := "wordsPairs", fn := fun _ => fun
  | [d] => { results := [.lit (.bool false)], args := [d] }
  | _ => none }
def WordsPairsWrongFalsely : Prop := wordsPairsRow.holds Tryz.pinned (OpenSpec.ofChange wordsPairsWrong)

/-- 'olivettelaw05.WordsTidies': WHATEVER THE INPUT: true; the input reads as it did. -/
def wordsTidiesSpec : ChangeSpec := { name := "wordsTidies", fn := fun _ => fun
  | [d] => { results := [.lit (.bool true)], args := [d] }
  | _ => none }
def wordsTidiesRow : OpenClaim := { program := "ytoghnhbjdnjghaagreat", sum := "53572ef68f634e62bf53e43c0df618fcaff129bbd86fb52f8a232f39da3ecc07", func := "olivette/olivettelaw05.WordsTidies", spec := "wordsTidies", inPlace := ["internal/bytealg.abigen_runtime_cmpstring", "slices.overlaps[olivette/api.Rule]", "internal/bytealg.IndexByteString", "internal/bytealg.IndexString", "math/bits.Add64"], unfollowed := true, recurses := true, named := ["internal/bytealg.MaxLen"], plainKeys := false, apart := false }
def WordsTidiesSaid : Prop := wordsTidiesRow.holds Tryz.pinned (OpenSpec.ofChange wordsTidiesSpec)

/-- ITS FALSE NEIGHBOUR: 'it returns false'. Refute it at one input. -/
def wordsTidiesWrong : ChangeSpec := { name := "wordsTidies", fn := fun _ => fun
  | [d] => { results := [.lit (.bool false)], args := [d] }
  | _ => none }
def WordsTidiesWrongFalsely : Prop := wordsTidiesRow.holds Tryz.pinned (OpenSpec.ofChange wordsTidiesWrong)

/-- 'olivettelaw05.WordsOwn': WHATEVER THE INPUT: true; the input reads as it did. -/
def wordsOwnSpec : ChangeSpec := { name := "wordsOwn", fn := fun _ => fun
  | [d] => { results := [.lit (.bool true)], args := [d] }
  | _ => none }
def wordsOwnRow : OpenClaim := { program := "ytoghnhbjdnjghaagreat", sum := "53572ef68f634e62bf53e43c0df618fcaff129bbd86fb52f8a232f39da3ecc07", func := "olivette/olivettelaw05.WordsOwn", spec := "wordsOwn", inPlace := ["internal/bytealg.abigen_runtime_cmpstring", "slices.overlaps[olivette/api.Rule]", "internal/bytealg.IndexByteString", "internal/bytealg.IndexString", "math/bits.Add64"], unfollowed := true, recurses := true, named := ["internal/bytealg.MaxLen"], plainKeys := false, apart := false }
def WordsOwnSaid : Prop := wordsOwnRow.holds Tryz.pinned (OpenSpec.ofChange wordsOwnSpec)

/-- ITS FALSE NEIGHBOUR: 'it returns false'. Refute it at one input. -/
def wordsOwnWrong : ChangeSpec := { name := "wordsOwn", fn := fun _ => fun
  | [d] => { results := [.lit (.bool false)], args := [d] }
  | _ => none }
def WordsOwnWrongFalsely : Prop := wordsOwnRow.holds Tryz.pinned (OpenSpec.ofChange wordsOwnWrong)

/-- 'olivettelaw05.WordsEqual': WHATEVER THE INPUT: true; the input reads as it did. -/
def wordsEqualSpec : ChangeSpec := { name := "wordsEqual", fn := fun _ => fun
  | [d1, d2, d3] => { results := [.lit (.bool true)], args := [d1, d2, d3] }
  | _ => none }
def wordsEqualRow : OpenClaim := { program := "ytoghnhbjdnjghaagreat", sum := "53572ef68f634e62bf53e43c0df618fcaff129bbd86fb52f8a232f39da3ecc07", func := "olivette/olivettelaw05.WordsEqual", spec := "wordsEqual", inPlace := ["internal/bytealg.abigen_runtime_cmpstring", "slices.overlaps[olivette/api.Rule]", "internal/bytealg.IndexByteString", "internal/bytealg.IndexString", "math/bits.Add64"], unfollowed := true, recurses := true, named := ["internal/bytealg.MaxLen"], plainKeys := false, apart := false }
def WordsEqualSaid : Prop := wordsEqualRow.holds Tryz.pinned (OpenSpec.ofChange wordsEqualSpec)

/-- ITS FALSE NEIGHBOUR: 'it returns false'. Refute it at one input. -/
def wordsEqualWrong : ChangeSpec := { name := "wordsEqual", fn := fun _ => fun
  | [d1, d2, d3] => { results := [.lit (.bool false)], args := [d1, d2, d3] }
  | _ => none }
def WordsEqualWrongFalsely : Prop := wordsEqualRow.holds Tryz.pinned (OpenSpec.ofChange wordsEqualWrong)

/-- 'olivettelaw05.WordsCounts': WHATEVER THE INPUT: true; the input reads as it did. -/
def wordsCountsSpec : ChangeSpec := { name := "wordsCounts", fn := fun _ => fun
  | [d1, d2, d3] => { results := [.lit (.bool true)], args := [d1, d2, d3] }
  | _ => none }
def wordsCountsRow : OpenClaim := { program := "ytoghnhbjdnjghaagreat", sum := "53572ef68f634e62bf53e43c0df618fcaff129bbd86fb52f8a232f39da3ecc07", func := "olivette/olivettelaw05.WordsCounts", spec := "wordsCounts", inPlace := ["internal/bytealg.abigen_runtime_cmpstring", "math/bits.Add64", "slices.overlaps[olivette/api.Rule]", "internal/bytealg.IndexByteString", "internal/bytealg.IndexString"], unfollowed := true, recurses := true, named := ["internal/bytealg.MaxLen"], plainKeys := false, apart := false }
def WordsCountsSaid : Prop := wordsCountsRow.holds Tryz.pinned (OpenSpec.ofChange wordsCountsSpec)

/-- ITS FALSE NEIGHBOUR: 'it returns false'. Refute it at one input. -/
def wordsCountsWrong : ChangeSpec := { name := "wordsCounts", fn := fun _ => fun
  | [d1, d2, d3] => { results := [.lit (.bool false)], args := [d1, d2, d3] }
  | _ => none }
def WordsCountsWrongFalsely : Prop := wordsCountsRow.holds Tryz.pinned (OpenSpec.ofChange wordsCountsWrong)

/- THE SECOND FORM. 'bulk': how many values and letters a reading holds, each counted each time it is reached (what is shared counts as often as it is met; a slice's spare places count too). A statement '..UptoSaid' is the law's where the arguments, and the package variables that the reading takes, are together of bulk at most 1048576: NARROWER than '..Said'. Prove '..Said' where nothing that the law and all that it calls make is longer than what came in: it says more and counts as full. Else prove '..UptoSaid'. A law counts once. -/
mutual
def uptoBulk {H : Type} : DataW H → Nat
  | .lit (.string bytes) => bytes.length + 1
  | .lit _ => 1
  | .nil => 1
  | .ptr d => uptoBulk d + 1
  | .slice elems spare => uptoBulkAll elems + uptoBulkAll spare + 1
  | .agg parts => uptoBulkAll parts + 1
  | .iface _ d => uptoBulk d + 1
  | .map entries => uptoBulkEntries entries + 1
  | .held _ => 1
def uptoBulkAll {H : Type} : List (DataW H) → Nat
  | [] => 0
  | d :: r => uptoBulk d + uptoBulkAll r
def uptoBulkEntries {H : Type} : List (Lit × DataW H) → Nat
  | [] => 0
  | x :: r => uptoBulkEntry x + uptoBulkEntries r
def uptoBulkEntry {H : Type} : Lit × DataW H → Nat
  | (.string bytes, d) => bytes.length + uptoBulk d + 1
  | (_, d) => uptoBulk d + 1
 end
def uptoSmall : (H : Type) → List (DataW H) → Bool := fun _ ds => decide (uptoBulkAll ds ≤ 1048576)
def OpenSpec.upto (s : _root_.Go.ChangeSpec) : _root_.Go.OpenSpec := { _root_.Go.OpenSpec.ofChange s with cond := some uptoSmall }

/-- 'olivettelaw05.WordsSteps', WHERE WHAT IT READS IS OF BULK AT MOST 1048576: true; the input reads as it did. -/
def wordsStepsUptoRow : OpenClaim := { program := "ytoghnhbjdnjghaagreat", sum := "53572ef68f634e62bf53e43c0df618fcaff129bbd86fb52f8a232f39da3ecc07", func := "olivette/olivettelaw05.WordsSteps", spec := "wordsSteps", inPlace := ["internal/bytealg.abigen_runtime_cmpstring", "slices.overlaps[olivette/api.Rule]", "internal/bytealg.IndexByteString", "internal/bytealg.IndexString", "math/bits.Add64"], unfollowed := true, recurses := true, named := ["internal/bytealg.MaxLen"], plainKeys := false, apart := false, narrowed := true }
def WordsStepsUptoSaid : Prop := wordsStepsUptoRow.holds Tryz.pinned (OpenSpec.upto wordsStepsSpec)

/-- 'olivettelaw05.WordsCompletes', WHERE WHAT IT READS IS OF BULK AT MOST 1048576: true; the input reads as it did. -/
def wordsCompletesUptoRow : OpenClaim := { program := "ytoghnhbjdnjghaagreat", sum := "53572ef68f634e62bf53e43c0df618fcaff129bbd86fb52f8a232f39da3ecc07", func := "olivette/olivettelaw05.WordsCompletes", spec := "wordsCompletes", inPlace := ["internal/bytealg.abigen_runtime_cmpstring", "slices.overlaps[olivette/api.Rule]", "internal/bytealg.IndexByteString", "internal/bytealg.IndexString", "math/bits.Add64"], unfollowed := true, recurses := true, named := ["internal/bytealg.MaxLen"], plainKeys := false, apart := false, narrowed := true }
def WordsCompletesUptoSaid : Prop := wordsCompletesUptoRow.holds Tryz.pinned (OpenSpec.upto wordsCompletesSpec)

/-- 'olivettelaw05.WordsPairs', WHERE WHAT IT READS IS OF BULK AT MOST 1048576: true; the input reads as it did. -/
def wordsPairsUptoRow : OpenClaim := { program := "ytoghnhbjdnjghaagreat", sum := "53572ef68f634e62bf53e43c0df618fcaff129bbd86fb52f8a232f39da3ecc07", func := "olivette/olivettelaw05.WordsPairs", spec := "wordsPairs", inPlace := ["internal/bytealg.abigen_runtime_cmpstring", "slices.overlaps[olivette/api.Rule]", "internal/bytealg.IndexByteString", "internal/bytealg.IndexString", "math/bits.Add64"], unfollowed := true, recurses := true, named := ["internal/bytealg.MaxLen"], plainKeys := false, apart := false, narrowed := true }
def WordsPairsUptoSaid : Prop := wordsPairsUptoRow.holds Tryz.pinned (OpenSpec.upto wordsPairsSpec)

/-- 'olivettelaw05.WordsTidies', WHERE WHAT IT READS IS OF BULK AT MOST 1048576: true; the input reads as it did. -/
def wordsTidiesUptoRow : OpenClaim := { program := "ytoghnhbjdnjghaagreat", sum := "53572ef68f634e62bf53e43c0df618fcaff129bbd86fb52f8a232f39da3ecc07", func := "olivette/olivettelaw05.WordsTidies", spec := "wordsTidies", inPlace := ["internal/bytealg.abigen_runtime_cmpstring", "slices.overlaps[olivette/api.Rule]", "internal/bytealg.IndexByteString", "internal/bytealg.IndexString", "math/bits.Add64"], unfollowed := true, recurses := true, named := ["internal/bytealg.MaxLen"], plainKeys := false, apart := false, narrowed := true }
def WordsTidiesUptoSaid : Prop := wordsTidiesUptoRow.holds Tryz.pinned (OpenSpec.upto wordsTidiesSpec)

/-- 'olivettelaw05.WordsOwn', WHERE WHAT IT READS IS OF BULK AT MOST 1048576: true; the input reads as it did. -/
def wordsOwnUptoRow : OpenClaim := { program := "ytoghnhbjdnjghaagreat", sum := "53572ef68f634e62bf53e43c0df618fcaff129bbd86fb52f8a232f39da3ecc07", func := "olivette/olivettelaw05.WordsOwn", spec := "wordsOwn", inPlace := ["internal/bytealg.abigen_runtime_cmpstring", "slices.overlaps[olivette/api.Rule]", "internal/bytealg.IndexByteString", "internal/bytealg.IndexString", "math/bits.Add64"], unfollowed := true, recurses := true, named := ["internal/bytealg.MaxLen"], plainKeys := false, apart := false, narrowed := true }
def WordsOwnUptoSaid : Prop := wordsOwnUptoRow.holds Tryz.pinned (OpenSpec.upto wordsOwnSpec)

/-- 'olivettelaw05.WordsEqual', WHERE WHAT IT READS IS OF BULK AT MOST 1048576: true; the input reads as it did. -/
def wordsEqualUptoRow : OpenClaim := { program := "ytoghnhbjdnjghaagreat", sum := "53572ef68f634e62bf53e43c0df618fcaff129bbd86fb52f8a232f39da3ecc07", func := "olivette/olivettelaw05.WordsEqual", spec := "wordsEqual", inPlace := ["internal/bytealg.abigen_runtime_cmpstring", "slices.overlaps[olivette/api.Rule]", "internal/bytealg.IndexByteString", "internal/bytealg.IndexString", "math/bits.Add64"], unfollowed := true, recurses := true, named := ["internal/bytealg.MaxLen"], plainKeys := false, apart := false, narrowed := true }
def WordsEqualUptoSaid : Prop := wordsEqualUptoRow.holds Tryz.pinned (OpenSpec.upto wordsEqualSpec)

/-- 'olivettelaw05.WordsCounts', WHERE WHAT IT READS IS OF BULK AT MOST 1048576: true; the input reads as it did. -/
def wordsCountsUptoRow : OpenClaim := { program := "ytoghnhbjdnjghaagreat", sum := "53572ef68f634e62bf53e43c0df618fcaff129bbd86fb52f8a232f39da3ecc07", func := "olivette/olivettelaw05.WordsCounts", spec := "wordsCounts", inPlace := ["internal/bytealg.abigen_runtime_cmpstring", "math/bits.Add64", "slices.overlaps[olivette/api.Rule]", "internal/bytealg.IndexByteString", "internal/bytealg.IndexString"], unfollowed := true, recurses := true, named := ["internal/bytealg.MaxLen"], plainKeys := false, apart := false, narrowed := true }
def WordsCountsUptoSaid : Prop := wordsCountsUptoRow.holds Tryz.pinned (OpenSpec.upto wordsCountsSpec)

end Rows
end Go.Proofs.YtoghnhbjdnjghaaGreat

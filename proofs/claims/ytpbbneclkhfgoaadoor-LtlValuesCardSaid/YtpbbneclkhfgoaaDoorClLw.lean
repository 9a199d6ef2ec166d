/- A world in which the package's variables hold what its text lays. -/
import Derived.Test.YtpbbneclkhfgoaaDoorClL
import Derived.Deep.DeepWitnessRowRef
namespace Go.Proofs.YtpbbneclkhfgoaaDoor
set_option maxRecDepth 100000
open Go.W Go.Ltl Go.RowKit Go.ChangeShapes Go.WideShapes Go.Deep
def putV (v : Value) : Obj → Obj
  | .cells _ t fr => .cells #[v] t fr
  | o => o
def strBlk (l : List Str) : Obj := .cells (l.map st).toArray 9
def dualEs : List (Str × Str) → Nat → List MapEntry
  | [], _ => []
  | p :: r, i => { key := st p.1, val := st p.2, born := i } :: dualEs r (i + 1)
noncomputable def laidWorld (os : Os) : World :=
  { World.holding Tryd.prog os ⟨#[], #[], []⟩ with heap := (((((World.holding Tryd.prog os ⟨#[], #[], []⟩).heap.modify 0 (putV (.map (some 9)))).modify 1 (putV (.slice (some ⟨10, 0, none⟩) 6 6))).modify 2 (putV (.slice (some ⟨11, 0, none⟩) 4 4))).modify 3 (putV (.slice (some ⟨12, 0, none⟩) 4 4))) ++ #[.map (dualEs dualL 0).toArray 9, strBlk atomsL, strBlk onesL, strBlk twosL] }
theorem size_is (os : Os) : (World.holding Tryd.prog os ⟨#[], #[], []⟩).heap.size = 9 := by kernel_rfl
theorem laid_met0 (os : Os) (args : Array Value) : laidMet Tryd.prog laidAll ((laidWorld os).forCall (fun _ _ => 0) ⟨#[], args, []⟩).memory :=
  laidMet_of_run' 8 (by kernel_rfl) (by kernel_rfl)
end Go.Proofs.YtpbbneclkhfgoaaDoor

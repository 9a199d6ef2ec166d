/-
  DERIVED. GIVEN WITH THE SEED: THE CARDS: each row of YtdnkkflpgebfbaaDoorRows.lean that lists a variable, with what it lists TIED to the program's text (the seventh form; the later family's looks); each row that meets fmt, with fmt's text TOLD by the authors' own Lean function (tested against real Go, not proved from fmt's source: count such statements apart). THE CARD IS WHAT COUNTS. Prove the row's statement (the work); the ties are given (YtdnkkflpgebfbaaDoorTie.lean); close each card by the builder's one call (the guide's Derived/Test/ToyasCard.lean, 'card_holds'). Laid BY PROGRAM, IN A SANDBOX (cutbox-door.mjs). By AI agents, Wed Nov 11 2026. No macro, syntax, notation, axiom, sorry.
-/
import Derived.Test.YtdnkkflpgebfbaaDoorRows
import GoSem.ClaimSeven
namespace Go.Proofs.YtdnkkflpgebfbaaDoor
namespace Rows

/-- THE TIED CARD OF 'olivettelaw07.TreeCounts'. -/
def treeCountsCard : Claim7 := { stood := { row := treeCountsRow, standIns := [], harness := (true, "fcf653a2639a27ddb2d684f4341519e4aa9a90249a95c770006e804a929d4b54"), looks := false }, kinds := [], alts := [], laidByText := true, laidKinds := [.data, .data], laidTests := true, laidLooks := .later }
def TreeCountsCardSaid : Prop := Claim7.holds Tryd.pinned (.plain (OpenSpec.ofChange treeCountsSpec)) treeCountsCard

/-- THE TIED CARD OF 'olivettelaw07.TreeLess'. -/
def treeLessCard : Claim7 := { stood := { row := treeLessRow, standIns := [], harness := (true, "fcf653a2639a27ddb2d684f4341519e4aa9a90249a95c770006e804a929d4b54"), looks := false }, kinds := [], alts := [], laidByText := true, laidKinds := [.data, .data], laidTests := true, laidLooks := .later }
def TreeLessCardSaid : Prop := Claim7.holds Tryd.pinned (.plain (OpenSpec.ofChange treeLessSpec)) treeLessCard

/-- THE TIED CARD OF 'olivettelaw07.TreeForests'. -/
def treeForestsCard : Claim7 := { stood := { row := treeForestsRow, standIns := [], harness := (true, "fcf653a2639a27ddb2d684f4341519e4aa9a90249a95c770006e804a929d4b54"), looks := false }, kinds := [], alts := [], laidByText := true, laidKinds := [.data, .data], laidTests := true, laidLooks := .later }
def TreeForestsCardSaid : Prop := Claim7.holds Tryd.pinned (.plain (OpenSpec.ofChange treeForestsSpec)) treeForestsCard

/-- THE TIED CARD OF 'olivettelaw07.TreeContracts'. -/
def treeContractsCard : Claim7 := { stood := { row := treeContractsRow, standIns := [], harness := (true, "fcf653a2639a27ddb2d684f4341519e4aa9a90249a95c770006e804a929d4b54"), looks := false }, kinds := [], alts := [], laidByText := true, laidKinds := [.data, .data], laidTests := true, laidLooks := .later }
def TreeContractsCardSaid : Prop := Claim7.holds Tryd.pinned (.plain (OpenSpec.ofChange treeContractsSpec)) treeContractsCard

/-- THE TIED CARD OF 'olivettelaw07.TreeFits'. -/
def treeFitsCard : Claim7 := { stood := { row := treeFitsRow, standIns := [], harness := (true, "fcf653a2639a27ddb2d684f4341519e4aa9a90249a95c770006e804a929d4b54"), looks := false }, kinds := [], alts := [], laidByText := true, laidKinds := [.data, .data], laidTests := true, laidLooks := .later }
def TreeFitsCardSaid : Prop := Claim7.holds Tryd.pinned (.plain (OpenSpec.ofChange treeFitsSpec)) treeFitsCard

/-- THE TIED CARD OF 'olivettelaw07.TreeOwn'. -/
def treeOwnCard : Claim7 := { stood := { row := treeOwnRow, standIns := [], harness := (true, "fcf653a2639a27ddb2d684f4341519e4aa9a90249a95c770006e804a929d4b54"), looks := false }, kinds := [], alts := [], laidByText := true, laidKinds := [.data, .data], laidTests := true, laidLooks := .later }
def TreeOwnCardSaid : Prop := Claim7.holds Tryd.pinned (.plain (OpenSpec.ofChange treeOwnSpec)) treeOwnCard

/-- THE TIED CARD OF 'olivettelaw07.TreeOrders'. -/
def treeOrdersCard : Claim7 := { stood := { row := treeOrdersRow, standIns := [], harness := (true, "fcf653a2639a27ddb2d684f4341519e4aa9a90249a95c770006e804a929d4b54"), looks := false }, kinds := [], alts := [], laidByText := true, laidKinds := [.data, .data], laidTests := true, laidLooks := .later }
def TreeOrdersCardSaid : Prop := Claim7.holds Tryd.pinned (.plain (OpenSpec.ofChange treeOrdersSpec)) treeOrdersCard

/-- THE TIED CARD OF 'olivettelaw07.TreeBounds'. -/
def treeBoundsCard : Claim7 := { stood := { row := treeBoundsRow, standIns := [], harness := (true, "fcf653a2639a27ddb2d684f4341519e4aa9a90249a95c770006e804a929d4b54"), looks := false }, kinds := [], alts := [], laidByText := true, laidKinds := [.data, .data], laidTests := true, laidLooks := .later }
def TreeBoundsCardSaid : Prop := Claim7.holds Tryd.pinned (.plain (OpenSpec.ofChange treeBoundsSpec)) treeBoundsCard

/-- THE TIED CARD OF 'olivettelaw07.TreeDecomposes'. -/
def treeDecomposesCard : Claim7 := { stood := { row := treeDecomposesRow, standIns := [], harness := (true, "fcf653a2639a27ddb2d684f4341519e4aa9a90249a95c770006e804a929d4b54"), looks := false }, kinds := [], alts := [], laidByText := true, laidKinds := [.data, .data], laidTests := true, laidLooks := .later }
def TreeDecomposesCardSaid : Prop := Claim7.holds Tryd.pinned (.plain (OpenSpec.ofChange treeDecomposesSpec)) treeDecomposesCard

/-- THE TIED CARD OF 'olivettelaw07.TreeChecks'. -/
def treeChecksCard : Claim7 := { stood := { row := treeChecksRow, standIns := [], harness := (true, "fcf653a2639a27ddb2d684f4341519e4aa9a90249a95c770006e804a929d4b54"), looks := false }, kinds := [], alts := [], laidByText := true, laidKinds := [.data, .data], laidTests := true, laidLooks := .later }
def TreeChecksCardSaid : Prop := Claim7.holds Tryd.pinned (.plain (OpenSpec.ofChange treeChecksSpec)) treeChecksCard

/-- THE SECOND FORM's CARD OF 'olivettelaw07.TreeCounts'. -/
def treeCountsUptoCard : Claim7 := { stood := { row := treeCountsUptoRow, standIns := [], harness := (true, "fcf653a2639a27ddb2d684f4341519e4aa9a90249a95c770006e804a929d4b54"), looks := false }, kinds := [], alts := [], laidByText := true, laidKinds := [.data, .data], laidTests := true, laidLooks := .later }
def TreeCountsUptoCardSaid : Prop := Claim7.holds Tryd.pinned (.plain (OpenSpec.upto treeCountsSpec)) treeCountsUptoCard

/-- THE SECOND FORM's CARD OF 'olivettelaw07.TreeLess'. -/
def treeLessUptoCard : Claim7 := { stood := { row := treeLessUptoRow, standIns := [], harness := (true, "fcf653a2639a27ddb2d684f4341519e4aa9a90249a95c770006e804a929d4b54"), looks := false }, kinds := [], alts := [], laidByText := true, laidKinds := [.data, .data], laidTests := true, laidLooks := .later }
def TreeLessUptoCardSaid : Prop := Claim7.holds Tryd.pinned (.plain (OpenSpec.upto treeLessSpec)) treeLessUptoCard

/-- THE SECOND FORM's CARD OF 'olivettelaw07.TreeForests'. -/
def treeForestsUptoCard : Claim7 := { stood := { row := treeForestsUptoRow, standIns := [], harness := (true, "fcf653a2639a27ddb2d684f4341519e4aa9a90249a95c770006e804a929d4b54"), looks := false }, kinds := [], alts := [], laidByText := true, laidKinds := [.data, .data], laidTests := true, laidLooks := .later }
def TreeForestsUptoCardSaid : Prop := Claim7.holds Tryd.pinned (.plain (OpenSpec.upto treeForestsSpec)) treeForestsUptoCard

/-- THE SECOND FORM's CARD OF 'olivettelaw07.TreeContracts'. -/
def treeContractsUptoCard : Claim7 := { stood := { row := treeContractsUptoRow, standIns := [], harness := (true, "fcf653a2639a27ddb2d684f4341519e4aa9a90249a95c770006e804a929d4b54"), looks := false }, kinds := [], alts := [], laidByText := true, laidKinds := [.data, .data], laidTests := true, laidLooks := .later }
def TreeContractsUptoCardSaid : Prop := Claim7.holds Tryd.pinned (.plain (OpenSpec.upto treeContractsSpec)) treeContractsUptoCard

/-- THE SECOND FORM's CARD OF 'olivettelaw07.TreeFits'. -/
def treeFitsUptoCard : Claim7 := { stood := { row := treeFitsUptoRow, standIns := [], harness := (true, "fcf653a2639a27ddb2d684f4341519e4aa9a90249a95c770006e804a929d4b54"), looks := false }, kinds := [], alts := [], laidByText := true, laidKinds := [.data, .data], laidTests := true, laidLooks := .later }
def TreeFitsUptoCardSaid : Prop := Claim7.holds Tryd.pinned (.plain (OpenSpec.upto treeFitsSpec)) treeFitsUptoCard

/-- THE SECOND FORM's CARD OF 'olivettelaw07.TreeOwn'. -/
def treeOwnUptoCard : Claim7 := { stood := { row := treeOwnUptoRow, standIns := [], harness := (true, "fcf653a2639a27ddb2d684f4341519e4aa9a90249a95c770006e804a929d4b54"), looks := false }, kinds := [], alts := [], laidByText := true, laidKinds := [.data, .data], laidTests := true, laidLooks := .later }
def TreeOwnUptoCardSaid : Prop := Claim7.holds Tryd.pinned (.plain (OpenSpec.upto treeOwnSpec)) treeOwnUptoCard

/-- THE SECOND FORM's CARD OF 'olivettelaw07.TreeOrders'. -/
def treeOrdersUptoCard : Claim7 := { stood := { row := treeOrdersUptoRow, standIns := [], harness := (true, "fcf653a2639a27ddb2d684f4341519e4aa9a90249a95c770006e804a929d4b54"), looks := false }, kinds := [], alts := [], laidByText := true, laidKinds := [.data, .data], laidTests := true, laidLooks := .later }
def TreeOrdersUptoCardSaid : Prop := Claim7.holds Tryd.pinned (.plain (OpenSpec.upto treeOrdersSpec)) treeOrdersUptoCard

/-- THE SECOND FORM's CARD OF 'olivettelaw07.TreeBounds'. -/
def treeBoundsUptoCard : Claim7 := { stood := { row := treeBoundsUptoRow, standIns := [], harness := (true, "fcf653a2639a27ddb2d684f4341519e4aa9a90249a95c770006e804a929d4b54"), looks := false }, kinds := [], alts := [], laidByText := true, laidKinds := [.data, .data], laidTests := true, laidLooks := .later }
def TreeBoundsUptoCardSaid : Prop := Claim7.holds Tryd.pinned (.plain (OpenSpec.upto treeBoundsSpec)) treeBoundsUptoCard

/-- THE SECOND FORM's CARD OF 'olivettelaw07.TreeDecomposes'. -/
def treeDecomposesUptoCard : Claim7 := { stood := { row := treeDecomposesUptoRow, standIns := [], harness := (true, "fcf653a2639a27ddb2d684f4341519e4aa9a90249a95c770006e804a929d4b54"), looks := false }, kinds := [], alts := [], laidByText := true, laidKinds := [.data, .data], laidTests := true, laidLooks := .later }
def TreeDecomposesUptoCardSaid : Prop := Claim7.holds Tryd.pinned (.plain (OpenSpec.upto treeDecomposesSpec)) treeDecomposesUptoCard

/-- THE SECOND FORM's CARD OF 'olivettelaw07.TreeChecks'. -/
def treeChecksUptoCard : Claim7 := { stood := { row := treeChecksUptoRow, standIns := [], harness := (true, "fcf653a2639a27ddb2d684f4341519e4aa9a90249a95c770006e804a929d4b54"), looks := false }, kinds := [], alts := [], laidByText := true, laidKinds := [.data, .data], laidTests := true, laidLooks := .later }
def TreeChecksUptoCardSaid : Prop := Claim7.holds Tryd.pinned (.plain (OpenSpec.upto treeChecksSpec)) treeChecksUptoCard
end Rows
end Go.Proofs.YtdnkkflpgebfbaaDoor

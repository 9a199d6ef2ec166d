/-
  DERIVED. GIVEN WITH THE SEED: THE CARDS: each row of YtpbbneclkhfgoaaDoorRows.lean that lists a variable, with what it lists TIED to the program's text (the seventh form; the later family's looks); each row that meets fmt, with fmt's text TOLD by the authors' own Lean function (tested against real Go, not proved from fmt's source: count such statements apart). THE CARD IS WHAT COUNTS. Prove the row's statement (the work); the ties are given (YtpbbneclkhfgoaaDoorTie.lean); close each card by the builder's one call (the guide's Derived/Test/ToyasCard.lean, 'card_holds'). Laid BY PROGRAM, IN A SANDBOX (cutbox-door.mjs). By AI agents, Wed Nov 11 2026. No macro, syntax, notation, axiom, sorry.
-/
import Derived.Test.YtpbbneclkhfgoaaDoorRows
import GoSem.ClaimSeven
namespace Go.Proofs.YtpbbneclkhfgoaaDoor
namespace Rows

/-- THE TIED CARD OF 'olivettelaw06.LtlValues'. -/
def ltlValuesCard : Claim7 := { stood := { row := ltlValuesRow, standIns := [], harness := (true, "e1dc8596d1aeb73e991c1528d6bfbbf109ab0ba5c311fc0110bc0030dd55ce15"), looks := true }, kinds := [], alts := [], laidByText := true, laidKinds := [.widerDeep, .widerDeep, .widerDeep, .mapped], laidTests := true, laidLooks := .later }
def LtlValuesCardSaid : Prop := Claim7.holds Tryd.pinned (.plain (OpenSpec.ofChange ltlValuesSpec)) ltlValuesCard

/-- THE TIED CARD OF 'olivettelaw06.LtlPushes'. -/
def ltlPushesCard : Claim7 := { stood := { row := ltlPushesRow, standIns := [], harness := (true, "e1dc8596d1aeb73e991c1528d6bfbbf109ab0ba5c311fc0110bc0030dd55ce15"), looks := true }, kinds := [], alts := [], laidByText := true, laidKinds := [.widerDeep, .widerDeep, .widerDeep, .mapped], laidTests := true, laidLooks := .later }
def LtlPushesCardSaid : Prop := Claim7.holds Tryd.pinned (.plain (OpenSpec.ofChange ltlPushesSpec)) ltlPushesCard

/-- THE TIED CARD OF 'olivettelaw06.LtlNegates'. -/
def ltlNegatesCard : Claim7 := { stood := { row := ltlNegatesRow, standIns := [], harness := (true, "e1dc8596d1aeb73e991c1528d6bfbbf109ab0ba5c311fc0110bc0030dd55ce15"), looks := true }, kinds := [], alts := [], laidByText := true, laidKinds := [.widerDeep, .widerDeep, .widerDeep, .mapped], laidTests := true, laidLooks := .later }
def LtlNegatesCardSaid : Prop := Claim7.holds Tryd.pinned (.plain (OpenSpec.ofChange ltlNegatesSpec)) ltlNegatesCard

/-- THE TIED CARD OF 'olivettelaw06.LtlOne'. -/
def ltlOneCard : Claim7 := { stood := { row := ltlOneRow, standIns := [], harness := (true, "e1dc8596d1aeb73e991c1528d6bfbbf109ab0ba5c311fc0110bc0030dd55ce15"), looks := true }, kinds := [], alts := [], laidByText := true, laidKinds := [.widerDeep, .widerDeep, .widerDeep, .mapped], laidTests := true, laidLooks := .later }
def LtlOneCardSaid : Prop := Claim7.holds Tryd.pinned (.plain (OpenSpec.ofChange ltlOneSpec)) ltlOneCard

/-- THE TIED CARD OF 'olivettelaw06.LtlTurns'. -/
def ltlTurnsCard : Claim7 := { stood := { row := ltlTurnsRow, standIns := [], harness := (true, "e1dc8596d1aeb73e991c1528d6bfbbf109ab0ba5c311fc0110bc0030dd55ce15"), looks := true }, kinds := [], alts := [], laidByText := true, laidKinds := [.widerDeep, .widerDeep, .widerDeep, .mapped], laidTests := true, laidLooks := .later }
def LtlTurnsCardSaid : Prop := Claim7.holds Tryd.pinned (.plain (OpenSpec.ofChange ltlTurnsSpec)) ltlTurnsCard

/-- THE TIED CARD OF 'olivettelaw06.LtlOwn'. -/
def ltlOwnCard : Claim7 := { stood := { row := ltlOwnRow, standIns := [], harness := (true, "e1dc8596d1aeb73e991c1528d6bfbbf109ab0ba5c311fc0110bc0030dd55ce15"), looks := true }, kinds := [], alts := [], laidByText := true, laidKinds := [.widerDeep, .widerDeep, .widerDeep, .mapped], laidTests := true, laidLooks := .later }
def LtlOwnCardSaid : Prop := Claim7.holds Tryd.pinned (.plain (OpenSpec.ofChange ltlOwnSpec)) ltlOwnCard

/-- THE TIED CARD OF 'olivettelaw06.LtlSame'. -/
def ltlSameCard : Claim7 := { stood := { row := ltlSameRow, standIns := [], harness := (true, "e1dc8596d1aeb73e991c1528d6bfbbf109ab0ba5c311fc0110bc0030dd55ce15"), looks := true }, kinds := [], alts := [], laidByText := true, laidKinds := [.widerDeep, .widerDeep, .widerDeep, .mapped], laidTests := true, laidLooks := .later }
def LtlSameCardSaid : Prop := Claim7.holds Tryd.pinned (.plain (OpenSpec.ofChange ltlSameSpec)) ltlSameCard

/-- THE TIED CARD OF 'olivettelaw06.LtlLaws'. -/
def ltlLawsCard : Claim7 := { stood := { row := ltlLawsRow, standIns := [], harness := (true, "e1dc8596d1aeb73e991c1528d6bfbbf109ab0ba5c311fc0110bc0030dd55ce15"), looks := true }, kinds := [], alts := [], laidByText := true, laidKinds := [.widerDeep, .widerDeep, .widerDeep, .mapped], laidTests := true, laidLooks := .later }
def LtlLawsCardSaid : Prop := Claim7.holds Tryd.pinned (.plain (OpenSpec.ofChange ltlLawsSpec)) ltlLawsCard

/-- THE TIED CARD OF 'olivettelaw06.LtlSymmetric'. -/
def ltlSymmetricCard : Claim7 := { stood := { row := ltlSymmetricRow, standIns := [], harness := (true, "e1dc8596d1aeb73e991c1528d6bfbbf109ab0ba5c311fc0110bc0030dd55ce15"), looks := true }, kinds := [], alts := [], laidByText := true, laidKinds := [.widerDeep, .widerDeep, .widerDeep, .mapped], laidTests := true, laidLooks := .later }
def LtlSymmetricCardSaid : Prop := Claim7.holds Tryd.pinned (.plain (OpenSpec.ofChange ltlSymmetricSpec)) ltlSymmetricCard

/-- THE TIED CARD OF 'olivettelaw06.LtlHolds'. -/
def ltlHoldsCard : Claim7 := { stood := { row := ltlHoldsRow, standIns := [], harness := (true, "e1dc8596d1aeb73e991c1528d6bfbbf109ab0ba5c311fc0110bc0030dd55ce15"), looks := true }, kinds := [], alts := [], laidByText := true, laidKinds := [.widerDeep, .widerDeep, .widerDeep, .mapped], laidTests := true, laidLooks := .later }
def LtlHoldsCardSaid : Prop := Claim7.holds Tryd.pinned (.plain (OpenSpec.ofChange ltlHoldsSpec)) ltlHoldsCard

/-- THE TIED CARD OF 'olivettelaw06.LtlChecks'. -/
def ltlChecksCard : Claim7 := { stood := { row := ltlChecksRow, standIns := [], harness := (true, "e1dc8596d1aeb73e991c1528d6bfbbf109ab0ba5c311fc0110bc0030dd55ce15"), looks := true }, kinds := [], alts := [], laidByText := true, laidKinds := [.widerDeep, .widerDeep, .widerDeep, .mapped], laidTests := true, laidLooks := .later }
def LtlChecksCardSaid : Prop := Claim7.holds Tryd.pinned (.plain (OpenSpec.ofChange ltlChecksSpec)) ltlChecksCard

/-- THE TIED CARD OF 'olivettelaw06.LtlLess'. -/
def ltlLessCard : Claim7 := { stood := { row := ltlLessRow, standIns := [], harness := (true, "e1dc8596d1aeb73e991c1528d6bfbbf109ab0ba5c311fc0110bc0030dd55ce15"), looks := true }, kinds := [], alts := [], laidByText := true, laidKinds := [.widerDeep, .widerDeep, .widerDeep, .mapped], laidTests := true, laidLooks := .later }
def LtlLessCardSaid : Prop := Claim7.holds Tryd.pinned (.plain (OpenSpec.ofChange ltlLessSpec)) ltlLessCard

/-- THE SECOND FORM's CARD OF 'olivettelaw06.LtlValues'. -/
def ltlValuesUptoCard : Claim7 := { stood := { row := ltlValuesUptoRow, standIns := [], harness := (true, "e1dc8596d1aeb73e991c1528d6bfbbf109ab0ba5c311fc0110bc0030dd55ce15"), looks := true }, kinds := [], alts := [], laidByText := true, laidKinds := [.widerDeep, .widerDeep, .widerDeep, .mapped], laidTests := true, laidLooks := .later }
def LtlValuesUptoCardSaid : Prop := Claim7.holds Tryd.pinned (.plain (OpenSpec.upto ltlValuesSpec)) ltlValuesUptoCard

/-- THE SECOND FORM's CARD OF 'olivettelaw06.LtlPushes'. -/
def ltlPushesUptoCard : Claim7 := { stood := { row := ltlPushesUptoRow, standIns := [], harness := (true, "e1dc8596d1aeb73e991c1528d6bfbbf109ab0ba5c311fc0110bc0030dd55ce15"), looks := true }, kinds := [], alts := [], laidByText := true, laidKinds := [.widerDeep, .widerDeep, .widerDeep, .mapped], laidTests := true, laidLooks := .later }
def LtlPushesUptoCardSaid : Prop := Claim7.holds Tryd.pinned (.plain (OpenSpec.upto ltlPushesSpec)) ltlPushesUptoCard

/-- THE SECOND FORM's CARD OF 'olivettelaw06.LtlNegates'. -/
def ltlNegatesUptoCard : Claim7 := { stood := { row := ltlNegatesUptoRow, standIns := [], harness := (true, "e1dc8596d1aeb73e991c1528d6bfbbf109ab0ba5c311fc0110bc0030dd55ce15"), looks := true }, kinds := [], alts := [], laidByText := true, laidKinds := [.widerDeep, .widerDeep, .widerDeep, .mapped], laidTests := true, laidLooks := .later }
def LtlNegatesUptoCardSaid : Prop := Claim7.holds Tryd.pinned (.plain (OpenSpec.upto ltlNegatesSpec)) ltlNegatesUptoCard

/-- THE SECOND FORM's CARD OF 'olivettelaw06.LtlOne'. -/
def ltlOneUptoCard : Claim7 := { stood := { row := ltlOneUptoRow, standIns := [], harness := (true, "e1dc8596d1aeb73e991c1528d6bfbbf109ab0ba5c311fc0110bc0030dd55ce15"), looks := true }, kinds := [], alts := [], laidByText := true, laidKinds := [.widerDeep, .widerDeep, .widerDeep, .mapped], laidTests := true, laidLooks := .later }
def LtlOneUptoCardSaid : Prop := Claim7.holds Tryd.pinned (.plain (OpenSpec.upto ltlOneSpec)) ltlOneUptoCard

/-- THE SECOND FORM's CARD OF 'olivettelaw06.LtlTurns'. -/
def ltlTurnsUptoCard : Claim7 := { stood := { row := ltlTurnsUptoRow, standIns := [], harness := (true, "e1dc8596d1aeb73e991c1528d6bfbbf109ab0ba5c311fc0110bc0030dd55ce15"), looks := true }, kinds := [], alts := [], laidByText := true, laidKinds := [.widerDeep, .widerDeep, .widerDeep, .mapped], laidTests := true, laidLooks := .later }
def LtlTurnsUptoCardSaid : Prop := Claim7.holds Tryd.pinned (.plain (OpenSpec.upto ltlTurnsSpec)) ltlTurnsUptoCard

/-- THE SECOND FORM's CARD OF 'olivettelaw06.LtlOwn'. -/
def ltlOwnUptoCard : Claim7 := { stood := { row := ltlOwnUptoRow, standIns := [], harness := (true, "e1dc8596d1aeb73e991c1528d6bfbbf109ab0ba5c311fc0110bc0030dd55ce15"), looks := true }, kinds := [], alts := [], laidByText := true, laidKinds := [.widerDeep, .widerDeep, .widerDeep, .mapped], laidTests := true, laidLooks := .later }
def LtlOwnUptoCardSaid : Prop := Claim7.holds Tryd.pinned (.plain (OpenSpec.upto ltlOwnSpec)) ltlOwnUptoCard

/-- THE SECOND FORM's CARD OF 'olivettelaw06.LtlSame'. -/
def ltlSameUptoCard : Claim7 := { stood := { row := ltlSameUptoRow, standIns := [], harness := (true, "e1dc8596d1aeb73e991c1528d6bfbbf109ab0ba5c311fc0110bc0030dd55ce15"), looks := true }, kinds := [], alts := [], laidByText := true, laidKinds := [.widerDeep, .widerDeep, .widerDeep, .mapped], laidTests := true, laidLooks := .later }
def LtlSameUptoCardSaid : Prop := Claim7.holds Tryd.pinned (.plain (OpenSpec.upto ltlSameSpec)) ltlSameUptoCard

/-- THE SECOND FORM's CARD OF 'olivettelaw06.LtlLaws'. -/
def ltlLawsUptoCard : Claim7 := { stood := { row := ltlLawsUptoRow, standIns := [], harness := (true, "e1dc8596d1aeb73e991c1528d6bfbbf109ab0ba5c311fc0110bc0030dd55ce15"), looks := true }, kinds := [], alts := [], laidByText := true, laidKinds := [.widerDeep, .widerDeep, .widerDeep, .mapped], laidTests := true, laidLooks := .later }
def LtlLawsUptoCardSaid : Prop := Claim7.holds Tryd.pinned (.plain (OpenSpec.upto ltlLawsSpec)) ltlLawsUptoCard

/-- THE SECOND FORM's CARD OF 'olivettelaw06.LtlSymmetric'. -/
def ltlSymmetricUptoCard : Claim7 := { stood := { row := ltlSymmetricUptoRow, standIns := [], harness := (true, "e1dc8596d1aeb73e991c1528d6bfbbf109ab0ba5c311fc0110bc0030dd55ce15"), looks := true }, kinds := [], alts := [], laidByText := true, laidKinds := [.widerDeep, .widerDeep, .widerDeep, .mapped], laidTests := true, laidLooks := .later }
def LtlSymmetricUptoCardSaid : Prop := Claim7.holds Tryd.pinned (.plain (OpenSpec.upto ltlSymmetricSpec)) ltlSymmetricUptoCard

/-- THE SECOND FORM's CARD OF 'olivettelaw06.LtlHolds'. -/
def ltlHoldsUptoCard : Claim7 := { stood := { row := ltlHoldsUptoRow, standIns := [], harness := (true, "e1dc8596d1aeb73e991c1528d6bfbbf109ab0ba5c311fc0110bc0030dd55ce15"), looks := true }, kinds := [], alts := [], laidByText := true, laidKinds := [.widerDeep, .widerDeep, .widerDeep, .mapped], laidTests := true, laidLooks := .later }
def LtlHoldsUptoCardSaid : Prop := Claim7.holds Tryd.pinned (.plain (OpenSpec.upto ltlHoldsSpec)) ltlHoldsUptoCard

/-- THE SECOND FORM's CARD OF 'olivettelaw06.LtlChecks'. -/
def ltlChecksUptoCard : Claim7 := { stood := { row := ltlChecksUptoRow, standIns := [], harness := (true, "e1dc8596d1aeb73e991c1528d6bfbbf109ab0ba5c311fc0110bc0030dd55ce15"), looks := true }, kinds := [], alts := [], laidByText := true, laidKinds := [.widerDeep, .widerDeep, .widerDeep, .mapped], laidTests := true, laidLooks := .later }
def LtlChecksUptoCardSaid : Prop := Claim7.holds Tryd.pinned (.plain (OpenSpec.upto ltlChecksSpec)) ltlChecksUptoCard

/-- THE SECOND FORM's CARD OF 'olivettelaw06.LtlLess'. -/
def ltlLessUptoCard : Claim7 := { stood := { row := ltlLessUptoRow, standIns := [], harness := (true, "e1dc8596d1aeb73e991c1528d6bfbbf109ab0ba5c311fc0110bc0030dd55ce15"), looks := true }, kinds := [], alts := [], laidByText := true, laidKinds := [.widerDeep, .widerDeep, .widerDeep, .mapped], laidTests := true, laidLooks := .later }
def LtlLessUptoCardSaid : Prop := Claim7.holds Tryd.pinned (.plain (OpenSpec.upto ltlLessSpec)) ltlLessUptoCard
end Rows
end Go.Proofs.YtpbbneclkhfgoaaDoor

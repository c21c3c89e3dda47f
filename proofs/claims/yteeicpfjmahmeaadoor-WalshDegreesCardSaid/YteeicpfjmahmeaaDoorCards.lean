/-
  DERIVED. GIVEN WITH THE SEED: THE CARDS: each row of YteeicpfjmahmeaaDoorRows.lean that lists a variable, with what it lists TIED to the program's text (the seventh form; the later family's looks); each row that meets fmt, with fmt's text TOLD by the authors' own Lean function (tested against real Go, not proved from fmt's source: count such statements apart). THE CARD IS WHAT COUNTS. Prove the row's statement (the work); the ties are given (YteeicpfjmahmeaaDoorTie.lean); close each card by the builder's one call (the guide's Derived/Test/ToyasCard.lean, 'card_holds'). Laid BY PROGRAM, IN A SANDBOX (cutbox-door.mjs). By AI agents, Wed Nov 11 2026. No macro, syntax, notation, axiom, sorry.
-/
import Derived.Test.YteeicpfjmahmeaaDoorRows
import GoSem.ClaimSeven
namespace Go.Proofs.YteeicpfjmahmeaaDoor
namespace Rows

/-- THE TIED CARD OF 'lockwrightlaw.WalshDegrees'. -/
def walshDegreesCard : Claim7 := { stood := { row := walshDegreesRow, standIns := [], harness := (true, "ea9807ec1bc3645a218cb983a6923804967ec4c076cbfc69dd96a1b637e25241"), looks := false }, kinds := [], alts := [], laidByText := true, laidKinds := [.data], laidTests := true, laidLooks := .later }
def WalshDegreesCardSaid : Prop := Claim7.holds Tryd.pinned (.plain (OpenSpec.ofChange walshDegreesSpec)) walshDegreesCard

/-- THE SECOND FORM's CARD OF 'lockwrightlaw.WalshDegrees'. -/
def walshDegreesUptoCard : Claim7 := { stood := { row := walshDegreesUptoRow, standIns := [], harness := (true, "ea9807ec1bc3645a218cb983a6923804967ec4c076cbfc69dd96a1b637e25241"), looks := false }, kinds := [], alts := [], laidByText := true, laidKinds := [.data], laidTests := true, laidLooks := .later }
def WalshDegreesUptoCardSaid : Prop := Claim7.holds Tryd.pinned (.plain (OpenSpec.upto walshDegreesSpec)) walshDegreesUptoCard
end Rows
end Go.Proofs.YteeicpfjmahmeaaDoor

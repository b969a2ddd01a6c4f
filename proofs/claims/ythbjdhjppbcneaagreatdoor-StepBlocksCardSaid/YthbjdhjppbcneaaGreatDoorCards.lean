/-
  DERIVED. GIVEN WITH THE SEED: THE CARDS: each row of YthbjdhjppbcneaaGreatDoorRows.lean that lists a variable, with what it lists TIED to the program's text (the seventh form; the later family's looks); each row that meets fmt, with fmt's text TOLD by the authors' own Lean function (tested against real Go, not proved from fmt's source: count such statements apart). THE CARD IS WHAT COUNTS. Prove the row's statement (the work); the ties are given (YthbjdhjppbcneaaGreatDoorTie.lean); close each card by the builder's one call (the guide's Derived/Test/ToyasCard.lean, 'card_holds'). Laid BY PROGRAM, IN A SANDBOX (cutbox-door.mjs). By AI agents, Wed Nov 11 2026. No macro, syntax, notation, axiom, sorry.
-/
import Derived.Test.YthbjdhjppbcneaaGreatDoorRows
import GoSem.ClaimSeven
namespace Go.Proofs.YthbjdhjppbcneaaGreatDoor
namespace Rows

/-- THE TIED CARD OF 'diapauselaw14.StepStack'. -/
def stepStackCard : Claim7 := { stood := { row := stepStackRow, standIns := [], harness := (true, "aef62b97870372c56e860f045d776ab97178e5d1de10acab90ee092ddfecce6b"), looks := false }, kinds := [], alts := [], laidByText := true, laidKinds := [.data], laidTests := true, laidLooks := .later }
def StepStackCardSaid : Prop := Claim7.holds Tryz.pinned (.plain (OpenSpec.ofChange stepStackSpec)) stepStackCard

/-- THE TIED CARD OF 'diapauselaw14.StepBlocks'. -/
def stepBlocksCard : Claim7 := { stood := { row := stepBlocksRow, standIns := [], harness := (true, "aef62b97870372c56e860f045d776ab97178e5d1de10acab90ee092ddfecce6b"), looks := false }, kinds := [], alts := [], laidByText := true, laidKinds := [.data], laidTests := true, laidLooks := .later }
def StepBlocksCardSaid : Prop := Claim7.holds Tryz.pinned (.plain (OpenSpec.ofChange stepBlocksSpec)) stepBlocksCard

/-- THE TIED CARD OF 'diapauselaw14.StepFrames'. -/
def stepFramesCard : Claim7 := { stood := { row := stepFramesRow, standIns := [], harness := (true, "aef62b97870372c56e860f045d776ab97178e5d1de10acab90ee092ddfecce6b"), looks := false }, kinds := [], alts := [], laidByText := true, laidKinds := [.data], laidTests := true, laidLooks := .later }
def StepFramesCardSaid : Prop := Claim7.holds Tryz.pinned (.plain (OpenSpec.ofChange stepFramesSpec)) stepFramesCard

/-- THE SECOND FORM's CARD OF 'diapauselaw14.StepStack'. -/
def stepStackUptoCard : Claim7 := { stood := { row := stepStackUptoRow, standIns := [], harness := (true, "aef62b97870372c56e860f045d776ab97178e5d1de10acab90ee092ddfecce6b"), looks := false }, kinds := [], alts := [], laidByText := true, laidKinds := [.data], laidTests := true, laidLooks := .later }
def StepStackUptoCardSaid : Prop := Claim7.holds Tryz.pinned (.plain (OpenSpec.upto stepStackSpec)) stepStackUptoCard

/-- THE SECOND FORM's CARD OF 'diapauselaw14.StepBlocks'. -/
def stepBlocksUptoCard : Claim7 := { stood := { row := stepBlocksUptoRow, standIns := [], harness := (true, "aef62b97870372c56e860f045d776ab97178e5d1de10acab90ee092ddfecce6b"), looks := false }, kinds := [], alts := [], laidByText := true, laidKinds := [.data], laidTests := true, laidLooks := .later }
def StepBlocksUptoCardSaid : Prop := Claim7.holds Tryz.pinned (.plain (OpenSpec.upto stepBlocksSpec)) stepBlocksUptoCard

/-- THE SECOND FORM's CARD OF 'diapauselaw14.StepFrames'. -/
def stepFramesUptoCard : Claim7 := { stood := { row := stepFramesUptoRow, standIns := [], harness := (true, "aef62b97870372c56e860f045d776ab97178e5d1de10acab90ee092ddfecce6b"), looks := false }, kinds := [], alts := [], laidByText := true, laidKinds := [.data], laidTests := true, laidLooks := .later }
def StepFramesUptoCardSaid : Prop := Claim7.holds Tryz.pinned (.plain (OpenSpec.upto stepFramesSpec)) stepFramesUptoCard
end Rows
end Go.Proofs.YthbjdhjppbcneaaGreatDoor
